/- 4: a part of this claim's texts, joined: W7 MemA MemB W8 DiskA DiskB DiskC DiskD DiskE. -/
import Derived.Test.YtdakncgafdnjfaaGreatPk3
import Derived.RecoverIn
import Derived.OpenShut
import Derived.Lib.AppendZerosOnto
import Derived.Lib.Overlaps
namespace Go.Wk
open Go
def RetP (P:Program) (f:Nat) (args:List Value) (w:World) (M:Nat→Prop) (R:Value→World→Prop) (X:List PanicEntry→World→Prop):Prop:=
 Calls P f args.toArray w fun e w'=>(∃ v,e=.returned v∧Agree M w w'∧R v w')∨∃ ch,e=.panicked ch∧Agree M w w'∧X ch w'
def pch (v:Value):List PanicEntry:=[{ v:=v,recovered:=false }]
section
variable {P:Program} {r:Option Nat} {ops:Array Oper} {Q:Exit→Act→World→Prop} {w0:World} {M0:Nat→Prop} {ds:List Deferred} {a:Act} {w:World} {l l':List Value} {bs bs':List Item} {fs:List (World→Prop)}
 {d:Option Nat} {op:Op} {ty:TypeId} {pos:String} {af:Array Edge} {rest:List Oper} {v v' G:Value} {f:Nat} {x:Operand} {xs:List Operand} {args:List Value} {ts:Array TypeId} {j g:Nat} {pol:Bool} {cs:List Bool}
theorem cv_anyP [EntF P f] [CallTo ⟨[],l⟩ x xs f args] (S:St w0 M0 ds a w l bs fs) {R:Ending→World→Prop} (hc:Calls P f args.toArray w R)
  (K:∀ e w',R e w'→(∃ v,e=.returned v∧WL P r ops Q rest (a.put d v) w')∨∃ ch,e=.panicked ch∧Q (.panic ch) a w') :
  WL P r ops Q (⟨d,.call { callee:=.value x,args:=xs.toArray,argTypes:=ts },ty,pos,af,none⟩::rest) a w:=by
 refine wl_plain rfl ?_
 rw[semAt_nd rfl]
 simp only[run_callto (f:=f) (args:=args) S.fr,Oper.uponIn]
 refine ⟨fun h=>(by cases h),trivial,fun cs _=>?_⟩
 obtain ⟨e,w',fr,hR,hcm,h1,h2⟩:=hc cs
 rcases K e w' hR with ⟨v,rfl,hk⟩ | ⟨ch,rfl,hk⟩
 exact ⟨.returned v,w',fr,hk,(comesIn_wide (m:=lone (Frame.enter P f args.toArray .normal) cs w) (e:=.returned v)).2 hcm,h1,h2⟩
 exact ⟨.panicked ch,w',fr,hk,(comesIn_wide (m:=lone (Frame.enter P f args.toArray .normal) cs w) (e:=.panicked ch)).2 hcm,h1,h2⟩
theorem srP {l':Value→List Value} [EntF P f] [CallTo ⟨[],l⟩ x xs f args] [hp:∀ v,PutO l d v (l' v)] (S:St w0 M0 ds a w l bs fs) {R:Value→World→Prop} {X:List PanicEntry→World→Prop} (hc:RetP P f args w (fun _=>False) R X)
  (Kp:∀ ch w',X ch w'→St w0 M0 ds a w' l bs fs→Q (.panic ch) a w')
  (K:∀ v a w',R v w'→St w0 M0 ds a w' (l' v) bs fs→WL P r ops Q rest a w') :
  WL P r ops Q (⟨d,.call { callee:=.value x,args:=xs.toArray,argTypes:=ts },ty,pos,af,none⟩::rest) a w:=by
 refine cv_anyP S hc ?_
 rintro e w' (⟨v,rfl,ha,hR⟩ | ⟨ch,rfl,ha,hX⟩)
 have:=hp v
 have S':=S.put (d:=d) (v:=v)
 exact .inl ⟨v,rfl,K v _ w' hR ⟨S'.slots,S'.defers,S'.wd.step ha⟩⟩
 exact .inr ⟨ch,rfl,Kp ch w' hX ⟨S.slots,S.defers,S.wd.step ha⟩⟩
theorem sPan {tp:TypeId} [hx:Ev ⟨[],l⟩ x (.iface tp v)] (S:St w0 M0 ds a w l bs fs) (h:St w0 M0 ds a w l bs fs→Q (.panic (pch (.iface tp v))) a w):WL P r ops Q (⟨d,.panic x,ty,pos,af,none⟩::rest) a w:=by
 refine wl_plain rfl ?_
 rw[semAt_nd rfl]
 have hf:a.eval x=.iface tp v:=S.fr.ev
 have:(xop a.eval (.panic x) ty).run P w=.halt (.panic (.iface tp v)) w:=by
  simp[xop,execOp,hf,Instr.panic,goPanic,Sem.run]
 rw[this]
 exact h S
variable {fn:Func} {R:Value→World→Prop} {X:List PanicEntry→World→Prop} {e:Exit}
theorem endP (h:bodyPost P fn (fun e w'=>∃ v,e=.returned v∧Agree M0 w0 w'∧R v w') e a w) :
  bodyPost P fn (fun e w'=>(∃ v,e=.returned v∧Agree M0 w0 w'∧R v w')∨∃ ch,e=.panicked ch∧Agree M0 w0 w'∧X ch w') e a w:=by
 cases e <;> simp only[bodyPost]at h⊢<;> first | exact h | skip
 exact ⟨h.1,h.2.choose,h.2.choose_spec.1,.inl h.2.choose_spec.2⟩
 exact ⟨h.1,h.2.choose,h.2.choose_spec.1,.inl h.2.choose_spec.2⟩
 exact ⟨h.1,.inl h.2⟩
 exact .inl h
theorem endX {ch:List PanicEntry} (S:St w0 M0 [] a w l bs fs) (h:X ch w) :
  bodyPost P fn (fun e w'=>(∃ v,e=.returned v∧Agree M0 w0 w'∧R v w')∨∃ ch,e=.panicked ch∧Agree M0 w0 w'∧X ch w') (.panic ch) a w:=
 ⟨S.defers,.inr ⟨ch,rfl,S.wd.agree,h⟩⟩
theorem enterD {f:Nat} {fn:Func} {c:Code} {args:List Value} {l:List Value} {R:Ending→World→Prop} {M0:Nat→Prop} {bs:List Item} {fs:List (World→Prop)}
  (hf:P.funcs[f]? = some fn) (hb:fn.body=some c) (hl:args++List.replicate (fn.ntmps - args.length) undef=l) (hw:Wd w M0 w bs fs)
  (h:∀ a,St w M0 [] a w l bs fs→Wp P none c (bodyPostDIn (FW none) 0 P fn R) a w):Calls P f args.toArray w R:=by
 refine (callsIn_wide (n:=0)).1 (callsIn_of_wp_defers (F:=FW none) (n:=0) hf hb trivial (h _ ⟨?_,rfl,hw⟩))
 simp[←hl]
theorem sdef {fi ca:List Value} {l':List Value} [hx:Ev ⟨[],l⟩ x (.func (.func f) ⟨fi⟩ ⟨ca⟩)] [hp:PutO l d undef l'] (S:St w0 M0 ds a w l bs fs)
  (K:∀ a,St w0 M0 ({ target:=.fn (.func f) ⟨ca⟩,args:=⟨fi⟩ }::ds) a w l' bs fs→WL P none ops Q rest a w) :
  WL P none ops Q (⟨d,.defer { callee:=.value x,args:=#[],argTypes:=ts },ty,pos,af,none⟩::rest) a w:=by
 refine wl_plain rfl ?_
 have hf:a.eval x=.func (.func f) ⟨fi⟩ ⟨ca⟩:=S.fr.ev
 rw[Oper.semAt_none]
 have:(execOp a.eval ⟨d,.defer { callee:=.value x,args:=#[],argTypes:=ts },ty,pos,af,none⟩).run P w=.ok (.defer { target:=.fn (.func f) ⟨ca⟩,args:=⟨fi⟩ }) w:=by
  simp[execOp,resolve,hf,Deferred.ofValue]
 rw[this]
 obtain ⟨t,dd⟩:=a
 have:=S.slots;simp at this;subst this
 have hd:=S.defers;simp at hd;subst hd
 show WL P none ops Q rest _ w
 rw[hp.eq]
 exact K _ ⟨rfl,rfl,S.wd⟩
theorem leaveRet {g:Nat} {ca:List Value} {K:World→Prop} {Rr:Ending→World→Prop} [he:EntF P g] (hd:a.defers=[{ target:=.fn (.func g) ⟨ca⟩,args:=#[] }])
  (hc:CallsDIn (FW none) 0 P g ca.toArray .returning w fun e u' w'=>(∃ v,e=.returned v)∧u'=.returning∧K w')
  (hk:∀ w',K w'→∃ v,(results fn a.tmps).run P w'=.ok v w'∧Rr (.returned v) w') (hx:e=.ret∨e=.normal:=by simp):bodyPostDIn (FW none) 0 P fn Rr e a w:=by
 have key:LeavesIn (FW none) 0 P fn a.tmps Rr a.defers .returning w:=by
  rw[hd]
  refine leavesIn_cons (f:=g) (args:=ca.toArray) (by simp) (fun h=>by cases h) ?_ (fun _ _=>trivial) (hc.mono ?_)
  have:=he.run ca.toArray w
  simpa [invoke] using this
  rintro e u' w' ⟨⟨v,rfl⟩,rfl,hK⟩
  obtain ⟨v,h1,h2⟩:=hk w' hK
  exact ⟨v,h1,h2⟩
 rcases hx with rfl | rfl <;> exact key
theorem leavePan {g:Nat} {ca:List Value} {pv:Value} {K:World→Prop} {Rr:Ending→World→Prop} [he:EntF P g] (hd:a.defers=[{ target:=.fn (.func g) ⟨ca⟩,args:=#[] }])
  (hc:CallsDIn (FW none) 0 P g ca.toArray (.panicking (pch pv)) w fun e u' w'=>(∃ v,e=.returned v)∧u'=.panicking [{ v:=pv,recovered:=true }]∧K w')
  (hk:∀ w',K w'→∃ v,(results fn a.tmps).run P w'=.ok v w'∧Rr (.returned v) w'):bodyPostDIn (FW none) 0 P fn Rr (.panic (pch pv)) a w:=by
 show LeavesIn (FW none) 0 P fn a.tmps Rr a.defers (.panicking (pch pv)) w
 rw[hd]
 refine leavesIn_cons (f:=g) (args:=ca.toArray) (by simp) (fun h=>by cases h) ?_ (fun _ _=>trivial) (hc.mono ?_)
 have:=he.run ca.toArray w
 simpa [invoke] using this
 rintro e u' w' ⟨⟨v,rfl⟩,rfl,hK⟩
 obtain ⟨v,h1,h2⟩:=hk w' hK
 exact ⟨v,h1,h2⟩
theorem callsD_catch {f:Nat} {fn:Func} {rest:Code} {id t6 t3:Nat} {ty0 ty1:TypeId} {pos0 pos1:String} {af0 af1:Array Edge} {args l:List Value} {l1 l2:Value→List Value} {u:FrameMode} {w0:World} {M0:Nat→Prop} {bs:List Item} {fs:List (World→Prop)} {Rr:Ending→FrameMode→World→Prop}
  (hf:P.funcs[f]? = some fn) (hb:fn.body=some (.seq (.region id #[⟨some t6,.call { callee:=.builtin .recover,args:=#[],argTypes:=#[] },ty0,pos0,af0,none⟩,⟨some t3,.assign (.tmp t6),ty1,pos1,af1,none⟩] false) rest))
  (hl:args++List.replicate (fn.ntmps - args.length) undef=l) (hw:Wd w0 M0 w bs fs) [hp1:∀ x,PutAt l t6 x (l1 x)] [hn1:∀ x,Nth (l1 x) t6 x] [hp2:∀ x,PutAt (l1 x) t3 x (l2 x)]
  (hu:u=.returning∨∃ pv,u=.panicking (pch pv))
  (h:∀ (x:Value) (u':FrameMode),(u=.returning∧x=.nilIface∧u'=u∨∃ pv,u=.panicking (pch pv)∧x=pv∧u'=.panicking [{ v:=pv,recovered:=true }])→
   ∀ a,St w0 M0 [] a w (l2 x) bs fs→Wp P none rest (fun e a' w'=>(e=.normal∨e=.ret)∧a'.defers=[]∧∃ v,(results fn a'.tmps).run P w'=.ok v w'∧Rr (.returned v) u' w') a w) :
  CallsDIn (FW none) 0 P f args.toArray u w Rr:=by
 have main:∀ (c₀:Frame) (cs:List Frame) (x:Value) (u':FrameMode),c₀.mode=u→
   (u=.returning∧x=.nilIface∧u'=u∨∃ pv,u=.panicking (pch pv)∧x=pv∧u'=.panicking [{ v:=pv,recovered:=true }])→
   rest.wpSIn (FW none) 0 P (bodyPostS P fn c₀ cs Rr) ⟨(l2 x).toArray,[]⟩ ({ c₀ with mode:=u' }::cs) w:=by
  intro c₀ cs x u' _ hx
  refine wpSIn_of_wpIn rfl (wpIn_mono (h x u' hx ⟨(l2 x).toArray,[]⟩ ⟨rfl,rfl,hw⟩) fun e a' w' hq=>?_)
  obtain ⟨he,hd,v,h1,h2⟩:=hq
  rcases he with rfl | rfl <;> exact ⟨hd,u',rfl,v,h1,h2⟩
 refine callsDIn_of_wpSIn hf hb trivial fun c₀ cs hc₀=>wpSIn_seq (wpSIn_region ?_)
 have hl':args.toArray++Array.replicate (fn.ntmps - args.toArray.size) undef=l.toArray:=by rw[←hl];simp
 rw[hl']
 have step:∀ x,((⟨l.toArray,[]⟩:Act).put (some t6) x).put (some t3) (((⟨l.toArray,[]⟩:Act).put (some t6) x).eval (.tmp t6))=⟨(l2 x).toArray,[]⟩:=fun x=>by
  have e1:(⟨l.toArray,[]⟩:Act).put (some t6) x=⟨(l1 x).toArray,[]⟩:=(puto1 (l:=l) (l':=l1 x) (v:=x) (n:=t6)).eq []
  have e2:(⟨(l1 x).toArray,[]⟩:Act).eval (.tmp t6)=x:=by
   have:=(hn1 x).eq
   simp[Act.eval,Array.getD_eq_getD_getElem?,this]
  rw[e1,e2]
  exact (puto1 (l:=l1 x) (l':=l2 x) (v:=x) (n:=t3)).eq []
 have hr0:∀ (a:Act),(execOp a.eval ⟨some t6,.call { callee:=.builtin .recover,args:=#[],argTypes:=#[] },ty0,pos0,af0,none⟩).run P w=.ok .recover w:=fun a=>by
  simp[execOp,resolve,invoke,builtin]
 have hr1:∀ (a:Act),(execOp a.eval ⟨some t3,.assign (.tmp t6),ty1,pos1,af1,none⟩).run P w=.ok (.value (a.eval (.tmp t6))) w:=fun a=>by
  simp[execOp]
 have hcs:({ c₀ with mode:=u } : Frame)=c₀:=by subst hc₀;rfl
 rw[show List.range (#[(⟨some t6,.call { callee:=.builtin .recover,args:=#[],argTypes:=#[] },ty0,pos0,af0,none⟩:Oper),⟨some t3,.assign (.tmp t6),ty1,pos1,af1,none⟩]:Array Oper).size=[0,1] from rfl]
 simp only[wpOpsSIn,List.getElem?_toArray,List.getElem?_cons_zero,List.getElem?_cons_succ,hr0,hr1]
 refine ⟨fun _ _=>trivial,?_⟩
 rw[if_pos (by rfl)]
 rcases hu with rfl | ⟨pv,rfl⟩
 have:recoverD (c₀::cs)=none:=by simp[recoverD,hc₀]
 rw[this]
 refine ⟨fun _ _=>trivial,?_⟩
 rw[if_pos (by rfl)]
 have hm:=main c₀ cs .nilIface .returning hc₀ (.inl ⟨rfl,rfl,rfl⟩)
 rw[hcs]at hm
 rw[←step]at hm
 exact hm
 have:recoverD (c₀::cs)=some (pv,{ c₀ with mode:=.panicking [{ v:=pv,recovered:=true }] }::cs):=by simp[recoverD,hc₀,pch]
 rw[this]
 refine ⟨fun _ _=>trivial,?_⟩
 rw[if_pos (by rfl)]
 have hm:=main c₀ cs pv _ hc₀ (.inr ⟨pv,rfl,rfl,rfl⟩)
 rw[←step]at hm
 exact hm
end
theorem resC {P:Program} {fn:Func} {w0:World} {M0:Nat→Prop} {a:Act} {w:World} {l:List Value} {bs:List Item} {fs:List (World→Prop)} [hr:FnRes fn []] (S:St w0 M0 [] a w l bs fs):(results fn a.tmps).run P w=.ok (.tuple #[]) w:=by
 rw[S.slots,results_eq (rs:=[])];simp
theorem res3 {P:Program} {fn:Func} {t:Array Value} {w:World} {l:List Value} {bs:List Item} {r1 r2 r3:ResultVar} {v1 v2 v3:Value} [hr:FnRes fn [r1,r2,r3]] (hs:t=l.toArray) [h1:ResV P l bs r1 v1] [h2:ResV P l bs r2 v2] [h3:ResV P l bs r3 v3] (hh:∀ it∈bs,it.holds w):(results fn t).run P w=.ok (.tuple ⟨[v1,v2,v3]⟩) w:=by
 rw[hs,results_eq (rs:=[r1,r2,r3])]
 simp[run_res (P:=P) (l:=l) (bs:=bs) (rv:=r1) (v:=v1) w hh,run_res (P:=P) (l:=l) (bs:=bs) (rv:=r2) (v:=v2) w hh,run_res (P:=P) (l:=l) (bs:=bs) (rv:=r3) (v:=v3) w hh]
structure XP where
 keep:List (Nat × Value)
 dss:List Deferred
 XW:List PanicEntry→World→Prop
def XP.at (x:XP):Exit→Act→World→Prop
 | .panic ch,a,w=>(∀ p∈x.keep,a.tmps[p.1]? = some p.2)∧a.defers=x.dss∧x.XW ch w
 | _,_,_=>False
def XP.off (x:XP) (o:Oper):Prop:=∀ p∈x.keep,o.dst≠some p.1
theorem XP.put {x:XP} {o:Oper} (h:x.off o) {ch:List PanicEntry} {a:Act} {v:Value} {w:World} (hp:x.at (.panic ch) (a.put o.dst v) w):x.at (.panic ch) a w:=by
 obtain ⟨h1,h2,h3⟩:=hp
 refine ⟨fun p hpk=>?_,?_,h3⟩
 have h1:=h1 p hpk
 have h0:=h p hpk
 cases hd:o.dst with
 | none=>rw[hd]at h1;exact h1
 | some n=>
  rw[hd]at h1
  have hne:n≠p.1:=fun e=>h0 (by rw[hd,e])
  simpa [Act.put,Array.getElem?_setIfInBounds,hne] using h1
 cases hd:o.dst <;> rw[hd]at h2 <;> exact h2
section
variable {P:Program} {ops:Array Oper} {C:World→Prop} {X:XP}
abbrev WNX (P:Program) (ops:Array Oper) (X:XP) (i:Nat) (K:Act→World→Prop) (a:Act) (w:World):Prop:=wpOpIn (FW none) 0 P ops X.at i K a w
theorem YieldsC.wnx {i:Nat} {o:Oper} {v:Value} {a:Act} (hi:ops[i]? = some o) (hy:YieldsC P ops C o v a)
  {K:Act→World→Prop} {w:World} (hC:C w) (h:K (a.put o.dst v) w):WNX P ops X i K a w:=by
 unfold WNX wpOpIn
 simp only[hi]
 rcases hy with ⟨hw,hv⟩ | ⟨hw,rfl⟩
 simp only[hw,if_true,Oper.wpIn,Oper.semAt_none,hv w hC,Oper.uponIn];exact ⟨fun _ _=>trivial,h⟩
 simp only[hw,Bool.false_eq_true,if_false];exact ⟨fun _ _=>trivial,h⟩
theorem wnx_put {j:Nat} {oi oj:Oper} {v:Value} (hj:ops[j]? = some oj) (hap:oi.apart ops oj=true) (hoff:X.off oi)
  (hsi:∀ cs b,oi.op≠.select cs b) (hsj:∀ cs b,oj.op≠.select cs b) {K:Act→World→Prop} {a:Act} {w:World}
  (hy:YieldsC P ops C oi v a) (h:WNX P ops X j K (a.put oi.dst v) w) :
  WNX P ops X j (fun a' w'=>YieldsC P ops C oi v a'∧K (a'.put oi.dst v) w') a w:=by
 obtain ⟨h1,h2,h3⟩:=Oper.apart_spec hap
 have keep:∀ (a:Act),YieldsC P ops C oi v a→∀ u,YieldsC P ops C oi v (a.put oj.dst u):=fun a hy u=>
  hy.of_same (execOp_put oi hsi a oj.dst u h3) (wanted_put oi a oj.dst u h3)
 have keepD:∀ d,YieldsC P ops C oi v { a with defers:=d::a.defers }:=fun d=>hy.of_same rfl rfl
 have lets:LetsOut X.at→LetsOut X.at:=id
 unfold WNX wpOpIn at *
 simp only[hj]at *
 rw[wanted_put oj a oi.dst v h1]at h
 split
 ·rename_i hw
  simp only[hw,if_true]at h
  unfold Oper.wpIn at *
  refine ⟨fun _ _=>trivial,?_⟩
  have h:=h.2
  rw[Oper.semAt_none,execOp_put oj hsj a oi.dst v h1]at h
  rw[Oper.semAt_none]
  generalize (execOp a.eval oj).run P w=r at *
  cases r with
  | ok x w'=>
   cases x <;> simp only[Oper.uponIn]at h⊢
   case value u=>exact ⟨keep a hy u,by rw[←Act.put_comm a v u h2];exact h⟩
   case skip=>exact ⟨keep a hy _,by rw[←Act.put_comm a v undef h2];exact h⟩
   case defer d=>
    refine ⟨keep _ (keepD d) _,?_⟩
    rw[←Act.put_comm _ v undef h2,←Act.put_defers]
    exact h
   case enter f args=>
    refine ⟨h.1,CallsIn.mono h.2 fun e w'' he=>?_⟩
    cases e with
    | returned u=>exact ⟨keep a hy u,by rw[←Act.put_comm a v u h2];exact he⟩
    | panicked c=>exact XP.put hoff he
    | outgrown=>exact he
   case row row args=>exact ⟨h.1,RowsIn.mono h.2 fun u w'' he=>⟨keep a hy u,by rw[←Act.put_comm a v u h2];exact he⟩⟩
   case round l f tmps assign body=>
    refine ⟨h.1,RoundIn.mono h.2 fun e w'' he=>?_⟩
    cases e with
    | returned u=>exact ⟨keep a hy u,by rw[←Act.put_comm a v u h2];exact he⟩
    | panicked c=>exact XP.put hoff he
    | outgrown=>exact he
  | halt x w'=>
   cases x <;> simp only[Oper.uponIn]at h⊢
   case panic u=>exact XP.put hoff h
 ·rename_i hw
  simp only[hw]at h
  exact ⟨fun _ _=>trivial,keep a hy _,by rw[←Act.put_comm a v undef h2];exact h.2⟩
variable {R:Act→World→Prop}
variable {r:Option Nat} {Q:Exit→Act→World→Prop} {w0:World} {M0:Nat→Prop} {ds:List Deferred} {a:Act} {w:World} {l l':List Value} {bs bs' bs0:List Item} {fs fs0:List (World→Prop)}
 {d:Option Nat} {op:Op} {ty:TypeId} {pos:String} {af:Array Edge} {rest:List Oper} {v v' G:Value} {j g:Nat} {pol:Bool} {cs:List Bool} {n:Nat} {listed:Array Bool}
def XP.offB (x:XP) (ops:Array Oper):Bool:=ops.toList.all fun o=>x.keep.all fun p=>match o.dst with | some n=>!Nat.beq n p.1 | none=>true
theorem XP.offB_spec {x:XP} {ops:Array Oper} (h:x.offB ops=true) {i:Nat} {o:Oper} (hi:ops[i]? = some o):x.off o:=by
 intro p hp e
 have h1:=List.all_eq_true.1 (List.all_eq_true.1 h o (by rw[←Array.getElem?_toList]at hi;exact List.mem_of_getElem? hi)) p hp
 rw[e]at h1
 simp at h1
variable {ord:List (Nat × Bool)} {i:Nat}
theorem XP.of {ch:List PanicEntry} {K:Prop} (S:St w0 M0 ds a w l bs fs) (hk:∀ p∈X.keep,l[p.1]? = some p.2) (hd:ds=X.dss) (h:X.XW ch w):K∨X.at (.panic ch) a w:=
 .inr ⟨fun p hp=>by rw[S.slots];simpa using hk p hp,by rw[S.defers,hd],h⟩
theorem wnx_round {i:Nat} {K:Act→World→Prop} (hQ:∀ ch a w,X.at (.panic ch) a w→Q (.panic ch) a w) (hd:∀ (i:Nat) o,ops[i]? = some o→isDefer o.op=false) (h:WNX P ops X i K a w):wpOpIn (FW r) 0 P ops Q i K a w:=by
 unfold WNX wpOpIn at *
 cases ho:ops[i]? with
 | none=>simp only[ho]at h⊢;exact h
 | some o=>
  simp only[ho]at h⊢
  split
  ·rename_i hw
   rw[if_pos hw]at h
   refine ⟨fun _ _=>trivial,?_⟩
   have h:=h.2
   rw[show (FW none).round=none from rfl]at h
   rw[show (FW r).round=r from rfl,semAt_any (hd i o ho)]
   generalize (o.semAt none a.eval).run P w=q at *
   cases q with
   | ok x w'=>
    cases x <;> simp only[Oper.uponIn]at h⊢<;> first | exact h | skip
    case enter f args=>
     refine ⟨fun h=>(by cases h),trivial,fun cs _=>?_⟩
     obtain ⟨e,w',fr,hR,hcm,h1,h2⟩:=h.2.2 cs (room_wide _)
     refine ⟨e,w',fr,?_,hcm,h1,h2⟩
     cases e with
     | returned v=>exact hR
     | panicked c=>exact hQ _ _ _ hR
     | outgrown=>obtain ⟨_,_,hR⟩:=hR;exact hR.elim
    case round l f tmps assign body=>
     refine ⟨fun h=>(by cases h),trivial,fun c cs _=>?_⟩
     obtain ⟨e,w',hR,hcm⟩:=h.2.2 c cs (room_wide _)
     refine ⟨e,w',?_,hcm⟩
     cases e with
     | returned v=>exact hR
     | panicked c=>exact hQ _ _ _ hR
     | outgrown=>obtain ⟨_,_,hR⟩:=hR;exact hR.elim
   | halt x w'=>
    cases x <;> simp only[Oper.uponIn]at h⊢
    case panic u=>exact hQ _ _ _ h
  ·rename_i hw
   rw[if_neg hw]at h
   exact ⟨fun _ _=>trivial,h.2⟩
end
theorem decode_lo (s:ByteArray) (i:Nat) (h:(s.get! i).toNat < 128):Utf8.decode s i=((s.get! i).toNat,1):=by
 unfold Utf8.decode
 simp only[Nat.add_zero]
 rw[if_pos h]
theorem decode_hi (s:ByteArray) (i:Nat) (h:¬(s.get! i).toNat < 128):128≤(Utf8.decode s i).1∧1≤(Utf8.decode s i).2:=by
 unfold Utf8.decode
 simp only[Nat.add_zero]
 rw[if_neg h]
 repeat' split
 all_goals (try simp only[Bool.and_eq_true,decide_eq_true_eq,ge_iff_le]at *)
 all_goals (constructor <;> first | omega | (simp only[Utf8.runeError];omega))
def sti (r:Nat) (s:List UInt8) (i:Nat):Item where
 foot:=fun k=>k=r
 holds:=fun w=>w.heap[r]? = some (.stringIter ⟨s.toArray⟩ i)
theorem sti_loc (r:Nat) (s:List UInt8) (i:Nat) (w1 w2:World) (h:∀ k,(sti r s i).foot k→w2.heap[k]? = w1.heap[k]?) (h1:(sti r s i).holds w1):(sti r s i).holds w2:=(h r rfl).trans h1
class HasSti (bs:List Item) (r:Nat) (s:outParam (List UInt8)) (i:outParam Nat):Prop where mem:sti r s i∈bs
instance hsti0 {r:Nat} {s:List UInt8} {i:Nat} {bs:List Item} : HasSti (sti r s i::bs) r s i:=⟨List.mem_cons_self ..⟩
section
variable {P:Program} {r0:Option Nat} {ops:Array Oper} {Q:Exit→Act→World→Prop} {w0:World} {M0:Nat→Prop} {ds:List Deferred} {a:Act} {w:World} {l:List Value} {bs:List Item} {fs:List (World→Prop)}
 {d:Option Nat} {op:Op} {ty:TypeId} {pos:String} {af:Array Edge} {rest:List Oper} {t kt et:TypeId} {x:Operand} {b r i:Nat} {s:List UInt8}
theorem sstr0 {l':Nat→List Value} (S:St w0 M0 ds a w l bs fs) [Ev ⟨[],l⟩ x (str s)] [ht:Und P t .string] [hp:∀ r,PutO l d (.pointer (some ⟨r,0,none⟩)) (l' r)]
  (K:∀ r a w,St w0 M0 ds a w (l' r) (sti r s 0::bs) fs→WL P r0 ops Q rest a w):WL P r0 ops Q (⟨d,.range t x,ty,pos,af,none⟩::rest) a w:=by
 refine wl_plain rfl ?_
 rw[semAt_nd rfl]
 have e1:(xop a.eval (.range t x) ty).run P w=.ok (.value (.pointer (some ⟨w.heap.size,0,none⟩))) (w.alloc (.stringIter ⟨s.toArray⟩ 0)):=by
  have h2:(Instr.range t (str s)).run P w=.ok (.pointer (some ⟨w.heap.size,0,none⟩)) (w.alloc (.stringIter ⟨s.toArray⟩ 0)):=by
   simp[Instr.range,str,Sem.run_bind,run_und,newObj,Sem.run]
  simp[xop,execOp,S.fr.ev (x:=x) (v:=str s),h2]
 simp only[e1,Oper.uponIn]
 have:=hp w.heap.size
 have S':=S.put (d:=d) (v:=.pointer (some ⟨w.heap.size,0,none⟩))
 refine K _ _ _ ⟨S'.slots,S'.defers,(S.wd.step (Agree.alloc _ w _)).more (y:=sti w.heap.size s 0) (heap_alloc_new w _) (fun k hk=>by cases hk;exact S.wd.agree.size) (fun k hk=>by cases hk;simp) (fun it hi k hk hk'=>by cases hk;exact absurd (S.wd.lt it hi _ hk') (Nat.lt_irrefl _)) ?_ (sti_loc _ _ _)⟩
 intro Φ hΦ w' hw'
 refine S.wd.facts Φ hΦ w' ((Agree.alloc _ w _).trans' hw' fun i hi=>?_)
 rintro ⟨it,hm,hf⟩
 rcases List.mem_cons.1 hm with rfl | hm
 cases hf;omega
 exact ⟨it,hm,hf⟩
def nxS (more:Bool) (i c:Nat):Value:=bif more then .tuple ⟨[.bool true,.int .i64 (i:Int),.int .i32 (c:Int)]⟩ else .tuple ⟨[.bool false]⟩
instance (priority:=1100) opExtNxS {l:Cx} {more:Bool} {i c:Nat} [Ev l x (nxS more i c)]:OpQ P (.extract x 0) ty l bs fs (.bool more):=⟨fun ρ w h _=>by
 cases more <;> simp[xop,execOp,h.ev (x:=x) (v:=nxS _ i c),nxS,Instr.extract]⟩
instance (priority:=1100) opExtNxS2 {l:Cx} {i c:Nat} [Ev l x (nxS true i c)]:OpQ P (.extract x 2) ty l bs fs (.int .i32 (c:Int)):=⟨fun ρ w h _=>by
 simp[xop,execOp,h.ev (x:=x) (v:=nxS true i c),nxS,Instr.extract]⟩
theorem snxs {l':Bool→Nat→List Value} {bs':Nat→List Item} (S:St w0 M0 ds a w l bs fs) [Ev ⟨[],l⟩ x (.pointer (some ⟨r,0,none⟩))] [hm:HasSti bs r s i] [hrep:∀ j,ReplI bs (sti r s i) (sti r s j) (bs' j)] [hp:∀ m c,PutO l d (nxS m i c) (l' m c)]
  (K:∀ (more:Bool) (c wd:Nat) a w,(more=false→s.length≤i)→(more=true→i < s.length∧((s.getD i 0).toNat < 128→c=(s.getD i 0).toNat∧wd=1)∧(¬(s.getD i 0).toNat < 128→128≤c))→St w0 M0 ds a w (l' more c) (bs' (bif more then i+wd else i)) fs→WL P r0 ops Q rest a w) :
  WL P r0 ops Q (⟨d,.next x true,ty,pos,af,none⟩::rest) a w:=by
 refine wl_plain rfl ?_
 rw[semAt_nd rfl]
 have hold:w.heap[r]? = some (.stringIter ⟨s.toArray⟩ i):=S.wd.held _ hm.mem
 have hx:a.eval x=.pointer (some ⟨r,0,none⟩):=S.fr.ev
 have hlt:r < w.heap.size:=(Array.getElem?_eq_some_iff.1 hold).1
 have hobj:(getObj r).run P w=.ok (.stringIter ⟨s.toArray⟩ i) w:=by simp[getObj,Sem.run,hold]
 have hget:(⟨s.toArray⟩:ByteArray).get! i=s.getD i 0:=by
  show s.toArray[i]! = _
  simp[List.getD_eq_getElem?_getD]
  rfl
 have hsz:(⟨s.toArray⟩:ByteArray).size=s.length:=by simp[ByteArray.size]
 by_cases hi:i < s.length
 ·have e1:(xop a.eval (.next x true) ty).run P w=.ok (.value (nxS true i (Utf8.decode ⟨s.toArray⟩ i).1)) (w.putObj r (.stringIter ⟨s.toArray⟩ (i+(Utf8.decode ⟨s.toArray⟩ i).2))):=by
   simp only[xop,execOp,hx,Instr.next,Sem.run_bind,hobj,Result.andThen,hsz,hi,if_true]
   simp[setObj,Sem.run,hold,World.putObj,nxS,goInt]
  simp only[e1,Oper.uponIn]
  have:=hp true (Utf8.decode ⟨s.toArray⟩ i).1
  have S':=S.put (d:=d) (v:=nxS true i (Utf8.decode ⟨s.toArray⟩ i).1)
  refine K true _ _ _ _ (fun h=>by cases h) (fun _=>⟨hi,fun h=>?_,fun h=>?_⟩) (S.reput (x:=sti r s i) (y:=sti r s (i+(Utf8.decode ⟨s.toArray⟩ i).2)) S'.slots S'.defers (hr:=hrep _) rfl (Agree.putObj w r _ rfl) (World.putObj_heap_same hlt) (fun k hk=>.inl hk) (fun k hk=>by cases hk;simpa using hlt) (sti_loc _ _ _))
  ·rw[←hget]at h⊢
   rw[decode_lo _ _ h];exact ⟨rfl,rfl⟩
  ·rw[←hget]at h
   exact (decode_hi _ _ h).1
 ·have e1:(xop a.eval (.next x true) ty).run P w=.ok (.value (nxS false i 0)) w:=by
   simp only[xop,execOp,hx,Instr.next,Sem.run_bind,hobj,Result.andThen,hsz,hi,if_false]
   simp[nxS]
  simp only[e1,Oper.uponIn]
  have:=hp false 0
  have S':=S.put (d:=d) (v:=nxS false i 0)
  have hr0:=hrep i
  obtain ⟨pre,post,rfl,hb⟩:=hr0.ex
  refine K false 0 0 _ _ (fun _=>by omega) (fun h=>by cases h) ?_
  show St _ _ _ _ _ _ (bs' i) _
  rw[hb]
  exact S'
end
instance opNilN {P:Program} {l:Cx} {bs:List Item} {fs:List (World→Prop)} {x:Operand} {t t' ty:TypeId} [Ev l x .nilIface] [hi:IfT P t]:OpQ P (.binOp .neq t x (.const .nilIface) t') ty l bs fs (.bool false):=⟨fun ρ w h _=>by
 have e2:ρ (.const .nilIface)=.nilIface:=h.ev (x:=.const .nilIface) (v:=.nilIface)
 simp[xop,execOp,h.ev (x:=x) (v:=.nilIface),e2,eqGuard,binOp,run_equal_nil_nil w t hi.eq]⟩
instance opIfN {P:Program} {l:Cx} {bs:List Item} {fs:List (World→Prop)} {x:Operand} {t t' ty:TypeId} {te:TypeId} {pe:Value} [Ev l x (.iface te pe)] [hi:IfT P t]:OpQ P (.binOp .neq t x (.const .nilIface) t') ty l bs fs (.bool true):=⟨fun ρ w h _=>by
 have e2:ρ (.const .nilIface)=.nilIface:=h.ev (x:=.const .nilIface) (v:=.nilIface)
 simp[xop,execOp,h.ev (x:=x) (v:=.iface te pe),e2,eqGuard,binOp,run_equal_held_nil w t te pe hi.eq]⟩
class StT (P:Program) (t:TypeId):Prop where ex:∃ fs,P.underlying t=some (.struct fs)
instance opAssert {P:Program} {l:Cx} {bs:List Item} {fs:List (World→Prop)} {x:Operand} {tx t ty:TypeId} {pe:Value} [Ev l x (.iface t pe)] [hs:StT P t]:OpQ P (.typeAssert x tx t true) ty l bs fs (.tuple ⟨[pe,.bool true]⟩):=⟨fun ρ w h _=>by
 obtain ⟨fs,hf⟩:=hs.ex
 simp[xop,execOp,h.ev (x:=x) (v:=.iface t pe),Instr.typeAssert,Sem.run_bind,run_underlying hf w]⟩
instance opMkIf {P:Program} {l:Cx} {bs:List Item} {fs:List (World→Prop)} {x:Operand} {t ty:TypeId} {v:Value} [Ev l x v] [hs:StT P t]:OpQ P (.makeInterface t x) ty l bs fs (.iface t v):=⟨fun ρ w h _=>by
 obtain ⟨fs,hf⟩:=hs.ex
 simp[xop,execOp,h.ev (x:=x) (v:=v),Instr.makeInterface,Sem.run_bind,run_underlying hf w]⟩
section
variable {P:Program} {ls:Cx} {bs:List Item} {fs:List (World→Prop)} {x y:Operand} {b off k n sz o o':Nat} {kk:IntKind} {m:Int} {t ty e:TypeId} {z:Value} {by_:Nat}
instance (priority:=860) opIdxArr [Ev ls x (.pointer (some ⟨b,off,none⟩))] [Ev ls y (.int kk m)] [hm:IsNat m k] [ht:Und P t (.array n e)] [TI P e z sz by_] [hk:KLt k n] [ho:MulN k sz o] [ho':AddN off o o'] :
  OpQ P (.indexAddr t x y) ty ls bs fs (.pointer (some ⟨b,o',none⟩)):=⟨fun ρ w h mm=>by
 have e1:=hm.eq
 subst e1
 have h1:(k:Int) < n:=by have:=hk.lt;omega
 have e2:(⟨b,off,none⟩:Addr).add (k*sz)=⟨b,o',none⟩:=by rw[ho.eq,←ho'.eq];exact add_lit_off b off o
 simp[xop,execOp,h.ev (x:=x) (v:=.pointer (some ⟨b,off,none⟩)),h.ev (x:=y) (v:=.int kk (k:Int)),Instr.indexAt,asIntOf,Sem.run_bind,run_und,Instr.sureAddr,run_size,e2,Int.natCast_nonneg]
 intro hle
 have:=hk.lt
 omega⟩
end
open Go Go.Deep Go.ChangeShapes Go.WideShapes Go.ChangeAt Go.RowKit
structure A3 (α:Type) where
 a:α
 b:α
 c:α
def A3.l {α:Type} (x:A3 α):List α:=[x.a,x.b,x.c]
instance encA3 {α:Type} [i:Lay α]:Enc (A3 α):=⟨3*Enc.sz α,fun x=>Enc.cells x.a++(Enc.cells x.b++Enc.cells x.c),fun x=>by simp[Enc.len];omega,fun x u hu=>by
 simp only[List.mem_append]at hu
 rcases hu with h | h | h <;> exact Enc.one _ _ h⟩
instance layA3 {α:Type} [i:Lay α]:Lay (A3 α):={ encA3 with
 dflt:=⟨Lay.dflt,Lay.dflt,Lay.dflt⟩
 inn:=fun w x=>Lay.inn w x.a∧Lay.inn w x.b∧Lay.inn w x.c
 mono:=fun w w' _x h hx=>⟨Lay.mono w w' _ h hx.1,Lay.mono w w' _ h hx.2.1,Lay.mono w w' _ h hx.2.2⟩ }
end Go.Wk
namespace Go.Proofs.YtdakncgafdnjfaaGreat
open Go Go.Wk
set_option synthInstance.maxSize 100000
set_option synthInstance.maxHeartbeats 400000
set_option maxRecDepth 100000
structure LSeen where
 user:Int
 cnt:Int
 root:LTerm
structure PSeen where
 user:Int
 cnt:Int
 root:Term
def LSeen.s (x:LSeen):PSeen:=⟨x.user,x.cnt,x.root.t⟩
abbrev cSeen (s:LSeen):List Value:=[.int .i64 s.user,.int .i64 s.cnt,.int .i64 s.root.kind,.int .i64 s.root.user,.int .i64 s.root.num,str s.root.text,.slice s.root.p s.root.kids.length s.root.cap]
instance encSeen:Enc LSeen:=⟨7,cSeen,fun _=>rfl,fun x u hu=>by simp only[List.mem_cons,List.not_mem_nil,or_false]at hu;rcases hu with rfl | rfl | rfl | rfl | rfl | rfl | rfl <;> rfl⟩
instance laySeen:Lay LSeen:={ encSeen with
 dflt:=⟨0,0,zeroL⟩
 inn:=fun w s=>LtIn w s.root
 mono:=fun _w _w' s h hw=>LtIn.mono h s.root hw }
instance:SzE LSeen 7:=⟨rfl,by decide⟩
instance {s:LSeen} : CellsOf s (cSeen s):=⟨rfl⟩
def cntS (n:Int):Bool:=decide (1≤n)&&decide (n≤65535)
def seenB:Int→List PSeen→Bool
 | _,[]=>true
 | k,s::l=>decide (k < s.user)&&knownF s.user&&cntS s.cnt&&decide (checkF s.root=0)&&seenB s.user l
theorem seen_not (k u:Int) (x y z:Bool):(decide (u≤k)||!x||!y||!z) = !(decide (k < u)&&x&&y&&z):=by
 by_cases h:k < u
 rw[decide_eq_true h,decide_eq_false (show ¬u≤k by omega)];cases x <;> cases y <;> cases z <;> rfl
 rw[decide_eq_false h,decide_eq_true (show u≤k by omega)];cases x <;> cases y <;> cases z <;> rfl
theorem fuserK_c (n:Int) (w:World):Ret Tryz.prog 201 [.int .i64 n] w (fun _=>False) fun v _=>v=.bool (knownF n):=by
 refine enter Tryz.func201 rfl rfl (Wd.start w) (fun a S=>?_)
 simp only[Tryz.ntmps201,qqA,qqB,Nat.reduceAdd,Nat.reduceSub,qqC,qqD,qqE,qqF]at S
 refine kS (kR (sq S ?_));clear S;intro a S;refine kN (xtn (kS (kR ?_)));(iterate 3 (refine sq S ?_;clear S;intro a S));(iterate 2 (refine gQ S ?_;clear S;intro a S));(iterate 2 (refine sq S ?_;clear S;intro a S));refine kN (xtn (kT ?_))
 exact end1 S (fun _=>rfl)
instance {n:Int} {bs fs} : CallV Tryz.prog 201 [.int .i64 n] bs fs (.bool (knownF n)):=⟨fun w _=>fuserK_c n w⟩
theorem fcountedK_c (n:Int) (w:World):Ret Tryz.prog 202 [.int .i64 n] w (fun _=>False) fun v _=>v=.bool (cntS n):=by
 refine enter Tryz.func202 rfl rfl (Wd.start w) (fun a S=>?_)
 simp only[Tryz.ntmps202,qqA,qqB,Nat.reduceAdd,Nat.reduceSub,qqC,qqD,qqE,qqF]at S
 refine kS (kR (sq S ?_));clear S;intro a S;refine kN (xtn (kS (kR ?_)));(iterate 3 (refine sq S ?_;clear S;intro a S));(iterate 2 (refine gQ S ?_;clear S;intro a S));(iterate 2 (refine sq S ?_;clear S;intro a S));refine kN (xtn (kT ?_))
 exact end1 S (fun _=>rfl)
instance {n:Int} {bs fs} : CallV Tryz.prog 202 [.int .i64 n] bs fs (.bool (cntS n)):=⟨fun w _=>fcountedK_c n w⟩
def fchkF (l:List PSeen):Int:=if seenB 0 l then 0 else 262
abbrev ssP (l:List LSeen):List PSeen:=l.map LSeen.s
theorem fcheckK_c (l:List LSeen) (p:Option Addr) (n c:Nat) (w0:World) (hn:l.length=n) (hl:n≤1000000) (hx:Stable (fun _=>False) w0 (GlF p l)) :
  Ret Tryz.prog 116 [.slice p n c] w0 (fun _=>False) fun v _=>v=.int .i64 (fchkF (ssP l)):=by
 subst hn
 refine enter Tryz.func116 rfl rfl (Wd.begin (fs:=[GlF p l]) (by simpa using hx)) (fun a S=>?_)
 simp only[Tryz.ntmps116,qqA,qqB,Nat.reduceAdd,Nat.reduceSub,qqC,qqD,qqE,qqF]at S
 refine kS (kR (sq S ?_));clear S;intro a S;refine kN (xtn (kS (kR (sq S ?_))));clear S;intro a S;refine kN (xtn (kS (kS (kR ?_))));(iterate 3 (refine sq S ?_;clear S;intro a S));refine kN (xtn (kB ?_))
 refine c_fore2 S (fun(k:Nat) (last:Int) uu=>[(2,uu 2),(0,.int .i64 last),(1,uu 5),(2,.int .i64 (k:Nat)),(0,uu 9),(0,uu 10),(0,uu 11),(0,uu 12),(0,uu 13),(0,uu 14),(0,uu 15),(0,uu 16),(0,uu 17),(0,uu 18),(0,uu 19),(0,uu 20),(0,uu 21),(0,uu 22),(0,uu 23),(0,uu 24),(0,uu 25),(0,uu 26),(0,uu 27),(0,uu 28),(0,uu 29),(0,uu 30),(0,uu 31),(0,uu 32),(0,uu 33),(0,uu 34),(0,uu 35),(0,uu 36)]) (fun(k:Nat) (last:Int)=>[]) (fun(k:Nat) (last:Int)=>[GlF p l]) (fun(k:Nat) (last:Int)=>k≤l.length∧seenB last (ssP (l.drop k))=seenB 0 (ssP l)) (fun(k:Nat) (last:Int)=>l.length - k) (0) (0) ?_ S.uu ?_ ?_
 exact ⟨Nat.zero_le _,rfl⟩
 first | exact S | exact S.sub _ _
 clear S;rintro k last uu a w ⟨hk,hrel⟩ S
 refine kS (kR (sq S ?_));clear S;intro a S;refine kN (xtn (kS ?_))
 refine kC S (fun h3=>?_) (fun h3=>?_)
 refine kK (xtn (kS (kB (kS ?_))))
 have hkl:k < l.length:=by simp at h3;omega
 have hK:KLt k l.length:=⟨hkl⟩
 replace hrel:(decide (last < (nthG l k).user)&&knownF (nthG l k).user&&cntS (nthG l k).cnt&&decide (checkF (nthG l k).root.t=0)&&seenB (nthG l k).user (ssP (l.drop (k+1))))=seenB 0 (ssP l):=by
  rw[←hrel,nthG_drop hkl];rfl
 refine kR ?_;(iterate 2 (refine sq S ?_;clear S;intro a S));refine sa S ?_;clear S;intro b5 a w S;refine sw S ?_;clear S;intro a w S;refine kN (xtn (kS (kS ?_)))
 replace S:=S.add (Φ:=LtF (nthG l k).root) ((S.mem.fact (GlF p l)).imp fun _ h=>h.2 _ (nthG_mem hkl))
 refine kR ?_;(iterate 5 (refine sq S ?_;clear S;intro a S));(iterate 2 (refine gQ S ?_;clear S;intro a S));refine gC S ?_;clear S;intro a w S;refine gQ S ?_;clear S;intro a S;(iterate 2 (refine sq S ?_;clear S;intro a S));(iterate 2 (refine gQ S ?_;clear S;intro a S));refine gC S ?_;clear S;intro a w S;refine gQ S ?_;clear S;intro a S;(iterate 2 (refine sq S ?_;clear S;intro a S));(iterate 2 (refine gQ S ?_;clear S;intro a S));refine gC S ?_;clear S;intro a w S;refine gQ S ?_;clear S;intro a S;refine sq S ?_;clear S;intro a S;refine kN (xtn ?_)
 refine kC S (fun h5=>?_) (fun h5=>?_)
 refine kS (kR (sq S ?_));clear S;intro a S;refine kN (xtn (kT (xtr (xbr (xtr (xtr (xbr (xtr ?_))))))))
 refine end1 S (fun _=>?_)
 rw[seen_not]at h5
 rw[show (decide (last < (nthG l k).user)&&knownF (nthG l k).user&&cntS (nthG l k).cnt&&decide (checkF (nthG l k).root.t=0))=false from by simpa only[Bool.not_eq_true'] using h5,Bool.false_and]at hrel
 rw[fchkF,←hrel];rfl
 refine kK (xtn (kR ?_));(iterate 3 (refine sq S ?_;clear S;intro a S));refine kN (xbn (xtn (kR ?_)));(iterate 2 (refine sq S ?_;clear S;intro a S));refine kN (xtn ?_)
 rw[seen_not]at h5
 rw[show (decide (last < (nthG l k).user)&&knownF (nthG l k).user&&cntS (nthG l k).cnt&&decide (checkF (nthG l k).root.t=0))=true from by simpa only[Bool.not_eq_false'] using h5,Bool.true_and]at hrel
 rw[w64 ((k:Int)+1) (by omega) (by omega)]at S
 exact ⟨k+1,_,S.uu,⟨hkl,hrel⟩,S.sub _ _,by omega⟩
 refine kE (xte (xte (xbe (xtn (kS (kR (sq S ?_)))))));clear S;intro a S;refine kN (xtn (kT ?_))
 rw[List.drop_of_length_le (by simp at h3;omega)]at hrel
 refine end1 S (fun _=>?_)
 rw[fchkF,←hrel];rfl
instance {l:List LSeen} {p:Option Addr} {n c:Nat} {bs fs} [hg:HasG fs p LSeen laySeen l] [hn:LenN l n] [hk:LeC n 1000000]:CallV Tryz.prog 116 [.slice p n c] bs fs (.int .i64 (fchkF (ssP l))):=⟨fun w m=>fcheckK_c l p n c w hn.eq hk.le ((hg.of _ _ m.facts).less fun _ _ h=>h.elim)⟩
def chK (c:UInt8):Bool:=decide (33≤c.toNat)&&decide (c.toNat≤126)
def nameK (s:List UInt8):Bool:=s.all chK&&decide (1≤s.length)&&decide (s.length≤24)
theorem mnameK_c (s:List UInt8) (hl:s.length≤1000000) (w0:World):Ret Tryz.prog 267 [str s] w0 (fun _=>False) fun v _=>v=.bool (nameK s):=by
 refine enter Tryz.func267 rfl rfl (Wd.start w0) (fun a S=>?_)
 simp only[Tryz.ntmps267,qqA,qqB,Nat.reduceAdd,Nat.reduceSub,qqC,qqD,qqE,qqF]at S
 refine kS (kR (sq S ?_));clear S;intro a S;refine kN (xtn (kS (kS (kR (sq S ?_)))));clear S;intro a S;refine sstr0 S ?_;clear S;intro b6 a w S;refine kN (xtn (kB ?_))
 refine c_forf1 S (fun(i:Nat) uu=>[(2,uu 2),(1,uu 4),(2,uu 7),(0,uu 8),(0,uu 9),(0,uu 10),(0,uu 11),(0,uu 12),(0,uu 13),(0,uu 14),(0,uu 15)]) (fun(i:Nat)=>[Wk.sti b6 s i]) (fun(i:Nat)=>i≤s.length∧∀ j,j < i→chK (s.getD j 0)=true) (fun(i:Nat)=>s.length - i) (0) ?_ S.uu ?_ ?_
 exact ⟨Nat.zero_le _,fun j hj=>by omega⟩
 first | exact S | exact S.sub _ _
 clear S;rintro i uu a w ⟨hi,hrel⟩ S
 refine kS (kR ?_);refine snxs S ?_;clear S;intro more c wd a w hmf hmt S;refine sq S ?_;clear S;intro a S;refine kN (xtn (kS ?_))
 refine kC S (fun h2=>?_) (fun h2=>?_)
 refine kK (xtn (kB (kS ?_)))
 obtain rfl:more=true:=h2
 obtain ⟨hil,hlo,hhi⟩:=hmt rfl
 refine kR ?_;(iterate 2 (refine sq S ?_;clear S;intro a S));refine kN (xtn (kS (kR ?_)));(iterate 3 (refine sq S ?_;clear S;intro a S));(iterate 2 (refine gQ S ?_;clear S;intro a S));refine sq S ?_;clear S;intro a S;refine kN (xtn ?_)
 refine kC S (fun h4=>?_) (fun h4=>?_)
 refine kS (kR (sq S ?_));clear S;intro a S;refine kN (xtn (kT (xbr (xtr (xbr (xtr ?_))))))
 have hbad:chK (s.getD i 0)=false:=by
  simp only[Bool.or_eq_true,decide_eq_true_eq]at h4
  by_cases hc:(s.getD i 0).toNat < 128
  obtain ⟨rfl,-⟩:=hlo hc
  simp only[chK,Bool.and_eq_false_iff,decide_eq_false_iff_not]
  omega
  simp only[chK,Bool.and_eq_false_iff,decide_eq_false_iff_not]
  omega
 refine end1 S (fun _=>?_)
 have:nameK s=false:=by
  have hall:s.all chK=false:=List.all_eq_false.2 ⟨s.getD i 0,by rw[List.getD_eq_getElem?_getD,List.getElem?_eq_getElem hil];exact List.getElem_mem hil,by rw[hbad];simp⟩
  rw[nameK,hall];rfl
 rw[this]
 refine kK (xbn (xtn ?_))
 simp only[Bool.or_eq_false_iff,decide_eq_false_iff_not]at h4
 have hc:(s.getD i 0).toNat < 128:=Classical.byContradiction fun hc=>by have:=hhi hc;omega
 obtain ⟨rfl,rfl⟩:=hlo hc
 rw[show (bif true then i+1 else i)=i+1 from rfl]at S
 refine ⟨i+1,S.uu,⟨hil,fun j hj=>?_⟩,S.sub _ _,by omega⟩
 rcases Nat.lt_or_ge j i with h | h
 exact hrel j h
 obtain rfl:j=i:=by omega
 simp only[chK,Bool.and_eq_true,decide_eq_true_eq]
 omega
 refine kE (xte (xte (xbe (xtn (kS (kR ?_))))));(iterate 4 (refine sq S ?_;clear S;intro a S));(iterate 3 (refine gQ S ?_;clear S;intro a S));(iterate 2 (refine sq S ?_;clear S;intro a S));refine kN (xtn (kT ?_))
 have hall:s.all chK=true:=by
  have hle:=hmf h2
  refine List.all_eq_true.2 fun x hx=>?_
  obtain ⟨j,hj,rfl⟩:=List.getElem_of_mem hx
  have:=hrel j (by omega)
  rwa [List.getD_eq_getElem?_getD,List.getElem?_eq_getElem hj]at this
 refine end1 S (fun _=>?_)
 rw[nameK,hall,Bool.true_and]
 congr 1
 rw[Bool.eq_iff_iff]
 simp only[Bool.and_eq_true,decide_eq_true_eq]
 omega
instance {s:List UInt8} {bs fs} [h:LeC s.length 1000000]:CallV Tryz.prog 267 [str s] bs fs (.bool (nameK s)):=⟨fun w _=>mnameK_c s h.le w⟩
theorem iuser_c (n:Int) (w:World):Ret Tryz.prog 246 [.int .i64 n] w (fun _=>False) fun v _=>v=.bool (knownF n):=by
 refine enter Tryz.func246 rfl rfl (Wd.start w) (fun a S=>?_)
 simp only[Tryz.ntmps246,qqA,qqB,Nat.reduceAdd,Nat.reduceSub,qqC,qqD,qqE,qqF]at S
 refine kS (kR (sq S ?_));clear S;intro a S;refine kN (xtn (kS (kR ?_)));(iterate 3 (refine sq S ?_;clear S;intro a S));(iterate 2 (refine gQ S ?_;clear S;intro a S));(iterate 2 (refine sq S ?_;clear S;intro a S));refine kN (xtn (kT ?_))
 exact end1 S (fun _=>rfl)
instance {n:Int} {bs fs} : CallV Tryz.prog 246 [.int .i64 n] bs fs (.bool (knownF n)):=⟨fun w _=>iuser_c n w⟩
def ownN (s:List UInt8):Int:=if nameK s=true∧3≤s.length∧(nthG s 1).toNat=47∧knownF (((nthG s 0).toNat:Int) - 48)=true then ((nthG s 0).toNat:Int) - 48 else 0
theorem inamed_c (s:List UInt8) (hl:s.length≤1000000) (w0:World):Ret Tryz.prog 247 [str s] w0 (fun _=>False) fun v _=>v=.int .i64 (ownN s):=by
 have hL:LeC s.length 1000000:=⟨hl⟩
 refine enter Tryz.func247 rfl rfl (Wd.start w0) (fun a S=>?_)
 simp only[Tryz.ntmps247,qqA,qqB,Nat.reduceAdd,Nat.reduceSub,qqC,qqD,qqE,qqF]at S
 refine kS (kR (sq S ?_));clear S;intro a S;refine kN (xtn (kS (kS (kR (sq S ?_)))));clear S;intro a S;refine sc S ?_;clear S;intro a w S;(iterate 2 (refine sq S ?_;clear S;intro a S));(iterate 3 (refine gQ S ?_;clear S;intro a S));(iterate 2 (refine sq S ?_;clear S;intro a S))
 refine gS S (fun hs S=>?_) (fun hs S=>?_)
 refine gF' S ?_;clear S;intro a S;(iterate 2 (refine gF' S ?_;clear S;intro a S));refine sq S ?_;clear S;intro a S;refine kN (xtn ?_);refine c_condT S ?_;refine kS (kR (sq S ?_));clear S;intro a S;refine kN (xtn (kT (xtr ?_)))
 refine end1 S (fun _=>?_)
 rw[ownN,if_neg]
 rintro ⟨h1,h2,-⟩
 rw[h1]at hs;simp at hs;omega
 refine gT' S ?_;refine sq S ?_;clear S;intro a S;refine gT' S ?_
 have h3:nameK s=true∧3≤s.length:=by
  simp only[Bool.or_eq_false_iff,Bool.not_eq_false',decide_eq_false_iff_not]at hs
  exact ⟨hs.1,by have:=hs.2;omega⟩
 have hK1:KLt 1 s.length:=⟨by omega⟩
 have hK0:KLt 0 s.length:=⟨by omega⟩
 refine sq S ?_;clear S;intro a S;refine gT' S ?_;(iterate 2 (refine sq S ?_;clear S;intro a S));refine kN (xtn ?_)
 refine kC S (fun h1=>?_) (fun h1=>?_)
 refine kS (kR (sq S ?_));clear S;intro a S;refine kN (xtn (kT (xtr ?_)))
 refine end1 S (fun _=>?_)
 rw[ownN,if_neg]
 rintro ⟨-,-,h4,-⟩
 simp at h1
 omega
 refine kK (xtn (kS (kS (kR ?_))));(iterate 2 (refine sq S ?_;clear S;intro a S))
 have hb:=UInt8.toNat_lt (nthG s 0)
 refine sq S ?_;clear S;intro a S
 rw[w64 _ (by omega) (by omega)]at S
 refine sq S ?_;clear S;intro a S
 rw[w64 _ (by omega) (by omega)]at S
 refine sq S ?_;clear S;intro a S;refine kN (xtn (kS (kR (sq S ?_))));clear S;intro a S;refine sc S ?_;clear S;intro a w S;refine kN (xtn ?_)
 refine kC S (fun h4=>?_) (fun h4=>?_)
 refine kS (kR ?_);(iterate 2 (refine sq S ?_;clear S;intro a S));refine kN (xtn (kT (xtr ?_)))
 refine end1 S (fun _=>?_)
 rw[ownN,if_pos ⟨h3.1,h3.2,by simp at h1;omega,h4⟩]
 refine kK (xtn (kS (kR (sq S ?_))));clear S;intro a S;refine kN (xtn (kT ?_))
 refine end1 S (fun _=>?_)
 rw[ownN,if_neg]
 rintro ⟨-,-,-,h5⟩
 rw[h5]at h4;cases h4
instance {s:List UInt8} {bs fs} [h:LeC s.length 1000000]:CallV Tryz.prog 247 [str s] bs fs (.int .i64 (ownN s)):=⟨fun w _=>inamed_c s h.le w⟩
theorem ownN_known {s:List UInt8} (h:0 < ownN s):3≤s.length∧ownN s=((nthG s 0).toNat:Int) - 48:=by
 unfold ownN at h⊢
 split at h
 rename_i hc
 rw[if_pos hc];exact ⟨hc.2.1,rfl⟩
 omega
abbrev opV (u:Int) (s:List UInt8):Value:=.agg ⟨[.int .i64 3,.int .i64 u,str s,.int .i64 0,.int .i64 0,.bool false,.int .i64 0,.int .i64 0,.int .i64 0,.string ⟨#[]⟩,.slice none 0 0]⟩
theorem icheckop_c (u:Int) (s:List UInt8) (hl:s.length≤1000000) (w0:World):Ret Tryz.prog 199 [opV u s] w0 (fun _=>False) fun v _=>v=.int .i64 (if knownF u&&decide (0 < ownN s) then 0 else 281):=by
 have hL:LeC s.length 1000000:=⟨hl⟩
 refine enter Tryz.func199 rfl rfl (Wd.start w0) (fun a S=>?_)
 simp only[Tryz.ntmps199,qqA,qqB,Nat.reduceAdd,Nat.reduceSub,qqC,qqD,qqE,qqF]at S
 refine kS (kR ?_);refine sa S ?_;clear S;intro b1 a w S;refine sq S ?_;clear S;intro a S;refine kN (xtn (kS (kR ?_)));(iterate 4 (refine sq S ?_;clear S;intro a S));(iterate 3 (refine gQ S ?_;clear S;intro a S));(iterate 2 (refine sq S ?_;clear S;intro a S));(iterate 2 (refine gQ S ?_;clear S;intro a S));refine gC S ?_;clear S;intro a w S;(iterate 2 (refine sq S ?_;clear S;intro a S));refine kN ?_;refine xtn (kS (kR ?_));(iterate 2 (refine sq S ?_;clear S;intro a S));(iterate 6 (refine gQ S ?_;clear S;intro a S));refine gC S ?_;clear S;intro a w S;(iterate 2 (refine gQ S ?_;clear S;intro a S));(iterate 2 (refine sq S ?_;clear S;intro a S))
 refine gS S (fun hs S=>?_) (fun hs S=>?_)
 refine gT S ?_;refine sq S ?_;clear S;intro a S;refine gT S ?_;refine sq S ?_;clear S;intro a S;refine gT S ?_;refine sq S ?_;clear S;intro a S
 rw[show decide ((2:Int) < 3)=true from rfl]at S
 refine gT S ?_;refine sq S ?_;clear S;intro a S;(iterate 3 (refine gF' S ?_;clear S;intro a S));refine gT S ?_;(iterate 3 (refine sq S ?_;clear S;intro a S));refine kN (xtn (kS (kS (kR ?_))));(iterate 2 (refine sq S ?_;clear S;intro a S));refine kN (xtn ?_);refine c_condF S ?_;refine kK (xtn (kS ?_));refine kR (sq S ?_);clear S;intro a S;refine kN (xtn (kT ?_))
 refine end1 S (fun _=>?_)
 rw[show (decide ((1:Int)≤3)&&decide ((3:Int)≤10))=true from rfl,show decide ((7:Int) < 3)=false from rfl,Bool.true_and,Bool.false_or]at hs
 rw[hs];rfl
 refine gF S ?_;clear S;intro a S;(iterate 3 (refine gF S ?_;clear S;intro a S));(iterate 3 (refine gU S ?_;clear S;intro a S));refine gF S ?_;clear S;intro a S;(iterate 2 (refine sq S ?_;clear S;intro a S));refine kN (xtn (kS (kS (kR ?_))));(iterate 2 (refine sq S ?_;clear S;intro a S));refine kN (xtn ?_);refine c_condT S ?_;refine kS (kR (sq S ?_));clear S;intro a S;refine kN (xtn (kT (xtr ?_)))
 refine end1 S (fun _=>?_)
 rw[show (decide ((1:Int)≤3)&&decide ((3:Int)≤10))=true from rfl,show decide ((7:Int) < 3)=false from rfl,Bool.true_and,Bool.false_or]at hs
 rw[hs];rfl
def namedB (u:Int) (s:List UInt8):Bool:=knownF u&&decide (ownN s=u)
theorem namedB_eq (u:Int) (s:List UInt8):namedB u s=(knownF u&&decide (0 < ownN s)&&decide (ownN s=u)):=by
 rw[namedB]
 cases hu:knownF u with
 | false=>rfl
 | true=>
  have h1:1≤u:=by simp only[knownF,Bool.and_eq_true,decide_eq_true_eq]at hu;omega
  rw[Bool.true_and,Bool.true_and]
  by_cases h:ownN s=u
  rw[decide_eq_true h,decide_eq_true (show 0 < ownN s by omega)];rfl
  rw[decide_eq_false h,Bool.and_false]
theorem mnamed_c (u:Int) (s:List UInt8) (hl:s.length≤1000000) (w0:World):Ret Tryz.prog 114 [.int .i64 u,str s] w0 (fun _=>False) fun v _=>v=.bool (namedB u s):=by
 have hL:LeC s.length 1000000:=⟨hl⟩
 refine enter Tryz.func114 rfl rfl (Wd.start w0) (fun a S=>?_)
 simp only[Tryz.ntmps114,qqA,qqB,Nat.reduceAdd,Nat.reduceSub,qqC,qqD,qqE,qqF]at S
 refine kS (kR (sq S ?_));clear S;intro a S;refine kN (xtn (kS (kR ?_)));(iterate 3 (refine sq S ?_;clear S;intro a S));refine sa S ?_;clear S;intro b5 a w S;refine sw S ?_;clear S;intro a w S;refine kN (xtn (kS (kR (sq S ?_))));clear S;intro a S;refine sr S (icheckop_c u s hl _) ?_;clear S;rintro _ a w rfl S;refine sq S ?_;clear S;intro a S
 rw[show decide ((if (knownF u&&decide (0 < ownN s))=true then (0:Int) else 281)=0)=(knownF u&&decide (0 < ownN s)) from by cases knownF u&&decide (0 < ownN s) <;> rfl]at S
 refine sq S ?_;clear S;intro a S
 refine gS S (fun hs S=>?_) (fun hs S=>?_)
 refine gT S ?_;refine sq S ?_;clear S;intro a S;refine gT S ?_
 have hown:=ownN_known (s:=s) (by simp only[Bool.and_eq_true,decide_eq_true_eq]at hs;exact hs.2)
 have hK0:KLt 0 s.length:=⟨by omega⟩
 have hb:=UInt8.toNat_lt (nthG s 0)
 refine sq S ?_;clear S;intro a S;refine gT S ?_;refine sq S ?_;clear S;intro a S
 rw[w64 _ (by omega) (by omega)]at S
 refine gT S ?_;refine sq S ?_;clear S;intro a S
 rw[w64 _ (by omega) (by omega),←hown.2]at S
 refine gT S ?_;refine sq S ?_;clear S;intro a S;refine gT S ?_;(iterate 3 (refine sq S ?_;clear S;intro a S));refine kN (xtn (kT ?_))
 refine end1 S (fun _=>?_)
 rw[namedB_eq,hs,Bool.true_and]
 refine gF S ?_;clear S;intro a S;(iterate 5 (refine gF S ?_;clear S;intro a S));(iterate 2 (refine sq S ?_;clear S;intro a S));refine kN (xtn (kT ?_))
 refine end1 S (fun _=>?_)
 rw[namedB_eq,hs,Bool.false_and]
instance {u:Int} {s:List UInt8} {bs fs} [h:LeC s.length 1000000]:CallV Tryz.prog 114 [.int .i64 u,str s] bs fs (.bool (namedB u s)):=⟨fun w _=>mnamed_c u s h.le w⟩
def cntK (n:Int):Bool:=decide (0≤n)&&decide (n≤65535)
theorem indexIn_c (F:Nat) [EntF Tryz.prog F] (ca:List Value) (q:Int→Bool) (xs:List Int) (p:Option Addr) (n c:Nat) (w0:World) (hn:xs.length=n) (hl:n≤9223372036854775807) (hx:Stable (fun _=>False) w0 (GlF p xs))
  (hF:∀ x∈xs,∀ w,Agree (fun _=>False) w0 w→Ret Tryz.prog F (.int .i64 x::ca) w (fun _=>False) fun v _=>v=.bool (q x)) :
  Ret Tryz.prog 245 [.slice p n c,.func (.func F) #[] ⟨ca⟩] w0 (fun _=>False) fun v _=>v=.int .i64 (idxG q xs 0):=by
 refine enter Tryz.func245 rfl rfl (Wd.begin (fs:=[GlF p xs]) (by simpa using hx)) (fun a S=>?_)
 simp only[Tryz.ntmps245,qqA,qqB,Nat.reduceAdd,Nat.reduceSub,qqC,qqD,qqE,qqF]at S
 refine kS (kR (sq S ?_));clear S;intro a S;refine kN (xtn (kS (kS (kR ?_))));(iterate 3 (refine sq S ?_;clear S;intro a S));refine kN (xtn (kB ?_))
 refine c_forb1 S (fun(k:Nat) uu=>[(4,uu 4),(0,uu 5),(2,.int .i64 (k:Nat)),(0,uu 9),(0,uu 10),(0,uu 11),(0,uu 12),(0,uu 13),(0,uu 14),(0,uu 15),(0,uu 16),(0,uu 17),(0,uu 18)]) (fun(k:Nat)=>k≤n∧idxG q (xs.drop k) k=idxG q xs 0) (fun(k:Nat)=>n - k) (0) ?_ S.uu ?_ ?_
 exact ⟨Nat.zero_le _,rfl⟩
 first | exact S | exact S.sub _ _
 clear S;rintro k uu a w ⟨hk,hrel⟩ S
 refine kS (kR (sq S ?_));clear S;intro a S;refine kN (xtn (kS ?_))
 refine kC S (fun h2=>?_) (fun h2=>?_)
 refine kK (xtn (kS (kB (kS (kR ?_)))));(iterate 2 (refine sq S ?_;clear S;intro a S));refine kN (xtn (kS ?_))
 have hkl:k < n:=by simp at h2;omega
 have hK:KLt k n:=⟨hkl⟩
 have hK2:KLt k xs.length:=⟨by omega⟩
 rw[nthG_drop (show k < xs.length by omega),idxG]at hrel
 refine kR ?_;(iterate 5 (refine sq S ?_;clear S;intro a S))
 refine sr S (hF (nthG xs k) (nthG_mem (by omega)) w S.wd.agree) ?_;clear S;rintro _ a w rfl S
 refine kN (xtn ?_)
 refine kC S (fun h4=>?_) (fun h4=>?_)
 refine kS (kR ?_);(iterate 2 (refine sq S ?_;clear S;intro a S));refine kN (xtn (kT (xbr (xtr (xtr (xbr (xtr ?_)))))))
 rw[if_pos h4]at hrel
 refine end1 S (fun _=>?_)
 rw[hrel]
 refine kK (xbn (xtn (kR ?_)));(iterate 2 (refine sq S ?_;clear S;intro a S));refine kN (xtn ?_)
 rw[if_neg (by simpa using h4)]at hrel
 rw[w64 ((k:Int)+1) (by omega) (by omega)]at S
 exact ⟨k+1,S.uu,⟨hkl,by rw[←hrel];rfl⟩,S.sub _ _,by omega⟩
 refine kE (xte (xte (xbe (xtn (kS (kR (sq S ?_)))))));clear S;intro a S;refine kN (xtn (kT ?_))
 rw[List.drop_of_length_le (by simp at h2;omega)]at hrel
 refine end1 S (fun _=>?_)
 rw[←hrel];rfl
theorem containsIn_c (F:Nat) [EntF Tryz.prog F] (ca:List Value) (q:Int→Bool) (xs:List Int) (p:Option Addr) (n c:Nat) (w0:World) (hn:xs.length=n) (hl:n≤9223372036854775807) (hx:Stable (fun _=>False) w0 (GlF p xs))
  (hF:∀ x∈xs,∀ w,Agree (fun _=>False) w0 w→Ret Tryz.prog F (.int .i64 x::ca) w (fun _=>False) fun v _=>v=.bool (q x)) :
  Ret Tryz.prog 197 [.slice p n c,.func (.func F) #[] ⟨ca⟩] w0 (fun _=>False) fun v _=>v=.bool (xs.any q):=by
 refine enter Tryz.func197 rfl rfl (Wd.begin (fs:=[GlF p xs]) (by simpa using hx)) (fun a S=>?_)
 simp only[Tryz.ntmps197,qqA,qqB,Nat.reduceAdd,Nat.reduceSub,qqC,qqD,qqE,qqF]at S
 refine kS (kR (sq S ?_));clear S;intro a S;refine kN (xtn (kS (kR ?_)));(iterate 2 (refine sq S ?_;clear S;intro a S))
 refine sr S (indexIn_c F ca q xs p n c _ hn hl (S.gl0 p) fun x hx w' hw'=>hF x hx w' (S.wd.agree.trans hw')) ?_;clear S;rintro _ a w rfl S
 (iterate 2 (refine sq S ?_;clear S;intro a S));refine kN (xtn (kT ?_))
 refine end1 S (fun _=>?_)
 rw[idxG_any q xs 0 (by omega)]
theorem counted1_c (x:Int) (w0:World):Ret Tryz.prog 198 [.int .i64 x] w0 (fun _=>False) fun v _=>v=.bool (!cntK x):=by
 refine enter Tryz.func198 rfl rfl (Wd.start w0) (fun a S=>?_)
 simp only[Tryz.ntmps198,qqA,qqB,Nat.reduceAdd,Nat.reduceSub,qqC,qqD,qqE,qqF]at S
 refine kS (kR (sq S ?_));clear S;intro a S;refine kN (xtn (kS (kR ?_)));(iterate 3 (refine sq S ?_;clear S;intro a S));(iterate 2 (refine gQ S ?_;clear S;intro a S));(iterate 2 (refine sq S ?_;clear S;intro a S));refine kN (xtn (kT ?_))
 refine end1 S (fun _=>?_)
 congr 1
 rw[cntK]
 by_cases h1:x < 0
 rw[decide_eq_true h1,decide_eq_false (show ¬0≤x by omega)];rfl
 by_cases h2:65535 < x
 rw[decide_eq_true h2,decide_eq_false (show ¬x≤65535 by omega),Bool.or_true,Bool.and_false];rfl
 rw[decide_eq_false h1,decide_eq_false h2,decide_eq_true (show 0≤x by omega),decide_eq_true (show x≤65535 by omega)];rfl
theorem not_any_not {α:Type} (q:α→Bool):∀ xs:List α,(!xs.any fun x=>!q x)=xs.all q
 | []=>rfl
 | x::xs=>by rw[List.any_cons,List.all_cons,←not_any_not q xs];cases q x <;> simp
theorem counted_c (xs:List Int) (p:Option Addr) (n c:Nat) (w0:World) (hn:xs.length=n) (hl:n≤1000000) (hx:Stable (fun _=>False) w0 (GlF p xs)):Ret Tryz.prog 113 [.slice p n c] w0 (fun _=>False) fun v _=>v=.bool (xs.all cntK):=by
 refine enter Tryz.func113 rfl rfl (Wd.begin (fs:=[GlF p xs]) (by simpa using hx)) (fun a S=>?_)
 simp only[Tryz.ntmps113,qqA,qqB,Nat.reduceAdd,Nat.reduceSub,qqC,qqD,qqE,qqF]at S
 refine kS (kR (sq S ?_));clear S;intro a S;refine kN (xtn (kS (kR (sq S ?_))));clear S;intro a S
 refine sr S (containsIn_c 198 [] (fun x=>!cntK x) xs p n c _ hn (by omega) (S.gl0 p) (fun x _ w' _=>counted1_c x w')) ?_;clear S;rintro _ a w rfl S
 (iterate 2 (refine sq S ?_;clear S;intro a S));refine kN (xtn (kT ?_))
 refine end1 S (fun _=>?_)
 rw[not_any_not]
structure LMem where
 user:Int
 leaf:Int
 counter:Int
 num:Int
 sp:Option Addr
 sc:Nat
 seeds:List LMark
 vp:Option Addr
 vc:Nat
 vers:List LMark
 ep:Option Addr
 ec:Nat
 seen:List LSeen
abbrev cMem (m:LMem):List Value:=[.int .i64 m.user,.int .i64 m.leaf,.int .i64 m.counter,.int .i64 m.num,.slice m.sp m.seeds.length m.sc,.slice m.vp m.vers.length m.vc,.slice m.ep m.seen.length m.ec]
abbrev vMem (m:LMem):Value:=.agg ⟨[.int .i64 m.user,.int .i64 m.leaf,.int .i64 m.counter,.int .i64 m.num,.slice m.sp m.seeds.length m.sc,.slice m.vp m.vers.length m.vc,.slice m.ep m.seen.length m.ec]⟩
def MemF (m:LMem):World→Prop:=fun w=>GlF m.sp m.seeds w∧GlF m.vp m.vers w∧GlF m.ep m.seen w
structure PMem where
 user:Int
 leaf:Int
 counter:Int
 num:Int
 seeds:List LMark
 vers:List LMark
 seen:List PSeen
def LMem.m (x:LMem):PMem:=⟨x.user,x.leaf,x.counter,x.num,x.seeds,x.vers,ssP x.seen⟩
structure FitM (m:LMem):Prop where
 seeds:m.seeds.length≤1000
 vers:m.vers.length≤1000
 seen:m.seen.length≤1000
 names:∀ x∈m.seeds,x.key.length≤1000
 keys:∀ x∈m.vers,x.key.length≤1000
def riseS (u:Int):List UInt8→List LMark→Bool
 | _,[]=>true
 | k,s::l=>namedB u s.key&&Op.bytesLess k s.key&&decide (0 < s.ver)&&cntK s.ver&&riseS u s.key l
def headB (m:PMem):Bool:=decide (1≤m.user)&&decide (m.user≤6)&&(cntK m.leaf&&(cntK m.counter&&cntK m.num))&&decide ((m.seeds.length:Int)≤6)
def memB (m:PMem):Bool:=headB m&&riseS m.user [] m.seeds&&okM m.vers&&seenB 0 m.seen
def mchkF (m:PMem):Int:=if memB m then 0 else 300
theorem tchk_dec (l:List LMark):decide (tchkF l=0)=okM l:=by rw[tchkF];cases okM l <;> rfl
theorem fchk_dec (l:List PSeen):decide (fchkF l=0)=seenB 0 l:=by rw[fchkF];cases seenB 0 l <;> rfl
set_option maxHeartbeats 2000000 in
theorem mcheck_c (m:LMem) (hfit:FitM m) (w0:World) (hm:Stable (fun _=>False) w0 (MemF m)):Ret Tryz.prog 37 [vMem m] w0 (fun _=>False) fun v _=>v=.int .i64 (mchkF m.m):=by
 have hl1:=hfit.seeds
 have hl2:=hfit.vers
 have hl3:=hfit.seen
 have hL2:LeC m.vers.length 9223372036854775807:=⟨by omega⟩
 have hL3:LeC m.seen.length 1000000:=⟨by omega⟩
 refine enter Tryz.func37 rfl rfl (Wd.begin (fs:=[GlF m.sp m.seeds,GlF m.vp m.vers,GlF m.ep m.seen]) (by simp;exact ⟨hm.imp fun _ h=>h.1,hm.imp fun _ h=>h.2.1,hm.imp fun _ h=>h.2.2⟩)) (fun a S=>?_)
 simp only[Tryz.ntmps37,qqA,qqB,Nat.reduceAdd,Nat.reduceSub,qqC,qqD,qqE,qqF]at S
 refine kS (kR ?_);refine sa S ?_;clear S;intro b1 a w S;refine sq S ?_;clear S;intro a S;refine kN (xtn ?_)
 refine c_mrge1 S (fun(ok0:Bool) uu=>[(3,.bool ok0),(3,uu 7),(0,uu 8),(0,uu 9),(0,uu 10),(0,uu 11),(0,uu 12),(0,uu 13),(0,uu 14),(0,uu 15),(0,uu 16),(0,uu 17),(0,uu 18),(0,uu 19),(0,uu 20),(0,uu 21),(0,uu 22),(0,uu 23),(0,uu 24),(0,uu 25),(0,uu 26),(0,uu 27),(0,uu 28),(0,uu 29),(0,uu 30)]) (fun(ok0:Bool)=>[Wk.box b1 67 (cMem m)]) (fun(ok0:Bool)=>[GlF m.sp m.seeds,GlF m.vp m.vers,GlF m.ep m.seen]) (fun(ok0:Bool)=>ok0=headB m.m) ?_ ?_
 refine kR ?_;(iterate 4 (refine sq S ?_;clear S;intro a S));(iterate 3 (refine gQ S ?_;clear S;intro a S));(iterate 2 (refine sq S ?_;clear S;intro a S))
 refine gS S (fun hs1 S=>?_) (fun hs1 S=>?_)
 refine gT S ?_;refine sq S ?_;clear S;intro a S;refine gT S ?_;refine sq S ?_;clear S;intro a S;refine gT S ?_;refine sq S ?_;clear S;intro a S;refine gT S ?_;refine sq S ?_;clear S;intro a S;refine gT S ?_;refine sq S ?_;clear S;intro a S;refine gT S ?_;refine sq S ?_;clear S;intro a S;refine gT S ?_;refine sn S ?_;clear S;intro b22 a w S
 replace S:=S.boxRow b22 1 3 rfl (by decide)
 rw[show [Value.int .i64 m.leaf,.int .i64 m.counter,.int .i64 m.num]=encL [m.leaf,m.counter,m.num] from rfl]at S
 replace S:=S.rowToGl (some ⟨b22,0,none⟩) [m.leaf,m.counter,m.num] (e:=3) (sz:=1) (n:=3) (c:=3) (fun _ _ _ _=>trivial)
 refine gT S ?_
 refine sr S (counted_c [m.leaf,m.counter,m.num] (some ⟨b22,0,none⟩) 3 3 _ rfl (by decide) (S.gl0 _)) ?_;clear S;rintro _ a w rfl S
 (iterate 2 (refine sq S ?_;clear S;intro a S));(iterate 4 (refine gQ S ?_;clear S;intro a S));(iterate 2 (refine sq S ?_;clear S;intro a S));refine kN (xtn ?_)
 exact ⟨_,S.uu,by show _=(decide (1≤m.user)&&decide (m.user≤6)&&(cntK m.leaf&&(cntK m.counter&&cntK m.num))&&decide ((m.seeds.length:Int)≤6));rw[hs1];simp,S.sub _ _⟩
 refine gF S ?_;clear S;intro a S;(iterate 7 (refine gF S ?_;clear S;intro a S));(iterate 2 (refine sq S ?_;clear S;intro a S));(iterate 4 (refine gQ S ?_;clear S;intro a S));(iterate 2 (refine sq S ?_;clear S;intro a S));refine kN (xtn ?_)
 exact ⟨_,S.uu,by show _=(decide (1≤m.user)&&decide (m.user≤6)&&(cntK m.leaf&&(cntK m.counter&&cntK m.num))&&decide ((m.seeds.length:Int)≤6));rw[hs1];simp,S.sub _ _⟩
 clear S;rintro ok0 uu a w hok0 S;refine kS (kR (sq S ?_));clear S;intro a S;refine kN (xtn (kS (kS (kR ?_))));(iterate 4 (refine sq S ?_;clear S;intro a S));refine kN (xtn (kB ?_))
 refine c_fore2 S (fun(k:Nat) (ok:Bool) uu=>[(3,.bool ok),(0,str (lastM m.seeds k)),(1,uu 6),(27,.int .i64 (k:Nat)),(0,uu 35),(0,uu 36),(0,uu 37),(0,uu 38),(0,uu 39),(0,uu 40),(0,uu 41),(0,uu 42),(0,uu 43),(0,uu 44),(0,uu 45),(0,uu 46),(0,uu 47),(0,uu 48),(0,uu 49),(0,uu 50),(0,uu 51),(0,uu 52),(0,uu 53),(0,uu 54),(0,uu 55),(0,uu 56),(0,uu 57),(0,uu 58),(0,uu 59),(0,uu 60),(0,uu 61),(0,uu 62),(0,uu 63),(0,uu 64),(0,uu 65)]) (fun(k:Nat) (ok:Bool)=>[Wk.box b1 67 (cMem m)]) (fun(k:Nat) (ok:Bool)=>[GlF m.sp m.seeds,GlF m.vp m.vers,GlF m.ep m.seen]) (fun(k:Nat) (ok:Bool)=>k≤m.seeds.length∧(ok&&riseS m.user (lastM m.seeds k) (m.seeds.drop k))=(headB m.m&&riseS m.user [] m.seeds)) (fun(k:Nat) (ok:Bool)=>m.seeds.length - k) (0) (ok0) ?_ S.uu ?_ ?_
 exact ⟨Nat.zero_le _,by rw[hok0];rfl⟩
 first | exact S | exact S.sub _ _
 clear S;rintro k ok uu a w ⟨hk,hrel⟩ S
 refine kS (kR (sq S ?_));clear S;intro a S;refine kN (xtn (kS ?_))
 refine kC S (fun h4=>?_) (fun h4=>?_)
 refine kK (xtn (kS (kB (kS ?_))))
 have hkl:k < m.seeds.length:=by have:=of_decide_eq_true h4;omega
 have hK:KLt k m.seeds.length:=⟨hkl⟩
 have hLn:LeC (nthG m.seeds k).key.length 1000000:=⟨by have:=hfit.names _ (nthG_mem hkl);omega⟩
 replace hrel:(ok&&(namedB m.user (nthG m.seeds k).key&&Op.bytesLess (lastM m.seeds k) (nthG m.seeds k).key&&decide (0 < (nthG m.seeds k).ver)&&cntK (nthG m.seeds k).ver&&riseS m.user (nthG m.seeds k).key (m.seeds.drop (k+1))))=(headB m.m&&riseS m.user [] m.seeds):=by
  rw[←hrel,nthG_drop hkl];rfl
 refine kR ?_;(iterate 2 (refine sq S ?_;clear S;intro a S));refine sa S ?_;clear S;intro b6 a w S;refine sw S ?_;clear S;intro a w S;refine kN (xtn ?_)
 refine c_mrge1 S (fun(ok1:Bool) uu=>[(3,.bool ok1),(34,uu 38),(0,uu 39),(0,uu 40),(0,uu 41),(0,uu 42),(0,uu 43),(0,uu 44),(0,uu 45),(0,uu 46),(0,uu 47),(0,uu 48),(0,uu 49),(0,uu 50),(0,uu 51),(0,uu 52),(0,uu 53),(0,uu 54),(0,uu 55),(0,uu 56),(0,uu 57),(0,uu 58),(0,uu 59),(0,uu 60),(0,uu 61),(0,uu 62)]) (fun(ok1:Bool)=>[Wk.box b6 175 [str (nthG m.seeds k).key,.int .i64 (nthG m.seeds k).ver],Wk.box b1 67 (cMem m)]) (fun(ok1:Bool)=>[GlF m.sp m.seeds,GlF m.vp m.vers,GlF m.ep m.seen]) (fun(ok1:Bool)=>ok1=(ok&&namedB m.user (nthG m.seeds k).key&&Op.bytesLess (lastM m.seeds k) (nthG m.seeds k).key&&decide (0 < (nthG m.seeds k).ver)&&cntK (nthG m.seeds k).ver)) ?_ ?_
 refine kR ?_;(iterate 2 (refine sq S ?_;clear S;intro a S));(iterate 4 (refine gQ S ?_;clear S;intro a S));refine gC S ?_;clear S;intro a w S;(iterate 2 (refine sq S ?_;clear S;intro a S));(iterate 4 (refine gQ S ?_;clear S;intro a S));(iterate 2 (refine sq S ?_;clear S;intro a S));(iterate 3 (refine gQ S ?_;clear S;intro a S));(iterate 2 (refine sq S ?_;clear S;intro a S))
 refine gS S (fun hs6 S=>?_) (fun hs6 S=>?_)
 refine gT S ?_;refine sq S ?_;clear S;intro a S;refine gT S ?_;refine sq S ?_;clear S;intro a S;refine gT S ?_;refine sn S ?_;clear S;intro b60 a w S
 replace S:=S.boxRow b60 1 1 rfl (by decide)
 rw[show [Value.int .i64 (nthG m.seeds k).ver]=encL [(nthG m.seeds k).ver] from rfl]at S
 replace S:=S.rowToGl (some ⟨b60,0,none⟩) [(nthG m.seeds k).ver] (e:=3) (sz:=1) (n:=1) (c:=1) (fun _ _ _ _=>trivial)
 rw[show (str (nthG m.seeds k).key::encL [(nthG m.seeds k).ver])=[str (nthG m.seeds k).key,.int .i64 (nthG m.seeds k).ver] from rfl]at S
 refine gT S ?_
 refine sr S (counted_c [(nthG m.seeds k).ver] (some ⟨b60,0,none⟩) 1 1 _ rfl (by decide) (S.gl0 _)) ?_;clear S;rintro _ a w rfl S
 (iterate 2 (refine sq S ?_;clear S;intro a S));refine kN (xtn ?_)
 exact ⟨_,S.uu,by rw[hs6];simp,S.sub _ _⟩
 refine gF S ?_;clear S;intro a S;(iterate 3 (refine gF S ?_;clear S;intro a S));(iterate 2 (refine sq S ?_;clear S;intro a S));refine kN (xtn ?_)
 exact ⟨_,S.uu,by rw[hs6];simp,S.sub _ _⟩
 clear S;rintro ok1 uu a w hok1 S;refine kR ?_;(iterate 3 (refine sq S ?_;clear S;intro a S));refine kN (xbn (xtn (kR ?_)));(iterate 2 (refine sq S ?_;clear S;intro a S));refine kN (xtn ?_)
 rw[w64 ((k:Int)+1) (by omega) (by omega)]at S
 refine ⟨k+1,ok1,S.uu,⟨hkl,?_⟩,S.sub _ _,by omega⟩
 rw[←hrel,hok1]
 show (_&&riseS m.user (nthG m.seeds k).key (m.seeds.drop (k+1)))=_
 simp only[Bool.and_assoc]
 refine kE (xte (xte (xbe (xtn (kS (kS ?_))))))
 have hkl:m.seeds.length≤k:=by have:=of_decide_eq_false h4;omega
 replace hrel:ok=(headB m.m&&riseS m.user [] m.seeds):=by
  rw[←hrel,List.drop_of_length_le hkl,riseS,Bool.and_true]
 have he:memB m.m=(ok&&okM m.vers&&seenB 0 (ssP m.seen)):=by rw[hrel];rfl
 refine kR ?_;(iterate 3 (refine sq S ?_;clear S;intro a S));(iterate 2 (refine gQ S ?_;clear S;intro a S));refine gC S ?_;clear S;intro a w S;refine gQ S ?_;clear S;intro a S;(iterate 2 (refine sq S ?_;clear S;intro a S));(iterate 2 (refine gQ S ?_;clear S;intro a S));refine gC S ?_;clear S;intro a w S;refine gQ S ?_;clear S;intro a S;refine sq S ?_;clear S;intro a S;refine kN (xtn ?_)
 refine kC S (fun h9=>?_) (fun h9=>?_)
 refine kS (kR (sq S ?_));clear S;intro a S;refine kN (xtn (kT (xtr ?_)))
 refine end1 S (fun _=>?_)
 rw[mchkF,he,if_neg]
 rw[tchk_dec,fchk_dec]at h9
 rw[Bool.and_eq_true,Bool.and_eq_true]
 rintro ⟨⟨h1,h2⟩,h3⟩
 rw[h1,h2,h3]at h9;cases h9
 refine kK (xtn (kS (kR (sq S ?_))));clear S;intro a S;refine kN (xtn (kT ?_))
 refine end1 S (fun _=>?_)
 rw[tchk_dec,fchk_dec]at h9
 simp only[Bool.or_eq_false_iff,Bool.not_eq_false']at h9
 rw[mchkF,he,h9.1.1,h9.1.2,h9.2];rfl
end Go.Proofs.YtdakncgafdnjfaaGreat
namespace Go.Wk
open Go
section
variable {P:Program} {r:Option Nat} {ops:Array Oper} {Q:Exit→Act→World→Prop} {w0:World} {M0:Nat→Prop} {ds:List Deferred} {a:Act} {w:World} {l:List Value} {bs bs':List Item} {fs:List (World→Prop)}
 {d:Option Nat} {op:Op} {ty:TypeId} {pos:String} {af:Array Edge} {rest:List Oper} {v:Value} {t e:TypeId} {sz by_ c:Nat} {z:Value} {xs:List Value} {x y:Operand}
theorem own_more {w:World} {p:Option Addr} {n m c:Nat} (h:w.ownsRow 0 e sz (.slice p n c) n xs) (hm:n≤m) (hmc:m≤c) (_h0:0 < c) (hn:0 < n):∃ ys,ys.length=(m - n)*sz∧w.ownsRow 0 e sz (.slice p m c) m (xs++ys):=by
 obtain ⟨g,cur,rfl,hg,hnc,hcs,htk,hcm⟩:=own_cells h hn
 have hmm:=Nat.mul_le_mul_right sz hmc
 have hnm:=Nat.mul_le_mul_right sz hm
 have hcl:cur.toList.length=c*sz:=by rw[Array.length_toList,hcs]
 refine ⟨(cur.toList.take (m*sz)).drop (n*sz),?_,?_,.inr ⟨g,c,cur,rfl,Nat.zero_le _,hg,hmc,hcm,hcs,?_⟩⟩
 rw[List.length_drop,List.length_take,hcl,Nat.sub_mul];omega
 rw[List.length_append,h.1,List.length_drop,List.length_take,hcl];omega
 have e1:xs=(cur.toList.take (m*sz)).take (n*sz):=by rw[List.take_take,←htk,Nat.min_eq_left hnm]
 conv=>rhs;rw[e1]
 rw[List.take_append_drop]
end
def kiIdx (k:Int):List (Int × Value)→Nat→Option (Nat × Value)
 | [],_=>none
 | (u,v)::kv,i=>if k=u then some (i,v) else kiIdx k kv (i+1)
def kiGet (k:Int) (kv:List (Int × Value)):Option Value:=(kiIdx k kv 0).map (·.2)
def kiPut (k:Int) (v:Value):List (Int × Value)→List (Int × Value)
 | []=>[(k,v)]
 | (u,x)::kv=>if k=u then (u,v)::kv else (u,x)::kiPut k v kv
def mpn (b:Nat) (kv:List (Int × Value)):Item where
 foot:=fun k=>k=b
 holds:=fun w=>∃ es clock,w.heap[b]? = some (.map es clock)∧ents es=(kv.map fun x=>((.int .i64 x.1),x.2))∧(∀ e∈es.toList,e.born < clock)∧(es.toList.map (·.born)).Nodup
theorem mpn_loc (b:Nat) (kv:List (Int × Value)) (w1 w2:World) (h:∀ k,(mpn b kv).foot k→w2.heap[k]? = w1.heap[k]?) (h1:(mpn b kv).holds w1):(mpn b kv).holds w2:=by
 obtain ⟨es,clock,h2,h3⟩:=h1
 exact ⟨es,clock,by rw[h b rfl];exact h2,h3⟩
class HasMpn (bs:List Item) (b:Nat) (kv:outParam (List (Int × Value))):Prop where mem:mpn b kv∈bs
instance hmpn0 {b:Nat} {kv:List (Int × Value)} {bs:List Item} : HasMpn (mpn b kv::bs) b kv:=⟨List.mem_cons_self ..⟩
instance (priority:=900) hmpn1 {b:Nat} {kv:List (Int × Value)} {x:Item} {bs:List Item} [h:HasMpn bs b kv]:HasMpn (x::bs) b kv:=⟨List.mem_cons_of_mem _ h.mem⟩
def MpnF (b:Nat) (kv:List (Int × Value)):World→Prop:=(mpn b kv).holds
class HasMpnF (fs:List (World→Prop)) (b:Nat) (kv:outParam (List (Int × Value))):Prop where mem:MpnF b kv∈fs
instance hmpnf0 {b:Nat} {kv:List (Int × Value)} {fs:List (World→Prop)} : HasMpnF (MpnF b kv::fs) b kv:=⟨List.mem_cons_self ..⟩
instance (priority:=900) hmpnf1 {b:Nat} {kv:List (Int × Value)} {Φ:World→Prop} {fs:List (World→Prop)} [h:HasMpnF fs b kv]:HasMpnF (Φ::fs) b kv:=⟨List.mem_cons_of_mem _ h.mem⟩
class KiOf (bs:List Item) (fs:List (World→Prop)) (b:Nat) (kv:outParam (List (Int × Value))):Prop where of:∀ w,Mem w bs fs→(mpn b kv).holds w
instance (priority:=900) kiof1 {b:Nat} {kv:List (Int × Value)} {bs:List Item} {fs:List (World→Prop)} [h:HasMpnF fs b kv]:KiOf bs fs b kv:=⟨fun _ mm=>(mm.facts _ h.mem).now⟩
theorem MpnF.stable {w:World} {b:Nat} {kv:List (Int × Value)} {M:Nat→Prop} (h:MpnF b kv w) (hM:¬M b):Stable M w (MpnF b kv):=fun w' hw'=>by
 obtain ⟨es,clock,hb,he⟩:=h
 exact ⟨es,clock,by rw[hw'.blk (Array.getElem?_eq_some_iff.1 hb).1 hM];exact hb,he⟩
theorem same_int (s u:Int):Instr.sameNow (.int .i64) (.int .i64 s) (.int .i64 u)=some (decide (s=u)):=by
 obtain ⟨r,hr,hiff⟩:=MapKept.sameNow_of_keys (d:=(.int .i64)) (a:=.int .i64 s) (b:=.int .i64 u) (by simp[MapKept.IsKey]) (by simp[MapKept.IsKey])
 rw[hr]
 congr 1
 rw[Bool.eq_iff_iff,hiff];simp
theorem find_ki (k:Int):∀ (l:List MapEntry) (kv:List (Int × Value)) (i:Nat),(l.map fun e=>(e.key,e.val))=(kv.map fun x=>((.int .i64 x.1),x.2))→Instr.findNow (.int .i64) (.int .i64 k) l i=some (kiIdx k kv i)
 | [],[],i,_=>rfl
 | [],_::_,_,h=>by simp at h
 | _::_,[],_,h=>by simp at h
 | e::l,(u,v)::kv,i,h=>by
  simp only[List.map_cons,List.cons.injEq,Prod.mk.injEq]at h
  obtain ⟨⟨h1,h2⟩,h3⟩:=h
  have hs:Instr.sameNow (.int .i64) (.int .i64 k) e.key=some (decide (k=u)):=by
   rw[h1,same_int]
  rw[Instr.findNow,hs,kiIdx]
  by_cases hk:k=u
  rw[if_pos hk];simp[hk,h2]
  rw[if_neg hk];simp only[hk,decide_false]
  exact find_ki k l kv (i+1) h3
theorem kiIdx_some {k:Int} : ∀ {kv:List (Int × Value)} {i j:Nat} {v:Value},kiIdx k kv i=some (j,v)→i≤j∧kv[j - i]? = some (k,v)
 | [],i,j,v,h=>by simp[kiIdx]at h
 | (u,x)::kv,i,j,v,h=>by
  rw[kiIdx]at h
  split at h
  rename_i hk
  simp at h
  obtain ⟨rfl,rfl⟩:=h
  simp[hk]
  have:=kiIdx_some h
  refine ⟨by omega,?_⟩
  rw[show j - i=j - (i+1)+1 from by omega]
  simpa using this.2
theorem kiPut_idx {k:Int} {v:Value} : ∀ {kv:List (Int × Value)} {i j:Nat} {x:Value},kiIdx k kv i=some (j,x)→kiPut k v kv=kv.set (j - i) (k,v)
 | [],i,j,x,h=>by simp[kiIdx]at h
 | (u,y)::kv,i,j,x,h=>by
  rw[kiIdx]at h
  rw[kiPut]
  split at h
  rename_i hk
  simp at h
  obtain ⟨rfl,rfl⟩:=h
  rw[if_pos hk];simp[hk]
  rename_i hk
  rw[if_neg hk]
  have h1:=kiIdx_some h
  rw[kiPut_idx h,show j - i=j - (i+1)+1 from by omega]
  simp
theorem kiPut_none {k:Int} {v:Value} : ∀ {kv:List (Int × Value)} {i:Nat},kiIdx k kv i=none→kiPut k v kv=kv++[(k,v)]
 | [],i,h=>rfl
 | (u,y)::kv,i,h=>by
  rw[kiIdx]at h
  split at h
  cases h
  rename_i hk
  rw[kiPut,if_neg hk,kiPut_none h];rfl
section
variable {P:Program} {r:Option Nat} {ops:Array Oper} {Q:Exit→Act→World→Prop} {w0:World} {M0:Nat→Prop} {ds:List Deferred} {a:Act} {w:World} {l l':List Value} {bs bs':List Item} {fs:List (World→Prop)}
 {d:Option Nat} {op:Op} {t ty:TypeId} {pos:String} {af:Array Edge} {rest:List Oper} {v z:Value} {e kt et:TypeId} {sz by_ b:Nat} {x y u:Operand} {lc:Cx} {k:Int} {kv:List (Int × Value)}
theorem run_keyI (hk:P.underlying kt=some (.int .i64)) (em:Bool) (w:World):(Instr.checkKey em 10000 kt (.int .i64 k)).run P w=.ok () w:=MapKept.run_checkKey (k:=.int .i64 k) hk (by simp[MapKept.IsKey]) em 9999
instance opLookI [Ev lc x (.map (some b))] [Ev lc y (.int .i64 k)] [ht:Und P t (.map kt et)] [hk:Und P kt (.int .i64)] [hz:TI P et z sz by_] [hm:KiOf bs fs b kv] :
  OpQ P (.lookup t x y false) ty lc bs fs ((kiGet k kv).getD z):=⟨fun ρ w h mm=>by
 obtain ⟨es,clock,hb,he,_⟩:=hm.of w mm
 have hf:=find_ki k es.toList kv 0 he
 have h1:=MapKept.run_getObj_map (P:=P) hb
 have h2:=run_keyI (P:=P) (k:=k) hk.eq es.isEmpty w
 have h3:=MapKept.run_findKey (P:=P) (w:=w) hk.eq hf
 have h4:(Instr.lookup t (.map (some b)) (.int .i64 k) false).run P w=.ok ((kiGet k kv).getD z) w:=by
  unfold kiGet
  simp[Instr.lookup,Sem.run_bind,run_und,h1,h2,h3,Result.andThen]
  cases kiIdx k kv 0 with
  | none=>simp[run_zero (P:=P) (t:=et) (z:=z) (s:=sz) (b:=by_)]
  | some q=>simp
 simp[xop,execOp,h.ev (x:=x) (v:=.map (some b)),h.ev (x:=y) (v:=.int .i64 k),h4]⟩
theorem smmi {l':Nat→List Value} (S:St w0 M0 ds a w l bs fs) [hp:∀ b,PutO l d (.map (some b)) (l' b)] (K:∀ b a w,St w0 M0 ds a w (l' b) (mpn b []::bs) fs→WL P r ops Q rest a w):WL P r ops Q (⟨d,.makeMap t none,ty,pos,af,none⟩::rest) a w:=by
 refine wl_plain rfl ?_
 rw[semAt_nd rfl]
 have e1:(xop a.eval (.makeMap t none) ty).run P w=.ok (.value (.map (some w.heap.size))) (w.alloc (.map #[] 0)):=by
  simp[xop,execOp,Instr.makeMap,newObj,Sem.run]
 simp only[e1,Oper.uponIn]
 have:=hp w.heap.size
 have S':=S.put (d:=d) (v:=.map (some w.heap.size))
 have hfoot:∀ k,(mpn w.heap.size []).foot k→k=w.heap.size:=fun _ h=>h
 refine K _ _ _ ⟨S'.slots,S'.defers,(S'.wd.step (Agree.alloc _ w _)).more ⟨#[],0,heap_alloc_new w _,rfl,by simp,by simp⟩ (fun k hk=>by rw[hfoot k hk];exact S'.wd.agree.size) (fun k hk=>by rw[hfoot k hk];simp) (fun it hi k hk hk'=>?_) (fun Φ hΦ w'' hw''=>?_) (mpn_loc _ _)⟩
 have:=S'.wd.lt it hi k hk'
 rw[hfoot k hk]at this;omega
 refine S'.wd.facts Φ hΦ w'' (((Agree.alloc _ w _:Grow w _).mono (fun _ _ h=>h.elim)).trans' hw'' fun i hi ⟨it,hm,hk⟩=>?_)
 rcases List.mem_cons.1 hm with rfl | hm
 rw[hfoot i hk]at hi;omega
 exact ⟨it,hm,hk⟩
theorem smui (S:St w0 M0 ds a w l bs fs) [Ev ⟨[],l⟩ x (.map (some b))] [Ev ⟨[],l⟩ y (.int .i64 k)] [Ev ⟨[],l⟩ u v] [ht:Und P t (.map kt et)] [hk:Und P kt (.int .i64)] [hm:HasMpn bs b kv] [hrep:ReplI bs (mpn b kv) (mpn b (kiPut k v kv)) bs'] [hp:PutO l d undef l']
  (K:∀ a w,St w0 M0 ds a w l' bs' fs→WL P r ops Q rest a w):WL P r ops Q (⟨d,.mapUpdate t x y u,ty,pos,af,none⟩::rest) a w:=by
 refine wl_plain rfl ?_
 rw[semAt_nd rfl]
 obtain ⟨es,clock,hb,he,hbn,hnd⟩:(mpn b kv).holds w:=S.wd.held _ hm.mem
 have hf:=find_ki k es.toList kv 0 he
 have h1:=MapKept.run_getObj_map (P:=P) hb
 have h2:=run_keyI (P:=P) (k:=k) hk.eq false w
 have h3:=MapKept.run_findKey (P:=P) (w:=w) hk.eq hf
 have S':=S.put (d:=d) (v:=undef) (l':=l')
 have key:∃ es' clock',(Instr.mapUpdate t (.map (some b)) (.int .i64 k) v).run P w=.ok () { w with heap:=w.heap.setIfInBounds b (.map es' clock') }∧ents es'=((kiPut k v kv).map fun x=>((.int .i64 x.1),x.2))∧(∀ e∈es'.toList,e.born < clock')∧(es'.toList.map (·.born)).Nodup:=by
  cases hi:kiIdx k kv 0 with
  | none=>
   rw[hi]at h3
   refine ⟨es.push { key:=.int .i64 k,val:=v,born:=clock },clock+1,?_,?_,?_,?_⟩
   simp[Instr.mapUpdate,Sem.run_bind,run_und,h1,h2,h3,MapKept.run_setObj_map _ hb]
   rw[kiPut_none hi,List.map_append,←he];simp[ents]
   intro e hem
   simp only[Array.toList_push,List.mem_append,List.mem_singleton]at hem
   rcases hem with hem | rfl
   have:=hbn e hem;omega
   exact Nat.lt_succ_self _
   simp only[Array.toList_push,List.map_append,List.map_cons,List.map_nil]
   refine List.nodup_append.2 ⟨hnd,by simp,fun x hx y hy hxy=>?_⟩
   obtain ⟨e,hem,rfl⟩:=List.mem_map.1 hx
   have:=hbn e hem
   obtain rfl:=List.mem_singleton.1 hy
   omega
  | some q=>
   obtain ⟨j,x0⟩:=q
   rw[hi]at h3
   have h5:=kiIdx_some hi
   have hje:(ents es)[j]? = some (.int .i64 k,x0):=by
    rw[he,List.getElem?_map]
    have:=h5.2
    simp at this
    simp[this]
   obtain ⟨en,hen,hen2⟩:∃ en,es[j]? = some en∧en.key=.int .i64 k:=by
    simp only[ents,List.getElem?_map]at hje
    obtain ⟨en,q1,q2⟩:=Option.map_eq_some_iff.1 hje
    simp at q2
    exact ⟨en,by simpa using q1,q2.1⟩
   have hsb:Instr.sameBits 10000 (.int .i64 k) (.int .i64 k)=true:=by simp[Instr.sameBits]
   have hborn:(es.modify j fun e=>{ e with key:=.int .i64 k,val:=v }).toList.map (·.born)=es.toList.map (·.born):=by
    apply List.ext_getElem?
    intro i
    simp only[List.getElem?_map,Array.getElem?_toList,Array.getElem?_modify]
    by_cases hij:j=i
    subst hij;rw[if_pos rfl,Option.map_map];rfl
    rw[if_neg hij]
   refine ⟨es.modify j fun e=>{ e with key:=.int .i64 k,val:=v },clock,?_,?_,fun e hem=>?_,by rw[hborn];exact hnd⟩
   simp[Instr.mapUpdate,Sem.run_bind,run_und,h1,h2,h3,hen,hen2,Instr.keyThatStays,hsb,MapKept.run_setObj_map _ hb]
   rw[kiPut_idx hi,List.map_set,←he]
   apply List.ext_getElem?
   intro i
   simp only[ents,List.getElem?_map,Array.getElem?_toList,Array.getElem?_modify,List.getElem?_set,Nat.sub_zero]
   by_cases hij:j=i
   subst hij
   have hlt:j < es.size:=(Array.getElem?_eq_some_iff.1 hen).1
   simp[hlt]
   simp[hij]
   have hm1:e.born∈es.toList.map (·.born):=by rw[←hborn];exact List.mem_map.2 ⟨e,hem,rfl⟩
   obtain ⟨e0,he0,h0⟩:=List.mem_map.1 hm1
   rw[←h0];exact hbn e0 he0
 obtain ⟨es',clock',hrun,hen⟩:=key
 have e1:(xop a.eval (.mapUpdate t x y u) ty).run P w=.ok .skip { w with heap:=w.heap.setIfInBounds b (.map es' clock') }:=by
  simp[xop,execOp,S.fr.ev (x:=x) (v:=.map (some b)),S.fr.ev (x:=y) (v:=.int .i64 k),S.fr.ev (x:=u) (v:=v),hrun]
 simp only[e1,Oper.uponIn]
 have hset:=MapKept.heap_set (o':=.map es' clock') hb
 have hlt:b < w.heap.size:=(Array.getElem?_eq_some_iff.1 hb).1
 exact K _ _ (S.reput (x:=mpn b kv) (y:=mpn b (kiPut k v kv)) S'.slots S'.defers rfl ⟨rfl,rfl,rfl,by simp,fun i _ hn=>hset.2 i hn⟩ ⟨es',clock',hset.1,hen⟩ (fun i h=>.inl h) (fun i h=>by cases h;simpa using hlt) (mpn_loc _ _))
end
section
variable {P:Program} {ty t t':TypeId} {l:Cx} {bs:List Item} {fs:List (World→Prop)} {x y:Operand} {e:TypeId}
instance opPnE [Ev l x (.pointer none)] [Ev l y (.pointer none)] [Und P t (.pointer e)]:OpQ P (.binOp .eql t x y t') ty l bs fs (.bool true):=⟨fun ρ w h _=>by
 simp[xop,execOp,h.ev (x:=x) (v:=.pointer none),h.ev (x:=y) (v:=.pointer none),eqGuard,binOp,run_equal (P:=P) (t:=t) (u:=.pointer none) (v:=.pointer none) (d:=.pointer e) (b:=true) w rfl]⟩
instance opPsE {a:Addr} [Ev l x (.pointer (some a))] [Ev l y (.pointer none)] [Und P t (.pointer e)]:OpQ P (.binOp .eql t x y t') ty l bs fs (.bool false):=⟨fun ρ w h _=>by
 simp[xop,execOp,h.ev (x:=x) (v:=.pointer (some a)),h.ev (x:=y) (v:=.pointer none),eqGuard,binOp,run_equal (P:=P) (t:=t) (u:=.pointer (some a)) (v:=.pointer none) (d:=.pointer e) (b:=false) w rfl]⟩
instance opPsN {a:Addr} [Ev l x (.pointer (some a))] [Ev l y (.pointer none)] [Und P t (.pointer e)]:OpQ P (.binOp .neq t x y t') ty l bs fs (.bool true):=⟨fun ρ w h _=>by
 simp[xop,execOp,h.ev (x:=x) (v:=.pointer (some a)),h.ev (x:=y) (v:=.pointer none),eqGuard,binOp,run_equal (P:=P) (t:=t) (u:=.pointer (some a)) (v:=.pointer none) (d:=.pointer e) (b:=false) w rfl]⟩
end
structure Blk where
 l:List UInt8
 h:l.length=64
deriving DecidableEq
abbrev Blk.cells (b:Blk):List Value:=encL b.l
abbrev vBlk (b:Blk):Value:=.agg ⟨encL b.l⟩
theorem Blk.len (b:Blk):(encL b.l).length=64:=by rw[encL_len,b.h];rfl
instance encBlk:Enc Blk:=⟨64,fun b=>encL b.l,Blk.len,fun b u hu=>encL_one b.l u hu⟩
instance lenBlk {b:Blk} : LenIs (encL b.l) 64:=⟨b.len⟩
instance (priority:=500) takeW {cs:List Value} {n:Nat} [h:LenIs cs n]:TakeN cs n cs:=⟨h.eq,List.prefix_refl _⟩
instance flatBlk {b:List UInt8} : Flat (encL b):=⟨encL_one b⟩
instance (priority:=500) sfB {a b:Blk} : SetFront (encL a.l) (encL b.l) (encL b.l):=⟨by rw[a.len,b.len];exact Nat.le_refl _,by rw[b.len,List.drop_of_length_le (by rw[a.len];exact Nat.le_refl _),List.append_nil]⟩
def u32s (l:List Int):List Value:=l.map (Value.int .u32)
theorem u32s_get {l:List Int} {k:Nat} (h:k < l.length):(u32s l)[k]? = some (.int .u32 (nthI l k)):=by
 rw[u32s,List.getElem?_map,nthI_get h];rfl
theorem u32s_len (l:List Int):(u32s l).length=l.length:=by simp[u32s]
theorem u32s_set (l:List Int) (k:Nat) (x:Int) (h:k < l.length):(u32s l).take k++[.int .u32 x]++(u32s l).drop (k+1)=u32s (l.set k x):=by
 unfold u32s
 rw[List.map_set]
 apply List.ext_getElem?
 intro i
 rw[List.getElem?_set]
 by_cases h1:i < k
 rw[List.append_assoc,List.getElem?_append_left (by rw[List.length_take,List.length_map];omega),List.getElem?_take,if_pos h1,if_neg (by omega)]
 by_cases h2:i=k
 subst h2
 rw[if_pos rfl,if_pos (by simpa using h),List.append_assoc,List.getElem?_append_right (by rw[List.length_take,List.length_map];omega)]
 simp[Nat.min_eq_left (Nat.le_of_lt h)]
 rw[if_neg (fun h=>h2 h.symm),List.append_assoc,List.getElem?_append_right (by rw[List.length_take,List.length_map];omega),List.length_take,List.length_map,Nat.min_eq_left (by omega),List.getElem?_append_right (by simp;omega),List.getElem?_drop]
 congr 1;simp;omega
instance nthU {l:List Int} {k:Nat} [h:KLt k l.length]:Nth (u32s l) k (.int .u32 (nthI l k)):=⟨u32s_get h.lt⟩
instance setU {l:List Int} {k:Nat} {x:Int} [h:KLt k l.length]:SetSeg (u32s l) k [.int .u32 x] (u32s (l.set k x)):=⟨by rw[u32s_len];exact h.lt,u32s_set l k x h.lt⟩
instance lenU {l:List Int} {n:Nat} [h:LenN l n]:LenIs (u32s l) n:=⟨by rw[u32s_len];exact h.eq⟩
instance flatU {l:List Int} : Flat (u32s l):=⟨fun v h=>by obtain ⟨x,-,rfl⟩:=List.mem_map.1 h;rfl⟩
instance sfU8 {a b:List Int} [h:LenN a 8] [k:LenN b 8]:SetFront (u32s a) (u32s b) (u32s b):=⟨by rw[u32s_len,u32s_len,h.eq,k.eq];exact Nat.le_refl _,by rw[List.drop_of_length_le (by rw[u32s_len,u32s_len,h.eq,k.eq];exact Nat.le_refl _),List.append_nil]⟩
instance (priority:=1100) addnZ {b:Nat} : AddN 0 b b:=⟨Nat.zero_add b⟩
section
variable {P:Program} {ty t t':TypeId} {l:Cx} {bs:List Item} {fs:List (World→Prop)} {x y:Operand} {e n k j:Nat} {kk kl:IntKind} {m i:Int} {xs:List Int} {z:Value} {by_:Nat}
instance opIdxU [Ev l x (.agg ⟨u32s xs⟩)] [Ev l y (.int kk m)] [hm:IsNat m k] [ht:Und P t (.array n e)] [hti:TI P e z 1 by_] [ha:AggT P e false] [hk:KLt k xs.length] [hn:LenN xs n]:OpQ P (.index t x y) ty l bs fs (.int .u32 (nthI xs k)):=⟨fun ρ w h mm=>by
 have e1:=hm.eq
 subst e1
 have hlt:=hk.lt
 have e2:(⟨u32s xs⟩:Array Value)[k]? = some (.int .u32 (nthI xs k)):=by
  have:=u32s_get hlt
  simpa using this
 have e3:k < (⟨u32s xs⟩:Array Value).size:=by show k < (u32s xs).length;rw[u32s_len];exact hlt
 simp[xop,execOp,h.ev (x:=x) (v:=.agg ⟨u32s xs⟩),h.ev (x:=y) (v:=.int kk (k:Int)),Instr.index,asIntOf,Sem.run_bind,run_und,run_size,part,ha.run]
 rw[if_pos (by rw[←hn.eq];exact hlt),u32s_get hlt]
 rfl⟩
instance opShl [Ev l x (.int kk m)] [Ev l y (.int kl i)] [hj:IsNat i j]:OpQ P (.binOp .shl t x y t') ty l bs fs (.int kk (kk.wrap (m*2 ^ (min j kk.bits)))):=⟨fun ρ w h _=>by
 have h2:=hj.eq
 subst h2
 have h3:¬((j:Int) < 0):=by omega
 simp[xop,execOp,h.ev (x:=x) (v:=.int kk m),h.ev (x:=y) (v:=.int kl (j:Int)),eqGuard,binOp,Op.shift,h3]⟩
end
instance opBuildA {P:Program} {t ty e:TypeId} {l:Cx} {bs:List Item} {fs:List (World→Prop)} {parts:List (Nat × Operand)} {m sz by1:Nat} {z1:Value} {z:Value} {n by_:Nat} {zs cs:List Value} [ht:Und P t (.array m e)] [TI P e z1 sz by1] [TI P t z n by_] [hc:Cells z zs] [hs:SetMany (fun i=>some (i*sz,sz)) l zs parts cs]:OpQ P (.build t parts.toArray) ty l bs fs (.agg ⟨cs⟩):=⟨fun ρ w h _=>by
 have h1:=hs.run ρ h
 have hz:z.cells=zs.toArray:=by rw[←hc.eq]
 simp only[xop,execOp,Instr.build,Sem.run_bind,run_zero,Result.andThen_ok,run_und,run_size,hz,List.map_toArray]
 simp[h1]⟩
instance (priority:=1200) opSliceArr {P:Program} {t ty e:TypeId} {lc:Cx} {bs:List Item} {fs:List (World→Prop)} {x:Operand} {ol oh:Option Operand} {b lo hi n sz by_:Nat} {z:Value} [Ev lc x (.pointer (some ⟨b,0,none⟩))] [hl:EvB lc ol 0 lo] [hh:EvB lc oh n hi] [ht:Und P t (.array n e)] [TI P e z sz by_] [h2:LeC hi n] [h3:LeC lo hi] :
  OpQ P (.slice t x ol oh none) ty lc bs fs (.slice (some (if n=lo then ⟨b,0,none⟩ else ⟨b,lo*sz,none⟩)) (hi - lo) (n - lo)):=⟨fun ρ w hf _=>by
 have hb:(Instr.sliceBounds false n n (ol.map ρ) (oh.map ρ) none).run P w=.ok (lo,hi,n) w:=by
  rcases hh.eq with ⟨rfl,rfl⟩ | ⟨o2,kk2,rfl,h'⟩
  rcases hl.eq with ⟨rfl,rfl⟩ | ⟨o3,kk3,rfl,h''⟩
  simp[Instr.sliceBounds]
  have e3:=hf.ev (x:=o3) (v:=.int kk3 (lo:Int))
  simp[Instr.sliceBounds,e3,run_sliceBound h3.le]
  have e2:=hf.ev (x:=o2) (v:=.int kk2 (hi:Int))
  rcases hl.eq with ⟨rfl,rfl⟩ | ⟨o3,kk3,rfl,h''⟩
  simp[Instr.sliceBounds,e2,run_sliceBound h2.le]
  have e3:=hf.ev (x:=o3) (v:=.int kk3 (lo:Int))
  simp[Instr.sliceBounds,Sem.run_bind,e2,e3,run_sliceBound h2.le,run_sliceBound h3.le]
 have eX:ρ x=.pointer (some ⟨b,0,none⟩):=hf.ev
 simp[xop,execOp,Instr.sliceAt,eX,Sem.run_bind,run_und,Instr.sureAddr,hb,run_size,add_lit]⟩
instance opArrP {P:Program} {t ty e:TypeId} {lc:Cx} {bs:List Item} {fs:List (World→Prop)} {x:Operand} {p:Option Addr} {n m c:Nat} [Ev lc x (.slice p n c)] [ht:Und P t (.array m e)] [h:LeC m n]:OpQ P (.sliceToArrayPointer t x) ty lc bs fs (.pointer p):=⟨fun ρ w hf _=>by
 have hle:=h.le
 have h1:¬(n < m):=by omega
 simp[xop,execOp,Instr.arrayAt,hf.ev (x:=x) (v:=.slice p n c),Sem.run_bind,run_und,h1]⟩
def bxk (b:Nat) (T:TypeId) (l:List Int) (k:Nat):Item where
 foot:=fun i=>i=b
 holds:=fun w=>∃ v,w.heap[b]? = some (.cells (u32s (l.set k v)).toArray T (0,0))
instance itBxk {b:Nat} {T:TypeId} {l:List Int} {k:Nat} : ItOk (bxk b T l k):=⟨fun w1 w2 h ⟨v,h1⟩=>⟨v,by rw[h b rfl];exact h1⟩,fun w ⟨v,h⟩ i hi=>by obtain rfl:i=b:=hi;exact (Array.getElem?_eq_some_iff.1 h).1⟩
class HasBxk (bs:List Item) (b:Nat) (T:outParam TypeId) (l:outParam (List Int)) (k:outParam Nat):Prop where mem:bxk b T l k∈bs
instance hbk0 {b:Nat} {T:TypeId} {l:List Int} {k:Nat} {bs:List Item} : HasBxk (bxk b T l k::bs) b T l k:=⟨List.mem_cons_self ..⟩
instance (priority:=900) hbk1 {b:Nat} {T:TypeId} {l:List Int} {k:Nat} {x:Item} {bs:List Item} [h:HasBxk bs b T l k]:HasBxk (x::bs) b T l k:=⟨List.mem_cons_of_mem _ h.mem⟩
class NeK (j k:Nat):Prop where ne:j≠k
theorem bxk_cell {w:World} {b:Nat} {T:TypeId} {l:List Int} {k j:Nat} (h:(bxk b T l k).holds w) (hj:j < l.length) (hn:j≠k):w.cell? ⟨b,j,none⟩=some (.int .u32 (nthI l j)):=by
 obtain ⟨v,h⟩:=h
 rw[cell_of_row w b j _ T (0,0) h]
 have h1:=u32s_get (l:=l.set k v) (k:=j) (by rw[List.length_set];exact hj)
 have h2:nthI (l.set k v) j=nthI l j:=by simp[nthI,List.getD_eq_getElem?_getD,Ne.symm hn]
 rw[h2]at h1
 simpa using h1
section
variable {P:Program} {r:Option Nat} {ops:Array Oper} {Q:Exit→Act→World→Prop} {w0:World} {M0:Nat→Prop} {ds:List Deferred} {a:Act} {w:World} {l l':List Value} {bs bs':List Item} {fs:List (World→Prop)}
 {d:Option Nat} {ty t:TypeId} {pos:String} {af:Array Edge} {rest:List Oper} {x y:Operand} {z:Value} {by_ b k j:Nat} {T:TypeId} {xs:List Int}
instance (priority:=820) opLoadBk {lc:Cx} [Ev lc x (.pointer (some ⟨b,j,none⟩))] [hb:HasBxk bs b T xs k] [ha:AggT P t false] [hj:KLt j xs.length] [hn:NeK j k]:OpQ P (.load t x) ty lc bs fs (.int .u32 (nthI xs j)):=⟨fun ρ w hf mm=>by
 have hc:=bxk_cell (mm.held _ hb.mem) hj.lt hn.ne
 simp[xop,execOp,Instr.loadAt,hf.ev (x:=x) (v:=.pointer (some ⟨b,j,none⟩)),Instr.sureAddr,loadVar,Sem.run_bind,ha.run,load,Sem.run,hc]⟩
theorem St.hideK (S:St w0 M0 ds a w l bs fs) (b:Nat) (T:TypeId) (xs:List Int) (k:Nat) (hb:HasBox bs b T (u32s xs)) [hrep:ReplI bs (Wk.box b T (u32s xs)) (bxk b T xs k) bs']:St w0 M0 ds a w l bs' fs:=
 S.reput (x:=Wk.box b T (u32s xs)) (y:=bxk b T xs k) S.slots S.defers rfl (Agree.refl _ _) ⟨nthI xs k,by
  have h:=S.box b (h:=hb)
  have e:xs.set k (nthI xs k)=xs:=by
   by_cases hk:k < xs.length
   rw[nthI,List.getD_eq_getElem?_getD,List.getElem?_eq_getElem hk];simp
   rw[List.set_eq_of_length_le (by omega)]
  rw[e];exact h⟩ (fun _ h=>.inl h) (fun i hi=>by obtain rfl:i=b:=hi;exact (Array.getElem?_eq_some_iff.1 (S.box _ (h:=hb))).1) itBxk.loc
theorem St.showK (S:St w0 M0 ds a w l bs fs) (b:Nat) (T:TypeId) (xs ys:List Int) (k:Nat) (hh:w.heap[b]? = some (.cells (u32s ys).toArray T (0,0))) [hrep:ReplI bs (bxk b T xs k) (Wk.box b T (u32s ys)) bs']:St w0 M0 ds a w l bs' fs:=
 S.reput (x:=bxk b T xs k) (y:=Wk.box b T (u32s ys)) S.slots S.defers rfl (Agree.refl _ _) hh (fun _ h=>.inl h) (fun i hi=>by obtain rfl:i=b:=hi;exact (Array.getElem?_eq_some_iff.1 hh).1) (box_loc _ _ _)
theorem swk (b:Nat) (T:TypeId) (xs:List Int) (k:Nat) {m:Int} (S:St w0 M0 ds a w l bs fs) [Ev ⟨[],l⟩ x (.pointer (some ⟨b,k,none⟩))] [Ev ⟨[],l⟩ y (.int .u32 m)] [TI P t z 1 by_] [hrep:ReplI bs (bxk b T xs k) (bxk b T xs k) bs] [hp:PutO l d undef l'] (hk:k < xs.length) (hh:w.heap[b]? = some (.cells (u32s xs).toArray T (0,0)))
  (K:∀ a w,w.heap[b]? = some (.cells (u32s (xs.set k m)).toArray T (0,0))→St w0 M0 ds a w l' bs fs→WL P r ops Q rest a w):WL P r ops Q (⟨d,.store t x y,ty,pos,af,none⟩::rest) a w:=by
 refine wl_plain rfl ?_
 rw[semAt_nd rfl]
 have hrun:=run_storeCells_at (P:=P) b k T [Value.int .u32 m] 0 (u32s xs).toArray w hh (by simp[u32s_len];omega) (by intro v hv;obtain rfl:=List.mem_singleton.1 hv;rfl)
 simp only[Nat.add_zero,List.length_singleton]at hrun
 have e1:(xop a.eval (.store t x y) ty).run P w=.ok .skip (w.setRow b ((u32s xs).take k++[Value.int .u32 m]++(u32s xs).drop (k+1)).toArray):=by
  have hcs:(Value.int .u32 m).cells = #[Value.int .u32 m]:=rfl
  simp[xop,execOp,Instr.storeAt,S.fr.ev (x:=x) (v:=.pointer (some ⟨b,k,none⟩)),S.fr.ev (x:=y) (v:=.int .u32 m),Instr.sureAddr,storeVar,run_size,Sem.run_bind,hcs,hrun]
 rw[u32s_set xs k m hk]at e1
 simp only[e1,Oper.uponIn]
 have S':=S.put (d:=d) (v:=undef) (l':=l')
 have hnew:=setRow_heap w b (u32s xs).toArray (u32s (xs.set k m)).toArray T (0,0) hh
 exact K _ _ hnew (S.reput (x:=bxk b T xs k) (y:=bxk b T xs k) S'.slots S'.defers rfl (Agree.setRow w b _ rfl) ⟨m,hnew⟩ (fun _ h=>.inl h) (itBxk.lt _ ⟨m,hnew⟩) itBxk.loc)
end
section
variable {P:Program} {r:Option Nat} {Q:Exit→Act→World→Prop} {w0:World} {M0:Nat→Prop} {ds:List Deferred} {a:Act} {w:World} {l:List Value} {bs:List Item} {fs:List (World→Prop)}
theorem c_drwHe0 {id:Nat} {lo:List Oper} (t:Tr) (S:St w0 M0 ds a w l bs fs) (mods:(Nat→Value)→List (Nat × Value)) {l1:(Nat→Value)→List Value} [∀ uu,SetG l (mods uu) (l1 uu)] (bs0:List Item) (bs1:List Item) (fs1:List (World→Prop)) (rel:Prop)
  (h:∀ w',w'.heap=w.heap→St w0 M0 ds a w' l bs fs→AT P lo.toArray (fun w=>Wd w0 M0 w bs0 fs) (fun a w=>∃ vv,rel∧St w0 M0 ds a w (l1 vv) bs1 fs1) t a w') (hK:∀ uu a w,rel→St w0 M0 ds a w (l1 uu) bs1 fs1→Q .normal a w) (hm:P.follows .mixedOrders=true:=by kernel_rfl)
  (hd:((lo.all fun o=>!isDefer o.op)&&(Nat.beq t.len lo.length&&(Region.noSelect lo.toArray&&flowT lo.toArray t (Array.replicate lo.length false))))=true:=by kernel_rfl):Wp P r (.region id lo.toArray true) Q a w:=by
 simp only[Bool.and_eq_true]at hd
 refine wpIn_region_any hm (any_of_ac (C:=fun w=>Wd w0 M0 w bs0 fs) (fun i o ho=>?_) _ _ _ _ ?_)
 have:=List.all_eq_true.1 hd.1 o (by
  rw[List.getElem?_toArray]at ho
  exact List.mem_of_getElem? ho)
 simpa using this
 have:=h { w with drawn:=w.drawn+1 } rfl ⟨S.slots,S.defers,S.wd.step (Agree.drawn _ w _)⟩ _ hd.2.2.1 hd.2.2.2
 rw[Nat.eq_of_beq_eq_true hd.2.1]at this
 have hk:∀ a w,(∃ vv,rel∧St w0 M0 ds a w (l1 vv) bs1 fs1)→Q .normal a w:=fun a w h=>by obtain ⟨vv,h1,h2⟩:=h;exact hK vv a w h1 h2
 simpa using ac_mono hk _ _ _ _ this
end
theorem zeros_u8 (m:Nat):(Builtin.zeroCells (Value.int .u8 0).cells m).toList=encL (List.replicate m (0:UInt8)):=by
 have h1:∀ m,encL (List.replicate m (0:UInt8))=List.replicate m (Value.int .u8 0):=fun m=>by
  induction m with
  | zero=>rfl
  | succ m ih=>rw[qqC,encL_cons,ih,qqC];rfl
 rw[h1]
 apply List.ext_getElem?
 intro i
 rcases Nat.lt_or_ge i m with h | h
 ·simp[Builtin.zeroCells,Value.cells,h,Nat.mod_one]
 ·simp[Builtin.zeroCells,Value.cells,Nat.not_lt.2 h]
theorem rep_flat (m:Nat) (v:Value):(List.replicate m [v]).flatten=List.replicate m v:=by
 induction m with
 | zero=>rfl
 | succ m ih=>rw[qqC,List.flatten_cons,ih];rfl
section
variable {P:Program} {r:Option Nat} {ops:Array Oper} {Q:Exit→Act→World→Prop} {w0:World} {M0:Nat→Prop} {ds:List Deferred} {a:Act} {w:World} {l:List Value} {bs:List Item} {fs:List (World→Prop)}
 {d:Option Nat} {ty t e:TypeId} {pos:String} {af:Array Edge} {rest:List Oper} {x y:Operand} {by_ c:Nat} {xs:List Value}
theorem sapz1 (p:Option Addr) (n:Nat) {m:Nat} {mi:Int} {tn:TypeId} {kn k:IntKind} {l':Option Addr→Nat→List Value} {bs':Option Addr→Nat→List Item} (S:St w0 M0 ds a w l bs fs) [hr:HasRow bs p n e 1 c xs] [Ev ⟨[],l⟩ x (.slice p n c)] [Ev ⟨[],l⟩ y (.int k mi)] [hm:IsNat mi m] [ht:Und P t (.slice e)] [htn:Und P tn (.int kn)] [hti:TI P e (.int .u8 0) 1 by_]
  [hp:∀ p' c',PutO l d (.slice p' (n+m) c') (l' p' c')] [hrep:∀ p' c',ReplI bs (row e 1 p n c xs) (row e 1 p' (n+m) c' (xs++encL (List.replicate m (0:UInt8)))) (bs' p' c')] (hn:0 < n) (h63:n+m≤maxLen) (h48:(n+m)*by_≤140737488355328)
  (K:∀ p' c' a w,St w0 M0 ds a w (l' p' c') (bs' p' c') fs→WL P r ops Q rest a w) :
  WL P r ops Q (⟨d,.call { callee:=.builtin .append,args:=#[x,y],argTypes:=#[t,tn] },ty,pos,af,none⟩::rest) a w:=by
 refine wl_plain rfl ?_
 rw[semAt_nd rfl]
 obtain ⟨ii,hi',hz',hsize,hby⟩:=hti.ex
 subst hby
 have hmm:=hm.eq
 subst hmm
 have h63':=h63
 have hrow:=S.row p n
 have hxl:xs.length=n:=by have:=hrow.1;omega
 obtain ⟨zs,hzs⟩:∃ zs,zs=encL (List.replicate m (0:UInt8)):=⟨_,rfl⟩
 have hzl:zs.length=m:=by rw[hzs,encL_len,List.length_replicate];exact Nat.mul_one _
 have hz1:∀ u∈zs,u.oneCell'=true:=by rw[hzs];exact encL_one _
 have hzz:(Builtin.zeroCells (Value.int .u8 0).cells m).toList=zs:=by rw[hzs];exact zeros_u8 m
 suffices h:∃ p' c' w',(Builtin.append_ #[t,tn] ty #[.slice p n c,.int k (m:Int)]).run P w=.ok (.slice p' (n+m) c') w'∧Agree (fun k=>∃ ad,p=some ad∧k=ad.block) w w'∧w'.ownsRow 0 e 1 (.slice p' (n+m) c') (n+m) (xs++zs)∧∀ ad,p'=some ad→p=some ad∨w.heap.size≤ad.block by
  obtain ⟨p',c',w',hrun,hag,hown,hnew⟩:=h
  have e1:(xop a.eval (.call { callee:=.builtin .append,args:=#[x,y],argTypes:=#[t,tn] }) ty).run P w=.ok (.value (.slice p' (n+m) c')) w':=by
   simp[xop,execOp,resolve,invoke,builtin,S.fr.ev (x:=x) (v:=.slice p n c),S.fr.ev (x:=y) (v:=.int k (m:Int)),hrun]
  simp only[e1,Oper.uponIn]
  have:=hp p' c'
  have:=hrep p' c'
  have S':=S.put (d:=d) (v:=.slice p' (n+m) c') (l':=l' p' c')
  rw[hzs]at hown
  exact K _ _ _ _ (S.reput (x:=row e 1 p n c xs) (y:=row e 1 p' (n+m) c' (xs++encL (List.replicate m (0:UInt8)))) S'.slots S'.defers rfl hag hown (fun k ⟨ad,h1,h2⟩=>(hnew ad h1).imp (fun h=>⟨ad,h,h2⟩) (fun h=>by rw[h2];exact h)) (row_foot_lt hown) (row_loc _ _ _ _ _ _))
 have hs0:0 < ii.size:=by omega
 rcases Nat.eq_zero_or_pos m with h0 | h0
 subst h0
 have hnc:=own_le hrow
 have hz0:zs=[]:=List.eq_nil_of_length_eq_zero hzl
 refine ⟨p,c,w,?_,Agree.refl _ _,by rw[hz0,List.append_nil];exact hrow,fun _ h=>.inl h⟩
 have hw:IntKind.i64.wrap (0:Int)=0:=by decide
 cases p <;> simp[Builtin.append_,run_und,run_underlying htn.eq,sizeOf,typeInfo,hi',asInt,asIntOf,hw,hnc,storeCells,Sem.run_bind]
 by_cases hroom:n+m≤c
 obtain ⟨ys,hyl,hmore⟩:=own_more hrow (Nat.le_add_right n m) hroom (by omega) hn
 obtain ⟨g,cur,hpp,hgc,-⟩:=own_cells hrow hn
 obtain ⟨w',hrun,hag,hown⟩:=own_set (P:=P) hmore (vs:=zs) (o:=n) hpp (by omega) hz1
 have hfin:(xs++ys).take n++zs++(xs++ys).drop (n+zs.length)=xs++zs:=by
  rw[←hxl,List.take_left,List.drop_append,List.drop_of_length_le (by omega),qqF,List.drop_of_length_le (by omega),List.append_nil]
 rw[hfin]at hown
 refine ⟨p,c,w',?_,hag,hown,fun _ h=>.inl h⟩
 have hw:IntKind.i64.wrap (m:Int)=m:=by rw[IntKind.wrap_i64];unfold maxLen at h63;omega
 have hneg:¬((m:Int) < 0):=by omega
 have hns:¬(m=0):=by omega
 have hmb:m*ii.bytes≤(n+m)*ii.bytes:=Nat.mul_le_mul_right _ (by omega)
 have h48i:¬(281474976710656 < (m:Int)*(ii.bytes:Int)):=by rw[←Int.natCast_mul];omega
 rw[hpp]
 have hst:(storeCells (Addr.add ⟨g,0,none⟩ n) zs).run P w=.ok () w':=by rw[add_lit];exact hrun
 have hzz2:(Builtin.zeroCells (Value.int .u8 0).cells m)=zs.toArray:=by rw[←hzz]
 simp[Builtin.append_,run_und,run_underlying htn.eq,sizeOf,typeInfo,zeroValue,hi',hz',hsize,asInt,asIntOf,hw,hneg,hns,h48i,hroom,hzz2,Sem.run_bind,hst]
 have hold:(Builtin.firstCells ii.size n (.slice p n c)).run P w.drew=.ok xs.toArray w.drew:=by
  obtain ⟨g,cur,rfl,hg,hnc,hcs,htk,hcm⟩:=own_cells hrow hn
  refine run_firstCells_some w.drew ii.size n _ n c _ (by rw[hsize];omega) (fun j u hj=>?_)
  show w.cell? _=some u
  rw[add_lit,cell_of_row w g j cur e (0,0) hg]
  rw[←htk,List.getElem?_take]at hj
  split at hj
  simpa using hj
  cases hj
 have hmb:m*ii.bytes≤(n+m)*ii.bytes:=Nat.mul_le_mul_right _ (by omega)
 have hrun:=Lib.run_append_grow_zeros (P:=P) w t tn ty e ii _ k kn ht.eq htn.eq hi' hz' p n c _ hold m h0 hs0 (by omega) (by unfold maxLen at h63;omega) (by omega) (growslice_fits (by omega) h48)
 have hge:=grownCap_ge w (n+m) c e
 have hl2:(xs++zs).length=n+m:=by rw[List.length_append];omega
 have h1z:(Value.int .u8 0).cells.size=1:=rfl
 refine ⟨_,_,_,hrun,(Agree.drawn _ w _).trans (Agree.alloc _ w.drew _),⟨by omega,.inr ⟨w.heap.size,_,_,rfl,Nat.zero_le _,heap_alloc_new w.drew _,hge,grownCap_le_maxLen w (n+m) c e h63',?_,?_⟩⟩,fun ad h=>.inr (by cases h;exact Nat.le_refl _)⟩
 rw[Array.size_append,Array.size_append,size_zeroCells,size_zeroCells,h1z,List.size_toArray];omega
 rw[Array.toList_append,Array.toList_append,hzz]
 show (xs++zs++_).take _=_
 rw[show (n+m)*1=(xs++zs).length from by omega];exact List.take_left
theorem smkc {mi mj:Int} {kk kl:IntKind} {l':Nat→List Value} (n m:Nat) (S:St w0 M0 ds a w l bs fs) [Ev ⟨[],l⟩ x (.int kk mi)] [Ev ⟨[],l⟩ y (.int kl mj)] [ht:Und P t (.slice e)] [hti:TI P e (.int .u8 0) 1 by_]
  [hp:∀ b,PutO l d (.slice (some ⟨b,0,none⟩) n m) (l' b)] (hi:mi=n) (hj:mj=m) (hnm:n≤m) (hb:by_*m≤281474976710656) (hm:m≤maxLen)
  (K:∀ b a w,St w0 M0 ds a w (l' b) (row e 1 (some ⟨b,0,none⟩) n m (encL (List.replicate n (0:UInt8)))::bs) fs→WL P r ops Q rest a w):WL P r ops Q (⟨d,.makeSlice t x y,ty,pos,af,none⟩::rest) a w:=by
 refine wl_plain rfl ?_
 rw[semAt_nd rfl]
 subst hi hj
 obtain ⟨i,hi,hz,hs,hby⟩:=hti.ex
 have hb':(i.bytes:Int)*(m:Int)≤281474976710656:=by
  have h:((by_*m:Nat):Int)≤281474976710656:=by omega
  rw[hby];rwa [Int.natCast_mul]at h
 have hr:=run_make (P:=P) w t e i _ ht.eq hi hz kk kl n m (by omega) (by omega) hb' (by simp only[maxLen]at hm;omega)
 have h1:∀ m,encL (List.replicate m (0:UInt8))=List.replicate m (Value.int .u8 0):=fun m=>by
  induction m with
  | zero=>rfl
  | succ m ih=>rw[qqC,encL_cons,ih,qqC];rfl
 have hcells:madeCells (Value.int .u8 0).cells ((m:Int).toNat*i.size)=(encL (List.replicate m (0:UInt8))).toArray:=by
  have h2:=range_rep m [Value.int .u8 0] (by simp)
  have h3:=rep_flat m (Value.int .u8 0)
  rw[h1,←h3,←h2,hs];rfl
 rw[hcells]at hr
 simp only[Int.toNat_natCast]at hr
 have e1:(xop a.eval (.makeSlice t x y) ty).run P w=.ok (.value (.slice (some ⟨w.heap.size,0,none⟩) n m)) (w.alloc (.cells (encL (List.replicate m (0:UInt8))).toArray e)):=by
  simp[xop,execOp,S.fr.ev (x:=x) (v:=.int kk (n:Int)),S.fr.ev (x:=y) (v:=.int kl (m:Int)),hr]
 simp only[e1,Oper.uponIn]
 have:=hp w.heap.size
 have S':=S.put (d:=d) (v:=.slice (some ⟨w.heap.size,0,none⟩) n m)
 have S2:St w0 M0 ds _ _ (l' w.heap.size) (box w.heap.size e (encL (List.replicate m (0:UInt8)))::bs) fs:=⟨S'.slots,S'.defers,S'.wd.alloc e _⟩
 have hlm:(encL (List.replicate m (0:UInt8))).length=m:=by rw[encL_len,List.length_replicate];exact Nat.mul_one _
 have S3:=S2.boxRow w.heap.size 1 m (by omega) hm
 have S4:=S3.cutRow (some ⟨w.heap.size,0,none⟩) n m hnm
 rw[show (encL (List.replicate m (0:UInt8))).take (n*1)=encL (List.replicate n (0:UInt8)) from by
  have:=encL_take (List.replicate m (0:UInt8)) n
  rw[List.take_replicate,Nat.min_eq_left hnm]at this
  exact this]at S4
 exact K _ _ _ S4
end
def BlkF (ad:Addr) (b:Blk):World→Prop:=fun w=>∀ j v,(encL b.l)[j]? = some v→w.cell? (ad.add j)=some v
class HasBlkF (fs:List (World→Prop)) (ad:Addr) (b:outParam Blk):Prop where mem:BlkF ad b∈fs
instance hbkf0 {ad:Addr} {b:Blk} {fs:List (World→Prop)} : HasBlkF (BlkF ad b::fs) ad b:=⟨List.mem_cons_self ..⟩
section
variable {P:Program} {ty t:TypeId} {lc:Cx} {bs:List Item} {fs:List (World→Prop)} {x:Operand} {ad:Addr} {z:Value} {by_:Nat} {b:Blk}
instance (priority:=810) opLoadBlkF [Ev lc x (.pointer (some ad))] [ha:AggT P t true] [TI P t z 64 by_] [hb:HasBlkF fs ad b]:OpQ P (.load t x) ty lc bs fs (.agg ⟨encL b.l⟩):=⟨fun ρ w h mm=>by
 have hf:BlkF ad b w:=(mm.facts _ hb.mem).now
 have h1:=run_loadCells_list (P:=P) w ad (encL b.l) hf
 simp only[b.len]at h1
 simp[xop,execOp,Instr.loadAt,h.ev (x:=x) (v:=.pointer (some ad)),Instr.sureAddr,loadVar,Sem.run_bind,ha.run,run_size,h1]⟩
end
instance itMpn {b:Nat} {kv:List (Int × Value)} : ItOk (mpn b kv):=⟨mpn_loc b kv,fun w ⟨es,clock,h,_⟩ k hk=>by obtain rfl:k=b:=hk;exact (Array.getElem?_eq_some_iff.1 h).1⟩
def nilI:Item where
 foot:=fun _=>False
 holds:=fun _=>True
instance itNil:ItOk nilI:=⟨fun _ _ _ _=>trivial,fun _ _ _ h=>h.elim⟩
instance sfZ {b:Blk} : SetFront (encL (List.replicate 64 (0:UInt8))) (encL b.l) (encL b.l):=⟨by rw[b.len,encL_len,List.length_replicate];exact Nat.le_refl _,by rw[b.len,List.drop_of_length_le (by rw[encL_len,List.length_replicate];exact Nat.le_refl _),List.append_nil]⟩
instance lenRep {n:Nat} : LenIs (encL (List.replicate n (0:UInt8))) n:=⟨by rw[encL_len,List.length_replicate];exact Nat.mul_one _⟩
instance (priority:=1100) repl1 {zs:List Value} : RepL 1 zs zs:=⟨by simp⟩
instance les65:LeS 65 4096:=⟨by decide⟩
instance nenZ {n:Nat} : NeN (encL (List.replicate (n+1) (0:UInt8))):=⟨by rw[qqC,encL_cons];simp[Enc.cells]⟩
theorem iand7 (x:Int) (h : -9223372036854775808≤x∧x≤9223372036854775807):iand .i64 x 7=x % 8:=by
 have e1:(BitVec.ofInt 64 x&&& BitVec.ofInt 64 7).toNat=(x % 8).toNat:=by
  have e2:(BitVec.ofInt 64 7:BitVec 64)=7#64:=by decide
  rw[e2,BitVec.toNat_and,BitVec.toNat_ofInt]
  have e3:(7#64:BitVec 64).toNat=2 ^ 3 - 1:=by decide
  rw[e3,Nat.and_two_pow_sub_one_eq_mod]
  omega
 unfold iand
 show IntKind.i64.wrap ((BitVec.ofInt 64 x&&& BitVec.ofInt 64 7).toNat:Int)=_
 rw[e1,w64 _ (by omega) (by omega)]
 omega
end Go.Wk
namespace Go.Proofs.YtdakncgafdnjfaaGreat
open Go Go.Wk
set_option synthInstance.maxSize 100000
set_option synthInstance.maxHeartbeats 400000
set_option maxRecDepth 100000
def zB:Blk:=⟨List.replicate 64 0,by simp⟩
structure LWr where
 at_:Int
 b:Blk
abbrev cWr (x:LWr):List Value:=.int .i64 x.at_::encL x.b.l
instance encWr:Enc LWr:=⟨65,cWr,fun x=>by show (encL x.b.l).length+1=65;rw[x.b.len],fun x u hu=>by
 rcases List.mem_cons.1 hu with rfl | hu
 rfl
 exact encL_one _ u hu⟩
instance layWr:Lay LWr:={ encWr with
 dflt:=⟨0,zB⟩
 inn:=fun _ _=>True
 mono:=fun _ _ _ _ _=>trivial }
instance:SzE LWr 65:=⟨rfl,by decide⟩
instance {x:LWr} : CellsOf x (.int .i64 x.at_::encL x.b.l):=⟨rfl⟩
structure Cnt where
 on:Bool
 left:Int
structure DS where
 size:Int
 firm:List (Int × Blk)
 loose:List LWr
 out:Bool
 arms:Cnt
 fails:Cnt
 ops:Int
def kvB (f:List (Int × Blk)):List (Int × Value):=f.map fun x=>(x.1,vBlk x.2)
def getB (k:Int):List (Int × Blk)→Option Blk
 | []=>none
 | (u,b)::f=>if k=u then some b else getB k f
def putB (k:Int) (v:Blk):List (Int × Blk)→List (Int × Blk)
 | []=>[(k,v)]
 | (u,x)::f=>if k=u then (u,v)::f else (u,x)::putB k v f
theorem kiGet_cons (k u:Int) (v:Value) (kv:List (Int × Value)):kiGet k ((u,v)::kv)=if k=u then some v else kiGet k kv:=by
 have h:∀ (kv:List (Int × Value)) (i j:Nat),(kiIdx k kv i).map (·.2)=(kiIdx k kv j).map (·.2):=fun kv=>by
  induction kv with
  | nil=>intro i j;rfl
  | cons x kv ih=>intro i j;obtain ⟨u,v⟩:=x;simp only[kiIdx];split;rfl;exact ih _ _
 rw[kiGet,kiIdx]
 split
 ·rfl
 ·exact h kv 1 0
theorem kiGet_kvB (k:Int) (f:List (Int × Blk)):kiGet k (kvB f)=(getB k f).map vBlk:=by
 induction f with
 | nil=>rfl
 | cons x f ih=>
  obtain ⟨u,b⟩:=x
  show kiGet k ((u,vBlk b)::kvB f)=_
  rw[kiGet_cons,getB,ih]
  split <;> rfl
theorem kiPut_kvB (k:Int) (v:Blk) (f:List (Int × Blk)):kiPut k (vBlk v) (kvB f)=kvB (putB k v f):=by
 induction f with
 | nil=>rfl
 | cons x f ih=>
  obtain ⟨u,b⟩:=x
  show kiPut k (vBlk v) ((u,vBlk b)::kvB f)=_
  rw[kiPut,putB,ih]
  split <;> rfl
abbrev cDisk (m:Nat) (p:Option Addr) (n c:Nat) (s:DS):List Value:=[.int .i64 s.size,.map (some m),.slice p n c,.bool s.out,.bool s.arms.on,.int .i64 s.arms.left,.bool s.fails.on,.int .i64 s.fails.left,.int .i64 s.ops]
def findB (k:Int):List LWr→Option Blk
 | []=>none
 | x::l=>(findB k l).or (if x.at_=k then some x.b else none)
def holdsF (s:DS) (k:Int):Blk:=((findB k s.loose).or (getB k s.firm)).getD zB
def newD (n:Int):DS:=⟨n,[],[],false,⟨false,0⟩,⟨false,0⟩,0⟩
theorem dnew_c (n:Int) (h:1≤n∧n≤2048) (w0:World):Ret Tryz.prog 45 [.int .i64 n] w0 (fun _=>False) fun v w'=>∃ b m,v=.tuple ⟨[.pointer (some ⟨b,0,none⟩),.int .i64 0]⟩∧b≠m∧w0.heap.size≤b∧w0.heap.size≤m∧(Wk.box b 170 (cDisk m none 0 0 (newD n))).holds w'∧(mpn m []).holds w':=by
 refine enter Tryz.func45 rfl rfl (Wd.start w0) (fun a S=>?_)
 simp only[Tryz.ntmps45,qqA,qqB,Nat.reduceAdd,Nat.reduceSub,qqC,qqD,qqE,qqF]at S
 refine kS (kR ?_);(iterate 2 (refine sq S ?_;clear S;intro a S));refine kN (xtn (kS (kS (kR ?_))));(iterate 3 (refine sq S ?_;clear S;intro a S));(iterate 2 (refine gQ S ?_;clear S;intro a S));refine sq S ?_;clear S;intro a S
 rw[show (decide (n < 1)||decide (2048 < n))=false from by simp;omega]at S
 refine kN (xtn ?_);refine c_condF S ?_;refine kK (xtn (kS (kR (sq S ?_))));clear S;intro a S;refine smmi S ?_;clear S;intro m a w S;(iterate 2 (refine sq S ?_;clear S;intro a S));refine sa S ?_;clear S;intro b14 a w S;(iterate 2 (refine sq S ?_;clear S;intro a S));refine kN (xtn (kT ?_))
 have hb:=(S.boxNew b14).elim (fun h=>h.elim) id
 have hm:=(S.itNew (mpn m []) rfl m rfl).elim (fun h=>h.elim) id
 have hh:=S.box b14
 have hmm:=S.it (mpn m [])
 have hne:b14≠m:=fun e=>St.apart2 S (Wk.box b14 170 [.int .i64 n,.map (some m),.slice none 0 0,.bool false,.bool false,.int .i64 0,.bool false,.int .i64 0,.int .i64 0]) (mpn m []) b14 rfl e
 refine end2 S (fun _=>?_)
 exact ⟨b14,m,rfl,hne,hb,hm,hh,hmm⟩
def metF (c:Cnt):Bool × Cnt:=if c.on then (if c.left=0 then (true,⟨false,0⟩) else (false,⟨true,IntKind.i64.wrap (c.left - 1)⟩)) else (false,c)
theorem met_arms (b m:Nat) (p:Option Addr) (n c:Nat) (s:DS) (w0:World) (hb:(Wk.box b 170 (cDisk m p n c s)).holds w0) :
  Ret Tryz.prog 256 [.pointer (some ⟨b,4,none⟩)] w0 (fun k=>k=b) fun v w'=>v=.bool (metF s.arms).1∧(Wk.box b 170 (cDisk m p n c { s with arms:=(metF s.arms).2 })).holds w':=by
 obtain ⟨sz,fm,lo,ou,⟨on,left⟩,fa,op⟩:=s
 refine enter Tryz.func256 rfl rfl (Wd.itLent (x:=Wk.box b 170 (cDisk m p n c ⟨sz,fm,lo,ou,⟨on,left⟩,fa,op⟩)) (fs:=[]) hb (by simp)) (fun a S=>?_)
 simp only[Tryz.ntmps256,qqA,qqB,Nat.reduceAdd,Nat.reduceSub,qqC,qqD,qqE,qqF]at S
 refine kS (kR (sq S ?_));clear S;intro a S;refine kN (xtn (kS (kS (kR ?_))));(iterate 5 (refine sq S ?_;clear S;intro a S));(iterate 5 (refine gQ S ?_;clear S;intro a S));refine sq S ?_;clear S;intro a S;refine kN (xtn ?_)
 refine kC S (fun h1=>?_) (fun h1=>?_)
 refine kS (kR ?_);(iterate 3 (refine sq S ?_;clear S;intro a S));refine sw S ?_;clear S;intro a w S;refine kN (xtn (kS (kR (sq S ?_))));clear S;intro a S;refine kN (xtn (kT (xtr ?_)))
 obtain ⟨rfl,rfl⟩:on=true∧left=0:=by simpa using h1
 have hh:=S.box b
 refine end1 S (fun _=>⟨rfl,hh⟩)
 refine kK (xtn (kS (kS (kR ?_))));(iterate 4 (refine sq S ?_;clear S;intro a S));refine kN (xtn ?_)
 refine kC S (fun h4=>?_) (fun h4=>?_)
 refine kR ?_;(iterate 7 (refine sq S ?_;clear S;intro a S));refine sw S ?_;clear S;intro a w S;refine kN (xtn (kS (kR (sq S ?_))));clear S;intro a S;refine kN (xtn (kT ?_))
 have hon:on=true:=by simpa using h4
 subst hon
 have hl:left≠0:=by simpa using h1
 have hh:=S.box b
 refine end1 S (fun _=>?_)
 have e:metF ⟨true,left⟩=(false,⟨true,IntKind.i64.wrap (left - 1)⟩):=by simp[metF,hl]
 rw[e]
 exact ⟨rfl,hh⟩
 refine kK (xtn (kS (kR (sq S ?_))));clear S;intro a S;refine kN (xtn (kT ?_))
 have hon:on=false:=by simpa using h4
 subst hon
 have hh:=S.box b
 refine end1 S (fun _=>⟨rfl,hh⟩)
theorem met_fails (b m:Nat) (p:Option Addr) (n c:Nat) (s:DS) (w0:World) (hb:(Wk.box b 170 (cDisk m p n c s)).holds w0) :
  Ret Tryz.prog 256 [.pointer (some ⟨b,6,none⟩)] w0 (fun k=>k=b) fun v w'=>v=.bool (metF s.fails).1∧(Wk.box b 170 (cDisk m p n c { s with fails:=(metF s.fails).2 })).holds w':=by
 obtain ⟨sz,fm,lo,ou,ar,⟨on,left⟩,op⟩:=s
 refine enter Tryz.func256 rfl rfl (Wd.itLent (x:=Wk.box b 170 (cDisk m p n c ⟨sz,fm,lo,ou,ar,⟨on,left⟩,op⟩)) (fs:=[]) hb (by simp)) (fun a S=>?_)
 simp only[Tryz.ntmps256,qqA,qqB,Nat.reduceAdd,Nat.reduceSub,qqC,qqD,qqE,qqF]at S
 refine kS (kR (sq S ?_));clear S;intro a S;refine kN (xtn (kS (kS (kR ?_))));(iterate 5 (refine sq S ?_;clear S;intro a S));(iterate 5 (refine gQ S ?_;clear S;intro a S));refine sq S ?_;clear S;intro a S;refine kN (xtn ?_)
 refine kC S (fun h1=>?_) (fun h1=>?_)
 refine kS (kR ?_);(iterate 3 (refine sq S ?_;clear S;intro a S));refine sw S ?_;clear S;intro a w S;refine kN (xtn (kS (kR (sq S ?_))));clear S;intro a S;refine kN (xtn (kT (xtr ?_)))
 obtain ⟨rfl,rfl⟩:on=true∧left=0:=by simpa using h1
 have hh:=S.box b
 refine end1 S (fun _=>⟨rfl,hh⟩)
 refine kK (xtn (kS (kS (kR ?_))));(iterate 4 (refine sq S ?_;clear S;intro a S));refine kN (xtn ?_)
 refine kC S (fun h4=>?_) (fun h4=>?_)
 refine kR ?_;(iterate 7 (refine sq S ?_;clear S;intro a S));refine sw S ?_;clear S;intro a w S;refine kN (xtn (kS (kR (sq S ?_))));clear S;intro a S;refine kN (xtn (kT ?_))
 have hon:on=true:=by simpa using h4
 subst hon
 have hl:left≠0:=by simpa using h1
 have hh:=S.box b
 refine end1 S (fun _=>?_)
 have e:metF ⟨true,left⟩=(false,⟨true,IntKind.i64.wrap (left - 1)⟩):=by simp[metF,hl]
 rw[e]
 exact ⟨rfl,hh⟩
 refine kK (xtn (kS (kR (sq S ?_))));clear S;intro a S;refine kN (xtn (kT ?_))
 have hon:on=false:=by simpa using h4
 subst hon
 have hh:=S.box b
 refine end1 S (fun _=>⟨rfl,hh⟩)
theorem len_c (b:Nat) (m:Nat) (p:Option Addr) (n c:Nat) (s:DS) (w0:World) (hb:Stable (fun _=>False) w0 (BoxF b 170 (cDisk m p n c s))):Ret Tryz.prog 170 [.pointer (some ⟨b,0,none⟩)] w0 (fun _=>False) fun v _=>v=.int .i64 s.size:=by
 refine enter Tryz.func170 rfl rfl (Wd.begin (fs:=[BoxF b 170 (cDisk m p n c s)]) (by simpa using hb)) (fun a S=>?_)
 simp only[Tryz.ntmps170,qqA,qqB,Nat.reduceAdd,Nat.reduceSub,qqC,qqD,qqE,qqF]at S
 refine kS (kR (sq S ?_));clear S;intro a S;refine kN (xtn (kS (kS (kR ?_))));(iterate 2 (refine sq S ?_;clear S;intro a S));refine kN (xtn ?_);refine c_condF S ?_;refine kK (xtn (kS (kR ?_)));(iterate 6 (refine sq S ?_;clear S;intro a S));refine kN (xtn ?_);refine kT ?_
 exact end1 S (fun _=>rfl)
def dbackV (g:Nat):Value:=.func (.func 270) #[] ⟨[.pointer (some ⟨g,0,none⟩)]⟩
theorem dback_f (b:Nat) (w0:World):Ret Tryz.prog 257 [.pointer (some ⟨b,0,none⟩)] w0 (fun _=>False) fun v w'=>∃ g,v=dbackV g∧w0.heap.size≤g∧BoxF g 263 [.pointer (some ⟨b,0,none⟩)] w':=by
 refine enter Tryz.func257 rfl rfl (Wd.start w0) (fun a S=>?_)
 simp only[Tryz.ntmps257,qqA,qqB,Nat.reduceAdd,Nat.reduceSub,qqC,qqD,qqE,qqF]at S
 refine kS (kR ?_);refine sa S ?_;clear S;intro b1 a w S;refine sq S ?_;clear S;intro a S;refine kN (xtn (kS (kR ?_)));(iterate 2 (refine sq S ?_;clear S;intro a S));refine kN (xtn (kT ?_))
 have hn:=(S.boxNew b1).elim (fun h=>h.elim) id
 have hh:=S.boxF b1
 exact end1 S (fun _=>⟨b1,rfl,hn,hh⟩)
theorem dback_it (g b m:Nat) (p:Option Addr) (c:Nat) (s:DS) (hl:s.loose.length≤1000000) (w0:World) (M:Nat→Prop) (hM:∀ k,M k→k < w0.heap.size) (f1:Stable M w0 (BoxF g 263 [.pointer (some ⟨b,0,none⟩)])) (f2:Stable M w0 (BoxF b 170 (cDisk m p s.loose.length c s))) (f3:Stable M w0 (GlF p s.loose)) :
  IterRet Tryz.prog 270 [.pointer (some ⟨g,0,none⟩)] w0 M (fun(x:LWr) vs _ _=>vs=[.agg ⟨cWr x⟩]) s.loose.reverse:=by
 intro L J Jx hy hJ
 have hF:∀ Φ∈[BoxF g 263 [.pointer (some ⟨b,0,none⟩)],BoxF b 170 (cDisk m p s.loose.length c s),GlF p s.loose],Stable M w0 Φ:=by simp;exact ⟨f1,f2,f3⟩
 refine (callsIn_wide (n:=0)).2 ?_
 refine enter Tryz.func270 rfl rfl (Wd.beginM (M:=M) (fs:=[BoxF g 263 [.pointer (some ⟨b,0,none⟩)],BoxF b 170 (cDisk m p s.loose.length c s),GlF p s.loose]) hM hF) (fun a S=>?_)
 simp only[Tryz.ntmps270,qqA,qqB,Nat.reduceAdd,Nat.reduceSub,qqC,qqD,qqE,qqF]at S
 refine kS (kR ?_);(iterate 6 (refine sq S ?_;clear S;intro a S));refine kN (xtn (kB ?_))
 refine c_loop (ι:=Nat) (fun k a w=>k≤s.loose.length∧∃ N w1,J (s.loose.length - k) w1∧∃ uu:Nat→Value,St w1 (fun _=>False) [] a w ((.func (.yield L) #[] #[])::(.pointer (some ⟨g,0,none⟩))::uu 2::(.int .i64 (k:Nat))::uu 4::uu 5::uu 6::uu 7::uu 8::uu 9::uu 10::uu 11::uu 12::uu 13::uu 14::uu 15::uu 16::uu 17::uu 18::uu 19::uu 20::uu 21::uu 22::uu 23::[]) [ext N] [BoxF g 263 [.pointer (some ⟨b,0,none⟩)],BoxF b 170 (cDisk m p s.loose.length c s),GlF p s.loose]) (fun k=>k) s.loose.length ?_ ?_
 refine ⟨Nat.le_refl _,M,w0,by rw[Nat.sub_self];exact hJ,S.uu,S⟩
 clear S
 rintro k a w ⟨hk,N,w1,hJk,uu,S⟩
 refine kS (kS (kR ?_));(iterate 2 (refine sq S ?_;clear S;intro a S));refine kN (xtn ?_)
 refine kC S (fun h1=>?_) (fun h1=>?_)
 refine kK (xtn (kS (kB (kS ?_))))
 have hk0:0 < k:=by simp at h1;omega
 have hK:KLt (k - 1) s.loose.length:=⟨by omega⟩
 have hx:s.loose.reverse[s.loose.length - k]? = some (nthG s.loose (k - 1)):=by
  rw[List.getElem?_reverse (by omega),show s.loose.length - 1 - (s.loose.length - k)=k - 1 from by omega,nthG_get (by omega)]
 refine kR ?_;(iterate 7 (refine sq S ?_;clear S;intro a S))
 rw[show IntKind.i64.wrap ((k:Int) - 1)=((k - 1:Nat):Int) from by rw[w64 _ (by omega) (by omega)];omega]at S
 (iterate 2 (refine sq S ?_;clear S;intro a S))
 refine sy S (M:=M) (wI:=w0) (fs0:=[BoxF g 263 [.pointer (some ⟨b,0,none⟩)],BoxF b 170 (cDisk m p s.loose.length c s),GlF p s.loose]) hF (hy _ _ _ w1 w hx hJk S.wd.agree rfl) ?_;clear S;intro ok N' a w2 hT hX S
 refine sq S ?_;clear S;intro a S;refine kN (xtn ?_)
 refine kC S (fun h3=>?_) (fun h3=>?_)
 refine kT (xbr (xtr (xtr (xbr ?_))))
 exact endI S ⟨w2,S.wd.agree,.inr (hX (by simpa using h3))⟩
 refine kK (xbn (xtn (kR ?_)));(iterate 2 (refine sq S ?_;clear S;intro a S))
 rw[show IntKind.i64.wrap ((k:Int) - 1)=((k - 1:Nat):Int) from by rw[w64 _ (by omega) (by omega)];omega]at S
 refine sq S ?_;clear S;intro a S;refine kN (xtn ?_)
 exact ⟨k - 1,⟨by omega,N',w2,by rw[show s.loose.length - (k - 1)=s.loose.length - k+1 from by omega];exact hT (by simpa using h3),S.uu,S⟩,by omega⟩
 refine kE (xte (xte (xbe ?_)))
 have hk0:k=0:=by simp at h1;omega
 refine endI S ⟨w1,S.wd.agree,.inl ?_⟩
 rw[hk0]at hJk
 rw[List.length_reverse]
 exact hJk
theorem findB_rev (k:Int):∀ l:List LWr,findB k l=(l.reverse.find? fun x=>decide (x.at_=k)).map LWr.b
 | []=>rfl
 | x::l=>by
  rw[findB,findB_rev k l,List.reverse_cons,List.find?_append]
  cases h:l.reverse.find? fun x=>decide (x.at_=k) with
  | some y=>simp
  | none=>
   by_cases hx:x.at_=k <;> simp[hx]
theorem find_at {xs:List LWr} {i:Nat} {x:LWr} {k:Int} (h:xs[i]? = some x) (hp:x.at_=k) (hn:∀ y∈xs.take i,y.at_≠k):xs.find? (fun x=>decide (x.at_=k))=some x:=by
 have e:xs.drop i=x::xs.drop (i+1):=by
  obtain ⟨hi,rfl⟩:=List.getElem?_eq_some_iff.1 h
  exact (List.getElem_cons_drop hi).symm
 have hnone:(xs.take i).find? (fun x=>decide (x.at_=k))=none:=List.find?_eq_none.2 fun y hy=>by simpa using hn y hy
 rw[←List.take_append_drop i xs,List.find?_append,hnone,e]
 simp[hp]
theorem holds_c (b m:Nat) (p:Option Addr) (c:Nat) (s:DS) (k:Int) (hl:s.loose.length≤1000000) (w0:World) (f1:Stable (fun _=>False) w0 (BoxF b 170 (cDisk m p s.loose.length c s))) (f2:Stable (fun _=>False) w0 (MpnF m (kvB s.firm))) (f3:Stable (fun _=>False) w0 (GlF p s.loose)) :
  Ret Tryz.prog 224 [.pointer (some ⟨b,0,none⟩),.int .i64 k] w0 (fun _=>False) fun v _=>v=vBlk (holdsF s k):=by
 refine enterM Tryz.func224 rfl rfl (Wd.begin (fs:=[BoxF b 170 (cDisk m p s.loose.length c s),MpnF m (kvB s.firm),GlF p s.loose]) (by simp;exact ⟨f1,f2,f3⟩)) (fun a S=>?_)
 simp only[Tryz.ntmps224,qqA,qqB,Nat.reduceAdd,Nat.reduceSub,qqC,qqD,qqE,qqF]at S
 refine kS (kR ?_);refine sa S ?_;clear S;intro b3 a w S;refine sa S ?_;clear S;intro b4 a w S;refine kN (xtn (c_scope (kS ?_)));refine c_drawD [(0,true),(1,true),(2,true),(3,true),(4,true),(5,true),(6,false),(7,false)] [] S ?_;clear S;intro w S;(iterate 6 (refine dq S ?_;clear S;intro a S))
 rw[show (kiGet k (kvB s.firm)).getD (.agg ⟨encL (List.replicate 64 (0:UInt8))⟩)=vBlk ((getB k s.firm).getD zB) from by rw[kiGet_kvB];cases getB k s.firm <;> rfl]at S
 refine dl (sa S ?_);clear S;intro b5 a w S;refine de S ?_;refine dl (sw S ?_);clear S;intro a w S;refine de S ?_;refine dn (xtn (kS (c_label (xtn (kS (kS (kR (sq S ?_))))))));clear S;intro a S
 have hlt:=foots_lt S
 refine sr S (dback_f b w) ?_;clear S;rintro _ a w ⟨g,rfl,n1,f1⟩ S
 replace S:=S.add (Φ:=BoxF g 263 [.pointer (some ⟨b,0,none⟩)]) (BoxF.stable f1 (fun hm=>by have:=hlt _ hm;omega))
 clear hlt n1 f1
 refine kN (xtn (kB ?_))
 replace S:=S.boxToF b3
 refine c_range (κ:=Unit) (κx:=Blk) (Ds:=[]) s.loose.reverse
  (fun _ _=>[Wk.box b5 129 (encL ((getB k s.firm).getD zB).l),Wk.box b4 129 (encL (List.replicate 64 (0:UInt8))),marks []]) (fun _ _=>_) (fun i _=>∀ x∈s.loose.reverse.take i,x.at_≠k) (fun y=>[Wk.box b5 129 (encL y.l),Wk.box b4 129 (encL (List.replicate 64 (0:UInt8))),marks []]) (fun _=>[BoxF b3 3 [.int .i64 k],BoxF g 263 [.pointer (some ⟨b,0,none⟩)],BoxF b 170 (cDisk m p s.loose.length c s),MpnF m (kvB s.firm),GlF p s.loose]) (fun c y=>c=.exit 0∧findB k s.loose=some y) () S (fun M w1 hM hF _=>dback_it g b m p c s hl w1 M hM (hF _ (by simp)) (hF _ (by simp)) (hF _ (by simp))) ⟨by simp,rfl,rfl⟩ ?_ ?_ ?_ ?_
 clear S
 rintro L D bL M w1 i x vs _ W0 w hx hrel hW0 hgr rfl
 refine ⟨_,inferInstance,fun a S=>?_⟩
 refine kR (sa S ?_);clear S;intro b6 a w S;refine sw S ?_;clear S;intro a w S;refine kN (xtn ?_)
 refine rbegin (D:=D) (b:=bL) S ?_;clear S;intro a w S
 refine kB (kS (kR ?_));(iterate 4 (refine sq S ?_;clear S;intro a S));refine kN (xtn ?_)
 refine kC S (fun h4=>?_) (fun h4=>?_)
 refine kS (kR ?_);(iterate 2 (refine sq S ?_;clear S;intro a S));refine sw S ?_;clear S;intro a w S;refine kN (xtn (kE (xbx ?_)))
 have hxk:x.at_=k:=by simpa using h4
 replace S:=S.sub [lpI L D (lpR bL .busy none),Wk.box b5 129 (encL x.b.l),Wk.box b4 129 (encL (List.replicate 64 (0:UInt8))),marks []] [BoxF b3 3 [.int .i64 k],BoxF g 263 [.pointer (some ⟨b,0,none⟩)],BoxF b 170 (cDisk m p s.loose.length c s),MpnF m (kvB s.firm),GlF p s.loose]
 refine rexit (D:=D) (b:=bL) S fun W hW=>⟨.inr ⟨0,rfl⟩,x.b,⟨rfl,?_⟩,hW⟩
 rw[findB_rev,find_at hx hxk hrel];rfl
 refine kK (xbn ?_)
 have hti:s.loose.reverse.take (i+1)=s.loose.reverse.take i++[x]:=by rw[List.take_add_one,hx];rfl
 replace S:=S.sub [lpI L D (lpR bL .busy none),Wk.box b5 129 (encL ((getB k s.firm).getD zB).l),Wk.box b4 129 (encL (List.replicate 64 (0:UInt8))),marks []] [BoxF b3 3 [.int .i64 k],BoxF g 263 [.pointer (some ⟨b,0,none⟩)],BoxF b 170 (cDisk m p s.loose.length c s),MpnF m (kvB s.firm),GlF p s.loose]
 refine rnext (D:=D) (b:=bL) S fun W hW=>⟨(),fun z hz=>?_,hW⟩
 rw[hti]at hz
 rcases List.mem_append.1 hz with hz | hz
 exact hrel z hz
 rw[List.mem_singleton.1 hz]
 simpa using h4
 clear S
 rintro D _ a w hrel S
 replace S:=S.join (Ds:=[])
 have hf:findB k s.loose=none:=by
  rw[findB_rev,Option.map_eq_none_iff,List.find?_eq_none]
  rw[List.take_length]at hrel
  exact fun x hx=>by simpa using hrel x hx
 have hv:(getB k s.firm).getD zB=holdsF s k:=by rw[holdsF,hf];rfl
 rw[hv]at S
 refine xbn (xtn (kS (kR (sq S ?_))));clear S;intro a S;refine sw S ?_;clear S;intro a w S;refine kN (xtn (kT (xsr ?_)))
 refine endM1 S (fun _ _=>rfl)
 rintro D _ a w ⟨h,-⟩;cases h
 rintro id D y a w ⟨h,hf⟩ S
 obtain rfl:id=0:=by cases h;rfl
 replace S:=S.join (Ds:=[])
 have hv:y=holdsF s k:=by rw[holdsF,hf];rfl
 subst hv
 refine xbe (xtn (kS (kR (sq S ?_))));clear S;intro a S;refine sw S ?_;clear S;intro a w S;refine kN (xtn (kT (xsr ?_)))
 refine endM1 S (fun _ _=>rfl)
section
variable {w0:World} {M0:Nat→Prop} {ds:List Deferred} {a:Act} {w:World} {l:List Value} {bs:List Wk.Item} {fs:List (World→Prop)} {x y z:Wk.Item}
theorem St.open3 [ItOk x] [ItOk y] [ItOk z] (S:St w0 M0 ds a w l (both x (both y z)::bs) fs) (hx:x.own=true:=by rfl) (hy:y.own=true:=by rfl) (hz:z.own=true:=by rfl):St w0 M0 ds a w l (x::y::z::bs) fs:=by
 have S1:=S.ofBoth hx (by simp[both,hy,hz])
 have S2:=S1.perm (both y z::x::bs) (List.Perm.swap _ _ _)
 have S3:=S2.ofBoth hy hz
 exact S3.perm (x::y::z::bs) ((List.Perm.swap _ _ _).trans (.cons _ (List.Perm.swap _ _ _)))
theorem St.close3 [ItOk x] [ItOk y] [ItOk z] (S:St w0 M0 ds a w l (x::y::z::bs) fs) (hx:x.own=true:=by rfl) (hy:y.own=true:=by rfl) (hz:z.own=true:=by rfl):St w0 M0 ds a w l (both x (both y z)::bs) fs:=by
 have S1:=S.perm (y::z::x::bs) ((List.Perm.cons _ (List.Perm.swap _ _ _)).trans (List.Perm.swap _ _ _))
 have S2:=S1.toBoth hy hz
 have S3:=S2.perm (x::both y z::bs) (List.Perm.swap _ _ _)
 exact S3.toBoth hx (by simp[both,hy,hz])
end
abbrev dkI (b m:Nat) (p:Option Addr) (c:Nat) (s:DS):Wk.Item:=both (Wk.box b 170 (cDisk m p s.loose.length c s)) (both (mpn m (kvB s.firm)) (Wk.row 265 65 p s.loose.length c (encL s.loose)))
theorem Wd.dkLent {w:World} {fs:List (World→Prop)} {x y z:Wk.Item} [ItOk x] [ItOk y] [ItOk z] (h:(both x (both y z)).holds w) (hf:∀ Φ∈fs,Stable (both x (both y z)).foot w Φ) (hx:x.own=true:=by rfl) (hy:y.own=true:=by rfl) (hz:z.own=true:=by rfl):Wd w (both x (both y z)).foot w [x,y,z] fs:=by
 have h1:=(Wd.itLent h hf).ofBoth hx (by simp[both,hy,hz])
 have h2:=(h1.perm (List.Perm.swap _ _ _):Wd w _ w [both y z,x] fs)
 have h3:=h2.ofBoth hy hz
 exact h3.perm ((List.Perm.swap _ _ _).trans (.cons _ (List.Perm.swap _ _ _)))
def settleK (st:Nat→Bool) (l:List LWr) (f:List (Int × Blk)):Nat→List (Int × Blk)
 | 0=>f
 | k+1=>if st k then putB (nthG l k).at_ (nthG l k).b (settleK st l f k) else settleK st l f k
def settleD (st:Nat→Bool) (s:DS):DS:={ s with firm:=settleK st s.loose s.firm s.loose.length,loose:=[] }
theorem settle_c (F:Nat) [EntF Tryz.prog F] (ca:List Value) (st:Nat→Bool) (b m:Nat) (p:Option Addr) (c:Nat) (s:DS) (fs:List (World→Prop)) (w0:World) (hl:s.loose.length≤1000000) (hd:(dkI b m p c s).holds w0) (hf:∀ Φ∈fs,Stable (dkI b m p c s).foot w0 Φ)
  (hst:∀ (i:Nat) (w:World),i < s.loose.length→(∀ Φ∈fs,Stable (fun _=>False) w Φ)→Ret Tryz.prog F (.int .i64 (i:Int)::ca) w (fun _=>False) fun v _=>v=.bool (st i)) :
  Ret Tryz.prog 103 [.pointer (some ⟨b,0,none⟩),.func (.func F) #[] ⟨ca⟩] w0 (dkI b m p c s).foot fun _ w'=>(dkI b m none 0 (settleD st s)).holds w':=by
 refine enter Tryz.func103 rfl rfl (Wd.dkLent hd hf) (fun a S=>?_)
 simp only[Tryz.ntmps103,qqA,qqB,Nat.reduceAdd,Nat.reduceSub,qqC,qqD,qqE,qqF]at S
 refine kS (kS (kR ?_));(iterate 6 (refine sq S ?_;clear S;intro a S));refine kN (xtn (kB ?_))
 refine c_fore2 S (fun(i:Nat) (f:List (Int × Blk)) uu=>[(4,uu 4),(0,uu 5),(5,.int .i64 (i:Nat)),(0,uu 12),(0,uu 13),(0,uu 14),(0,uu 15),(0,uu 16),(0,uu 17),(0,uu 18),(0,uu 19),(0,uu 20),(0,uu 21),(0,uu 22),(0,uu 23),(0,uu 24),(0,uu 25),(0,uu 26),(0,uu 27)]) (fun(i:Nat) (f:List (Int × Blk))=>[Wk.box b 170 (cDisk m p s.loose.length c s),mpn m (kvB f),Wk.row 265 65 p s.loose.length c (encL s.loose)]) (fun(i:Nat) (f:List (Int × Blk))=>fs) (fun(i:Nat) (f:List (Int × Blk))=>i≤s.loose.length∧f=settleK st s.loose s.firm i) (fun(i:Nat) (f:List (Int × Blk))=>s.loose.length - i) (0) (s.firm) ?_ S.uu ?_ ?_
 ·exact ⟨Nat.zero_le _,rfl⟩
 ·first | exact S | exact S.sub _ _
 ·clear S;rintro i f uu a w ⟨hi,hff⟩ S
  refine kS (kR (sq S ?_));clear S;intro a S;refine kN (xtn (kS ?_))
  refine kC S (fun h1=>?_) (fun h1=>?_)
  ·refine kK (xtn (kS (kB (kS ?_))))
   have hil:i < s.loose.length:=by simp at h1;omega
   have hK:KLt i s.loose.length:=⟨hil⟩
   have hxi:s.loose[i]? = some (nthG s.loose i):=nthG_get hil
   refine kR ?_;(iterate 2 (refine sq S ?_;clear S;intro a S))
   refine slrA (cWr (nthG s.loose i)) S s.loose.length (fun j v hj=>?_) ?_
   ·have hj65:j < 65:=by have:=(List.getElem?_eq_some_iff.1 hj).1;simp only[qqA,(nthG s.loose i).b.len]at this;omega
    rw[←hj];exact encL_get s.loose i _ hxi j hj65
   clear S;intro a S;refine sa S ?_;clear S;intro b5 a w S;refine sq S ?_;clear S;intro a S;refine sw S ?_;clear S;intro a w S;refine kN (xtn (kS (kR ?_)));(iterate 2 (refine sq S ?_;clear S;intro a S))
   have hall:=fun Φ hΦ=>(S.wd.facts Φ hΦ).less (N:=fun _=>False) (fun _ _ h=>h.elim)
   refine sr S (hst i _ hil hall) ?_;clear S;rintro _ a w rfl S;refine kN (xtn ?_)
   refine kC S (fun h3=>?_) (fun h3=>?_)
   ·refine c_drawE [(0,true),(1,true),(2,true),(3,true),(4,true),(5,true),(6,true),(7,true),(8,false)] [Wk.box b5 265 (cWr (nthG s.loose i)),Wk.box b 170 (cDisk m p s.loose.length c s),Wk.row 265 65 p s.loose.length c (encL s.loose)] S ?_;clear S;intro w S;(iterate 8 (refine dq S ?_;clear S;intro a S));refine dl ?_;refine smui S ?_;clear S;intro a w S
    rw[show (.agg ⟨encL (nthG s.loose i).b.l⟩:Value)=vBlk (nthG s.loose i).b from rfl,kiPut_kvB]at S
    refine de S ?_;refine dn (xbn (xtn (kR ?_)));(iterate 2 (refine sq S ?_;clear S;intro a S));refine kN (xtn ?_)
    rw[w64 ((i:Int)+1) (by omega) (by omega)]at S
    refine ⟨i+1,putB (nthG s.loose i).at_ (nthG s.loose i).b f,S.uu,⟨hil,?_⟩,S.sub _ _,by omega⟩
    rw[settleK,if_pos (by simpa using h3),hff]
   ·refine kK (xbn (xtn (kR ?_)));(iterate 2 (refine sq S ?_;clear S;intro a S));refine kN (xtn ?_)
    rw[w64 ((i:Int)+1) (by omega) (by omega)]at S
    refine ⟨i+1,f,S.uu,⟨hil,?_⟩,S.sub _ _,by omega⟩
    rw[settleK,if_neg (by simpa using h3),hff]
  ·refine kE (xte (xte (xbe (xtn (kR ?_)))));(iterate 3 (refine sq S ?_;clear S;intro a S));refine sw S ?_;clear S;intro a w S;refine kN ?_
   have hi2:i=s.loose.length:=by simp at h1;omega
   subst hi2
   subst hff
   replace S:=(S.sub [Wk.box b 170 (cDisk m none 0 0 s),mpn m (kvB (settleK st s.loose s.firm s.loose.length))] []).addNil 265 65
   replace S:=St.close3 (S.perm [Wk.box b 170 (cDisk m none 0 0 s),mpn m (kvB (settleK st s.loose s.firm s.loose.length)),Wk.row 265 65 none 0 0 []] ((List.Perm.cons _ (List.Perm.swap _ _ _)).trans (List.Perm.swap _ _ _)))
   have hh:=S.it (both (Wk.box b 170 (cDisk m none 0 0 s)) (both (mpn m (kvB (settleK st s.loose s.firm s.loose.length))) (Wk.row 265 65 none 0 0 [])))
   refine end0 S (fun _=>hh)
theorem encWr1 (k:Int) (x:Blk):encL [(⟨k,x⟩:LWr)]=.int .i64 k::encL x.l:=by rw[encL_cons,encL_nil,List.append_nil];rfl
def writeD (s:DS) (k:Int) (x:Blk):DS:={ s with loose:=s.loose++[⟨k,x⟩] }
theorem write1_c (g0 g1 g2 b m:Nat) (p:Option Addr) (c:Nat) (s:DS) (k:Int) (x:Blk) (w0:World) (hl:s.loose.length≤1000000) (hd:(dkI b m p c s).holds w0)
  (f0:Stable (dkI b m p c s).foot w0 (BoxF g0 34 [.pointer (some ⟨b,0,none⟩)])) (f1:Stable (dkI b m p c s).foot w0 (BoxF g1 3 [.int .i64 k])) (f2:Stable (dkI b m p c s).foot w0 (BoxF g2 129 (encL x.l))) :
  Ret Tryz.prog 237 [.pointer (some ⟨g0,0,none⟩),.pointer (some ⟨g1,0,none⟩),.pointer (some ⟨g2,0,none⟩)] w0 (dkI b m p c s).foot fun _ w'=>∃ p' c',(dkI b m p' c' (writeD s k x)).holds w'∧∀ i,(dkI b m p' c' (writeD s k x)).foot i→(dkI b m p c s).foot i∨w0.heap.size≤i:=by
 have hL:(writeD s k x).loose.length=s.loose.length+1:=by simp[writeD]
 refine enter Tryz.func237 rfl rfl (Wd.dkLent (fs:=[BoxF g0 34 [.pointer (some ⟨b,0,none⟩)],BoxF g1 3 [.int .i64 k],BoxF g2 129 (encL x.l)]) hd (by simp only[List.mem_cons,List.not_mem_nil,or_false];rintro Φ (rfl | rfl | rfl) <;> assumption)) (fun a S=>?_)
 simp only[Tryz.ntmps237,qqA,qqB,Nat.reduceAdd,Nat.reduceSub,qqC,qqD,qqE,qqF]at S
 refine c_drwe2 (.q 0 (.q 1 (.q 2 (.q 3 (.q 4 (.q 6 (.q 7 (.q 8 (.b2 5 9 (.l 9 (.l 10 (.q 11 (.q 12 (.q 13 (.l 14 (.e))))))) (.l 5 (.l 10 (.q 11 (.q 12 (.q 13 (.l 14 (.e)))))))))))))))) S (fun(p2:Option Addr) (c2:Nat) uu=>[(3,uu 3),(0,uu 4),(0,uu 5),(0,uu 6),(0,uu 7),(0,uu 8),(0,uu 9),(0,uu 10),(0,uu 11),(0,uu 12),(0,uu 13),(0,uu 14),(0,uu 15),(0,uu 16)]) [] (fun(p2:Option Addr) (c2:Nat)=>[Wk.box b 170 (cDisk m p2 (writeD s k x).loose.length c2 s),mpn m (kvB s.firm),Wk.row 265 65 p2 (writeD s k x).loose.length c2 (encL (writeD s k x).loose)]) (fun(p2:Option Addr) (c2:Nat)=>[]) (fun(p2:Option Addr) (c2:Nat)=>True) ?_ ?_
 intro w S
 (iterate 8 (refine tq S ?_;clear S;intro a S))
 refine tb2 ?_ ?_
 refine sq S ?_;clear S;intro a S;refine te S ?_;refine tl (sn S ?_);clear S;intro b12 a w S;refine te S ?_;refine tl ?_
 refine sap S (by simp only[maxLen];omega) (by omega) ?_;clear S;rintro p10 c10 a w - S
 refine te S ?_;(iterate 3 (refine tq S ?_;clear S;intro a S));refine tl (sw S ?_);clear S;intro a w S;refine te S ?_;refine tn ?_
 rw[show encL s.loose++(.int .i64 k::encL x.l)=encL (writeD s k x).loose from by rw[writeD,encL_append,encWr1],←hL]at S
 exact ⟨p10,c10,S.uu,trivial,(S.perm _ (List.Perm.refl _)).sub _ _⟩
 refine sn S ?_;clear S;intro b12 a w S;refine te S ?_;refine tl (sq S ?_);clear S;intro a S;refine te S ?_;refine tl ?_
 refine sap S (by simp only[maxLen];omega) (by omega) ?_;clear S;rintro p10 c10 a w - S
 refine te S ?_;(iterate 3 (refine tq S ?_;clear S;intro a S));refine tl (sw S ?_);clear S;intro a w S;refine te S ?_;refine tn ?_
 rw[show encL s.loose++(.int .i64 k::encL x.l)=encL (writeD s k x).loose from by rw[writeD,encL_append,encWr1],←hL]at S
 exact ⟨p10,c10,S.uu,trivial,(S.perm _ (List.Perm.refl _)).sub _ _⟩
 clear S;rintro p2 c2 uu a w - S
 have h1:=S.itNew (Wk.box b 170 (cDisk m p2 (writeD s k x).loose.length c2 s)) rfl
 have h2:=S.itNew (mpn m (kvB s.firm)) rfl
 have h3:=S.itNew (Wk.row 265 65 p2 (writeD s k x).loose.length c2 (encL (writeD s k x).loose)) rfl
 replace S:=St.close3 S
 have hh:=S.it (both (Wk.box b 170 (cDisk m p2 (writeD s k x).loose.length c2 s)) (both (mpn m (kvB s.firm)) (Wk.row 265 65 p2 (writeD s k x).loose.length c2 (encL (writeD s k x).loose))))
 refine end0 S (fun _=>⟨p2,c2,hh,fun i hi=>?_⟩)
 rcases hi with h | h | h
 exact h1 i h
 exact h2 i h
 exact h3 i h
theorem sync11_c (i:Int) (w0:World):Ret Tryz.prog 239 [.int .i64 i] w0 (fun _=>False) fun v _=>v=.bool true:=by
 refine enter Tryz.func239 rfl rfl (Wd.start w0) (fun a S=>?_)
 simp only[Tryz.ntmps239,qqA,qqB,Nat.reduceAdd,Nat.reduceSub,qqC,qqD,qqE,qqF]at S
 refine kS (kR (sq S ?_));clear S;intro a S;refine kN (xtn (kS (kR (sq S ?_))));clear S;intro a S;refine kN (xtn (kT ?_))
 exact end1 S (fun _=>rfl)
theorem sync1_c (g0 b m:Nat) (p:Option Addr) (c:Nat) (s:DS) (w0:World) (hl:s.loose.length≤1000000) (hd:(dkI b m p c s).holds w0) (f0:Stable (dkI b m p c s).foot w0 (BoxF g0 34 [.pointer (some ⟨b,0,none⟩)])) :
  Ret Tryz.prog 238 [.pointer (some ⟨g0,0,none⟩)] w0 (dkI b m p c s).foot fun _ w'=>∃ p' c',(dkI b m p' c' (settleD (fun _=>true) s)).holds w'∧∀ i,(dkI b m p' c' (settleD (fun _=>true) s)).foot i→(dkI b m p c s).foot i∨w0.heap.size≤i:=by
 refine enter Tryz.func238 rfl rfl (Wd.itLent (x:=dkI b m p c s) (fs:=[BoxF g0 34 [.pointer (some ⟨b,0,none⟩)]]) hd (by intro Φ hΦ;obtain rfl:=List.mem_singleton.1 hΦ;exact f0)) (fun a S=>?_)
 simp only[Tryz.ntmps238,qqA,qqB,Nat.reduceAdd,Nat.reduceSub,qqC,qqD,qqE,qqF]at S
 refine kR ?_;(iterate 3 (refine sq S ?_;clear S;intro a S))
 refine sit (dkI b m p c s) S (settle_c 239 [] (fun _=>true) b m p c s [] _ hl (S.it (dkI b m p c s)) (by simp) (fun i w _ _=>sync11_c i w)) rfl ?_;clear S;rintro _ a w hh hS
 have S:=hS (dkI b m none 0 (settleD (fun _=>true) s)) hh (fun k hk=>.inl (by
  rcases hk with h | h | h
  exact .inl h
  exact .inr (.inl h)
  obtain ⟨ad,h,-⟩:=h;cases h))
 clear hS
 refine kN ?_
 have h1:=S.itNew (dkI b m none 0 (settleD (fun _=>true) s)) rfl
 refine end0 S (fun _=>⟨none,0,hh,h1⟩)
def askE (s:DS) (k:Int) (lays:Bool):Int:=if s.out then 9 else if k < 0∨s.size≤k then 2 else if (metF s.fails).1 then 8 else if lays&&(metF s.arms).1 then 9 else 0
def askD (s:DS) (k:Int) (lays:Bool):DS:=if s.out then s else if k < 0∨s.size≤k then s else if (metF s.fails).1 then { s with fails:=(metF s.fails).2 } else
 if lays then (if (metF s.arms).1 then { s with fails:=(metF s.fails).2,arms:=(metF s.arms).2,out:=true } else { s with fails:=(metF s.fails).2,arms:=(metF s.arms).2 }) else { s with fails:=(metF s.fails).2 }
def opD (s:DS):DS:={ s with ops:=IntKind.i64.wrap (s.ops+1) }
section
variable {w0:World} {M0:Nat→Prop} {ds:List Deferred} {a:Act} {w:World} {l:List Value} {fs:List (World→Prop)} {x y z X:Wk.Item}
theorem St.hold4 [ItOk x] [ItOk y] [ItOk z] [ItOk X] (S:St w0 M0 ds a w l [x,y,z,X] fs) (hx:x.own=true) (hy:y.own=true) (hz:z.own=true) (hX:X.own=true):(both X (both x (both y z))).holds w:=by
 have S1:=((St.close3 S hx hy hz).perm [X,both x (both y z)] (List.Perm.swap _ _ _)).toBoth hX (by simp[both,hx,hy,hz])
 exact S1.it (both X (both x (both y z)))
theorem St.new4 [ItOk x] [ItOk y] [ItOk z] [ItOk X] (S:St w0 M0 ds a w l [x,y,z,X] fs) (hx:x.own=true) (hy:y.own=true) (hz:z.own=true) (hX:X.own=true):∀ i,(both X (both x (both y z))).foot i→M0 i∨w0.heap.size≤i:=by
 have S1:=((St.close3 S hx hy hz).perm [X,both x (both y z)] (List.Perm.swap _ _ _)).toBoth hX (by simp[both,hx,hy,hz])
 exact S1.itNew (both X (both x (both y z))) (by simp[both,hx,hy,hz,hX])
end
theorem St.items {w0:World} {M0:Nat→Prop} {ds:List Deferred} {a:Act} {w:World} {l:List Value} {bs bs':List Wk.Item} {fs:List (World→Prop)} (S:St w0 M0 ds a w l bs fs) (h:bs=bs'):St w0 M0 ds a w l bs' fs:=h▸S
theorem askedR_c (F : Nat) [EntF Tryz.prog F] (ca : List Value) (X X' : Wk.Item) [ItOk X] [ItOk X'] (hX : X.own = true) (hX' : X'.own = true) (g : DS → DS) (b m : Nat) (p : Option Addr) (c : Nat) (s : DS) (k : Int) (fs : List (World → Prop)) (w0 : World) (hd : (both X (dkI b m p c s)).holds w0) (hf : ∀ Φ ∈ fs, Stable (both X (dkI b m p c s)).foot w0 Φ)
    (hdo : ∀ (s1 : DS) (w : World), s1.loose = s.loose → s1.firm = s.firm → (both X (dkI b m p c s1)).holds w → (∀ Φ ∈ fs, Stable (both X (dkI b m p c s1)).foot w Φ) → Ret Tryz.prog F ca w (both X (dkI b m p c s1)).foot fun _ w' => ∃ p' c', (both X' (dkI b m p' c' (g s1))).holds w' ∧ ∀ i, (both X' (dkI b m p' c' (g s1))).foot i → (both X (dkI b m p c s1)).foot i ∨ w.heap.size ≤ i) :
    Ret Tryz.prog 222 [.pointer (some ⟨b, 0, none⟩), .int .i64 k, .bool false, .func (.func F) #[] ⟨ca⟩] w0 (both X (dkI b m p c s)).foot fun v w' => v = .int .i64 (askE s k false) ∧
      ((askE s k false ≠ 0 ∧ (both X (dkI b m p c (askD s k false))).holds w' ∧ ∀ i, (both X (dkI b m p c (askD s k false))).foot i → (both X (dkI b m p c s)).foot i ∨ w0.heap.size ≤ i) ∨
       (askE s k false = 0 ∧ ∃ p' c', (both X' (dkI b m p' c' (opD (g (askD s k false))))).holds w' ∧ ∀ i, (both X' (dkI b m p' c' (opD (g (askD s k false))))).foot i → (both X (dkI b m p c s)).foot i ∨ w0.heap.size ≤ i)) := by
  refine enter Tryz.func222 rfl rfl (Wd.it2Lent (x := X) (y := dkI b m p c s) (fs := fs) hd hX rfl hf) (fun a S => ?_)
  simp only [Tryz.ntmps222, qqA, qqB, Nat.reduceAdd, Nat.reduceSub, qqC, qqD, qqE, qqF] at S
  refine kS (kR (sq S ?_));clear S;intro a S;refine kN (xtn (kS (kB (kS (kR ?_)))));(iterate 3 (refine sq S ?_; clear S; intro a S));refine kN (xtn ?_);refine c_condF S ?_;refine kS ?_
  replace S := St.open3 (S.perm [dkI b m p c s, X] (List.Perm.swap _ _ _))
  refine kR ?_;(iterate 6 (refine sq S ?_; clear S; intro a S));refine kN (xtn ?_)
  refine kC S (fun h3 => ?_) (fun h3 => ?_)
  · refine kS (kR (sq S ?_));clear S;intro a S;refine kN (xtn (kT (xbr (xtr ?_))))
    have ho : s.out = true := by simpa using h3
    have e1 : askE s k false = 9 := by simp [askE, ho]
    have e2 : askD s k false = s := by simp [askD, ho]
    have hh := St.hold4 S rfl rfl rfl hX
    have hn := St.new4 S rfl rfl rfl hX
    refine end1 S (fun _ => ⟨by rw [e1], .inl ⟨by rw [e1]; decide, by rw [e2]; exact hh, by rw [e2]; exact hn⟩⟩)
  · refine kS (kR ?_);(iterate 3 (refine sq S ?_; clear S; intro a S));(iterate 7 (refine gQ S ?_; clear S; intro a S));(iterate 2 (refine sq S ?_; clear S; intro a S));refine kN (xtn ?_)
    refine kC S (fun h5 => ?_) (fun h5 => ?_)
    · refine kS (kR (sq S ?_));clear S;intro a S;refine kN (xtn (kT (xbr (xtr ?_))))
      have ho : s.out = false := by simpa using h3
      have hk : k < 0 ∨ s.size ≤ k := by simpa using h5
      have e1 : askE s k false = 2 := by simp [askE, ho, hk]
      have e2 : askD s k false = s := by simp [askD, ho, hk]
      have hh := St.hold4 S rfl rfl rfl hX
      have hn := St.new4 S rfl rfl rfl hX
      refine end1 S (fun _ => ⟨by rw [e1], .inl ⟨by rw [e1]; decide, by rw [e2]; exact hh, by rw [e2]; exact hn⟩⟩)
    · refine kS (kR ?_);(iterate 4 (refine sq S ?_; clear S; intro a S))
      have ho : s.out = false := by simpa using h3
      have hk : ¬ (k < 0 ∨ s.size ≤ k) := by simpa using h5
      refine sit (Wk.box b 170 (cDisk m p s.loose.length c s)) S (met_fails b m p s.loose.length c s _ (S.box b)) rfl ?_; clear S; rintro _ a w ⟨rfl, hbx⟩ hS
      have S := hS (Wk.box b 170 (cDisk m p s.loose.length c { s with fails := (metF s.fails).2 })) hbx (fun k h => .inl h)
      clear hS
      refine sq S ?_;clear S;intro a S;refine kN (xtn ?_)
      refine kC S (fun h7 => ?_) (fun h7 => ?_)
      · refine kS (kR (sq S ?_));clear S;intro a S;refine kN (xtn (kT (xbr (xtr ?_))))
        have hm : (metF s.fails).1 = true := by simpa using h7
        have e1 : askE s k false = 8 := by simp [askE, ho, hk, hm]
        have e2 : askD s k false = { s with fails := (metF s.fails).2 } := by simp [askD, ho, hk, hm]
        have hh := St.hold4 S rfl rfl rfl hX
        have hn := St.new4 S rfl rfl rfl hX
        refine end1 S (fun _ => ⟨by rw [e1], .inl ⟨by rw [e1]; decide, by rw [e2]; exact hh, by rw [e2]; exact hn⟩⟩)
      · refine kS ?_
        have hm : (metF s.fails).1 = false := by simpa using h7
        refine kR ?_;(iterate 2 (refine sq S ?_; clear S; intro a S));(iterate 5 (refine gF S ?_; clear S; intro a S));(iterate 2 (refine sq S ?_; clear S; intro a S));refine kN (xtn ?_);refine c_condF S ?_;refine kK (xbn (xtn (kS ?_)))
        skip
        have e1 : askE s k false = 0 := by simp [askE, ho, hk, hm]
        obtain ⟨s1, hs1⟩ : ∃ s1 : DS, s1 = { s with fails := (metF s.fails).2 } := ⟨_, rfl⟩
        have e2 : askD s k false = s1 := by rw [hs1]; simp [askD, ho, hk, hm]
        have hl1 : s1.loose = s.loose := by rw [hs1]
        have hf1 : s1.firm = s.firm := by rw [hs1]
        replace S := St.items S (bs' := [Wk.box b 170 (cDisk m p s1.loose.length c s1), mpn m (kvB s1.firm), Wk.row 265 65 p s1.loose.length c (encL s1.loose), X]) (by subst hs1; rfl)
        replace S := ((St.close3 S).perm [X, dkI b m p c s1] (List.Perm.swap _ _ _)).toBoth hX rfl
        refine kR (sq S ?_);clear S;intro a S
        refine sit (both X (dkI b m p c s1)) S (hdo s1 _ hl1 hf1 (S.it (both X (dkI b m p c s1))) (fun Φ hΦ => S.lend (both X (dkI b m p c s1)) (S.wd.facts Φ hΦ))) (by simp only [both, hX]; rfl) ?_; clear S; rintro _ a w ⟨p', c', hh, hn⟩ hS
        have S := hS (both X' (dkI b m p' c' (g s1))) hh hn
        clear hS
        replace S := St.open3 ((S.ofBoth hX' rfl).perm [dkI b m p' c' (g s1), X'] (List.Perm.swap _ _ _))
        refine kN (xtn (kS (kR ?_)));(iterate 9 (refine sq S ?_; clear S; intro a S));refine sw S ?_;clear S;intro a w S;refine kN (xtn (kS (kR (sq S ?_))));clear S;intro a S;refine kN (xtn (kT ?_))
        have hh := St.hold4 S rfl rfl rfl hX'
        have hn := St.new4 S rfl rfl rfl hX'
        refine end1 S (fun _ => ⟨by rw [e1], .inr ⟨e1, p', c', by rw [e2]; exact hh, by rw [e2]; exact hn⟩⟩)
theorem askedW_c (F : Nat) [EntF Tryz.prog F] (ca : List Value) (X X' : Wk.Item) [ItOk X] [ItOk X'] (hX : X.own = true) (hX' : X'.own = true) (g : DS → DS) (b m : Nat) (p : Option Addr) (c : Nat) (s : DS) (k : Int) (fs : List (World → Prop)) (w0 : World) (hd : (both X (dkI b m p c s)).holds w0) (hf : ∀ Φ ∈ fs, Stable (both X (dkI b m p c s)).foot w0 Φ)
    (hdo : ∀ (s1 : DS) (w : World), s1.loose = s.loose → s1.firm = s.firm → (both X (dkI b m p c s1)).holds w → (∀ Φ ∈ fs, Stable (both X (dkI b m p c s1)).foot w Φ) → Ret Tryz.prog F ca w (both X (dkI b m p c s1)).foot fun _ w' => ∃ p' c', (both X' (dkI b m p' c' (g s1))).holds w' ∧ ∀ i, (both X' (dkI b m p' c' (g s1))).foot i → (both X (dkI b m p c s1)).foot i ∨ w.heap.size ≤ i) :
    Ret Tryz.prog 222 [.pointer (some ⟨b, 0, none⟩), .int .i64 k, .bool true, .func (.func F) #[] ⟨ca⟩] w0 (both X (dkI b m p c s)).foot fun v w' => v = .int .i64 (askE s k true) ∧
      ((askE s k true ≠ 0 ∧ (both X (dkI b m p c (askD s k true))).holds w' ∧ ∀ i, (both X (dkI b m p c (askD s k true))).foot i → (both X (dkI b m p c s)).foot i ∨ w0.heap.size ≤ i) ∨
       (askE s k true = 0 ∧ ∃ p' c', (both X' (dkI b m p' c' (opD (g (askD s k true))))).holds w' ∧ ∀ i, (both X' (dkI b m p' c' (opD (g (askD s k true))))).foot i → (both X (dkI b m p c s)).foot i ∨ w0.heap.size ≤ i)) := by
  refine enter Tryz.func222 rfl rfl (Wd.it2Lent (x := X) (y := dkI b m p c s) (fs := fs) hd hX rfl hf) (fun a S => ?_)
  simp only [Tryz.ntmps222, qqA, qqB, Nat.reduceAdd, Nat.reduceSub, qqC, qqD, qqE, qqF] at S
  refine kS (kR (sq S ?_));clear S;intro a S;refine kN (xtn (kS (kB (kS (kR ?_)))));(iterate 3 (refine sq S ?_; clear S; intro a S));refine kN (xtn ?_);refine c_condF S ?_;refine kS ?_
  replace S := St.open3 (S.perm [dkI b m p c s, X] (List.Perm.swap _ _ _))
  refine kR ?_;(iterate 6 (refine sq S ?_; clear S; intro a S));refine kN (xtn ?_)
  refine kC S (fun h3 => ?_) (fun h3 => ?_)
  · refine kS (kR (sq S ?_));clear S;intro a S;refine kN (xtn (kT (xbr (xtr ?_))))
    have ho : s.out = true := by simpa using h3
    have e1 : askE s k true = 9 := by simp [askE, ho]
    have e2 : askD s k true = s := by simp [askD, ho]
    have hh := St.hold4 S rfl rfl rfl hX
    have hn := St.new4 S rfl rfl rfl hX
    refine end1 S (fun _ => ⟨by rw [e1], .inl ⟨by rw [e1]; decide, by rw [e2]; exact hh, by rw [e2]; exact hn⟩⟩)
  · refine kS (kR ?_);(iterate 3 (refine sq S ?_; clear S; intro a S));(iterate 7 (refine gQ S ?_; clear S; intro a S));(iterate 2 (refine sq S ?_; clear S; intro a S));refine kN (xtn ?_)
    refine kC S (fun h5 => ?_) (fun h5 => ?_)
    · refine kS (kR (sq S ?_));clear S;intro a S;refine kN (xtn (kT (xbr (xtr ?_))))
      have ho : s.out = false := by simpa using h3
      have hk : k < 0 ∨ s.size ≤ k := by simpa using h5
      have e1 : askE s k true = 2 := by simp [askE, ho, hk]
      have e2 : askD s k true = s := by simp [askD, ho, hk]
      have hh := St.hold4 S rfl rfl rfl hX
      have hn := St.new4 S rfl rfl rfl hX
      refine end1 S (fun _ => ⟨by rw [e1], .inl ⟨by rw [e1]; decide, by rw [e2]; exact hh, by rw [e2]; exact hn⟩⟩)
    · refine kS (kR ?_);(iterate 4 (refine sq S ?_; clear S; intro a S))
      have ho : s.out = false := by simpa using h3
      have hk : ¬ (k < 0 ∨ s.size ≤ k) := by simpa using h5
      refine sit (Wk.box b 170 (cDisk m p s.loose.length c s)) S (met_fails b m p s.loose.length c s _ (S.box b)) rfl ?_; clear S; rintro _ a w ⟨rfl, hbx⟩ hS
      have S := hS (Wk.box b 170 (cDisk m p s.loose.length c { s with fails := (metF s.fails).2 })) hbx (fun k h => .inl h)
      clear hS
      refine sq S ?_;clear S;intro a S;refine kN (xtn ?_)
      refine kC S (fun h7 => ?_) (fun h7 => ?_)
      · refine kS (kR (sq S ?_));clear S;intro a S;refine kN (xtn (kT (xbr (xtr ?_))))
        have hm : (metF s.fails).1 = true := by simpa using h7
        have e1 : askE s k true = 8 := by simp [askE, ho, hk, hm]
        have e2 : askD s k true = { s with fails := (metF s.fails).2 } := by simp [askD, ho, hk, hm]
        have hh := St.hold4 S rfl rfl rfl hX
        have hn := St.new4 S rfl rfl rfl hX
        refine end1 S (fun _ => ⟨by rw [e1], .inl ⟨by rw [e1]; decide, by rw [e2]; exact hh, by rw [e2]; exact hn⟩⟩)
      · refine kS ?_
        have hm : (metF s.fails).1 = false := by simpa using h7
        refine kR ?_;(iterate 2 (refine sq S ?_; clear S; intro a S));refine gT S ?_;refine sq S ?_;clear S;intro a S;refine gT S ?_;refine sq S ?_;clear S;intro a S;refine gT S ?_;refine sq S ?_;clear S;intro a S;refine gT S ?_;refine sq S ?_;clear S;intro a S;refine gT S ?_
        refine sit (Wk.box b 170 (cDisk m p s.loose.length c { s with fails := (metF s.fails).2 })) S (met_arms b m p s.loose.length c { s with fails := (metF s.fails).2 } _ (S.box b)) rfl ?_; clear S; rintro _ a w ⟨rfl, hbx⟩ hS
        have S := hS (Wk.box b 170 (cDisk m p s.loose.length c { s with fails := (metF s.fails).2, arms := (metF s.arms).2 })) hbx (fun k h => .inl h)
        clear hS
        (iterate 2 (refine sq S ?_; clear S; intro a S));refine kN (xtn ?_)
        refine kC S (fun h9 => ?_) (fun h9 => ?_)
        · refine kS (kR ?_);(iterate 4 (refine sq S ?_; clear S; intro a S));refine sw S ?_;clear S;intro a w S;refine kN (xtn (kS (kR (sq S ?_))));clear S;intro a S;refine kN (xtn (kT (xbr (xtr ?_))))
          have hm2 : (metF s.arms).1 = true := by simpa using h9
          have e1 : askE s k true = 9 := by simp [askE, ho, hk, hm, hm2]
          have e2 : askD s k true = { s with fails := (metF s.fails).2, arms := (metF s.arms).2, out := true } := by simp [askD, ho, hk, hm, hm2]
          have hh := St.hold4 S rfl rfl rfl hX
          have hn := St.new4 S rfl rfl rfl hX
          refine end1 S (fun _ => ⟨by rw [e1], .inl ⟨by rw [e1]; decide, by rw [e2]; exact hh, by rw [e2]; exact hn⟩⟩)
        · refine kK (xbn (xtn (kS ?_)))
          have hm2 : (metF s.arms).1 = false := by simpa using h9
          have e1 : askE s k true = 0 := by simp [askE, ho, hk, hm, hm2]
          obtain ⟨s1, hs1⟩ : ∃ s1 : DS, s1 = { s with fails := (metF s.fails).2, arms := (metF s.arms).2 } := ⟨_, rfl⟩
          have e2 : askD s k true = s1 := by rw [hs1]; simp [askD, ho, hk, hm, hm2]
          have hl1 : s1.loose = s.loose := by rw [hs1]
          have hf1 : s1.firm = s.firm := by rw [hs1]
          replace S := St.items S (bs' := [Wk.box b 170 (cDisk m p s1.loose.length c s1), mpn m (kvB s1.firm), Wk.row 265 65 p s1.loose.length c (encL s1.loose), X]) (by subst hs1; rfl)
          replace S := ((St.close3 S).perm [X, dkI b m p c s1] (List.Perm.swap _ _ _)).toBoth hX rfl
          refine kR (sq S ?_);clear S;intro a S
          refine sit (both X (dkI b m p c s1)) S (hdo s1 _ hl1 hf1 (S.it (both X (dkI b m p c s1))) (fun Φ hΦ => S.lend (both X (dkI b m p c s1)) (S.wd.facts Φ hΦ))) (by simp only [both, hX]; rfl) ?_; clear S; rintro _ a w ⟨p', c', hh, hn⟩ hS
          have S := hS (both X' (dkI b m p' c' (g s1))) hh hn
          clear hS
          replace S := St.open3 ((S.ofBoth hX' rfl).perm [dkI b m p' c' (g s1), X'] (List.Perm.swap _ _ _))
          refine kN (xtn (kS (kR ?_)));(iterate 9 (refine sq S ?_; clear S; intro a S));refine sw S ?_;clear S;intro a w S;refine kN (xtn (kS (kR (sq S ?_))));clear S;intro a S;refine kN (xtn (kT ?_))
          have hh := St.hold4 S rfl rfl rfl hX'
          have hn := St.new4 S rfl rfl rfl hX'
          refine end1 S (fun _ => ⟨by rw [e1], .inr ⟨e1, p', c', by rw [e2]; exact hh, by rw [e2]; exact hn⟩⟩)
end Go.Proofs.YtdakncgafdnjfaaGreat