/- 3: a part of this claim's texts, joined: W7 W8 Reader ReaderB ReaderC PlainDec W9 W10 W11 W12 W13 TermI PlainDecB PlainDecC PlainDecD PlainScript PlainScriptB PlainScriptC PlainScriptE. -/
import Derived.Test.YtlgnhhebeandkaaGreatDoorPk2
import Derived.RecoverIn
import Derived.OpenShut
import Derived.Lib.AppendZerosOnto
import Derived.Lib.Overlaps
import Derived.ChangeKeysEq
import Derived.Laws.StructEq
import Derived.SizedLaws
import Derived.Lib.AtoiAll
import Derived.Lib.ItoaNum
namespace Go.Wk
open Go
def RetP (P:Program)(f:Nat)(args:List Value)(w:World)(M:Nat→Prop)(R:Value→World→Prop)(X:List PanicEntry→World→Prop):Prop:=
 Calls P f args.toArray w fun e w'=>(∃ v,e=.returned v∧Agree M w w'∧R v w')∨∃ ch,e=.panicked ch∧Agree M w w'∧X ch w'
def pch (v:Value):List PanicEntry:=[{ v:=v,recovered:=false }]
section
variable {P:Program}{r:Option Nat}{ops:Array Oper}{Q:Exit→Act→World→Prop}{w0:World}{M0:Nat→Prop}{ds:List Deferred}{a:Act}{w:World}{l l':List Value}{bs bs':List Item}{fs:List (World→Prop)}
 {d:Option Nat} {op:Op} {ty:TypeId} {pos:String} {af:Array Edge} {rest:List Oper} {v v' G:Value} {f:Nat} {x:Operand} {xs:List Operand} {args:List Value} {ts:Array TypeId} {j g:Nat} {pol:Bool} {cs:List Bool}
theorem cv_anyP [EntF P f][CallTo ⟨[],l⟩ x xs f args](S:St w0 M0 ds a w l bs fs){R:Ending→World→Prop}(hc:Calls P f args.toArray w R)
  (K:∀ e w',R e w'→(∃ v,e=.returned v∧WL P r ops Q rest (a.put d v) w')∨∃ ch,e=.panicked ch∧Q (.panic ch) a w') :
  WL P r ops Q (⟨d,.call { callee:=.value x,args:=xs.toArray,argTypes:=ts },ty,pos,af,none⟩::rest) a w:=by
 refine wl_plain rfl ?_;rw[semAt_nd rfl];simp only[run_callto (f:=f) (args:=args) S.fr,Oper.uponIn];refine ⟨fun h=>(by cases h),trivial,fun cs _=>?_⟩;obtain ⟨e,w',fr,hR,hcm,h1,h2⟩:=hc cs;rcases K e w' hR with ⟨v,rfl,hk⟩ | ⟨ch,rfl,hk⟩
 exact ⟨.returned v,w',fr,hk,(comesIn_wide (m:=lone (Frame.enter P f args.toArray .normal) cs w) (e:=.returned v)).2 hcm,h1,h2⟩;exact ⟨.panicked ch,w',fr,hk,(comesIn_wide (m:=lone (Frame.enter P f args.toArray .normal) cs w) (e:=.panicked ch)).2 hcm,h1,h2⟩
theorem srP {l':Value→List Value}[EntF P f][CallTo ⟨[],l⟩ x xs f args][hp:∀ v,PutO l d v (l' v)](S:St w0 M0 ds a w l bs fs){R:Value→World→Prop}{X:List PanicEntry→World→Prop}(hc:RetP P f args w (fun _=>False) R X)
  (Kp:∀ ch w',X ch w'→St w0 M0 ds a w' l bs fs→Q (.panic ch) a w')
  (K:∀ v a w',R v w'→St w0 M0 ds a w' (l' v) bs fs→WL P r ops Q rest a w') :
  WL P r ops Q (⟨d,.call { callee:=.value x,args:=xs.toArray,argTypes:=ts },ty,pos,af,none⟩::rest) a w:=by
 refine cv_anyP S hc ?_;rintro e w' (⟨v,rfl,ha,hR⟩ | ⟨ch,rfl,ha,hX⟩);have:=hp v;have S':=S.put (d:=d) (v:=v);exact .inl ⟨v,rfl,K v _ w' hR ⟨S'.slots,S'.defers,S'.wd.step ha⟩⟩;exact .inr ⟨ch,rfl,Kp ch w' hX ⟨S.slots,S.defers,S.wd.step ha⟩⟩
theorem sPan {tp:TypeId}[hx:Ev ⟨[],l⟩ x (.iface tp v)](S:St w0 M0 ds a w l bs fs)(h:St w0 M0 ds a w l bs fs→Q (.panic (pch (.iface tp v))) a w):WL P r ops Q (⟨d,.panic x,ty,pos,af,none⟩::rest) a w:=by
 refine wl_plain rfl ?_;rw[semAt_nd rfl];have hf:a.eval x=.iface tp v:=S.fr.ev;have:(xop a.eval (.panic x) ty).run P w=.halt (.panic (.iface tp v)) w:=by
  simp[xop,execOp,hf,Instr.panic,goPanic,Sem.run]
 rw[this];exact h S
variable {fn:Func}{R:Value→World→Prop}{X:List PanicEntry→World→Prop}{e:Exit}
theorem endP (h:bodyPost P fn (fun e w'=>∃ v,e=.returned v∧Agree M0 w0 w'∧R v w') e a w) :
  bodyPost P fn (fun e w'=>(∃ v,e=.returned v∧Agree M0 w0 w'∧R v w')∨∃ ch,e=.panicked ch∧Agree M0 w0 w'∧X ch w') e a w:=by
 cases e <;> simp only[bodyPost]at h⊢<;> first | exact h | skip
 exact ⟨h.1,h.2.choose,h.2.choose_spec.1,.inl h.2.choose_spec.2⟩;exact ⟨h.1,h.2.choose,h.2.choose_spec.1,.inl h.2.choose_spec.2⟩;exact ⟨h.1,.inl h.2⟩;exact .inl h
theorem endX {ch:List PanicEntry}(S:St w0 M0 [] a w l bs fs)(h:X ch w) :
  bodyPost P fn (fun e w'=>(∃ v,e=.returned v∧Agree M0 w0 w'∧R v w')∨∃ ch,e=.panicked ch∧Agree M0 w0 w'∧X ch w') (.panic ch) a w:=
 ⟨S.defers,.inr ⟨ch,rfl,S.wd.agree,h⟩⟩
theorem enterD {f:Nat}{fn:Func}{c:Code}{args:List Value}{l:List Value}{R:Ending→World→Prop}{M0:Nat→Prop}{bs:List Item}{fs:List (World→Prop)}
  (hf:P.funcs[f]? = some fn) (hb:fn.body=some c) (hl:args++List.replicate (fn.ntmps - args.length) undef=l) (hw:Wd w M0 w bs fs)
  (h:∀ a,St w M0 [] a w l bs fs→Wp P none c (bodyPostDIn (FW none) 0 P fn R) a w):Calls P f args.toArray w R:=by
 refine (callsIn_wide (n:=0)).1 (callsIn_of_wp_defers (F:=FW none) (n:=0) hf hb trivial (h _ ⟨?_,rfl,hw⟩));simp[←hl]
theorem sdef {fi ca:List Value}{l':List Value}[hx:Ev ⟨[],l⟩ x (.func (.func f) ⟨fi⟩ ⟨ca⟩)][hp:PutO l d undef l'](S:St w0 M0 ds a w l bs fs)
  (K:∀ a,St w0 M0 ({ target:=.fn (.func f) ⟨ca⟩,args:=⟨fi⟩ }::ds) a w l' bs fs→WL P none ops Q rest a w) :
  WL P none ops Q (⟨d,.defer { callee:=.value x,args:=#[],argTypes:=ts },ty,pos,af,none⟩::rest) a w:=by
 refine wl_plain rfl ?_;have hf:a.eval x=.func (.func f) ⟨fi⟩ ⟨ca⟩:=S.fr.ev;rw[Oper.semAt_none];have:(execOp a.eval ⟨d,.defer { callee:=.value x,args:=#[],argTypes:=ts },ty,pos,af,none⟩).run P w=.ok (.defer { target:=.fn (.func f) ⟨ca⟩,args:=⟨fi⟩ }) w:=by
  simp[execOp,resolve,hf,Deferred.ofValue]
 rw[this];obtain ⟨t,dd⟩:=a;have:=S.slots;simp at this;subst this;have hd:=S.defers;simp at hd;subst hd
 show WL P none ops Q rest _ w
 rw[hp.eq];exact K _ ⟨rfl,rfl,S.wd⟩
theorem leaveRet {g:Nat}{ca:List Value}{K:World→Prop}{Rr:Ending→World→Prop}[he:EntF P g](hd:a.defers=[{ target:=.fn (.func g) ⟨ca⟩,args:=#[] }])
  (hc:CallsDIn (FW none) 0 P g ca.toArray .returning w fun e u' w'=>(∃ v,e=.returned v)∧u'=.returning∧K w')
  (hk:∀ w',K w'→∃ v,(results fn a.tmps).run P w'=.ok v w'∧Rr (.returned v) w') (hx:e=.ret∨e=.normal:=by simp):bodyPostDIn (FW none) 0 P fn Rr e a w:=by
 have key:LeavesIn (FW none) 0 P fn a.tmps Rr a.defers .returning w:=by
  rw[hd];refine leavesIn_cons (f:=g) (args:=ca.toArray) (by simp) (fun h=>by cases h) ?_ (fun _ _=>trivial) (hc.mono ?_);have:=he.run ca.toArray w;simpa [invoke] using this;rintro e u' w' ⟨⟨v,rfl⟩,rfl,hK⟩;obtain ⟨v,h1,h2⟩:=hk w' hK;exact ⟨v,h1,h2⟩
 rcases hx with rfl | rfl <;> exact key
theorem leavePan {g:Nat}{ca:List Value}{pv:Value}{K:World→Prop}{Rr:Ending→World→Prop}[he:EntF P g](hd:a.defers=[{ target:=.fn (.func g) ⟨ca⟩,args:=#[] }])
  (hc:CallsDIn (FW none) 0 P g ca.toArray (.panicking (pch pv)) w fun e u' w'=>(∃ v,e=.returned v)∧u'=.panicking [{ v:=pv,recovered:=true }]∧K w')
  (hk:∀ w',K w'→∃ v,(results fn a.tmps).run P w'=.ok v w'∧Rr (.returned v) w'):bodyPostDIn (FW none) 0 P fn Rr (.panic (pch pv)) a w:=by
 show LeavesIn (FW none) 0 P fn a.tmps Rr a.defers (.panicking (pch pv)) w
 rw[hd];refine leavesIn_cons (f:=g) (args:=ca.toArray) (by simp) (fun h=>by cases h) ?_ (fun _ _=>trivial) (hc.mono ?_);have:=he.run ca.toArray w;simpa [invoke] using this;rintro e u' w' ⟨⟨v,rfl⟩,rfl,hK⟩;obtain ⟨v,h1,h2⟩:=hk w' hK;exact ⟨v,h1,h2⟩
theorem callsD_catch {f:Nat}{fn:Func}{rest:Code}{id t6 t3:Nat}{ty0 ty1:TypeId}{pos0 pos1:String}{af0 af1:Array Edge}{args l:List Value}{l1 l2:Value→List Value}{u:FrameMode}{w0:World}{M0:Nat→Prop}{bs:List Item}{fs:List (World→Prop)}{Rr:Ending→FrameMode→World→Prop}
  (hf:P.funcs[f]? = some fn) (hb:fn.body=some (.seq (.region id #[⟨some t6,.call { callee:=.builtin .recover,args:=#[],argTypes:=#[] },ty0,pos0,af0,none⟩,⟨some t3,.assign (.tmp t6),ty1,pos1,af1,none⟩] false) rest))
  (hl:args++List.replicate (fn.ntmps - args.length) undef=l) (hw:Wd w0 M0 w bs fs) [hp1:∀ x,PutAt l t6 x (l1 x)] [hn1:∀ x,Nth (l1 x) t6 x] [hp2:∀ x,PutAt (l1 x) t3 x (l2 x)]
  (hu:u=.returning∨∃ pv,u=.panicking (pch pv))
  (h:∀ (x:Value) (u':FrameMode),(u=.returning∧x=.nilIface∧u'=u∨∃ pv,u=.panicking (pch pv)∧x=pv∧u'=.panicking [{ v:=pv,recovered:=true }])→
   ∀ a,St w0 M0 [] a w (l2 x) bs fs→Wp P none rest (fun e a' w'=>(e=.normal∨e=.ret)∧a'.defers=[]∧∃ v,(results fn a'.tmps).run P w'=.ok v w'∧Rr (.returned v) u' w') a w) :
  CallsDIn (FW none) 0 P f args.toArray u w Rr:=by
 have main:∀ (c₀:Frame) (cs:List Frame) (x:Value) (u':FrameMode),c₀.mode=u→
   (u=.returning∧x=.nilIface∧u'=u∨∃ pv,u=.panicking (pch pv)∧x=pv∧u'=.panicking [{ v:=pv,recovered:=true }])→
   rest.wpSIn (FW none) 0 P (bodyPostS P fn c₀ cs Rr) ⟨(l2 x).toArray,[]⟩ ({ c₀ with mode:=u' }::cs) w:=by
  intro c₀ cs x u' _ hx;refine wpSIn_of_wpIn rfl (wpIn_mono (h x u' hx ⟨(l2 x).toArray,[]⟩ ⟨rfl,rfl,hw⟩) fun e a' w' hq=>?_);obtain ⟨he,hd,v,h1,h2⟩:=hq;rcases he with rfl | rfl <;> exact ⟨hd,u',rfl,v,h1,h2⟩
 refine callsDIn_of_wpSIn hf hb trivial fun c₀ cs hc₀=>wpSIn_seq (wpSIn_region ?_)
 have hl':args.toArray++Array.replicate (fn.ntmps - args.toArray.size) undef=l.toArray:=by rw[←hl];simp
 rw[hl'];have step:∀ x,((⟨l.toArray,[]⟩:Act).put (some t6) x).put (some t3) (((⟨l.toArray,[]⟩:Act).put (some t6) x).eval (.tmp t6))=⟨(l2 x).toArray,[]⟩:=fun x=>by
  have e1:(⟨l.toArray,[]⟩:Act).put (some t6) x=⟨(l1 x).toArray,[]⟩:=(puto1 (l:=l) (l':=l1 x) (v:=x) (n:=t6)).eq [];have e2:(⟨(l1 x).toArray,[]⟩:Act).eval (.tmp t6)=x:=by
   have:=(hn1 x).eq;simp[Act.eval,Array.getD_eq_getD_getElem?,this]
  rw[e1,e2];exact (puto1 (l:=l1 x) (l':=l2 x) (v:=x) (n:=t3)).eq []
 have hr0:∀ (a:Act),(execOp a.eval ⟨some t6,.call { callee:=.builtin .recover,args:=#[],argTypes:=#[] },ty0,pos0,af0,none⟩).run P w=.ok .recover w:=fun a=>by
  simp[execOp,resolve,invoke,builtin]
 have hr1:∀ (a:Act),(execOp a.eval ⟨some t3,.assign (.tmp t6),ty1,pos1,af1,none⟩).run P w=.ok (.value (a.eval (.tmp t6))) w:=fun a=>by
  simp[execOp]
 have hcs:({ c₀ with mode:=u } : Frame)=c₀:=by subst hc₀;rfl
 rw[show List.range (#[(⟨some t6,.call { callee:=.builtin .recover,args:=#[],argTypes:=#[] },ty0,pos0,af0,none⟩:Oper),⟨some t3,.assign (.tmp t6),ty1,pos1,af1,none⟩]:Array Oper).size=[0,1] from rfl];simp only[wpOpsSIn,List.getElem?_toArray,List.getElem?_cons_zero,List.getElem?_cons_succ,hr0,hr1];refine ⟨fun _ _=>trivial,?_⟩;rw[if_pos (by rfl)];rcases hu with rfl | ⟨pv,rfl⟩
 have:recoverD (c₀::cs)=none:=by simp[recoverD,hc₀]
 rw[this];refine ⟨fun _ _=>trivial,?_⟩;rw[if_pos (by rfl)];have hm:=main c₀ cs .nilIface .returning hc₀ (.inl ⟨rfl,rfl,rfl⟩);rw[hcs]at hm;rw[←step]at hm;exact hm;have:recoverD (c₀::cs)=some (pv,{ c₀ with mode:=.panicking [{ v:=pv,recovered:=true }] }::cs):=by simp[recoverD,hc₀,pch]
 rw[this];refine ⟨fun _ _=>trivial,?_⟩;rw[if_pos (by rfl)];have hm:=main c₀ cs pv _ hc₀ (.inr ⟨pv,rfl,rfl,rfl⟩);rw[←step]at hm;exact hm
end
theorem resC {P:Program}{fn:Func}{w0:World}{M0:Nat→Prop}{a:Act}{w:World}{l:List Value}{bs:List Item}{fs:List (World→Prop)}[hr:FnRes fn []](S:St w0 M0 [] a w l bs fs):(results fn a.tmps).run P w=.ok (.tuple #[]) w:=by
 rw[S.slots,results_eq (rs:=[])];simp
theorem res3 {P:Program}{fn:Func}{t:Array Value}{w:World}{l:List Value}{bs:List Item}{r1 r2 r3:ResultVar}{v1 v2 v3:Value}[hr:FnRes fn [r1,r2,r3]](hs:t=l.toArray)[h1:ResV P l bs r1 v1][h2:ResV P l bs r2 v2][h3:ResV P l bs r3 v3](hh:∀ it∈bs,it.holds w):(results fn t).run P w=.ok (.tuple ⟨[v1,v2,v3]⟩) w:=by
 rw[hs,results_eq (rs:=[r1,r2,r3])];simp[run_res (P:=P) (l:=l) (bs:=bs) (rv:=r1) (v:=v1) w hh,run_res (P:=P) (l:=l) (bs:=bs) (rv:=r2) (v:=v2) w hh,run_res (P:=P) (l:=l) (bs:=bs) (rv:=r3) (v:=v3) w hh]
structure XP where
 keep:List (Nat × Value)
 dss:List Deferred
 XW:List PanicEntry→World→Prop
def XP.at (x:XP):Exit→Act→World→Prop
 | .panic ch,a,w=>(∀ p∈x.keep,a.tmps[p.1]? = some p.2)∧a.defers=x.dss∧x.XW ch w
 | _,_,_=>False
def XP.off (x:XP)(o:Oper):Prop:=∀ p∈x.keep,o.dst≠some p.1
theorem XP.put {x:XP}{o:Oper}(h:x.off o){ch:List PanicEntry}{a:Act}{v:Value}{w:World}(hp:x.at (.panic ch) (a.put o.dst v) w):x.at (.panic ch) a w:=by
 obtain ⟨h1,h2,h3⟩:=hp;refine ⟨fun p hpk=>?_,?_,h3⟩;have h1:=h1 p hpk;have h0:=h p hpk;cases hd:o.dst with
 | none=>rw[hd]at h1;exact h1
 | some n=>
  rw[hd]at h1;have hne:n≠p.1:=fun e=>h0 (by rw[hd,e])
  simpa [Act.put,Array.getElem?_setIfInBounds,hne] using h1
 cases hd:o.dst <;> rw[hd]at h2 <;> exact h2
section
variable {P:Program}{ops:Array Oper}{C:World→Prop}{X:XP}
abbrev WNX (P:Program)(ops:Array Oper)(X:XP)(i:Nat)(K:Act→World→Prop)(a:Act)(w:World):Prop:=wpOpIn (FW none) 0 P ops X.at i K a w
theorem YieldsC.wnx {i:Nat}{o:Oper}{v:Value}{a:Act}(hi:ops[i]? = some o)(hy:YieldsC P ops C o v a)
  {K:Act→World→Prop} {w:World} (hC:C w) (h:K (a.put o.dst v) w):WNX P ops X i K a w:=by
 unfold WNX wpOpIn;simp only[hi];rcases hy with ⟨hw,hv⟩ | ⟨hw,rfl⟩
 simp only[hw,if_true,Oper.wpIn,Oper.semAt_none,hv w hC,Oper.uponIn];exact ⟨fun _ _=>trivial,h⟩;simp only[hw,Bool.false_eq_true,if_false];exact ⟨fun _ _=>trivial,h⟩
theorem wnx_put {j:Nat}{oi oj:Oper}{v:Value}(hj:ops[j]? = some oj)(hap:oi.apart ops oj=true)(hoff:X.off oi)
  (hsi:∀ cs b,oi.op≠.select cs b) (hsj:∀ cs b,oj.op≠.select cs b) {K:Act→World→Prop} {a:Act} {w:World}
  (hy:YieldsC P ops C oi v a) (h:WNX P ops X j K (a.put oi.dst v) w) :
  WNX P ops X j (fun a' w'=>YieldsC P ops C oi v a'∧K (a'.put oi.dst v) w') a w:=by
 obtain ⟨h1,h2,h3⟩:=Oper.apart_spec hap;have keep:∀ (a:Act),YieldsC P ops C oi v a→∀ u,YieldsC P ops C oi v (a.put oj.dst u):=fun a hy u=>
  hy.of_same (execOp_put oi hsi a oj.dst u h3) (wanted_put oi a oj.dst u h3)
 have keepD:∀ d,YieldsC P ops C oi v { a with defers:=d::a.defers }:=fun d=>hy.of_same rfl rfl
 have lets:LetsOut X.at→LetsOut X.at:=id;unfold WNX wpOpIn at *;simp only[hj]at *;rw[wanted_put oj a oi.dst v h1]at h;split
 ·rename_i hw
  simp only[hw,if_true]at h;unfold Oper.wpIn at *;refine ⟨fun _ _=>trivial,?_⟩;have h:=h.2;rw[Oper.semAt_none,execOp_put oj hsj a oi.dst v h1]at h;rw[Oper.semAt_none]
  generalize (execOp a.eval oj).run P w=r at *
  cases r with
  | ok x w'=>
   cases x <;> simp only[Oper.uponIn]at h⊢
   case value u=>exact ⟨keep a hy u,by rw[←Act.put_comm a v u h2];exact h⟩
   case skip=>exact ⟨keep a hy _,by rw[←Act.put_comm a v undef h2];exact h⟩
   case defer d=>
    refine ⟨keep _ (keepD d) _,?_⟩;rw[←Act.put_comm _ v undef h2,←Act.put_defers];exact h
   case enter f args=>
    refine ⟨h.1,CallsIn.mono h.2 fun e w'' he=>?_⟩;cases e with
    | returned u=>exact ⟨keep a hy u,by rw[←Act.put_comm a v u h2];exact he⟩
    | panicked c=>exact XP.put hoff he
    | outgrown=>exact he
   case row row args=>exact ⟨h.1,RowsIn.mono h.2 fun u w'' he=>⟨keep a hy u,by rw[←Act.put_comm a v u h2];exact he⟩⟩
   case round l f tmps assign body=>
    refine ⟨h.1,RoundIn.mono h.2 fun e w'' he=>?_⟩;cases e with
    | returned u=>exact ⟨keep a hy u,by rw[←Act.put_comm a v u h2];exact he⟩
    | panicked c=>exact XP.put hoff he
    | outgrown=>exact he
  | halt x w'=>
   cases x <;> simp only[Oper.uponIn]at h⊢
   case panic u=>exact XP.put hoff h
 ·rename_i hw
  simp only[hw]at h;exact ⟨fun _ _=>trivial,keep a hy _,by rw[←Act.put_comm a v undef h2];exact h.2⟩
variable {R:Act→World→Prop}
variable {r:Option Nat}{Q:Exit→Act→World→Prop}{w0:World}{M0:Nat→Prop}{ds:List Deferred}{a:Act}{w:World}{l l':List Value}{bs bs' bs0:List Item}{fs fs0:List (World→Prop)}
 {d:Option Nat} {op:Op} {ty:TypeId} {pos:String} {af:Array Edge} {rest:List Oper} {v v' G:Value} {j g:Nat} {pol:Bool} {cs:List Bool} {n:Nat} {listed:Array Bool}
def XP.offB (x:XP)(ops:Array Oper):Bool:=ops.toList.all fun o=>x.keep.all fun p=>match o.dst with | some n=>!Nat.beq n p.1 | none=>true
theorem XP.offB_spec {x:XP}{ops:Array Oper}(h:x.offB ops=true){i:Nat}{o:Oper}(hi:ops[i]? = some o):x.off o:=by
 intro p hp e;have h1:=List.all_eq_true.1 (List.all_eq_true.1 h o (by rw[←Array.getElem?_toList]at hi;exact List.mem_of_getElem? hi)) p hp;rw[e]at h1;simp at h1
variable {ord:List (Nat × Bool)}{i:Nat}
theorem XP.of {ch:List PanicEntry}{K:Prop}(S:St w0 M0 ds a w l bs fs)(hk:∀ p∈X.keep,l[p.1]? = some p.2)(hd:ds=X.dss)(h:X.XW ch w):K∨X.at (.panic ch) a w:=
 .inr ⟨fun p hp=>by rw[S.slots];simpa using hk p hp,by rw[S.defers,hd],h⟩
theorem wnx_round {i:Nat}{K:Act→World→Prop}(hQ:∀ ch a w,X.at (.panic ch) a w→Q (.panic ch) a w)(hd:∀ (i:Nat) o,ops[i]? = some o→isDefer o.op=false)(h:WNX P ops X i K a w):wpOpIn (FW r) 0 P ops Q i K a w:=by
 unfold WNX wpOpIn at *;cases ho:ops[i]? with
 | none=>simp only[ho]at h⊢;exact h
 | some o=>
  simp only[ho]at h⊢;split
  ·rename_i hw
   rw[if_pos hw]at h;refine ⟨fun _ _=>trivial,?_⟩;have h:=h.2;rw[show (FW none).round=none from rfl]at h;rw[show (FW r).round=r from rfl,semAt_any (hd i o ho)]
   generalize (o.semAt none a.eval).run P w=q at *
   cases q with
   | ok x w'=>
    cases x <;> simp only[Oper.uponIn]at h⊢<;> first | exact h | skip
    case enter f args=>
     refine ⟨fun h=>(by cases h),trivial,fun cs _=>?_⟩;obtain ⟨e,w',fr,hR,hcm,h1,h2⟩:=h.2.2 cs (room_wide _);refine ⟨e,w',fr,?_,hcm,h1,h2⟩;cases e with
     | returned v=>exact hR
     | panicked c=>exact hQ _ _ _ hR
     | outgrown=>obtain ⟨_,_,hR⟩:=hR;exact hR.elim
    case round l f tmps assign body=>
     refine ⟨fun h=>(by cases h),trivial,fun c cs _=>?_⟩;obtain ⟨e,w',hR,hcm⟩:=h.2.2 c cs (room_wide _);refine ⟨e,w',?_,hcm⟩;cases e with
     | returned v=>exact hR
     | panicked c=>exact hQ _ _ _ hR
     | outgrown=>obtain ⟨_,_,hR⟩:=hR;exact hR.elim
   | halt x w'=>
    cases x <;> simp only[Oper.uponIn]at h⊢
    case panic u=>exact hQ _ _ _ h
  ·rename_i hw
   rw[if_neg hw]at h;exact ⟨fun _ _=>trivial,h.2⟩
end
def sti (r:Nat)(s:List UInt8)(i:Nat):Item where
 foot:=fun k=>k=r
 holds:=fun w=>w.heap[r]? = some (.stringIter ⟨s.toArray⟩ i)
class HasSti (bs:List Item)(r:Nat)(s:outParam (List UInt8))(i:outParam Nat):Prop where mem:sti r s i∈bs
section
variable {P:Program}{r0:Option Nat}{ops:Array Oper}{Q:Exit→Act→World→Prop}{w0:World}{M0:Nat→Prop}{ds:List Deferred}{a:Act}{w:World}{l:List Value}{bs:List Item}{fs:List (World→Prop)}
 {d:Option Nat} {op:Op} {ty:TypeId} {pos:String} {af:Array Edge} {rest:List Oper} {t kt et:TypeId} {x:Operand} {b r i:Nat} {s:List UInt8}
end
instance opErrN {P:Program}{l:Cx}{bs:List Item}{fs:List (World→Prop)}{x:Operand}{t t' ty:TypeId}{b:Bool}{te:TypeId}{pe:Value}[Ev l x (errV b te pe)][hi:IfT P t]:OpQ P (.binOp .neq t x (.const .nilIface) t') ty l bs fs (.bool (!b)):=⟨fun ρ w h _=>by
 have e2:ρ (.const .nilIface)=.nilIface:=h.ev (x:=.const .nilIface) (v:=.nilIface);cases b <;> simp[xop,execOp,h.ev (x:=x) (v:=errV _ te pe),e2,errV,eqGuard,binOp,Sem.run_bind,run_equal_held_nil w t te pe hi.eq,run_equal_nil_nil w t hi.eq]⟩
instance opNilN {P:Program}{l:Cx}{bs:List Item}{fs:List (World→Prop)}{x:Operand}{t t' ty:TypeId}[Ev l x .nilIface][hi:IfT P t]:OpQ P (.binOp .neq t x (.const .nilIface) t') ty l bs fs (.bool false):=⟨fun ρ w h _=>by
 have e2:ρ (.const .nilIface)=.nilIface:=h.ev (x:=.const .nilIface) (v:=.nilIface);simp[xop,execOp,h.ev (x:=x) (v:=.nilIface),e2,eqGuard,binOp,run_equal_nil_nil w t hi.eq]⟩
instance opIfN {P:Program}{l:Cx}{bs:List Item}{fs:List (World→Prop)}{x:Operand}{t t' ty:TypeId}{te:TypeId}{pe:Value}[Ev l x (.iface te pe)][hi:IfT P t]:OpQ P (.binOp .neq t x (.const .nilIface) t') ty l bs fs (.bool true):=⟨fun ρ w h _=>by
 have e2:ρ (.const .nilIface)=.nilIface:=h.ev (x:=.const .nilIface) (v:=.nilIface);simp[xop,execOp,h.ev (x:=x) (v:=.iface te pe),e2,eqGuard,binOp,run_equal_held_nil w t te pe hi.eq]⟩
class StT (P:Program)(t:TypeId):Prop where ex:∃ fs,P.underlying t=some (.struct fs)
instance opAssert {P:Program}{l:Cx}{bs:List Item}{fs:List (World→Prop)}{x:Operand}{tx t ty:TypeId}{pe:Value}[Ev l x (.iface t pe)][hs:StT P t]:OpQ P (.typeAssert x tx t true) ty l bs fs (.tuple ⟨[pe,.bool true]⟩):=⟨fun ρ w h _=>by
 obtain ⟨fs,hf⟩:=hs.ex;simp[xop,execOp,h.ev (x:=x) (v:=.iface t pe),Instr.typeAssert,Sem.run_bind,run_underlying hf w]⟩
instance opMkIf {P:Program}{l:Cx}{bs:List Item}{fs:List (World→Prop)}{x:Operand}{t ty:TypeId}{v:Value}[Ev l x v][hs:StT P t]:OpQ P (.makeInterface t x) ty l bs fs (.iface t v):=⟨fun ρ w h _=>by
 obtain ⟨fs,hf⟩:=hs.ex;simp[xop,execOp,h.ev (x:=x) (v:=v),Instr.makeInterface,Sem.run_bind,run_underlying hf w]⟩
section
variable {P:Program}{ls:Cx}{bs:List Item}{fs:List (World→Prop)}{x y:Operand}{b off k n sz o o':Nat}{kk:IntKind}{m:Int}{t ty e:TypeId}{z:Value}{by_:Nat}
end
open Go Go.Deep Go.ChangeShapes Go.WideShapes Go.ChangeAt Go.RowKit
structure A3 (α:Type) where
 a:α
 b:α
 c:α
def A3.l {α:Type}(x:A3 α):List α:=[x.a,x.b,x.c]
instance encA3 {α:Type}[i:Lay α]:Enc (A3 α):=⟨3*Enc.sz α,fun x=>Enc.cells x.a++(Enc.cells x.b++Enc.cells x.c),fun x=>by simp[Enc.len];omega,fun x u hu=>by
 simp only[List.mem_append]at hu;rcases hu with h | h | h <;> exact Enc.one _ _ h⟩
instance layA3 {α:Type}[i:Lay α]:Lay (A3 α):={ encA3 with
 dflt:=⟨Lay.dflt,Lay.dflt,Lay.dflt⟩
 inn:=fun w x=>Lay.inn w x.a∧Lay.inn w x.b∧Lay.inn w x.c
 mono:=fun w w' _x h hx=>⟨Lay.mono w w' _ h hx.1,Lay.mono w w' _ h hx.2.1,Lay.mono w w' _ h hx.2.2⟩ }
section
variable {P:Program}{r:Option Nat}{ops:Array Oper}{Q:Exit→Act→World→Prop}{w0:World}{M0:Nat→Prop}{ds:List Deferred}{a:Act}{w:World}{l:List Value}{bs bs':List Item}{fs:List (World→Prop)}
 {d:Option Nat} {op:Op} {ty:TypeId} {pos:String} {af:Array Edge} {rest:List Oper} {v:Value} {t e:TypeId} {sz by_ c:Nat} {z:Value} {xs:List Value} {x y:Operand}
theorem sext {f:FuncId}{ys:List Operand}{vs:List Value}{ts:Array TypeId}{l':List Value}(S:St w0 M0 ds a w l bs fs)[EvL ⟨[],l⟩ ys vs][hp:PutO l d v l'](hrun:(callFunc f vs.toArray).run P w=.ok (.value v) w)
  (K:∀ a,St w0 M0 ds a w l' bs fs→WL P r ops Q rest a w) :
  WL P r ops Q (⟨d,.call { callee:=.value (.func f),args:=ys.toArray,argTypes:=ts },ty,pos,af,none⟩::rest) a w:=by
 refine wl_plain rfl ?_;rw[semAt_nd rfl];have S':=S.put (d:=d) (v:=v) (l':=l');have hev:ys.map a.eval=vs:=S.fr.evl;have e1:(xop a.eval (.call { callee:=.value (.func f),args:=ys.toArray,argTypes:=ts }) ty).run P w=.ok (.value v) w:=by
  simp[xop,execOp,resolve,invoke,Deferred.ofValue,hev,Sem.run_bind,S.fr.ev (x:=.func f) (v:=.func (.func f) #[] #[]),hrun]
 simp only[e1,Oper.uponIn];exact K _ S'
end
def mpn (b:Nat)(kv:List (Int × Value)):Item where
 foot:=fun k=>k=b
 holds:=fun w=>∃ es clock,w.heap[b]? = some (.map es clock)∧ents es=(kv.map fun x=>((.int .i64 x.1),x.2))∧(∀ e∈es.toList,e.born < clock)∧(es.toList.map (·.born)).Nodup
class HasMpn (bs:List Item)(b:Nat)(kv:outParam (List (Int × Value))):Prop where mem:mpn b kv∈bs
def MpnF (b:Nat)(kv:List (Int × Value)):World→Prop:=(mpn b kv).holds
class HasMpnF (fs:List (World→Prop))(b:Nat)(kv:outParam (List (Int × Value))):Prop where mem:MpnF b kv∈fs
class KiOf (bs:List Item)(fs:List (World→Prop))(b:Nat)(kv:outParam (List (Int × Value))):Prop where of:∀ w,Mem w bs fs→(mpn b kv).holds w
section
variable {P:Program}{r:Option Nat}{ops:Array Oper}{Q:Exit→Act→World→Prop}{w0:World}{M0:Nat→Prop}{ds:List Deferred}{a:Act}{w:World}{l l':List Value}{bs bs':List Item}{fs:List (World→Prop)}
 {d:Option Nat} {op:Op} {t ty:TypeId} {pos:String} {af:Array Edge} {rest:List Oper} {v z:Value} {e kt et:TypeId} {sz by_ b:Nat} {x y u:Operand} {lc:Cx} {k:Int} {kv:List (Int × Value)}
end
section
variable {P:Program}{ty t t':TypeId}{l:Cx}{bs:List Item}{fs:List (World→Prop)}{x y:Operand}{e:TypeId}
instance opPnE [Ev l x (.pointer none)][Ev l y (.pointer none)][Und P t (.pointer e)]:OpQ P (.binOp .eql t x y t') ty l bs fs (.bool true):=⟨fun ρ w h _=>by
 simp[xop,execOp,h.ev (x:=x) (v:=.pointer none),h.ev (x:=y) (v:=.pointer none),eqGuard,binOp,run_equal (P:=P) (t:=t) (u:=.pointer none) (v:=.pointer none) (d:=.pointer e) (b:=true) w rfl]⟩
instance opPsE {a:Addr}[Ev l x (.pointer (some a))][Ev l y (.pointer none)][Und P t (.pointer e)]:OpQ P (.binOp .eql t x y t') ty l bs fs (.bool false):=⟨fun ρ w h _=>by
 simp[xop,execOp,h.ev (x:=x) (v:=.pointer (some a)),h.ev (x:=y) (v:=.pointer none),eqGuard,binOp,run_equal (P:=P) (t:=t) (u:=.pointer (some a)) (v:=.pointer none) (d:=.pointer e) (b:=false) w rfl]⟩
instance opPsN {a:Addr}[Ev l x (.pointer (some a))][Ev l y (.pointer none)][Und P t (.pointer e)]:OpQ P (.binOp .neq t x y t') ty l bs fs (.bool true):=⟨fun ρ w h _=>by
 simp[xop,execOp,h.ev (x:=x) (v:=.pointer (some a)),h.ev (x:=y) (v:=.pointer none),eqGuard,binOp,run_equal (P:=P) (t:=t) (u:=.pointer (some a)) (v:=.pointer none) (d:=.pointer e) (b:=false) w rfl]⟩
end
structure Blk where
 l:List UInt8
 h:l.length=64
deriving DecidableEq
abbrev Blk.cells (b:Blk):List Value:=encL b.l
theorem Blk.len (b:Blk):(encL b.l).length=64:=by rw[encL_len,b.h];rfl
instance encBlk:Enc Blk:=⟨64,fun b=>encL b.l,Blk.len,fun b u hu=>encL_one b.l u hu⟩
def u32s (l:List Int):List Value:=l.map (Value.int .u32)
instance (priority:=1100) addnZ {b:Nat} : AddN 0 b b:=⟨Nat.zero_add b⟩
section
variable {P:Program}{ty t t':TypeId}{l:Cx}{bs:List Item}{fs:List (World→Prop)}{x y:Operand}{e n k j:Nat}{kk kl:IntKind}{m i:Int}{xs:List Int}{z:Value}{by_:Nat}
instance opShl [Ev l x (.int kk m)][Ev l y (.int kl i)][hj:IsNat i j]:OpQ P (.binOp .shl t x y t') ty l bs fs (.int kk (kk.wrap (m*2 ^ (min j kk.bits)))):=⟨fun ρ w h _=>by
 have h2:=hj.eq;subst h2;have h3:¬((j:Int) < 0):=by omega
 simp[xop,execOp,h.ev (x:=x) (v:=.int kk m),h.ev (x:=y) (v:=.int kl (j:Int)),eqGuard,binOp,Op.shift,h3]⟩
end
def bxk (b:Nat)(T:TypeId)(l:List Int)(k:Nat):Item where
 foot:=fun i=>i=b
 holds:=fun w=>∃ v,w.heap[b]? = some (.cells (u32s (l.set k v)).toArray T (0,0))
class HasBxk (bs:List Item)(b:Nat)(T:outParam TypeId)(l:outParam (List Int))(k:outParam Nat):Prop where mem:bxk b T l k∈bs
class NeK (j k:Nat):Prop where ne:j≠k
section
variable {P:Program}{r:Option Nat}{ops:Array Oper}{Q:Exit→Act→World→Prop}{w0:World}{M0:Nat→Prop}{ds:List Deferred}{a:Act}{w:World}{l l':List Value}{bs bs':List Item}{fs:List (World→Prop)}
 {d:Option Nat} {ty t:TypeId} {pos:String} {af:Array Edge} {rest:List Oper} {x y:Operand} {z:Value} {by_ b k j:Nat} {T:TypeId} {xs:List Int}
end
section
variable {P:Program}{r:Option Nat}{Q:Exit→Act→World→Prop}{w0:World}{M0:Nat→Prop}{ds:List Deferred}{a:Act}{w:World}{l:List Value}{bs:List Item}{fs:List (World→Prop)}
end
section
variable {P:Program}{r:Option Nat}{ops:Array Oper}{Q:Exit→Act→World→Prop}{w0:World}{M0:Nat→Prop}{ds:List Deferred}{a:Act}{w:World}{l:List Value}{bs:List Item}{fs:List (World→Prop)}
 {d:Option Nat} {ty t e:TypeId} {pos:String} {af:Array Edge} {rest:List Oper} {x y:Operand} {by_ c:Nat} {xs:List Value}
end
def BlkF (ad:Addr)(b:Blk):World→Prop:=fun w=>∀ j v,(encL b.l)[j]? = some v→w.cell? (ad.add j)=some v
class HasBlkF (fs:List (World→Prop))(ad:Addr)(b:outParam Blk):Prop where mem:BlkF ad b∈fs
section
variable {P:Program}{ty t:TypeId}{lc:Cx}{bs:List Item}{fs:List (World→Prop)}{x:Operand}{ad:Addr}{z:Value}{by_:Nat}{b:Blk}
end
instance (priority:=1100) repl1 {zs:List Value} : RepL 1 zs zs:=⟨by simp⟩
end Go.Wk
namespace Go.Proofs.YtlgnhhebeandkaaGreatDoor
open Go Go.Wk
set_option synthInstance.maxSize 100000
set_option synthInstance.maxHeartbeats 400000
set_option maxRecDepth 100000
def numB (bs:List UInt8)(x:Int):Int:=bs.foldl (fun x c=>IntKind.u64.wrap (IntKind.u64.wrap (256*x)+(c.toNat:Int))) x
theorem numB_snoc (bs:List UInt8)(c:UInt8)(x:Int):numB (bs++[c]) x=IntKind.u64.wrap (IntKind.u64.wrap (256*numB bs x)+(c.toNat:Int)):=by simp[numB]
theorem take_snocG {α:Type}[Lay α]{xs:List α}{k:Nat}(h:k < xs.length):xs.take (k+1)=xs.take k++[nthG xs k]:=by
 rw[List.take_add_one,nthG_get h];rfl
theorem u8_u64 (c:UInt8):IntKind.u64.wrap (c.toNat:Int)=(c.toNat:Int):=wu64 _ (by omega) (by have:=c.toNat_lt;omega)
theorem weigh1_c (b:Nat)(bs:List UInt8)(p:Option Addr)(n c:Nat)(x0:Int)(w0:World)(hn:bs.length=n)(hl:n≤10000000)(hb:(Wk.box b 133 [.int .u64 x0]).holds w0)(hx:Stable (fun k=>k=b) w0 (GlF p bs)) :
  Ret Tryz.prog 161 [.slice p n c,.pointer (some ⟨b,0,none⟩)] w0 (fun k=>k=b) fun _ w'=>(Wk.box b 133 [.int .u64 (numB bs x0)]).holds w':=by
 subst hn;refine E1 Tryz.func161 rfl Tryz.ntmps161 (Wd.itLent (x:=Wk.box b 133 [.int .u64 x0]) (fs:=[GlF p bs]) hb (by intro Φ hΦ;obtain rfl:=List.mem_singleton.1 hΦ;exact hx)) ?_;intro a S;refine J8 ?_;intro a S;refine c_fore1 S (fun(k:Nat) uu=>[(4,uu 4),(2,.int .i64 (k:Nat)),(0,uu 8),(0,uu 9),(0,uu 10),(0,uu 11),(0,uu 12),(0,uu 13),(0,uu 14),(0,uu 15),(0,uu 16)]) (fun(k:Nat)=>[Wk.box b 133 [.int .u64 (numB (bs.take k) x0)]]) (fun(k:Nat)=>[GlF p bs]) (fun(k:Nat)=>k≤bs.length) (fun(k:Nat)=>bs.length - k) (0) ?_ S.uu ?_ ?_;exact Nat.zero_le _
 first | exact S | exact S.sub _ _
 clear S;rintro k uu a w hk S;refine J6 ?_;intro a S;refine kC S (fun h1=>?_) (fun h1=>?_);refine kK (xtn (kS (kB (kS ?_))));have hkl:k < bs.length:=by simp at h1;omega
 have hK:KLt k bs.length:=⟨hkl⟩;refine J11 ?_;intro a S;rw[u8_u64]at S;refine Y10 ?_;intro a w S;rw[w6 ((k:Int)+1)]at S;rw[←numB_snoc,←take_snocG hkl]at S;exact ⟨k+1,S.uu,hkl,S.sub _ _,by omega⟩;refine kE (xte (xte (xbe ?_)));have hk2:k=bs.length:=by simp at h1;omega
 subst hk2;rw[List.take_length]at S;have hh:=S.box b;refine end0 S (fun _=>hh)
structure RS where
 p:Option Addr
 c:Nat
 bs:List UInt8
 why:Int
abbrev cRS (r:RS):List Value:=[.slice r.p r.bs.length r.c,.int .i64 r.why]
def okR (r:RS)(k:Nat):Prop:=r.why=0∧k≤r.bs.length
instance (r:RS)(k:Nat):Decidable (okR r k):=by unfold okR;exact inferInstance
def takeR (r:RS)(k:Nat):RS:=if okR r k then ⟨if r.c=k then r.p else r.p.map (·.add (k*1)),r.c - k,r.bs.drop k,0⟩ else ⟨r.p,r.c,r.bs,if r.why=0 then 7 else r.why⟩
def tookR (r:RS)(k:Nat):List UInt8:=if okR r k then r.bs.take k else []
theorem takeR_yes {r:RS}{k:Nat}(h:okR r k):takeR r k=⟨if r.c=k then r.p else r.p.map (·.add (k*1)),r.c - k,r.bs.drop k,0⟩:=if_pos h
theorem takeR_no {r:RS}{k:Nat}(h:¬okR r k):takeR r k=⟨r.p,r.c,r.bs,if r.why=0 then 7 else r.why⟩:=if_neg h
theorem tookR_yes {r:RS}{k:Nat}(h:okR r k):tookR r k=r.bs.take k:=if_pos h
theorem tookR_no {r:RS}{k:Nat}(h:¬okR r k):tookR r k=[]:=if_neg h
theorem tookR_len (r:RS)(k:Nat):(tookR r k).length≤k∧(tookR r k).length≤r.bs.length:=by
 unfold tookR;split;rw[List.length_take];omega;simp
theorem takeR_len (r:RS)(k:Nat):(takeR r k).bs.length≤r.bs.length:=by
 unfold takeR;split;simp;simp
theorem takeR_cap {r:RS}{k:Nat}(h:r.bs.length≤r.c):(takeR r k).bs.length≤(takeR r k).c:=by
 unfold takeR;split;simp;omega;exact h
theorem takeR_gl {r:RS}{k:Nat}{M:Nat→Prop}{w:World}(hc:r.bs.length≤r.c)(h:Stable M w (GlF r.p r.bs)):Stable M w (GlF (takeR r k).p (takeR r k).bs):=by
 unfold takeR;split;exact h.imp fun _ h=>h.drop (sz:=1) k hc
 exact h
abbrev rdI (b:Nat)(r:RS):Wk.Item:=Wk.box b 193 [.slice r.p r.bs.length r.c,.int .i64 r.why]
theorem offW_c (b bx:Nat)(r:RS)(k:Nat)(x0:Int)(w0:World)(hk:k≤1000000000)(hc:r.bs.length≤r.c)(hl:r.bs.length≤10000000)(hb:(both (Wk.box bx 133 [.int .u64 x0]) (rdI b r)).holds w0)(hx:Stable (both (Wk.box bx 133 [.int .u64 x0]) (rdI b r)).foot w0 (GlF r.p r.bs)) :
  Ret Tryz.prog 160 [.pointer (some ⟨b,0,none⟩),.int .i64 (k:Int),.func (.func 161) #[] ⟨[.pointer (some ⟨bx,0,none⟩)]⟩] w0 (both (Wk.box bx 133 [.int .u64 x0]) (rdI b r)).foot fun _ w'=>
   (both (Wk.box bx 133 [.int .u64 (numB (tookR r k) x0)]) (rdI b (takeR r k))).holds w':=by
 refine E1 Tryz.func160 rfl Tryz.ntmps160 (Wd.it2Lent (x:=Wk.box bx 133 [.int .u64 x0]) (y:=rdI b r) (fs:=[GlF r.p r.bs]) hb rfl rfl (by simpa using hx)) ?_;intro a S;refine J11 ?_;intro a S;refine kC S (fun h3=>?_) (fun h3=>?_);refine kK (xbn ?_);have hw:¬r.why=0:=by simpa using h3
 have hno:¬okR r k:=fun h=>hw h.1
 have e1:takeR r k=r:=by rw[takeR_no hno,if_neg hw]
 have e2:numB (tookR r k) x0=x0:=by rw[tookR_no hno];rfl
 replace S:=S.toBoth;have hh:=S.it (both (Wk.box bx 133 [.int .u64 x0]) (rdI b r));refine end0 S (fun _=>by rw[e1,e2];exact hh);refine J4 ?_;intro a S;rw[show decide ((k:Int) < 0)=false from decide_eq_false (by omega)]at S;refine J16 ?_;intro a S;refine kC S (fun h6=>?_) (fun h6=>?_);refine Y7 ?_;intro a w S;have hw:r.why=0:=by simpa using h3
 have hno:¬okR r k:=fun h=>by have:=of_decide_eq_true h6;have:=h.2;omega
 have e1:takeR r k=⟨r.p,r.c,r.bs,7⟩:=by rw[takeR_no hno,if_pos hw]
 have e2:numB (tookR r k) x0=x0:=by rw[tookR_no hno];rfl
 replace S:=S.toBoth;have hh:=S.it (both (Wk.box bx 133 [.int .u64 x0]) (rdI b ⟨r.p,r.c,r.bs,7⟩));refine end0 S (fun _=>by rw[e1,e2];exact hh);refine kS ?_;have hL1:LeC k r.bs.length:=⟨by simp at h6;omega⟩;have hL2:LeC r.bs.length r.c:=⟨hc⟩;have hL3:LeC k r.c:=⟨by have:=hL1.le;omega⟩;refine J20 ?_;intro a S;refine Y7 ?_;intro a w S;have hok:okR r k:=⟨by simpa using h3,hL1.le⟩;refine sit (Wk.box bx 133 [.int .u64 x0]) S (weigh1_c bx (r.bs.take k) r.p k r.c x0 w (by rw[List.length_take];have:=hL1.le;omega) (by have:=hL1.le;omega) (S.box bx) (S.lend (Wk.box bx 133 [.int .u64 x0]) ((S.mem.fact (GlF r.p r.bs)).imp fun _ h=>h.take k))) rfl ?_;rintro _ a w hbx hS;have S:=hS (Wk.box bx 133 [.int .u64 (numB (r.bs.take k) x0)]) hbx (fun k h=>.inl h);clear hS;refine kN (xbn ?_);rw[←tookR_yes hok,show r.bs.length - k=(r.bs.drop k).length from (List.length_drop ..).symm,show r.why=0 from hok.1]at S;replace S:=S.toBoth;have hh:=S.it (both (Wk.box bx 133 [.int .u64 (numB (tookR r k) x0)]) (rdI b ⟨if r.c=k then r.p else r.p.map (·.add (k*1)),r.c - k,r.bs.drop k,0⟩));refine end0 S (fun _=>by rw[takeR_yes hok];exact hh)
theorem weighR_c (b:Nat)(r:RS)(k:Nat)(w0:World)(hk:k≤1000000000)(hc:r.bs.length≤r.c)(hl:r.bs.length≤10000000)(hb:(rdI b r).holds w0)(hx:Stable (fun k=>k=b) w0 (GlF r.p r.bs)) :
  Ret Tryz.prog 119 [.pointer (some ⟨b,0,none⟩),.int .i64 (k:Int)] w0 (fun k=>k=b) fun v w'=>v=.int .u64 (numB (tookR r k) 0)∧(rdI b (takeR r k)).holds w':=by
 refine E1 Tryz.func119 rfl Tryz.ntmps119 (Wd.itLent (x:=rdI b r) (fs:=[GlF r.p r.bs]) hb (by intro Φ hΦ;obtain rfl:=List.mem_singleton.1 hΦ;exact hx)) ?_;intro a S;refine kS (kR ?_);refine sa S ?_;intro b4 a w S;refine J19 ?_;intro a S;replace S:=S.toBoth;refine sit (both (Wk.box b4 133 [.int .u64 0]) (rdI b r)) S (offW_c b b4 r k 0 w hk hc hl (S.it (both (Wk.box b4 133 [.int .u64 0]) (rdI b r))) (S.lend (both (Wk.box b4 133 [.int .u64 0]) (rdI b r)) (S.mem.fact (GlF r.p r.bs)))) rfl ?_;rintro _ a w hbx hS;have S:=hS (both (Wk.box b4 133 [.int .u64 (numB (tookR r k) 0)]) (rdI b (takeR r k))) hbx (fun k h=>.inl h);clear hS;replace S:=S.ofBoth;refine Y9 ?_;intro a w S;have hh:=S.it (rdI b (takeR r k));refine end1 S (fun _=>?_);exact ⟨rfl,hh⟩
theorem raw1_c (bo:Nat)(bs:List UInt8)(p:Option Addr)(n c:Nat)(w0:World)(hn:bs.length=n)(hl:n≤10000000)(hb:(Wk.box bo 61 [.slice none 0 0]).holds w0)(hx:Stable (fun k=>k=bo) w0 (GlF p bs)) :
  Ret Tryz.prog 248 [.slice p n c,.pointer (some ⟨bo,0,none⟩)] w0 (fun k=>k=bo) fun _ w'=>∃ p' c',(both (Wk.box bo 61 [.slice p' n c']) (Wk.row 5 1 p' n c' (encL bs))).holds w'∧∀ k,(both (Wk.box bo 61 [.slice p' n c']) (Wk.row 5 1 p' n c' (encL bs))).foot k→k=bo∨w0.heap.size≤k:=by
 have hN:LenN bs n:=⟨hn⟩;refine E1 Tryz.func248 rfl Tryz.ntmps248 (Wd.itLent (x:=Wk.box bo 61 [.slice none 0 0]) (fs:=[GlF p bs]) hb (by intro Φ hΦ;obtain rfl:=List.mem_singleton.1 hΦ;exact hx)) ?_;intro a S;refine J3 ?_;intro a S;replace S:=S.addNil 5 1;refine sap S (by simp[maxLen];omega) (by omega) ?_;rintro p2 c2 a w - S;rw[qqF,Nat.zero_add]at S;refine Y2 ?_;intro a w S;replace S:=((S.front (Wk.row 5 1 p2 n c2 (encL bs))).front (Wk.box bo 61 [.slice p2 n c2])).toBoth;have h1:=S.it (both (Wk.box bo 61 [.slice p2 n c2]) (Wk.row 5 1 p2 n c2 (encL bs)));have h2:=S.itNew (both (Wk.box bo 61 [.slice p2 n c2]) (Wk.row 5 1 p2 n c2 (encL bs))) rfl;exact end0 S (fun _=>⟨p2,c2,h1,h2⟩)
abbrev outI (bo:Nat)(p:Option Addr)(c:Nat)(bs:List UInt8):Wk.Item:=both (Wk.box bo 61 [.slice p bs.length c]) (Wk.row 5 1 p bs.length c (encL bs))
theorem offR_c (b bo:Nat)(r:RS)(k:Nat)(w0:World)(hk:k≤10000000000)(hc:r.bs.length≤r.c)(hl:r.bs.length≤10000000)(hb:(both (Wk.box bo 61 [.slice none 0 0]) (rdI b r)).holds w0)(hx:Stable (both (Wk.box bo 61 [.slice none 0 0]) (rdI b r)).foot w0 (GlF r.p r.bs)) :
  Ret Tryz.prog 160 [.pointer (some ⟨b,0,none⟩),.int .i64 (k:Int),.func (.func 248) #[] ⟨[.pointer (some ⟨bo,0,none⟩)]⟩] w0 (both (Wk.box bo 61 [.slice none 0 0]) (rdI b r)).foot fun _ w'=>
   ∃ p' c',(both (outI bo p' c' (tookR r k)) (rdI b (takeR r k))).holds w'∧∀ j,(both (outI bo p' c' (tookR r k)) (rdI b (takeR r k))).foot j→(both (Wk.box bo 61 [.slice none 0 0]) (rdI b r)).foot j∨w0.heap.size≤j:=by
 refine E1 Tryz.func160 rfl Tryz.ntmps160 (Wd.it2Lent (x:=Wk.box bo 61 [.slice none 0 0]) (y:=rdI b r) (fs:=[GlF r.p r.bs]) hb rfl rfl (by simpa using hx)) ?_;intro a S;refine J11 ?_;intro a S;refine kC S (fun h3=>?_) (fun h3=>?_);refine kK (xbn ?_);have hw:¬r.why=0:=by simpa using h3
 have hno:¬okR r k:=fun h=>hw h.1
 have e1:takeR r k=r:=by rw[takeR_no hno,if_neg hw]
 have e2:tookR r k=[]:=tookR_no hno;replace S:=S.addNil 5 1;replace S:=(((S.front (rdI b r)).front (Wk.row 5 1 none 0 0 [])).front (Wk.box bo 61 [.slice none 0 0])).toBoth.toBoth;have h1:=S.it (both (both (Wk.box bo 61 [.slice none 0 0]) (Wk.row 5 1 none 0 0 [])) (rdI b r));have h2:=S.itNew (both (both (Wk.box bo 61 [.slice none 0 0]) (Wk.row 5 1 none 0 0 [])) (rdI b r)) rfl;refine end0 S (fun _=>?_);rw[e1,e2];exact ⟨none,0,h1,h2⟩;refine J4 ?_;intro a S;rw[show decide ((k:Int) < 0)=false from decide_eq_false (by omega)]at S;refine J16 ?_;intro a S;refine kC S (fun h6=>?_) (fun h6=>?_);refine Y7 ?_;intro a w S;have hw:r.why=0:=by simpa using h3
 have hno:¬okR r k:=fun h=>by have:=of_decide_eq_true h6;have:=h.2;omega
 have e1:takeR r k=⟨r.p,r.c,r.bs,7⟩:=by rw[takeR_no hno,if_pos hw]
 have e2:tookR r k=[]:=tookR_no hno;replace S:=S.addNil 5 1;rw[show Wk.box b 193 [.slice r.p r.bs.length r.c,.int .i64 7]=rdI b ⟨r.p,r.c,r.bs,7⟩ from rfl]at S;replace S:=(((S.front (rdI b ⟨r.p,r.c,r.bs,7⟩)).front (Wk.row 5 1 none 0 0 [])).front (Wk.box bo 61 [.slice none 0 0])).toBoth.toBoth;have h1:=S.it (both (both (Wk.box bo 61 [.slice none 0 0]) (Wk.row 5 1 none 0 0 [])) (rdI b ⟨r.p,r.c,r.bs,7⟩));have h2:=S.itNew (both (both (Wk.box bo 61 [.slice none 0 0]) (Wk.row 5 1 none 0 0 [])) (rdI b ⟨r.p,r.c,r.bs,7⟩)) rfl;refine end0 S (fun _=>?_);rw[e1,e2];exact ⟨none,0,h1,h2⟩;refine kS ?_;have hL1:LeC k r.bs.length:=⟨by simp at h6;omega⟩;have hL2:LeC r.bs.length r.c:=⟨hc⟩;have hL3:LeC k r.c:=⟨by have:=hL1.le;omega⟩;refine J20 ?_;intro a S;refine Y7 ?_;intro a w S;have hok:okR r k:=⟨by simpa using h3,hL1.le⟩;have hkl:(r.bs.take k).length=k:=by rw[List.length_take];have:=hL1.le;omega
 refine sit (Wk.box bo 61 [.slice none 0 0]) S (raw1_c bo (r.bs.take k) r.p k r.c w hkl (by have:=hL1.le;omega) (S.box bo) (S.lend (Wk.box bo 61 [.slice none 0 0]) ((S.mem.fact (GlF r.p r.bs)).imp fun _ h=>h.take k))) rfl ?_;rintro _ a w ⟨p2,c2,hbx,hf2⟩ hS;have S:=hS (both (Wk.box bo 61 [.slice p2 k c2]) (Wk.row 5 1 p2 k c2 (encL (r.bs.take k)))) hbx hf2;clear hS;refine kN (xbn ?_);have e1:tookR r k=r.bs.take k:=tookR_yes hok;rw[show r.bs.length - k=(r.bs.drop k).length from (List.length_drop ..).symm,show r.why=0 from hok.1]at S;rw[show Wk.box b 193 [.slice (if r.c=k then r.p else r.p.map (·.add (k*1))) (r.bs.drop k).length (r.c - k),.int .i64 0]=rdI b (takeR r k) from by rw[takeR_yes hok]]at S;replace S:=((S.front (rdI b (takeR r k))).front (both (Wk.box bo 61 [.slice p2 k c2]) (Wk.row 5 1 p2 k c2 (encL (r.bs.take k))))).toBoth;have h1:=S.it (both (both (Wk.box bo 61 [.slice p2 k c2]) (Wk.row 5 1 p2 k c2 (encL (r.bs.take k)))) (rdI b (takeR r k)));have h2:=S.itNew (both (both (Wk.box bo 61 [.slice p2 k c2]) (Wk.row 5 1 p2 k c2 (encL (r.bs.take k)))) (rdI b (takeR r k))) rfl;have e3:outI bo p2 c2 (tookR r k)=both (Wk.box bo 61 [.slice p2 k c2]) (Wk.row 5 1 p2 k c2 (encL (r.bs.take k))):=by rw[e1,outI,hkl]
 refine end0 S (fun _=>⟨p2,c2,?_,?_⟩);rw[e3];exact h1;rw[e3];exact h2
theorem rawR_c (b:Nat)(r:RS)(k:Nat)(w0:World)(hk:k≤10000000000)(hc:r.bs.length≤r.c)(hl:r.bs.length≤10000000)(hb:(rdI b r).holds w0)(hx:Stable (fun k=>k=b) w0 (GlF r.p r.bs)) :
  Ret Tryz.prog 242 [.pointer (some ⟨b,0,none⟩),.int .i64 (k:Int)] w0 (fun k=>k=b) fun v w'=>∃ p' c',v=.slice p' (tookR r k).length c'∧(both (Wk.row 5 1 p' (tookR r k).length c' (encL (tookR r k))) (rdI b (takeR r k))).holds w'∧∀ j,(both (Wk.row 5 1 p' (tookR r k).length c' (encL (tookR r k))) (rdI b (takeR r k))).foot j→j=b∨w0.heap.size≤j:=by
 refine E1 Tryz.func242 rfl Tryz.ntmps242 (Wd.itLent (x:=rdI b r) (fs:=[GlF r.p r.bs]) hb (by intro Φ hΦ;obtain rfl:=List.mem_singleton.1 hΦ;exact hx)) ?_;intro a S;refine kS (kR ?_);refine sa S ?_;intro b4 a w S;refine J16 ?_;intro a S;replace S:=S.toBoth;refine sit (both (Wk.box b4 61 [.slice none 0 0]) (rdI b r)) S (offR_c b b4 r k w hk hc hl (S.it (both (Wk.box b4 61 [.slice none 0 0]) (rdI b r))) (S.lend (both (Wk.box b4 61 [.slice none 0 0]) (rdI b r)) (S.mem.fact (GlF r.p r.bs)))) rfl ?_;rintro _ a w ⟨p2,c2,hbx,hf2⟩ hS;have S:=hS (both (outI b4 p2 c2 (tookR r k)) (rdI b (takeR r k))) hbx hf2;clear hS;replace S:=S.ofBoth.ofBoth;refine Y9 ?_;intro a w S;replace S:=((S.front (rdI b (takeR r k))).front (Wk.row 5 1 p2 (tookR r k).length c2 (encL (tookR r k)))).toBoth;have h1:=S.it (both (Wk.row 5 1 p2 (tookR r k).length c2 (encL (tookR r k))) (rdI b (takeR r k)));have h2:=S.itNew (both (Wk.row 5 1 p2 (tookR r k).length c2 (encL (tookR r k))) (rdI b (takeR r k))) rfl;exact end1 S (fun _=>⟨p2,c2,rfl,h1,h2⟩)
def numN (bs:List UInt8)(x:Nat):Nat:=bs.foldl (fun x c=>256*x+c.toNat) x
theorem numN_cons (c:UInt8)(bs:List UInt8)(x:Nat):numN (c::bs) x=numN bs (256*x+c.toNat):=rfl
theorem numN_lt (bs:List UInt8):∀ x:Nat,numN bs x < (x+1)*256 ^ bs.length:=by
 induction bs with
 | nil=>intro x;simp[numN]
 | cons c bs ih=>
  intro x;rw[numN_cons];have h1:=ih (256*x+c.toNat);have h2:=c.toNat_lt;have h3:(256*x+c.toNat+1)*256 ^ bs.length≤(256*(x+1))*256 ^ bs.length:=Nat.mul_le_mul_right _ (by omega);have h4:(256*(x+1))*256 ^ bs.length=(x+1)*256 ^ (c::bs).length:=by
   rw[qqA,Nat.pow_succ,Nat.mul_comm 256 (x+1),Nat.mul_assoc,Nat.mul_comm 256]
  omega
theorem numB_nat (bs:List UInt8):∀ x:Nat,(x+1)*256 ^ bs.length≤18446744073709551616→numB bs (x:Int)=(numN bs x:Int):=by
 induction bs with
 | nil=>intro x _;rfl
 | cons c bs ih=>
  intro x hx;have h2:=c.toNat_lt;have h5:1≤256 ^ bs.length:=Nat.one_le_pow _ _ (by decide);have h4:(256*(x+1))*256 ^ bs.length=(x+1)*256 ^ (c::bs).length:=by
   rw[qqA,Nat.pow_succ,Nat.mul_comm 256 (x+1),Nat.mul_assoc,Nat.mul_comm 256]
  have h6:256*(x+1)≤18446744073709551616:=by
   have:=Nat.mul_le_mul_left (256*(x+1)) h5;omega
  have h3:(256*x+c.toNat+1)*256 ^ bs.length≤(256*(x+1))*256 ^ bs.length:=Nat.mul_le_mul_right _ (by omega);rw[numN_cons,←ih _ (by omega)]
  show numB bs (IntKind.u64.wrap (IntKind.u64.wrap (256*(x:Int))+(c.toNat:Int)))=_
  rw[wu64 (256*(x:Int)) (by omega) (by omega),wu64 _ (by omega) (by omega)]
  norm_cast
theorem took_num (r:RS)(k:Nat)(hk:k≤7):numB (tookR r k) 0=(numN (tookR r k) 0:Int)∧numN (tookR r k) 0 < 256 ^ k:=by
 have h1:=(tookR_len r k).1;have h2:256 ^ (tookR r k).length≤256 ^ k:=Nat.pow_le_pow_right (by decide) h1;have h3:256 ^ k≤256 ^ 7:=Nat.pow_le_pow_right (by decide) hk;have h4:(256:Nat) ^ 7≤18446744073709551616:=by decide
 have h5:=numN_lt (tookR r k) 0;exact ⟨numB_nat _ 0 (by omega),by omega⟩
theorem u8R_c (b:Nat)(r:RS)(w0:World)(hc:r.bs.length≤r.c)(hl:r.bs.length≤10000000)(hb:(rdI b r).holds w0)(hx:Stable (fun k=>k=b) w0 (GlF r.p r.bs)) :
  Ret Tryz.prog 74 [.pointer (some ⟨b,0,none⟩)] w0 (fun k=>k=b) fun v w'=>v=.int .u8 (numN (tookR r 1) 0:Nat)∧(rdI b (takeR r 1)).holds w':=by
 have hn:=took_num r 1 (by decide);refine E1 Tryz.func74 rfl Tryz.ntmps74 (Wd.itLent (x:=rdI b r) (fs:=[GlF r.p r.bs]) hb (by intro Φ hΦ;obtain rfl:=List.mem_singleton.1 hΦ;exact hx)) ?_;intro a S;refine J8 ?_;intro a S;refine sit (rdI b r) S (weighR_c b r 1 _ (by decide) hc hl (S.it (rdI b r)) (S.lend (rdI b r) (S.mem.fact (GlF r.p r.bs)))) rfl ?_;rintro _ a w ⟨rfl,hh⟩ hS;have S:=hS (rdI b (takeR r 1)) hh (fun k h=>.inl h);clear hS;rw[hn.1]at S;refine J1 ?_;intro a S;rw[show IntKind.u8.wrap ((numN (tookR r 1) 0:Nat):Int)=((numN (tookR r 1) 0:Nat):Int) from by
  unfold IntKind.wrap;simp only[IntKind.bits,IntKind.signed,Bool.false_and];simp;omega]at S
 refine J4 ?_;intro a S;have hh:=S.it (rdI b (takeR r 1));exact end1 S (fun _=>⟨rfl,hh⟩)
theorem u16R_c (b:Nat)(r:RS)(w0:World)(hc:r.bs.length≤r.c)(hl:r.bs.length≤10000000)(hb:(rdI b r).holds w0)(hx:Stable (fun k=>k=b) w0 (GlF r.p r.bs)) :
  Ret Tryz.prog 75 [.pointer (some ⟨b,0,none⟩)] w0 (fun k=>k=b) fun v w'=>v=.int .u16 (numN (tookR r 2) 0:Nat)∧(rdI b (takeR r 2)).holds w':=by
 have hn:=took_num r 2 (by decide);refine E1 Tryz.func75 rfl Tryz.ntmps75 (Wd.itLent (x:=rdI b r) (fs:=[GlF r.p r.bs]) hb (by intro Φ hΦ;obtain rfl:=List.mem_singleton.1 hΦ;exact hx)) ?_;intro a S;refine J8 ?_;intro a S;refine sit (rdI b r) S (weighR_c b r 2 _ (by decide) hc hl (S.it (rdI b r)) (S.lend (rdI b r) (S.mem.fact (GlF r.p r.bs)))) rfl ?_;rintro _ a w ⟨rfl,hh⟩ hS;have S:=hS (rdI b (takeR r 2)) hh (fun k h=>.inl h);clear hS;rw[hn.1]at S;refine J1 ?_;intro a S;rw[show IntKind.u16.wrap ((numN (tookR r 2) 0:Nat):Int)=((numN (tookR r 2) 0:Nat):Int) from by
  unfold IntKind.wrap;simp only[IntKind.bits,IntKind.signed,Bool.false_and];simp;omega]at S
 refine J4 ?_;intro a S;have hh:=S.it (rdI b (takeR r 2));exact end1 S (fun _=>⟨rfl,hh⟩)
theorem errR_c (b:Nat)(r:RS)(w0:World)(hb:Fx w0 (BoxF b 193 (cRS r))):Ret Tryz.prog 247 [.pointer (some ⟨b,0,none⟩)] w0 (fun _=>False) fun v _=>v=.int .i64 r.why:=by
 refine E1 Tryz.func247 rfl Tryz.ntmps247 (Wd.begin (fs:=[BoxF b 193 (cRS r)]) (by simpa using hb)) ?_;intro a S;refine J20 ?_;intro a S;refine J6 ?_;intro a S;exact end1 S (fun _=>rfl)
theorem readR_c (bs:List UInt8)(p:Option Addr)(n c:Nat)(w0:World)(hn:bs.length=n)(hl:n≤10000000)(hx:Fx w0 (GlF p bs)) :
  Ret Tryz.prog 73 [.slice p n c] w0 (fun _=>False) fun v w'=>∃ b p' c',v=.pointer (some ⟨b,0,none⟩)∧(both (rdI b ⟨p',c',bs,0⟩) (Wk.row 5 1 p' bs.length c' (encL bs))).holds w'∧∀ k,(both (rdI b ⟨p',c',bs,0⟩) (Wk.row 5 1 p' bs.length c' (encL bs))).foot k→w0.heap.size≤k:=by
 subst hn;refine E1 Tryz.func73 rfl Tryz.ntmps73 (Wd.begin (fs:=[GlF p bs]) (by simpa using hx)) ?_;intro a S;refine J8 ?_;intro a S;replace S:=S.addNil 5 1;refine sap S (by simp[maxLen];omega) (by omega) ?_;rintro p2 c2 a w - S;rw[qqF,Nat.zero_add]at S;refine J2 ?_;intro a S;refine sa S ?_;intro b7 a w S;refine J4 ?_;intro a S;replace S:=((S.front (Wk.row 5 1 p2 bs.length c2 (encL bs))).front (rdI b7 ⟨p2,c2,bs,0⟩)).toBoth;have h1:=S.it (both (rdI b7 ⟨p2,c2,bs,0⟩) (Wk.row 5 1 p2 bs.length c2 (encL bs)));have h2:=S.itNew (both (rdI b7 ⟨p2,c2,bs,0⟩) (Wk.row 5 1 p2 bs.length c2 (encL bs))) rfl;exact end1 S (fun _=>⟨b7,p2,c2,rfl,h1,fun k hk=>(h2 k hk).elim (fun h=>h.elim) id⟩)
abbrev DecE (α:Type):=Except Int α
def textD (k:Int)(bs:List UInt8):DecE (List UInt8 × List UInt8):=
 if hasF (fieldsOf k) 1 then
  match bs with
  | []=>.error 7
  | n::bs=>if 64 < n.toNat then .error 150 else if bs.length < n.toNat then .error 7 else .ok (bs.take n.toNat,bs.drop n.toNat)
 else .ok ([],bs)
def userD (k:Int)(bs:List UInt8):DecE (Int × List UInt8):=
 if hasF (fieldsOf k) 2 then
  match bs with
  | []=>.error 7
  | u::bs=>if 1≤u.toNat∧u.toNat≤6 then .ok ((u.toNat:Int),bs) else .error 150
 else .ok (0,bs)
def numD (k:Int)(bs:List UInt8):DecE (Int × List UInt8):=
 if hasF (fieldsOf k) 4 then (if bs.length < 2 then .error 7 else .ok ((numN (bs.take 2) 0:Int),bs.drop 2)) else .ok (0,bs)
def kidsD (f:Nat→List UInt8→DecE (Term × Nat × List UInt8)):Nat→Nat→List UInt8→DecE (List Term × Nat × List UInt8)
 | 0,left,bs=>.ok ([],left,bs)
 | k+1,left,bs=>match f left bs with
  | .error e=>.error e
  | .ok (t,left,bs)=>match kidsD f k left bs with
   | .error e=>.error e
   | .ok (ts,left,bs)=>.ok (t::ts,left,bs)
def kidsN (k:Int):Nat:=(kidsF (fieldsOf k)).toNat
def decT:Nat→Nat→List UInt8→DecE (Term × Nat × List UInt8)
 | _,_,[]=>.error 7
 | 0,_,_::_=>.error 150
 | m+1,left,c::bs=>
  if fieldsOf (c.toNat:Int)=0∨left=0 then .error 150 else
  match textD (c.toNat:Int) bs with
  | .error e=>.error e
  | .ok (s,bs)=>match userD (c.toNat:Int) bs with
   | .error e=>.error e
   | .ok (u,bs)=>match numD (c.toNat:Int) bs with
    | .error e=>.error e
    | .ok (n,bs)=>match kidsD (decT m) (kidsN (c.toNat:Int)) (left - 1) bs with
     | .error e=>.error e
     | .ok (ks,left,bs)=>.ok (.mk (c.toNat:Int) u n s ks,left,bs)
def decB (f:Nat→List UInt8→DecE (Term × Nat × List UInt8))(left:Nat)(k:Int)(bs:List UInt8):DecE (Term × Nat × List UInt8):=
 match textD k bs with
 | .error e=>.error e
 | .ok (s,bs)=>match userD k bs with
  | .error e=>.error e
  | .ok (u,bs)=>match numD k bs with
   | .error e=>.error e
   | .ok (n,bs)=>match kidsD f (kidsN k) (left - 1) bs with
    | .error e=>.error e
    | .ok (ks,left,bs)=>.ok (.mk k u n s ks,left,bs)
theorem decT_nil (m left:Nat):decT m left []=.error 7:=by cases m <;> rfl
theorem decT_cons (m left:Nat)(c:UInt8)(bs:List UInt8):decT m left (c::bs)=if m=0∨fieldsOf (c.toNat:Int)=0∨left=0 then .error 150 else decB (decT (m - 1)) left (c.toNat:Int) bs:=by
 cases m with
 | zero=>rw[if_pos (.inl rfl)];rfl
 | succ m=>
  rw[decT]
  by_cases h:fieldsOf (c.toNat:Int)=0∨left=0
  rw[if_pos h,if_pos (.inr h)];rw[if_neg h,if_neg (fun h2=>h2.elim (fun h=>by cases h) h)];rfl
end Go.Proofs.YtlgnhhebeandkaaGreatDoor
namespace Go.Wk
open Go
section
variable {P:Program}{r:Option Nat}{ops:Array Oper}{Q:Exit→Act→World→Prop}{w0:World}{M0:Nat→Prop}{ds:List Deferred}{a:Act}{w:World}{l:List Value}{bs:List Item}{fs:List (World→Prop)}
 {d:Option Nat} {ty t tx e:TypeId} {pos:String} {af:Array Edge} {rest:List Oper} {x y:Operand} {by_ c sz m:Nat} {z:Value}
end
class EqG (P:Program)(t:TypeId):Prop where eq:P.eqGuardType P.depth t=false
section
variable {P:Program}{r:Option Nat}{ops:Array Oper}{Q:Exit→Act→World→Prop}{w0:World}{M0:Nat→Prop}{ds:List Deferred}{a:Act}{w:World}{l:List Value}{bs bs':List Item}{fs:List (World→Prop)}
 {d:Option Nat} {ty:TypeId} {pos:String} {af:Array Edge} {rest:List Oper} {f:Nat} {x:Operand} {ts:Array TypeId} {e:Exit}
variable {fn:Func}{R:Value→World→Prop}
end
section
variable {P:Program}{ops:Array Oper}{md:Region.Mode}{C:World→Prop}
variable {R:Act→World→Prop}
variable {r:Option Nat}{Q:Exit→Act→World→Prop}{w0:World}{M0:Nat→Prop}{ds:List Deferred}{a:Act}{w:World}{l l':List Value}{bs bs' bs0:List Item}{fs fs0:List (World→Prop)}
 {d:Option Nat} {op:Op} {ty:TypeId} {pos:String} {af:Array Edge} {rest:List Oper} {v v' G:Value} {j g:Nat} {pol:Bool} {cs:List Bool} {n:Nat} {listed:Array Bool}
def feeds (ops:Array Oper)(last i:Nat):Bool:=(!Nat.beq i last)&&(match ops[last]? with | some o=>o.after.toList.any fun e=>Region.binds .any e&&Nat.beq e.on i | none=>false)
theorem feeds_spec {ops:Array Oper}{last i:Nat}(h:feeds ops last i=true):i≠last∧∀ o,ops[last]? = some o→∃ e∈o.after,Region.binds .any e=true∧e.on=i:=by
 simp only[feeds,Bool.and_eq_true,Bool.not_eq_true']at h;refine ⟨fun e=>(by rw[e,Nat.beq_refl]at h;cases h.1),fun o ho=>?_⟩;rw[ho]at h;obtain ⟨e,he,h2⟩:=List.any_eq_true.1 h.2;simp only[Bool.and_eq_true]at h2;exact ⟨e,by simpa using he,h2.1,Nat.eq_of_beq_eq_true h2.2⟩
def flowFromL (last:Nat)(ops:Array Oper):List (Nat × Bool)→Array Bool→Bool
 | [],listed=>(Region.ready .any ops listed).isEmpty
 | (i,true)::ord,listed=>(((Region.ready .any ops listed).contains i&&Region.free .any ops listed i)&&feeds ops last i)&&flowFromL last ops ord (listed.setIfInBounds i true)
 | (i,false)::ord,listed=>(match Region.ready .any ops listed with | [j]=>Nat.beq j i | _=>false)&&flowFromL last ops ord (listed.setIfInBounds i true)
variable {ord:List (Nat × Bool)}{i last:Nat}
end
open Go Go.Deep Go.ChangeShapes Go.WideShapes Go.ChangeAt Go.RowKit
class TroZ (P:Program)(T:TypeId)(α:Type)[Lay α](Z:outParam (α→Prop)):Prop where
 of:∀ {H:Type} (enc:TypeId × Value→H) (w:World) (base:Nat) (spare:Nat→Bool) (held:Bool) (fuel:Nat) (cs:List Value) (x:DataW H × List MemPlace),DataW.trod enc P w base spare held fuel T cs=some x→∃ a:α,cs=Enc.cells a∧Lay.inn w a∧((∀ n∈x.1.weights P T,n≤reachBytes)→Z a)
 size:P.cellsOf T=Enc.sz α
def kvI (x:Int × Value):Value × Value:=(.int .i64 x.1,x.2)
def mpin (b r:Nat)(kv done:List (Int × Value)):Item where
 foot:=fun k=>k=b∨k=r
 holds:=fun w=>∃ (es:Array MapEntry) (clock:Nat) (ds:List MapEntry),w.heap[b]? = some (.map es clock)∧es.toList.map enKV=kv.map kvI∧(∀ e∈es.toList,e.born < clock)∧(es.toList.map (·.born)).Nodup∧
  w.heap[r]? = some (.mapIter (some b) clock (ds.map (·.born)).toArray clock)∧(∀ e∈ds,e∈es.toList)∧(ds.map (·.born)).Nodup∧ds.map enKV=done.map kvI
class HasMpin (bs:List Item)(r:Nat)(b:outParam Nat)(kv done:outParam (List (Int × Value))):Prop where mem:mpin b r kv done∈bs
class HasMpinnB (bs:List Item)(b:Nat)(kv:outParam (List (Int × Value))):Prop where mem:∃ r done,mpin b r kv done∈bs
section
variable {P:Program}{r0:Option Nat}{ops:Array Oper}{Q:Exit→Act→World→Prop}{w0:World}{M0:Nat→Prop}{ds:List Deferred}{a:Act}{w:World}{l:List Value}{bs:List Item}{fs:List (World→Prop)}
 {d:Option Nat} {op:Op} {ty:TypeId} {pos:String} {af:Array Edge} {rest:List Oper} {t kt et:TypeId} {x:Operand} {b:Nat} {kv:List (Int × Value)}
end
section
variable {P:Program}{ops:Array Oper}{C:World→Prop}{X:XP}
def ACXL (last:Nat)(P:Program)(ops:Array Oper)(X:XP)(C:World→Prop)(R:Act→World→Prop):Nat→Array Bool→Act→World→Prop
 | 0,listed,a,w=>Region.ready .any ops listed=[]∧R a w
 | fuel+1,listed,a,w=>
  (Region.ready .any ops listed=[]→R a w)∧
  ∀ i∈Region.ready .any ops listed,WNX P ops X i (fun a' w'=>(i≠last→C w')∧ACXL last P ops X C R fuel (listed.setIfInBounds i true) a' w') a w
variable {R:Act→World→Prop}
theorem acxl_first {last i:Nat}{oi:Oper}{v:Value}(hi:ops[i]? = some oi)(hoff:X.off oi)(hsel:∀ (j:Nat) (o:Oper) cs b,ops[j]? = some o→o.op≠.select cs b) :
  (i≠last∧∀ o,ops[last]? = some o→∃ e∈o.after,Region.binds .any e=true∧e.on=i)→∀ (fuel:Nat) (listed:Array Bool) (a:Act) (w:World),
   (∀ j oj,ops[j]? = some oj→j≠i→listed.getD j true=false→(∀ e∈oj.after,Region.binds .any e=true→e.on≠i)→oi.apart ops oj=true)→
   i∈Region.ready .any ops listed→YieldsC P ops C oi v a→C w→
   ACXL last P ops X C R fuel (listed.setIfInBounds i true) (a.put oi.dst v) w→ACXL last P ops X C R (fuel+1) listed a w:=by
 intro hlast fuel
 induction fuel with
 | zero=>
  intro listed a w _ hr hy hS H;refine ⟨fun h=>(by rw[h]at hr;cases hr),fun j hj=>?_⟩
  by_cases hji:j=i
  ·subst hji;exact hy.wnx hi hS ⟨fun _=>hS,H⟩
  ·have:=ready_mono hj hji
   rw[H.1]at this;cases this
 | succ fuel ih=>
  intro listed a w hfree hr hy hS H;refine ⟨fun h=>(by rw[h]at hr;cases hr),fun j hj=>?_⟩
  by_cases hji:j=i
  ·subst hji;exact hy.wnx hi hS ⟨fun _=>hS,H⟩
  ·have h1:=H.2 j (ready_mono hj hji)
   obtain ⟨hjun,oj,hoj,hall⟩:=mem_ready.1 hj;have hnot:∀ e∈oj.after,Region.binds .any e=true→e.on≠i:=fun e he hb heq=>by
    have h1:=hall e he hb;have h0:=(mem_ready.1 hr).1;rw[heq]at h1;rcases Nat.lt_or_ge i listed.size with h' | h'
    ·simp[h']at h0 h1;rw[h0]at h1;cases h1
    ·simp[Array.getElem?_eq_none h']at h1
   have hjl:j≠last:=fun e=>by
    obtain ⟨e',he',hb',ho'⟩:=hlast.2 oj (e▸hoj);exact hnot e' he' hb' ho'
   have h2:=wnx_put hoj (hfree j oj hoj hji hjun hnot) hoff (fun cs b=>hsel i oi cs b hi) (fun cs b=>hsel j oj cs b hoj) hy h1;have hfree':∀ k ok,ops[k]? = some ok→k≠i→(listed.setIfInBounds j true).getD k true=false→
     (∀ e∈ok.after,Region.binds .any e=true→e.on≠i)→oi.apart ops ok=true:=fun k ok hk hki hun hno=>by
    refine hfree k ok hk hki ?_ hno
    by_cases hjk:j=k
    ·subst hjk;exact hjun
    ·rw[getD_set_ne true hjk]at hun;exact hun
   refine wpOpIn_mono (fun a' w' h3=>⟨h3.2.1,ih (listed.setIfInBounds j true) a' w' hfree' (ready_mono hr (Ne.symm hji)) h3.1 (h3.2.1 hjl) ?_⟩) h2;rw[Array.setIfInBounds_comm _ _ hji];exact h3.2.2
variable {r:Option Nat}{Q:Exit→Act→World→Prop}{w0:World}{M0:Nat→Prop}{ds:List Deferred}{a:Act}{w:World}{l l':List Value}{bs bs' bs0:List Item}{fs fs0:List (World→Prop)}
 {d:Option Nat} {op:Op} {ty:TypeId} {pos:String} {af:Array Edge} {rest:List Oper} {v v' G:Value} {j g:Nat} {pol:Bool} {cs:List Bool} {n last:Nat} {listed:Array Bool}
def AQXL (last:Nat)(P:Program)(ops:Array Oper)(X:XP)(C:World→Prop)(R:Act→World→Prop)(ord:List (Nat × Bool))(a:Act)(w:World):Prop:=
 ∀ listed,Region.noSelect ops=true→X.offB ops=true→flowFromL last ops ord listed=true→ACXL last P ops X C R ord.length listed a w
variable {ord:List (Nat × Bool)}{i:Nat}
theorem dqXL (S:St w0 M0 ds a w l bs fs)[hb:SubL bs0 bs][hf:SubL fs0 fs][ho:OpAt ops i ⟨d,op,ty,pos,af,none⟩][hq:OpQ P op ty ⟨[],l⟩ bs0 fs0 v][hp:PutO l d v l']
  (K:∀ a,St w0 M0 ds a w l' bs fs→AQXL last P ops X (fun w=>Wd w0 M0 w bs0 fs0) R ord a w) :
  AQXL last P ops X (fun w=>Wd w0 M0 w bs0 fs0) R ((i,true)::ord) a w:=by
 intro listed hs hx hflow;simp only[flowFromL,Bool.and_eq_true]at hflow;refine acxl_first ho.eq (XP.offB_spec hx ho.eq) (Region.noSelect_spec hs) (feeds_spec hflow.1.2) _ listed a w (Region.free_spec ho.eq hflow.1.1.2) (by simpa using hflow.1.1.1) (v:=v) (.inl ⟨rfl,fun w' hw'=>?_⟩) (S.wd.sub hb.sub hf.sub) (K _ S.put _ hs hx hflow.2);rw[execOp_eq];exact hq.run a.eval w' S.fr hw'.mem
theorem dlXL {o:Oper}{C:World→Prop}[ho:OpAt ops i o](h:WL P none ops (fun e a' w'=>(e=.normal∧(i≠last→C w')∧AQXL last P ops X C R ord a' w')∨X.at e a' w') [o] a w):AQXL last P ops X C R ((i,false)::ord) a w:=by
 intro listed hs hx hflow;simp only[flowFromL,Bool.and_eq_true]at hflow;have hr:Region.ready .any ops listed=[i]:=by
  have:=hflow.1;split at this
  ·rename_i k hk;rw[hk,Nat.eq_of_beq_eq_true this]
  ·cases this
 refine ⟨fun h0=>(by rw[h0]at hr;cases hr),fun k hk=>?_⟩;rw[hr]at hk;obtain rfl:k=i:=by simpa using hk
 have nor:∀ {p:Prop} {a':Act} {w':World},((p∧(k≠last→C w')∧AQXL last P ops X C R ord a' w')∨X.at .normal a' w')→(k≠last→C w')∧ACXL last P ops X C R ord.length (listed.setIfInBounds k true) a' w':=by
  rintro p a' w' (⟨-,h1,h2⟩ | h)
  ·exact ⟨h1,h2 _ hs hx hflow.2⟩
  ·exact h.elim
 have pan:∀ {c:List PanicEntry} {a':Act} {w':World},((Exit.panic c=Exit.normal∧(k≠last→C w')∧AQXL last P ops X C R ord a' w')∨X.at (.panic c) a' w')→X.at (.panic c) a' w':=by
  rintro c a' w' (⟨h,-⟩ | h)
  ·cases h
  ·exact h
 unfold WNX wpOpIn;simp only[ho.eq];simp only[WL,wpListIn]at h;split
 ·rename_i hw
  rw[if_pos hw]at h;refine ⟨fun _ _=>trivial,?_⟩;have h:=h.2
  generalize (o.semAt (FW none).round a.eval).run P w=q at *
  cases q with
  | ok x w'=>
   cases x <;> simp only[Oper.uponIn]at h⊢
   case value u=>exact nor h
   case skip=>exact nor h
   case defer d=>exact nor h
   case enter f args=>
    refine ⟨h.1,CallsIn.mono h.2 fun e w'' he=>?_⟩;cases e with
    | returned u=>simp only[true_and]at he;exact nor (p:=True) (by simpa using he)
    | panicked c=>exact pan he
    | outgrown=>obtain ⟨_,_,he⟩:=he;rcases he with ⟨he,_⟩ | he <;> first | cases he | exact he.elim
   case row row args=>exact ⟨h.1,RowsIn.mono h.2 fun u w'' he=>nor he⟩
   case round l f tmps assign body=>
    refine ⟨h.1,RoundIn.mono h.2 fun e w'' he=>?_⟩;cases e with
    | returned u=>simp only[true_and]at he;exact nor (p:=True) (by simpa using he)
    | panicked c=>exact pan he
    | outgrown=>obtain ⟨_,_,he⟩:=he;rcases he with ⟨he,_⟩ | he <;> first | cases he | exact he.elim
  | halt x w'=>
   cases x <;> simp only[Oper.uponIn]at h⊢
   case panic u=>exact pan h
 ·rename_i hw
  rw[if_neg hw]at h;exact ⟨fun _ _=>trivial,nor h.2⟩
theorem deXL [hb:SubL bs0 bs][hf:SubL fs0 fs](S:St w0 M0 ds a w l bs fs)(h:AQXL last P ops X (fun w=>Wd w0 M0 w bs0 fs0) R ord a w):WL P none ops (fun e a' w'=>(e=.normal∧(i≠last→Wd w0 M0 w' bs0 fs0)∧AQXL last P ops X (fun w=>Wd w0 M0 w bs0 fs0) R ord a' w')∨X.at e a' w') [] a w:=
 kN (.inl ⟨rfl,fun _=>S.wd.sub hb.sub hf.sub,h⟩)
theorem dzXL {C:World→Prop}(h:R a w)(hr:∀ listed,Region.noSelect ops=true→flowFromL last ops [] listed=true→Region.ready .any ops listed=[]:=by intro listed _ h;simpa [flowFromL] using h):WL P none ops (fun e a' w'=>(e=.normal∧(last≠last→C w')∧AQXL last P ops X C R [] a' w')∨X.at e a' w') [] a w:=
 kN (.inl ⟨rfl,fun h=>absurd rfl h,fun listed hs _ hf=>⟨hr listed hs hf,h⟩⟩)
theorem any_of_acxl (hQ:∀ ch a w,X.at (.panic ch) a w→Q (.panic ch) a w)(hd:∀ (i:Nat) o,ops[i]? = some o→isDefer o.op=false):∀ (fuel:Nat) (listed:Array Bool) (a:Act) (w:World),ACXL last P ops X C (fun a w=>Q .normal a w) fuel listed a w→wpAnyIn (FW r) 0 P .any ops Q fuel listed a w
 | 0,_,_,_,h=>h
 | fuel+1,_,_,_,h=>⟨h.1,fun i hi=>wnx_round hQ hd (wpOpIn_mono (fun a' w' h'=>any_of_acxl hQ hd fuel _ a' w' h'.2) (h.2 i hi))⟩
theorem c_drawXL {id:Nat}{lo:List Oper}(last:Nat)(ord:List (Nat × Bool))(bs0:List Item)(X:XP)(S:St w0 M0 ds a w l bs fs)(hQ:∀ ch a w,X.at (.panic ch) a w→Q (.panic ch) a w)
  (h:∀ w,St w0 M0 ds a w l bs fs→AQXL last P lo.toArray X (fun w=>Wd w0 M0 w bs0 fs) (fun a w=>Q .normal a w) ord a w)
  (hm:P.follows .mixedOrders=true:=by kernel_rfl) (hx:X.offB lo.toArray=true:=by kernel_rfl) (hd:((lo.all fun o=>!isDefer o.op)&&(Nat.beq ord.length lo.length&&(Region.noSelect lo.toArray&&flowFromL last lo.toArray ord (Array.replicate lo.length false))))=true:=by kernel_rfl):Wp P r (.region id lo.toArray true) Q a w:=by
 simp only[Bool.and_eq_true]at hd;refine wpIn_region_any hm (any_of_acxl (last:=last) (C:=fun w=>Wd w0 M0 w bs0 fs) hQ (fun i o ho=>?_) _ _ _ _ ?_);have:=List.all_eq_true.1 hd.1 o (by
  rw[List.getElem?_toArray]at ho;exact List.mem_of_getElem? ho)
 simpa using this;have:=h { w with drawn:=w.drawn+1 } ⟨S.slots,S.defers,S.wd.step (Agree.drawn _ w _)⟩ _ hd.2.2.1 hx hd.2.2.2;rw[Nat.eq_of_beq_eq_true hd.2.1]at this;simpa using this
end
section
variable {P:Program}{r:Option Nat}{ops:Array Oper}{Q:Exit→Act→World→Prop}{w0:World}{M0:Nat→Prop}{ds:List Deferred}{a:Act}{w:World}{l:List Value}{bs bs':List Item}{fs:List (World→Prop)}
 {d:Option Nat} {ty:TypeId} {pos:String} {af:Array Edge} {rest:List Oper} {f:Nat} {x:Operand} {ys:List Operand} {args:List Value} {ts:Array TypeId}
theorem xtp {next:Act→World→Prop}{ch:List PanicEntry}(h:Q (.panic ch) a w):Exit.then next Q (.panic ch) a w:=h
theorem xbp {id:Nat}{ch:List PanicEntry}(h:Q (.panic ch) a w):Exit.inBlock id Q (.panic ch) a w:=h
abbrev noI:Item:=ext fun _=>False
theorem sitMP {l':Value→List Value}(it:Item)[EntF P f][CallTo ⟨[],l⟩ x ys f args][hp:∀ v,PutO l d v (l' v)](S:St w0 M0 ds a w l bs fs){R:Value→World→Prop}{X:List PanicEntry→World→Prop}(hc:RetP P f args w it.foot R X)(ho:it.own=true)
  (Kp:∀ ch w',X ch w'→(∀ {bs':List Item} [ReplI bs it noI bs'],St w0 M0 ds a w' l bs' fs)→Q (.panic ch) a w')
  (K:∀ v a w',R v w'→(∀ (y:Item) (fs2:List (World→Prop)) {fs3:List (World→Prop)} {bs':List Item} [AppL fs2 fs fs3] [ReplI bs it y bs'] [ItOk y],y.holds w'→(∀ k,y.foot k→it.foot k∨w.heap.size≤k)→(∀ Φ∈fs2,Stable (fun k=>y.foot k∨restOf bs it k) w' Φ)→St w0 M0 ds a w' (l' v) bs' fs3)→WL P r ops Q rest a w') :
  WL P r ops Q (⟨d,.call { callee:=.value x,args:=ys.toArray,argTypes:=ts },ty,pos,af,none⟩::rest) a w:=by
 have hap:=S.wd.apart;refine cv_anyP S hc ?_;rintro e w' (⟨v,rfl,ha,hR⟩ | ⟨ch,rfl,ha,hX⟩)
 ·have:=hp v
  have S':=S.put (d:=d) (v:=v);refine .inl ⟨v,rfl,K v _ w' hR fun y fs2 fs3 bs' happ hr oy hy hf hfs=>?_⟩;have hS:St w0 M0 ds (a.put d v) w' (l' v) bs' fs:=⟨S'.slots,S'.defers,by
   obtain ⟨pre,post,q1,q2⟩:=hr.ex;have hwd:=S'.wd;rw[q1]at hwd;rw[q2];exact hwd.swap ho ha hy hf (oy.lt w' hy) oy.loc⟩
  rw[←happ.eq];refine hS.addAll fs2 fun Φ hΦ=>(hfs Φ hΦ).less fun k _ hk=>?_
  obtain ⟨pre,post,rfl,rfl⟩:=hr.ex;obtain ⟨z,hz,hk⟩:=hk;have hp:=List.pairwise_append.1 hap;rcases List.mem_append.1 hz with hz | hz
  ·exact .inr ⟨⟨z,by simp[hz],hk⟩,hp.2.2 z hz it (by simp) k hk⟩
  ·rcases List.mem_cons.1 hz with rfl | hz
   ·exact .inl hk
   ·exact .inr ⟨⟨z,by simp[hz],hk⟩,fun hx=>(List.pairwise_cons.1 hp.2.1).1 z hz k hx hk⟩
 ·refine .inr ⟨ch,rfl,Kp ch w' hX fun {bs'} hr=>⟨S.slots,S.defers,?_⟩⟩
  obtain ⟨pre,post,q1,q2⟩:=hr.ex;have hwd:=S.wd;rw[q1]at hwd;rw[q2];exact hwd.swap ho ha trivial (fun _ h=>h.elim) (fun _ h=>h.elim) (fun _ _ _ _=>trivial)
end
end Go.Wk
namespace Go.Proofs.YtlgnhhebeandkaaGreatDoor
open Go Go.Wk
set_option synthInstance.maxSize 100000
set_option synthInstance.maxHeartbeats 400000
set_option maxRecDepth 100000
instance:StT Tryz.prog 288:=⟨⟨_,Tryz.underlying288⟩⟩
instance:IfT Tryz.prog 20:=⟨by kernel_rfl⟩
abbrev wrongE (e:Int):Value:=.iface 288 (.agg ⟨[.int .i64 e]⟩)
abbrev tmI (h rd:Nat)(left:Int):Wk.Item:=Wk.box h 286 [.pointer (some ⟨rd,0,none⟩),.int .i64 left]
abbrev rtI (h rd:Nat)(left:Int)(r:RS):Wk.Item:=both (tmI h rd left) (rdI rd r)
theorem needR_c (h rd:Nat)(left:Int)(r:RS)(b:Bool)(w0:World)(f1:Fx w0 (BoxF h 286 [.pointer (some ⟨rd,0,none⟩),.int .i64 left]))(f2:Fx w0 (BoxF rd 193 (cRS r))) :
  RetP Tryz.prog 241 [.pointer (some ⟨h,0,none⟩),.bool b] w0 (fun _=>False) (fun _ _=>r.why=0∧b=true) (fun ch _=>∃ e,ch=pch (wrongE e)∧((r.why≠0∧e=7)∨(r.why=0∧b=false∧e=150))):=by
 refine E1 Tryz.func241 rfl Tryz.ntmps241 (Wd.begin (fs:=[BoxF h 286 [.pointer (some ⟨rd,0,none⟩),.int .i64 left],BoxF rd 193 (cRS r)]) (by simp;exact ⟨f1,f2⟩)) ?_;intro a S;refine J7 ?_;intro a S;refine sr S (errR_c rd r _ (S.mem.fact0 (BoxF rd 193 (cRS r)))) ?_;rintro _ a w rfl S;refine J4 ?_;intro a S;refine kC S (fun h0=>?_) (fun h0=>?_);refine J3 ?_;intro a S;refine sPan S (fun S=>?_);refine xbp ?_;refine endX S ?_;exact ⟨7,rfl,.inl ⟨by simpa using h0,rfl⟩⟩;refine J7 ?_;intro a S;refine kC S (fun h2=>?_) (fun h2=>?_);refine J3 ?_;intro a S;refine sPan S (fun S=>?_);refine xbp ?_;refine endX S ?_;exact ⟨150,rfl,.inr ⟨by simpa using h0,by simpa using h2,rfl⟩⟩;refine kK (xbn ?_);refine endP (end0 S (fun _=>?_));exact ⟨by simpa using h0,by simpa using h2⟩
structure SubR (r r':RS):Prop where
 gl:r.bs.length≤r.c→∀ w,GlF r.p r.bs w→GlF r'.p r'.bs w
 len:r'.bs.length≤r.bs.length
 cap:r.bs.length≤r.c→r'.bs.length≤r'.c
theorem SubR.refl (r:RS):SubR r r:=⟨fun _ _ h=>h,Nat.le_refl _,id⟩
theorem SubR.trans {a b c:RS}(h:SubR a b)(k:SubR b c):SubR a c:=⟨fun hc w hw=>k.gl (h.cap hc) w (h.gl hc w hw),Nat.le_trans k.len h.len,fun hc=>k.cap (h.cap hc)⟩
theorem SubR.take (r:RS)(k:Nat):SubR r (takeR r k):=by
 refine ⟨fun hc w hw=>?_,takeR_len r k,fun hc=>takeR_cap hc⟩;unfold takeR;split;exact hw.drop (sz:=1) k hc;exact hw
theorem take1_ok {r:RS}(h:r.why=0)(hk:(takeR r 1).why=0):∃ c t,r.bs=c::t∧numN (tookR r 1) 0=c.toNat∧(takeR r 1).bs=t:=by
 by_cases ho:okR r 1
 have hl:=ho.2
 match hb:r.bs with
 | []=>rw[hb]at hl;simp at hl
 | c::t=>exact ⟨c,t,rfl,by rw[tookR_yes ho,hb];simp[numN],by rw[takeR_yes ho,hb];rfl⟩
 rw[takeR_no ho,if_pos h]at hk;cases hk
theorem take1_bad {r:RS}(h:r.why=0)(hk:(takeR r 1).why≠0):r.bs=[]:=by
 by_cases ho:okR r 1
 rw[takeR_yes ho]at hk;exact absurd rfl hk
 match hb:r.bs with
 | []=>rfl
 | c::t=>exact absurd ⟨h,by rw[hb];simp⟩ ho
theorem take_ok {r:RS}{k:Nat}(h:r.why=0)(hk:(takeR r k).why=0):k≤r.bs.length∧tookR r k=r.bs.take k∧(takeR r k).bs=r.bs.drop k:=by
 by_cases ho:okR r k
 exact ⟨ho.2,tookR_yes ho,by rw[takeR_yes ho]⟩;rw[takeR_no ho,if_pos h]at hk;cases hk
theorem take_bad {r:RS}{k:Nat}(h:r.why=0)(hk:(takeR r k).why≠0):r.bs.length < k:=by
 by_cases ho:okR r k
 rw[takeR_yes ho]at hk;exact absurd rfl hk;rcases Nat.lt_or_ge r.bs.length k with h1 | h1
 exact h1;exact absurd ⟨h,h1⟩ ho
def preD (ts:List Term):DecE (List Term × Nat × List UInt8)→DecE (List Term × Nat × List UInt8)
 | .error e=>.error e
 | .ok (us,left,bs)=>.ok (ts++us,left,bs)
theorem preD_nil (x:DecE (List Term × Nat × List UInt8)):preD [] x=x:=by
 cases x <;> rfl
theorem kidsD_step (f:Nat→List UInt8→DecE (Term × Nat × List UInt8))(ts:List Term)(j left:Nat)(bs:List UInt8)(t:Term)(left':Nat)(bs':List UInt8)(h:f left bs=.ok (t,left',bs')) :
  preD ts (kidsD f (j+1) left bs)=preD (ts++[t]) (kidsD f j left' bs'):=by
 rw[kidsD,h]
 show preD ts (match kidsD f j left' bs' with | .error e=>.error e | .ok (us,l,b)=>.ok (t::us,l,b))=_
 cases kidsD f j left' bs' with
 | error e=>rfl
 | ok x=>obtain ⟨us,l,b⟩:=x;simp[preD]
theorem kidsD_bad (f:Nat→List UInt8→DecE (Term × Nat × List UInt8))(ts:List Term)(j left:Nat)(bs:List UInt8)(e:Int)(h:f left bs=.error e):preD ts (kidsD f (j+1) left bs)=.error e:=by
 rw[kidsD,h];rfl
variable {f:Nat→List UInt8→DecE (Term × Nat × List UInt8)}{left:Nat}{k e:Int}{bs b2 b3 b4:List UInt8}{s:List UInt8}{u n:Int}
theorem decB_text (h:textD k bs=.error e):decB f left k bs=.error e:=by rw[decB,h]
theorem decB_user (h:textD k bs=.ok (s,b2))(h2:userD k b2=.error e):decB f left k bs=.error e:=by rw[decB,h];simp only[h2]
theorem decB_num (h:textD k bs=.ok (s,b2))(h2:userD k b2=.ok (u,b3))(h3:numD k b3=.error e):decB f left k bs=.error e:=by rw[decB,h];simp only[h2,h3]
theorem decB_kids (h:textD k bs=.ok (s,b2))(h2:userD k b2=.ok (u,b3))(h3:numD k b3=.ok (n,b4))(h4:kidsD f (kidsN k) (left - 1) b4=.error e):decB f left k bs=.error e:=by rw[decB,h];simp only[h2,h3,h4]
theorem decB_ok {ks:List Term}{l:Nat}{b5:List UInt8}(h:textD k bs=.ok (s,b2))(h2:userD k b2=.ok (u,b3))(h3:numD k b3=.ok (n,b4))(h4:kidsD f (kidsN k) (left - 1) b4=.ok (ks,l,b5)):decB f left k bs=.ok (.mk k u n s ks,l,b5):=by rw[decB,h];simp only[h2,h3,h4]
theorem textD_none (h:hasF (fieldsOf k) 1=false):textD k bs=.ok ([],bs):=by unfold textD;rw[if_neg (by rw[h];simp)]
theorem textD_nil (h:hasF (fieldsOf k) 1=true):textD k []=.error 7:=by rw[textD,if_pos h]
theorem textD_long (h:hasF (fieldsOf k) 1=true){c:UInt8}(hc:64 < c.toNat):textD k (c::bs)=.error 150:=by rw[textD,if_pos h];simp[hc]
theorem textD_short (h:hasF (fieldsOf k) 1=true){c:UInt8}(hc:¬64 < c.toNat)(hl:bs.length < c.toNat):textD k (c::bs)=.error 7:=by rw[textD,if_pos h];simp[hc,hl]
theorem textD_ok (h:hasF (fieldsOf k) 1=true){c:UInt8}(hc:¬64 < c.toNat)(hl:¬bs.length < c.toNat):textD k (c::bs)=.ok (bs.take c.toNat,bs.drop c.toNat):=by rw[textD,if_pos h];simp[hc,hl]
theorem userD_none (h:hasF (fieldsOf k) 2=false):userD k bs=.ok (0,bs):=by unfold userD;rw[if_neg (by rw[h];simp)]
theorem userD_nil (h:hasF (fieldsOf k) 2=true):userD k []=.error 7:=by rw[userD,if_pos h]
theorem userD_ok (h:hasF (fieldsOf k) 2=true){c:UInt8}(hc:1≤c.toNat∧c.toNat≤6):userD k (c::bs)=.ok ((c.toNat:Int),bs):=by rw[userD,if_pos h];simp[hc]
theorem userD_bad (h:hasF (fieldsOf k) 2=true){c:UInt8}(hc:¬(1≤c.toNat∧c.toNat≤6)):userD k (c::bs)=.error 150:=by rw[userD,if_pos h];simp only[if_neg hc]
theorem numD_none (h:hasF (fieldsOf k) 4=false):numD k bs=.ok (0,bs):=by rw[numD,if_neg (by rw[h];simp)]
theorem numD_bad (h:hasF (fieldsOf k) 4=true)(hl:bs.length < 2):numD k bs=.error 7:=by rw[numD,if_pos h,if_pos hl]
theorem numD_ok (h:hasF (fieldsOf k) 4=true)(hl:¬bs.length < 2):numD k bs=.ok ((numN (bs.take 2) 0:Int),bs.drop 2):=by rw[numD,if_pos h,if_neg hl]
theorem kidsN_int (k:Int):kidsF (fieldsOf k)=((kidsN k:Nat):Int)∧kidsN k≤2:=by
 unfold kidsN kidsF;split;exact ⟨rfl,by decide⟩;split;exact ⟨rfl,by decide⟩;exact ⟨rfl,by decide⟩
end Go.Proofs.YtlgnhhebeandkaaGreatDoor
namespace Go.Proofs.YtlgnhhebeandkaaGreatDoor
open Go Go.Wk
set_option synthInstance.maxSize 100000
set_option synthInstance.maxHeartbeats 400000
set_option maxRecDepth 100000
theorem fields_kind {k:Int}(h:fieldsOf k≠0):1≤k∧k≤8:=by
 unfold fieldsOf at h
 repeat (split at h;· omega)
 exact absurd rfl h
theorem u8_natD {n:Int}(h:0≤n∧n≤255):((Wk.u8 n).toNat:Int)=n:=by
 rw[←u8_wrap];unfold IntKind.wrap;simp only[IntKind.bits,IntKind.signed,Bool.false_and];simp;omega
theorem u8_lenD {l:Nat}(h:l≤255):(Wk.u8 (l:Int)).toNat=l:=by
 have:=u8_natD (n:=(l:Int)) (by omega);omega
theorem be2_numD {n:Int}(h:0≤n∧n≤65535):(numN (be 2 n) 0:Int)=n:=by
 have e:be 2 n=[Wk.u8 (n.fdiv (2 ^ 8)),Wk.u8 (n.fdiv (2 ^ 0))]:=rfl;have h1:n.fdiv (2 ^ 8)=n / 256:=by rw[Int.fdiv_eq_ediv_of_nonneg _ (by decide)];rfl
 have h0:n.fdiv (2 ^ 0)=n:=by rw[Int.fdiv_eq_ediv_of_nonneg _ (by decide)];simp
 have h3:=u8_natD (n:=n / 256) (by omega);have h4:((Wk.u8 n).toNat:Int)=n % 256:=by
  rw[←u8_wrap];unfold IntKind.wrap;simp only[IntKind.bits,IntKind.signed,Bool.false_and];simp
 rw[e,h1,h0];simp only[numN,List.foldl_cons,List.foldl_nil]
 push_cast
 rw[h3,h4];omega
structure PlainOk (k u n:Int)(s:List UInt8)(m:Nat):Prop where
 kind:fieldsOf k≠0
 kids:(m:Int)=kidsF (fieldsOf k)
 short:s.length≤64
 text:hasF (fieldsOf k) 1=false→s=[]
 user:hasF (fieldsOf k) 2=true→1≤u∧u≤6
 nouser:hasF (fieldsOf k) 2=false→u=0
 num:hasF (fieldsOf k) 4=true→0≤n∧n≤65535
 nonum:hasF (fieldsOf k) 4=false→n=0
theorem plain_ok {k u n:Int}{s:List UInt8}{m:Nat}(h:plainF k u n s m=true):PlainOk k u n s m:=by
 simp only[plainF,knownF,Bool.and_eq_true,Bool.or_eq_true,Bool.not_eq_true',decide_eq_true_eq,decide_eq_false_iff_not]at h;obtain ⟨⟨⟨⟨⟨h1,h2⟩,h3⟩,h4⟩,h5⟩,h6⟩:=h;refine ⟨h1,h2,by omega,fun e=>?_,fun e=>?_,fun e=>?_,fun e=>?_,fun e=>?_⟩;rcases h4 with h | h
 rw[e]at h;cases h;exact h;rcases h5 with h | h
 exact h.2;rw[e]at h;cases h.1;rcases h5 with h | h
 rw[e]at h;cases h.1;exact h.2;rcases h6 with h | h
 exact ⟨h.1.2,h.2⟩;rw[e]at h;cases h.1;rcases h6 with h | h
 rw[e]at h;cases h.1.1;exact h.2
theorem text_back {k u n:Int}{s:List UInt8}{m:Nat}(h:PlainOk k u n s m)(X:List UInt8):textD k (put1 k s++X)=.ok (s,X):=by
 cases hf:hasF (fieldsOf k) 1 with
 | false=>rw[put1,hf,h.text hf];exact textD_none hf
 | true=>
  have hs:=h.short;have hl:=u8_lenD (l:=s.length) (by omega);rw[put1,if_pos hf,qqE,textD_ok hf (by rw[hl];omega) (by rw[hl,List.length_append];omega),hl,List.take_left,List.drop_left]
theorem user_back {k u n:Int}{s:List UInt8}{m:Nat}(h:PlainOk k u n s m)(X:List UInt8):userD k (put2 k u++X)=.ok (u,X):=by
 cases hf:hasF (fieldsOf k) 2 with
 | false=>rw[put2,hf,h.nouser hf];exact userD_none hf
 | true=>
  have hu:=h.user hf;have hl:=u8_natD (n:=u) (by omega);rw[put2,if_pos hf,qqE,qqF,userD_ok hf (by omega),hl]
theorem num_back {k u n:Int}{s:List UInt8}{m:Nat}(h:PlainOk k u n s m)(X:List UInt8):numD k (put4 k n++X)=.ok (n,X):=by
 cases hf:hasF (fieldsOf k) 4 with
 | false=>rw[put4,hf,h.nonum hf];exact numD_none hf
 | true=>
  have hn:=h.num hf;have hw:IntKind.u16.wrap n=n:=by
   unfold IntKind.wrap;simp only[IntKind.bits,IntKind.signed,Bool.false_and];simp;omega
  have hl:(be 2 n).length=2:=by simp[be]
  rw[put4,if_pos hf,hw,numD_ok hf (by rw[List.length_append];omega),List.take_left' hl,List.drop_left' hl,be2_numD hn]
mutual
theorem dec_back:∀ (t:Term) (m:Nat) (left:Nat) (X:List UInt8),m≤60→(walkF t (61 - (m:Int)) (left:Int)).1=true→decT m left (bytesF t++X)=.ok (t,(walkF t (61 - (m:Int)) (left:Int)).2.toNat,X)
 | .mk k u n s ks,m,left,X=>by
  intro hm h;rw[walkF]at h⊢;split at h;cases h
  rename_i hc
  rw[if_neg hc];have hc':0 < left∧0 < m∧plainF k u n s ks.length=true:=by
   refine ⟨by omega,by omega,?_⟩;cases hp:plainF k u n s ks.length with
   | true=>rfl
   | false=>exact absurd (.inr (.inr hp)) hc
  obtain ⟨hl,hm0,hp⟩:=hc';have hok:=plain_ok hp;have hk:=fields_kind hok.kind;have hk8:=u8_natD (n:=k) (by omega);rw[bytesF,headF];simp only[List.append_assoc,qqE,qqF];rw[decT_cons,hk8,if_neg (by have:=hok.kind;omega)];have hkn:kidsN k=ks.length:=by
   have h1:=(kidsN_int k).1;have h2:=hok.kids;omega
  rw[show (61:Int) - (m:Int)+1=61 - ((m - 1:Nat):Int) from by omega,show (left:Int) - 1=((left - 1:Nat):Int) from by omega]at h⊢;refine decB_ok (text_back hok _) (user_back hok _) (num_back hok _) ?_;rw[hkn];exact decL_back ks (m - 1) (left - 1) X (by omega) h
theorem decL_back:∀ (ts:List Term) (m:Nat) (left:Nat) (X:List UInt8),m≤60→(walkLF ts (61 - (m:Int)) (left:Int)).1=true→kidsD (decT m) ts.length left (bytesLF ts++X)=.ok (ts,(walkLF ts (61 - (m:Int)) (left:Int)).2.toNat,X)
 | [],m,left,X=>by
  intro _ _;simp[kidsD,walkLF,bytesLF]
 | t::ts,m,left,X=>by
  intro hm h;rw[walkLF]at h⊢;split at h
  rename_i hc
  rw[if_pos hc];have h0:=walkF_ge t _ _ (by omega) hc;have e:(walkF t (61 - (m:Int)) (left:Int)).2=(((walkF t (61 - (m:Int)) (left:Int)).2.toNat:Nat):Int):=by omega
  rw[e]at h;have h1:=dec_back t m left (bytesLF ts++X) hm hc;have h2:=decL_back ts m _ X hm h;rw[bytesLF,List.append_assoc,qqA,kidsD,h1];simp only[h2];rw[←e];cases h
end
theorem dec_name {t:Term}(h:checkF t=0):∃ left,decT 60 1200 (nameF t)=.ok (t,left,[]):=by
 have hs:sizeF t≠0:=fun e=>by rw[checkF,if_pos e]at h;cases h
 have hw:(walkF t 1 1200).1=true:=by
  cases hw:(walkF t 1 1200).1 with
  | true=>rfl
  | false=>rw[sizeF,hw]at hs;simp at hs
 have:=dec_back t 60 1200 [] (Nat.le_refl _) hw;rw[List.append_nil]at this;rw[nameF,if_neg hs];exact ⟨_,this⟩
theorem numM2 (c d:UInt8):numN [c,d] 0=c.toNat*256+d.toNat:=by simp[numN];omega
theorem text_inv {k:Int}{bs s r:List UInt8}(h:textD k bs=.ok (s,r)):bs=put1 k s++r:=by
 cases hf:hasF (fieldsOf k) 1 with
 | false=>rw[textD_none hf]at h;cases h;rw[put1,hf];rfl
 | true=>
  match bs with
  | []=>rw[textD_nil hf]at h;cases h
  | c::bs=>
   by_cases h1:64 < c.toNat
   rw[textD_long hf h1]at h;cases h
   by_cases h2:bs.length < c.toNat
   rw[textD_short hf h1 h2]at h;cases h;rw[textD_ok hf h1 h2]at h;cases h;rw[put1,if_pos hf,List.length_take,Nat.min_eq_left (by omega),qqE,List.take_append_drop]
   congr 1
   rw[Wk.u8];refine UInt8.toNat.inj ?_;rw[UInt8.toNat_ofNat'];have:=UInt8.toNat_lt c;omega
theorem u8_back (c:UInt8):Wk.u8 ((c.toNat:Nat):Int)=c:=by
 rw[Wk.u8];refine UInt8.toNat.inj ?_;rw[UInt8.toNat_ofNat'];have:=UInt8.toNat_lt c;omega
theorem user_inv {k u:Int}{bs r:List UInt8}(h:userD k bs=.ok (u,r)):bs=put2 k u++r:=by
 cases hf:hasF (fieldsOf k) 2 with
 | false=>rw[userD_none hf]at h;cases h;rw[put2,hf];rfl
 | true=>
  match bs with
  | []=>rw[userD_nil hf]at h;cases h
  | c::bs=>
   by_cases h1:1≤c.toNat∧c.toNat≤6
   rw[userD_ok hf h1]at h;cases h;rw[put2,if_pos hf,u8_back];rfl;rw[userD_bad hf h1]at h;cases h
theorem be2_two (c d:UInt8):be 2 ((numN [c,d] 0:Nat):Int)=[c,d]:=by
 have e:∀ n:Int,be 2 n=[Wk.u8 (n.fdiv (2 ^ 8)),Wk.u8 (n.fdiv (2 ^ 0))]:=fun _=>rfl
 rw[e,numM2];have h1:=UInt8.toNat_lt c;have h2:=UInt8.toNat_lt d;have e1:((c.toNat*256+d.toNat:Nat):Int).fdiv (2 ^ 8)=((c.toNat:Nat):Int):=by
  rw[Int.fdiv_eq_ediv_of_nonneg _ (by decide)]
  show ((c.toNat*256+d.toNat:Nat):Int) / 256=_
  omega
 have e2:((c.toNat*256+d.toNat:Nat):Int).fdiv (2 ^ 0)=((c.toNat*256+d.toNat:Nat):Int):=by
  rw[Int.fdiv_eq_ediv_of_nonneg _ (by decide)]
  show ((c.toNat*256+d.toNat:Nat):Int) / 1=_
  omega
 rw[e1,e2,u8_back]
 congr 2
 rw[Wk.u8];refine UInt8.toNat.inj ?_;rw[UInt8.toNat_ofNat'];omega
theorem num_inv {k n:Int}{bs r:List UInt8}(h:numD k bs=.ok (n,r)):bs=put4 k n++r:=by
 cases hf:hasF (fieldsOf k) 4 with
 | false=>rw[numD_none hf]at h;cases h;rw[put4,hf];rfl
 | true=>
  match bs with
  | []=>rw[numD_bad hf (by simp)]at h;cases h
  | [c]=>rw[numD_bad hf (by simp)]at h;cases h
  | c::d::bs=>
   rw[numD_ok hf (by simp)]at h;cases h;have h1:=UInt8.toNat_lt c;have h2:=UInt8.toNat_lt d;rw[put4,if_pos hf]
   show c::d::bs=be 2 (IntKind.u16.wrap ((numN [c,d] 0:Nat):Int))++bs
   rw[wu16 _ (by rw[numM2];omega) (by rw[numM2];omega),be2_two];rfl
theorem kids_inv (f:Nat→List UInt8→DecE (Term × Nat × List UInt8))(hf:∀ left bs t l r,f left bs=.ok (t,l,r)→bs=bytesF t++r):∀ (j left:Nat) (bs:List UInt8) (ks:List Term) (l:Nat) (r:List UInt8),kidsD f j left bs=.ok (ks,l,r)→bs=bytesLF ks++r
 | 0,left,bs,ks,l,r,h=>by rw[kidsD]at h;cases h;rfl
 | j+1,left,bs,ks,l,r,h=>by
  rw[kidsD]at h;cases hx:f left bs with
  | error e=>rw[hx]at h;cases h
  | ok x=>
   obtain ⟨t,l1,b1⟩:=x;rw[hx]at h;simp only at h;cases hy:kidsD f j l1 b1 with
   | error e=>rw[hy]at h;cases h
   | ok y=>
    obtain ⟨ts,l2,b2⟩:=y;rw[hy]at h;cases h;rw[bytesLF,List.append_assoc,←kids_inv f hf j l1 b1 ts l r hy,←hf left bs t l1 b1 hx]
theorem dec_inv:∀ (m left:Nat) (bs:List UInt8) (t:Term) (l:Nat) (r:List UInt8),decT m left bs=.ok (t,l,r)→bs=bytesF t++r
 | m,_,[],_,_,_,h=>by rw[decT_nil]at h;cases h
 | 0,left,c::bs,t,l,r,h=>by rw[decT_cons,if_pos (.inl rfl)]at h;cases h
 | m+1,left,c::bs,t,l,r,h=>by
  rw[decT_cons]at h;split at h;cases h;rw[decB]at h;cases h1:textD (c.toNat:Int) bs with
  | error e=>rw[h1]at h;cases h
  | ok x1=>
   obtain ⟨s,b1⟩:=x1;rw[h1]at h;simp only at h;cases h2:userD (c.toNat:Int) b1 with
   | error e=>rw[h2]at h;cases h
   | ok x2=>
    obtain ⟨u,b2⟩:=x2;rw[h2]at h;simp only at h;cases h3:numD (c.toNat:Int) b2 with
    | error e=>rw[h3]at h;cases h
    | ok x3=>
     obtain ⟨n,b3⟩:=x3;rw[h3]at h;simp only at h;cases h4:kidsD (decT (m+1 - 1)) (kidsN (c.toNat:Int)) (left - 1) b3 with
     | error e=>rw[h4]at h;cases h
     | ok x4=>
      obtain ⟨ks,l4,b4⟩:=x4;rw[h4]at h;cases h;have h5:=kids_inv (decT (m+1 - 1)) (fun left bs t l r h=>dec_inv m left bs t l r h) _ _ _ _ _ _ h4;rw[bytesF,headF,u8_back,List.append_assoc,←h5];simp only[List.append_assoc];rw[←num_inv h3,←user_inv h2,←text_inv h1];rfl
structure PEv where
 kind:Int
 ok:Int
 ou:Int
 oname:List UInt8
 oo:Int
 og:Int
 ow:Bool
 body:Term
 name:List UInt8
 src:List UInt8
 term:Term
 user:Int
 node:Int
 num:Int
 keep:List Bool
abbrev zeroE:PEv:=⟨0,0,0,[],0,0,false,zeroT,[],[],zeroT,0,0,0,[]⟩
def numsE (x:PEv):List Int:=
 if x.kind=1 then [x.ok,x.ou,x.oo,x.og] else if x.kind=3 then [x.num] else if x.kind=4 then [x.user] else if x.kind=5 then [x.node,x.num] else if x.kind=6∨x.kind=7 then [x.node] else []
def spokenE (x:PEv):PEv:=
 if x.kind=1 then { zeroE with kind:=1,ok:=x.ok,ou:=x.ou,oo:=x.oo,og:=x.og,ow:=x.ow,oname:=x.oname,body:=x.body }
 else if x.kind=2 then { zeroE with kind:=2,name:=x.name,term:=x.term }
 else if x.kind=3 then { zeroE with kind:=3,name:=x.name,src:=x.src,num:=x.num }
 else if x.kind=4 then { zeroE with kind:=4,user:=x.user }
 else if x.kind=5 then { zeroE with kind:=5,node:=x.node,num:=x.num }
 else if x.kind=6 then { zeroE with kind:=6,node:=x.node,keep:=x.keep }
 else if x.kind=7 then { zeroE with kind:=7,node:=x.node }
 else { zeroE with kind:=x.kind }
def sameE (a b:PEv):Bool:=
 (decide (a.ok=b.ok)&&decide (a.ou=b.ou)&&decide (a.oname=b.oname)&&decide (a.oo=b.oo)&&decide (a.og=b.og)&&decide (a.ow=b.ow)&&sameF a.body b.body)&&
 (decide (a.kind=b.kind)&&decide (a.name=b.name)&&decide (a.src=b.src)&&decide (a.user=b.user)&&decide (a.node=b.node)&&decide (a.num=b.num))&&sameF a.term b.term&&decide (a.keep=b.keep)
theorem sameE_iff {a b:PEv} : sameE a b=true↔a=b:=by
 rw[show a=⟨a.kind,a.ok,a.ou,a.oname,a.oo,a.og,a.ow,a.body,a.name,a.src,a.term,a.user,a.node,a.num,a.keep⟩ from rfl,show b=⟨b.kind,b.ok,b.ou,b.oname,b.oo,b.og,b.ow,b.body,b.name,b.src,b.term,b.user,b.node,b.num,b.keep⟩ from rfl];simp only[sameE,Bool.and_eq_true,decide_eq_true_eq,sameF_iff,PEv.mk.injEq];constructor;rintro ⟨⟨⟨⟨⟨⟨⟨⟨⟨a1,a2⟩,a3⟩,a4⟩,a5⟩,a6⟩,a7⟩,⟨⟨⟨⟨⟨b1,b2⟩,b3⟩,b4⟩,b5⟩,b6⟩⟩,c1⟩,c2⟩;exact ⟨b1,a1,a2,a3,a4,a5,a6,a7,b2,b3,c1,b4,b5,b6,c2⟩;rintro ⟨b1,a1,a2,a3,a4,a5,a6,a7,b2,b3,c1,b4,b5,b6,c2⟩;exact ⟨⟨⟨⟨⟨⟨⟨⟨⟨a1,a2⟩,a3⟩,a4⟩,a5⟩,a6⟩,a7⟩,⟨⟨⟨⟨⟨b1,b2⟩,b3⟩,b4⟩,b5⟩,b6⟩⟩,c1⟩,c2⟩
instance:DecidableEq PEv:=fun _ _=>decidable_of_iff _ sameE_iff
def badT (t:Term):Bool:=!sameF t zeroT&&!decide (checkF t=0)
def wrongV (x:PEv):Bool:=
 (decide (x.kind < 1)||decide (7 < x.kind)||decide (2048 < x.keep.length))||(decide (64 < x.name.length)||decide (64 < x.src.length)||decide (64 < x.oname.length))||badT x.term||badT x.body||!sameE x (spokenE x)
def checkE (l:List PEv):Bool:=decide (l.length≤300)&&!(l.any wrongV)
def dig16 (n:Nat):UInt8:=if n < 10 then UInt8.ofNat (48+n) else UInt8.ofNat (87+n)
def hexB (c:UInt8):List UInt8:=[dig16 (c.toNat / 16),dig16 (c.toNat % 16)]
def quoteC (c:UInt8):List UInt8:=if c=34∨c=92 then [92,c] else if c.toNat < 32∨126 < c.toNat then 92::120::hexB c else [c]
def quoteE (s:List UInt8):List UInt8:=34::(s.flatMap quoteC++[34])
def encT (t:Term):List UInt8:=if checkF t=0 then (nameF t).flatMap hexB else [45]
def bitB (b:Bool):UInt8:=if b then 49 else 48
def bitsE (l:List Bool):List UInt8:=61::l.map bitB
abbrev wDo:List UInt8:=[100,111]
abbrev wPut:List UInt8:=[112,117,116]
abbrev wBring:List UInt8:=[98,114,105,110,103]
abbrev wCorrupt:List UInt8:=[99,111,114,114,117,112,116]
abbrev wArm:List UInt8:=[97,114,109]
abbrev wCrash:List UInt8:=[99,114,97,115,104]
abbrev wOpen:List UInt8:=[111,112,101,110]
abbrev wWorld:List UInt8:=[119,111,114,108,100]
def wordsE:List (List UInt8):=[[],wDo,wPut,wBring,wCorrupt,wArm,wCrash,wOpen]
def wordE (k:Int):List UInt8:=wordsE.getD k.toNat []
def partsE (x:PEv):List (List UInt8):=
 (numsE x).map Lib.itoa++(if x.kind=1 then [Lib.itoa (if x.ow then 1 else 0),quoteE x.oname,encT x.body] else if x.kind=2 then [quoteE x.name,encT x.term] else if x.kind=3 then [quoteE x.name,quoteE x.src] else if x.kind=6 then [bitsE x.keep] else [])
def lineB (x:PEv):List UInt8:=wordE x.kind++(partsE x).flatMap (fun p=>32::p)
def lineE (x:PEv):List UInt8:=lineB x++[10]
def headE (area:Int):List UInt8:=wWorld++32::Lib.itoa area
def printF (area:Int)(l:List PEv):List UInt8:=headE area++[10]++l.flatMap lineE
def cutB (c:UInt8):List UInt8→List UInt8 × Option (List UInt8)
 | []=>([],none)
 | x::xs=>if x=c then ([],some xs) else (x::(cutB c xs).1,(cutB c xs).2)
theorem cutB_none {c:UInt8} : ∀ {l s:List UInt8},cutB c l=(s,none)↔l=s∧c ∉ s
 | [],s=>by
  simp only[cutB,Prod.mk.injEq,and_true];exact ⟨fun h=>by subst h;simp,fun h=>h.1⟩
 | x::xs,s=>by
  rw[cutB];split
  rename_i h;subst h
  simp only[Prod.mk.injEq,reduceCtorEq,and_false,false_iff];rintro ⟨rfl,h⟩;simp at h
  rename_i h
  have ih:=@cutB_none c xs (cutB c xs).1;simp only[Prod.mk.injEq];constructor;rintro ⟨rfl,h2⟩;obtain ⟨h3,h4⟩:=ih.1 (Prod.ext rfl h2);exact ⟨by rw[←h3],by simp only[List.mem_cons,not_or];exact ⟨fun e=>h e.symm,h4⟩⟩;rintro ⟨rfl,h3⟩;simp only[List.mem_cons,not_or]at h3;have:=(@cutB_none c xs xs).2 ⟨rfl,h3.2⟩;rw[this];exact ⟨rfl,rfl⟩
theorem cutB_some {c:UInt8} : ∀ {l s r:List UInt8},cutB c l=(s,some r)↔l=s++c::r∧c ∉ s
 | [],s,r=>by simp[cutB]
 | x::xs,s,r=>by
  rw[cutB];split
  rename_i h;subst h
  simp only[Prod.mk.injEq,Option.some.injEq];constructor;rintro ⟨rfl,rfl⟩;exact ⟨rfl,by simp⟩;rintro ⟨h1,h2⟩;cases s with
  | nil=>simp at h1;exact ⟨rfl,h1⟩
  | cons y ys=>simp at h1;exact absurd (by rw[h1.1];simp) h2
  rename_i h
  simp only[Prod.mk.injEq];constructor;rintro ⟨rfl,h2⟩;obtain ⟨h3,h4⟩:=(@cutB_some c xs (cutB c xs).1 r).1 (Prod.ext rfl h2);exact ⟨by rw[qqE,←h3],by simp only[List.mem_cons,not_or];exact ⟨fun e=>h e.symm,h4⟩⟩;rintro ⟨h1,h3⟩;cases s with
  | nil=>simp at h1;exact absurd h1.1 h
  | cons y ys=>
   simp only[qqE,List.cons.injEq]at h1;simp only[List.mem_cons,not_or]at h3;have:=(@cutB_some c xs ys r).2 ⟨h1.2,h3.2⟩;rw[this,h1.1];exact ⟨rfl,rfl⟩
def tailE (r:List UInt8):List UInt8:=if r=[] then [] else 32::r
abbrev PA (α:Type):=List UInt8→Option (α × List UInt8)
def blankP:PA (List UInt8):=fun l=>match cutB 32 l with
 | (s,none)=>some (s,[])
 | (s,some r)=>if r=[] then none else some (s,r)
theorem blankP_iff {l s r:List UInt8} : blankP l=some (s,r)↔l=s++tailE r∧(32:UInt8) ∉ s:=by
 unfold blankP
 match h:cutB 32 l with
 | (s',none)=>
  obtain ⟨h1,h2⟩:=cutB_none.1 h;simp only[Option.some.injEq,Prod.mk.injEq];constructor;rintro ⟨rfl,rfl⟩;exact ⟨by simp[tailE,h1],h2⟩;rintro ⟨h3,h4⟩
  by_cases hr:r=[]
  subst hr;simp[tailE]at h3;exact ⟨by rw[←h1,h3],rfl⟩;rw[tailE,if_neg hr]at h3;exact absurd (by rw[←h1,h3];simp) h2
 | (s',some r')=>
  obtain ⟨h1,h2⟩:=cutB_some.1 h
  by_cases hr:r'=[]
  subst hr;simp only[if_pos];refine ⟨nofun,fun ⟨h3,h4⟩=>?_⟩
  by_cases hr2:r=[]
  subst hr2;simp[tailE]at h3;exact absurd (by rw[←h3,h1];simp) h4;rw[tailE,if_neg hr2]at h3;have h5:=(cutB_some (c:=32) (l:=l) (s:=s) (r:=r)).2 ⟨h3,h4⟩;rw[h]at h5;simp only[Prod.mk.injEq,Option.some.injEq]at h5;exact absurd h5.2.symm hr2;simp only[if_neg hr,Option.some.injEq,Prod.mk.injEq];constructor;rintro ⟨rfl,rfl⟩;exact ⟨by rw[tailE,if_neg hr,h1],h2⟩;rintro ⟨h3,h4⟩
  by_cases hr2:r=[]
  subst hr2;simp[tailE]at h3;exact absurd (by rw[←h3,h1];simp) h4;rw[tailE,if_neg hr2]at h3;have h5:=(cutB_some (c:=32) (l:=l) (s:=s) (r:=r)).2 ⟨h3,h4⟩;rw[h]at h5;simp only[Prod.mk.injEq,Option.some.injEq]at h5;exact h5
def okN:Lib.NumEnd Int→Option Int
 | .ok v=>some v
 | _=>none
def numV (s:List UInt8):Option Int:=match okN (Lib.atoiAll s) with
 | some n=>if Lib.itoa n=s then some n else none
 | none=>none
def N64 (n:Int):Prop:=-9223372036854775808≤n∧n≤9223372036854775807
theorem parse_decS:∀ (N u:Nat) (r:List UInt8),u≤N→u < 18446744073709551616→Lib.parseUint10 0 (Lib.decDigits u++r)=Lib.parseUint10 u r:=by
 intro N
 induction N with
 | zero=>
  intro u r hu _;obtain rfl:u=0:=by omega
  rw[Lib.decDigits,dif_pos (by omega)]
  show Lib.parseUint10 0 (UInt8.ofNat 48::r)=_
  rw[Lib.parseUint10];rfl
 | succ N ih=>
  intro u r hu hb;have hd:∀ d:Nat,d < 10→(UInt8.ofNat (48+d)).toNat=48+d:=fun d hd=>by rw[UInt8.toNat_ofNat_of_lt' (by show 48+d < 256;omega)]
  rw[Lib.decDigits];split
  ·rename_i h
   show Lib.parseUint10 0 (UInt8.ofNat (48+u)::r)=_
   rw[Lib.parseUint10,hd u h,if_pos (by omega),if_neg (by omega),if_neg (by omega)]
   congr 1;omega
  ·rename_i h
   rw[List.append_assoc,ih (u / 10) _ (by omega) (by omega)]
   show Lib.parseUint10 (u / 10) (UInt8.ofNat (48+u % 10)::r)=_
   rw[Lib.parseUint10,hd (u % 10) (by omega),if_pos (by omega),if_neg (by omega),if_neg (by omega)]
   congr 1;omega
theorem dec_digS:∀ (N u:Nat),u≤N→(∃ c r,Lib.decDigits u=c::r)∧∀ x∈Lib.decDigits u,48≤x.toNat∧x.toNat≤57:=by
 intro N
 induction N with
 | zero=>
  intro u hu;obtain rfl:u=0:=by omega
  rw[Lib.decDigits,dif_pos (by omega)];exact ⟨⟨_,_,rfl⟩,by decide⟩
 | succ N ih=>
  intro u hu;have hd:∀ d:Nat,d < 10→(UInt8.ofNat (48+d)).toNat=48+d:=fun d hd=>by rw[UInt8.toNat_ofNat_of_lt' (by show 48+d < 256;omega)]
  rw[Lib.decDigits];split
  ·rename_i h
   refine ⟨⟨_,_,rfl⟩,fun x hx=>?_⟩;rw[List.mem_singleton.1 hx,hd u h];omega
  ·rename_i h
   obtain ⟨⟨c,r,h1⟩,h2⟩:=ih (u / 10) (by omega);refine ⟨⟨c,r++[UInt8.ofNat (48+u % 10)],by rw[h1];rfl⟩,fun x hx=>?_⟩;rcases List.mem_append.1 hx with hx | hx
   ·exact h2 x hx
   ·rw[List.mem_singleton.1 hx,hd _ (by omega)];omega
theorem mag_dec {u:Nat}(hu:u < 18446744073709551616):Lib.parseMag (Lib.decDigits u)=.ok u:=by
 obtain ⟨⟨c,r,h1⟩,-⟩:=dec_digS u u (Nat.le_refl _);have hp:=parse_decS u u [] (Nat.le_refl _) hu;rw[List.append_nil,Lib.parseUint10]at hp;rw[Lib.parseMag,if_neg (by rw[h1];simp),hp]
theorem atoi_all {n:Int}(h:N64 n):Lib.atoiAll (Lib.itoa n)=.ok n:=by
 obtain ⟨h1,h2⟩:=h
 by_cases hn:n < 0
 have e:Lib.itoa n=45::Lib.decDigits n.natAbs:=by rw[Lib.itoa,if_pos hn]
 have hm:=mag_dec (u:=n.natAbs) (by omega);have hb:¬9223372036854775808 < n.natAbs:=by omega
 rw[e];simp only[Lib.atoiAll,show (45:UInt8).toNat=45 from rfl,or_true,if_true,hm,not_true_eq_false,false_and,if_false,true_and,hb]
 congr 1;omega
 have e:Lib.itoa n=Lib.decDigits n.toNat:=by rw[Lib.itoa,if_neg hn]
 obtain ⟨⟨c,r,h3⟩,h4⟩:=dec_digS n.toNat n.toNat (Nat.le_refl _);have h5:=h4 c (by rw[h3];simp);have hm:=mag_dec (u:=n.toNat) (by omega);rw[h3]at hm;have hc:¬(c.toNat=43∨c.toNat=45):=by omega
 have hc2:¬c.toNat=45:=by omega
 have hc1:¬c.toNat=43:=by omega
 have hb:¬9223372036854775808≤n.toNat:=by omega
 rw[e,h3];simp only[Lib.atoiAll,hc1,hc2,or_self,if_false,hm,not_false_eq_true,true_and,false_and,hb]
 congr 1;omega
theorem itoa_blank (n:Int):(32:UInt8) ∉ Lib.itoa n∧(10:UInt8) ∉ Lib.itoa n∧Lib.itoa n≠[]:=by
 obtain ⟨⟨c,r,h3⟩,h4⟩:=dec_digS n.natAbs n.natAbs (Nat.le_refl _);obtain ⟨⟨c',r',h3'⟩,h4'⟩:=dec_digS n.toNat n.toNat (Nat.le_refl _);rw[Lib.itoa];split;refine ⟨fun h=>?_,fun h=>?_,by simp⟩;rcases List.mem_cons.1 h with h | h
 cases h;have:=(h4 _ h).1;simp at this;rcases List.mem_cons.1 h with h | h
 cases h;have:=(h4 _ h).1;simp at this;refine ⟨fun h=>?_,fun h=>?_,by rw[h3'];simp⟩;have:=(h4' _ h).1;simp at this;have:=(h4' _ h).1;simp at this
theorem atoi_i64 {s:List UInt8}{n:Int}(h:okN (Lib.atoiAll s)=some n):N64 n:=by
 unfold Lib.atoiAll at h;cases s with
 | nil=>cases h
 | cons c r=>
  simp only at h;split at h;cases h;cases h
  rename_i u hu
  have hl:=Lib.parseMag_lt hu;split at h;cases h;split at h;cases h;simp only[okN,Option.some.injEq]at h;split at h <;> unfold N64 <;> omega
theorem numV_iff {s:List UInt8}{n:Int} : numV s=some n↔s=Lib.itoa n∧N64 n:=by
 unfold numV;constructor;intro h;split at h
 rename_i m hm
 split at h
 rename_i he
 cases h;exact ⟨he.symm,atoi_i64 hm⟩;cases h;cases h;rintro ⟨rfl,h⟩;rw[atoi_all h];simp[okN]
def numberP:PA Int:=fun l=>match blankP l with
 | some (s,r)=>(numV s).map fun n=>(n,r)
 | none=>none
theorem numberP_iff {l r:List UInt8}{n:Int} : numberP l=some (n,r)↔l=Lib.itoa n++tailE r∧N64 n:=by
 unfold numberP;constructor;intro h
 match hb:blankP l with
 | none=>rw[hb]at h;cases h
 | some (s,r')=>
  rw[hb]at h;simp only[Option.map_eq_some_iff,Prod.mk.injEq]at h;obtain ⟨m,h1,rfl,rfl⟩:=h;obtain ⟨h2,h3⟩:=numV_iff.1 h1;rw[(blankP_iff.1 hb).1,h2];exact ⟨rfl,h3⟩
 rintro ⟨rfl,h⟩;rw[blankP_iff.2 ⟨rfl,(itoa_blank n).1⟩];simp only[numV_iff.2 ⟨rfl,h⟩,Option.map_some]
def unhexC (c:UInt8):Option Nat:=if 48≤c.toNat∧c.toNat≤57 then some (c.toNat - 48) else if 97≤c.toNat∧c.toNat≤102 then some (c.toNat - 87) else none
theorem u8_of {a:UInt8}{n:Nat}(h:a.toNat=n):a=UInt8.ofNat n:=by rw[←h];simp
theorem dig_nat {n:Nat}(h:n < 16):(dig16 n).toNat=if n < 10 then 48+n else 87+n:=by
 unfold dig16;split;rw[UInt8.toNat_ofNat_of_lt' (by show 48+n < 256;omega)];rw[UInt8.toNat_ofNat_of_lt' (by show 87+n < 256;omega)]
theorem unhexC_iff {c:UInt8}{n:Nat} : unhexC c=some n↔n < 16∧c=dig16 n:=by
 unfold unhexC;constructor;intro h;split at h
 rename_i h1
 cases h;refine ⟨by omega,?_⟩;rw[dig16,if_pos (by omega)];exact u8_of (by omega);split at h;cases h;refine ⟨by omega,?_⟩;rw[dig16,if_neg (by omega)];exact u8_of (by omega);cases h;rintro ⟨h,rfl⟩;rw[dig_nat h]
 by_cases h1:n < 10
 rw[if_pos h1,if_pos (by omega)];congr 1;omega;rw[if_neg h1,if_neg (by omega),if_pos (by omega)];congr 1;omega
theorem hex_byte {x y:Nat}(hx:x < 16)(hy:y < 16):hexB (UInt8.ofNat (16*x+y))=[dig16 x,dig16 y]:=by
 unfold hexB;rw[UInt8.toNat_ofNat_of_lt' (by show 16*x+y < 256;omega),show (16*x+y) / 16=x from by omega,show (16*x+y) % 16=y from by omega]
theorem byte_hex (c:UInt8):unhexC (dig16 (c.toNat / 16))=some (c.toNat / 16)∧unhexC (dig16 (c.toNat % 16))=some (c.toNat % 16)∧UInt8.ofNat (16*(c.toNat / 16)+c.toNat % 16)=c:=by
 have hc:c.toNat < 256:=c.toNat_lt;refine ⟨unhexC_iff.2 ⟨by omega,rfl⟩,unhexC_iff.2 ⟨by omega,rfl⟩,?_⟩;rw[show 16*(c.toNat / 16)+c.toNat % 16=c.toNat from by omega];simp
def unhex:List UInt8→Option (List UInt8)
 | []=>some []
 | [_]=>none
 | a::b::r=>match unhexC a,unhexC b with
  | some x,some y=>(unhex r).map fun l=>UInt8.ofNat (16*x+y)::l
  | _,_=>none
theorem unhex_iff:∀ {s b:List UInt8},unhex s=some b↔s=b.flatMap hexB
 | [],b=>by
  rw[unhex];constructor;intro h;cases h;rfl;intro h;cases b with
  | nil=>rfl
  | cons c b=>simp[hexB]at h
 | [a],b=>by
  rw[unhex];refine ⟨nofun,fun h=>?_⟩;cases b with
  | nil=>cases h
  | cons c b=>simp[hexB]at h
 | a::a2::r,b=>by
  rw[unhex];constructor;intro h
  match h1:unhexC a,h2:unhexC a2 with
  | some x,some y=>
   rw[h1,h2]at h;simp only[Option.map_eq_some_iff]at h;obtain ⟨l,h3,rfl⟩:=h;obtain ⟨k1,rfl⟩:=unhexC_iff.1 h1;obtain ⟨k2,rfl⟩:=unhexC_iff.1 h2;rw[List.flatMap_cons,hex_byte k1 k2,←unhex_iff.1 h3];rfl
  | none,_=>rw[h1]at h;cases h
  | some x,none=>rw[h1,h2]at h;cases h
  intro h;cases b with
  | nil=>cases h
  | cons c b=>
   rw[List.flatMap_cons,hexB]at h;simp only[qqE,qqF,List.cons.injEq]at h;obtain ⟨rfl,rfl,h3⟩:=h;obtain ⟨q1,q2,q3⟩:=byte_hex c;rw[q1,q2,unhex_iff.2 h3];simp only[Option.map_some,q3]
def scanN:List UInt8→Option (List UInt8 × List UInt8)
 | []=>none
 | c::r=>
  if c=34 then some ([],r)
  else if c=92 then
   match r with
   | []=>none
   | d::r2=>
    if d=120 then
     match r2 with
     | a::b::r3=>match unhexC a,unhexC b with
      | some x,some y=>(scanN r3).map fun p=>(UInt8.ofNat (16*x+y)::p.1,p.2)
      | _,_=>none
     | _=>none
    else (scanN r2).map fun p=>(d::p.1,p.2)
  else (scanN r).map fun p=>(c::p.1,p.2)
theorem scanN_cons (c:UInt8)(r:List UInt8):scanN (c::r)=if c=34 then some ([],r)
  else if c=92 then
   match r with
   | []=>none
   | d::r2=>
    if d=120 then
     match r2 with
     | a::b::r3=>match unhexC a,unhexC b with
      | some x,some y=>(scanN r3).map fun p=>(UInt8.ofNat (16*x+y)::p.1,p.2)
      | _,_=>none
     | _=>none
    else (scanN r2).map fun p=>(d::p.1,p.2)
  else (scanN r).map fun p=>(c::p.1,p.2):=by rw[scanN.eq_def]
theorem scan_quote (r:List UInt8):∀ s:List UInt8,scanN (s.flatMap quoteC++34::r)=some (s,r)
 | []=>by rw[List.flatMap_nil,qqF,scanN_cons,if_pos rfl]
 | c::s=>by
  have ih:=scan_quote r s;rw[List.flatMap_cons,List.append_assoc,quoteC]
  by_cases h1:c=34∨c=92
  rw[if_pos h1,qqE,qqE,qqF,scanN_cons,if_neg (by decide),if_pos rfl];have h2:¬c=120:=by rcases h1 with rfl | rfl <;> decide
  simp only[if_neg h2,ih,Option.map_some];rw[if_neg h1]
  by_cases h2:c.toNat < 32∨126 < c.toNat
  obtain ⟨q1,q2,q3⟩:=byte_hex c;rw[if_pos h2,hexB,qqE,qqE,qqE,qqE,qqF,scanN_cons,if_neg (by decide),if_pos rfl];simp only[if_pos,q1,q2,ih,Option.map_some,q3];rw[if_neg h2,qqE,qqF,scanN_cons,if_neg (fun h=>h1 (.inl h)),if_neg (fun h=>h1 (.inr h)),ih];rfl
def nameP:PA (List UInt8)
 | []=>none
 | c::s=>if c=34 then (match scanN s with
   | some (b,r)=>if c::s=quoteE b++r then (match r with
    | []=>some (b,[])
    | d::r2=>if d=32∧r2≠[] then some (b,r2) else none) else none
   | none=>none) else none
theorem nameP_iff {l b r:List UInt8} : nameP l=some (b,r)↔l=quoteE b++tailE r:=by
 cases l with
 | nil=>simp[nameP,quoteE]
 | cons c s=>
  rw[nameP];constructor;intro h;split at h;split at h
  rename_i b2 r2 hs
  split at h
  rename_i he
  split at h;cases h;rw[he];rfl
  rename_i d r3
  split at h
  rename_i hd
  cases h;rw[he,tailE,if_neg hd.2,hd.1];cases h;cases h;cases h;cases h;intro h;have h1:c=34∧s=b.flatMap quoteC++34::tailE r:=by
   rw[quoteE]at h;simp only[qqE,List.append_assoc,qqF,List.cons.injEq]at h;exact h
  obtain ⟨rfl,rfl⟩:=h1;rw[if_pos rfl,scan_quote];simp only[h,if_true]
  by_cases hr:r=[]
  subst hr;simp[tailE];have ht:tailE r=32::r:=by rw[tailE,if_neg hr]
  rw[ht];simp only[true_and,if_pos hr,ne_eq]
def termV (s:List UInt8):Option Term:=if s=[45] then some zeroT else match unhex s with
 | none=>none
 | some b=>match decT 60 1200 b with
  | .ok (t,_,r)=>if r=[] then some t else none
  | .error _=>none
theorem check_zeroT:checkF zeroT≠0:=by decide
theorem termV_sound {s:List UInt8}{t:Term}(h:termV s=some t)(hb:badT t=false):s=encT t:=by
 unfold termV at h;split at h
 rename_i h1
 cases h;rw[h1,encT,if_neg check_zeroT];split at h;cases h
 rename_i b hu
 split at h
 rename_i t2 l2 r2 hd
 split at h
 rename_i hr
 cases h;subst hr;have h2:=dec_inv _ _ _ _ _ _ hd;rw[List.append_nil]at h2;have hz:t≠zeroT:=by
  rintro rfl;rw[h2]at hd;exact absurd hd (by
   intro h3;rw[show bytesF zeroT=[0] from rfl,decT_cons,if_pos (.inr (.inl rfl))]at h3;cases h3)
 have hc:checkF t=0:=by
  simp only[badT,Bool.and_eq_false_iff,Bool.not_eq_false',sameF_iff,decide_eq_true_eq]at hb;exact hb.resolve_left hz
 rw[encT,if_pos hc,nameF,if_neg (good_check.1 hc),←h2];exact unhex_iff.1 hu;cases h;cases h
theorem hex_len (l:List UInt8):(l.flatMap hexB).length=2*l.length:=by
 induction l with
 | nil=>rfl
 | cons c l ih=>rw[List.flatMap_cons,List.length_append,ih];simp[hexB];omega
theorem termV_complete {t:Term}(hb:badT t=false):termV (encT t)=some t:=by
 by_cases hc:checkF t=0
 obtain ⟨left,hd⟩:=dec_name hc;rw[encT,if_pos hc,termV,if_neg (fun h=>by have:=congrArg List.length h;rw[hex_len]at this;simp at this;omega),unhex_iff.2 rfl];simp only[hd,if_true];have hz:t=zeroT:=by
  simp only[badT,Bool.and_eq_false_iff,Bool.not_eq_false',sameF_iff,decide_eq_true_eq]at hb;exact hb.resolve_right hc
 rw[encT,if_neg hc,termV,if_pos rfl,hz]
theorem dig_ok {n:Nat}(h:n < 16):dig16 n≠32∧dig16 n≠10:=by
 have:=dig_nat h;constructor;intro e;rw[e]at this;split at this <;> simp at this <;> omega
 intro e;rw[e]at this;split at this <;> simp at this <;> omega
theorem hex_ok (l:List UInt8):(32:UInt8) ∉ l.flatMap hexB∧(10:UInt8) ∉ l.flatMap hexB:=by
 have h:∀ x∈l.flatMap hexB,x≠32∧x≠10:=fun x hx=>by
  obtain ⟨c,-,hc⟩:=List.mem_flatMap.1 hx;have hl:=c.toNat_lt;simp only[hexB,List.mem_cons,List.not_mem_nil,or_false]at hc;rcases hc with rfl | rfl
  exact dig_ok (by omega);exact dig_ok (by omega)
 exact ⟨fun hx=>(h _ hx).1 rfl,fun hx=>(h _ hx).2 rfl⟩
theorem encT_ok (t:Term):(32:UInt8) ∉ encT t∧(10:UInt8) ∉ encT t∧encT t≠[]:=by
 unfold encT;split
 rename_i hc
 refine ⟨(hex_ok _).1,(hex_ok _).2,fun h=>?_⟩;have h1:=congrArg List.length h;rw[hex_len]at h1;obtain ⟨left,hd⟩:=dec_name hc;have h2:nameF t=[]:=List.length_eq_zero_iff.1 (by simp only[qqB]at h1;omega);rw[h2,decT_nil]at hd;cases hd;exact ⟨by decide,by decide,by simp⟩
theorem quoteE_ok (s:List UInt8):(10:UInt8) ∉ quoteE s∧quoteE s≠[]:=by
 refine ⟨fun h=>?_,by simp[quoteE]⟩;rw[quoteE]at h;simp only[List.mem_cons,List.mem_append,List.not_mem_nil,or_false]at h;rcases h with h | h | h
 cases h;obtain ⟨c,-,hc⟩:=List.mem_flatMap.1 h;have hl:=c.toNat_lt;rw[quoteC]at hc;split at hc
 rename_i h1
 simp only[List.mem_cons,List.not_mem_nil,or_false]at hc;rcases hc with hc | rfl
 cases hc;rcases h1 with h1 | h1 <;> cases h1
 split at hc;simp only[hexB,List.mem_cons,List.not_mem_nil,or_false]at hc;rcases hc with hc | hc | hc | hc
 cases hc;cases hc;exact (dig_ok (by omega)).2 hc.symm;exact (dig_ok (by omega)).2 hc.symm
 rename_i h2
 rw[←List.mem_singleton.1 hc]at h2;exact h2 (.inl (by decide));cases h
def termP:PA Term:=fun l=>match blankP l with
 | some (s,r)=>(termV s).map fun t=>(t,r)
 | none=>none
theorem termP_sound {l r:List UInt8}{t:Term}(h:termP l=some (t,r))(hb:badT t=false):l=encT t++tailE r:=by
 unfold termP at h
 match hl:blankP l with
 | none=>rw[hl]at h;cases h
 | some (s,r2)=>
  rw[hl]at h;simp only[Option.map_eq_some_iff,Prod.mk.injEq]at h;obtain ⟨t2,h1,rfl,rfl⟩:=h;rw[(blankP_iff.1 hl).1,termV_sound h1 hb]
theorem termP_complete {t:Term}(hb:badT t=false)(r:List UInt8):termP (encT t++tailE r)=some (t,r):=by
 rw[termP,blankP_iff.2 ⟨rfl,(encT_ok t).1⟩];simp only[termV_complete hb,Option.map_some]
def allBits:List UInt8→Option (List Bool)
 | []=>some []
 | c::r=>if c=48∨c=49 then (allBits r).map fun l=>decide (c=49)::l else none
theorem allBits_iff:∀ {s:List UInt8} {k:List Bool},allBits s=some k↔s=k.map bitB
 | [],k=>by
  rw[allBits];constructor;intro h;cases h;rfl;intro h;cases k with
  | nil=>rfl
  | cons _ _=>cases h
 | c::r,k=>by
  rw[allBits];constructor;intro h;split at h
  rename_i hc
  simp only[Option.map_eq_some_iff]at h;obtain ⟨l,h1,rfl⟩:=h;rw[allBits_iff.1 h1];rcases hc with rfl | rfl <;> rfl
  cases h;intro h;cases k with
  | nil=>cases h
  | cons b k=>
   simp only[List.map_cons,List.cons.injEq]at h;obtain ⟨rfl,h2⟩:=h;rw[if_pos (by cases b <;> decide),allBits_iff.2 h2];cases b <;> rfl
def bitsV:List UInt8→Option (List Bool)
 | []=>none
 | c::s=>if c=61 then allBits s else none
theorem bitsV_iff {s:List UInt8}{k:List Bool} : bitsV s=some k↔s=bitsE k:=by
 cases s with
 | nil=>simp[bitsV,bitsE]
 | cons c s=>
  rw[bitsV,bitsE];constructor;intro h;split at h
  rename_i hc;rw[hc,allBits_iff.1 h]
  cases h;intro h;simp only[List.cons.injEq]at h;rw[if_pos h.1,allBits_iff.2 h.2]
theorem bitsE_ok (k:List Bool):(32:UInt8) ∉ bitsE k∧(10:UInt8) ∉ bitsE k∧bitsE k≠[]:=by
 have h:∀ x∈bitsE k,x≠32∧x≠10:=fun x hx=>by
  rcases List.mem_cons.1 hx with rfl | hx
  decide
  obtain ⟨b,-,rfl⟩:=List.mem_map.1 hx;cases b <;> decide
 exact ⟨fun hx=>(h _ hx).1 rfl,fun hx=>(h _ hx).2 rfl,by simp[bitsE]⟩
def bitsP:PA (List Bool):=fun l=>match blankP l with
 | some (s,r)=>(bitsV s).map fun t=>(t,r)
 | none=>none
theorem bitsP_iff {l r:List UInt8}{k:List Bool} : bitsP l=some (k,r)↔l=bitsE k++tailE r:=by
 unfold bitsP;constructor;intro h
 match hl:blankP l with
 | none=>rw[hl]at h;cases h
 | some (s,r2)=>
  rw[hl]at h;simp only[Option.map_eq_some_iff,Prod.mk.injEq]at h;obtain ⟨t2,h1,rfl,rfl⟩:=h;rw[(blankP_iff.1 hl).1,bitsV_iff.1 h1]
 rintro rfl;rw[blankP_iff.2 ⟨rfl,(bitsE_ok k).1⟩];simp only[bitsV_iff.2 rfl,Option.map_some]
def bnd {α β:Type}(p:Option (α × List UInt8))(f:α→List UInt8→Option β):Option β:=match p with
 | some (a,r)=>f a r
 | none=>none
theorem bnd_iff {α β:Type}{p:Option (α × List UInt8)}{f:α→List UInt8→Option β}{b:β} : bnd p f=some b↔∃ a r,p=some (a,r)∧f a r=some b:=by
 unfold bnd;cases p with
 | none=>simp
 | some q=>
  obtain ⟨a,r⟩:=q;simp only[Option.some.injEq,Prod.mk.injEq];exact ⟨fun h=>⟨a,r,⟨rfl,rfl⟩,h⟩,fun ⟨_,_,⟨h1,h2⟩,h3⟩=>by rw[h1,h2];exact h3⟩
theorem bnd_some {α β:Type}{a:α}{r:List UInt8}{f:α→List UInt8→Option β} : bnd (some (a,r)) f=f a r:=rfl
def kindW (w:List UInt8):Int:=if w=wDo then 1 else if w=wPut then 2 else if w=wBring then 3 else if w=wCorrupt then 4 else if w=wArm then 5 else if w=wCrash then 6 else if w=wOpen then 7 else 0
def evBody (k:Int)(l:List UInt8):Option (PEv × List UInt8):=
 if k=1 then bnd (numberP l) fun a l=>bnd (numberP l) fun b l=>bnd (numberP l) fun c l=>bnd (numberP l) fun d l=>bnd (numberP l) fun w l=>if w=0∨w=1 then bnd (nameP l) fun s l=>bnd (termP l) fun t l=>some ({ zeroE with kind:=1,ok:=a,ou:=b,oo:=c,og:=d,ow:=decide (w=1),oname:=s,body:=t },l) else none
 else if k=2 then bnd (nameP l) fun s l=>bnd (termP l) fun t l=>some ({ zeroE with kind:=2,name:=s,term:=t },l)
 else if k=3 then bnd (numberP l) fun n l=>bnd (nameP l) fun s l=>bnd (nameP l) fun t l=>some ({ zeroE with kind:=3,name:=s,src:=t,num:=n },l)
 else if k=4 then bnd (numberP l) fun n l=>some ({ zeroE with kind:=4,user:=n },l)
 else if k=5 then bnd (numberP l) fun n l=>bnd (numberP l) fun m l=>some ({ zeroE with kind:=5,node:=n,num:=m },l)
 else if k=6 then bnd (numberP l) fun n l=>bnd (bitsP l) fun b l=>some ({ zeroE with kind:=6,node:=n,keep:=b },l)
 else if k=7 then bnd (numberP l) fun n l=>some ({ zeroE with kind:=7,node:=n },l)
 else some ({ zeroE with kind:=k },l)
def evP (w l:List UInt8):Option (PEv × List UInt8):=match evBody (kindW w) l with
 | some (x,r)=>if wrongV x=true then none else some (x,r)
 | none=>none
def seqE:List (List UInt8)→List UInt8→List UInt8
 | [],r=>r
 | p::ps,r=>p++tailE (seqE ps r)
theorem wrong_not {x:PEv}(h:wrongV x=false):(1≤x.kind∧x.kind≤7)∧badT x.term=false∧badT x.body=false∧x=spokenE x:=by
 simp only[wrongV,Bool.or_eq_false_iff,decide_eq_false_iff_not,Bool.not_eq_false',sameE_iff]at h;obtain ⟨⟨⟨⟨⟨⟨h1,h2⟩,-⟩,-⟩,h3⟩,h4⟩,h5⟩:=h;exact ⟨⟨by omega,by omega⟩,h3,h4,h5⟩
theorem ev_sound {w l r:List UInt8}{x:PEv}(h:evP w l=some (x,r)):wrongV x=false∧x.kind=kindW w∧l=seqE (partsE x) r∧∀ n∈numsE x,N64 n:=by
 unfold evP at h
 match hb:evBody (kindW w) l with
 | none=>rw[hb]at h;cases h
 | some (x',r')=>
  rw[hb]at h;have hw:¬wrongV x'=true∧x'=x∧r'=r:=by
   simp only at h;split at h;cases h
   rename_i hw;cases h;exact ⟨hw,rfl,rfl⟩
  obtain ⟨hw,rfl,rfl⟩:=hw;replace hw:wrongV x'=false:=by simpa using hw
  obtain ⟨hk,ht,hbd,-⟩:=wrong_not hw;refine ⟨hw,?_⟩;unfold evBody at hb
  generalize kindW w=k at hb
  split at hb
  rename_i hk1
  simp only[bnd_iff]at hb;obtain ⟨a,l1,h1,b,l2,h2,c,l3,h3,d,l4,h4,v,l5,h5,h6⟩:=hb;split at h6
  rename_i hv
  simp only[bnd_iff,Option.some.injEq,Prod.mk.injEq]at h6;obtain ⟨s,l6,h7,t,l7,h8,rfl,rfl⟩:=h6;obtain ⟨e1,i1⟩:=numberP_iff.1 h1;obtain ⟨e2,i2⟩:=numberP_iff.1 h2;obtain ⟨e3,i3⟩:=numberP_iff.1 h3;obtain ⟨e4,i4⟩:=numberP_iff.1 h4;obtain ⟨e5,i5⟩:=numberP_iff.1 h5;have e6:=nameP_iff.1 h7;have e7:=termP_sound h8 hbd;refine ⟨hk1.symm,?_,?_⟩;have hv2:Lib.itoa (if decide (v=1)=true then 1 else 0)=Lib.itoa v:=by rcases hv with rfl | rfl <;> rfl
  rw[show partsE ({ zeroE with kind:=1,ok:=a,ou:=b,oo:=c,og:=d,ow:=decide (v=1),oname:=s,body:=t } : PEv)=[Lib.itoa a,Lib.itoa b,Lib.itoa c,Lib.itoa d,Lib.itoa (if decide (v=1)=true then 1 else 0),quoteE s,encT t] from rfl,hv2];simp only[seqE];rw[←e7,←e6,←e5,←e4,←e3,←e2,←e1];intro n hn;rw[show numsE ({ zeroE with kind:=1,ok:=a,ou:=b,oo:=c,og:=d,ow:=decide (v=1),oname:=s,body:=t } : PEv)=[a,b,c,d] from rfl]at hn;simp only[List.mem_cons,List.not_mem_nil,or_false]at hn;rcases hn with rfl | rfl | rfl | rfl <;> assumption
  cases h6;split at hb
  rename_i hk1
  simp only[bnd_iff,Option.some.injEq,Prod.mk.injEq]at hb;obtain ⟨s,l1,h1,t,l2,h2,rfl,rfl⟩:=hb;refine ⟨hk1.symm,?_,nofun⟩;rw[show partsE ({ zeroE with kind:=2,name:=s,term:=t } : PEv)=[quoteE s,encT t] from rfl];simp only[seqE];rw[←termP_sound h2 ht,←nameP_iff.1 h1];split at hb
  rename_i hk1
  simp only[bnd_iff,Option.some.injEq,Prod.mk.injEq]at hb;obtain ⟨n,l0,h0,s,l1,h1,t,l2,h2,rfl,rfl⟩:=hb;obtain ⟨e0,i0⟩:=numberP_iff.1 h0;refine ⟨hk1.symm,?_,fun m hm=>by rw[List.mem_singleton.1 (show m∈[n] from hm)];exact i0⟩;rw[show partsE ({ zeroE with kind:=3,name:=s,src:=t,num:=n } : PEv)=[Lib.itoa n,quoteE s,quoteE t] from rfl];simp only[seqE];rw[←nameP_iff.1 h2,←nameP_iff.1 h1,←e0];split at hb
  rename_i hk1
  simp only[bnd_iff,Option.some.injEq,Prod.mk.injEq]at hb;obtain ⟨n,l0,h0,rfl,rfl⟩:=hb;obtain ⟨e0,i0⟩:=numberP_iff.1 h0;exact ⟨hk1.symm,by rw[show partsE ({ zeroE with kind:=4,user:=n } : PEv)=[Lib.itoa n] from rfl];simp only[seqE];exact e0,fun m hm=>by rw[List.mem_singleton.1 (show m∈[n] from hm)];exact i0⟩;split at hb
  rename_i hk1
  simp only[bnd_iff,Option.some.injEq,Prod.mk.injEq]at hb;obtain ⟨n,l0,h0,m,l1,h1,rfl,rfl⟩:=hb;obtain ⟨e0,i0⟩:=numberP_iff.1 h0;obtain ⟨e1,i1⟩:=numberP_iff.1 h1;refine ⟨hk1.symm,?_,fun j hj=>?_⟩;rw[show partsE ({ zeroE with kind:=5,node:=n,num:=m } : PEv)=[Lib.itoa n,Lib.itoa m] from rfl];simp only[seqE];rw[←e1,←e0];rcases List.mem_cons.1 (show j∈[n,m] from hj) with rfl | hj
  exact i0;rw[List.mem_singleton.1 hj];exact i1;split at hb
  rename_i hk1
  simp only[bnd_iff,Option.some.injEq,Prod.mk.injEq]at hb;obtain ⟨n,l0,h0,b,l1,h1,rfl,rfl⟩:=hb;obtain ⟨e0,i0⟩:=numberP_iff.1 h0;refine ⟨hk1.symm,?_,fun m hm=>by rw[List.mem_singleton.1 (show m∈[n] from hm)];exact i0⟩;rw[show partsE ({ zeroE with kind:=6,node:=n,keep:=b } : PEv)=[Lib.itoa n,bitsE b] from rfl];simp only[seqE];rw[←bitsP_iff.1 h1,←e0];split at hb
  rename_i hk1
  simp only[bnd_iff,Option.some.injEq,Prod.mk.injEq]at hb;obtain ⟨n,l0,h0,rfl,rfl⟩:=hb;obtain ⟨e0,i0⟩:=numberP_iff.1 h0;exact ⟨hk1.symm,by rw[show partsE ({ zeroE with kind:=7,node:=n } : PEv)=[Lib.itoa n] from rfl];simp only[seqE];exact e0,fun m hm=>by rw[List.mem_singleton.1 (show m∈[n] from hm)];exact i0⟩;simp only[Option.some.injEq,Prod.mk.injEq]at hb;obtain ⟨rfl,rfl⟩:=hb;simp only at hk;omega
theorem kind_cases {k:Int}(h:1≤k∧k≤7):k=1∨k=2∨k=3∨k=4∨k=5∨k=6∨k=7:=by omega
theorem kindW_word {k:Int}(h:1≤k∧k≤7):kindW (wordE k)=k:=by
 rcases kind_cases h with rfl | rfl | rfl | rfl | rfl | rfl | rfl <;> decide
theorem word_kindW {w:List UInt8}(h:1≤kindW w):w=wordE (kindW w):=by
 unfold kindW at h⊢
 repeat' split at h
 all_goals first
  | omega
  | (subst_vars;decide)
  | (rename_i h0;rw[h0];decide)
theorem wordE_ok {k:Int}(h:1≤k∧k≤7):(32:UInt8) ∉ wordE k∧(10:UInt8) ∉ wordE k:=by
 rcases kind_cases h with rfl | rfl | rfl | rfl | rfl | rfl | rfl <;> decide
theorem ev_complete {x:PEv}(hw:wrongV x=false)(hi:∀ n∈numsE x,N64 n)(r:List UInt8):evP (wordE x.kind) (seqE (partsE x) r)=some (x,r):=by
 obtain ⟨hk,ht,hb,hs⟩:=wrong_not hw;rw[evP,kindW_word hk]
 suffices h:evBody x.kind (seqE (partsE x) r)=some (x,r) by
  rw[h];simp only[hw,Bool.false_eq_true,if_false]
 rcases kind_cases hk with q | q | q | q | q | q | q
 have hs2:x = { zeroE with kind:=1,ok:=x.ok,ou:=x.ou,oo:=x.oo,og:=x.og,ow:=x.ow,oname:=x.oname,body:=x.body }:=by rw[spokenE,if_pos q]at hs;exact hs
 have hn:numsE x=[x.ok,x.ou,x.oo,x.og]:=by rw[numsE,if_pos q]
 have hp:partsE x=[Lib.itoa x.ok,Lib.itoa x.ou,Lib.itoa x.oo,Lib.itoa x.og,Lib.itoa (if x.ow then 1 else 0),quoteE x.oname,encT x.body]:=by rw[partsE,hn,if_pos q];rfl
 rw[hn]at hi;simp only[List.mem_cons,List.not_mem_nil,or_false,forall_eq_or_imp,forall_eq]at hi;have hv:N64 (if x.ow=true then (1:Int) else 0):=by cases x.ow <;> simp[N64]
 have hv2:((if x.ow=true then (1:Int) else 0)=0∨(if x.ow=true then (1:Int) else 0)=1):=by cases x.ow <;> simp
 have hv3:decide ((if x.ow=true then (1:Int) else 0)=1)=x.ow:=by cases x.ow <;> simp
 rw[evBody,if_pos q,hp];simp only[seqE];rw[numberP_iff.2 ⟨rfl,hi.1⟩,bnd_some,numberP_iff.2 ⟨rfl,hi.2.1⟩,bnd_some,numberP_iff.2 ⟨rfl,hi.2.2.1⟩,bnd_some,numberP_iff.2 ⟨rfl,hi.2.2.2⟩,bnd_some,numberP_iff.2 ⟨rfl,hv⟩,bnd_some,if_pos hv2,nameP_iff.2 rfl,bnd_some,termP_complete hb,bnd_some,hv3,←hs2];have hs2:x = { zeroE with kind:=2,name:=x.name,term:=x.term }:=by rw[spokenE,if_neg (by omega),if_pos q]at hs;exact hs
 have hp:partsE x=[quoteE x.name,encT x.term]:=by rw[hs2];rfl
 rw[evBody,if_neg (by omega),if_pos q,hp];simp only[seqE];rw[nameP_iff.2 rfl,bnd_some,termP_complete ht,bnd_some,←hs2];have hs2:x = { zeroE with kind:=3,name:=x.name,src:=x.src,num:=x.num }:=by rw[spokenE,if_neg (by omega),if_neg (by omega),if_pos q]at hs;exact hs
 have hn:numsE x=[x.num]:=by rw[hs2];rfl
 have hp:partsE x=[Lib.itoa x.num,quoteE x.name,quoteE x.src]:=by rw[hs2];rfl
 rw[hn]at hi;rw[evBody,if_neg (by omega),if_neg (by omega),if_pos q,hp];simp only[seqE];rw[numberP_iff.2 ⟨rfl,hi _ (by simp)⟩,bnd_some,nameP_iff.2 rfl,bnd_some,nameP_iff.2 rfl,bnd_some,←hs2];have hs2:x = { zeroE with kind:=4,user:=x.user }:=by rw[spokenE,if_neg (by omega),if_neg (by omega),if_neg (by omega),if_pos q]at hs;exact hs
 have hn:numsE x=[x.user]:=by rw[hs2];rfl
 have hp:partsE x=[Lib.itoa x.user]:=by rw[hs2];rfl
 rw[hn]at hi;rw[evBody,if_neg (by omega),if_neg (by omega),if_neg (by omega),if_pos q,hp];simp only[seqE];rw[numberP_iff.2 ⟨rfl,hi _ (by simp)⟩,bnd_some,←hs2];have hs2:x = { zeroE with kind:=5,node:=x.node,num:=x.num }:=by rw[spokenE,if_neg (by omega),if_neg (by omega),if_neg (by omega),if_neg (by omega),if_pos q]at hs;exact hs
 have hn:numsE x=[x.node,x.num]:=by rw[hs2];rfl
 have hp:partsE x=[Lib.itoa x.node,Lib.itoa x.num]:=by rw[hs2];rfl
 rw[hn]at hi;rw[evBody,if_neg (by omega),if_neg (by omega),if_neg (by omega),if_neg (by omega),if_pos q,hp];simp only[seqE];rw[numberP_iff.2 ⟨rfl,hi _ (by simp)⟩,bnd_some,numberP_iff.2 ⟨rfl,hi _ (by simp)⟩,bnd_some,←hs2];have hs2:x = { zeroE with kind:=6,node:=x.node,keep:=x.keep }:=by rw[spokenE,if_neg (by omega),if_neg (by omega),if_neg (by omega),if_neg (by omega),if_neg (by omega),if_pos q]at hs;exact hs
 have hn:numsE x=[x.node]:=by rw[hs2];rfl
 have hp:partsE x=[Lib.itoa x.node,bitsE x.keep]:=by rw[hs2];rfl
 rw[hn]at hi;rw[evBody,if_neg (by omega),if_neg (by omega),if_neg (by omega),if_neg (by omega),if_neg (by omega),if_pos q,hp];simp only[seqE];rw[numberP_iff.2 ⟨rfl,hi _ (by simp)⟩,bnd_some,bitsP_iff.2 rfl,bnd_some,←hs2];have hs2:x = { zeroE with kind:=7,node:=x.node }:=by rw[spokenE,if_neg (by omega),if_neg (by omega),if_neg (by omega),if_neg (by omega),if_neg (by omega),if_neg (by omega),if_pos q]at hs;exact hs
 have hn:numsE x=[x.node]:=by rw[hs2];rfl
 have hp:partsE x=[Lib.itoa x.node]:=by rw[hs2];rfl
 rw[hn]at hi;rw[evBody,if_neg (by omega),if_neg (by omega),if_neg (by omega),if_neg (by omega),if_neg (by omega),if_neg (by omega),if_pos q,hp];simp only[seqE];rw[numberP_iff.2 ⟨rfl,hi _ (by simp)⟩,bnd_some,←hs2]
theorem seq_flat:∀ ps:List (List UInt8),(∀ p∈ps,p≠[])→tailE (seqE ps [])=ps.flatMap (fun p=>32::p)
 | [],_=>rfl
 | p::ps,h=>by
  have hp:=h p (by simp);have ih:=seq_flat ps (fun q hq=>h q (by simp[hq]));rw[seqE,List.flatMap_cons,ih,tailE,if_neg (by simp[hp])];rfl
theorem parts_ok {x:PEv}{p:List UInt8}(h:p∈partsE x):p≠[]∧(10:UInt8) ∉ p:=by
 rw[partsE]at h;rcases List.mem_append.1 h with h | h
 obtain ⟨n,-,rfl⟩:=List.mem_map.1 h;exact ⟨(itoa_blank n).2.2,(itoa_blank n).2.1⟩;split at h;simp only[List.mem_cons,List.not_mem_nil,or_false]at h;rcases h with rfl | rfl | rfl
 exact ⟨(itoa_blank _).2.2,(itoa_blank _).2.1⟩;exact ⟨(quoteE_ok _).2,(quoteE_ok _).1⟩;exact ⟨(encT_ok _).2.2,(encT_ok _).2.1⟩;split at h;simp only[List.mem_cons,List.not_mem_nil,or_false]at h;rcases h with rfl | rfl
 exact ⟨(quoteE_ok _).2,(quoteE_ok _).1⟩;exact ⟨(encT_ok _).2.2,(encT_ok _).2.1⟩;split at h;simp only[List.mem_cons,List.not_mem_nil,or_false]at h;rcases h with rfl | rfl
 exact ⟨(quoteE_ok _).2,(quoteE_ok _).1⟩;exact ⟨(quoteE_ok _).2,(quoteE_ok _).1⟩;split at h;rw[List.mem_singleton.1 h];exact ⟨(bitsE_ok _).2.2,(bitsE_ok _).2.1⟩;cases h
theorem lineB_eq (x:PEv):lineB x=wordE x.kind++tailE (seqE (partsE x) []):=by
 rw[lineB,seq_flat _ fun p hp=>(parts_ok hp).1]
theorem lineB_nl {x:PEv}(hk:1≤x.kind∧x.kind≤7):(10:UInt8) ∉ lineB x:=by
 rw[lineB,List.mem_append,not_or];refine ⟨(wordE_ok hk).2,fun h=>?_⟩;obtain ⟨p,hp,hx⟩:=List.mem_flatMap.1 h;rcases List.mem_cons.1 hx with hx | hx
 cases hx;exact (parts_ok hp).2 hx
def lineP (l:List UInt8):Option PEv:=bnd (blankP l) fun w r=>bnd (evP w r) fun x r2=>if r2=[] then some x else none
theorem lineP_iff {l:List UInt8}{x:PEv} : lineP l=some x↔l=lineB x∧wrongV x=false∧∀ n∈numsE x,N64 n:=by
 rw[lineP];simp only[bnd_iff];constructor;rintro ⟨w,r,h1,y,r2,h2,h3⟩;split at h3
 rename_i hr
 cases h3;subst hr;obtain ⟨q1,q2,q3,q4⟩:=ev_sound h2;obtain ⟨h4,h5⟩:=blankP_iff.1 h1;have hk:=(wrong_not q1).1;refine ⟨?_,q1,q4⟩;rw[lineB_eq,h4,q3,q2,←word_kindW (by omega)];cases h3;rintro ⟨rfl,h1,h2⟩;have hk:=(wrong_not h1).1;refine ⟨wordE x.kind,seqE (partsE x) [],blankP_iff.2 ⟨lineB_eq x,(wordE_ok hk).1⟩,x,[],ev_complete h1 h2 [],rfl⟩
def headP (l:List UInt8):Option Int:=bnd (blankP l) fun w r=>bnd (numberP r) fun n r2=>if w=wWorld∧r2=[] then some n else none
theorem headP_iff {l:List UInt8}{n:Int} : headP l=some n↔l=headE n∧N64 n:=by
 have he:headE n=wWorld++tailE (Lib.itoa n++tailE []):=by
  rw[headE,tailE,if_neg (by simp[(itoa_blank n).2.2]),tailE,if_pos rfl,List.append_nil]
 rw[headP];simp only[bnd_iff];constructor;rintro ⟨w,r,h1,m,r2,h2,h3⟩;split at h3
 rename_i hr
 cases h3;obtain ⟨rfl,rfl⟩:=hr;obtain ⟨h4,h5⟩:=numberP_iff.1 h2;refine ⟨?_,h5⟩;rw[he,(blankP_iff.1 h1).1,h4];cases h3;rintro ⟨rfl,h⟩;exact ⟨wWorld,Lib.itoa n++tailE [],blankP_iff.2 ⟨he,by decide⟩,n,[],numberP_iff.2 ⟨rfl,h⟩,by simp⟩
def stepP (n:Nat)(st:Int × List PEv)(l:List UInt8):Option (Int × List PEv):=
 if n < 1 then (headP l).map fun a=>(a,st.2) else (lineP l).bind fun x=>if st.2.length+1≤300 then some (st.1,st.2++[x]) else none
def parseL:Nat→Nat→Int × List PEv→List UInt8→Nat→Except Nat (Int × List PEv)
 | 0,_,_,_,at'=>.error at'
 | k+1,n,st,text,at'=>
  if text=[] then (if n < 1 then .error at' else .ok st)
  else match cutB 10 text with
   | (_,none)=>.error at'
   | (l,some r)=>match stepP n st l with
    | none=>.error at'
    | some st2=>parseL k (n+1) st2 r (at'+l.length+1)
abbrev parseF (text:List UInt8):Except Nat (Int × List PEv):=parseL (text.length+1) 0 (0,[]) text 0
theorem cut_len {c:UInt8}{l s r:List UInt8}(h:cutB c l=(s,some r)):l.length=s.length+1+r.length:=by
 rw[(cutB_some.1 h).1];simp;omega
theorem parse_fuel:∀ (k k2 n:Nat) (st:Int × List PEv) (text:List UInt8) (a:Nat),text.length < k→text.length < k2→parseL k n st text a=parseL k2 n st text a
 | 0,_,_,_,_,_,h,_=>by omega
 | _,0,_,_,_,_,_,h=>by omega
 | k+1,k2+1,n,st,text,a,h1,h2=>by
  rw[parseL,parseL];split;rfl
  match hc:cutB 10 text with
  | (l,none)=>rfl
  | (l,some r)=>
   have:=cut_len hc;simp only
   match stepP n st l with
   | none=>rfl
   | some st2=>exact parse_fuel k k2 _ _ _ _ (by omega) (by omega)
theorem step_ev {n:Nat}(hn:1≤n){st st2:Int × List PEv}{l:List UInt8} : stepP n st l=some st2↔∃ x,l=lineB x∧wrongV x=false∧(∀ m∈numsE x,N64 m)∧st.2.length+1≤300∧st2=(st.1,st.2++[x]):=by
 rw[stepP,if_neg (by omega)];simp only[Option.bind_eq_some_iff];constructor;rintro ⟨x,h1,h2⟩;split at h2
 rename_i h3
 cases h2;obtain ⟨q1,q2,q3⟩:=lineP_iff.1 h1;exact ⟨x,q1,q2,q3,h3,rfl⟩;cases h2;rintro ⟨x,h1,h2,h3,h4,h5⟩;exact ⟨x,lineP_iff.2 ⟨h1,h2,h3⟩,by rw[if_pos h4,h5]⟩
theorem step_head {st st2:Int × List PEv}{l:List UInt8} : stepP 0 st l=some st2↔∃ a,l=headE a∧N64 a∧st2=(a,st.2):=by
 rw[stepP,if_pos (by omega)];simp only[Option.map_eq_some_iff];constructor;rintro ⟨a,h1,rfl⟩;obtain ⟨q1,q2⟩:=headP_iff.1 h1;exact ⟨a,q1,q2,rfl⟩;rintro ⟨a,h1,h2,rfl⟩;exact ⟨a,headP_iff.2 ⟨h1,h2⟩,rfl⟩
theorem parse_evs (a:Int):∀ (l:List PEv) (k n:Nat) (pre:List PEv) (at':Nat),1≤n→(∀ x∈l,wrongV x=false∧∀ m∈numsE x,N64 m)→pre.length+l.length≤300→(l.flatMap lineE).length < k→parseL k n (a,pre) (l.flatMap lineE) at'=.ok (a,pre++l)
 | _,0,_,_,_,_,_,_,h=>by omega
 | [],k+1,n,pre,at',hn,_,_,_=>by
  rw[List.flatMap_nil,parseL,if_pos rfl,if_neg (by omega),List.append_nil]
 | x::l,k+1,n,pre,at',hn,hx,hl,hk=>by
  obtain ⟨h1,h2⟩:=hx x (by simp);have hc:cutB 10 (List.flatMap lineE (x::l))=(lineB x,some (l.flatMap lineE)):=cutB_some.2 ⟨by rw[List.flatMap_cons,lineE];simp,lineB_nl (wrong_not h1).1⟩;have hlen:=cut_len hc;rw[parseL,if_neg (fun h=>by rw[h]at hlen;simp at hlen;omega),hc];simp only;rw[(step_ev hn).2 ⟨x,rfl,h1,h2,by simp at hl⊢;omega,rfl⟩];simp only;rw[parse_evs a l k (n+1) (pre++[x]) _ (by omega) (fun y hy=>hx y (by simp[hy])) (by simp at hl⊢;omega) (by omega),List.append_assoc];rfl
theorem head_nl (a:Int):(10:UInt8) ∉ headE a:=by
 rw[headE,List.mem_append];rintro (h | h)
 revert h;decide
 rcases List.mem_cons.1 h with h | h
 cases h;exact (itoa_blank a).2.1 h
theorem parse_print {a:Int}{l:List PEv}(ha:N64 a)(hx:∀ x∈l,wrongV x=false∧∀ m∈numsE x,N64 m)(hl:l.length≤300):parseF (printF a l)=.ok (a,l):=by
 have hc:cutB 10 (printF a l)=(headE a,some (l.flatMap lineE)):=cutB_some.2 ⟨by rw[printF];simp,head_nl a⟩;have hlen:=cut_len hc;rw[parseF,parseL,if_neg (fun h=>by rw[h]at hlen;simp at hlen;omega),hc];simp only;rw[step_head.2 ⟨a,rfl,ha,rfl⟩];simp only;rw[parse_evs a l _ 1 [] _ (Nat.le_refl _) hx (by simpa using hl) (by omega)];rfl
theorem parse_where:∀ (k n:Nat) (st:Int × List PEv) (text:List UInt8) (a b:Nat),text.length < k→parseL k n st text a=.error b→∃ pre suf,text=pre++suf∧b=a+pre.length∧(pre=[]∨∃ q,pre=q++[10])∧
  ∀ line r,cutB 10 suf=(line,some r)→∀ (more:List UInt8) (k2:Nat),(pre++line++10::more).length < k2→parseL k2 n st (pre++line++10::more) a=.error b
 | 0,_,_,_,_,_,h,_=>by omega
 | k+1,n,st,text,a,b,hk,h=>by
  rw[parseL]at h;split at h
  rename_i ht
  split at h;cases h;exact ⟨[],[],ht,by simp,.inl rfl,fun line r hc=>by cases hc⟩;cases h
  match hc:cutB 10 text with
  | (l,none)=>
   rw[hc]at h;cases h;exact ⟨[],text,rfl,by simp,.inl rfl,fun line r hl=>by rw[hc]at hl;cases hl⟩
  | (l,some r)=>
   rw[hc]at h;simp only at h
   match hs:stepP n st l with
   | none=>
    rw[hs]at h;cases h;refine ⟨[],text,rfl,by simp,.inl rfl,fun line r2 hl more k2 hk2=>?_⟩;rw[hc]at hl;cases hl
    match k2,hk2 with
    | k2+1,_=>
     have hc2:cutB 10 (l++10::more)=(l,some more):=cutB_some.2 ⟨rfl,(cutB_some.1 hc).2⟩;rw[qqF,parseL,if_neg (by simp),hc2];simp only[hs]
   | some st2=>
    rw[hs]at h;have hlen:=cut_len hc;obtain ⟨pre,suf,h1,h2,h3,h4⟩:=parse_where k (n+1) st2 r _ b (by omega) h;refine ⟨l++10::pre,suf,by rw[(cutB_some.1 hc).1,h1];simp,by rw[h2];simp;omega,.inr ?_,fun line r2 hl more k2 hk2=>?_⟩;rcases h3 with rfl | ⟨q,rfl⟩
    exact ⟨l,rfl⟩;exact ⟨l++10::q,by simp⟩
    match k2,hk2 with
    | k2+1,hk2=>
     have hc2:cutB 10 (l++10::pre++line++10::more)=(l,some (pre++line++10::more)):=cutB_some.2 ⟨by simp,(cutB_some.1 hc).2⟩;have hl2:=cut_len hc2;rw[parseL,if_neg (by simp),hc2];simp only[hs];exact h4 line r2 hl more k2 (by omega)
theorem itoa_dig {n:Int}(h:0≤n∧n < 10):Lib.itoa n=[UInt8.ofNat (48+n.toNat)]:=by
 rw[Lib.itoa,if_neg (by omega),Lib.decDigits,dif_pos (by omega)]
theorem itoa_400:Lib.itoa 400=[52,48,48]:=by
 rw[Lib.itoa,if_neg (by omega)]
 show Lib.decDigits 400=_
 rw[Lib.decDigits,dif_neg (by omega)];rw[show (400 / 10:Nat)=40 from rfl,Lib.decDigits,dif_neg (by omega),show (40 / 10:Nat)=4 from rfl,Lib.decDigits,dif_pos (by omega)];rfl
def exT:Term:=.mk 1 0 0 [120] []
def ex1:PEv:={ zeroE with kind:=1,ok:=1,ou:=1,oname:=[49,47,102],body:=exT }
def ex2:PEv:={ zeroE with kind:=2,name:=[120] }
def ex3:PEv:={ zeroE with kind:=6,node:=6,keep:=[true,false] }
abbrev exL:List UInt8:=[119,111,114,108,100,32,52,48,48,10,100,111,32,49,32,49,32,48,32,48,32,48,32,34,49,47,102,34,32,48,49,48,49,55,56,10,112,117,116,32,34,120,34,32,45,10,99,114,97,115,104,32,54,32,61,49,48,10]
theorem ex_encT:encT exT=[48,49,48,49,55,56]:=by decide +kernel
theorem ex_enc0:encT zeroT=[45]:=by decide +kernel
theorem ex_wrong:∀ x∈[ex1,ex2,ex3],wrongV x=false:=by decide +kernel
theorem ex_print:printF 400 [ex1,ex2,ex3]=exL:=by
 have i0:Lib.itoa 0=[48]:=itoa_dig ⟨by omega,by omega⟩;have i1:Lib.itoa 1=[49]:=itoa_dig ⟨by omega,by omega⟩;have i6:Lib.itoa 6=[54]:=itoa_dig ⟨by omega,by omega⟩;have p1:partsE ex1=[Lib.itoa 1,Lib.itoa 1,Lib.itoa 0,Lib.itoa 0,Lib.itoa 0,quoteE [49,47,102],encT exT]:=rfl;have p2:partsE ex2=[quoteE [120],encT zeroT]:=rfl;have p3:partsE ex3=[Lib.itoa 6,bitsE [true,false]]:=rfl;simp only[printF,List.flatMap_cons,List.flatMap_nil,lineE,lineB,p1,p2,p3,ex_encT,ex_enc0,i0,i1,i6,headE,itoa_400]
 decide +kernel
theorem ex_parse:parseF exL=.ok (400,[ex1,ex2,ex3]):=by
 rw[←ex_print];refine parse_print ⟨by omega,by omega⟩ (fun x hx=>⟨ex_wrong x hx,fun m hm=>?_⟩) (by decide);have:∀ x∈[ex1,ex2,ex3],∀ m∈numsE x,-10≤m∧m≤10:=by decide +kernel
 have:=this x hx m hm;exact ⟨by omega,by omega⟩
theorem ex_check:checkE [ex1,ex2,ex3]=true:=by decide +kernel
end Go.Proofs.YtlgnhhebeandkaaGreatDoor