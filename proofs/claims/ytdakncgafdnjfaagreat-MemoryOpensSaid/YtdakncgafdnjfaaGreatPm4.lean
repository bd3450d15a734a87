/- 4: a part of this claim's texts, joined: W7 MemA MemB MemOwn MemFt W8 DiskA DiskB DiskC DiskD. -/
import Derived.Test.YtdakncgafdnjfaaGreatPm3
import Derived.RecoverIn
import Derived.OpenShut
import Derived.Lib.AppendZerosOnto
import Derived.Lib.Overlaps
namespace Go.Wk
open Go
def LR (P:Program)(f:Nat)(args:List Value)(w:World)(M:Nat→Prop)(R:Value→World→Prop)(X:List PanicEntry→World→Prop):Prop:=
 Calls P f args.toArray w fun e w'=>(∃ v,e=.returned v∧aJ M w w'∧R v w')∨∃ ch,e=.panicked ch∧aJ M w w'∧X ch w'
def Hq (v:Value):List PanicEntry:=[{ v:=v,recovered:=false }]
section
variable {P:Program}{r:Option Nat}{ops:Array Oper}{Q:Exit→Act→World→Prop}{w0:World}{M0:Nat→Prop}{ds:List Deferred}{a:Act}{w:World}{l l':List Value}{bs bs':List Item}{fs:List (World→Prop)}
 {d:Option Nat} {op:Op} {ty:TypeId} {pos:String} {af:Array Edge} {rest:List Oper} {v v' G:Value} {f:Nat} {x:Operand} {xs:List Operand} {args:List Value} {ts:Array TypeId} {j g:Nat} {kZ:Bool} {cs:List Bool}
theorem EB [aF P f][fP ⟨[],l⟩ x xs f args](S:St w0 M0 ds a w l bs fs){R:Ending→World→Prop}(hc:Calls P f args.toArray w R)
  (K:∀ e w',R e w'→(∃ v,e=.returned v∧WL P r ops Q rest (a.put d v) w')∨∃ ch,e=.panicked ch∧Q (.panic ch) a w') :
  WL P r ops Q (⟨d,.call { callee:=.value x,args:=xs.toArray,argTypes:=ts },ty,pos,af,none⟩::rest) a w:=by
 refine bR rfl ?_;rw[bQ rfl];simp only[uo (f:=f) (args:=args) S.fr,Oper.uponIn];refine ⟨fun h=>(by cases h),trivial,fun cs _=>?_⟩;obtain ⟨e,w',fr,hR,nM,h1,h2⟩:=hc cs;rcases K e w' hR with ⟨v,rfl,hk⟩ | ⟨ch,rfl,hk⟩
 exact ⟨.returned v,w',fr,hk,(comesIn_wide (m:=lone (Frame.enter P f args.toArray .normal) cs w) (e:=.returned v)).2 nM,h1,h2⟩;exact ⟨.panicked ch,w',fr,hk,(comesIn_wide (m:=lone (Frame.enter P f args.toArray .normal) cs w) (e:=.panicked ch)).2 nM,h1,h2⟩
theorem SS {l':Value→List Value}[aF P f][fP ⟨[],l⟩ x xs f args][hp:∀ v,cZ l d v (l' v)](S:St w0 M0 ds a w l bs fs){R:Value→World→Prop}{X:List PanicEntry→World→Prop}(hc:LR P f args w (fun _=>False) R X)
  (Kp:∀ ch w',X ch w'→St w0 M0 ds a w' l bs fs→Q (.panic ch) a w')
  (K:∀ v a w',R v w'→St w0 M0 ds a w' (l' v) bs fs→WL P r ops Q rest a w') :
  WL P r ops Q (⟨d,.call { callee:=.value x,args:=xs.toArray,argTypes:=ts },ty,pos,af,none⟩::rest) a w:=by
 refine EB S hc ?_;rintro e w' (⟨v,rfl,ha,hR⟩ | ⟨ch,rfl,ha,hX⟩);have:=hp v;have S':=S.put (d:=d) (v:=v);exact .inl ⟨v,rfl,K v _ w' hR ⟨S'.slots,S'.defers,S'.wd.step ha⟩⟩;exact .inr ⟨ch,rfl,Kp ch w' hX ⟨S.slots,S.defers,S.wd.step ha⟩⟩
theorem SU {tp:TypeId}[hx:Ev ⟨[],l⟩ x (.iface tp v)](S:St w0 M0 ds a w l bs fs)(h:St w0 M0 ds a w l bs fs→Q (.panic (Hq (.iface tp v))) a w):WL P r ops Q (⟨d,.panic x,ty,pos,af,none⟩::rest) a w:=by
 refine bR rfl ?_;rw[bQ rfl];have hf:a.eval x=.iface tp v:=S.fr.ev;have:(cu a.eval (.panic x) ty).run P w=.halt (.panic (.iface tp v)) w:=by
  simp[cu,execOp,hf,Instr.panic,goPanic,Sem.run]
 rw[this];exact h S
variable {fn:Func}{R:Value→World→Prop}{X:List PanicEntry→World→Prop}{e:Exit}
theorem SV (h:bodyPost P fn (fun e w'=>∃ v,e=.returned v∧aJ M0 w0 w'∧R v w') e a w) :
  bodyPost P fn (fun e w'=>(∃ v,e=.returned v∧aJ M0 w0 w'∧R v w')∨∃ ch,e=.panicked ch∧aJ M0 w0 w'∧X ch w') e a w:=by
 cases e <;> simp only[bodyPost]at h⊢<;> first | exact h | skip
 exact ⟨h.1,h.2.choose,h.2.choose_spec.1,.inl h.2.choose_spec.2⟩;exact ⟨h.1,h.2.choose,h.2.choose_spec.1,.inl h.2.choose_spec.2⟩;exact ⟨h.1,.inl h.2⟩;exact .inl h
theorem CU {ch:List PanicEntry}(S:St w0 M0 [] a w l bs fs)(h:X ch w) :
  bodyPost P fn (fun e w'=>(∃ v,e=.returned v∧aJ M0 w0 w'∧R v w')∨∃ ch,e=.panicked ch∧aJ M0 w0 w'∧X ch w') (.panic ch) a w:=
 ⟨S.defers,.inr ⟨ch,rfl,S.wd.agree,h⟩⟩
theorem CV {f:Nat}{fn:Func}{c:Code}{args:List Value}{l:List Value}{R:Ending→World→Prop}{M0:Nat→Prop}{bs:List Item}{fs:List (World→Prop)}
  (hf:P.funcs[f]? = some fn) (hb:fn.body=some c) (hl:args++List.replicate (fn.ntmps - args.length) undef=l) (hw:Wd w M0 w bs fs)
  (h:∀ a,St w M0 [] a w l bs fs→Wp P none c (bodyPostDIn (FW none) 0 P fn R) a w):Calls P f args.toArray w R:=by
 refine (callsIn_wide (n:=0)).1 (callsIn_of_wp_defers (F:=FW none) (n:=0) hf hb trivial (h _ ⟨?_,rfl,hw⟩));simp[←hl]
theorem X_ {fi ca:List Value}{l':List Value}[hx:Ev ⟨[],l⟩ x (.func (.func f) ⟨fi⟩ ⟨ca⟩)][hp:cZ l d undef l'](S:St w0 M0 ds a w l bs fs)
  (K:∀ a,St w0 M0 ({ target:=.fn (.func f) ⟨ca⟩,args:=⟨fi⟩ }::ds) a w l' bs fs→WL P none ops Q rest a w) :
  WL P none ops Q (⟨d,.defer { callee:=.value x,args:=#[],argTypes:=ts },ty,pos,af,none⟩::rest) a w:=by
 refine bR rfl ?_;have hf:a.eval x=.func (.func f) ⟨fi⟩ ⟨ca⟩:=S.fr.ev;rw[Oper.semAt_none];have:(execOp a.eval ⟨d,.defer { callee:=.value x,args:=#[],argTypes:=ts },ty,pos,af,none⟩).run P w=.ok (.defer { target:=.fn (.func f) ⟨ca⟩,args:=⟨fi⟩ }) w:=by
  simp[execOp,resolve,hf,Deferred.ofValue]
 rw[this];obtain ⟨t,dd⟩:=a;have:=S.slots;simp at this;subst this;have hd:=S.defers;simp at hd;subst hd
 show WL P none ops Q rest _ w
 rw[hp.eq];exact K _ ⟨rfl,rfl,S.wd⟩
theorem HW {g:Nat}{ca:List Value}{K:World→Prop}{Rr:Ending→World→Prop}[he:aF P g](hd:a.defers=[{ target:=.fn (.func g) ⟨ca⟩,args:=#[] }])
  (hc:CallsDIn (FW none) 0 P g ca.toArray .returning w fun e u' w'=>(∃ v,e=.returned v)∧u'=.returning∧K w')
  (hk:∀ w',K w'→∃ v,(results fn a.tmps).run P w'=.ok v w'∧Rr (.returned v) w') (hx:e=.ret∨e=.normal:=by simp):bodyPostDIn (FW none) 0 P fn Rr e a w:=by
 have key:LeavesIn (FW none) 0 P fn a.tmps Rr a.defers .returning w:=by
  rw[hd];refine leavesIn_cons (f:=g) (args:=ca.toArray) (by simp) (fun h=>by cases h) ?_ (fun _ _=>trivial) (hc.mono ?_);have:=he.run ca.toArray w;simpa [invoke] using this;rintro e u' w' ⟨⟨v,rfl⟩,rfl,hK⟩;obtain ⟨v,h1,h2⟩:=hk w' hK;exact ⟨v,h1,h2⟩
 rcases hx with rfl | rfl <;> exact key
theorem HX {g:Nat}{ca:List Value}{pv:Value}{K:World→Prop}{Rr:Ending→World→Prop}[he:aF P g](hd:a.defers=[{ target:=.fn (.func g) ⟨ca⟩,args:=#[] }])
  (hc:CallsDIn (FW none) 0 P g ca.toArray (.panicking (Hq pv)) w fun e u' w'=>(∃ v,e=.returned v)∧u'=.panicking [{ v:=pv,recovered:=true }]∧K w')
  (hk:∀ w',K w'→∃ v,(results fn a.tmps).run P w'=.ok v w'∧Rr (.returned v) w'):bodyPostDIn (FW none) 0 P fn Rr (.panic (Hq pv)) a w:=by
 show LeavesIn (FW none) 0 P fn a.tmps Rr a.defers (.panicking (Hq pv)) w
 rw[hd];refine leavesIn_cons (f:=g) (args:=ca.toArray) (by simp) (fun h=>by cases h) ?_ (fun _ _=>trivial) (hc.mono ?_);have:=he.run ca.toArray w;simpa [invoke] using this;rintro e u' w' ⟨⟨v,rfl⟩,rfl,hK⟩;obtain ⟨v,h1,h2⟩:=hk w' hK;exact ⟨v,h1,h2⟩
theorem qJ {f:Nat}{fn:Func}{rest:Code}{id t6 t3:Nat}{Ya Yb:TypeId}{Pk pos1:String}{Yc Yd:Array Edge}{args l:List Value}{l1 l2:Value→List Value}{u:FrameMode}{w0:World}{M0:Nat→Prop}{bs:List Item}{fs:List (World→Prop)}{Rr:Ending→FrameMode→World→Prop}
  (hf:P.funcs[f]? = some fn) (hb:fn.body=some (.seq (.region id #[⟨some t6,.call { callee:=.builtin .recover,args:=#[],argTypes:=#[] },Ya,Pk,Yc,none⟩,⟨some t3,.assign (.tmp t6),Yb,pos1,Yd,none⟩] false) rest))
  (hl:args++List.replicate (fn.ntmps - args.length) undef=l) (hw:Wd w0 M0 w bs fs) [hp1:∀ x,qy l t6 x (l1 x)] [wG:∀ x,pF (l1 x) t6 x] [X0:∀ x,qy (l1 x) t3 x (l2 x)]
  (hu:u=.returning∨∃ pv,u=.panicking (Hq pv))
  (h:∀ (x:Value) (u':FrameMode),(u=.returning∧x=.nilIface∧u'=u∨∃ pv,u=.panicking (Hq pv)∧x=pv∧u'=.panicking [{ v:=pv,recovered:=true }])→
   ∀ a,St w0 M0 [] a w (l2 x) bs fs→Wp P none rest (fun e a' w'=>(e=.normal∨e=.ret)∧a'.defers=[]∧∃ v,(results fn a'.tmps).run P w'=.ok v w'∧Rr (.returned v) u' w') a w) :
  CallsDIn (FW none) 0 P f args.toArray u w Rr:=by
 have main:∀ (c₀:Frame) (cs:List Frame) (x:Value) (u':FrameMode),c₀.mode=u→
   (u=.returning∧x=.nilIface∧u'=u∨∃ pv,u=.panicking (Hq pv)∧x=pv∧u'=.panicking [{ v:=pv,recovered:=true }])→
   rest.wpSIn (FW none) 0 P (bodyPostS P fn c₀ cs Rr) ⟨(l2 x).toArray,[]⟩ ({ c₀ with mode:=u' }::cs) w:=by
  intro c₀ cs x u' _ hx;refine wpSIn_of_wpIn rfl (wpIn_mono (h x u' hx ⟨(l2 x).toArray,[]⟩ ⟨rfl,rfl,hw⟩) fun e a' w' hq=>?_);obtain ⟨he,hd,v,h1,h2⟩:=hq;rcases he with rfl | rfl <;> exact ⟨hd,u',rfl,v,h1,h2⟩
 refine callsDIn_of_wpSIn hf hb trivial fun c₀ cs hc₀=>wpSIn_seq (wpSIn_region ?_)
 have hl':args.toArray++Array.replicate (fn.ntmps - args.toArray.size) undef=l.toArray:=by rw[←hl];simp
 rw[hl'];have step:∀ x,((⟨l.toArray,[]⟩:Act).put (some t6) x).put (some t3) (((⟨l.toArray,[]⟩:Act).put (some t6) x).eval (.tmp t6))=⟨(l2 x).toArray,[]⟩:=fun x=>by
  have e1:(⟨l.toArray,[]⟩:Act).put (some t6) x=⟨(l1 x).toArray,[]⟩:=(NK (l:=l) (l':=l1 x) (v:=x) (n:=t6)).eq [];have e2:(⟨(l1 x).toArray,[]⟩:Act).eval (.tmp t6)=x:=by
   have:=(wG x).eq;simp[Act.eval,Array.getD_eq_getD_getElem?,this]
  rw[e1,e2];exact (NK (l:=l1 x) (l':=l2 x) (v:=x) (n:=t3)).eq []
 have Af:∀ (a:Act),(execOp a.eval ⟨some t6,.call { callee:=.builtin .recover,args:=#[],argTypes:=#[] },Ya,Pk,Yc,none⟩).run P w=.ok .recover w:=fun a=>by
  simp[execOp,resolve,invoke,builtin]
 have Av:∀ (a:Act),(execOp a.eval ⟨some t3,.assign (.tmp t6),Yb,pos1,Yd,none⟩).run P w=.ok (.value (a.eval (.tmp t6))) w:=fun a=>by
  simp[execOp]
 have hcs:({ c₀ with mode:=u } : Frame)=c₀:=by subst hc₀;rfl
 rw[show List.range (#[(⟨some t6,.call { callee:=.builtin .recover,args:=#[],argTypes:=#[] },Ya,Pk,Yc,none⟩:Oper),⟨some t3,.assign (.tmp t6),Yb,pos1,Yd,none⟩]:Array Oper).size=[0,1] from rfl];simp only[wpOpsSIn,List.getElem?_toArray,List.getElem?_cons_zero,List.getElem?_cons_succ,Af,Av];refine ⟨fun _ _=>trivial,?_⟩;rw[if_pos (by rfl)];rcases hu with rfl | ⟨pv,rfl⟩
 have:recoverD (c₀::cs)=none:=by simp[recoverD,hc₀]
 rw[this];refine ⟨fun _ _=>trivial,?_⟩;rw[if_pos (by rfl)];have hm:=main c₀ cs .nilIface .returning hc₀ (.inl ⟨rfl,rfl,rfl⟩);rw[hcs]at hm;rw[←step]at hm;exact hm;have:recoverD (c₀::cs)=some (pv,{ c₀ with mode:=.panicking [{ v:=pv,recovered:=true }] }::cs):=by simp[recoverD,hc₀,Hq]
 rw[this];refine ⟨fun _ _=>trivial,?_⟩;rw[if_pos (by rfl)];have hm:=main c₀ cs pv _ hc₀ (.inr ⟨pv,rfl,rfl,rfl⟩);rw[←step]at hm;exact hm
end
theorem SW {P:Program}{fn:Func}{w0:World}{M0:Nat→Prop}{a:Act}{w:World}{l:List Value}{bs:List Item}{fs:List (World→Prop)}[hr:ax fn []](S:St w0 M0 [] a w l bs fs):(results fn a.tmps).run P w=.ok (.tuple #[]) w:=by
 rw[S.slots,eE (rs:=[])];simp
theorem SX {P:Program}{fn:Func}{t:Array Value}{w:World}{l:List Value}{bs:List Item}{r1 r2 r3:ResultVar}{v1 v2 v3:Value}[hr:ax fn [r1,r2,r3]](hs:t=l.toArray)[h1:mP P l bs r1 v1][h2:mP P l bs r2 v2][h3:mP P l bs r3 v3](hh:∀ it∈bs,it.holds w):(results fn t).run P w=.ok (.tuple ⟨[v1,v2,v3]⟩) w:=by
 rw[hs,eE (rs:=[r1,r2,r3])];simp[fQ (P:=P) (l:=l) (bs:=bs) (rv:=r1) (v:=v1) w hh,fQ (P:=P) (l:=l) (bs:=bs) (rv:=r2) (v:=v2) w hh,fQ (P:=P) (l:=l) (bs:=bs) (rv:=r3) (v:=v3) w hh]
structure XP where
 keep:List (Nat × Value)
 dss:List Deferred
 XW:List PanicEntry→World→Prop
def XP.at (x:XP):Exit→Act→World→Prop
 | .panic ch,a,w=>(∀ p∈x.keep,a.tmps[p.1]? = some p.2)∧a.defers=x.dss∧x.XW ch w
 | _,_,_=>False
def XP.off (x:XP)(o:Oper):Prop:=∀ p∈x.keep,o.dst≠some p.1
theorem XP.put {x:XP}{o:Oper}(h:x.off o){ch:List PanicEntry}{a:Act}{v:Value}{w:World}(hp:x.at (.panic ch) (a.put o.dst v) w):x.at (.panic ch) a w:=by
 obtain ⟨h1,h2,h3⟩:=hp;refine ⟨fun p hpk=>?_,?_,h3⟩;have h1:=h1 p hpk;have h0:=h p hpk;cases hd:o.dst with
 | none=>rw[hd]at h1;exact h1
 | some n=>
  rw[hd]at h1;have hne:n≠p.1:=fun e=>h0 (by rw[hd,e])
  simpa [Act.put,Array.getElem?_setIfInBounds,hne] using h1
 cases hd:o.dst <;> rw[hd]at h2 <;> exact h2
section
variable {P:Program}{ops:Array Oper}{C:World→Prop}{X:XP}
abbrev LS (P:Program)(ops:Array Oper)(X:XP)(i:Nat)(K:Act→World→Prop)(a:Act)(w:World):Prop:=wpOpIn (FW none) 0 P ops X.at i K a w
theorem dG.wnx {i:Nat}{o:Oper}{v:Value}{a:Act}(hi:ops[i]? = some o)(hy:dG P ops C o v a)
  {K:Act→World→Prop} {w:World} (hC:C w) (h:K (a.put o.dst v) w):LS P ops X i K a w:=by
 unfold LS wpOpIn;simp only[hi];rcases hy with ⟨hw,hv⟩ | ⟨hw,rfl⟩
 simp only[hw,if_true,Oper.wpIn,Oper.semAt_none,hv w hC,Oper.uponIn];exact ⟨fun _ _=>trivial,h⟩;simp only[hw,Bool.false_eq_true,if_false];exact ⟨fun _ _=>trivial,h⟩
theorem LU {j:Nat}{oi oj:Oper}{v:Value}(hj:ops[j]? = some oj)(hap:oi.apart ops oj=true)(hoff:X.off oi)
  (hsi:∀ cs b,oi.op≠.select cs b) (hsj:∀ cs b,oj.op≠.select cs b) {K:Act→World→Prop} {a:Act} {w:World}
  (hy:dG P ops C oi v a) (h:LS P ops X j K (a.put oi.dst v) w) :
  LS P ops X j (fun a' w'=>dG P ops C oi v a'∧K (a'.put oi.dst v) w') a w:=by
 obtain ⟨h1,h2,h3⟩:=Oper.apart_spec hap;have keep:∀ (a:Act),dG P ops C oi v a→∀ u,dG P ops C oi v (a.put oj.dst u):=fun a hy u=>
  hy.of_same (execOp_put oi hsi a oj.dst u h3) (wanted_put oi a oj.dst u h3)
 have Hw:∀ d,dG P ops C oi v { a with defers:=d::a.defers }:=fun d=>hy.of_same rfl rfl
 have lets:LetsOut X.at→LetsOut X.at:=id;unfold LS wpOpIn at *;simp only[hj]at *;rw[wanted_put oj a oi.dst v h1]at h;split
 ·rename_i hw
  simp only[hw,if_true]at h;unfold Oper.wpIn at *;refine ⟨fun _ _=>trivial,?_⟩;have h:=h.2;rw[Oper.semAt_none,execOp_put oj hsj a oi.dst v h1]at h;rw[Oper.semAt_none]
  generalize (execOp a.eval oj).run P w=r at *
  cases r with
  | ok x w'=>
   cases x <;> simp only[Oper.uponIn]at h⊢
   case value u=>exact ⟨keep a hy u,by rw[←Act.put_comm a v u h2];exact h⟩
   case skip=>exact ⟨keep a hy _,by rw[←Act.put_comm a v undef h2];exact h⟩
   case defer d=>
    refine ⟨keep _ (Hw d) _,?_⟩;rw[←Act.put_comm _ v undef h2,←Act.put_defers];exact h
   case enter f args=>
    refine ⟨h.1,CallsIn.mono h.2 fun e w'' he=>?_⟩;cases e with
    | returned u=>exact ⟨keep a hy u,by rw[←Act.put_comm a v u h2];exact he⟩
    | panicked c=>exact XP.put hoff he
    | outgrown=>exact he
   case row row args=>exact ⟨h.1,RowsIn.mono h.2 fun u w'' he=>⟨keep a hy u,by rw[←Act.put_comm a v u h2];exact he⟩⟩
   case round l f tmps assign body=>
    refine ⟨h.1,RoundIn.mono h.2 fun e w'' he=>?_⟩;cases e with
    | returned u=>exact ⟨keep a hy u,by rw[←Act.put_comm a v u h2];exact he⟩
    | panicked c=>exact XP.put hoff he
    | outgrown=>exact he
  | halt x w'=>
   cases x <;> simp only[Oper.uponIn]at h⊢
   case panic u=>exact XP.put hoff h
 ·rename_i hw
  simp only[hw]at h;exact ⟨fun _ _=>trivial,keep a hy _,by rw[←Act.put_comm a v undef h2];exact h.2⟩
variable {R:Act→World→Prop}
variable {r:Option Nat}{Q:Exit→Act→World→Prop}{w0:World}{M0:Nat→Prop}{ds:List Deferred}{a:Act}{w:World}{l l':List Value}{bs bs' eD:List Item}{fs dz:List (World→Prop)}
 {d:Option Nat} {op:Op} {ty:TypeId} {pos:String} {af:Array Edge} {rest:List Oper} {v v' G:Value} {j g:Nat} {kZ:Bool} {cs:List Bool} {n:Nat} {listed:Array Bool}
def XP.Pm (x:XP)(ops:Array Oper):Bool:=ops.toList.all fun o=>x.keep.all fun p=>match o.dst with | some n=>!Nat.beq n p.1 | none=>true
theorem XP.FT {x:XP}{ops:Array Oper}(h:x.Pm ops=true){i:Nat}{o:Oper}(hi:ops[i]? = some o):x.off o:=by
 intro p hp e;have h1:=List.all_eq_true.1 (List.all_eq_true.1 h o (by rw[←Array.getElem?_toList]at hi;exact List.mem_of_getElem? hi)) p hp;rw[e]at h1;simp at h1
variable {ord:List (Nat × Bool)}{i:Nat}
theorem XP.of {ch:List PanicEntry}{K:Prop}(S:St w0 M0 ds a w l bs fs)(hk:∀ p∈X.keep,l[p.1]? = some p.2)(hd:ds=X.dss)(h:X.XW ch w):K∨X.at (.panic ch) a w:=
 .inr ⟨fun p hp=>by rw[S.slots];simpa using hk p hp,by rw[S.defers,hd],h⟩
theorem FU {i:Nat}{K:Act→World→Prop}(hQ:∀ ch a w,X.at (.panic ch) a w→Q (.panic ch) a w)(hd:∀ (i:Nat) o,ops[i]? = some o→cE o.op=false)(h:LS P ops X i K a w):wpOpIn (FW r) 0 P ops Q i K a w:=by
 unfold LS wpOpIn at *;cases ho:ops[i]? with
 | none=>simp only[ho]at h⊢;exact h
 | some o=>
  simp only[ho]at h⊢;split
  ·rename_i hw
   rw[if_pos hw]at h;refine ⟨fun _ _=>trivial,?_⟩;have h:=h.2;rw[show (FW none).round=none from rfl]at h;rw[show (FW r).round=r from rfl,w8 (hd i o ho)]
   generalize (o.semAt none a.eval).run P w=q at *
   cases q with
   | ok x w'=>
    cases x <;> simp only[Oper.uponIn]at h⊢<;> first | exact h | skip
    case enter f args=>
     refine ⟨fun h=>(by cases h),trivial,fun cs _=>?_⟩;obtain ⟨e,w',fr,hR,nM,h1,h2⟩:=h.2.2 cs (room_wide _);refine ⟨e,w',fr,?_,nM,h1,h2⟩;cases e with
     | returned v=>exact hR
     | panicked c=>exact hQ _ _ _ hR
     | outgrown=>obtain ⟨_,_,hR⟩:=hR;exact hR.elim
    case round l f tmps assign body=>
     refine ⟨fun h=>(by cases h),trivial,fun c cs _=>?_⟩;obtain ⟨e,w',hR,nM⟩:=h.2.2 c cs (room_wide _);refine ⟨e,w',?_,nM⟩;cases e with
     | returned v=>exact hR
     | panicked c=>exact hQ _ _ _ hR
     | outgrown=>obtain ⟨_,_,hR⟩:=hR;exact hR.elim
   | halt x w'=>
    cases x <;> simp only[Oper.uponIn]at h⊢
    case panic u=>exact hQ _ _ _ h
  ·rename_i hw
   rw[if_neg hw]at h;exact ⟨fun _ _=>trivial,h.2⟩
end
theorem FV (s:ByteArray)(i:Nat)(h:(s.get! i).toNat < 128):Utf8.decode s i=((s.get! i).toNat,1):=by
 unfold Utf8.decode;simp only[Nat.add_zero];rw[if_pos h]
theorem FX (s:ByteArray)(i:Nat)(h:¬(s.get! i).toNat < 128):128≤(Utf8.decode s i).1∧1≤(Utf8.decode s i).2:=by
 unfold Utf8.decode;simp only[Nat.add_zero];rw[if_neg h]
 repeat' split
 all_goals (try simp only[Bool.and_eq_true,decide_eq_true_eq,ge_iff_le]at *)
 all_goals (constructor <;> first | omega | (simp only[Utf8.runeError];omega))
def Hr (r:Nat)(s:List UInt8)(i:Nat):Item where
 aj:=fun k=>k=r
 holds:=fun w=>w.heap[r]? = some (.stringIter ⟨s.toArray⟩ i)
theorem EC (r:Nat)(s:List UInt8)(i:Nat)(w1 w2:World)(h:∀ k,(Hr r s i).aj k→w2.heap[k]? = w1.heap[k]?)(h1:(Hr r s i).holds w1):(Hr r s i).holds w2:=(h r rfl).trans h1
class HY (bs:List Item)(r:Nat)(s:outParam (List UInt8))(i:outParam Nat):Prop where mem:Hr r s i∈bs
instance hsti0 {r:Nat}{s:List UInt8}{i:Nat}{bs:List Item} : HY (Hr r s i::bs) r s i:=⟨List.mem_cons_self ..⟩
section
variable {P:Program}{r0:Option Nat}{ops:Array Oper}{Q:Exit→Act→World→Prop}{w0:World}{M0:Nat→Prop}{ds:List Deferred}{a:Act}{w:World}{l:List Value}{bs:List Item}{fs:List (World→Prop)}
 {d:Option Nat} {op:Op} {ty:TypeId} {pos:String} {af:Array Edge} {rest:List Oper} {t kt et:TypeId} {x:Operand} {b r i:Nat} {s:List UInt8}
theorem SY {l':Nat→List Value}(S:St w0 M0 ds a w l bs fs)[Ev ⟨[],l⟩ x (str s)][ht:dN P t .string][hp:∀ r,cZ l d (.pointer (some ⟨r,0,none⟩)) (l' r)]
  (K:∀ r a w,St w0 M0 ds a w (l' r) (Hr r s 0::bs) fs→WL P r0 ops Q rest a w):WL P r0 ops Q (⟨d,.range t x,ty,pos,af,none⟩::rest) a w:=by
 refine bR rfl ?_;rw[bQ rfl];have e1:(cu a.eval (.range t x) ty).run P w=.ok (.value (.pointer (some ⟨w.heap.size,0,none⟩))) (w.alloc (.stringIter ⟨s.toArray⟩ 0)):=by
  have h2:(Instr.range t (str s)).run P w=.ok (.pointer (some ⟨w.heap.size,0,none⟩)) (w.alloc (.stringIter ⟨s.toArray⟩ 0)):=by
   simp[Instr.range,str,Sem.run_bind,cp,newObj,Sem.run]
  simp[cu,execOp,S.fr.ev (x:=x) (v:=str s),h2]
 simp only[e1,Oper.uponIn];have:=hp w.heap.size;have S':=S.put (d:=d) (v:=.pointer (some ⟨w.heap.size,0,none⟩));refine K _ _ _ ⟨S'.slots,S'.defers,(S.wd.step (aJ.alloc _ w _)).more (y:=Hr w.heap.size s 0) (heap_alloc_new w _) (fun k hk=>by cases hk;exact S.wd.agree.size) (fun k hk=>by cases hk;simp) (fun it hi k hk hk'=>by cases hk;exact absurd (S.wd.lt it hi _ hk') (Nat.lt_irrefl _)) ?_ (EC _ _ _)⟩;intro Φ hΦ w' bP;refine S.wd.facts Φ hΦ w' ((aJ.alloc _ w _).trans' bP fun i hi=>?_);rintro ⟨it,hm,hf⟩;rcases List.mem_cons.1 hm with rfl | hm
 cases hf;omega;exact ⟨it,hm,hf⟩
def FY (more:Bool)(i c:Nat):Value:=bif more then .tuple ⟨[.bool true,.int .i64 (i:Int),.int .i32 (c:Int)]⟩ else .tuple ⟨[.bool false]⟩
instance (priority:=1100) SZ {l:Cx}{more:Bool}{i c:Nat}[Ev l x (FY more i c)]:dO P (.extract x 0) ty l bs fs (.bool more):=⟨fun ρ w h _=>by
 cases more <;> simp[cu,execOp,h.ev (x:=x) (v:=FY _ i c),FY,Instr.extract]⟩
instance (priority:=1100) RJ {l:Cx}{i c:Nat}[Ev l x (FY true i c)]:dO P (.extract x 2) ty l bs fs (.int .i32 (c:Int)):=⟨fun ρ w h _=>by
 simp[cu,execOp,h.ev (x:=x) (v:=FY true i c),FY,Instr.extract]⟩
theorem Ye {l':Bool→Nat→List Value}{bs':Nat→List Item}(S:St w0 M0 ds a w l bs fs)[Ev ⟨[],l⟩ x (.pointer (some ⟨r,0,none⟩))][hm:HY bs r s i][k4:∀ j,dD bs (Hr r s i) (Hr r s j) (bs' j)][hp:∀ m c,cZ l d (FY m i c) (l' m c)]
  (K:∀ (more:Bool) (c wd:Nat) a w,(more=false→s.length≤i)→(more=true→i < s.length∧((s.getD i 0).toNat < 128→c=(s.getD i 0).toNat∧wd=1)∧(¬(s.getD i 0).toNat < 128→128≤c))→St w0 M0 ds a w (l' more c) (bs' (bif more then i+wd else i)) fs→WL P r0 ops Q rest a w) :
  WL P r0 ops Q (⟨d,.next x true,ty,pos,af,none⟩::rest) a w:=by
 refine bR rfl ?_;rw[bQ rfl];have hold:w.heap[r]? = some (.stringIter ⟨s.toArray⟩ i):=S.wd.held _ hm.mem;have hx:a.eval x=.pointer (some ⟨r,0,none⟩):=S.fr.ev;have hlt:r < w.heap.size:=(Array.getElem?_eq_some_iff.1 hold).1;have S5:(getObj r).run P w=.ok (.stringIter ⟨s.toArray⟩ i) w:=by simp[getObj,Sem.run,hold]
 have S6:(⟨s.toArray⟩:ByteArray).get! i=s.getD i 0:=by
  show s.toArray[i]! = _
  simp[List.getD_eq_getElem?_getD];rfl
 have hsz:(⟨s.toArray⟩:ByteArray).size=s.length:=by simp[ByteArray.size]
 by_cases hi:i < s.length
 ·have e1:(cu a.eval (.next x true) ty).run P w=.ok (.value (FY true i (Utf8.decode ⟨s.toArray⟩ i).1)) (w.putObj r (.stringIter ⟨s.toArray⟩ (i+(Utf8.decode ⟨s.toArray⟩ i).2))):=by
   simp only[cu,execOp,hx,Instr.next,Sem.run_bind,S5,Result.andThen,hsz,hi,if_true];simp[setObj,Sem.run,hold,World.putObj,FY,goInt]
  simp only[e1,Oper.uponIn];have:=hp true (Utf8.decode ⟨s.toArray⟩ i).1;have S':=S.put (d:=d) (v:=FY true i (Utf8.decode ⟨s.toArray⟩ i).1);refine K true _ _ _ _ (fun h=>by cases h) (fun _=>⟨hi,fun h=>?_,fun h=>?_⟩) (S.lg (x:=Hr r s i) (y:=Hr r s (i+(Utf8.decode ⟨s.toArray⟩ i).2)) S'.slots S'.defers (hr:=k4 _) rfl (aJ.putObj w r _ rfl) (World.putObj_heap_same hlt) (fun k hk=>.inl hk) (fun k hk=>by cases hk;simpa using hlt) (EC _ _ _))
  ·rw[←S6]at h⊢
   rw[FV _ _ h];exact ⟨rfl,rfl⟩
  ·rw[←S6]at h
   exact (FX _ _ h).1
 ·have e1:(cu a.eval (.next x true) ty).run P w=.ok (.value (FY false i 0)) w:=by
   simp only[cu,execOp,hx,Instr.next,Sem.run_bind,S5,Result.andThen,hsz,hi,if_false];simp[FY]
  simp only[e1,Oper.uponIn];have:=hp false 0;have S':=S.put (d:=d) (v:=FY false i 0);have Af:=k4 i;obtain ⟨pre,post,rfl,hb⟩:=Af.ex;refine K false 0 0 _ _ (fun _=>by omega) (fun h=>by cases h) ?_
  show St _ _ _ _ _ _ (bs' i) _
  rw[hb];exact S'
end
instance Yf {P:Program}{l:Cx}{bs:List Item}{fs:List (World→Prop)}{x:Operand}{t t' ty:TypeId}[Ev l x .nilIface][hi:X7 P t]:dO P (.binOp .neq t x (.const .nilIface) t') ty l bs fs (.bool false):=⟨fun ρ w h _=>by
 have e2:ρ (.const .nilIface)=.nilIface:=h.ev (x:=.const .nilIface) (v:=.nilIface);simp[cu,execOp,h.ev (x:=x) (v:=.nilIface),e2,eqGuard,binOp,run_equal_nil_nil w t hi.eq]⟩
instance opIfN {P:Program}{l:Cx}{bs:List Item}{fs:List (World→Prop)}{x:Operand}{t t' ty:TypeId}{te:TypeId}{pe:Value}[Ev l x (.iface te pe)][hi:X7 P t]:dO P (.binOp .neq t x (.const .nilIface) t') ty l bs fs (.bool true):=⟨fun ρ w h _=>by
 have e2:ρ (.const .nilIface)=.nilIface:=h.ev (x:=.const .nilIface) (v:=.nilIface);simp[cu,execOp,h.ev (x:=x) (v:=.iface te pe),e2,eqGuard,binOp,run_equal_held_nil w t te pe hi.eq]⟩
class Yg (P:Program)(t:TypeId):Prop where ex:∃ fs,P.underlying t=some (.struct fs)
instance S7 {P:Program}{l:Cx}{bs:List Item}{fs:List (World→Prop)}{x:Operand}{tx t ty:TypeId}{pe:Value}[Ev l x (.iface t pe)][hs:Yg P t]:dO P (.typeAssert x tx t true) ty l bs fs (.tuple ⟨[pe,.bool true]⟩):=⟨fun ρ w h _=>by
 obtain ⟨fs,hf⟩:=hs.ex;simp[cu,execOp,h.ev (x:=x) (v:=.iface t pe),Instr.typeAssert,Sem.run_bind,run_underlying hf w]⟩
instance Yh {P:Program}{l:Cx}{bs:List Item}{fs:List (World→Prop)}{x:Operand}{t ty:TypeId}{v:Value}[Ev l x v][hs:Yg P t]:dO P (.makeInterface t x) ty l bs fs (.iface t v):=⟨fun ρ w h _=>by
 obtain ⟨fs,hf⟩:=hs.ex;simp[cu,execOp,h.ev (x:=x) (v:=v),Instr.makeInterface,Sem.run_bind,run_underlying hf w]⟩
section
variable {P:Program}{ls:Cx}{bs:List Item}{fs:List (World→Prop)}{x y:Operand}{b off k n sz o o':Nat}{kk:IntKind}{m:Int}{t ty e:TypeId}{z:Value}{dy:Nat}
instance (priority:=860) S8 [Ev ls x (.pointer (some ⟨b,off,none⟩))][Ev ls y (.int kk m)][hm:ey m k][ht:dN P t (.array n e)][TI P e z sz dy][hk:cx k n][ho:uq k sz o][ho':OQ off o o'] :
  dO P (.indexAddr t x y) ty ls bs fs (.pointer (some ⟨b,o',none⟩)):=⟨fun ρ w h mm=>by
 have e1:=hm.eq;subst e1;have h1:(k:Int) < n:=by have:=hk.lt;omega
 have e2:(⟨b,off,none⟩:Addr).add (k*sz)=⟨b,o',none⟩:=by rw[ho.eq,←ho'.eq];exact AF b off o
 simp[cu,execOp,h.ev (x:=x) (v:=.pointer (some ⟨b,off,none⟩)),h.ev (x:=y) (v:=.int kk (k:Int)),Instr.indexAt,asIntOf,Sem.run_bind,cp,Instr.sureAddr,cv,e2,Int.natCast_nonneg];intro hle;have:=hk.lt;omega⟩
end
open Go Go.Deep Go.ChangeShapes Go.WideShapes Go.ChangeAt Go.RowKit
structure A3 (α:Type) where
 a:α
 b:α
 c:α
def A3.l {α:Type}(x:A3 α):List α:=[x.a,x.b,x.c]
instance S9 {α:Type}[i:dW α]:cX (A3 α):=⟨3*cX.sz α,fun x=>cX.cells x.a++(cX.cells x.b++cX.cells x.c),fun x=>by simp[cX.len];omega,fun x u hu=>by
 simp only[List.mem_append]at hu;rcases hu with h | h | h <;> exact cX.one _ _ h⟩
instance layA3 {α:Type}[i:dW α]:dW (A3 α):={ S9 with
 dflt:=⟨dW.dflt,dW.dflt,dW.dflt⟩
 ny:=fun w x=>dW.ny w x.a∧dW.ny w x.b∧dW.ny w x.c
 mono:=fun w w' _x h hx=>⟨dW.mono w w' _ h hx.1,dW.mono w w' _ h hx.2.1,dW.mono w w' _ h hx.2.2⟩ }
end Go.Wk
namespace Go.Proofs.YtdakncgafdnjfaaGreat
open Go.Proofs.Tryz
open Go Go.Wk
set_option synthInstance.maxSize 100000
set_option synthInstance.maxHeartbeats 400000
set_option maxRecDepth 100000
structure aK where
 user:Int
 cnt:Int
 root:ak
structure fV where
 user:Int
 cnt:Int
 root:Term
def aK.s (x:aK):fV:=⟨x.user,x.cnt,x.root.t⟩
abbrev kH (s:aK):List Value:=[.int .i64 s.user,.int .i64 s.cnt,.int .i64 s.root.kind,.int .i64 s.root.user,.int .i64 s.root.num,str s.root.text,.slice s.root.p s.root.kids.length s.root.cap]
instance LW:cX aK:=⟨7,kH,fun _=>rfl,fun x u hu=>by simp only[List.mem_cons,List.not_mem_nil,or_false]at hu;rcases hu with rfl | rfl | rfl | rfl | rfl | rfl | rfl <;> rfl⟩
instance ED:dW aK:={ LW with
 dflt:=⟨0,0,eO⟩
 ny:=fun w s=>f_ w s.root
 mono:=fun _w _w' s h hw=>f_.mono h s.root hw }
instance:Ai aK 7:=⟨rfl,by decide⟩
instance {s:aK} : gx s (kH s):=⟨rfl⟩
def pY (n:Int):Bool:=decide (1≤n)&&decide (n≤65535)
def eH:Int→List fV→Bool
 | _,[]=>true
 | k,s::l=>decide (k < s.user)&&bX s.user&&pY s.cnt&&decide (cR s.root=0)&&eH s.user l
theorem AJ (k u:Int)(x y z:Bool):(decide (u≤k)||!x||!y||!z) = !(decide (k < u)&&x&&y&&z):=by
 by_cases h:k < u
 rw[decide_eq_true h,decide_eq_false (show ¬u≤k by omega)];cases x <;> cases y <;> cases z <;> rfl
 rw[decide_eq_false h,decide_eq_true (show u≤k by omega)];cases x <;> cases y <;> cases z <;> rfl
theorem HZ (n:Int)(w:World):aT prog 201 [.int .i64 n] w (fun _=>False) fun v _=>v=.bool (bX n):=by
 refine E1 func201 rfl ntmps201 (Wd.start w) ?_;intro a S;refine D8 ?_;intro a S;exact aD S (fun _=>rfl)
instance {n:Int}{bs fs} : cB prog 201 [.int .i64 n] bs fs (.bool (bX n)):=⟨fun w _=>HZ n w⟩
theorem AK (n:Int)(w:World):aT prog 202 [.int .i64 n] w (fun _=>False) fun v _=>v=.bool (pY n):=by
 refine E1 func202 rfl ntmps202 (Wd.start w) ?_;intro a S;refine D8 ?_;intro a S;exact aD S (fun _=>rfl)
instance {n:Int}{bs fs} : cB prog 202 [.int .i64 n] bs fs (.bool (pY n)):=⟨fun w _=>AK n w⟩
def xo (l:List fV):Int:=if eH 0 l then 0 else 262
abbrev cU (l:List aK):List fV:=l.map aK.s
theorem FZ (l:List aK)(p:Option Addr)(n c:Nat)(w0:World)(hn:l.length=n)(hl:n≤1000000)(hx:Fx w0 (av p l)) :
  aT prog 116 [.slice p n c] w0 (fun _=>False) fun v _=>v=.int .i64 (xo (cU l)):=by
 subst hn;refine E1 func116 rfl ntmps116 (Wd.begin (fs:=[av p l]) (by simpa using hx)) ?_;intro a S;refine OP ?_;intro a S;refine iI S (fun(k:Nat) (last:Int) uu=>[(2,uu 2),(0,.int .i64 last),(1,uu 5),(2,.int .i64 (k:Nat)),(0,uu 9),(0,uu 10),(0,uu 11),(0,uu 12),(0,uu 13),(0,uu 14),(0,uu 15),(0,uu 16),(0,uu 17),(0,uu 18),(0,uu 19),(0,uu 20),(0,uu 21),(0,uu 22),(0,uu 23),(0,uu 24),(0,uu 25),(0,uu 26),(0,uu 27),(0,uu 28),(0,uu 29),(0,uu 30),(0,uu 31),(0,uu 32),(0,uu 33),(0,uu 34),(0,uu 35),(0,uu 36)]) (fun(k:Nat) (last:Int)=>[]) (fun(k:Nat) (last:Int)=>[av p l]) (fun(k:Nat) (last:Int)=>k≤l.length∧eH last (cU (l.drop k))=eH 0 (cU l)) (fun(k:Nat) (last:Int)=>l.length - k) (0) (0) ?_ S.uu ?_ ?_;exact ⟨Nat.zero_le _,rfl⟩
 first | exact S | exact S.sub _ _
 clear S;rintro k last uu a w ⟨hk,aI⟩ S;refine J6 ?_;intro a S;refine kC S (fun h3=>?_) (fun h3=>?_);refine kK (aQ (kS (kB (kS ?_))));have bn:k < l.length:=by simp at h3;omega
 have hK:cx k l.length:=⟨bn⟩;replace aI:(decide (last < (aq l k).user)&&bX (aq l k).user&&pY (aq l k).cnt&&decide (cR (aq l k).root.t=0)&&eH (aq l k).user (cU (l.drop (k+1))))=eH 0 (cU l):=by
  rw[←aI,bE bn];rfl
 refine J3 ?_;intro a S;refine sa S ?_;intro b5 a w S;refine Y5 ?_;intro a w S;replace S:=S.add (Φ:=dc (aq l k).root) ((S.mem.fact (av p l)).imp fun _ h=>h.2 _ (bh bn));refine sP ?_;intro a w S;refine Y5 ?_;intro a w S;refine kC S (fun h5=>?_) (fun h5=>?_);refine jq ?_;intro a S;refine aD S (fun _=>?_);rw[AJ]at h5;rw[show (decide (last < (aq l k).user)&&bX (aq l k).user&&pY (aq l k).cnt&&decide (cR (aq l k).root.t=0))=false from by simpa only[Bool.not_eq_true'] using h5,Bool.false_and]at aI;rw[xo,←aI];rfl;refine ug ?_;intro a S;rw[AJ]at h5;rw[show (decide (last < (aq l k).user)&&bX (aq l k).user&&pY (aq l k).cnt&&decide (cR (aq l k).root.t=0))=true from by simpa only[Bool.not_eq_false'] using h5,Bool.true_and]at aI;rw[w6 ((k:Int)+1)]at S;exact ⟨k+1,_,S.uu,⟨bn,aI⟩,S.sub _ _,by omega⟩;refine gM ?_;intro a S;rw[List.drop_of_length_le (by simp at h3;omega)]at aI;refine aD S (fun _=>?_);rw[xo,←aI];rfl
instance {l:List aK}{p:Option Addr}{n c:Nat}{bs fs}[hg:lI fs p aK ED l][hn:eu l n][hk:eS n 1000000]:cB prog 116 [.slice p n c] bs fs (.int .i64 (xo (cU l))):=⟨fun w m=>FZ l p n c w hn.eq hk.le ((hg.of _ _ m.facts).less fun _ _ h=>h.elim)⟩
def EE (c:UInt8):Bool:=decide (33≤c.toNat)&&decide (c.toNat≤126)
def lu (s:List UInt8):Bool:=s.all EE&&decide (1≤s.length)&&decide (s.length≤24)
theorem H6 (s:List UInt8)(hl:s.length≤1000000)(w0:World):aT prog 267 [str s] w0 (fun _=>False) fun v _=>v=.bool (lu s):=by
 refine E1 func267 rfl ntmps267 (Wd.start w0) ?_;intro a S;refine J9 ?_;intro a S;refine SY S ?_;intro b6 a w S;refine kN (aQ (kB ?_));refine yK S (fun(i:Nat) uu=>[(2,uu 2),(1,uu 4),(2,uu 7),(0,uu 8),(0,uu 9),(0,uu 10),(0,uu 11),(0,uu 12),(0,uu 13),(0,uu 14),(0,uu 15)]) (fun(i:Nat)=>[Wk.Hr b6 s i]) (fun(i:Nat)=>i≤s.length∧∀ j,j < i→EE (s.getD j 0)=true) (fun(i:Nat)=>s.length - i) (0) ?_ S.uu ?_ ?_;exact ⟨Nat.zero_le _,fun j hj=>by omega⟩
 first | exact S | exact S.sub _ _
 clear S;rintro i uu a w ⟨hi,aI⟩ S;refine kS (kR ?_);refine Ye S ?_;intro more c wd a w Yi hmt S;refine J4 ?_;intro a S;refine kC S (fun h2=>?_) (fun h2=>?_);refine kK (aQ (kB (kS ?_)));obtain rfl:more=true:=h2;obtain ⟨hil,hlo,hhi⟩:=hmt rfl;refine tI ?_;intro a S;refine kC S (fun h4=>?_) (fun h4=>?_);refine mJ ?_;intro a S;have Pn:EE (s.getD i 0)=false:=by
  simp only[Bool.or_eq_true,decide_eq_true_eq]at h4
  by_cases hc:(s.getD i 0).toNat < 128
  obtain ⟨rfl,-⟩:=hlo hc;simp only[EE,Bool.and_eq_false_iff,decide_eq_false_iff_not];omega;simp only[EE,Bool.and_eq_false_iff,decide_eq_false_iff_not];omega
 refine aD S (fun _=>?_);have:lu s=false:=by
  have hall:s.all EE=false:=List.all_eq_false.2 ⟨s.getD i 0,by rw[List.getD_eq_getElem?_getD,List.getElem?_eq_getElem hil];exact List.getElem_mem hil,by rw[Pn];simp⟩;rw[lu,hall];rfl
 rw[this];refine kK (qw (aQ ?_));simp only[Bool.or_eq_false_iff,decide_eq_false_iff_not]at h4;have hc:(s.getD i 0).toNat < 128:=Classical.byContradiction fun hc=>by have:=hhi hc;omega
 obtain ⟨rfl,rfl⟩:=hlo hc;rw[show (bif true then i+1 else i)=i+1 from rfl]at S;refine ⟨i+1,S.uu,⟨hil,fun j hj=>?_⟩,S.sub _ _,by omega⟩;rcases Nat.lt_or_ge j i with h | h
 exact aI j h;obtain rfl:j=i:=by omega
 simp only[EE,Bool.and_eq_true,decide_eq_true_eq];omega;refine OP ?_;intro a S;have hall:s.all EE=true:=by
  have hle:=Yi h2;refine List.all_eq_true.2 fun x hx=>?_
  obtain ⟨j,hj,rfl⟩:=List.getElem_of_mem hx;have:=aI j (by omega)
  rwa [List.getD_eq_getElem?_getD,List.getElem?_eq_getElem hj]at this
 refine aD S (fun _=>?_);rw[lu,hall,Bool.true_and]
 congr 1
 rw[Bool.eq_iff_iff];simp only[Bool.and_eq_true,decide_eq_true_eq];omega
instance {s:List UInt8}{bs fs}[h:eS s.length 1000000]:cB prog 267 [str s] bs fs (.bool (lu s)):=⟨fun w _=>H6 s h.le w⟩
theorem LX (n:Int)(w:World):aT prog 246 [.int .i64 n] w (fun _=>False) fun v _=>v=.bool (bX n):=by
 refine E1 func246 rfl ntmps246 (Wd.start w) ?_;intro a S;refine D8 ?_;intro a S;exact aD S (fun _=>rfl)
instance {n:Int}{bs fs} : cB prog 246 [.int .i64 n] bs fs (.bool (bX n)):=⟨fun w _=>LX n w⟩
def iT (s:List UInt8):Int:=if lu s=true∧3≤s.length∧(aq s 1).toNat=47∧bX (((aq s 0).toNat:Int) - 48)=true then ((aq s 0).toNat:Int) - 48 else 0
theorem H7 (s:List UInt8)(hl:s.length≤1000000)(w0:World):aT prog 247 [str s] w0 (fun _=>False) fun v _=>v=.int .i64 (iT s):=by
 have hL:eS s.length 1000000:=⟨hl⟩;refine E1 func247 rfl ntmps247 (Wd.start w0) ?_;intro a S;refine CD ?_;intro a w S;refine gS S (fun hs S=>?_) (fun hs S=>?_);refine Hj S ?_;intro a S;(iterate 2 (refine Hj S ?_;intro a S));refine sq S ?_;intro a S;refine kN (aQ ?_);refine tH S ?_;refine kS (kR (sq S ?_));intro a S;refine kN (aQ (kT (tG ?_)));refine aD S (fun _=>?_);rw[iT,if_neg];rintro ⟨h1,h2,-⟩;rw[h1]at hs;simp at hs;omega;refine jr S ?_;refine sq S ?_;intro a S;refine jr S ?_;have h3:lu s=true∧3≤s.length:=by
  simp only[Bool.or_eq_false_iff,Bool.not_eq_false',decide_eq_false_iff_not]at hs;exact ⟨hs.1,by have:=hs.2;omega⟩
 have SQ:cx 1 s.length:=⟨by omega⟩;have Yj:cx 0 s.length:=⟨by omega⟩;refine sq S ?_;intro a S;refine jr S ?_;(iterate 2 (refine sq S ?_;intro a S));refine kN (aQ ?_);refine kC S (fun h1=>?_) (fun h1=>?_);refine J7 ?_;intro a S;refine aD S (fun _=>?_);rw[iT,if_neg];rintro ⟨-,-,h4,-⟩;simp at h1;omega;refine J7 ?_;intro a S;have hb:=UInt8.toNat_lt (aq s 0);refine J1 ?_;intro a S;rw[w6 _]at S;refine J1 ?_;intro a S;rw[w6 _]at S;refine Y9 ?_;intro a w S;refine kC S (fun h4=>?_) (fun h4=>?_);refine J8 ?_;intro a S;refine aD S (fun _=>?_);rw[iT,if_pos ⟨h3.1,h3.2,by simp at h1;omega,h4⟩];refine J8 ?_;intro a S;refine aD S (fun _=>?_);rw[iT,if_neg];rintro ⟨-,-,-,h5⟩;rw[h5]at h4;cases h4
instance {s:List UInt8}{bs fs}[h:eS s.length 1000000]:cB prog 247 [str s] bs fs (.int .i64 (iT s)):=⟨fun w _=>H7 s h.le w⟩
theorem uN {s:List UInt8}(h:0 < iT s):3≤s.length∧iT s=((aq s 0).toNat:Int) - 48:=by
 unfold iT at h⊢;split at h
 rename_i hc
 rw[if_pos hc];exact ⟨hc.2.1,rfl⟩;omega
abbrev opV (u:Int)(s:List UInt8):Value:=.agg ⟨[.int .i64 3,.int .i64 u,str s,.int .i64 0,.int .i64 0,.bool false,.int .i64 0,.int .i64 0,.int .i64 0,.string ⟨#[]⟩,.slice none 0 0]⟩
theorem CW (u:Int)(s:List UInt8)(hl:s.length≤1000000)(w0:World):aT prog 199 [opV u s] w0 (fun _=>False) fun v _=>v=.int .i64 (if bX u&&decide (0 < iT s) then 0 else 281):=by
 have hL:eS s.length 1000000:=⟨hl⟩;refine E1 func199 rfl ntmps199 (Wd.start w0) ?_;intro a S;refine kS (kR ?_);refine sa S ?_;intro b1 a w S;refine sP ?_;intro a w S;refine WQ ?_;intro a w S;refine gS S (fun hs S=>?_) (fun hs S=>?_);refine gT S ?_;refine sq S ?_;intro a S;refine gT S ?_;refine sq S ?_;intro a S;refine gT S ?_;refine sq S ?_;intro a S;rw[show decide ((2:Int) < 3)=true from rfl]at S;refine gT S ?_;refine sq S ?_;intro a S;(iterate 3 (refine Hj S ?_;intro a S));refine gT S ?_;(iterate 3 (refine sq S ?_;intro a S));refine kN (aQ (kS (kS (kR ?_))));(iterate 2 (refine sq S ?_;intro a S));refine kN (aQ ?_);refine jS S ?_;refine kK (aQ (kS ?_));refine J5 ?_;intro a S;refine aD S (fun _=>?_);rw[show (decide ((1:Int)≤3)&&decide ((3:Int)≤10))=true from rfl,show decide ((7:Int) < 3)=false from rfl,Bool.true_and,Bool.false_or]at hs;rw[hs];rfl;refine gF S ?_;intro a S;(iterate 3 (refine gF S ?_;intro a S));(iterate 3 (refine gU S ?_;intro a S));refine gF S ?_;intro a S;(iterate 2 (refine sq S ?_;intro a S));refine kN (aQ (kS (kS (kR ?_))));(iterate 2 (refine sq S ?_;intro a S));refine kN (aQ ?_);refine tH S ?_;refine J7 ?_;intro a S;refine aD S (fun _=>?_);rw[show (decide ((1:Int)≤3)&&decide ((3:Int)≤10))=true from rfl,show decide ((7:Int) < 3)=false from rfl,Bool.true_and,Bool.false_or]at hs;rw[hs];rfl
def kJ (u:Int)(s:List UInt8):Bool:=bX u&&decide (iT s=u)
theorem xp (u:Int)(s:List UInt8):kJ u s=(bX u&&decide (0 < iT s)&&decide (iT s=u)):=by
 rw[kJ];cases hu:bX u with
 | false=>rfl
 | true=>
  have h1:1≤u:=by simp only[bX,Bool.and_eq_true,decide_eq_true_eq]at hu;omega
  rw[Bool.true_and,Bool.true_and]
  by_cases h:iT s=u
  rw[decide_eq_true h,decide_eq_true (show 0 < iT s by omega)];rfl;rw[decide_eq_false h,Bool.and_false]
theorem H8 (u:Int)(s:List UInt8)(hl:s.length≤1000000)(w0:World):aT prog 114 [.int .i64 u,str s] w0 (fun _=>False) fun v _=>v=.bool (kJ u s):=by
 have hL:eS s.length 1000000:=⟨hl⟩;refine E1 func114 rfl ntmps114 (Wd.start w0) ?_;intro a S;refine mJ ?_;intro a S;refine sa S ?_;intro b5 a w S;refine Y6 ?_;intro a w S;refine sr S (CW u s hl _) ?_;rintro _ a w rfl S;refine J1 ?_;intro a S;rw[show decide ((if (bX u&&decide (0 < iT s))=true then (0:Int) else 281)=0)=(bX u&&decide (0 < iT s)) from by cases bX u&&decide (0 < iT s) <;> rfl]at S;refine J1 ?_;intro a S;refine gS S (fun hs S=>?_) (fun hs S=>?_);refine gT S ?_;refine sq S ?_;intro a S;refine gT S ?_;have hown:=uN (s:=s) (by simp only[Bool.and_eq_true,decide_eq_true_eq]at hs;exact hs.2);have Yj:cx 0 s.length:=⟨by omega⟩;have hb:=UInt8.toNat_lt (aq s 0);refine sq S ?_;intro a S;refine gT S ?_;refine sq S ?_;intro a S;rw[w6 _]at S;refine gT S ?_;refine sq S ?_;intro a S;rw[w6 _,←hown.2]at S;refine gT S ?_;refine sq S ?_;intro a S;refine gT S ?_;(iterate 3 (refine sq S ?_;intro a S));refine kN (aQ (kT ?_));refine aD S (fun _=>?_);rw[xp,hs,Bool.true_and];refine gF S ?_;intro a S;(iterate 5 (refine gF S ?_;intro a S));(iterate 2 (refine sq S ?_;intro a S));refine kN (aQ (kT ?_));refine aD S (fun _=>?_);rw[xp,hs,Bool.false_and]
instance {u:Int}{s:List UInt8}{bs fs}[h:eS s.length 1000000]:cB prog 114 [.int .i64 u,str s] bs fs (.bool (kJ u s)):=⟨fun w _=>H8 u s h.le w⟩
def iK (n:Int):Bool:=decide (0≤n)&&decide (n≤65535)
theorem F0 (F:Nat)[aF prog F](ca:List Value)(q:Int→Bool)(xs:List Int)(p:Option Addr)(n c:Nat)(w0:World)(hn:xs.length=n)(hl:n≤9223372036854775807)(hx:Fx w0 (av p xs))
  (hF:∀ x∈xs,∀ w,aJ (fun _=>False) w0 w→aT prog F (.int .i64 x::ca) w (fun _=>False) fun v _=>v=.bool (q x)) :
  aT prog 245 [.slice p n c,.func (.func F) #[] ⟨ca⟩] w0 (fun _=>False) fun v _=>v=.int .i64 (lZ q xs 0):=by
 refine E1 func245 rfl ntmps245 (Wd.begin (fs:=[av p xs]) (by simpa using hx)) ?_;intro a S;refine ug ?_;intro a S;refine iH S (fun(k:Nat) uu=>[(4,uu 4),(0,uu 5),(2,.int .i64 (k:Nat)),(0,uu 9),(0,uu 10),(0,uu 11),(0,uu 12),(0,uu 13),(0,uu 14),(0,uu 15),(0,uu 16),(0,uu 17),(0,uu 18)]) (fun(k:Nat)=>k≤n∧lZ q (xs.drop k) k=lZ q xs 0) (fun(k:Nat)=>n - k) (0) ?_ S.uu ?_ ?_;exact ⟨Nat.zero_le _,rfl⟩
 first | exact S | exact S.sub _ _
 clear S;rintro k uu a w ⟨hk,aI⟩ S;refine J6 ?_;intro a S;refine kC S (fun h2=>?_) (fun h2=>?_);refine gM ?_;intro a S;have bn:k < n:=by simp at h2;omega
 have hK:cx k n:=⟨bn⟩;have Cq:cx k xs.length:=⟨by omega⟩;rw[bE (show k < xs.length by omega),lZ]at aI;refine J6 ?_;intro a S;refine sr S (hF (aq xs k) (bh (by omega)) w S.wd.agree) ?_;rintro _ a w rfl S;refine kN (aQ ?_);refine kC S (fun h4=>?_) (fun h4=>?_);refine jq ?_;intro a S;rw[if_pos h4]at aI;refine aD S (fun _=>?_);rw[aI];refine J8 ?_;intro a S;rw[if_neg (by simpa using h4)]at aI;rw[w6 ((k:Int)+1)]at S;exact ⟨k+1,S.uu,⟨bn,by rw[←aI];rfl⟩,S.sub _ _,by omega⟩;refine gM ?_;intro a S;rw[List.drop_of_length_le (by simp at h2;omega)]at aI;refine aD S (fun _=>?_);rw[←aI];rfl
theorem yO (F:Nat)[aF prog F](ca:List Value)(q:Int→Bool)(xs:List Int)(p:Option Addr)(n c:Nat)(w0:World)(hn:xs.length=n)(hl:n≤9223372036854775807)(hx:Fx w0 (av p xs))
  (hF:∀ x∈xs,∀ w,aJ (fun _=>False) w0 w→aT prog F (.int .i64 x::ca) w (fun _=>False) fun v _=>v=.bool (q x)) :
  aT prog 197 [.slice p n c,.func (.func F) #[] ⟨ca⟩] w0 (fun _=>False) fun v _=>v=.bool (xs.any q):=by
 refine E1 func197 rfl ntmps197 (Wd.begin (fs:=[av p xs]) (by simpa using hx)) ?_;intro a S;refine J9 ?_;intro a S;refine sr S (F0 F ca q xs p n c _ hn hl (S.j9 p) fun x hx w' bP=>hF x hx w' (S.wd.agree.trans bP)) ?_;rintro _ a w rfl S;refine J5 ?_;intro a S;refine aD S (fun _=>?_);rw[nS q xs 0 (by omega)]
theorem CX (x:Int)(w0:World):aT prog 198 [.int .i64 x] w0 (fun _=>False) fun v _=>v=.bool (!iK x):=by
 refine E1 func198 rfl ntmps198 (Wd.start w0) ?_;intro a S;refine D8 ?_;intro a S;refine aD S (fun _=>?_)
 congr 1
 rw[iK]
 by_cases h1:x < 0
 rw[decide_eq_true h1,decide_eq_false (show ¬0≤x by omega)];rfl
 by_cases h2:65535 < x
 rw[decide_eq_true h2,decide_eq_false (show ¬x≤65535 by omega),Bool.or_true,Bool.and_false];rfl;rw[decide_eq_false h1,decide_eq_false h2,decide_eq_true (show 0≤x by omega),decide_eq_true (show x≤65535 by omega)];rfl
theorem lz {α:Type}(q:α→Bool):∀ xs:List α,(!xs.any fun x=>!q x)=xs.all q
 | []=>rfl
 | x::xs=>by rw[List.any_cons,List.all_cons,←lz q xs];cases q x <;> simp
theorem xq (xs:List Int)(p:Option Addr)(n c:Nat)(w0:World)(hn:xs.length=n)(hl:n≤1000000)(hx:Fx w0 (av p xs)):aT prog 113 [.slice p n c] w0 (fun _=>False) fun v _=>v=.bool (xs.all iK):=by
 refine E1 func113 rfl ntmps113 (Wd.begin (fs:=[av p xs]) (by simpa using hx)) ?_;intro a S;refine J8 ?_;intro a S;refine sr S (yO 198 [] (fun x=>!iK x) xs p n c _ hn (by omega) (S.j9 p) (fun x _ w' _=>CX x w')) ?_;rintro _ a w rfl S;refine J5 ?_;intro a S;refine aD S (fun _=>?_);rw[lz]
structure aW where
 user:Int
 leaf:Int
 counter:Int
 num:Int
 sp:Option Addr
 sc:Nat
 ah:List aH
 vp:Option Addr
 vc:Nat
 aA:List aH
 ep:Option Addr
 ec:Nat
 seen:List aK
abbrev cN (m:aW):List Value:=[.int .i64 m.user,.int .i64 m.leaf,.int .i64 m.counter,.int .i64 m.num,.slice m.sp m.ah.length m.sc,.slice m.vp m.aA.length m.vc,.slice m.ep m.seen.length m.ec]
abbrev fJ (m:aW):Value:=.agg ⟨[.int .i64 m.user,.int .i64 m.leaf,.int .i64 m.counter,.int .i64 m.num,.slice m.sp m.ah.length m.sc,.slice m.vp m.aA.length m.vc,.slice m.ep m.seen.length m.ec]⟩
def aE (m:aW):World→Prop:=fun w=>av m.sp m.ah w∧av m.vp m.aA w∧av m.ep m.seen w
structure bJ where
 user:Int
 leaf:Int
 counter:Int
 num:Int
 ah:List aH
 aA:List aH
 seen:List fV
def aW.m (x:aW):bJ:=⟨x.user,x.leaf,x.counter,x.num,x.ah,x.aA,cU x.seen⟩
structure dY (m:aW):Prop where
 ah:m.ah.length≤1000
 aA:m.aA.length≤1000
 seen:m.seen.length≤1000
 names:∀ x∈m.ah,x.key.length≤1000
 keys:∀ x∈m.aA,x.key.length≤1000
def iL (u:Int):List UInt8→List aH→Bool
 | _,[]=>true
 | k,s::l=>kJ u s.key&&Op.bytesLess k s.key&&decide (0 < s.dS)&&iK s.dS&&iL u s.key l
def nT (m:bJ):Bool:=decide (1≤m.user)&&decide (m.user≤6)&&(iK m.leaf&&(iK m.counter&&iK m.num))&&decide ((m.ah.length:Int)≤6)
def b_ (m:bJ):Bool:=nT m&&iL m.user [] m.ah&&EA m.aA&&eH 0 m.seen
def jQ (m:bJ):Int:=if b_ m then 0 else 300
theorem AL (l:List aH):decide (xm l=0)=EA l:=by rw[xm];cases EA l <;> rfl
theorem uO (l:List fV):decide (xo l=0)=eH 0 l:=by rw[xo];cases eH 0 l <;> rfl
set_option maxHeartbeats 2000000 in
theorem qK (m:aW)(hfit:dY m)(w0:World)(hm:Fx w0 (aE m)):aT prog 37 [fJ m] w0 (fun _=>False) fun v _=>v=.int .i64 (jQ m.m):=by
 have nw:=hfit.ah;have rU:=hfit.aA;have LY:=hfit.seen;have K8:eS m.aA.length 9223372036854775807:=⟨by omega⟩;have Hs:eS m.seen.length 1000000:=⟨by omega⟩;refine E1 func37 rfl ntmps37 (Wd.begin (fs:=[av m.sp m.ah,av m.vp m.aA,av m.ep m.seen]) (by simp;exact ⟨hm.imp fun _ h=>h.1,hm.imp fun _ h=>h.2.1,hm.imp fun _ h=>h.2.2⟩)) ?_;intro a S;refine kS (kR ?_);refine sa S ?_;intro b1 a w S;refine J3 ?_;intro a S;refine qH S (fun(Po:Bool) uu=>[(3,.bool Po),(3,uu 7),(0,uu 8),(0,uu 9),(0,uu 10),(0,uu 11),(0,uu 12),(0,uu 13),(0,uu 14),(0,uu 15),(0,uu 16),(0,uu 17),(0,uu 18),(0,uu 19),(0,uu 20),(0,uu 21),(0,uu 22),(0,uu 23),(0,uu 24),(0,uu 25),(0,uu 26),(0,uu 27),(0,uu 28),(0,uu 29),(0,uu 30)]) (fun(Po:Bool)=>[Wk.box b1 67 (cN m)]) (fun(Po:Bool)=>[av m.sp m.ah,av m.vp m.aA,av m.ep m.seen]) (fun(Po:Bool)=>Po=nT m.m) ?_ ?_;refine mJ ?_;intro a S;refine gS S (fun dZ S=>?_) (fun dZ S=>?_);refine gT S ?_;refine sq S ?_;intro a S;refine gT S ?_;refine sq S ?_;intro a S;refine gT S ?_;refine sq S ?_;intro a S;refine gT S ?_;refine sq S ?_;intro a S;refine gT S ?_;refine sq S ?_;intro a S;refine gT S ?_;refine sq S ?_;intro a S;refine gT S ?_;refine sn S ?_;intro Yk a w S;replace S:=S.bT Yk 1 3 rfl (by decide);rw[show [Value.int .i64 m.leaf,.int .i64 m.counter,.int .i64 m.num]=aa [m.leaf,m.counter,m.num] from rfl]at S;replace S:=S.bA (some ⟨Yk,0,none⟩) [m.leaf,m.counter,m.num] (e:=3) (sz:=1) (n:=3) (c:=3) (fun _ _ _ _=>trivial)
 refine gT S ?_;refine sr S (xq [m.leaf,m.counter,m.num] (some ⟨Yk,0,none⟩) 3 3 _ rfl (by decide) (S.j9 _)) ?_;rintro _ a w rfl S;refine mJ ?_;intro a S;exact ⟨_,S.uu,by show _=(decide (1≤m.user)&&decide (m.user≤6)&&(iK m.leaf&&(iK m.counter&&iK m.num))&&decide ((m.ah.length:Int)≤6));rw[dZ];simp,S.sub _ _⟩;refine gF S ?_;intro a S;(iterate 7 (refine gF S ?_;intro a S));(iterate 2 (refine sq S ?_;intro a S));(iterate 4 (refine gQ S ?_;intro a S));(iterate 2 (refine sq S ?_;intro a S));refine kN (aQ ?_);exact ⟨_,S.uu,by show _=(decide (1≤m.user)&&decide (m.user≤6)&&(iK m.leaf&&(iK m.counter&&iK m.num))&&decide ((m.ah.length:Int)≤6));rw[dZ];simp,S.sub _ _⟩;clear S;rintro Po uu a w AM S;refine tI ?_;intro a S;refine iI S (fun(k:Nat) (ok:Bool) uu=>[(3,.bool ok),(0,str (jw m.ah k)),(1,uu 6),(27,.int .i64 (k:Nat)),(0,uu 35),(0,uu 36),(0,uu 37),(0,uu 38),(0,uu 39),(0,uu 40),(0,uu 41),(0,uu 42),(0,uu 43),(0,uu 44),(0,uu 45),(0,uu 46),(0,uu 47),(0,uu 48),(0,uu 49),(0,uu 50),(0,uu 51),(0,uu 52),(0,uu 53),(0,uu 54),(0,uu 55),(0,uu 56),(0,uu 57),(0,uu 58),(0,uu 59),(0,uu 60),(0,uu 61),(0,uu 62),(0,uu 63),(0,uu 64),(0,uu 65)]) (fun(k:Nat) (ok:Bool)=>[Wk.box b1 67 (cN m)]) (fun(k:Nat) (ok:Bool)=>[av m.sp m.ah,av m.vp m.aA,av m.ep m.seen]) (fun(k:Nat) (ok:Bool)=>k≤m.ah.length∧(ok&&iL m.user (jw m.ah k) (m.ah.drop k))=(nT m.m&&iL m.user [] m.ah)) (fun(k:Nat) (ok:Bool)=>m.ah.length - k) (0) (Po) ?_ S.uu ?_ ?_
 exact ⟨Nat.zero_le _,by rw[AM];rfl⟩
 first | exact S | exact S.sub _ _
 clear S;rintro k ok uu a w ⟨hk,aI⟩ S;refine J6 ?_;intro a S;refine kC S (fun h4=>?_) (fun h4=>?_);refine kK (aQ (kS (kB (kS ?_))));have bn:k < m.ah.length:=by have:=of_decide_eq_true h4;omega
 have hK:cx k m.ah.length:=⟨bn⟩;have hLn:eS (aq m.ah k).key.length 1000000:=⟨by have:=hfit.names _ (bh bn);omega⟩;replace aI:(ok&&(kJ m.user (aq m.ah k).key&&Op.bytesLess (jw m.ah k) (aq m.ah k).key&&decide (0 < (aq m.ah k).dS)&&iK (aq m.ah k).dS&&iL m.user (aq m.ah k).key (m.ah.drop (k+1))))=(nT m.m&&iL m.user [] m.ah):=by
  rw[←aI,bE bn];rfl
 refine J3 ?_;intro a S;refine sa S ?_;intro b6 a w S;refine Y3 ?_;intro a w S;refine qH S (fun(Pp:Bool) uu=>[(3,.bool Pp),(34,uu 38),(0,uu 39),(0,uu 40),(0,uu 41),(0,uu 42),(0,uu 43),(0,uu 44),(0,uu 45),(0,uu 46),(0,uu 47),(0,uu 48),(0,uu 49),(0,uu 50),(0,uu 51),(0,uu 52),(0,uu 53),(0,uu 54),(0,uu 55),(0,uu 56),(0,uu 57),(0,uu 58),(0,uu 59),(0,uu 60),(0,uu 61),(0,uu 62)]) (fun(Pp:Bool)=>[Wk.box b6 175 [str (aq m.ah k).key,.int .i64 (aq m.ah k).dS],Wk.box b1 67 (cN m)]) (fun(Pp:Bool)=>[av m.sp m.ah,av m.vp m.aA,av m.ep m.seen]) (fun(Pp:Bool)=>Pp=(ok&&kJ m.user (aq m.ah k).key&&Op.bytesLess (jw m.ah k) (aq m.ah k).key&&decide (0 < (aq m.ah k).dS)&&iK (aq m.ah k).dS)) ?_ ?_;refine sP ?_;intro a w S;refine J1 ?_;intro a S;refine gS S (fun LZ S=>?_) (fun LZ S=>?_);refine gT S ?_;refine sq S ?_;intro a S;refine gT S ?_;refine sq S ?_;intro a S;refine gT S ?_;refine sn S ?_;intro Yl a w S;replace S:=S.bT Yl 1 1 rfl (by decide);rw[show [Value.int .i64 (aq m.ah k).dS]=aa [(aq m.ah k).dS] from rfl]at S;replace S:=S.bA (some ⟨Yl,0,none⟩) [(aq m.ah k).dS] (e:=3) (sz:=1) (n:=1) (c:=1) (fun _ _ _ _=>trivial);rw[show (str (aq m.ah k).key::aa [(aq m.ah k).dS])=[str (aq m.ah k).key,.int .i64 (aq m.ah k).dS] from rfl]at S;refine gT S ?_;refine sr S (xq [(aq m.ah k).dS] (some ⟨Yl,0,none⟩) 1 1 _ rfl (by decide) (S.j9 _)) ?_;rintro _ a w rfl S;refine J4 ?_;intro a S
 exact ⟨_,S.uu,by rw[LZ];simp,S.sub _ _⟩;refine gF S ?_;intro a S;(iterate 3 (refine gF S ?_;intro a S));(iterate 2 (refine sq S ?_;intro a S));refine kN (aQ ?_);exact ⟨_,S.uu,by rw[LZ];simp,S.sub _ _⟩;clear S;rintro Pp uu a w Pq S;refine jq ?_;intro a S;rw[w6 ((k:Int)+1)]at S;refine ⟨k+1,Pp,S.uu,⟨bn,?_⟩,S.sub _ _,by omega⟩;rw[←aI,Pq]
 show (_&&iL m.user (aq m.ah k).key (m.ah.drop (k+1)))=_
 simp only[Bool.and_assoc];refine kE (fT (fT (mM (aQ (kS (kS ?_))))));have bn:m.ah.length≤k:=by have:=of_decide_eq_false h4;omega
 replace aI:ok=(nT m.m&&iL m.user [] m.ah):=by
  rw[←aI,List.drop_of_length_le bn,iL,Bool.and_true]
 have he:b_ m.m=(ok&&EA m.aA&&eH 0 (cU m.seen)):=by rw[aI];rfl
 refine CD ?_;intro a w S;refine kC S (fun h9=>?_) (fun h9=>?_);refine J7 ?_;intro a S;refine aD S (fun _=>?_);rw[jQ,he,if_neg];rw[AL,uO]at h9;rw[Bool.and_eq_true,Bool.and_eq_true];rintro ⟨⟨h1,h2⟩,h3⟩;rw[h1,h2,h3]at h9;cases h9;refine J8 ?_;intro a S;refine aD S (fun _=>?_);rw[AL,uO]at h9;simp only[Bool.or_eq_false_iff,Bool.not_eq_false']at h9;rw[jQ,he,h9.1.1,h9.1.2,h9.2];rfl
def L6 (e:TypeId)(sz:Nat)(p:Option Addr)(n c:Nat):World→Prop:=fun w=>∃ xs,w.ownsRow 0 e sz (.slice p n c) n xs
theorem CY {M:Nat→Prop}{w:World}{e:TypeId}{sz:Nat}{p:Option Addr}{n c:Nat}{xs:List Value}(h:w.ownsRow 0 e sz (.slice p n c) n xs)(hM:∀ ad,p=some ad→¬M ad.block):ag M w (fun w=>w.ownsRow 0 e sz (.slice p n c) n xs):=fun w' bP=>
 gv e sz p n c xs w w' (fun k ⟨ad,h1,h2⟩=>bP.iB (bS h k ⟨ad,h1,h2⟩) (by rw[h2];exact hM ad h1)) h
theorem uP {M:Nat→Prop}{w:World}{e:TypeId}{sz:Nat}{p:Option Addr}{n c:Nat}{xs:List Value}(h:w.ownsRow 0 e sz (.slice p n c) n xs)(hM:∀ ad,p=some ad→¬M ad.block):ag M w (L6 e sz p n c):=fun w' bP=>⟨xs,CY h hM w' bP⟩
def Pr (t:ak):World→Prop:=L6 43 5 t.p t.kids.length t.cap
def je (xs:List aK):World→Prop:=fun w=>∀ x∈xs,Pr x.root w
theorem je.snoc {M:Nat→Prop}{w:World}{xs:List aK}{s:aK}(h1:ag M w (je xs))(h2:ag M w (Pr s.root)):ag M w (je (xs++[s])):=fun w' bP x hx=>by
 rcases List.mem_append.1 hx with h | h
 exact h1 w' bP x h;rw[List.mem_singleton.1 h];exact h2 w' bP
def NU (p:Option Addr)(c:Nat)(xs:List aH):World→Prop:=fun w=>av p xs w∧L6 175 2 p xs.length c w
def K9 (p:Option Addr)(c:Nat)(xs:List aK):World→Prop:=fun w=>av p xs w∧w.ownsRow 0 179 7 (.slice p xs.length c) xs.length (aa xs)∧je xs w
def kL (x:aW):World→Prop:=fun w=>L6 175 2 x.sp x.ah.length x.sc w∧L6 177 2 x.vp x.aA.length x.vc w∧w.ownsRow 0 179 7 (.slice x.ep x.seen.length x.ec) x.seen.length (aa x.seen)∧je x.seen w
def nU (n:Nat)(p:Option Addr):Prop:=∀ ad,p=some ad→n≤ad.block
theorem nU.up {n m:Nat}{p:Option Addr}(h:nU n p)(hm:m≤n):nU m p:=fun ad had=>Nat.le_trans hm (h ad had)
inductive pK:ak→Nat→Prop where
 | row {t:ak} {ad:Addr} (h:t.p=some ad) (hk:t.kids≠[]):pK t ad.block
 | Rw {t z:ak} {k:Nat} (h:z∈t.kids) (hz:pK z k):pK t k
structure tf (n:Nat)(t:ak):Prop where
 of::
 p:nU n t.p
 deep:∀ k,pK t k→n≤k
theorem tf.up {n m:Nat}{t:ak}(h:tf n t)(hm:m≤n):tf m t:=.of (h.p.up hm) (fun k hk=>Nat.le_trans hm (h.deep k hk))
theorem tf.mk {n:Nat}{t:ak}(h1:nU n t.p)(h2:∀ z∈t.kids,tf n z):tf n t:=.of h1 fun k hk=>by
 cases hk with
 | row h _=>exact h1 _ h
 | Rw h hz=>exact (h2 _ h).deep k hz
def uQ (n:Nat)(xs:List aK):Prop:=∀ x∈xs,tf n x.root
theorem uQ.snoc {n:Nat}{xs:List aK}{s:aK}(h1:uQ n xs)(h2:tf n s.root):uQ n (xs++[s]):=fun x hx=>by
 rcases List.mem_append.1 hx with h | h
 exact h1 x h;rw[List.mem_singleton.1 h];exact h2
structure wQ (n:Nat)(x:aW):Prop where
 sp:nU n x.sp
 vp:nU n x.vp
 ep:nU n x.ep
 kids:uQ n x.seen
theorem uQ.up {n m:Nat}{xs:List aK}(h:uQ n xs)(hm:m≤n):uQ m xs:=fun x hx=>(h x hx).up hm
theorem wQ.up {n m:Nat}{x:aW}(h:wQ n x)(hm:m≤n):wQ m x:=⟨h.sp.up hm,h.vp.up hm,h.ep.up hm,h.kids.up hm⟩
def Pt (M:Nat→Prop)(n:Nat)(w:World)(v:Value)(T:Term):Prop:=∃ r:ak,v=vL r∧r.t=T∧ag M w (dc r)∧ag M w (Pr r)∧tf n r
def Pu (M:Nat→Prop)(n:Nat)(w:World)(v:Value)(m:bJ):Prop:=∃ x:aW,v=fJ x∧x.m=m∧dY x∧ag M w (aE x)∧ag M w (kL x)∧wQ n x
theorem tP (a:Addr)(n:Nat):(a.add n).block=a.block:=by unfold Addr.add;split <;> rfl
theorem AN {w w':World}{ad:Addr}{v:Value}(h:w'.heap[ad.block]? = w.heap[ad.block]?)(hc:w.cell? ad=some v):w'.cell? ad=some v:=by
 unfold World.cell? at hc⊢;rw[h];exact hc
theorem CZ {w w':World}{p:Option Addr}{xs:List Value}(h:xs≠[]→∀ ad,p=some ad→w'.heap[ad.block]? = w.heap[ad.block]?)(hs:iE p xs w):iE p xs w':=
 ⟨hs.1,fun ad hp j u hj=>AN (by rw[tP];exact h (fun h0=>by rw[h0]at hj;cases hj) ad hp) (hs.2 ad hp j u hj)⟩
theorem yP {M:Nat→Prop}{w:World}{p:Option Addr}{vs:List Value}{u:Value}(h:ag M w (iE p vs))(h0:vs[0]? = some u):∀ ad,p=some ad→ad.block < w.heap.size∧¬M ad.block:=fun ad had=>by
 have hc:=h.now.2 ad had 0 u h0;have wK:=Eg hc;rw[tP]at wK;refine ⟨wK,fun hm=>?_⟩;have h2:=(h { w with heap:=w.heap.set ad.block (.cells #[] 0 (0,0)) wK } ⟨rfl,rfl,rfl,by simp,fun k hk hkm=>by
  have:k≠ad.block:=fun h=>hkm (h▸hm)
  simp[Array.getElem?_set,this.symm]⟩).2 ad had 0 u h0
 unfold World.cell? at h2;rw[tP]at h2;simp at h2
mutual
theorem NV {w w':World} : ∀ t:ak,f_ w t→(∀ k,pK t k→w'.heap[k]? = w.heap[k]?)→f_ w' t
 | .mk k u n s p cap kids,h,hf=>⟨h.1,h.2.1,NW p 0 kids h.2.2 (fun ad hp hne=>hf _ (pK.row (t:=.mk k u n s p cap kids) hp hne)) (fun _ hz _ hk=>hf _ (pK.Rw (t:=.mk k u n s p cap kids) hz hk))⟩
theorem NW {w w':World} : ∀ (p:Option Addr) (i:Nat) (ts:List ak),iS w p i ts→(∀ ad,p=some ad→ts≠[]→w'.heap[ad.block]? = w.heap[ad.block]?)→(∀ z∈ts,∀ k,pK z k→w'.heap[k]? = w.heap[k]?)→iS w' p i ts
 | _,_,[],_,_,_=>trivial
 | p,i,t::ts,⟨⟨ad,hp,hc⟩,h2,h3⟩,hr,hk=>⟨⟨ad,hp,fun j v hj=>AN (by rw[tP];exact hr ad hp (by simp)) (hc j v hj)⟩,NV t h2 (hk t (.head _)),NW p (i+1) ts h3 (fun ad h _=>hr ad h (by simp)) (fun z hz=>hk z (.tail _ hz))⟩
end
theorem Pv {M:Nat→Prop}{w:World}{t:ak}{k:Nat}(hk:pK t k)(h:ag M w (dc t)):k < w.heap.size∧¬M k:=by
 induction hk with
 | @row t ad hp hne=>
  obtain ⟨z,zs,hz⟩:=List.exists_cons_of_ne_nil hne;refine yP (p:=t.p) (vs:=[.int .i64 z.kind]) (u:=.int .i64 z.kind) (h.imp fun w' bP=>?_) rfl ad hp;obtain ⟨⟨H9,h1,h2⟩,-⟩:=(f_.iff.1 bP).2.2.get (k:=0) (t:=z) (by rw[hz];rfl);refine ⟨fun h=>absurd (hp.symm.trans h) (by simp),fun ad3 h3 j u hj=>?_⟩;rw[h1]at h3;cases h3
  match j,hj with
  | 0,hj=>cases hj;exact h2 0 _ rfl
 | @Rw t z k hz _ ih=>
  obtain ⟨i,hi,rfl⟩:=List.mem_iff_getElem.1 hz;obtain ⟨x,ad,h1,h2,h3,h4,h5⟩:=ak.Rw h hi;rw[List.getElem?_eq_getElem hi]at h1;cases h1;exact ih h5
def qL (x:aW)(k:Nat):Prop:=(x.ah≠[]∧∃ ad,x.sp=some ad∧k=ad.block)∨(x.aA≠[]∧∃ ad,x.vp=some ad∧k=ad.block)∨(x.seen≠[]∧∃ ad,x.ep=some ad∧k=ad.block)∨∃ z∈x.seen,pK z.root k
theorem xu {n:Nat}{x:aW}(h:wQ n x):∀ k,qL x k→n≤k:=by
 rintro k (⟨-,ad,h1,rfl⟩ | ⟨-,ad,h1,rfl⟩ | ⟨-,ad,h1,rfl⟩ | ⟨z,hz,h1⟩);exact h.sp ad h1;exact h.vp ad h1;exact h.ep ad h1;exact (h.kids z hz).deep k h1
theorem yQ {α:Type}[cX α]{xs:List α}(h:aa xs≠[]):xs≠[]:=fun h0=>h (by rw[h0];rfl)
theorem C0 {w w':World}{x:aW}(h:aE x w)(hf:∀ k,qL x k→w'.heap[k]? = w.heap[k]?):aE x w':=
  ⟨⟨CZ (fun h0 ad hp=>hf _ (.inl ⟨yQ h0,ad,hp,rfl⟩)) h.1.1,h.1.2⟩,
   ⟨CZ (fun h0 ad hp=>hf _ (.inr (.inl ⟨yQ h0,ad,hp,rfl⟩))) h.2.1.1,h.2.1.2⟩,
   ⟨CZ (fun h0 ad hp=>hf _ (.inr (.inr (.inl ⟨yQ h0,ad,hp,rfl⟩)))) h.2.2.1,fun z hz=>NV z.root (h.2.2.2 z hz) fun k hk=>hf k (.inr (.inr (.inr ⟨z,hz,hk⟩)))⟩⟩
theorem uR {xs:List aH}(h:xs≠[]):∃ u,(aa xs)[0]? = some u:=by
 obtain ⟨z,zs,rfl⟩:=List.exists_cons_of_ne_nil h;exact ⟨_,rfl⟩
theorem C1 {xs:List aK}(h:xs≠[]):∃ u,(aa xs)[0]? = some u:=by
 obtain ⟨z,zs,rfl⟩:=List.exists_cons_of_ne_nil h;exact ⟨_,rfl⟩
theorem qM {M:Nat→Prop}{w:World}{x:aW}(h:ag M w (aE x)):∀ k,qL x k→k < w.heap.size∧¬M k:=by
 rintro k (⟨h0,ad,h1,rfl⟩ | ⟨h0,ad,h1,rfl⟩ | ⟨h0,ad,h1,rfl⟩ | ⟨z,hz,h1⟩);obtain ⟨u,hu⟩:=uR h0;exact yP (h.imp fun _ h=>h.1.1) hu ad h1;obtain ⟨u,hu⟩:=uR h0;exact yP (h.imp fun _ h=>h.2.1.1) hu ad h1;obtain ⟨u,hu⟩:=C1 h0;exact yP (h.imp fun _ h=>h.2.2.1) hu ad h1;exact Pv h1 (h.imp fun _ h=>h.2.2.2 z hz)
theorem AO {A B:Nat→Prop}{w:World}{x:aW}(h:ag A w (aE x))(hB:∀ k,qL x k→¬B k):ag (fun k=>A k∨B k) w (aE x):=fun w' bP=>by
 have ho:=qM h;exact C0 h.now fun k hk=>bP.iB (ho k hk).1 fun hAB=>hAB.elim (ho k hk).2 (hB k hk)
theorem AP {A F:Nat→Prop}{w w':World}{x:aW}(h:ag A w (aE x))(hF:∀ k,qL x k→¬F k)(hw:aJ F w w'):ag A w' (aE x):=fun w'' mQ=>by
 have ho:=qM h;refine C0 (C0 h.now fun k hk=>hw.iB (ho k hk).1 (hF k hk)) fun k hk=>mQ.iB ?_ (ho k hk).2
 exact Nat.lt_of_lt_of_le (ho k hk).1 hw.size
end Go.Proofs.YtdakncgafdnjfaaGreat
namespace Go.Wk
open Go
section
variable {P:Program}{r:Option Nat}{ops:Array Oper}{Q:Exit→Act→World→Prop}{w0:World}{M0:Nat→Prop}{ds:List Deferred}{a:Act}{w:World}{l:List Value}{bs bs':List Item}{fs:List (World→Prop)}
 {d:Option Nat} {op:Op} {ty:TypeId} {pos:String} {af:Array Edge} {rest:List Oper} {v:Value} {t e:TypeId} {sz dy c:Nat} {z:Value} {xs:List Value} {x y:Operand}
theorem H_ {w:World}{p:Option Addr}{n m c:Nat}(h:w.ownsRow 0 e sz (.slice p n c) n xs)(hm:n≤m)(hmc:m≤c)(_h0:0 < c)(hn:0 < n):∃ ys,ys.length=(m - n)*sz∧w.ownsRow 0 e sz (.slice p m c) m (xs++ys):=by
 obtain ⟨g,cur,rfl,hg,hnc,hcs,S_,nM⟩:=eB h hn;have Aj:=Nat.mul_le_mul_right sz hmc;have hnm:=Nat.mul_le_mul_right sz hm;have pg:cur.toList.length=c*sz:=by rw[Array.length_toList,hcs]
 refine ⟨(cur.toList.take (m*sz)).drop (n*sz),?_,?_,.inr ⟨g,c,cur,rfl,Nat.zero_le _,hg,hmc,nM,hcs,?_⟩⟩;rw[List.length_drop,List.length_take,pg,Nat.sub_mul];omega;rw[List.length_append,h.1,List.length_drop,List.length_take,pg];omega;have e1:xs=(cur.toList.take (m*sz)).take (n*sz):=by rw[List.take_take,←S_,Nat.min_eq_left hnm]
 conv=>rhs;rw[e1]
 rw[List.take_append_drop]
end
def iZ (k:Int):List (Int × Value)→Nat→Option (Nat × Value)
 | [],_=>none
 | (u,v)::kv,i=>if k=u then some (i,v) else iZ k kv (i+1)
def qN (k:Int)(kv:List (Int × Value)):Option Value:=(iZ k kv 0).map (·.2)
def nA (k:Int)(v:Value):List (Int × Value)→List (Int × Value)
 | []=>[(k,v)]
 | (u,x)::kv=>if k=u then (u,v)::kv else (u,x)::nA k v kv
def lQ (b:Nat)(kv:List (Int × Value)):Item where
 aj:=fun k=>k=b
 holds:=fun w=>∃ es clock,w.heap[b]? = some (.map es clock)∧CK es=(kv.map fun x=>((.int .i64 x.1),x.2))∧(∀ e∈es.toList,e.born < clock)∧(es.toList.map (·.born)).Nodup
theorem yR (b:Nat)(kv:List (Int × Value))(w1 w2:World)(h:∀ k,(lQ b kv).aj k→w2.heap[k]? = w1.heap[k]?)(h1:(lQ b kv).holds w1):(lQ b kv).holds w2:=by
 obtain ⟨es,clock,h2,h3⟩:=h1;exact ⟨es,clock,by rw[h b rfl];exact h2,h3⟩
class uS (bs:List Item)(b:Nat)(kv:outParam (List (Int × Value))):Prop where mem:lQ b kv∈bs
instance hmpn0 {b:Nat}{kv:List (Int × Value)}{bs:List Item} : uS (lQ b kv::bs) b kv:=⟨List.mem_cons_self ..⟩
instance (priority:=900) hmpn1 {b:Nat}{kv:List (Int × Value)}{x:Item}{bs:List Item}[h:uS bs b kv]:uS (x::bs) b kv:=⟨List.mem_cons_of_mem _ h.mem⟩
def uT (b:Nat)(kv:List (Int × Value)):World→Prop:=(lQ b kv).holds
class tQ (fs:List (World→Prop))(b:Nat)(kv:outParam (List (Int × Value))):Prop where mem:uT b kv∈fs
instance Ym {b:Nat}{kv:List (Int × Value)}{fs:List (World→Prop)} : tQ (uT b kv::fs) b kv:=⟨List.mem_cons_self ..⟩
instance (priority:=900) Yn {b:Nat}{kv:List (Int × Value)}{Φ:World→Prop}{fs:List (World→Prop)}[h:tQ fs b kv]:tQ (Φ::fs) b kv:=⟨List.mem_cons_of_mem _ h.mem⟩
class Ta (bs:List Item)(fs:List (World→Prop))(b:Nat)(kv:outParam (List (Int × Value))):Prop where of:∀ w,Mem w bs fs→(lQ b kv).holds w
instance (priority:=900) kiof1 {b:Nat}{kv:List (Int × Value)}{bs:List Item}{fs:List (World→Prop)}[h:tQ fs b kv]:Ta bs fs b kv:=⟨fun _ mm=>(mm.facts _ h.mem).now⟩
theorem uT.aO {w:World}{b:Nat}{kv:List (Int × Value)}{M:Nat→Prop}(h:uT b kv w)(hM:¬M b):ag M w (uT b kv):=fun w' bP=>by
 obtain ⟨es,clock,hb,he⟩:=h;exact ⟨es,clock,by rw[bP.iB (Array.getElem?_eq_some_iff.1 hb).1 hM];exact hb,he⟩
theorem Ia (s u:Int):Instr.sameNow (.int .i64) (.int .i64 s) (.int .i64 u)=some (decide (s=u)):=by
 obtain ⟨r,hr,hiff⟩:=MapKept.sameNow_of_keys (d:=(.int .i64)) (a:=.int .i64 s) (b:=.int .i64 u) (by simp[MapKept.IsKey]) (by simp[MapKept.IsKey]);rw[hr]
 congr 1
 rw[Bool.eq_iff_iff,hiff];simp
theorem yS (k:Int):∀ (l:List MapEntry) (kv:List (Int × Value)) (i:Nat),(l.map fun e=>(e.key,e.val))=(kv.map fun x=>((.int .i64 x.1),x.2))→Instr.findNow (.int .i64) (.int .i64 k) l i=some (iZ k kv i)
 | [],[],i,_=>rfl
 | [],_::_,_,h=>by simp at h
 | _::_,[],_,h=>by simp at h
 | e::l,(u,v)::kv,i,h=>by
  simp only[List.map_cons,List.cons.injEq,Prod.mk.injEq]at h;obtain ⟨⟨h1,h2⟩,h3⟩:=h;have hs:Instr.sameNow (.int .i64) (.int .i64 k) e.key=some (decide (k=u)):=by
   rw[h1,Ia]
  rw[Instr.findNow,hs,iZ]
  by_cases hk:k=u
  rw[if_pos hk];simp[hk,h2];rw[if_neg hk];simp only[hk,decide_false];exact yS k l kv (i+1) h3
theorem pZ {k:Int} : ∀ {kv:List (Int × Value)} {i j:Nat} {v:Value},iZ k kv i=some (j,v)→i≤j∧kv[j - i]? = some (k,v)
 | [],i,j,v,h=>by simp[iZ]at h
 | (u,x)::kv,i,j,v,h=>by
  rw[iZ]at h;split at h
  rename_i hk
  simp at h;obtain ⟨rfl,rfl⟩:=h;simp[hk];have:=pZ h;refine ⟨by omega,?_⟩;rw[show j - i=j - (i+1)+1 from by omega];simpa using this.2
theorem xw {k:Int}{v:Value} : ∀ {kv:List (Int × Value)} {i j:Nat} {x:Value},iZ k kv i=some (j,x)→nA k v kv=kv.set (j - i) (k,v)
 | [],i,j,x,h=>by simp[iZ]at h
 | (u,y)::kv,i,j,x,h=>by
  rw[iZ]at h;rw[nA];split at h
  rename_i hk
  simp at h;obtain ⟨rfl,rfl⟩:=h;rw[if_pos hk];simp[hk]
  rename_i hk
  rw[if_neg hk];have h1:=pZ h;rw[xw h,show j - i=j - (i+1)+1 from by omega];simp
theorem uU {k:Int}{v:Value} : ∀ {kv:List (Int × Value)} {i:Nat},iZ k kv i=none→nA k v kv=kv++[(k,v)]
 | [],i,h=>rfl
 | (u,y)::kv,i,h=>by
  rw[iZ]at h;split at h;cases h
  rename_i hk
  rw[nA,if_neg hk,uU h];rfl
section
variable {P:Program}{r:Option Nat}{ops:Array Oper}{Q:Exit→Act→World→Prop}{w0:World}{M0:Nat→Prop}{ds:List Deferred}{a:Act}{w:World}{l l':List Value}{bs bs':List Item}{fs:List (World→Prop)}
 {d:Option Nat} {op:Op} {t ty:TypeId} {pos:String} {af:Array Edge} {rest:List Oper} {v z:Value} {e kt et:TypeId} {sz dy b:Nat} {x y u:Operand} {lc:Cx} {k:Int} {kv:List (Int × Value)}
theorem AR (hk:P.underlying kt=some (.int .i64))(em:Bool)(w:World):(Instr.checkKey em 10000 kt (.int .i64 k)).run P w=.ok () w:=MapKept.run_checkKey (k:=.int .i64 k) hk (by simp[MapKept.IsKey]) em 9999
instance VQ [Ev lc x (.map (some b))][Ev lc y (.int .i64 k)][ht:dN P t (.map kt et)][hk:dN P kt (.int .i64)][hz:TI P et z sz dy][hm:Ta bs fs b kv] :
  dO P (.lookup t x y false) ty lc bs fs ((qN k kv).getD z):=⟨fun ρ w h mm=>by
 obtain ⟨es,clock,hb,he,_⟩:=hm.of w mm;have hf:=yS k es.toList kv 0 he;have h1:=MapKept.run_getObj_map (P:=P) hb;have h2:=AR (P:=P) (k:=k) hk.eq es.isEmpty w;have h3:=MapKept.run_findKey (P:=P) (w:=w) hk.eq hf;have h4:(Instr.lookup t (.map (some b)) (.int .i64 k) false).run P w=.ok ((qN k kv).getD z) w:=by
  unfold qN;simp[Instr.lookup,Sem.run_bind,cp,h1,h2,h3,Result.andThen];cases iZ k kv 0 with
  | none=>simp[nK (P:=P) (t:=et) (z:=z) (s:=sz) (b:=dy)]
  | some q=>simp
 simp[cu,execOp,h.ev (x:=x) (v:=.map (some b)),h.ev (x:=y) (v:=.int .i64 k),h4]⟩
theorem Tb {l':Nat→List Value}(S:St w0 M0 ds a w l bs fs)[hp:∀ b,cZ l d (.map (some b)) (l' b)](K:∀ b a w,St w0 M0 ds a w (l' b) (lQ b []::bs) fs→WL P r ops Q rest a w):WL P r ops Q (⟨d,.makeMap t none,ty,pos,af,none⟩::rest) a w:=by
 refine bR rfl ?_;rw[bQ rfl];have e1:(cu a.eval (.makeMap t none) ty).run P w=.ok (.value (.map (some w.heap.size))) (w.alloc (.map #[] 0)):=by
  simp[cu,execOp,Instr.makeMap,newObj,Sem.run]
 simp only[e1,Oper.uponIn];have:=hp w.heap.size;have S':=S.put (d:=d) (v:=.map (some w.heap.size));have nt:∀ k,(lQ w.heap.size []).aj k→k=w.heap.size:=fun _ h=>h
 refine K _ _ _ ⟨S'.slots,S'.defers,(S'.wd.step (aJ.alloc _ w _)).more ⟨#[],0,heap_alloc_new w _,rfl,by simp,by simp⟩ (fun k hk=>by rw[nt k hk];exact S'.wd.agree.size) (fun k hk=>by rw[nt k hk];simp) (fun it hi k hk hk'=>?_) (fun Φ hΦ w'' mQ=>?_) (yR _ _)⟩;have:=S'.wd.lt it hi k hk';rw[nt k hk]at this;omega;refine S'.wd.facts Φ hΦ w'' (((aJ.alloc _ w _:yB w _).mono (fun _ _ h=>h.elim)).trans' mQ fun i hi ⟨it,hm,hk⟩=>?_);rcases List.mem_cons.1 hm with rfl | hm
 rw[nt i hk]at hi;omega;exact ⟨it,hm,hk⟩
theorem Tc (S:St w0 M0 ds a w l bs fs)[Ev ⟨[],l⟩ x (.map (some b))][Ev ⟨[],l⟩ y (.int .i64 k)][Ev ⟨[],l⟩ u v][ht:dN P t (.map kt et)][hk:dN P kt (.int .i64)][hm:uS bs b kv][k4:dD bs (lQ b kv) (lQ b (nA k v kv)) bs'][hp:cZ l d undef l']
  (K:∀ a w,St w0 M0 ds a w l' bs' fs→WL P r ops Q rest a w):WL P r ops Q (⟨d,.mapUpdate t x y u,ty,pos,af,none⟩::rest) a w:=by
 refine bR rfl ?_;rw[bQ rfl];obtain ⟨es,clock,hb,he,Co,k_⟩:(lQ b kv).holds w:=S.wd.held _ hm.mem;have hf:=yS k es.toList kv 0 he;have h1:=MapKept.run_getObj_map (P:=P) hb;have h2:=AR (P:=P) (k:=k) hk.eq false w;have h3:=MapKept.run_findKey (P:=P) (w:=w) hk.eq hf;have S':=S.put (d:=d) (v:=undef) (l':=l');have key:∃ es' clock',(Instr.mapUpdate t (.map (some b)) (.int .i64 k) v).run P w=.ok () { w with heap:=w.heap.setIfInBounds b (.map es' clock') }∧CK es'=((nA k v kv).map fun x=>((.int .i64 x.1),x.2))∧(∀ e∈es'.toList,e.born < clock')∧(es'.toList.map (·.born)).Nodup:=by
  cases hi:iZ k kv 0 with
  | none=>
   rw[hi]at h3;refine ⟨es.push { key:=.int .i64 k,val:=v,born:=clock },clock+1,?_,?_,?_,?_⟩;simp[Instr.mapUpdate,Sem.run_bind,cp,h1,h2,h3,MapKept.run_setObj_map _ hb];rw[uU hi,List.map_append,←he];simp[CK];intro e hem;simp only[Array.toList_push,List.mem_append,List.mem_singleton]at hem;rcases hem with hem | rfl
   have:=Co e hem;omega;exact Nat.lt_succ_self _;simp only[Array.toList_push,List.map_append,List.map_cons,List.map_nil];refine List.nodup_append.2 ⟨k_,by simp,fun x hx y hy hxy=>?_⟩;obtain ⟨e,hem,rfl⟩:=List.mem_map.1 hx;have:=Co e hem;obtain rfl:=List.mem_singleton.1 hy;omega
  | some q=>
   obtain ⟨j,x0⟩:=q;rw[hi]at h3;have h5:=pZ hi;have Td:(CK es)[j]? = some (.int .i64 k,x0):=by
    rw[he,List.getElem?_map];have:=h5.2;simp at this;simp[this]
   obtain ⟨en,VR,Yo⟩:∃ en,es[j]? = some en∧en.key=.int .i64 k:=by
    simp only[CK,List.getElem?_map]at Td;obtain ⟨en,q1,q2⟩:=Option.map_eq_some_iff.1 Td;simp at q2;exact ⟨en,by simpa using q1,q2.1⟩
   have hsb:Instr.sameBits 10000 (.int .i64 k) (.int .i64 k)=true:=by simp[Instr.sameBits]
   have NX:(es.modify j fun e=>{ e with key:=.int .i64 k,val:=v }).toList.map (·.born)=es.toList.map (·.born):=by
    apply List.ext_getElem?;intro i;simp only[List.getElem?_map,Array.getElem?_toList,Array.getElem?_modify]
    by_cases hij:j=i
    subst hij;rw[if_pos rfl,Option.map_map];rfl;rw[if_neg hij]
   refine ⟨es.modify j fun e=>{ e with key:=.int .i64 k,val:=v },clock,?_,?_,fun e hem=>?_,by rw[NX];exact k_⟩;simp[Instr.mapUpdate,Sem.run_bind,cp,h1,h2,h3,VR,Yo,Instr.keyThatStays,hsb,MapKept.run_setObj_map _ hb];rw[xw hi,List.map_set,←he];apply List.ext_getElem?;intro i;simp only[CK,List.getElem?_map,Array.getElem?_toList,Array.getElem?_modify,List.getElem?_set,Nat.sub_zero]
   by_cases hij:j=i
   subst hij;have hlt:j < es.size:=(Array.getElem?_eq_some_iff.1 VR).1;simp[hlt];simp[hij];have uD:e.born∈es.toList.map (·.born):=by rw[←NX];exact List.mem_map.2 ⟨e,hem,rfl⟩
   obtain ⟨e0,Ad,h0⟩:=List.mem_map.1 uD;rw[←h0];exact Co e0 Ad
 obtain ⟨es',clock',hrun,VR⟩:=key;have e1:(cu a.eval (.mapUpdate t x y u) ty).run P w=.ok .skip { w with heap:=w.heap.setIfInBounds b (.map es' clock') }:=by
  simp[cu,execOp,S.fr.ev (x:=x) (v:=.map (some b)),S.fr.ev (x:=y) (v:=.int .i64 k),S.fr.ev (x:=u) (v:=v),hrun]
 simp only[e1,Oper.uponIn];have Te:=MapKept.heap_set (o':=.map es' clock') hb;have hlt:b < w.heap.size:=(Array.getElem?_eq_some_iff.1 hb).1;exact K _ _ (S.lg (x:=lQ b kv) (y:=lQ b (nA k v kv)) S'.slots S'.defers rfl ⟨rfl,rfl,rfl,by simp,fun i _ hn=>Te.2 i hn⟩ ⟨es',clock',Te.1,VR⟩ (fun i h=>.inl h) (fun i h=>by cases h;simpa using hlt) (yR _ _))
end
section
variable {P:Program}{ty t t':TypeId}{l:Cx}{bs:List Item}{fs:List (World→Prop)}{x y:Operand}{e:TypeId}
instance NY [Ev l x (.pointer none)][Ev l y (.pointer none)][dN P t (.pointer e)]:dO P (.binOp .eql t x y t') ty l bs fs (.bool true):=⟨fun ρ w h _=>by
 simp[cu,execOp,h.ev (x:=x) (v:=.pointer none),h.ev (x:=y) (v:=.pointer none),eqGuard,binOp,j7 (P:=P) (t:=t) (u:=.pointer none) (v:=.pointer none) (d:=.pointer e) (b:=true) w rfl]⟩
instance N0 {a:Addr}[Ev l x (.pointer (some a))][Ev l y (.pointer none)][dN P t (.pointer e)]:dO P (.binOp .eql t x y t') ty l bs fs (.bool false):=⟨fun ρ w h _=>by
 simp[cu,execOp,h.ev (x:=x) (v:=.pointer (some a)),h.ev (x:=y) (v:=.pointer none),eqGuard,binOp,j7 (P:=P) (t:=t) (u:=.pointer (some a)) (v:=.pointer none) (d:=.pointer e) (b:=false) w rfl]⟩
instance opPnN [Ev l x (.pointer none)][Ev l y (.pointer none)][dN P t (.pointer e)]:dO P (.binOp .neq t x y t') ty l bs fs (.bool false):=⟨fun ρ w h _=>by
 simp[cu,execOp,h.ev (x:=x) (v:=.pointer none),h.ev (x:=y) (v:=.pointer none),eqGuard,binOp,j7 (P:=P) (t:=t) (u:=.pointer none) (v:=.pointer none) (d:=.pointer e) (b:=true) w rfl]⟩
instance opPsN {a:Addr}[Ev l x (.pointer (some a))][Ev l y (.pointer none)][dN P t (.pointer e)]:dO P (.binOp .neq t x y t') ty l bs fs (.bool true):=⟨fun ρ w h _=>by
 simp[cu,execOp,h.ev (x:=x) (v:=.pointer (some a)),h.ev (x:=y) (v:=.pointer none),eqGuard,binOp,j7 (P:=P) (t:=t) (u:=.pointer (some a)) (v:=.pointer none) (d:=.pointer e) (b:=false) w rfl]⟩
end
structure bF where
 l:List UInt8
 h:l.length=64
deriving DecidableEq
abbrev bF.cells (b:bF):List Value:=aa b.l
abbrev iy (b:bF):Value:=.agg ⟨aa b.l⟩
theorem bF.len (b:bF):(aa b.l).length=64:=by rw[aU,b.h];rfl
instance Ib:cX bF:=⟨64,fun b=>aa b.l,bF.len,fun b u hu=>hY b.l u hu⟩
theorem AS:∀ {a b:List UInt8},aa a=aa b→a=b
 | [],[],_=>rfl
 | [],y::b,h=>by simp[aa,cX.cells]at h
 | x::a,[],h=>by simp[aa,cX.cells]at h
 | x::a,y::b,h=>by
  rw[bf,bf]at h;have h1:(Value.int .u8 (x.toNat:Int))::aa a=(Value.int .u8 (y.toNat:Int))::aa b:=h
  injection h1 with h1 h2
  injection h1 with h1 h3
  have h4:x.toNat=y.toNat:=by omega
  rw[UInt8.toNat_inj.1 h4,AS h2]
instance Pw {b:bF} : gW (aa b.l) 64:=⟨b.len⟩
instance (priority:=500) takeW {cs:List Value}{n:Nat}[h:gW cs n]:Ap cs n cs:=⟨h.eq,List.prefix_refl _⟩
instance VS {b:List UInt8} : Flat (aa b):=⟨hY b⟩
instance (priority:=500) sfB {a b:bF} : iC (aa a.l) (aa b.l) (aa b.l):=⟨by rw[a.len,b.len];exact Nat.le_refl _,by rw[b.len,List.drop_of_length_le (by rw[a.len];exact Nat.le_refl _),List.append_nil]⟩
def cH (l:List Int):List Value:=l.map (Value.int .u32)
theorem kM {l:List Int}{k:Nat}(h:k < l.length):(cH l)[k]? = some (.int .u32 (bG l k)):=by
 rw[cH,List.getElem?_map,nP h];rfl
theorem jx (l:List Int):(cH l).length=l.length:=by simp[cH]
theorem AU (l:List Int)(k:Nat)(x:Int)(h:k < l.length):(cH l).take k++[.int .u32 x]++(cH l).drop (k+1)=cH (l.set k x):=by
 unfold cH;rw[List.map_set];apply List.ext_getElem?;intro i;rw[List.getElem?_set]
 by_cases h1:i < k
 rw[List.append_assoc,List.getElem?_append_left (by rw[List.length_take,List.length_map];omega),List.getElem?_take,if_pos h1,if_neg (by omega)]
 by_cases h2:i=k
 subst h2;rw[if_pos rfl,if_pos (by simpa using h),List.append_assoc,List.getElem?_append_right (by rw[List.length_take,List.length_map];omega)];simp[Nat.min_eq_left (Nat.le_of_lt h)];rw[if_neg (fun h=>h2 h.symm),List.append_assoc,List.getElem?_append_right (by rw[List.length_take,List.length_map];omega),List.length_take,List.length_map,Nat.min_eq_left (by omega),List.getElem?_append_right (by simp;omega),List.getElem?_drop]
 congr 1;simp;omega
instance nthU {l:List Int}{k:Nat}[h:cx k l.length]:pF (cH l) k (.int .u32 (bG l k)):=⟨kM h.lt⟩
instance setU {l:List Int}{k:Nat}{x:Int}[h:cx k l.length]:rR (cH l) k [.int .u32 x] (cH (l.set k x)):=⟨by rw[jx];exact h.lt,AU l k x h.lt⟩
instance lenU {l:List Int}{n:Nat}[h:eu l n]:gW (cH l) n:=⟨by rw[jx];exact h.eq⟩
instance flatU {l:List Int} : Flat (cH l):=⟨fun v h=>by obtain ⟨x,-,rfl⟩:=List.mem_map.1 h;rfl⟩
instance sfU8 {a b:List Int}[h:eu a 8][k:eu b 8]:iC (cH a) (cH b) (cH b):=⟨by rw[jx,jx,h.eq,k.eq];exact Nat.le_refl _,by rw[List.drop_of_length_le (by rw[jx,jx,h.eq,k.eq];exact Nat.le_refl _),List.append_nil]⟩
instance (priority:=1100) addnZ {b:Nat} : OQ 0 b b:=⟨Nat.zero_add b⟩
section
variable {P:Program}{ty t t':TypeId}{l:Cx}{bs:List Item}{fs:List (World→Prop)}{x y:Operand}{e n k j:Nat}{kk kl:IntKind}{m i:Int}{xs:List Int}{z:Value}{dy:Nat}
instance Yp [Ev l x (.agg ⟨cH xs⟩)][Ev l y (.int kk m)][hm:ey m k][ht:dN P t (.array n e)][o_:TI P e z 1 dy][ha:eU P e false][hk:cx k xs.length][hn:eu xs n]:dO P (.index t x y) ty l bs fs (.int .u32 (bG xs k)):=⟨fun ρ w h mm=>by
 have e1:=hm.eq;subst e1;have hlt:=hk.lt;have e2:(⟨cH xs⟩:Array Value)[k]? = some (.int .u32 (bG xs k)):=by
  have:=kM hlt;simpa using this
 have e3:k < (⟨cH xs⟩:Array Value).size:=by show k < (cH xs).length;rw[jx];exact hlt
 simp[cu,execOp,h.ev (x:=x) (v:=.agg ⟨cH xs⟩),h.ev (x:=y) (v:=.int kk (k:Int)),Instr.index,asIntOf,Sem.run_bind,cp,cv,part,ha.run];rw[if_pos (by rw[←hn.eq];exact hlt),kM hlt];rfl⟩
instance opShl [Ev l x (.int kk m)][Ev l y (.int kl i)][hj:ey i j]:dO P (.binOp .shl t x y t') ty l bs fs (.int kk (kk.wrap (m*2 ^ (min j kk.bits)))):=⟨fun ρ w h _=>by
 have h2:=hj.eq;subst h2;have h3:¬((j:Int) < 0):=by omega
 simp[cu,execOp,h.ev (x:=x) (v:=.int kk m),h.ev (x:=y) (v:=.int kl (j:Int)),eqGuard,binOp,Op.shift,h3]⟩
end
instance Tf {P:Program}{t ty e:TypeId}{l:Cx}{bs:List Item}{fs:List (World→Prop)}{parts:List (Nat × Operand)}{m sz by1:Nat}{z1:Value}{z:Value}{n dy:Nat}{zs cs:List Value}[ht:dN P t (.array m e)][TI P e z1 sz by1][TI P t z n dy][hc:Cells z zs][hs:oB (fun i=>some (i*sz,sz)) l zs parts cs]:dO P (.build t parts.toArray) ty l bs fs (.agg ⟨cs⟩):=⟨fun ρ w h _=>by
 have h1:=hs.run ρ h;have hz:z.cells=zs.toArray:=by rw[←hc.eq]
 simp only[cu,execOp,Instr.build,Sem.run_bind,nK,Result.andThen_ok,cp,cv,hz,List.map_toArray];simp[h1]⟩
instance (priority:=1200) Px {P:Program}{t ty e:TypeId}{lc:Cx}{bs:List Item}{fs:List (World→Prop)}{x:Operand}{ol oh:Option Operand}{b lo hi n sz dy:Nat}{z:Value}[Ev lc x (.pointer (some ⟨b,0,none⟩))][hl:Cp lc ol 0 lo][hh:Cp lc oh n hi][ht:dN P t (.array n e)][TI P e z sz dy][h2:eS hi n][h3:eS lo hi] :
  dO P (.slice t x ol oh none) ty lc bs fs (.slice (some (if n=lo then ⟨b,0,none⟩ else ⟨b,lo*sz,none⟩)) (hi - lo) (n - lo)):=⟨fun ρ w hf _=>by
 have hb:(Instr.sliceBounds false n n (ol.map ρ) (oh.map ρ) none).run P w=.ok (lo,hi,n) w:=by
  rcases hh.eq with ⟨rfl,rfl⟩ | ⟨o2,LH,rfl,h'⟩
  rcases hl.eq with ⟨rfl,rfl⟩ | ⟨o3,AG,rfl,h''⟩
  simp[Instr.sliceBounds];have e3:=hf.ev (x:=o3) (v:=.int AG (lo:Int));simp[Instr.sliceBounds,e3,run_sliceBound h3.le];have e2:=hf.ev (x:=o2) (v:=.int LH (hi:Int));rcases hl.eq with ⟨rfl,rfl⟩ | ⟨o3,AG,rfl,h''⟩
  simp[Instr.sliceBounds,e2,run_sliceBound h2.le];have e3:=hf.ev (x:=o3) (v:=.int AG (lo:Int));simp[Instr.sliceBounds,Sem.run_bind,e2,e3,run_sliceBound h2.le,run_sliceBound h3.le]
 have eX:ρ x=.pointer (some ⟨b,0,none⟩):=hf.ev;simp[cu,execOp,Instr.sliceAt,eX,Sem.run_bind,cp,Instr.sureAddr,hb,cv,add_lit]⟩
instance Yq {P:Program}{t ty e:TypeId}{lc:Cx}{bs:List Item}{fs:List (World→Prop)}{x:Operand}{p:Option Addr}{n m c:Nat}[Ev lc x (.slice p n c)][ht:dN P t (.array m e)][h:eS m n]:dO P (.sliceToArrayPointer t x) ty lc bs fs (.pointer p):=⟨fun ρ w hf _=>by
 have hle:=h.le;have h1:¬(n < m):=by omega
 simp[cu,execOp,Instr.arrayAt,hf.ev (x:=x) (v:=.slice p n c),Sem.run_bind,cp,h1]⟩
def F1 (b:Nat)(T:TypeId)(l:List Int)(k:Nat):Item where
 aj:=fun i=>i=b
 holds:=fun w=>∃ v,w.heap[b]? = some (.cells (cH (l.set k v)).toArray T (0,0))
instance Ic {b:Nat}{T:TypeId}{l:List Int}{k:Nat} : cV (F1 b T l k):=⟨fun w1 w2 h ⟨v,h1⟩=>⟨v,by rw[h b rfl];exact h1⟩,fun w ⟨v,h⟩ i hi=>by obtain rfl:i=b:=hi;exact (Array.getElem?_eq_some_iff.1 h).1⟩
class yT (bs:List Item)(b:Nat)(T:outParam TypeId)(l:outParam (List Int))(k:outParam Nat):Prop where mem:F1 b T l k∈bs
instance hbk0 {b:Nat}{T:TypeId}{l:List Int}{k:Nat}{bs:List Item} : yT (F1 b T l k::bs) b T l k:=⟨List.mem_cons_self ..⟩
instance (priority:=900) hbk1 {b:Nat}{T:TypeId}{l:List Int}{k:Nat}{x:Item}{bs:List Item}[h:yT bs b T l k]:yT (x::bs) b T l k:=⟨List.mem_cons_of_mem _ h.mem⟩
class VU (j k:Nat):Prop where ne:j≠k
theorem Ie {w:World}{b:Nat}{T:TypeId}{l:List Int}{k j:Nat}(h:(F1 b T l k).holds w)(hj:j < l.length)(hn:j≠k):w.cell? ⟨b,j,none⟩=some (.int .u32 (bG l j)):=by
 obtain ⟨v,h⟩:=h;rw[cell_of_row w b j _ T (0,0) h];have h1:=kM (l:=l.set k v) (k:=j) (by rw[List.length_set];exact hj);have h2:bG (l.set k v) j=bG l j:=by simp[bG,List.getD_eq_getElem?_getD,Ne.symm hn]
 rw[h2]at h1;simpa using h1
section
variable {P:Program}{r:Option Nat}{ops:Array Oper}{Q:Exit→Act→World→Prop}{w0:World}{M0:Nat→Prop}{ds:List Deferred}{a:Act}{w:World}{l l':List Value}{bs bs':List Item}{fs:List (World→Prop)}
 {d:Option Nat} {ty t:TypeId} {pos:String} {af:Array Edge} {rest:List Oper} {x y:Operand} {z:Value} {dy b k j:Nat} {T:TypeId} {xs:List Int}
instance (priority:=820) Tg {lc:Cx}[Ev lc x (.pointer (some ⟨b,j,none⟩))][hb:yT bs b T xs k][ha:eU P t false][hj:cx j xs.length][hn:VU j k]:dO P (.load t x) ty lc bs fs (.int .u32 (bG xs j)):=⟨fun ρ w hf mm=>by
 have hc:=Ie (mm.held _ hb.mem) hj.lt hn.ne;simp[cu,execOp,Instr.loadAt,hf.ev (x:=x) (v:=.pointer (some ⟨b,j,none⟩)),Instr.sureAddr,loadVar,Sem.run_bind,ha.run,load,Sem.run,hc]⟩
theorem St.Th (S:St w0 M0 ds a w l bs fs)(b:Nat)(T:TypeId)(xs:List Int)(k:Nat)(hb:e9 bs b T (cH xs))[k4:dD bs (Wk.box b T (cH xs)) (F1 b T xs k) bs']:St w0 M0 ds a w l bs' fs:=
 S.lg (x:=Wk.box b T (cH xs)) (y:=F1 b T xs k) S.slots S.defers rfl (aJ.refl _ _) ⟨bG xs k,by
  have h:=S.box b (h:=hb);have e:xs.set k (bG xs k)=xs:=by
   by_cases hk:k < xs.length
   rw[bG,List.getD_eq_getElem?_getD,List.getElem?_eq_getElem hk];simp;rw[List.set_eq_of_length_le (by omega)]
  rw[e];exact h⟩ (fun _ h=>.inl h) (fun i hi=>by obtain rfl:i=b:=hi;exact (Array.getElem?_eq_some_iff.1 (S.box _ (h:=hb))).1) Ic.loc
theorem St.Ig (S:St w0 M0 ds a w l bs fs)(b:Nat)(T:TypeId)(xs ys:List Int)(k:Nat)(hh:w.heap[b]? = some (.cells (cH ys).toArray T (0,0)))[k4:dD bs (F1 b T xs k) (Wk.box b T (cH ys)) bs']:St w0 M0 ds a w l bs' fs:=
 S.lg (x:=F1 b T xs k) (y:=Wk.box b T (cH ys)) S.slots S.defers rfl (aJ.refl _ _) hh (fun _ h=>.inl h) (fun i hi=>by obtain rfl:i=b:=hi;exact (Array.getElem?_eq_some_iff.1 hh).1) (qz _ _ _)
theorem Yr (b:Nat)(T:TypeId)(xs:List Int)(k:Nat){m:Int}(S:St w0 M0 ds a w l bs fs)[Ev ⟨[],l⟩ x (.pointer (some ⟨b,k,none⟩))][Ev ⟨[],l⟩ y (.int .u32 m)][TI P t z 1 dy][k4:dD bs (F1 b T xs k) (F1 b T xs k) bs][hp:cZ l d undef l'](hk:k < xs.length)(hh:w.heap[b]? = some (.cells (cH xs).toArray T (0,0)))
  (K:∀ a w,w.heap[b]? = some (.cells (cH (xs.set k m)).toArray T (0,0))→St w0 M0 ds a w l' bs fs→WL P r ops Q rest a w):WL P r ops Q (⟨d,.store t x y,ty,pos,af,none⟩::rest) a w:=by
 refine bR rfl ?_;rw[bQ rfl];have hrun:=run_storeCells_at (P:=P) b k T [Value.int .u32 m] 0 (cH xs).toArray w hh (by simp[jx];omega) (by intro v hv;obtain rfl:=List.mem_singleton.1 hv;rfl);simp only[Nat.add_zero,List.length_singleton]at hrun;have e1:(cu a.eval (.store t x y) ty).run P w=.ok .skip (w.setRow b ((cH xs).take k++[Value.int .u32 m]++(cH xs).drop (k+1)).toArray):=by
  have hcs:(Value.int .u32 m).cells = #[Value.int .u32 m]:=rfl;simp[cu,execOp,Instr.storeAt,S.fr.ev (x:=x) (v:=.pointer (some ⟨b,k,none⟩)),S.fr.ev (x:=y) (v:=.int .u32 m),Instr.sureAddr,storeVar,cv,Sem.run_bind,hcs,hrun]
 rw[AU xs k m hk]at e1;simp only[e1,Oper.uponIn];have S':=S.put (d:=d) (v:=undef) (l':=l');have hnew:=setRow_heap w b (cH xs).toArray (cH (xs.set k m)).toArray T (0,0) hh;exact K _ _ hnew (S.lg (x:=F1 b T xs k) (y:=F1 b T xs k) S'.slots S'.defers rfl (aJ.setRow w b _ rfl) ⟨m,hnew⟩ (fun _ h=>.inl h) (Ic.lt _ ⟨m,hnew⟩) Ic.loc)
end
section
variable {P:Program}{r:Option Nat}{Q:Exit→Act→World→Prop}{w0:World}{M0:Nat→Prop}{ds:List Deferred}{a:Act}{w:World}{l:List Value}{bs:List Item}{fs:List (World→Prop)}
theorem Ih {id:Nat}{lo:List Oper}(t:Tr)(S:St w0 M0 ds a w l bs fs)(mods:(Nat→Value)→List (Nat × Value)){l1:(Nat→Value)→List Value}[∀ uu,jN l (mods uu) (l1 uu)](eD:List Item)(fU:List Item)(jo:List (World→Prop))(rel:Prop)
  (h:∀ w',w'.heap=w.heap→St w0 M0 ds a w' l bs fs→AT P lo.toArray (fun w=>Wd w0 M0 w eD fs) (fun a w=>∃ vv,rel∧St w0 M0 ds a w (l1 vv) fU jo) t a w') (hK:∀ uu a w,rel→St w0 M0 ds a w (l1 uu) fU jo→Q .normal a w) (hm:P.follows .mixedOrders=true:=by kernel_rfl)
  (hd:((lo.all fun o=>!cE o.op)&&(Nat.beq t.len lo.length&&(Region.noSelect lo.toArray&&gI lo.toArray t (Array.replicate lo.length false))))=true:=by kernel_rfl):Wp P r (.region id lo.toArray true) Q a w:=by
 simp only[Bool.and_eq_true]at hd;refine wpIn_region_any hm (lS (C:=fun w=>Wd w0 M0 w eD fs) (fun i o ho=>?_) _ _ _ _ ?_);have:=List.all_eq_true.1 hd.1 o (by
  rw[List.getElem?_toArray]at ho;exact List.mem_of_getElem? ho)
 simpa using this;have:=h { w with drawn:=w.drawn+1 } rfl ⟨S.slots,S.defers,S.wd.step (aJ.drawn _ w _)⟩ _ hd.2.2.1 hd.2.2.2;rw[Nat.eq_of_beq_eq_true hd.2.1]at this;have hk:∀ a w,(∃ vv,rel∧St w0 M0 ds a w (l1 vv) fU jo)→Q .normal a w:=fun a w h=>by obtain ⟨vv,h1,h2⟩:=h;exact hK vv a w h1 h2
 simpa using yI hk _ _ _ _ this
end
theorem Ii (m:Nat):(Builtin.zeroCells (Value.int .u8 0).cells m).toList=aa (List.replicate m (0:UInt8)):=by
 have h1:∀ m,aa (List.replicate m (0:UInt8))=List.replicate m (Value.int .u8 0):=fun m=>by
  induction m with
  | zero=>rfl
  | succ m ih=>rw[rQ,bf,ih,rQ];rfl
 rw[h1];apply List.ext_getElem?;intro i;rcases Nat.lt_or_ge i m with h | h
 ·simp[Builtin.zeroCells,Value.cells,h,Nat.mod_one]
 ·simp[Builtin.zeroCells,Value.cells,Nat.not_lt.2 h]
theorem Ij (m:Nat)(v:Value):(List.replicate m [v]).flatten=List.replicate m v:=by
 induction m with
 | zero=>rfl
 | succ m ih=>rw[rQ,List.flatten_cons,ih];rfl
section
variable {P:Program}{r:Option Nat}{ops:Array Oper}{Q:Exit→Act→World→Prop}{w0:World}{M0:Nat→Prop}{ds:List Deferred}{a:Act}{w:World}{l:List Value}{bs:List Item}{fs:List (World→Prop)}
 {d:Option Nat} {ty t e:TypeId} {pos:String} {af:Array Edge} {rest:List Oper} {x y:Operand} {dy c:Nat} {xs:List Value}
theorem N4 (p:Option Addr)(n:Nat){m:Nat}{mi:Int}{tn:TypeId}{kn k:IntKind}{l':Option Addr→Nat→List Value}{bs':Option Addr→Nat→List Item}(S:St w0 M0 ds a w l bs fs)[hr:gE bs p n e 1 c xs][Ev ⟨[],l⟩ x (.slice p n c)][Ev ⟨[],l⟩ y (.int k mi)][hm:ey mi m][ht:dN P t (.slice e)][htn:dN P tn (.int kn)][o_:TI P e (.int .u8 0) 1 dy]
  [hp:∀ p' c',cZ l d (.slice p' (n+m) c') (l' p' c')] [k4:∀ p' c',dD bs (row e 1 p n c xs) (row e 1 p' (n+m) c' (xs++aa (List.replicate m (0:UInt8)))) (bs' p' c')] (hn:0 < n) (h63:n+m≤maxLen) (h48:(n+m)*dy≤140737488355328)
  (K:∀ p' c' a w,St w0 M0 ds a w (l' p' c') (bs' p' c') fs→WL P r ops Q rest a w) :
  WL P r ops Q (⟨d,.call { callee:=.builtin .append,args:=#[x,y],argTypes:=#[t,tn] },ty,pos,af,none⟩::rest) a w:=by
 refine bR rfl ?_;rw[bQ rfl];obtain ⟨ii,hi',Lo,hsize,hby⟩:=o_.ex;subst hby;have Aj:=hm.eq;subst Aj;have h63':=h63;have hrow:=S.row p n;have Ag:xs.length=n:=by have:=hrow.1;omega
 obtain ⟨zs,hzs⟩:∃ zs,zs=aa (List.replicate m (0:UInt8)):=⟨_,rfl⟩;have hzl:zs.length=m:=by rw[hzs,aU,List.length_replicate];exact Nat.mul_one _
 have Ti:∀ u∈zs,u.oneCell'=true:=by rw[hzs];exact hY _
 have hzz:(Builtin.zeroCells (Value.int .u8 0).cells m).toList=zs:=by rw[hzs];exact Ii m
 suffices h:∃ p' c' w',(Builtin.append_ #[t,tn] ty #[.slice p n c,.int k (m:Int)]).run P w=.ok (.slice p' (n+m) c') w'∧aJ (fun k=>∃ ad,p=some ad∧k=ad.block) w w'∧w'.ownsRow 0 e 1 (.slice p' (n+m) c') (n+m) (xs++zs)∧∀ ad,p'=some ad→p=some ad∨w.heap.size≤ad.block by
  obtain ⟨p',c',w',hrun,iR,hown,hnew⟩:=h;have e1:(cu a.eval (.call { callee:=.builtin .append,args:=#[x,y],argTypes:=#[t,tn] }) ty).run P w=.ok (.value (.slice p' (n+m) c')) w':=by
   simp[cu,execOp,resolve,invoke,builtin,S.fr.ev (x:=x) (v:=.slice p n c),S.fr.ev (x:=y) (v:=.int k (m:Int)),hrun]
  simp only[e1,Oper.uponIn];have:=hp p' c';have:=k4 p' c';have S':=S.put (d:=d) (v:=.slice p' (n+m) c') (l':=l' p' c');rw[hzs]at hown;exact K _ _ _ _ (S.lg (x:=row e 1 p n c xs) (y:=row e 1 p' (n+m) c' (xs++aa (List.replicate m (0:UInt8)))) S'.slots S'.defers rfl iR hown (fun k ⟨ad,h1,h2⟩=>(hnew ad h1).imp (fun h=>⟨ad,h,h2⟩) (fun h=>by rw[h2];exact h)) (bS hown) (gv _ _ _ _ _ _))
 have hs0:0 < ii.size:=by omega
 rcases Nat.eq_zero_or_pos m with h0 | h0
 subst h0;have hnc:=gm hrow;have VV:zs=[]:=List.eq_nil_of_length_eq_zero hzl;refine ⟨p,c,w,?_,aJ.refl _ _,by rw[VV,List.append_nil];exact hrow,fun _ h=>.inl h⟩;have hw:IntKind.i64.wrap (0:Int)=0:=by decide
 cases p <;> simp[Builtin.append_,cp,run_underlying htn.eq,sizeOf,typeInfo,hi',asInt,asIntOf,hw,hnc,storeCells,Sem.run_bind]
 by_cases hroom:n+m≤c
 obtain ⟨ys,wR,Ik⟩:=H_ hrow (Nat.le_add_right n m) hroom (by omega) hn;obtain ⟨g,cur,Ef,hgc,-⟩:=eB hrow hn;obtain ⟨w',hrun,iR,hown⟩:=tL (P:=P) Ik (vs:=zs) (o:=n) Ef (by omega) Ti;have FN:(xs++ys).take n++zs++(xs++ys).drop (n+zs.length)=xs++zs:=by
  rw[←Ag,List.take_left,List.drop_append,List.drop_of_length_le (by omega),j6,List.drop_of_length_le (by omega),List.append_nil]
 rw[FN]at hown;refine ⟨p,c,w',?_,iR,hown,fun _ h=>.inl h⟩;have hw:IntKind.i64.wrap (m:Int)=m:=by rw[IntKind.wrap_i64];unfold maxLen at h63;omega
 have hneg:¬((m:Int) < 0):=by omega
 have hns:¬(m=0):=by omega
 have hmb:m*ii.bytes≤(n+m)*ii.bytes:=Nat.mul_le_mul_right _ (by omega);have Ys:¬(281474976710656 < (m:Int)*(ii.bytes:Int)):=by rw[←Int.natCast_mul];omega
 rw[Ef];have hst:(storeCells (Addr.add ⟨g,0,none⟩ n) zs).run P w=.ok () w':=by rw[add_lit];exact hrun
 have Yt:(Builtin.zeroCells (Value.int .u8 0).cells m)=zs.toArray:=by rw[←hzz]
 simp[Builtin.append_,cp,run_underlying htn.eq,sizeOf,typeInfo,zeroValue,hi',Lo,hsize,asInt,asIntOf,hw,hneg,hns,Ys,hroom,Yt,Sem.run_bind,hst];have hold:(Builtin.firstCells ii.size n (.slice p n c)).run P w.drew=.ok xs.toArray w.drew:=by
  obtain ⟨g,cur,rfl,hg,hnc,hcs,S_,nM⟩:=eB hrow hn;refine run_firstCells_some w.drew ii.size n _ n c _ (by rw[hsize];omega) (fun j u hj=>?_)
  show w.cell? _=some u
  rw[add_lit,cell_of_row w g j cur e (0,0) hg];rw[←S_,List.getElem?_take]at hj;split at hj;simpa using hj;cases hj
 have hmb:m*ii.bytes≤(n+m)*ii.bytes:=Nat.mul_le_mul_right _ (by omega);have hrun:=Lib.run_append_grow_zeros (P:=P) w t tn ty e ii _ k kn ht.eq htn.eq hi' Lo p n c _ hold m h0 hs0 (by omega) (by unfold maxLen at h63;omega) (by omega) (growslice_fits (by omega) h48);have hge:=grownCap_ge w (n+m) c e;have rU:(xs++zs).length=n+m:=by rw[List.length_append];omega
 have h1z:(Value.int .u8 0).cells.size=1:=rfl;refine ⟨_,_,_,hrun,(aJ.drawn _ w _).trans (aJ.alloc _ w.drew _),⟨by omega,.inr ⟨w.heap.size,_,_,rfl,Nat.zero_le _,heap_alloc_new w.drew _,hge,grownCap_le_maxLen w (n+m) c e h63',?_,?_⟩⟩,fun ad h=>.inr (by cases h;exact Nat.le_refl _)⟩;rw[Array.size_append,Array.size_append,size_zeroCells,size_zeroCells,h1z,List.size_toArray];omega;rw[Array.toList_append,Array.toList_append,hzz]
 show (xs++zs++_).take _=_
 rw[show (n+m)*1=(xs++zs).length from by omega];exact List.take_left
theorem Yu {mi mj:Int}{kk kl:IntKind}{l':Nat→List Value}(n m:Nat)(S:St w0 M0 ds a w l bs fs)[Ev ⟨[],l⟩ x (.int kk mi)][Ev ⟨[],l⟩ y (.int kl mj)][ht:dN P t (.slice e)][o_:TI P e (.int .u8 0) 1 dy]
  [hp:∀ b,cZ l d (.slice (some ⟨b,0,none⟩) n m) (l' b)] (hi:mi=n) (hj:mj=m) (hnm:n≤m) (hb:dy*m≤281474976710656) (hm:m≤maxLen)
  (K:∀ b a w,St w0 M0 ds a w (l' b) (row e 1 (some ⟨b,0,none⟩) n m (aa (List.replicate n (0:UInt8)))::bs) fs→WL P r ops Q rest a w):WL P r ops Q (⟨d,.makeSlice t x y,ty,pos,af,none⟩::rest) a w:=by
 refine bR rfl ?_;rw[bQ rfl];subst hi hj;obtain ⟨i,hi,hz,hs,hby⟩:=o_.ex;have hb':(i.bytes:Int)*(m:Int)≤281474976710656:=by
  have h:((dy*m:Nat):Int)≤281474976710656:=by omega
  rw[hby];rwa [Int.natCast_mul]at h
 have hr:=run_make (P:=P) w t e i _ ht.eq hi hz kk kl n m (by omega) (by omega) hb' (by simp only[maxLen]at hm;omega);have h1:∀ m,aa (List.replicate m (0:UInt8))=List.replicate m (Value.int .u8 0):=fun m=>by
  induction m with
  | zero=>rfl
  | succ m ih=>rw[rQ,bf,ih,rQ];rfl
 have pU:madeCells (Value.int .u8 0).cells ((m:Int).toNat*i.size)=(aa (List.replicate m (0:UInt8))).toArray:=by
  have h2:=rS m [Value.int .u8 0] (by simp);have h3:=Ij m (Value.int .u8 0);rw[h1,←h3,←h2,hs];rfl
 rw[pU]at hr;simp only[Int.toNat_natCast]at hr;have e1:(cu a.eval (.makeSlice t x y) ty).run P w=.ok (.value (.slice (some ⟨w.heap.size,0,none⟩) n m)) (w.alloc (.cells (aa (List.replicate m (0:UInt8))).toArray e)):=by
  simp[cu,execOp,S.fr.ev (x:=x) (v:=.int kk (n:Int)),S.fr.ev (x:=y) (v:=.int kl (m:Int)),hr]
 simp only[e1,Oper.uponIn];have:=hp w.heap.size;have S':=S.put (d:=d) (v:=.slice (some ⟨w.heap.size,0,none⟩) n m);have S2:St w0 M0 ds _ _ (l' w.heap.size) (box w.heap.size e (aa (List.replicate m (0:UInt8)))::bs) fs:=⟨S'.slots,S'.defers,S'.wd.alloc e _⟩;have VG:(aa (List.replicate m (0:UInt8))).length=m:=by rw[aU,List.length_replicate];exact Nat.mul_one _
 have S3:=S2.bT w.heap.size 1 m (by omega) hm;have S4:=S3.O_ (some ⟨w.heap.size,0,none⟩) n m hnm;rw[show (aa (List.replicate m (0:UInt8))).take (n*1)=aa (List.replicate n (0:UInt8)) from by
  have:=lU (List.replicate m (0:UInt8)) n;rw[List.take_replicate,Nat.min_eq_left hnm]at this;exact this]at S4
 exact K _ _ _ S4
end
def Il (ad:Addr)(b:bF):World→Prop:=fun w=>∀ j v,(aa b.l)[j]? = some v→w.cell? (ad.add j)=some v
class EF (fs:List (World→Prop))(ad:Addr)(b:outParam bF):Prop where mem:Il ad b∈fs
instance hbkf0 {ad:Addr}{b:bF}{fs:List (World→Prop)} : EF (Il ad b::fs) ad b:=⟨List.mem_cons_self ..⟩
section
variable {P:Program}{ty t:TypeId}{lc:Cx}{bs:List Item}{fs:List (World→Prop)}{x:Operand}{ad:Addr}{z:Value}{dy:Nat}{b:bF}
instance (priority:=810) Py [Ev lc x (.pointer (some ad))][ha:eU P t true][TI P t z 64 dy][hb:EF fs ad b]:dO P (.load t x) ty lc bs fs (.agg ⟨aa b.l⟩):=⟨fun ρ w h mm=>by
 have hf:Il ad b w:=(mm.facts _ hb.mem).now;have h1:=run_loadCells_list (P:=P) w ad (aa b.l) hf;simp only[b.len]at h1;simp[cu,execOp,Instr.loadAt,h.ev (x:=x) (v:=.pointer (some ad)),Instr.sureAddr,loadVar,Sem.run_bind,ha.run,cv,h1]⟩
end
instance itMpn {b:Nat}{kv:List (Int × Value)} : cV (lQ b kv):=⟨yR b kv,fun w ⟨es,clock,h,_⟩ k hk=>by obtain rfl:k=b:=hk;exact (Array.getElem?_eq_some_iff.1 h).1⟩
def C2:Item where
 aj:=fun _=>False
 holds:=fun _=>True
instance itNil:cV C2:=⟨fun _ _ _ _=>trivial,fun _ _ _ h=>h.elim⟩
instance sfZ {b:bF} : iC (aa (List.replicate 64 (0:UInt8))) (aa b.l) (aa b.l):=⟨by rw[b.len,aU,List.length_replicate];exact Nat.le_refl _,by rw[b.len,List.drop_of_length_le (by rw[aU,List.length_replicate];exact Nat.le_refl _),List.append_nil]⟩
instance Yv {n:Nat} : gW (aa (List.replicate n (0:UInt8))) n:=⟨by rw[aU,List.length_replicate];exact Nat.mul_one _⟩
instance (priority:=1100) repl1 {zs:List Value} : HC 1 zs zs:=⟨by simp⟩
instance les65:OR 65 4096:=⟨by decide⟩
instance les64:OR 64 4096:=⟨by decide⟩
instance nenZ {n:Nat} : Vy (aa (List.replicate (n+1) (0:UInt8))):=⟨by rw[rQ,bf];simp[cX.cells]⟩
theorem Tj (x:Int)(h : -9223372036854775808≤x∧x≤9223372036854775807):yC .i64 x 7=x % 8:=by
 have e1:(BitVec.ofInt 64 x&&& BitVec.ofInt 64 7).toNat=(x % 8).toNat:=by
  have e2:(BitVec.ofInt 64 7:BitVec 64)=7#64:=by decide
  rw[e2,BitVec.toNat_and,BitVec.toNat_ofInt];have e3:(7#64:BitVec 64).toNat=2 ^ 3 - 1:=by decide
  rw[e3,Nat.and_two_pow_sub_one_eq_mod];omega
 unfold yC
 show IntKind.i64.wrap ((BitVec.ofInt 64 x&&& BitVec.ofInt 64 7).toNat:Int)=_
 rw[e1,w6 _];omega
end Go.Wk
namespace Go.Proofs.YtdakncgafdnjfaaGreat
open Go.Proofs.Tryz
open Go Go.Wk
set_option synthInstance.maxSize 100000
set_option synthInstance.maxHeartbeats 400000
set_option maxRecDepth 100000
def zB:bF:=⟨List.replicate 64 0,by simp⟩
structure rN where
 at_:Int
 b:bF
abbrev VW (x:rN):List Value:=.int .i64 x.at_::aa x.b.l
instance Tk:cX rN:=⟨65,VW,fun x=>by show (aa x.b.l).length+1=65;rw[x.b.len],fun x u hu=>by
 rcases List.mem_cons.1 hu with rfl | hu
 rfl;exact hY _ u hu⟩
instance layWr:dW rN:={ Tk with
 dflt:=⟨0,zB⟩
 ny:=fun _ _=>True
 mono:=fun _ _ _ _ _=>trivial }
instance:Ai rN 65:=⟨rfl,by decide⟩
instance {x:rN} : gx x (.int .i64 x.at_::aa x.b.l):=⟨rfl⟩
structure Im where
 on:Bool
 left:Int
structure DS where
 size:Int
 cg:List (Int × bF)
 loose:List rN
 out:Bool
 bC:Im
 bD:Im
 ops:Int
def jJ (f:List (Int × bF)):List (Int × Value):=f.map fun x=>(x.1,iy x.2)
def eo (k:Int):List (Int × bF)→Option bF
 | []=>none
 | (u,b)::f=>if k=u then some b else eo k f
def qO (k:Int)(v:bF):List (Int × bF)→List (Int × bF)
 | []=>[(k,v)]
 | (u,x)::f=>if k=u then (u,v)::f else (u,x)::qO k v f
theorem C3 (k u:Int)(v:Value)(kv:List (Int × Value)):qN k ((u,v)::kv)=if k=u then some v else qN k kv:=by
 have h:∀ (kv:List (Int × Value)) (i j:Nat),(iZ k kv i).map (·.2)=(iZ k kv j).map (·.2):=fun kv=>by
  induction kv with
  | nil=>intro i j;rfl
  | cons x kv ih=>intro i j;obtain ⟨u,v⟩:=x;simp only[iZ];split;rfl;exact ih _ _
 rw[qN,iZ];split
 ·rfl
 ·exact h kv 1 0
theorem F2 (k:Int)(f:List (Int × bF)):qN k (jJ f)=(eo k f).map iy:=by
 induction f with
 | nil=>rfl
 | cons x f ih=>
  obtain ⟨u,b⟩:=x
  show qN k ((u,iy b)::jJ f)=_
  rw[C3,eo,ih];split <;> rfl
theorem xx (k:Int)(v:bF)(f:List (Int × bF)):nA k (iy v) (jJ f)=jJ (qO k v f):=by
 induction f with
 | nil=>rfl
 | cons x f ih=>
  obtain ⟨u,b⟩:=x
  show nA k (iy v) ((u,iy b)::jJ f)=_
  rw[nA,qO,ih];split <;> rfl
abbrev bq (m:Nat)(p:Option Addr)(n c:Nat)(s:DS):List Value:=[.int .i64 s.size,.map (some m),.slice p n c,.bool s.out,.bool s.bC.on,.int .i64 s.bC.left,.bool s.bD.on,.int .i64 s.bD.left,.int .i64 s.ops]
def ez (k:Int):List rN→Option bF
 | []=>none
 | x::l=>(ez k l).or (if x.at_=k then some x.b else none)
def aN (s:DS)(k:Int):bF:=((ez k s.loose).or (eo k s.cg)).getD zB
def gZ (n:Int):DS:=⟨n,[],[],false,⟨false,0⟩,⟨false,0⟩,0⟩
theorem Pz (n:Int)(h:1≤n∧n≤2048)(w0:World):aT prog 45 [.int .i64 n] w0 (fun _=>False) fun v w'=>∃ b m,v=.tuple ⟨[.pointer (some ⟨b,0,none⟩),.int .i64 0]⟩∧b≠m∧w0.heap.size≤b∧w0.heap.size≤m∧(Wk.box b 170 (bq m none 0 0 (gZ n))).holds w'∧(lQ m []).holds w':=by
 refine E1 func45 rfl ntmps45 (Wd.start w0) ?_;intro a S;refine tI ?_;intro a S;rw[show (decide (n < 1)||decide (2048 < n))=false from by simp;omega]at S;refine J8 ?_;intro a S;refine Tb S ?_;intro m a w S;refine J2 ?_;intro a S;refine sa S ?_;intro N5 a w S;refine J5 ?_;intro a S;have hb:=(S.mS N5).elim (fun h=>h.elim) id;have hm:=(S.bH (lQ m []) rfl m rfl).elim (fun h=>h.elim) id;have hh:=S.box N5;have Aj:=S.it (lQ m []);have hne:N5≠m:=fun e=>St.gj S (Wk.box N5 170 [.int .i64 n,.map (some m),.slice none 0 0,.bool false,.bool false,.int .i64 0,.bool false,.int .i64 0,.int .i64 0]) (lQ m []) N5 rfl e
 refine gO S (fun _=>?_);exact ⟨N5,m,rfl,hne,hb,hm,hh,Aj⟩
def ek (c:Im):Bool × Im:=if c.on then (if c.left=0 then (true,⟨false,0⟩) else (false,⟨true,IntKind.i64.wrap (c.left - 1)⟩)) else (false,c)
theorem Io (b m:Nat)(p:Option Addr)(n c:Nat)(s:DS)(w0:World)(hb:(Wk.box b 170 (bq m p n c s)).holds w0) :
  aT prog 256 [.pointer (some ⟨b,4,none⟩)] w0 (fun k=>k=b) fun v w'=>v=.bool (ek s.bC).1∧(Wk.box b 170 (bq m p n c { s with bC:=(ek s.bC).2 })).holds w':=by
 obtain ⟨sz,fm,lo,ou,⟨on,left⟩,fa,op⟩:=s;refine E1 func256 rfl ntmps256 (Wd.bV (x:=Wk.box b 170 (bq m p n c ⟨sz,fm,lo,ou,⟨on,left⟩,fa,op⟩)) (fs:=[]) hb (by simp)) ?_;intro a S;refine R_ ?_;intro a S;refine kC S (fun h1=>?_) (fun h1=>?_);refine Sa ?_;intro a w S;obtain ⟨rfl,rfl⟩:on=true∧left=0:=by simpa using h1
 have hh:=S.box b;refine aD S (fun _=>⟨rfl,hh⟩);refine gM ?_;intro a S;refine kC S (fun h4=>?_) (fun h4=>?_);refine CD ?_;intro a w S;have PA:on=true:=by simpa using h4
 subst PA;have hl:left≠0:=by simpa using h1
 have hh:=S.box b;refine aD S (fun _=>?_);have e:ek ⟨true,left⟩=(false,⟨true,IntKind.i64.wrap (left - 1)⟩):=by simp[ek,hl]
 rw[e];exact ⟨rfl,hh⟩;refine J8 ?_;intro a S;have PA:on=false:=by simpa using h4
 subst PA;have hh:=S.box b;refine aD S (fun _=>⟨rfl,hh⟩)
theorem xy (b m:Nat)(p:Option Addr)(n c:Nat)(s:DS)(w0:World)(hb:(Wk.box b 170 (bq m p n c s)).holds w0) :
  aT prog 256 [.pointer (some ⟨b,6,none⟩)] w0 (fun k=>k=b) fun v w'=>v=.bool (ek s.bD).1∧(Wk.box b 170 (bq m p n c { s with bD:=(ek s.bD).2 })).holds w':=by
 obtain ⟨sz,fm,lo,ou,ar,⟨on,left⟩,op⟩:=s;refine E1 func256 rfl ntmps256 (Wd.bV (x:=Wk.box b 170 (bq m p n c ⟨sz,fm,lo,ou,ar,⟨on,left⟩,op⟩)) (fs:=[]) hb (by simp)) ?_;intro a S;refine R_ ?_;intro a S;refine kC S (fun h1=>?_) (fun h1=>?_);refine Sa ?_;intro a w S;obtain ⟨rfl,rfl⟩:on=true∧left=0:=by simpa using h1
 have hh:=S.box b;refine aD S (fun _=>⟨rfl,hh⟩);refine gM ?_;intro a S;refine kC S (fun h4=>?_) (fun h4=>?_);refine CD ?_;intro a w S;have PA:on=true:=by simpa using h4
 subst PA;have hl:left≠0:=by simpa using h1
 have hh:=S.box b;refine aD S (fun _=>?_);have e:ek ⟨true,left⟩=(false,⟨true,IntKind.i64.wrap (left - 1)⟩):=by simp[ek,hl]
 rw[e];exact ⟨rfl,hh⟩;refine J8 ?_;intro a S;have PA:on=false:=by simpa using h4
 subst PA;have hh:=S.box b;refine aD S (fun _=>⟨rfl,hh⟩)
def AV (n:Int):Im:=⟨decide (0≤n),n⟩
theorem Ip (b m:Nat)(p:Option Addr)(n c:Nat)(s:DS)(k:Int)(w0:World)(hb:(Wk.box b 170 (bq m p n c s)).holds w0) :
  aT prog 102 [.pointer (some ⟨b,4,none⟩),.int .i64 k] w0 (fun k=>k=b) fun _ w'=>(Wk.box b 170 (bq m p n c { s with bC:=AV k })).holds w':=by
 refine E1 func102 rfl ntmps102 (Wd.bV (x:=Wk.box b 170 (bq m p n c s)) (fs:=[]) hb (by simp)) ?_;intro a S;refine Y9 ?_;intro a w S;have hh:=S.box b;refine iD S (fun _=>hh)
theorem N6 (b:Nat)(m:Nat)(p:Option Addr)(n c:Nat)(s:DS)(w0:World)(hb:Fx w0 (az b 170 (bq m p n c s))):aT prog 170 [.pointer (some ⟨b,0,none⟩)] w0 (fun _=>False) fun v _=>v=.int .i64 s.size:=by
 refine E1 func170 rfl ntmps170 (Wd.begin (fs:=[az b 170 (bq m p n c s)]) (by simpa using hb)) ?_;intro a S;refine mK ?_;intro a S;refine J6 ?_;intro a S;exact aD S (fun _=>rfl)
def PB (g:Nat):Value:=.func (.func 270) #[] ⟨[.pointer (some ⟨g,0,none⟩)]⟩
theorem L8 (b:Nat)(w0:World):aT prog 257 [.pointer (some ⟨b,0,none⟩)] w0 (fun _=>False) fun v w'=>∃ g,v=PB g∧w0.heap.size≤g∧az g 263 [.pointer (some ⟨b,0,none⟩)] w':=by
 refine E1 func257 rfl ntmps257 (Wd.start w0) ?_;intro a S;refine kS (kR ?_);refine sa S ?_;intro b1 a w S;refine mJ ?_;intro a S;have hn:=(S.mS b1).elim (fun h=>h.elim) id;have hh:=S.ir b1;exact aD S (fun _=>⟨b1,rfl,hn,hh⟩)
theorem Iq (g b m:Nat)(p:Option Addr)(c:Nat)(s:DS)(hl:s.loose.length≤1000000)(w0:World)(M:Nat→Prop)(hM:∀ k,M k→k < w0.heap.size)(f1:ag M w0 (az g 263 [.pointer (some ⟨b,0,none⟩)]))(f2:ag M w0 (az b 170 (bq m p s.loose.length c s)))(f3:ag M w0 (av p s.loose)) :
  oF prog 270 [.pointer (some ⟨g,0,none⟩)] w0 M (fun(x:rN) vs _ _=>vs=[.agg ⟨VW x⟩]) s.loose.reverse:=by
 intro L J Jx hy hJ;have hF:∀ Φ∈[az g 263 [.pointer (some ⟨b,0,none⟩)],az b 170 (bq m p s.loose.length c s),av p s.loose],ag M w0 Φ:=by simp;exact ⟨f1,f2,f3⟩
 refine (callsIn_wide (n:=0)).2 ?_;refine E1 func270 rfl ntmps270 (Wd.fE (M:=M) (fs:=[az g 263 [.pointer (some ⟨b,0,none⟩)],az b 170 (bq m p s.loose.length c s),av p s.loose]) hM hF) ?_;intro a S;refine gM ?_;intro a S;refine eR (ι:=Nat) (fun k a w=>k≤s.loose.length∧∃ N w1,J (s.loose.length - k) w1∧∃ uu:Nat→Value,St w1 (fun _=>False) [] a w ((.func (.yield L) #[] #[])::(.pointer (some ⟨g,0,none⟩))::uu 2::(.int .i64 (k:Nat))::uu 4::uu 5::uu 6::uu 7::uu 8::uu 9::uu 10::uu 11::uu 12::uu 13::uu 14::uu 15::uu 16::uu 17::uu 18::uu 19::uu 20::uu 21::uu 22::uu 23::[]) [ext N] [az g 263 [.pointer (some ⟨b,0,none⟩)],az b 170 (bq m p s.loose.length c s),av p s.loose]) (fun k=>k) s.loose.length ?_ ?_;refine ⟨Nat.le_refl _,M,w0,by rw[Nat.sub_self];exact hJ,S.uu,S⟩;clear S;rintro k a w ⟨hk,N,w1,Ir,uu,S⟩;refine J7 ?_;intro a S;refine kC S (fun h1=>?_) (fun h1=>?_);refine kK (aQ (kS (kB (kS ?_))));have RF:0 < k:=by simp at h1;omega
 have hK:cx (k - 1) s.loose.length:=⟨by omega⟩;have hx:s.loose.reverse[s.loose.length - k]? = some (aq s.loose (k - 1)):=by
  rw[List.getElem?_reverse (by omega),show s.loose.length - 1 - (s.loose.length - k)=k - 1 from by omega,bu (by omega)]
 refine J8 ?_;intro a S;rw[show IntKind.i64.wrap ((k:Int) - 1)=((k - 1:Nat):Int) from by rw[w6 _];omega]at S;refine J2 ?_;intro a S;refine sy S (M:=M) (wI:=w0) (dz:=[az g 263 [.pointer (some ⟨b,0,none⟩)],az b 170 (bq m p s.loose.length c s),av p s.loose]) hF (hy _ _ _ w1 w hx Ir S.wd.agree rfl) ?_;intro ok N' a w2 hT hX S;refine J3 ?_;intro a S;refine kC S (fun h3=>?_) (fun h3=>?_);refine kT (Ac (tG (tG (Ac ?_))));exact CQ S ⟨w2,S.wd.agree,.inr (hX (by simpa using h3))⟩;refine J6 ?_;intro a S;rw[show IntKind.i64.wrap ((k:Int) - 1)=((k - 1:Nat):Int) from by rw[w6 _];omega]at S;refine J3 ?_;intro a S;exact ⟨k - 1,⟨by omega,N',w2,by rw[show s.loose.length - (k - 1)=s.loose.length - k+1 from by omega];exact hT (by simpa using h3),S.uu,S⟩,by omega⟩;refine kE (fT (fT (mM ?_)));have RF:k=0:=by simp at h1;omega
 refine CQ S ⟨w1,S.wd.agree,.inl ?_⟩;rw[RF]at Ir;rw[List.length_reverse];exact Ir
theorem rX (k:Int):∀ l:List rN,ez k l=(l.reverse.find? fun x=>decide (x.at_=k)).map rN.b
 | []=>rfl
 | x::l=>by
  rw[ez,rX k l,List.reverse_cons,List.find?_append];cases h:l.reverse.find? fun x=>decide (x.at_=k) with
  | some y=>simp
  | none=>
   by_cases hx:x.at_=k <;> simp[hx]
theorem L9 {xs:List rN}{i:Nat}{x:rN}{k:Int}(h:xs[i]? = some x)(hp:x.at_=k)(hn:∀ y∈xs.take i,y.at_≠k):xs.find? (fun x=>decide (x.at_=k))=some x:=by
 have e:xs.drop i=x::xs.drop (i+1):=by
  obtain ⟨hi,rfl⟩:=List.getElem?_eq_some_iff.1 h;exact (List.getElem_cons_drop hi).symm
 have hnone:(xs.take i).find? (fun x=>decide (x.at_=k))=none:=List.find?_eq_none.2 fun y hy=>by simpa using hn y hy
 rw[←List.take_append_drop i xs,List.find?_append,hnone,e];simp[hp]
theorem L_ (b m:Nat)(p:Option Addr)(c:Nat)(s:DS)(k:Int)(hl:s.loose.length≤1000000)(w0:World)(f1:Fx w0 (az b 170 (bq m p s.loose.length c s)))(f2:Fx w0 (uT m (jJ s.cg)))(f3:Fx w0 (av p s.loose)) :
  aT prog 224 [.pointer (some ⟨b,0,none⟩),.int .i64 k] w0 (fun _=>False) fun v _=>v=iy (aN s k):=by
 refine pX func224 rfl rfl (Wd.begin (fs:=[az b 170 (bq m p s.loose.length c s),uT m (jJ s.cg),av p s.loose]) (by simp;exact ⟨f1,f2,f3⟩)) (fun a S=>?_);refine E0 ntmps224 ?_;clear S;intro S;refine kS (kR ?_);refine sa S ?_;clear S;intro b3 a w S;refine sa S ?_;clear S;intro b4 a w S;refine kN (aQ (Ep (kS ?_)));refine bM [T9 0,T9 1,T9 2,T9 3,T9 4,T9 5,F9 6,F9 7] [] S ?_;clear S;intro w S;refine J6 ?_;clear S;intro a S;rw[show (qN k (jJ s.cg)).getD (.agg ⟨aa (List.replicate 64 (0:UInt8))⟩)=iy ((eo k s.cg).getD zB) from by rw[F2];cases eo k s.cg <;> rfl]at S;refine dl (sa S ?_);clear S;intro b5 a w S;refine de S ?_;refine dl (sw S ?_);clear S;intro a w S;refine de S ?_;refine dn (aQ (kS (D9 (aQ (kS (kS (kR (sq S ?_))))))));clear S;intro a S;have hlt:=a_ S;refine sr S (L8 b w) ?_;clear S;rintro _ a w ⟨g,rfl,n1,f1⟩ S;replace S:=S.add (Φ:=az g 263 [.pointer (some ⟨b,0,none⟩)]) (az.aO f1 (fun hm=>by have:=hlt _ hm;omega));clear hlt n1 f1;refine kN (aQ (kB ?_));replace S:=S.iJ b3;refine qE (κ:=Unit) (κx:=bF) (Ds:=[]) s.loose.reverse
  (fun _ _=>[Wk.box b5 129 (aa ((eo k s.cg).getD zB).l),Wk.box b4 129 (aa (List.replicate 64 (0:UInt8))),marks []]) (fun _ _=>_) (fun i _=>∀ x∈s.loose.reverse.take i,x.at_≠k) (fun y=>[Wk.box b5 129 (aa y.l),Wk.box b4 129 (aa (List.replicate 64 (0:UInt8))),marks []]) (fun _=>[az b3 3 [.int .i64 k],az g 263 [.pointer (some ⟨b,0,none⟩)],az b 170 (bq m p s.loose.length c s),uT m (jJ s.cg),av p s.loose]) (fun c y=>c=.exit 0∧ez k s.loose=some y) () S (fun M w1 hM hF _=>Iq g b m p c s hl w1 M hM (hF _ (by simp)) (hF _ (by simp)) (hF _ (by simp))) ⟨by simp,rfl,rfl⟩ ?_ ?_ ?_ ?_
 clear S;rintro L D bL M w1 i x vs _ W0 w hx aI RL Ho rfl;refine ⟨_,inferInstance,fun a S=>?_⟩;refine kR (sa S ?_);clear S;intro b6 a w S;refine Y3 ?_;clear S;intro a w S;refine uG (D:=D) (b:=bL) S ?_;clear S;intro a w S;refine J9 ?_;clear S;intro a S;refine kC S (fun h4=>?_) (fun h4=>?_);refine kS (kR ?_);(iterate 2 (refine sq S ?_;clear S;intro a S));refine sw S ?_;clear S;intro a w S;refine kN (aQ (kE (Rt ?_)));have VE:x.at_=k:=by simpa using h4
 replace S:=S.sub [lP L D (kW bL .busy none),Wk.box b5 129 (aa x.b.l),Wk.box b4 129 (aa (List.replicate 64 (0:UInt8))),marks []] [az b3 3 [.int .i64 k],az g 263 [.pointer (some ⟨b,0,none⟩)],az b 170 (bq m p s.loose.length c s),uT m (jJ s.cg),av p s.loose];refine Sz (D:=D) (b:=bL) S fun W hW=>⟨.inr ⟨0,rfl⟩,x.b,⟨rfl,?_⟩,hW⟩
 rw[rX,L9 hx VE aI];rfl;refine kK (qw ?_);have o_:s.loose.reverse.take (i+1)=s.loose.reverse.take i++[x]:=by rw[List.take_add_one,hx];rfl
 replace S:=S.sub [lP L D (kW bL .busy none),Wk.box b5 129 (aa ((eo k s.cg).getD zB).l),Wk.box b4 129 (aa (List.replicate 64 (0:UInt8))),marks []] [az b3 3 [.int .i64 k],az g 263 [.pointer (some ⟨b,0,none⟩)],az b 170 (bq m p s.loose.length c s),uT m (jJ s.cg),av p s.loose];refine AE (D:=D) (b:=bL) S fun W hW=>⟨(),fun z hz=>?_,hW⟩
 rw[o_]at hz;rcases List.mem_append.1 hz with hz | hz
 exact aI z hz;rw[List.mem_singleton.1 hz];simpa using h4;clear S;rintro D _ a w aI S;replace S:=S.join (Ds:=[]);have hf:ez k s.loose=none:=by
  rw[rX,Option.map_eq_none_iff,List.find?_eq_none];rw[List.take_length]at aI;exact fun x hx=>by simpa using aI x hx
 have hv:(eo k s.cg).getD zB=aN s k:=by rw[aN,hf];rfl
 rw[hv]at S;refine qw (aQ (kS (kR (sq S ?_))));clear S;intro a S;refine sw S ?_;clear S;intro a w S;refine kN (aQ (kT (O8 ?_)));refine Eo S (fun _ _=>rfl);rintro D _ a w ⟨h,-⟩;cases h;rintro id D y a w ⟨h,hf⟩ S;obtain rfl:id=0:=by cases h;rfl
 replace S:=S.join (Ds:=[]);have hv:y=aN s k:=by rw[aN,hf];rfl
 subst hv;refine mM (aQ (kS (kR (sq S ?_))));clear S;intro a S;refine sw S ?_;clear S;intro a w S;refine kN (aQ (kT (O8 ?_)));refine Eo S (fun _ _=>rfl)
section
variable {w0:World}{M0:Nat→Prop}{ds:List Deferred}{a:Act}{w:World}{l:List Value}{bs:List Wk.Item}{fs:List (World→Prop)}{x y z:Wk.Item}
theorem St.uV [cV x][cV y][cV z](S:St w0 M0 ds a w l (both x (both y z)::bs) fs)(hx:x.own=true:=by rfl)(hy:y.own=true:=by rfl)(hz:z.own=true:=by rfl):St w0 M0 ds a w l (x::y::z::bs) fs:=by
 have S1:=S.aP hx (by simp[both,hy,hz]);have S2:=S1.perm (both y z::x::bs) (List.Perm.swap _ _ _);have S3:=S2.aP hy hz;exact S3.perm (x::y::z::bs) ((List.Perm.swap _ _ _).trans (.cons _ (List.Perm.swap _ _ _)))
theorem St.mT [cV x][cV y][cV z](S:St w0 M0 ds a w l (x::y::z::bs) fs)(hx:x.own=true:=by rfl)(hy:y.own=true:=by rfl)(hz:z.own=true:=by rfl):St w0 M0 ds a w l (both x (both y z)::bs) fs:=by
 have S1:=S.perm (y::z::x::bs) ((List.Perm.cons _ (List.Perm.swap _ _ _)).trans (List.Perm.swap _ _ _));have S2:=S1.aL hy hz;have S3:=S2.perm (x::both y z::bs) (List.Perm.swap _ _ _);exact S3.aL hx (by simp[both,hy,hz])
end
abbrev ay (b m:Nat)(p:Option Addr)(c:Nat)(s:DS):Wk.Item:=both (Wk.box b 170 (bq m p s.loose.length c s)) (both (lQ m (jJ s.cg)) (Wk.row 265 65 p s.loose.length c (aa s.loose)))
theorem Wd.uW {w:World}{fs:List (World→Prop)}{x y z:Wk.Item}[cV x][cV y][cV z](h:(both x (both y z)).holds w)(hf:∀ Φ∈fs,ag (both x (both y z)).aj w Φ)(hx:x.own=true:=by rfl)(hy:y.own=true:=by rfl)(hz:z.own=true:=by rfl):Wd w (both x (both y z)).aj w [x,y,z] fs:=by
 have h1:=(Wd.bV h hf).aP hx (by simp[both,hy,hz]);have h2:=(h1.perm (List.Perm.swap _ _ _):Wd w _ w [both y z,x] fs);have h3:=h2.aP hy hz;exact h3.perm ((List.Perm.swap _ _ _).trans (.cons _ (List.Perm.swap _ _ _)))
def cL (st:Nat→Bool)(l:List rN)(f:List (Int × bF)):Nat→List (Int × bF)
 | 0=>f
 | k+1=>if st k then qO (aq l k).at_ (aq l k).b (cL st l f k) else cL st l f k
def gy (st:Nat→Bool)(s:DS):DS:={ s with cg:=cL st s.loose s.cg s.loose.length,loose:=[] }
theorem AW (F:Nat)[aF prog F](ca:List Value)(st:Nat→Bool)(b m:Nat)(p:Option Addr)(c:Nat)(s:DS)(fs:List (World→Prop))(w0:World)(hl:s.loose.length≤1000000)(hd:(ay b m p c s).holds w0)(hf:∀ Φ∈fs,ag (ay b m p c s).aj w0 Φ)
  (hst:∀ (i:Nat) (w:World),i < s.loose.length→(∀ Φ∈fs,Fx w Φ)→aT prog F (.int .i64 (i:Int)::ca) w (fun _=>False) fun v _=>v=.bool (st i)) :
  aT prog 103 [.pointer (some ⟨b,0,none⟩),.func (.func F) #[] ⟨ca⟩] w0 (ay b m p c s).aj fun _ w'=>(ay b m none 0 (gy st s)).holds w':=by
 refine E1 func103 rfl ntmps103 (Wd.uW hd hf) ?_;intro a S;refine jq ?_;intro a S;refine iI S (fun(i:Nat) (f:List (Int × bF)) uu=>[(4,uu 4),(0,uu 5),(5,.int .i64 (i:Nat)),(0,uu 12),(0,uu 13),(0,uu 14),(0,uu 15),(0,uu 16),(0,uu 17),(0,uu 18),(0,uu 19),(0,uu 20),(0,uu 21),(0,uu 22),(0,uu 23),(0,uu 24),(0,uu 25),(0,uu 26),(0,uu 27)]) (fun(i:Nat) (f:List (Int × bF))=>[Wk.box b 170 (bq m p s.loose.length c s),lQ m (jJ f),Wk.row 265 65 p s.loose.length c (aa s.loose)]) (fun(i:Nat) (f:List (Int × bF))=>fs) (fun(i:Nat) (f:List (Int × bF))=>i≤s.loose.length∧f=cL st s.loose s.cg i) (fun(i:Nat) (f:List (Int × bF))=>s.loose.length - i) (0) (s.cg) ?_ S.uu ?_ ?_
 ·exact ⟨Nat.zero_le _,rfl⟩
 ·first | exact S | exact S.sub _ _
 ·clear S;rintro i f uu a w ⟨hi,Yw⟩ S
  refine J6 ?_;intro a S;refine kC S (fun h1=>?_) (fun h1=>?_)
  ·refine kK (aQ (kS (kB (kS ?_))))
   have hil:i < s.loose.length:=by simp at h1;omega
   have hK:cx i s.loose.length:=⟨hil⟩;have hxi:s.loose[i]? = some (aq s.loose i):=bu hil;refine J3 ?_;intro a S;refine Lq (VW (aq s.loose i)) S s.loose.length (fun j v hj=>?_) ?_
   ·have Yx:j < 65:=by have:=(List.getElem?_eq_some_iff.1 hj).1;simp only[jb,(aq s.loose i).b.len]at this;omega
    rw[←hj];exact eV s.loose i _ hxi j Yx
   clear S;intro a S;refine sa S ?_;intro b5 a w S;refine Y8 ?_;intro a w S;have hall:=fun Φ hΦ=>(S.wd.facts Φ hΦ).less (N:=fun _=>False) (fun _ _ h=>h.elim)
   refine sr S (hst i _ hil hall) ?_;rintro _ a w rfl S;refine kN (aQ ?_);refine kC S (fun h3=>?_) (fun h3=>?_)
   ·refine eY [T9 0,T9 1,T9 2,T9 3,T9 4,T9 5,T9 6,T9 7,F9 8] [Wk.box b5 265 (VW (aq s.loose i)),Wk.box b 170 (bq m p s.loose.length c s),Wk.row 265 65 p s.loose.length c (aa s.loose)] S ?_;intro w S;(iterate 8 (refine dq S ?_;intro a S));refine dl ?_;refine Tc S ?_;intro a w S
    rw[show (.agg ⟨aa (aq s.loose i).b.l⟩:Value)=iy (aq s.loose i).b from rfl,xx]at S;refine de S ?_;refine dn (qw (aQ (kR ?_)));(iterate 2 (refine sq S ?_;intro a S));refine kN (aQ ?_);rw[w6 ((i:Int)+1)]at S;refine ⟨i+1,qO (aq s.loose i).at_ (aq s.loose i).b f,S.uu,⟨hil,?_⟩,S.sub _ _,by omega⟩;rw[cL,if_pos (by simpa using h3),Yw]
   ·refine J8 ?_;intro a S
    rw[w6 ((i:Int)+1)]at S;refine ⟨i+1,f,S.uu,⟨hil,?_⟩,S.sub _ _,by omega⟩;rw[cL,if_neg (by simpa using h3),Yw]
  ·refine yA ?_;intro a w S
   have hi2:i=s.loose.length:=by simp at h1;omega
   subst hi2;subst Yw;replace S:=(S.sub [Wk.box b 170 (bq m none 0 0 s),lQ m (jJ (cL st s.loose s.cg s.loose.length))] []).cP 265 65;replace S:=St.mT (S.perm [Wk.box b 170 (bq m none 0 0 s),lQ m (jJ (cL st s.loose s.cg s.loose.length)),Wk.row 265 65 none 0 0 []] ((List.Perm.cons _ (List.Perm.swap _ _ _)).trans (List.Perm.swap _ _ _)));have hh:=S.it (both (Wk.box b 170 (bq m none 0 0 s)) (both (lQ m (jJ (cL st s.loose s.cg s.loose.length))) (Wk.row 265 65 none 0 0 [])));refine iD S (fun _=>hh)
theorem Is (k:Int)(x:bF):aa [(⟨k,x⟩:rN)]=.int .i64 k::aa x.l:=by rw[bf,HF,List.append_nil];rfl
def dU (s:DS)(k:Int)(x:bF):DS:={ s with loose:=s.loose++[⟨k,x⟩] }
theorem It (g0 g1 g2 b m:Nat)(p:Option Addr)(c:Nat)(s:DS)(k:Int)(x:bF)(w0:World)(hl:s.loose.length≤1000000)(hd:(ay b m p c s).holds w0)
  (f0:ag (ay b m p c s).aj w0 (az g0 34 [.pointer (some ⟨b,0,none⟩)])) (f1:ag (ay b m p c s).aj w0 (az g1 3 [.int .i64 k])) (f2:ag (ay b m p c s).aj w0 (az g2 129 (aa x.l))) :
  aT prog 237 [.pointer (some ⟨g0,0,none⟩),.pointer (some ⟨g1,0,none⟩),.pointer (some ⟨g2,0,none⟩)] w0 (ay b m p c s).aj fun _ w'=>∃ p' c',(ay b m p' c' (dU s k x)).holds w'∧∀ i,(ay b m p' c' (dU s k x)).aj i→(ay b m p c s).aj i∨w0.heap.size≤i:=by
 have hL:(dU s k x).loose.length=s.loose.length+1:=by simp[dU]
 refine E1 func237 rfl ntmps237 (Wd.uW (fs:=[az g0 34 [.pointer (some ⟨b,0,none⟩)],az g1 3 [.int .i64 k],az g2 129 (aa x.l)]) hd (by simp only[List.mem_cons,List.not_mem_nil,or_false];rintro Φ (rfl | rfl | rfl) <;> assumption)) ?_;intro a S;refine Ex (.q 0 (.q 1 (.q 2 (.q 3 (.q 4 (.q 6 (.q 7 (.q 8 (.b2 5 9 (.l 9 (.l 10 (.q 11 (.q 12 (.q 13 (.l 14 (.e))))))) (.l 5 (.l 10 (.q 11 (.q 12 (.q 13 (.l 14 (.e)))))))))))))))) S (fun(p2:Option Addr) (c2:Nat) uu=>[(3,uu 3),(0,uu 4),(0,uu 5),(0,uu 6),(0,uu 7),(0,uu 8),(0,uu 9),(0,uu 10),(0,uu 11),(0,uu 12),(0,uu 13),(0,uu 14),(0,uu 15),(0,uu 16)]) [] (fun(p2:Option Addr) (c2:Nat)=>[Wk.box b 170 (bq m p2 (dU s k x).loose.length c2 s),lQ m (jJ s.cg),Wk.row 265 65 p2 (dU s k x).loose.length c2 (aa (dU s k x).loose)]) (fun(p2:Option Addr) (c2:Nat)=>[]) (fun(p2:Option Addr) (c2:Nat)=>True) ?_ ?_;intro w S;(iterate 8 (refine tq S ?_;clear S;intro a S));refine Hp ?_ ?_;refine sq S ?_;clear S;intro a S;refine te S ?_;refine tl (sn S ?_);clear S;intro wL a w S;refine te S ?_;refine tl ?_;refine gA S (by simp only[maxLen];omega) (by omega) ?_;clear S;rintro Iu K_ a w - S;refine te S ?_;(iterate 3 (refine tq S ?_;clear S;intro a S));refine tl (sw S ?_);clear S;intro a w S;refine te S ?_;refine tn ?_;rw[show aa s.loose++(.int .i64 k::aa x.l)=aa (dU s k x).loose from by rw[dU,aC,Is],←hL]at S;exact ⟨Iu,K_,S.uu,trivial,(S.perm _ (List.Perm.refl _)).sub _ _⟩;refine sn S ?_;clear S;intro wL a w S;refine te S ?_;refine tl (sq S ?_);clear S;intro a S;refine te S ?_;refine tl ?_
 refine gA S (by simp only[maxLen];omega) (by omega) ?_;clear S;rintro Iu K_ a w - S;refine te S ?_;(iterate 3 (refine tq S ?_;clear S;intro a S));refine tl (sw S ?_);clear S;intro a w S;refine te S ?_;refine tn ?_;rw[show aa s.loose++(.int .i64 k::aa x.l)=aa (dU s k x).loose from by rw[dU,aC,Is],←hL]at S;exact ⟨Iu,K_,S.uu,trivial,(S.perm _ (List.Perm.refl _)).sub _ _⟩;clear S;rintro p2 c2 uu a w - S;have h1:=S.bH (Wk.box b 170 (bq m p2 (dU s k x).loose.length c2 s)) rfl;have h2:=S.bH (lQ m (jJ s.cg)) rfl;have h3:=S.bH (Wk.row 265 65 p2 (dU s k x).loose.length c2 (aa (dU s k x).loose)) rfl;replace S:=St.mT S;have hh:=S.it (both (Wk.box b 170 (bq m p2 (dU s k x).loose.length c2 s)) (both (lQ m (jJ s.cg)) (Wk.row 265 65 p2 (dU s k x).loose.length c2 (aa (dU s k x).loose))));refine iD S (fun _=>⟨p2,c2,hh,fun i hi=>?_⟩);rcases hi with h | h | h
 exact h1 i h;exact h2 i h;exact h3 i h
theorem Iv (i:Int)(w0:World):aT prog 239 [.int .i64 i] w0 (fun _=>False) fun v _=>v=.bool true:=by
 refine E1 func239 rfl ntmps239 (Wd.start w0) ?_;intro a S;refine gM ?_;intro a S;exact aD S (fun _=>rfl)
theorem Ma (g0 b m:Nat)(p:Option Addr)(c:Nat)(s:DS)(w0:World)(hl:s.loose.length≤1000000)(hd:(ay b m p c s).holds w0)(f0:ag (ay b m p c s).aj w0 (az g0 34 [.pointer (some ⟨b,0,none⟩)])) :
  aT prog 238 [.pointer (some ⟨g0,0,none⟩)] w0 (ay b m p c s).aj fun _ w'=>∃ p' c',(ay b m p' c' (gy (fun _=>true) s)).holds w'∧∀ i,(ay b m p' c' (gy (fun _=>true) s)).aj i→(ay b m p c s).aj i∨w0.heap.size≤i:=by
 refine E1 func238 rfl ntmps238 (Wd.bV (x:=ay b m p c s) (fs:=[az g0 34 [.pointer (some ⟨b,0,none⟩)]]) hd (by intro Φ hΦ;obtain rfl:=List.mem_singleton.1 hΦ;exact f0)) ?_;intro a S;refine J4 ?_;intro a S;refine cM (ay b m p c s) S (AW 239 [] (fun _=>true) b m p c s [] _ hl (S.it (ay b m p c s)) (by simp) (fun i w _ _=>Iv i w)) rfl ?_;rintro _ a w hh hS;have S:=hS (ay b m none 0 (gy (fun _=>true) s)) hh (fun k hk=>.inl (by
  rcases hk with h | h | h
  exact .inl h;exact .inr (.inl h);obtain ⟨ad,h,-⟩:=h;cases h))
 clear hS;refine kN ?_;have h1:=S.bH (ay b m none 0 (gy (fun _=>true) s)) rfl;refine iD S (fun _=>⟨none,0,hh,h1⟩)
end Go.Proofs.YtdakncgafdnjfaaGreat