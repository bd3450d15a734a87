/- 9: a part of this claim's texts, joined: W14 MemG MemH MemI MemJ MemK MemZ MemZB PlainMem MemL PlainMemB. -/
import Derived.Test.YtdakncgafdnjfaaGreatPk8
namespace Go.Wk
open Go
section
variable {P:Program} {ops:Array Oper} {C:Nat→World→Prop} {R:Act→World→Prop}
def ACV (lv:Nat→Nat) (P:Program) (ops:Array Oper) (C:Nat→World→Prop) (R:Act→World→Prop):Nat→Array Bool→Act→World→Prop
 | 0,listed,a,w=>Region.ready .any ops listed=[]∧R a w
 | fuel+1,listed,a,w=>
  (Region.ready .any ops listed=[]→R a w)∧
  ∀ i∈Region.ready .any ops listed,WN P ops i (fun a' w'=>(∀ k,lv i≤k→C k w→C k w')∧ACV lv P ops C R fuel (listed.setIfInBounds i true) a' w') a w
def ClosedL (ops:Array Oper) (listed:Array Bool):Prop:=∀ k ok,ops[k]? = some ok→listed.getD k false=true→∀ e∈ok.after,Region.binds .any e=true→listed.getD e.on false=true
theorem ClosedL.set {listed:Array Bool} {j:Nat} (h:ClosedL ops listed) (hj:j∈Region.ready .any ops listed):ClosedL ops (listed.setIfInBounds j true):=by
 intro k ok hk hl e he hb
 obtain ⟨-,oj,hoj,hall⟩:=mem_ready.1 hj
 by_cases hkj:j=k
 subst hkj
 rw[hk]at hoj
 obtain rfl:=Option.some.inj hoj
 exact getD_set_true (hall e he hb)
 rw[getD_set_ne false hkj]at hl
 exact getD_set_true (h k ok hk hl e he hb)
theorem getD_un {listed:Array Bool} {i:Nat} (h:listed.getD i true=false):¬listed.getD i false=true:=by
 rcases Nat.lt_or_ge i listed.size with h' | h'
 simp[h']at h⊢;exact h
 simp[Array.getElem?_eq_none h']at h
theorem acv_first {lv:Nat→Nat} {k i:Nat} {oi:Oper} {v:Value} (hi:ops[i]? = some oi) (hsel:∀ (j:Nat) (o:Oper) cs b,ops[j]? = some o→o.op≠.select cs b) :
  (∀ j o listed,ops[j]? = some o→k < lv j→j≠i→ClosedL ops listed→(∀ e∈o.after,Region.binds .any e=true→listed.getD e.on false=true)→listed.getD i false=true)→∀ (fuel:Nat) (listed:Array Bool) (a:Act) (w:World),ClosedL ops listed→
   (∀ j oj,ops[j]? = some oj→j≠i→listed.getD j true=false→(∀ e∈oj.after,Region.binds .any e=true→e.on≠i)→oi.apart ops oj=true)→
   i∈Region.ready .any ops listed→YieldsC P ops (C k) oi v a→C k w→
   ACV lv P ops C R fuel (listed.setIfInBounds i true) (a.put oi.dst v) w→ACV lv P ops C R (fuel+1) listed a w:=by
 intro hlv fuel
 induction fuel with
 | zero=>
  intro listed a w _ _ hr hy hS H
  refine ⟨fun h=>(by rw[h]at hr;cases hr),fun j hj=>?_⟩
  by_cases hji:j=i
  ·subst hji;exact hy.wn hi hS ⟨fun _ _ h=>h,H⟩
  ·have:=ready_mono hj hji
   rw[H.1]at this
   cases this
 | succ fuel ih=>
  intro listed a w hcl hfree hr hy hS H
  refine ⟨fun h=>(by rw[h]at hr;cases hr),fun j hj=>?_⟩
  by_cases hji:j=i
  ·subst hji;exact hy.wn hi hS ⟨fun _ _ h=>h,H⟩
  ·have h1:=H.2 j (ready_mono hj hji)
   obtain ⟨hjun,oj,hoj,hall⟩:=mem_ready.1 hj
   have hiun:=getD_un (mem_ready.1 hr).1
   have hnot:∀ e∈oj.after,Region.binds .any e=true→e.on≠i:=fun e he hb heq=>hiun (heq▸hall e he hb)
   have hjl:lv j≤k:=Nat.le_of_not_lt fun e=>hiun (hlv j oj listed hoj e hji hcl hall)
   have h2:=wn_put hoj (hfree j oj hoj hji hjun hnot) (fun cs b=>hsel i oi cs b hi) (fun cs b=>hsel j oj cs b hoj) hy h1
   have hfree':∀ k ok,ops[k]? = some ok→k≠i→(listed.setIfInBounds j true).getD k true=false→
     (∀ e∈ok.after,Region.binds .any e=true→e.on≠i)→oi.apart ops ok=true:=fun k ok hk hki hun hno=>by
    refine hfree k ok hk hki ?_ hno
    by_cases hjk:j=k
    ·subst hjk;exact hjun
    ·rw[getD_set_ne true hjk]at hun;exact hun
   refine wpOpIn_mono (fun a' w' h3=>⟨h3.2.1,ih (listed.setIfInBounds j true) a' w' (hcl.set hj) hfree' (ready_mono hr (Ne.symm hji)) h3.1 (h3.2.1 k hjl hS) ?_⟩) h2
   rw[Array.setIfInBounds_comm _ _ hji]
   exact h3.2.2
variable {r:Option Nat} {Q:Exit→Act→World→Prop} {w0:World} {M0:Nat→Prop} {ds:List Deferred} {a:Act} {w:World} {l l':List Value} {bs bs' b0 b1 b2 bk:List Item} {fs fs0:List (World→Prop)}
 {d:Option Nat} {op:Op} {ty:TypeId} {pos:String} {af:Array Edge} {rest:List Oper} {v v' G:Value} {j g:Nat} {pol:Bool} {cs:List Bool} {n:Nat} {listed:Array Bool}
def CofV (w0:World) (M0:Nat→Prop) (b0 b1 b2:List Item) (fs:List (World→Prop)):Nat→World→Prop
 | 0,w=>Wd w0 M0 w b0 fs
 | 1,w=>Wd w0 M0 w b1 fs
 | _+2,w=>Wd w0 M0 w b2 fs
theorem cofV_mono [h1:SubL b1 b0] [h2:SubL b2 b1]:∀ p q w,p≤q→CofV w0 M0 b0 b1 b2 fs p w→CofV w0 M0 b0 b1 b2 fs q w
 | 0,0,_,_,h=>h
 | 0,1,_,_,h=>Wd.sub h h1.sub (List.Sublist.refl _)
 | 0,_+2,_,_,h=>Wd.sub (Wd.sub h h1.sub (List.Sublist.refl _)) h2.sub (List.Sublist.refl _)
 | 1,1,_,_,h=>h
 | 1,_+2,_,_,h=>Wd.sub h h2.sub (List.Sublist.refl _)
 | _+2,_+2,_,_,h=>h
 | 1,0,_,hle,_=>absurd hle (by omega)
 | _+2,0,_,hle,_=>absurd hle (by omega)
 | _+2,1,_,hle,_=>absurd hle (by omega)
def lvV (lv:List (Nat × Nat)) (i:Nat):Nat:=(lv.getD i (0,i)).1
def preV (lv:List (Nat × Nat)) (i:Nat):Nat:=(lv.getD i (0,i)).2
def ancB (ops:Array Oper) (lv:List (Nat × Nat)):Nat→Nat→Nat→Bool
 | 0,_,_=>false
 | f+1,j,i=>feeds ops j i||(feeds ops j (preV lv j)&&ancB ops lv f (preV lv j) i)
theorem anc_listed {lv:List (Nat × Nat)} {listed:Array Bool} (hc:ClosedL ops listed):∀ (f j i:Nat) (oj:Oper),ops[j]? = some oj→(∀ e∈oj.after,Region.binds .any e=true→listed.getD e.on false=true)→ancB ops lv f j i=true→listed.getD i false=true
 | 0,_,_,_,_,_,h=>by cases h
 | f+1,j,i,oj,hoj,hall,h=>by
  rw[ancB,Bool.or_eq_true,Bool.and_eq_true]at h
  rcases h with h | ⟨h1,h2⟩
  obtain ⟨e,he,hb,ho⟩:=(feeds_spec h).2 oj hoj
  exact ho▸hall e he hb
  obtain ⟨e,he,hb,ho⟩:=(feeds_spec h1).2 oj hoj
  have hl:=hall e he hb
  rw[ho]at hl
  cases hp:ops[preV lv j]? with
  | none=>
   cases f with
   | zero=>cases h2
   | succ f=>
    rw[ancB,Bool.or_eq_true,Bool.and_eq_true]at h2
    have hno:∀ x,feeds ops (preV lv j) x=true→False:=fun x hx=>by
     rw[feeds,hp]at hx;simp at hx
    rcases h2 with h2 | ⟨h2,-⟩
    exact (hno _ h2).elim
    exact (hno _ h2).elim
  | some op=>exact anc_listed hc f _ i op hp (hc _ op hp hl) h2
def feedsV (ops:Array Oper) (lv:List (Nat × Nat)) (k i:Nat):Bool:=(List.range ops.size).all fun j=>Nat.beq j i||(Nat.ble (lvV lv j) k||ancB ops lv ops.size j i)
theorem feedsV_spec {lv:List (Nat × Nat)} {k i:Nat} (h:feedsV ops lv k i=true):∀ j o listed,ops[j]? = some o→k < lvV lv j→j≠i→ClosedL ops listed→(∀ e∈o.after,Region.binds .any e=true→listed.getD e.on false=true)→listed.getD i false=true:=by
 rw[feedsV]at h
 refine fun j o listed ho hk hji hc hall=>?_
 have hj:j < ops.size:=(Array.getElem?_eq_some_iff.1 ho).1
 have:=List.all_eq_true.1 h j (List.mem_range.2 hj)
 simp only[Bool.or_eq_true]at this
 rcases this with h1 | h1 | h1
 exact absurd (Nat.eq_of_beq_eq_true h1) hji
 exact absurd (Nat.le_of_ble_eq_true h1) (by omega)
 exact anc_listed hc _ j i o ho hall h1
def flowV (lv:List (Nat × Nat)) (ops:Array Oper):List (Nat × Nat)→Array Bool→Bool
 | [],listed=>(Region.ready .any ops listed).isEmpty
 | (i,k)::ord,listed=>(if Nat.beq k 3 then (match Region.ready .any ops listed with | [j]=>Nat.beq j i | _=>false) else (((Region.ready .any ops listed).contains i&&Region.free .any ops listed i)&&feedsV ops lv k i))&&flowV lv ops ord (listed.setIfInBounds i true)
def AQV (lv:List (Nat × Nat)) (P:Program) (ops:Array Oper) (C:Nat→World→Prop) (R:Act→World→Prop) (ord:List (Nat × Nat)) (a:Act) (w:World):Prop:=
 ∀ listed,ClosedL ops listed→Region.noSelect ops=true→flowV lv ops ord listed=true→ACV (lvV lv) P ops C R ord.length listed a w
variable {ord:List (Nat × Nat)} {i:Nat} {lv:List (Nat × Nat)}
theorem dqVk (k:Nat) (hk3:Nat.beq k 3=false) (hC:∀ w,C k w↔Wd w0 M0 w bk fs0) (S:St w0 M0 ds a w l bs fs) [hb:SubL bk bs] [hf:SubL fs0 fs] [ho:OpAt ops i ⟨d,op,ty,pos,af,none⟩] [hq:OpQ P op ty ⟨[],l⟩ bk fs0 v] [hp:PutO l d v l']
  (K:∀ a,St w0 M0 ds a w l' bs fs→AQV lv P ops C R ord a w):AQV lv P ops C R ((i,k)::ord) a w:=by
 intro listed hcl hs hflow
 simp only[flowV,hk3,Bool.and_eq_true,Bool.false_eq_true,if_false]at hflow
 refine acv_first ho.eq (Region.noSelect_spec hs) (feedsV_spec hflow.1.2) _ listed a w hcl (Region.free_spec ho.eq hflow.1.1.2) (by simpa using hflow.1.1.1) (v:=v) (.inl ⟨rfl,fun w' hw'=>?_⟩) ((hC w).2 (S.wd.sub hb.sub hf.sub)) (K _ S.put _ (hcl.set (by simpa using hflow.1.1.1)) hs hflow.2)
 rw[execOp_eq]
 exact hq.run a.eval w' S.fr ((hC w').1 hw').mem
theorem dqV0 (S:St w0 M0 ds a w l bs fs) [hb:SubL b0 bs] [hf:SubL fs0 fs] [ho:OpAt ops i ⟨d,op,ty,pos,af,none⟩] [hq:OpQ P op ty ⟨[],l⟩ b0 fs0 v] [hp:PutO l d v l']
  (K:∀ a,St w0 M0 ds a w l' bs fs→AQV lv P ops (CofV w0 M0 b0 b1 b2 fs0) R ord a w):AQV lv P ops (CofV w0 M0 b0 b1 b2 fs0) R ((i,0)::ord) a w:=
 dqVk 0 rfl (fun _=>Iff.rfl) S K
theorem dqV1 (S:St w0 M0 ds a w l bs fs) [hb:SubL b1 bs] [hf:SubL fs0 fs] [ho:OpAt ops i ⟨d,op,ty,pos,af,none⟩] [hq:OpQ P op ty ⟨[],l⟩ b1 fs0 v] [hp:PutO l d v l']
  (K:∀ a,St w0 M0 ds a w l' bs fs→AQV lv P ops (CofV w0 M0 b0 b1 b2 fs0) R ord a w):AQV lv P ops (CofV w0 M0 b0 b1 b2 fs0) R ((i,1)::ord) a w:=
 dqVk 1 rfl (fun _=>Iff.rfl) S K
theorem dlV {o:Oper} [h1:SubL b1 b0] [h2:SubL b2 b1] [ho:OpAt ops i o] (h:WL P none ops (fun e a' w'=>e=.normal∧CofV w0 M0 b0 b1 b2 fs0 (lvV lv i) w'∧AQV lv P ops (CofV w0 M0 b0 b1 b2 fs0) R ord a' w') [o] a w):AQV lv P ops (CofV w0 M0 b0 b1 b2 fs0) R ((i,3)::ord) a w:=by
 intro listed hcl hs hflow
 simp only[flowV,Bool.and_eq_true]at hflow
 have hr:Region.ready .any ops listed=[i]:=by
  have:=hflow.1
  simp only[show Nat.beq 3 3=true from rfl,if_true]at this
  split at this
  rename_i k hk;rw[hk,Nat.eq_of_beq_eq_true this]
  cases this
 refine ⟨fun h0=>(by rw[h0]at hr;cases hr),fun k hk=>?_⟩
 rw[hr]at hk
 obtain rfl:k=i:=by simpa using hk
 exact wpOpIn_mono (fun a' w' h'=>⟨fun q hq _=>cofV_mono _ _ _ hq h'.1,h'.2 _ (hcl.set (by rw[hr];exact List.mem_cons_self ..)) hs hflow.2⟩) (wn_of h)
theorem deV0 [hb:SubL b0 bs] [hf:SubL fs0 fs] (S:St w0 M0 ds a w l bs fs) (h:AQV lv P ops (CofV w0 M0 b0 b1 b2 fs0) R ord a w) (hl:Nat.beq (lvV lv i) 0=true:=by rfl):WL P none ops (fun e a' w'=>e=.normal∧CofV w0 M0 b0 b1 b2 fs0 (lvV lv i) w'∧AQV lv P ops (CofV w0 M0 b0 b1 b2 fs0) R ord a' w') [] a w:=
 kN ⟨rfl,by rw[Nat.eq_of_beq_eq_true hl];exact S.wd.sub hb.sub hf.sub,h⟩
theorem deV1 [hb:SubL b1 bs] [hf:SubL fs0 fs] (S:St w0 M0 ds a w l bs fs) (h:AQV lv P ops (CofV w0 M0 b0 b1 b2 fs0) R ord a w) (hl:Nat.beq (lvV lv i) 1=true:=by rfl):WL P none ops (fun e a' w'=>e=.normal∧CofV w0 M0 b0 b1 b2 fs0 (lvV lv i) w'∧AQV lv P ops (CofV w0 M0 b0 b1 b2 fs0) R ord a' w') [] a w:=
 kN ⟨rfl,by rw[Nat.eq_of_beq_eq_true hl];exact S.wd.sub hb.sub hf.sub,h⟩
theorem deV2 [hb:SubL b2 bs] [hf:SubL fs0 fs] (S:St w0 M0 ds a w l bs fs) (h:AQV lv P ops (CofV w0 M0 b0 b1 b2 fs0) R ord a w) (hl:Nat.beq (lvV lv i) 2=true:=by rfl):WL P none ops (fun e a' w'=>e=.normal∧CofV w0 M0 b0 b1 b2 fs0 (lvV lv i) w'∧AQV lv P ops (CofV w0 M0 b0 b1 b2 fs0) R ord a' w') [] a w:=
 kN ⟨rfl,by rw[Nat.eq_of_beq_eq_true hl];exact S.wd.sub hb.sub hf.sub,h⟩
theorem dnV (h:R a w):AQV lv P ops C R [] a w:=fun listed _ _ hf=>⟨by simpa [flowV] using hf,h⟩
theorem any_of_acv {lv:Nat→Nat} (hd:∀ (i:Nat) o,ops[i]? = some o→isDefer o.op=false):∀ (fuel:Nat) (listed:Array Bool) (a:Act) (w:World),ACV lv P ops C (fun a w=>Q .normal a w) fuel listed a w→wpAnyIn (FW r) 0 P .any ops Q fuel listed a w
 | 0,_,_,_,h=>h
 | fuel+1,_,_,_,h=>⟨h.1,fun i hi=>wn_round hd (wpOpIn_mono (fun a' w' h'=>any_of_acv hd fuel _ a' w' h'.2) (h.2 i hi))⟩
theorem c_drawV {id:Nat} {lo:List Oper} (lv:List (Nat × Nat)) (ord:List (Nat × Nat)) (b0 b1 b2:List Item) (S:St w0 M0 ds a w l bs fs) (h:∀ w,St w0 M0 ds a w l bs fs→AQV lv P lo.toArray (CofV w0 M0 b0 b1 b2 fs) (fun a w=>Q .normal a w) ord a w)
  (hm:P.follows .mixedOrders=true:=by kernel_rfl) (hd:((lo.all fun o=>!isDefer o.op)&&(Nat.beq ord.length lo.length&&(Region.noSelect lo.toArray&&flowV lv lo.toArray ord (Array.replicate lo.length false))))=true:=by kernel_rfl):Wp P r (.region id lo.toArray true) Q a w:=by
 simp only[Bool.and_eq_true]at hd
 refine wpIn_region_any hm (any_of_acv (lv:=lvV lv) (C:=CofV w0 M0 b0 b1 b2 fs) (fun i o ho=>?_) _ _ _ _ ?_)
 have:=List.all_eq_true.1 hd.1 o (by
  rw[List.getElem?_toArray]at ho
  exact List.mem_of_getElem? ho)
 simpa using this
 have:=h { w with drawn:=w.drawn+1 } ⟨S.slots,S.defers,S.wd.step (Agree.drawn _ w _)⟩ (Array.replicate lo.length false) (fun k ok _ hl=>by simp[Array.getD]at hl) hd.2.2.1 hd.2.2.2
 rw[Nat.eq_of_beq_eq_true hd.2.1]at this
 simpa using this
end
end Go.Wk
namespace Go.Proofs.YtdakncgafdnjfaaGreat
open Go Go.Wk
set_option synthInstance.maxSize 100000
set_option synthInstance.maxHeartbeats 400000
set_option maxRecDepth 100000
theorem encL_setS (ys:List LSeen) (i:Nat) (x r:LSeen) (h:ys[i]? = some x) (hu:r.user=x.user) (hc:r.cnt=x.cnt):(encL ys).take (i*7+2)++r.root.cells++(encL ys).drop (i*7+2+r.root.cells.length)=encL (ys.set i r):=by
 induction ys generalizing i with
 | nil=>simp at h
 | cons y ys ih=>
  cases i with
  | zero=>
   obtain rfl:y=x:=by simpa using h
   obtain ⟨u,n,z⟩:=y
   obtain ⟨u',n',z'⟩:=r
   simp only at hu hc
   subst hu hc
   rw[List.set_cons_zero,encL_cons,encL_cons]
   rfl
  | succ i=>
   have:=ih i (by simpa using h)
   rw[List.set_cons_succ,encL_cons,encL_cons,←this]
   have h7:(Enc.cells y:List Value).length=7:=Enc.len y
   rw[List.take_append,List.drop_append,h7,List.take_of_length_le (by rw[h7];omega),List.drop_of_length_le (by rw[h7];omega),show (i+1)*7+2 - 7=i*7+2 from by omega,show (i+1)*7+2+r.root.cells.length - 7=i*7+2+r.root.cells.length from by omega]
   simp
theorem fclone_c (xs:List LSeen) (p:Option Addr) (n c:Nat) (w0:World) (hn:xs.length=n) (hl:n≤1000000) (hx:Stable (fun _=>False) w0 (GlF p xs)) :
  Ret Tryz.prog 220 [.slice p n c] w0 (fun _=>False) fun v w'=>∃ p' c',v=.slice p' n c'∧w'.ownsRow 0 179 7 (.slice p' n c') n (encL xs)∧∀ ad,p'=some ad→w0.heap.size≤ad.block:=by
 refine enter Tryz.func220 rfl rfl (Wd.begin (fs:=[GlF p xs]) (by simpa using hx)) (fun a S=>?_)
 simp only[Tryz.ntmps220,qqA,qqB,Nat.reduceAdd,Nat.reduceSub,qqC,qqD,qqE,qqF]at S
 refine kS (kR (sq S ?_));clear S;intro a S;refine kN (xtn (kS (kS (kR ?_))));(iterate 2 (refine sq S ?_;clear S;intro a S));refine kN (xtn ?_)
 refine kC S (fun h1=>?_) (fun h1=>?_)
 refine kS (kR (sq S ?_));clear S;intro a S;refine kN (xtn (kT (xtr ?_)))
 have hp:p=none:=by simpa using h1
 have hn0:xs=[]:=by
  rcases xs with _ | ⟨x,xs⟩
  rfl
  have h1:=congrArg List.length (hx.now.1.1 hp)
  rw[encL_len]at h1
  simp[Enc.sz]at h1
 subst hn0
 subst hn
 refine end1 S (fun _=>?_)
 exact ⟨none,0,rfl,World.ownsRow_nil _ _ _ _,fun _ h=>by cases h⟩
 refine kK (xtn (kS (kR ?_)));refine sn S ?_;clear S;intro b5 a w S;refine sq S ?_;clear S;intro a S
 replace S:=S.boxRow b5 7 0 rfl (by omega)
 have hN:LenN xs n:=⟨hn⟩
 refine sap S (by simp[maxLen];omega) (by omega) ?_;clear S;rintro p2 c2 a w - S
 rw[qqF,Nat.zero_add]at S
 refine sq S ?_;clear S;intro a S;refine kN (xtn (kT ?_))
 have hrow:=S.row p2 n
 have hnew:=S.rowNew p2 n
 refine end1 S (fun _=>?_)
 exact ⟨p2,c2,rfl,hrow,fun ad h=>(hnew ad h).elim (fun h=>h.elim) id⟩
theorem sdclone_c (xs:List LMark) (p:Option Addr) (n c:Nat) (w0:World) (hn:xs.length=n) (hl:n≤1000000) (hx:Stable (fun _=>False) w0 (GlF p xs)) :
  Ret Tryz.prog 218 [.slice p n c] w0 (fun _=>False) fun v w'=>∃ p' c',v=.slice p' n c'∧w'.ownsRow 0 175 2 (.slice p' n c') n (encL xs)∧∀ ad,p'=some ad→w0.heap.size≤ad.block:=by
 refine enter Tryz.func218 rfl rfl (Wd.begin (fs:=[GlF p xs]) (by simpa using hx)) (fun a S=>?_)
 simp only[Tryz.ntmps218,qqA,qqB,Nat.reduceAdd,Nat.reduceSub,qqC,qqD,qqE,qqF]at S
 refine kS (kR (sq S ?_));clear S;intro a S;refine kN (xtn (kS (kS (kR ?_))));(iterate 2 (refine sq S ?_;clear S;intro a S));refine kN (xtn ?_)
 refine kC S (fun h1=>?_) (fun h1=>?_)
 refine kS (kR (sq S ?_));clear S;intro a S;refine kN (xtn (kT (xtr ?_)))
 have hp:p=none:=by simpa using h1
 have hn0:xs=[]:=by
  rcases xs with _ | ⟨x,xs⟩
  rfl
  have h1:=congrArg List.length (hx.now.1.1 hp)
  rw[encL_len]at h1
  simp[Enc.sz]at h1
 subst hn0
 subst hn
 refine end1 S (fun _=>?_)
 exact ⟨none,0,rfl,World.ownsRow_nil _ _ _ _,fun _ h=>by cases h⟩
 refine kK (xtn (kS (kR ?_)));refine sn S ?_;clear S;intro b5 a w S;refine sq S ?_;clear S;intro a S
 replace S:=S.boxRow b5 2 0 rfl (by omega)
 have hN:LenN xs n:=⟨hn⟩
 refine sap S (by simp[maxLen];omega) (by omega) ?_;clear S;rintro p2 c2 a w - S
 rw[qqF,Nat.zero_add]at S
 refine sq S ?_;clear S;intro a S;refine kN (xtn (kT ?_))
 have hrow:=S.row p2 n
 have hnew:=S.rowNew p2 n
 refine end1 S (fun _=>?_)
 exact ⟨p2,c2,rfl,hrow,fun ad h=>(hnew ad h).elim (fun h=>h.elim) id⟩
theorem mkclone_c (xs:List LMark) (p:Option Addr) (n c:Nat) (w0:World) (hn:xs.length=n) (hl:n≤1000000) (hx:Stable (fun _=>False) w0 (GlF p xs)) :
  Ret Tryz.prog 219 [.slice p n c] w0 (fun _=>False) fun v w'=>∃ p' c',v=.slice p' n c'∧w'.ownsRow 0 177 2 (.slice p' n c') n (encL xs)∧∀ ad,p'=some ad→w0.heap.size≤ad.block:=by
 refine enter Tryz.func219 rfl rfl (Wd.begin (fs:=[GlF p xs]) (by simpa using hx)) (fun a S=>?_)
 simp only[Tryz.ntmps219,qqA,qqB,Nat.reduceAdd,Nat.reduceSub,qqC,qqD,qqE,qqF]at S
 refine kS (kR (sq S ?_));clear S;intro a S;refine kN (xtn (kS (kS (kR ?_))));(iterate 2 (refine sq S ?_;clear S;intro a S));refine kN (xtn ?_)
 refine kC S (fun h1=>?_) (fun h1=>?_)
 refine kS (kR (sq S ?_));clear S;intro a S;refine kN (xtn (kT (xtr ?_)))
 have hp:p=none:=by simpa using h1
 have hn0:xs=[]:=by
  rcases xs with _ | ⟨x,xs⟩
  rfl
  have h1:=congrArg List.length (hx.now.1.1 hp)
  rw[encL_len]at h1
  simp[Enc.sz]at h1
 subst hn0
 subst hn
 refine end1 S (fun _=>?_)
 exact ⟨none,0,rfl,World.ownsRow_nil _ _ _ _,fun _ h=>by cases h⟩
 refine kK (xtn (kS (kR ?_)));refine sn S ?_;clear S;intro b5 a w S;refine sq S ?_;clear S;intro a S
 replace S:=S.boxRow b5 2 0 rfl (by omega)
 have hN:LenN xs n:=⟨hn⟩
 refine sap S (by simp[maxLen];omega) (by omega) ?_;clear S;rintro p2 c2 a w - S
 rw[qqF,Nat.zero_add]at S
 refine sq S ?_;clear S;intro a S;refine kN (xtn (kT ?_))
 have hrow:=S.row p2 n
 have hnew:=S.rowNew p2 n
 refine end1 S (fun _=>?_)
 exact ⟨p2,c2,rfl,hrow,fun ad h=>(hnew ad h).elim (fun h=>h.elim) id⟩
theorem equalSd_c (xs ys:List LMark) (p q:Option Addr) (c e:Nat) (w0:World) (hl:xs.length≤1000000000) (hx:Stable (fun _=>False) w0 (GlF p xs)) (hy:Stable (fun _=>False) w0 (GlF q ys)) :
  Ret Tryz.prog 129 [.slice p xs.length c,.slice q ys.length e] w0 (fun _=>False) fun v _=>v=.bool (decide (xs=ys)):=by
 refine enter Tryz.func129 rfl rfl (Wd.begin (fs:=[GlF p xs,GlF q ys]) (by simp;exact ⟨hx,hy⟩)) (fun a S=>?_)
 simp only[Tryz.ntmps129,qqA,qqB,Nat.reduceAdd,Nat.reduceSub,qqC,qqD,qqE,qqF]at S
 refine kS (kR (sq S ?_));clear S;intro a S;refine kN (xtn (kS (kS (kR ?_))));(iterate 5 (refine sq S ?_;clear S;intro a S));refine kN (xtn ?_)
 refine kC S (fun h1=>?_) (fun h1=>?_)
 refine kS (kR (sq S ?_));clear S;intro a S;refine kN (xtn (kT (xtr ?_)))
 have hne:xs≠ys:=fun h=>by rw[h]at h1;simp at h1
 refine end1 S (fun _=>?_)
 rw[decide_eq_false hne]
 refine kK (xtn (kS (kS (kR ?_))));(iterate 3 (refine sq S ?_;clear S;intro a S));refine kN (xtn (kB ?_))
 have hle:xs.length=ys.length:=by simp at h1;omega
 refine c_forb1 S (fun(k:Nat) uu=>[(4,uu 4),(0,uu 5),(7,.int .i64 (k:Nat)),(0,uu 14),(0,uu 15),(0,uu 16),(0,uu 17),(0,uu 18),(0,uu 19),(0,uu 20),(0,uu 21),(0,uu 22),(0,uu 23),(0,uu 24),(0,uu 25)]) (fun(k:Nat)=>k≤xs.length∧xs.take k=ys.take k) (fun(k:Nat)=>xs.length - k) (0) ?_ S.uu ?_ ?_
 exact ⟨Nat.zero_le _,rfl⟩
 first | exact S | exact S.sub _ _
 clear S;rintro k uu a w ⟨hk,hrel⟩ S
 refine kS (kR (sq S ?_));clear S;intro a S;refine kN (xtn (kS ?_))
 refine kC S (fun h4=>?_) (fun h4=>?_)
 refine kK (xtn (kS (kB (kS ?_))))
 have hkl:k < xs.length:=by simpa using h4
 have hK1:KLt k xs.length:=⟨hkl⟩
 have hK2:KLt k ys.length:=⟨by omega⟩
 refine kR ?_;(iterate 2 (refine sq S ?_;clear S;intro a S));refine kN (xtn (kS ?_));refine c_drawD [(0,true),(1,true),(2,true),(3,true),(4,true),(5,true),(6,true),(7,true),(8,true)] [] S ?_;clear S;intro w S;(iterate 9 (refine dq S ?_;clear S;intro a S));refine dn (xtn ?_)
 refine kC S (fun h6=>?_) (fun h6=>?_)
 refine kS (kR (sq S ?_));clear S;intro a S;refine kN (xtn (kT (xbr (xtr (xtr (xbr (xtr ?_)))))))
 have h9:nthG xs k≠nthG ys k:=by simpa using h6
 have hne:xs≠ys:=fun h=>h9 (by rw[h])
 refine end1 S (fun _=>?_)
 rw[decide_eq_false hne]
 refine kK (xbn (xtn (kR ?_)));(iterate 2 (refine sq S ?_;clear S;intro a S));refine kN (xtn ?_)
 have h9:nthG xs k=nthG ys k:=by simpa using h6
 rw[w64 ((k:Int)+1) (by omega) (by omega)]at S
 exact ⟨k+1,S.uu,⟨hkl,by rw[nthG_take hkl,nthG_take (show k < ys.length by omega),hrel,h9]⟩,S.sub _ _,by omega⟩
 refine kE (xte (xte (xbe (xtn (kS (kR (sq S ?_)))))));clear S;intro a S;refine kN (xtn (kT ?_))
 have h9:xs.length≤k:=by simpa using h4
 rw[List.take_of_length_le h9,List.take_of_length_le (by omega)]at hrel
 refine end1 S (fun _=>?_)
 rw[decide_eq_true hrel]
theorem equalMk_c (xs ys:List LMark) (p q:Option Addr) (c e:Nat) (w0:World) (hl:xs.length≤1000000000) (hx:Stable (fun _=>False) w0 (GlF p xs)) (hy:Stable (fun _=>False) w0 (GlF q ys)) :
  Ret Tryz.prog 130 [.slice p xs.length c,.slice q ys.length e] w0 (fun _=>False) fun v _=>v=.bool (decide (xs=ys)):=by
 refine enter Tryz.func130 rfl rfl (Wd.begin (fs:=[GlF p xs,GlF q ys]) (by simp;exact ⟨hx,hy⟩)) (fun a S=>?_)
 simp only[Tryz.ntmps130,qqA,qqB,Nat.reduceAdd,Nat.reduceSub,qqC,qqD,qqE,qqF]at S
 refine kS (kR (sq S ?_));clear S;intro a S;refine kN (xtn (kS (kS (kR ?_))));(iterate 5 (refine sq S ?_;clear S;intro a S));refine kN (xtn ?_)
 refine kC S (fun h1=>?_) (fun h1=>?_)
 refine kS (kR (sq S ?_));clear S;intro a S;refine kN (xtn (kT (xtr ?_)))
 have hne:xs≠ys:=fun h=>by rw[h]at h1;simp at h1
 refine end1 S (fun _=>?_)
 rw[decide_eq_false hne]
 refine kK (xtn (kS (kS (kR ?_))));(iterate 3 (refine sq S ?_;clear S;intro a S));refine kN (xtn (kB ?_))
 have hle:xs.length=ys.length:=by simp at h1;omega
 refine c_forb1 S (fun(k:Nat) uu=>[(4,uu 4),(0,uu 5),(7,.int .i64 (k:Nat)),(0,uu 14),(0,uu 15),(0,uu 16),(0,uu 17),(0,uu 18),(0,uu 19),(0,uu 20),(0,uu 21),(0,uu 22),(0,uu 23),(0,uu 24),(0,uu 25)]) (fun(k:Nat)=>k≤xs.length∧xs.take k=ys.take k) (fun(k:Nat)=>xs.length - k) (0) ?_ S.uu ?_ ?_
 exact ⟨Nat.zero_le _,rfl⟩
 first | exact S | exact S.sub _ _
 clear S;rintro k uu a w ⟨hk,hrel⟩ S
 refine kS (kR (sq S ?_));clear S;intro a S;refine kN (xtn (kS ?_))
 refine kC S (fun h4=>?_) (fun h4=>?_)
 refine kK (xtn (kS (kB (kS ?_))))
 have hkl:k < xs.length:=by simpa using h4
 have hK1:KLt k xs.length:=⟨hkl⟩
 have hK2:KLt k ys.length:=⟨by omega⟩
 refine kR ?_;(iterate 2 (refine sq S ?_;clear S;intro a S));refine kN (xtn (kS ?_));refine c_drawD [(0,true),(1,true),(2,true),(3,true),(4,true),(5,true),(6,true),(7,true),(8,true)] [] S ?_;clear S;intro w S;(iterate 9 (refine dq S ?_;clear S;intro a S));refine dn (xtn ?_)
 refine kC S (fun h6=>?_) (fun h6=>?_)
 refine kS (kR (sq S ?_));clear S;intro a S;refine kN (xtn (kT (xbr (xtr (xtr (xbr (xtr ?_)))))))
 have h9:nthG xs k≠nthG ys k:=by simpa using h6
 have hne:xs≠ys:=fun h=>h9 (by rw[h])
 refine end1 S (fun _=>?_)
 rw[decide_eq_false hne]
 refine kK (xbn (xtn (kR ?_)));(iterate 2 (refine sq S ?_;clear S;intro a S));refine kN (xtn ?_)
 have h9:nthG xs k=nthG ys k:=by simpa using h6
 rw[w64 ((k:Int)+1) (by omega) (by omega)]at S
 exact ⟨k+1,S.uu,⟨hkl,by rw[nthG_take hkl,nthG_take (show k < ys.length by omega),hrel,h9]⟩,S.sub _ _,by omega⟩
 refine kE (xte (xte (xbe (xtn (kS (kR (sq S ?_)))))));clear S;intro a S;refine kN (xtn (kT ?_))
 have h9:xs.length≤k:=by simpa using h4
 rw[List.take_of_length_le h9,List.take_of_length_le (by omega)]at hrel
 refine end1 S (fun _=>?_)
 rw[decide_eq_true hrel]
theorem mcopied_c0 (N:Nat):∀ (t:LTerm) (M:Nat→Prop) (w0:World),SizeOf.sizeOf t < N→cnt t.t≤1200→(∀ k,M k→k < w0.heap.size)→Stable M w0 (LtF t)→Ret Tryz.prog 221 [vL t] w0 (fun _=>False) fun v w'=>IsT M w' v t.t:=by
 induction N with
 | zero=>intro t _ _ h;exact absurd h (Nat.not_lt_zero _)
 | succ N ih=>
 intro t M w0 hN hc hM hf
 have hlen:t.kids.length≤1200:=by have h1:=cnt_kids t;have h2:=cntL_len (t.kids.map LTerm.t);rw[List.length_map]at h2;omega
 have hkc:∀ x∈t.kids,cnt x.t≤1200:=fun x hx=>by have h1:=cnt_kids t;have h2:=cntL_mem (List.mem_map.2 ⟨x,hx,rfl⟩:x.t∈t.kids.map LTerm.t);omega
 refine enter Tryz.func221 rfl rfl (Wd.beginM (M:=M) (fs:=[LtF t]) hM (by simpa using hf)) (fun a S=>?_)
 simp only[Tryz.ntmps221,qqA,qqB,Nat.reduceAdd,Nat.reduceSub,qqC,qqD,qqE,qqF]at S
 refine kS (kR ?_);refine sa S ?_;clear S;intro b1 a w S;refine sa S ?_;clear S;intro b2 a w S;refine kN (xtn (kS (kR ?_)));(iterate 2 (refine sq S ?_;clear S;intro a S))
 refine srn S (clone_c t.kids t.p t.kids.length t.cap _ rfl (by omega) (ls_of_lt (S.t0 t))) ?_;clear S;rintro _ a w ⟨p',c',rfl,hown,hnew⟩ hS -
 have S:=hS hown hnew
 clear hS
 refine sq S ?_;clear S;intro a S;refine sw S ?_;clear S;intro a w S;refine kN (xtn (kS (kS (kR ?_))));(iterate 4 (refine sq S ?_;clear S;intro a S));refine kN (xtn (kB ?_))
 refine c_fore2 S (fun(k:Nat) (ys:List LTerm) uu=>[(3,uu 3),(7,.int .i64 (k:Nat)),(0,uu 12),(0,uu 13),(0,uu 14),(0,uu 15),(0,uu 16),(0,uu 17),(0,uu 18),(0,uu 19),(0,uu 20),(0,uu 21),(0,uu 22),(0,uu 23),(0,uu 24)]) (fun(k:Nat) (ys:List LTerm)=>[Wk.row 43 5 p' t.kids.length c' (encL ys),Wk.box b2 43 zeroL.cells,Wk.box b1 43 [.int .i64 t.kind,.int .i64 t.user,.int .i64 t.num,str t.text,.slice p' t.kids.length c'],ext M]) (fun(k:Nat) (ys:List LTerm)=>[AllL ys,LtF t]) (fun(k:Nat) (ys:List LTerm)=>k≤t.kids.length∧ys.length=t.kids.length∧ys.map LTerm.t=t.kids.map LTerm.t∧ys.drop k=t.kids.drop k) (fun(k:Nat) (ys:List LTerm)=>t.kids.length - k) (0) (t.kids) ?_ S.uu ?_ ?_
 ·exact ⟨Nat.zero_le _,rfl,rfl,rfl⟩
 ·exact S.add (Φ:=AllL t.kids) (AllL.stable fun x hx=>kid_st (S.t t) hx)
 ·clear S;rintro k ys uu a w ⟨hk,hyl,hym,hyd⟩ S
  refine kS (kR (sq S ?_));clear S;intro a S;refine kN (xtn (kS ?_))
  refine kC S (fun h3=>?_) (fun h3=>?_)
  ·refine kK (xtn (kS (kB (kS ?_))))
   have hkl:k < t.kids.length:=by simp at h3;omega
   have hK:KLt k t.kids.length:=⟨hkl⟩
   have hyk:ys[k]? = some (nthL t.kids k):=by
    have:=congrArg (fun l=>l[0]?) hyd
    simp only[List.getElem?_drop,Nat.add_zero]at this
    rw[this,nth_get hkl]
   refine kR ?_;(iterate 2 (refine sq S ?_;clear S;intro a S));refine kN (xtn ?_)
   refine c_drwe1 (.q 0 (.q 1 (.q 2 (.q 3 (.q 4 (.q 5 (.l 6 (.l 7 (.l 8 (.l 9 (.l 10 (.e)))))))))))) S (fun(ys':List LTerm) uu=>[(14,uu 14),(0,uu 15),(0,uu 16),(0,uu 17),(0,uu 18),(0,uu 19),(0,uu 20),(0,uu 21),(0,uu 22),(0,uu 23)]) [Wk.box b2 43 zeroL.cells,Wk.box b1 43 [.int .i64 t.kind,.int .i64 t.user,.int .i64 t.num,str t.text,.slice p' t.kids.length c'],ext M] (fun(ys':List LTerm)=>[Wk.row 43 5 p' t.kids.length c' (encL ys'),Wk.box b2 43 zeroL.cells,Wk.box b1 43 [.int .i64 t.kind,.int .i64 t.user,.int .i64 t.num,str t.text,.slice p' t.kids.length c'],ext M]) (fun(ys':List LTerm)=>[AllL ys',LtF t]) (fun(ys':List LTerm)=>ys'.length=t.kids.length∧ys'.map LTerm.t=t.kids.map LTerm.t∧ys'.drop (k+1)=t.kids.drop (k+1)) ?_ ?_
   ·intro w S
    (iterate 6 (refine tq S ?_;clear S;intro a S));refine tl (sq S ?_);clear S;intro a S;refine te S ?_;refine tl ?_
    refine slrA (nthL t.kids k).cells S t.kids.length (fun j v hj=>?_) ?_
    ·have hj5:j < 5:=(List.getElem?_eq_some_iff.1 hj).1
     rw[←hj];exact encL_get ys k _ hyk j hj5
    clear S;intro a S;refine te S ?_;refine tl ?_
    refine sr S (ih (nthL t.kids k) _ w (by have:=LTerm.kid_lt (nth_mem hkl);omega) (hkc _ (nth_mem hkl)) (foots_lt S) (kid_st (S.t t) (nth_mem hkl))) ?_;clear S;rintro _ a w ⟨r,rfl,hr,hrf⟩ S
    replace S:=S.add (Φ:=LtF r) hrf
    refine te S ?_;refine tl (sq S ?_);clear S;intro a S;refine te S ?_;refine tl ?_
    refine sws S t.kids.length (by omega) (by omega) ?_;clear S;intro a w S
    rw[encL_set ys k r (by omega)]at S
    refine te S ?_;refine tn ?_
    refine ⟨ys.set k r,S.uu,⟨by simpa using hyl,set_map ys k r _ hym (by rw[List.getElem?_map,nth_get hkl,hr];rfl),?_⟩,?_⟩
    ·rw[List.drop_set_of_lt (by omega),←List.drop_drop,hyd,List.drop_drop]
    ·have h1:Stable _ _ (AllL ys):=S.wd.facts (AllL ys) (by simp)
     have h2:=S.t r
     replace S:=S.add (Φ:=AllL (ys.set k r)) (fun w' hw' x hx=>by
      rcases List.mem_or_eq_of_mem_set hx with h | rfl
      ·exact h1 w' hw' x h
      ·exact h2 w' hw')
     exact S.sub _ _
   clear S;rintro ys' uu a w ⟨hyl',hym',hyd'⟩ S
   refine xbn (xtn (kR ?_));(iterate 2 (refine sq S ?_;clear S;intro a S));refine kN (xtn ?_)
   rw[w64 ((k:Int)+1) (by omega) (by omega)]at S
   exact ⟨k+1,ys',S.uu,⟨hkl,hyl',hym',hyd'⟩,S.sub _ _,by omega⟩
  ·refine kE (xte (xte (xbe (xtn (kS (kR (sq S ?_)))))));clear S;intro a S;refine sw S ?_;clear S;intro a w S;refine kN (xtn (kT ?_))
   have hrow:=S.row p' t.kids.length
   have hnew:=S.rowNew p' t.kids.length
   have hall:=S.laterFact (Φ:=AllL ys) (by simp)
   refine end1 S (fun _=>?_)
   refine ⟨.mk t.kind t.user t.num t.text p' c' ys,by simp only[vL,LTerm.kind,LTerm.user,LTerm.num,LTerm.text,LTerm.p,LTerm.cap,LTerm.kids,hyl],?_,fun w' hw'=>?_⟩
   ·rw[t.t_eq,←hym];exact LTerm.t_eq _
   ·have hls:=ls_of_own hrow (fun x hx=>AllL.get hall hx) (fun ad h hm=>(hnew ad h).elim id (fun h2=>by have:=hM _ hm;omega))
    exact ⟨by rw[hyl];exact own_le hrow,own_cap hrow,hls w' hw'⟩
theorem mcopied_c (t:LTerm) (M:Nat→Prop) (w0:World) (hc:cnt t.t≤1200) (hM:∀ k,M k→k < w0.heap.size) (hf:Stable M w0 (LtF t)):Ret Tryz.prog 221 [vL t] w0 (fun _=>False) fun v w'=>IsT M w' v t.t:=mcopied_c0 _ t M w0 (Nat.lt_succ_self _) hc hM hf
theorem msame1_c (x y:LSeen) (w0:World) (fx:Stable (fun _=>False) w0 (LtF x.root)) (fy:Stable (fun _=>False) w0 (LtF y.root)) :
  Ret Tryz.prog 128 [.agg ⟨cSeen x⟩,.agg ⟨cSeen y⟩] w0 (fun _=>False) fun v _=>v=.bool (decide (x.user=y.user)&&decide (x.cnt=y.cnt)&&sameF x.root.t y.root.t):=by
 refine enter Tryz.func128 rfl rfl (Wd.begin (fs:=[LtF x.root,LtF y.root]) (by simp;exact ⟨fx,fy⟩)) (fun a S=>?_)
 simp only[Tryz.ntmps128,qqA,qqB,Nat.reduceAdd,Nat.reduceSub,qqC,qqD,qqE,qqF]at S
 refine kS (kR ?_);refine sa S ?_;clear S;intro b2 a w S;refine sa S ?_;clear S;intro b3 a w S;refine sq S ?_;clear S;intro a S;refine kN (xtn (kS (kR ?_)));(iterate 6 (refine sq S ?_;clear S;intro a S));(iterate 5 (refine gQ S ?_;clear S;intro a S));(iterate 2 (refine sq S ?_;clear S;intro a S))
 refine gS S (fun hs S=>?_) (fun hs S=>?_)
 refine gT S ?_;refine sq S ?_;clear S;intro a S;refine gT S ?_;refine sq S ?_;clear S;intro a S;refine gT S ?_;refine sq S ?_;clear S;intro a S;refine gT S ?_;refine sq S ?_;clear S;intro a S;refine gT S ?_;refine sr S (same_c x.root y.root _ (S.t0 _) (S.t0 _)) ?_;clear S;rintro _ a w rfl S;(iterate 2 (refine sq S ?_;clear S;intro a S));refine kN (xtn (kT ?_))
 exact end1 S (fun _=>by rw[hs,Bool.true_and])
 refine gF S ?_;clear S;intro a S;(iterate 4 (refine gF S ?_;clear S;intro a S));(iterate 2 (refine sq S ?_;clear S;intro a S));refine kN (xtn (kT ?_))
 exact end1 S (fun _=>by rw[hs,Bool.false_and])
theorem same_s {x y:LSeen} : (decide (x.user=y.user)&&decide (x.cnt=y.cnt)&&sameF x.root.t y.root.t)=true↔x.s=y.s:=by
 rw[Bool.and_eq_true,Bool.and_eq_true,decide_eq_true_eq,decide_eq_true_eq,sameF_iff]
 constructor
 rintro ⟨⟨h1,h2⟩,h3⟩;rw[LSeen.s,LSeen.s,h1,h2,h3]
 intro h;rw[LSeen.s,LSeen.s]at h;injection h with h1 h2 h3;exact ⟨⟨h1,h2⟩,h3⟩
theorem seq_c (xs ys:List LSeen) (p q:Option Addr) (c d:Nat) (w0:World) (hl:xs.length≤1000000) (hx:Stable (fun _=>False) w0 (GlF p xs)) (hy:Stable (fun _=>False) w0 (GlF q ys)) :
  Ret Tryz.prog 131 [.slice p xs.length c,.slice q ys.length d,.func (.func 128) #[] #[]] w0 (fun _=>False) fun v _=>∃ b,v=.bool b∧(b=true↔ssP xs=ssP ys):=by
 refine enter Tryz.func131 rfl rfl (Wd.begin (fs:=[GlF p xs,GlF q ys]) (by simp;exact ⟨hx,hy⟩)) (fun a S=>?_)
 simp only[Tryz.ntmps131,qqA,qqB,Nat.reduceAdd,Nat.reduceSub,qqC,qqD,qqE,qqF]at S
 refine kS (kR (sq S ?_));clear S;intro a S;refine kN (xtn (kS (kS (kR ?_))));(iterate 5 (refine sq S ?_;clear S;intro a S));refine kN (xtn ?_)
 refine kC S (fun h1=>?_) (fun h1=>?_)
 refine kS (kR (sq S ?_));clear S;intro a S;refine kN (xtn (kT (xtr ?_)))
 refine end1 S (fun _=>⟨false,rfl,⟨nofun,fun he=>?_⟩⟩)
 have:=congrArg List.length he
 simp only[ssP,List.length_map]at this
 simp at h1;omega
 refine kK (xtn (kS (kS (kR ?_))));(iterate 3 (refine sq S ?_;clear S;intro a S));refine kN (xtn (kB ?_))
 have hle:xs.length=ys.length:=by simp at h1;omega
 refine c_fore1 S (fun(k:Nat) uu=>[(6,uu 6),(0,uu 7),(0,uu 8),(0,uu 9),(7,.int .i64 (k:Nat)),(0,uu 18),(0,uu 19),(0,uu 20),(0,uu 21),(0,uu 22),(0,uu 23),(0,uu 24),(0,uu 25),(0,uu 26),(0,uu 27),(0,uu 28),(0,uu 29),(0,uu 30),(0,uu 31)]) (fun(k:Nat)=>[]) (fun(k:Nat)=>[GlF p xs,GlF q ys]) (fun(k:Nat)=>k≤xs.length∧∀ a,a < k→(nthG xs a).s=(nthG ys a).s) (fun(k:Nat)=>xs.length - k) (0) ?_ S.uu ?_ ?_
 exact ⟨Nat.zero_le _,fun a h=>absurd h (Nat.not_lt_zero a)⟩
 first | exact S | exact S.sub _ _
 clear S;rintro k uu a w ⟨hk,hsm⟩ S
 refine kS (kR (sq S ?_));clear S;intro a S;refine kN (xtn (kS ?_))
 refine kC S (fun h4=>?_) (fun h4=>?_)
 refine kK (xtn (kS (kB (kS ?_))))
 have hkl:k < xs.length:=by have:=of_decide_eq_true h4;omega
 have hK:KLt k xs.length:=⟨hkl⟩
 have hK2:KLt k ys.length:=⟨by omega⟩
 refine kR ?_;(iterate 3 (refine sq S ?_;clear S;intro a S));refine sa S ?_;clear S;intro b8 a w S;refine sq S ?_;clear S;intro a S;refine sw S ?_;clear S;intro a w S;refine kN (xtn (kS (kR ?_)));(iterate 4 (refine sq S ?_;clear S;intro a S));refine sa S ?_;clear S;intro b9 a w S;refine sw S ?_;clear S;intro a w S;refine kN (xtn (kS (kR ?_)));(iterate 3 (refine sq S ?_;clear S;intro a S))
 refine sr S (msame1_c (nthG xs k) (nthG ys k) _ ((S.gl0 p).imp fun _ h=>h.2 _ (nthG_mem hkl)) ((S.gl0 q).imp fun _ h=>h.2 _ (nthG_mem (by omega)))) ?_;clear S;rintro _ a w rfl S
 refine sq S ?_;clear S;intro a S;refine kN (xtn ?_)
 refine kC S (fun h7=>?_) (fun h7=>?_)
 refine kS (kR (sq S ?_));clear S;intro a S;refine kN (xtn (kT (xbr (xtr (xtr (xbr (xtr ?_)))))))
 refine end1 S (fun _=>⟨false,rfl,⟨nofun,fun he=>?_⟩⟩)
 have e1:(ssP xs)[k]? = some (nthG xs k).s:=by rw[ssP,List.getElem?_map,nthG_get hkl];rfl
 have e2:(ssP ys)[k]? = some (nthG ys k).s:=by rw[ssP,List.getElem?_map,nthG_get (by omega)];rfl
 rw[he,e2]at e1
 rw[same_s.2 (Option.some.inj e1).symm]at h7;cases h7
 refine kK (xbn (xtn (kR ?_)));(iterate 2 (refine sq S ?_;clear S;intro a S));refine kN (xtn ?_)
 rw[w64 ((k:Int)+1) (by omega) (by omega)]at S
 refine ⟨k+1,S.uu,⟨hkl,fun b hb=>?_⟩,S.sub _ _,by omega⟩
 rcases Nat.lt_succ_iff_lt_or_eq.1 hb with h | rfl
 exact hsm b h
 exact same_s.1 (by simpa using h7)
 refine kE (xte (xte (xbe (xtn (kS (kR (sq S ?_)))))));clear S;intro a S;refine kN (xtn (kT ?_))
 refine end1 S (fun _=>⟨true,rfl,⟨fun _=>?_,fun _=>rfl⟩⟩)
 refine List.ext_getElem? fun i=>?_
 rcases Nat.lt_or_ge i xs.length with h | h
 rw[ssP,ssP,List.getElem?_map,List.getElem?_map,nthG_get h,nthG_get (by omega)]
 exact congrArg some (hsm i (by have:=of_decide_eq_false h4;omega))
 rw[List.getElem?_eq_none (by rw[ssP,List.length_map];omega),List.getElem?_eq_none (by rw[ssP,List.length_map];omega)]
theorem msame_c (x y:LMem) (hx:FitM x) (_hy:FitM y) (w0:World) (fx:Stable (fun _=>False) w0 (MemF x)) (fy:Stable (fun _=>False) w0 (MemF y)):Ret Tryz.prog 40 [vMem x,vMem y] w0 (fun _=>False) fun v _=>∃ b,v=.bool b∧(b=true↔x.m=y.m):=by
 have l1:=hx.seeds
 have l2:=hx.vers
 have l3:=hx.seen
 refine enter Tryz.func40 rfl rfl (Wd.begin (fs:=[GlF x.sp x.seeds,GlF x.vp x.vers,GlF x.ep x.seen,GlF y.sp y.seeds,GlF y.vp y.vers,GlF y.ep y.seen]) (by simp;exact ⟨fx.imp fun _ h=>h.1,fx.imp fun _ h=>h.2.1,fx.imp fun _ h=>h.2.2,fy.imp fun _ h=>h.1,fy.imp fun _ h=>h.2.1,fy.imp fun _ h=>h.2.2⟩)) (fun a S=>?_)
 simp only[Tryz.ntmps40,qqA,qqB,Nat.reduceAdd,Nat.reduceSub,qqC,qqD,qqE,qqF]at S
 refine kS (kR ?_);refine sa S ?_;clear S;intro b2 a w S;refine sa S ?_;clear S;intro b3 a w S;refine sq S ?_;clear S;intro a S;refine kN (xtn (kS (kR (sq S ?_))));clear S;intro a S;refine kN (xtn (kS (kR ?_)));(iterate 6 (refine sq S ?_;clear S;intro a S));(iterate 5 (refine gQ S ?_;clear S;intro a S));(iterate 2 (refine sq S ?_;clear S;intro a S));(iterate 5 (refine gQ S ?_;clear S;intro a S));(iterate 2 (refine sq S ?_;clear S;intro a S));(iterate 5 (refine gQ S ?_;clear S;intro a S));(iterate 2 (refine sq S ?_;clear S;intro a S));refine kN (xtn (kS (kR ?_)));(iterate 2 (refine sq S ?_;clear S;intro a S))
 refine gS S (fun hs1 S=>?_) (fun hs1 S=>?_)
 refine gT S ?_;refine sq S ?_;clear S;intro a S;refine gT S ?_;refine sq S ?_;clear S;intro a S;refine gT S ?_;refine sq S ?_;clear S;intro a S;refine gT S ?_;refine sq S ?_;clear S;intro a S;refine gT S ?_
 refine sr S (equalSd_c x.seeds y.seeds x.sp y.sp x.sc y.sc _ (by omega) (S.gl0 x.sp) (S.gl0 y.sp)) ?_;clear S;rintro _ a w rfl S
 (iterate 2 (refine sq S ?_;clear S;intro a S))
 refine gS S (fun hs2 S=>?_) (fun hs2 S=>?_)
 refine gT S ?_;refine sq S ?_;clear S;intro a S;refine gT S ?_;refine sq S ?_;clear S;intro a S;refine gT S ?_;refine sq S ?_;clear S;intro a S;refine gT S ?_;refine sq S ?_;clear S;intro a S;refine gT S ?_
 refine sr S (equalMk_c x.vers y.vers x.vp y.vp x.vc y.vc _ (by omega) (S.gl0 x.vp) (S.gl0 y.vp)) ?_;clear S;rintro _ a w rfl S
 (iterate 2 (refine sq S ?_;clear S;intro a S))
 refine gS S (fun hs3 S=>?_) (fun hs3 S=>?_)
 refine gT S ?_;refine sq S ?_;clear S;intro a S;refine gT S ?_;refine sq S ?_;clear S;intro a S;refine gT S ?_;refine sq S ?_;clear S;intro a S;refine gT S ?_;refine sq S ?_;clear S;intro a S;refine gT S ?_;refine sq S ?_;clear S;intro a S;refine gT S ?_
 refine sr S (seq_c x.seen y.seen x.ep y.ep x.ec y.ec _ (by omega) (S.gl0 x.ep) (S.gl0 y.ep)) ?_;clear S;rintro _ a w ⟨b,rfl,hb⟩ S
 (iterate 2 (refine sq S ?_;clear S;intro a S));refine kN (xtn (kT ?_))
 refine end1 S (fun _=>⟨b,rfl,?_⟩)
 simp only[Bool.and_eq_true,decide_eq_true_eq]at hs1
 rw[hb]
 constructor
 intro h
 rw[LMem.m,LMem.m,hs1.1.1.1,hs1.1.1.2,hs1.1.2,hs1.2,of_decide_eq_true hs2,of_decide_eq_true hs3,h]
 intro h;exact congrArg PMem.seen h
 refine gF S ?_;clear S;intro a S;(iterate 5 (refine gF S ?_;clear S;intro a S));(iterate 2 (refine sq S ?_;clear S;intro a S));refine kN (xtn (kT ?_))
 refine end1 S (fun _=>⟨false,rfl,⟨nofun,fun h=>?_⟩⟩)
 rw[decide_eq_true (show x.vers=y.vers from congrArg PMem.vers h)]at hs3;cases hs3
 refine gF S ?_;clear S;intro a S;(iterate 4 (refine gF S ?_;clear S;intro a S));(iterate 2 (refine sq S ?_;clear S;intro a S));(iterate 6 (refine gF S ?_;clear S;intro a S));(iterate 2 (refine sq S ?_;clear S;intro a S));refine kN (xtn (kT ?_))
 refine end1 S (fun _=>⟨false,rfl,⟨nofun,fun h=>?_⟩⟩)
 rw[decide_eq_true (show x.seeds=y.seeds from congrArg PMem.seeds h)]at hs2;cases hs2
 refine gF S ?_;clear S;intro a S;(iterate 4 (refine gF S ?_;clear S;intro a S));(iterate 2 (refine sq S ?_;clear S;intro a S));(iterate 5 (refine gF S ?_;clear S;intro a S));(iterate 2 (refine sq S ?_;clear S;intro a S));(iterate 6 (refine gF S ?_;clear S;intro a S));(iterate 2 (refine sq S ?_;clear S;intro a S));refine kN (xtn (kT ?_))
 refine end1 S (fun _=>⟨false,rfl,⟨nofun,fun h=>?_⟩⟩)
 rw[decide_eq_true (show x.user=y.user from congrArg PMem.user h),decide_eq_true (show x.leaf=y.leaf from congrArg PMem.leaf h),decide_eq_true (show x.counter=y.counter from congrArg PMem.counter h),decide_eq_true (show x.num=y.num from congrArg PMem.num h)]at hs1
 cases hs1
instance opFieldR {P:Program} {ty:TypeId} {lc:Cx} {bs:List Wk.Item} {fs:List (World→Prop)} {x:Operand} {p:Option Addr} {o off s f ft:Nat} [Ev lc x (.pointer (some (rAddr p o)))] [hf:Fld P s f off ft]:OpQ P (.fieldAddr s x f) ty lc bs fs (.pointer (some (rAddr p (o+off)))):=⟨fun ρ w h _=>by
 have e:(rAddr p o).add off=rAddr p (o+off):=by simp only[rAddr,add_add]
 simp[xop,execOp,h.ev (x:=x) (v:=.pointer (some (rAddr p o))),run_fieldAt,e]⟩
def IsM (M:Nat→Prop) (w:World) (v:Value) (m:PMem):Prop:=∃ x:LMem,v=vMem x∧x.m=m∧FitM x∧Stable M w (MemF x)
set_option maxHeartbeats 2000000 in
theorem mowned_c (m:LMem) (hfit:FitM m) (hok:memB m.m=true) (M:Nat→Prop) (w0:World) (hM:∀ k,M k→k < w0.heap.size) (hm:Stable M w0 (MemF m)):Ret Tryz.prog 143 [vMem m] w0 (fun _=>False) fun v w'=>IsM M w' v m.m:=by
 have hl1:=hfit.seeds
 have hl2:=hfit.vers
 have hl3:=hfit.seen
 have hgood:∀ x∈m.seen,Good x.root.t:=fun x hx=>by
  obtain ⟨i,hi,rfl⟩:=List.mem_iff_getElem.1 hx
  have h1:=(seenB_up m.seen 0 (memB_seen hok)).2.2 i hi
  have h2:=nthG_get hi
  rw[List.getElem?_eq_getElem hi]at h2
  rw[Option.some.inj h2]
  exact good_check.1 h1
 refine enter Tryz.func143 rfl rfl (Wd.beginM (M:=M) (fs:=[GlF m.sp m.seeds,GlF m.vp m.vers,GlF m.ep m.seen]) hM (by simp;exact ⟨hm.imp fun _ h=>h.1,hm.imp fun _ h=>h.2.1,hm.imp fun _ h=>h.2.2⟩)) (fun a S=>?_)
 simp only[Tryz.ntmps143,qqA,qqB,Nat.reduceAdd,Nat.reduceSub,qqC,qqD,qqE,qqF]at S
 refine kS (kR ?_);refine sa S ?_;clear S;intro b1 a w S;refine sa S ?_;clear S;intro b2 a w S;refine kN (xtn (kS ?_));refine c_drawV [(0,0),(0,0),(0,1),(0,3),(0,3),(0,2),(0,6),(0,6),(0,5),(0,2),(1,8),(0,10),(1,10),(0,12),(1,12)] [(0,0),(1,0),(3,0),(4,0),(6,0),(7,0),(2,3),(9,0),(5,3),(8,3),(10,3),(11,1),(12,3),(13,1),(14,3)] ([Wk.box b1 67 (cMem m)]) ([]) ([]) S ?_;clear S;intro w S;(iterate 6 (refine dqV0 S ?_;clear S;intro a S));refine dlV ?_
 refine srn S (sdclone_c m.seeds m.sp m.seeds.length m.sc _ rfl (by omega) (S.gl0 m.sp)) ?_;clear S;rintro _ a w ⟨p1,c1,rfl,hown,hnew⟩ hS -
 have S:=hS hown hnew
 clear hS
 refine deV0 S ?_;refine dqV0 S ?_;clear S;intro a S;refine dlV ?_
 refine srn S (mkclone_c m.vers m.vp m.vers.length m.vc _ rfl (by omega) (S.gl0 m.vp)) ?_;clear S;rintro _ a w ⟨p2,c2,rfl,hown,hnew⟩ hS -
 have S:=hS hown hnew
 clear hS
 refine deV0 S ?_;refine dlV ?_
 refine srn S (fclone_c m.seen m.ep m.seen.length m.ec _ rfl (by omega) (S.gl0 m.ep)) ?_;clear S;rintro _ a w ⟨p3,c3,rfl,hown,hnew⟩ hS -
 have S:=hS hown hnew
 clear hS
 refine deV0 S ?_;refine dlV (sw S ?_);clear S;intro a w S;refine deV1 S ?_;refine dqV1 S ?_;clear S;intro a S;refine dlV (sw S ?_);clear S;intro a w S;refine deV1 S ?_;refine dqV1 S ?_;clear S;intro a S;refine dlV (sw S ?_);clear S;intro a w S;refine deV1 S ?_;refine dnV (xtn (kS (kS (kR ?_))));(iterate 4 (refine sq S ?_;clear S;intro a S));refine kN (xtn (kB ?_))
 refine c_fore2 S (fun(k:Nat) (zs:List LSeen) uu=>[(3,uu 3),(15,.int .i64 (k:Nat)),(0,uu 20),(0,uu 21),(0,uu 22),(0,uu 23),(0,uu 24),(0,uu 25),(0,uu 26),(0,uu 27),(0,uu 28),(0,uu 29),(0,uu 30),(0,uu 31),(0,uu 32),(0,uu 33),(0,uu 34)]) (fun(k:Nat) (zs:List LSeen)=>[Wk.row 179 7 p3 m.seen.length c3 (encL zs),Wk.row 177 2 p2 m.vers.length c2 (encL m.vers),Wk.row 175 2 p1 m.seeds.length c1 (encL m.seeds),Wk.box b2 67 [.int .i64 0,.int .i64 0,.int .i64 0,.int .i64 0,.slice none 0 0,.slice none 0 0,.slice none 0 0],Wk.box b1 67 [.int .i64 m.user,.int .i64 m.leaf,.int .i64 m.counter,.int .i64 m.num,.slice p1 m.seeds.length c1,.slice p2 m.vers.length c2,.slice p3 m.seen.length c3],ext M]) (fun(k:Nat) (zs:List LSeen)=>[AllI zs,GlF m.sp m.seeds,GlF m.vp m.vers,GlF m.ep m.seen]) (fun(k:Nat) (zs:List LSeen)=>k≤m.seen.length∧zs.length=m.seen.length∧zs.drop k=m.seen.drop k∧ssP zs=ssP m.seen) (fun(k:Nat) (zs:List LSeen)=>m.seen.length - k) (0) (m.seen) ?_ S.uu ?_ ?_
 exact ⟨Nat.zero_le _,rfl,rfl,rfl⟩
 exact S.add (Φ:=AllI m.seen) ((S.mem.fact (GlF m.ep m.seen)).imp fun _ h=>h.2)
 clear S;rintro k zs uu a w ⟨hk,hzl,hzd,hzp⟩ S
 refine kS (kR (sq S ?_));clear S;intro a S;refine kN (xtn (kS ?_))
 refine kC S (fun h3=>?_) (fun h3=>?_)
 refine kK (xtn (kS (kB (kS ?_))))
 have hkl:k < m.seen.length:=by simp at h3;omega
 have hK:KLt k m.seen.length:=⟨hkl⟩
 have hzk:zs[k]? = some (nthG m.seen k):=by
  have:=congrArg (fun l=>l[0]?) hzd
  simp only[List.getElem?_drop,Nat.add_zero]at this
  rw[this,nthG_get hkl]
 refine kR ?_;(iterate 2 (refine sq S ?_;clear S;intro a S));refine kN (xtn ?_);refine c_drawL 12 [(0,true),(1,true),(2,true),(3,true),(4,true),(5,true),(6,true),(7,true),(8,false),(9,false),(10,false),(11,true),(12,false)] [Wk.row 179 7 p3 m.seen.length c3 (encL zs),Wk.box b1 67 [.int .i64 m.user,.int .i64 m.leaf,.int .i64 m.counter,.int .i64 m.num,.slice p1 m.seeds.length c1,.slice p2 m.vers.length c2,.slice p3 m.seen.length c3],ext M] S ?_;clear S;intro w S;(iterate 8 (refine dqL S ?_;clear S;intro a S));refine dlL ?_
 refine slrA (nthG m.seen k).root.cells S m.seen.length (fun j v hj=>?_) ?_
 have hj5:j < 5:=(List.getElem?_eq_some_iff.1 hj).1
 have:=encL_get zs k _ hzk (2+j) (by show _ < 7;omega)
 rw[show k*7+2+j=k*7+(2+j) from by omega]
 refine this.trans ?_
 rw[←hj]
 show (cSeen (nthG m.seen k))[2+j]? = _
 match j,hj5 with
 | 0,_=>rfl
 | 1,_=>rfl
 | 2,_=>rfl
 | 3,_=>rfl
 | 4,_=>rfl
 clear S;intro a S;refine deL S ?_;refine dlL ?_
 refine sr S (mcopied_c (nthG m.seen k).root _ w (good_le (hgood _ (nthG_mem hkl))) (foots_lt S) ((S.mem.fact (GlF m.ep m.seen)).imp fun _ h=>h.2 _ (nthG_mem hkl))) ?_;clear S;rintro _ a w ⟨z,rfl,hz,hzf⟩ S
 replace S:=S.add hzf
 refine deL S ?_;refine dlL (sq S ?_);clear S;intro a S;refine deL S ?_;refine dqL S ?_;clear S;intro a S;refine dlL ?_
 refine sws S m.seen.length (by omega) (by omega) ?_;clear S;intro a w S
 have e7:=encL_setS zs k (nthG m.seen k) ⟨(nthG m.seen k).user,(nthG m.seen k).cnt,z⟩ hzk rfl rfl
 rw[show (k*7+2+([.int .i64 z.kind,.int .i64 z.user,.int .i64 z.num,str z.text,.slice z.p z.kids.length z.cap]:List Value).length)=k*7+2+z.cells.length from rfl]at S
 rw[show ((encL zs).take (k*7+2)++[.int .i64 z.kind,.int .i64 z.user,.int .i64 z.num,str z.text,.slice z.p z.kids.length z.cap]++(encL zs).drop (k*7+2+z.cells.length))=encL (zs.set k ⟨(nthG m.seen k).user,(nthG m.seen k).cnt,z⟩) from e7]at S
 refine dzL (xbn (xtn (kR ?_)));(iterate 2 (refine sq S ?_;clear S;intro a S));refine kN (xtn ?_)
 have h1:Stable _ _ (AllI zs):=S.wd.facts (AllI zs) (by simp)
 have h2:=S.t z
 replace S:=S.add (Φ:=AllI (zs.set k ⟨(nthG m.seen k).user,(nthG m.seen k).cnt,z⟩)) (fun w' hw' x hx=>by
  rcases List.mem_or_eq_of_mem_set hx with h | rfl
  exact h1 w' hw' x h
  exact h2 w' hw')
 rw[w64 ((k:Int)+1) (by omega) (by omega)]at S
 refine ⟨k+1,zs.set k ⟨(nthG m.seen k).user,(nthG m.seen k).cnt,z⟩,S.uu,⟨hkl,by rw[List.length_set];exact hzl,?_,?_⟩,S.sub _ _,by omega⟩
 rw[List.drop_set_of_lt (by omega),←List.drop_drop,hzd,List.drop_drop]
 rw[←hzp]
 have hs:(zs.set k ⟨(nthG m.seen k).user,(nthG m.seen k).cnt,z⟩).map LSeen.s=(zs.map LSeen.s).set k (nthG m.seen k).s:=by
  rw[List.map_set];rw[LSeen.s,LSeen.s,hz]
 rw[ssP,hs]
 have hg:(zs.map LSeen.s)[k]? = some (nthG m.seen k).s:=by rw[List.getElem?_map,hzk];rfl
 obtain ⟨h3,h4⟩:=List.getElem?_eq_some_iff.1 hg
 rw[←h4,List.set_getElem_self]
 refine kE (xte (xte (xbe (xtn (kS (kR (sq S ?_)))))));clear S;intro a S;refine sw S ?_;clear S;intro a w S;refine kN (xtn (kT ?_))
 replace S:=S.rowToGl p3 zs (e:=179) (sz:=7) (n:=m.seen.length) (c:=c3) (S.wd.facts (AllI zs) (by simp))
 replace S:=S.rowToGl p2 m.vers (e:=177) (sz:=2) (n:=m.vers.length) (c:=c2) (fun _ _ _ _=>trivial)
 replace S:=S.rowToGl p1 m.seeds (e:=175) (sz:=2) (n:=m.seeds.length) (c:=c1) (fun _ _ _ _=>trivial)
 have g1:=S.laterFact (M:=M) (Φ:=GlF p1 m.seeds) (by simp)
 have g2:=S.laterFact (M:=M) (Φ:=GlF p2 m.vers) (by simp)
 have g3:=S.laterFact (M:=M) (Φ:=GlF p3 zs) (by simp)
 refine end1 S (fun _=>?_)
 refine ⟨⟨m.user,m.leaf,m.counter,m.num,p1,c1,m.seeds,p2,c2,m.vers,p3,c3,zs⟩,?_,?_,⟨hl1,hl2,by show zs.length≤1000;omega,hfit.names,hfit.keys⟩,fun w' hw'=>⟨g1 w' hw',g2 w' hw',g3 w' hw'⟩⟩
 show _=vMem _
 rw[vMem]
 show _=Value.agg ⟨[.int .i64 m.user,.int .i64 m.leaf,.int .i64 m.counter,.int .i64 m.num,.slice p1 m.seeds.length c1,.slice p2 m.vers.length c2,.slice p3 zs.length c3]⟩
 rw[hzl]
 show PMem.mk _ _ _ _ _ _ (ssP zs)=PMem.mk _ _ _ _ _ _ (ssP m.seen)
 rw[hzp]
theorem u32R_c (b:Nat) (r:RS) (w0:World) (hc:r.bs.length≤r.c) (hl:r.bs.length≤10000000) (hb:(rdI b r).holds w0) (hx:Stable (fun k=>k=b) w0 (GlF r.p r.bs)) :
  Ret Tryz.prog 217 [.pointer (some ⟨b,0,none⟩)] w0 (fun k=>k=b) fun v w'=>v=.int .u32 (numN (tookR r 4) 0:Nat)∧(rdI b (takeR r 4)).holds w':=by
 have hn:=took_num r 4 (by decide)
 refine enter Tryz.func217 rfl rfl (Wd.itLent (x:=rdI b r) (fs:=[GlF r.p r.bs]) hb (by intro Φ hΦ;obtain rfl:=List.mem_singleton.1 hΦ;exact hx)) (fun a S=>?_)
 simp only[Tryz.ntmps217,qqA,qqB,Nat.reduceAdd,Nat.reduceSub,qqC,qqD,qqE,qqF]at S
 refine kS (kR (sq S ?_));clear S;intro a S;refine kN (xtn (kS (kR (sq S ?_))));clear S;intro a S
 refine sit (rdI b r) S (weighR_c b r 4 _ (by decide) hc hl (S.it (rdI b r)) (S.lend (rdI b r) (S.mem.fact (GlF r.p r.bs)))) rfl ?_;clear S;rintro _ a w ⟨rfl,hh⟩ hS
 have S:=hS (rdI b (takeR r 4)) hh (fun k h=>.inl h)
 clear hS
 rw[hn.1]at S
 refine sq S ?_;clear S;intro a S
 rw[show IntKind.u32.wrap ((numN (tookR r 4) 0:Nat):Int)=((numN (tookR r 4) 0:Nat):Int) from by
  unfold IntKind.wrap
  simp only[IntKind.bits,IntKind.signed,Bool.false_and]
  simp;omega]at S
 refine sq S ?_;clear S;intro a S;refine kN (xtn (kT ?_))
 have hh:=S.it (rdI b (takeR r 4))
 exact end1 S (fun _=>⟨rfl,hh⟩)
abbrev mrX (h rd:Nat) (wr:Bool):Wk.Item:=Wk.box h 209 [.pointer (some ⟨rd,0,none⟩),.bool wr]
abbrev mrI (h rd:Nat) (wr:Bool) (r:RS):Wk.Item:=both (mrX h rd wr) (rdI rd r)
def textN (r:RS):Nat:=numN (tookR r 1) 0
def textS (r:RS):List UInt8:=tookR (takeR r 1) (textN r)
def textR (r:RS):RS:=takeR (takeR r 1) (textN r)
theorem textN_lt (r:RS):textN r < 256:=(took_num r 1 (by decide)).2
theorem textR_sub (r:RS):SubR r (textR r):=(SubR.take r 1).trans (SubR.take _ _)
theorem textS_len (r:RS):(textS r).length≤255:=by
 have h1:=(tookR_len (takeR r 1) (textN r)).1
 have h2:=textN_lt r
 unfold textS;omega
theorem mtext_c (h rd:Nat) (wr:Bool) (r:RS) (w0:World) (hc:r.bs.length≤r.c) (hl:r.bs.length≤10000000) (hd:(mrI h rd wr r).holds w0) (hx:Stable (mrI h rd wr r).foot w0 (GlF r.p r.bs)) :
  Ret Tryz.prog 139 [.pointer (some ⟨h,0,none⟩)] w0 (mrI h rd wr r).foot fun v w'=>v=str (textS r)∧(mrI h rd wr (textR r)).holds w':=by
 refine enter Tryz.func139 rfl rfl (Wd.it2Lent (x:=mrX h rd wr) (y:=rdI rd r) (fs:=[GlF r.p r.bs]) hd rfl rfl (by simpa using hx)) (fun a S=>?_)
 simp only[Tryz.ntmps139,qqA,qqB,Nat.reduceAdd,Nat.reduceSub,qqC,qqD,qqE,qqF]at S
 refine kS (kR (sq S ?_));clear S;intro a S;refine kN (xtn (kS ?_));refine c_drawL 12 [(0,true),(1,true),(2,true),(3,true),(4,true),(5,true),(6,true),(7,true),(8,false),(9,true),(10,false),(11,false),(12,false)] [mrX h rd wr] S ?_;clear S;intro w S;(iterate 8 (refine dqL S ?_;clear S;intro a S));refine dlL ?_
 refine sit (rdI rd r) S (u8R_c rd r _ hc hl (S.it (rdI rd r)) (S.lend (rdI rd r) (S.mem.fact (GlF r.p r.bs)))) rfl ?_;clear S;rintro _ a w ⟨rfl,hh⟩ hS
 have S:=hS (rdI rd (takeR r 1)) hh (fun k h=>.inl h)
 clear hS
 obtain ⟨nn,hnn⟩:∃ nn,nn=textN r:=⟨_,rfl⟩
 have hnl:=textN_lt r
 rw[show numN (tookR r 1) 0=nn from hnn.symm]at S
 rw[←hnn]at hnl
 replace S:=S.add (Φ:=GlF (takeR r 1).p (takeR r 1).bs) (takeR_gl hc (S.mem.fact (GlF r.p r.bs)))
 have hs1:=SubR.take r 1
 have hc1:=hs1.cap hc
 have hl1:=hs1.len
 refine deL S ?_;refine dqL S ?_;clear S;intro a S
 rw[w64 (nn:Int) (by omega) (by omega)]at S
 refine dlL ?_
 refine sit (rdI rd (takeR r 1)) S (rawR_c rd (takeR r 1) nn _ (by omega) hc1 (by omega) (S.it (rdI rd (takeR r 1))) (S.lend (rdI rd (takeR r 1)) (S.mem.fact (GlF (takeR r 1).p (takeR r 1).bs)))) rfl ?_;clear S;rintro _ a w ⟨p7,c7,rfl,hh,hf7⟩ hS
 have S:=hS (both (Wk.row 5 1 p7 (tookR (takeR r 1) nn).length c7 (encL (tookR (takeR r 1) nn))) (rdI rd (takeR (takeR r 1) nn))) hh hf7
 clear hS
 replace S:=(S.front (both (Wk.row 5 1 p7 (tookR (takeR r 1) nn).length c7 (encL (tookR (takeR r 1) nn))) (rdI rd (takeR (takeR r 1) nn)))).ofBoth
 have hLN:LenN (tookR (takeR r 1) nn) (tookR (takeR r 1) nn).length:=⟨rfl⟩
 refine deL S ?_;refine dlL (sq S ?_);clear S;intro a S;refine deL S ?_;refine dlL (sq S ?_);clear S;intro a S;refine dzL (xtn (kT ?_))
 replace S:=((S.front (rdI rd (takeR (takeR r 1) nn))).front (mrX h rd wr)).toBoth
 have hh:=S.it (mrI h rd wr (takeR (takeR r 1) nn))
 refine end1 S (fun _=>?_)
 rw[show textS r=tookR (takeR r 1) nn from by rw[textS,hnn],show textR r=takeR (takeR r 1) nn from by rw[textR,hnn]]
 exact ⟨rfl,hh⟩
def markD (x:RB):LMark × RB:=
 (⟨(tkB (numN (tkB 1 x).1 0) (tkB 1 x).2).1,(numN (tkB 2 (tkB (numN (tkB 1 x).1 0) (tkB 1 x).2).2).1 0:Nat)⟩,(tkB 2 (tkB (numN (tkB 1 x).1 0) (tkB 1 x).2).2).2)
def rootD (raw:List UInt8):Term × Bool:=match decT 60 1200 raw with
 | .ok (t,_,rest)=>(t,decide (rest=[]))
 | .error _=>(zeroT,false)
def rootX (x:RB):Term × Bool × RB:=
 if (tkB (numN (tkB 4 x).1 0) (tkB 4 x).2).2.2=true then (zeroT,true,(tkB (numN (tkB 4 x).1 0) (tkB 4 x).2).2)
 else ((rootD (tkB (numN (tkB 4 x).1 0) (tkB 4 x).2).1).1,(rootD (tkB (numN (tkB 4 x).1 0) (tkB 4 x).2).1).2,(tkB (numN (tkB 4 x).1 0) (tkB 4 x).2).2)
def seenD (x:RB):PSeen × Bool × RB:=
 (⟨(numN (tkB 1 x).1 0:Nat),(numN (tkB 2 (tkB 1 x).2).1 0:Nat),(rootX (tkB 2 (tkB 1 x).2).2).1⟩,(rootX (tkB 2 (tkB 1 x).2).2).2.1,(rootX (tkB 2 (tkB 1 x).2).2).2.2)
def marksD:Nat→RB→List LMark × RB
 | 0,x=>([],x)
 | k+1,x=>if x.2=true then ([],x) else ((markD x).1::(marksD k (markD x).2).1,(marksD k (markD x).2).2)
def seensD:Nat→RB→List PSeen × Bool × RB
 | 0,x=>([],true,x)
 | k+1,x=>if x.2=true then ([],true,x) else ((seenD x).1::(seensD k (seenD x).2.2).1,(seenD x).2.1&&(seensD k (seenD x).2.2).2.1,(seensD k (seenD x).2.2).2.2)
theorem RS.ab_why {r:RS} : r.ab.2=true↔r.why≠0:=by
 show (!decide (r.why=0))=true↔_
 simp
theorem text_ab (r:RS):textS r=(tkB (numN (tkB 1 r.ab).1 0) (tkB 1 r.ab).2).1∧(textR r).ab=(tkB (numN (tkB 1 r.ab).1 0) (tkB 1 r.ab).2).2:=by
 have h1:=tk_ab r 1
 have h2:=tk_ab (takeR r 1) (textN r)
 rw[h1.2]at h2
 rw[show textN r=numN (tkB 1 r.ab).1 0 from by rw[textN,h1.1]]at h2
 exact ⟨by rw[←h2.1,textS,textN,h1.1],by rw[←h2.2,textR,textN,h1.1]⟩
theorem mark_ab (r:RS):markD r.ab=(⟨textS r,(numN (tookR (textR r) 2) 0:Nat)⟩,(takeR (textR r) 2).ab):=by
 obtain ⟨h1,h2⟩:=text_ab r
 obtain ⟨h3,h4⟩:=tk_ab (textR r) 2
 rw[h2]at h3 h4
 rw[markD,←h1,←h3,←h4]
def rootN (r:RS):Nat:=numN (tookR r 4) 0
def rootW (r:RS):List UInt8:=tookR (takeR r 4) (rootN r)
def rootR (r:RS):RS:=takeR (takeR r 4) (rootN r)
theorem root_ab (r:RS):rootX r.ab=if (rootR r).why≠0 then (zeroT,true,(rootR r).ab) else ((rootD (rootW r)).1,(rootD (rootW r)).2,(rootR r).ab):=by
 have h1:=tk_ab r 4
 have h2:=tk_ab (takeR r 4) (rootN r)
 rw[h1.2]at h2
 rw[show rootN r=numN (tkB 4 r.ab).1 0 from by rw[rootN,h1.1]]at h2
 have e1:(tkB (numN (tkB 4 r.ab).1 0) (tkB 4 r.ab).2).1=rootW r:=by rw[←h2.1,rootW,rootN,h1.1]
 have e2:(tkB (numN (tkB 4 r.ab).1 0) (tkB 4 r.ab).2).2=(rootR r).ab:=by rw[←h2.2,rootR,rootN,h1.1]
 rw[rootX,e1,e2]
 by_cases h:(rootR r).why=0
 rw[if_neg (by rw[RS.ab_why];exact fun h2=>h2 h),if_neg (fun h2=>h2 h)]
 rw[if_pos (RS.ab_why.2 h),if_pos h]
theorem rootD_case {raw:List UInt8} {z:LTerm} {nz e:Int} (h:(∃ left rest,decT 60 1200 raw=.ok (z.t,left,rest)∧nz=(raw.length:Int) - rest.length∧e=0)∨(decT 60 1200 raw=.error e∧z=zeroL∧e≠0)):z.t=(rootD raw).1∧(rootD raw).2=(decide (e=0)&&decide (nz=raw.length)):=by
 rcases h with ⟨left,rest,h1,h2,h3⟩ | ⟨h1,h2,h3⟩
 rw[rootD,h1]
 refine ⟨rfl,?_⟩
 rw[h2,h3]
 show decide (rest=[])=(true&&_)
 rw[Bool.true_and,decide_eq_decide]
 constructor
 rintro rfl;simp
 intro h;exact List.eq_nil_of_length_eq_zero (by omega)
 rw[rootD,h1,h2]
 refine ⟨rfl,?_⟩
 rw[decide_eq_false h3];rfl
theorem rootR_sub (r:RS):SubR r (rootR r):=(SubR.take r 4).trans (SubR.take _ _)
theorem mroot_c (h rd:Nat) (wr:Bool) (r:RS) (Mr:Nat→Prop) (w0:World) (hc:r.bs.length≤r.c) (hl:r.bs.length≤10000000) (hMr:∀ k,Mr k→k < w0.heap.size∧¬(mrI h rd wr r).foot k) (hd:(mrI h rd wr r).holds w0) (hx:Stable (fun k=>(mrI h rd wr r).foot k∨Mr k) w0 (GlF r.p r.bs)) :
  Ret Tryz.prog 142 [.pointer (some ⟨h,0,none⟩)] w0 (mrI h rd wr r).foot fun v w'=>∃ z:LTerm,v=vL z∧z.t=(rootX r.ab).1∧(mrI h rd (wr||!(rootX r.ab).2.1) (rootR r)).holds w'∧Stable (fun k=>(mrI h rd wr r).foot k∨Mr k) w' (LtF z):=by
 have hrx:=root_ab r
 refine enter Tryz.func142 rfl rfl (Wd.it2LentM (x:=mrX h rd wr) (y:=rdI rd r) (Mr:=Mr) (fs:=[GlF r.p r.bs]) hd rfl rfl hMr (by simpa using hx)) (fun a S=>?_)
 simp only[Tryz.ntmps142,qqA,qqB,Nat.reduceAdd,Nat.reduceSub,qqC,qqD,qqE,qqF]at S
 refine kS (kR ?_);refine sa S ?_;clear S;intro b2 a w S;refine kN (xtn (kS ?_));refine c_drawL 11 [(0,true),(1,true),(2,true),(3,true),(4,true),(5,true),(6,true),(7,true),(8,false),(9,true),(10,false),(11,false)] [mrX h rd wr] S ?_;clear S;intro w S;(iterate 8 (refine dqL S ?_;clear S;intro a S));refine dlL ?_
 refine sit (rdI rd r) S (u32R_c rd r _ hc hl (S.it (rdI rd r)) (S.lend (rdI rd r) (S.mem.fact (GlF r.p r.bs)))) rfl ?_;clear S;rintro _ a w ⟨rfl,hh⟩ hS
 have S:=hS (rdI rd (takeR r 4)) hh (fun k h=>.inl h)
 clear hS
 obtain ⟨nn,hnn⟩:∃ nn,nn=rootN r:=⟨_,rfl⟩
 have hnl:rootN r < 4294967296:=(took_num r 4 (by decide)).2
 rw[show numN (tookR r 4) 0=nn from hnn.symm]at S
 rw[←hnn]at hnl
 replace S:=S.add (Φ:=GlF (takeR r 4).p (takeR r 4).bs) (takeR_gl hc (S.mem.fact (GlF r.p r.bs)))
 have hs1:=SubR.take r 4
 have hc1:=hs1.cap hc
 have hl1:=hs1.len
 refine deL S ?_;refine dqL S ?_;clear S;intro a S
 rw[w64 (nn:Int) (by omega) (by omega)]at S
 refine dlL ?_
 refine sit (rdI rd (takeR r 4)) S (rawR_c rd (takeR r 4) nn _ (by omega) hc1 (by omega) (S.it (rdI rd (takeR r 4))) (S.lend (rdI rd (takeR r 4)) (S.mem.fact (GlF (takeR r 4).p (takeR r 4).bs)))) rfl ?_;clear S;rintro _ a w ⟨p7,c7,rfl,hh,hf7⟩ hS
 have S:=hS (both (Wk.row 5 1 p7 (tookR (takeR r 4) nn).length c7 (encL (tookR (takeR r 4) nn))) (rdI rd (takeR (takeR r 4) nn))) hh hf7
 clear hS
 replace S:=(S.front (both (Wk.row 5 1 p7 (tookR (takeR r 4) nn).length c7 (encL (tookR (takeR r 4) nn))) (rdI rd (takeR (takeR r 4) nn)))).ofBoth
 obtain ⟨raw,hraw⟩:∃ raw,raw=tookR (takeR r 4) nn:=⟨_,rfl⟩
 obtain ⟨r5,hr5⟩:∃ r5,r5=takeR (takeR r 4) nn:=⟨_,rfl⟩
 have hrawl:raw.length≤10000000:=by have:=(tookR_len (takeR r 4) nn).2;rw[hraw];omega
 rw[←hraw,←hr5]at S
 have e5:rootR r=r5:=by rw[hr5,hnn];rfl
 have eW:rootW r=raw:=by rw[hraw,hnn];rfl
 rw[e5,eW]at hrx
 replace S:=(S.front (Wk.row 5 1 p7 raw.length c7 (encL raw))).rowToGl p7 raw (e:=5) (sz:=1) (n:=raw.length) (c:=c7) (fun _ _ _ _=>trivial)
 refine deL S ?_;refine dlL (sq S ?_);clear S;intro a S;refine dzL (xtn (kS (kS (kR ?_))));(iterate 4 (refine sq S ?_;clear S;intro a S))
 refine sr S (errR_c rd r5 _ (BoxF.stable (S.box rd) (fun h=>h))) ?_;clear S;rintro _ a w rfl S
 refine sq S ?_;clear S;intro a S;refine kN (xtn ?_)
 refine kC S (fun h2=>?_) (fun h2=>?_)
 refine kS (kR (sq S ?_));clear S;intro a S;refine sw S ?_;clear S;intro a w S;refine kN (xtn (kT (xtr ?_)))
 have hw:r5.why≠0:=by simpa using h2
 rw[if_pos hw]at hrx
 replace S:=((S.front (rdI rd r5)).front (mrX h rd wr)).toBoth
 have hh:=S.it (mrI h rd wr r5)
 refine end1 S (fun _=>⟨zeroL,rfl,?_,?_,fun w' _=>zeroL_in w'⟩)
 rw[hrx];rfl
 rw[hrx,e5,Bool.not_true,Bool.or_false];exact hh
 refine kK (xtn (kS ?_))
 have hw:r5.why=0:=by simpa using h2
 rw[if_neg (fun h=>h hw)]at hrx
 refine kR (sq S ?_);clear S;intro a S
 refine sr S (tdec_c raw p7 raw.length c7 _ w rfl hrawl (foots_lt S) (S.mem.fact (GlF p7 raw))) ?_;clear S;rintro _ a w ⟨z,nz,e,rfl,hzf,hcase⟩ S
 replace S:=S.add hzf
 (iterate 4 (refine sq S ?_;clear S;intro a S));refine sa S ?_;clear S;intro b4 a w S;refine sw S ?_;clear S;intro a w S;(iterate 2 (refine sq S ?_;clear S;intro a S));refine kN (xtn (kS (kR ?_)));(iterate 6 (refine sq S ?_;clear S;intro a S));(iterate 2 (refine gQ S ?_;clear S;intro a S));(iterate 2 (refine sq S ?_;clear S;intro a S));(iterate 4 (refine gQ S ?_;clear S;intro a S));(iterate 3 (refine sq S ?_;clear S;intro a S));refine sw S ?_;clear S;intro a w S;refine kN (xtn (kS (kR (sq S ?_))));clear S;intro a S;refine sw S ?_;clear S;intro a w S;refine kN (xtn (kT ?_))
 obtain ⟨hd1,hd2⟩:=rootD_case hcase
 rw[show (wr||!decide (e=0)||!decide (nz=(raw.length:Int)))=(wr||!(rootD raw).2) from by rw[hd2,Bool.not_and,Bool.or_assoc]]at S
 replace S:=((S.front (rdI rd r5)).front (mrX h rd (wr||!(rootD raw).2))).toBoth
 have hh:=S.it (mrI h rd (wr||!(rootD raw).2) r5)
 have hst:Stable (fun k=>(mrI h rd wr r).foot k∨Mr k) _ (LtF z):=(S.wd.facts (LtF z) (by simp)).less fun k _ hk=>hk.elim (fun h1=>⟨mrI h rd (wr||!(rootD raw).2) r5,by simp,h1⟩) (fun h1=>⟨ext Mr,by simp,h1⟩)
 refine end1 S (fun _=>⟨z,rfl,?_,?_,hst⟩)
 rw[hrx];exact hd1
 rw[hrx,e5];exact hh
abbrev mmX (b:Nat) (m:LMem):Wk.Item:=Wk.box b 67 (cMem m)
abbrev rwS (m:LMem):Wk.Item:=Wk.row 175 2 m.sp m.seeds.length m.sc (encL m.seeds)
abbrev rwV (m:LMem):Wk.Item:=Wk.row 177 2 m.vp m.vers.length m.vc (encL m.vers)
abbrev rwE (m:LMem):Wk.Item:=Wk.row 179 7 m.ep m.seen.length m.ec (encL m.seen)
abbrev dmI (b h rd:Nat) (m:LMem) (wr:Bool) (r:RS):Wk.Item:=both (mmX b m) (both (rwS m) (both (rwV m) (both (rwE m) (mrI h rd wr r))))
theorem St.dmOpen {w0:World} {M0:Nat→Prop} {ds:List Deferred} {a:Act} {w:World} {l:List Value} {bs:List Wk.Item} {fs:List (World→Prop)} {b h rd:Nat} {m:LMem} {wr:Bool} {r:RS} (S:St w0 M0 ds a w l (dmI b h rd m wr r::bs) fs):St w0 M0 ds a w l (mrX h rd wr::rdI rd r::rwE m::rwV m::rwS m::mmX b m::bs) fs:=by
 have S1:=S.ofBoth
 have S2:=(S1.perm (both (rwS m) (both (rwV m) (both (rwE m) (mrI h rd wr r)))::mmX b m::bs) (List.Perm.swap _ _ _)).ofBoth
 have S3:=(S2.perm (both (rwV m) (both (rwE m) (mrI h rd wr r))::rwS m::mmX b m::bs) (List.Perm.swap _ _ _)).ofBoth
 have S4:=(S3.perm (both (rwE m) (mrI h rd wr r)::rwV m::rwS m::mmX b m::bs) (List.Perm.swap _ _ _)).ofBoth
 exact (S4.perm (mrI h rd wr r::rwE m::rwV m::rwS m::mmX b m::bs) (List.Perm.swap _ _ _)).ofBoth
theorem St.dmClose {w0:World} {M0:Nat→Prop} {ds:List Deferred} {a:Act} {w:World} {l:List Value} {bs:List Wk.Item} {fs:List (World→Prop)} {b h rd:Nat} {m:LMem} {wr:Bool} {r:RS} (S:St w0 M0 ds a w l (mrX h rd wr::rdI rd r::rwE m::rwV m::rwS m::mmX b m::bs) fs):St w0 M0 ds a w l (dmI b h rd m wr r::bs) fs:=by
 have S1:=S.toBoth
 have S2:=(S1.perm (rwE m::mrI h rd wr r::rwV m::rwS m::mmX b m::bs) (List.Perm.swap _ _ _)).toBoth
 have S3:=(S2.perm (rwV m::both (rwE m) (mrI h rd wr r)::rwS m::mmX b m::bs) (List.Perm.swap _ _ _)).toBoth
 have S4:=(S3.perm (rwS m::both (rwV m) (both (rwE m) (mrI h rd wr r))::mmX b m::bs) (List.Perm.swap _ _ _)).toBoth
 exact (S4.perm (mmX b m::both (rwS m) (both (rwV m) (both (rwE m) (mrI h rd wr r)))::bs) (List.Perm.swap _ _ _)).toBoth
def DmR (Mr:Nat→Prop) (b h rd:Nat) (m:LMem) (wr:Bool) (r:RS) (Q:LMem→Bool→RS→Prop) (v:Value) (w0 w:World):Prop:=v=.tuple #[]∧∃ m' wr' r',Q m' wr' r'∧SubR r r'∧(dmI b h rd m' wr' r').holds w∧(∀ k,(dmI b h rd m' wr' r').foot k→(dmI b h rd m wr r).foot k∨w0.heap.size≤k)∧Stable (fun k=>(dmI b h rd m' wr' r').foot k∨Mr k) w (AllI m'.seen)
theorem mdec1_c (b b4 h rd:Nat) (m:LMem) (wr:Bool) (r:RS) (Mr:Nat→Prop) (w0:World) (hc:r.bs.length≤r.c) (hl:r.bs.length≤10000000) (hk:m.seeds.length≤1000) (hMr:∀ k,Mr k→k < w0.heap.size∧¬(dmI b h rd m wr r).foot k) (hd:(dmI b h rd m wr r).holds w0)
  (h4:Stable (fun k=>(dmI b h rd m wr r).foot k∨Mr k) w0 (BoxF b4 207 [.pointer (some ⟨h,0,none⟩)])) (hx:Stable (fun k=>(dmI b h rd m wr r).foot k∨Mr k) w0 (GlF r.p r.bs)) (hs:Stable (fun k=>(dmI b h rd m wr r).foot k∨Mr k) w0 (AllI m.seen)) :
  Ret Tryz.prog 138 [.pointer (some ⟨b,0,none⟩),.pointer (some ⟨b4,0,none⟩)] w0 (dmI b h rd m wr r).foot fun v w'=>DmR Mr b h rd m wr r (fun m' wr' r'=>wr'=wr∧r'.ab=(markD r.ab).2∧m'.m = { m.m with seeds:=m.seeds++[(markD r.ab).1] }) v w0 w':=by
 refine enter Tryz.func138 rfl rfl ((Wd.itLentM (x:=dmI b h rd m wr r) (Mr:=Mr) (fs:=[BoxF b4 207 [.pointer (some ⟨h,0,none⟩)],GlF r.p r.bs,AllI m.seen]) hd hMr (by simp;exact ⟨h4,hx,hs⟩))) (fun a S=>?_)
 simp only[Tryz.ntmps138,qqA,qqB,Nat.reduceAdd,Nat.reduceSub,qqC,qqD,qqE,qqF]at S
 replace S:=St.dmOpen S
 refine c_drawL 14 [(0,true),(1,true),(2,true),(4,true),(5,true),(6,true),(7,true),(3,false),(8,false),(9,true),(10,true),(11,false),(12,false),(13,true),(14,false)] [mrX h rd wr,mmX b m] S ?_;clear S;intro w S;(iterate 7 (refine dqL S ?_;clear S;intro a S));refine dlL ?_
 replace S:=((S.front (rdI rd r)).front (mrX h rd wr)).toBoth
 refine sit (mrI h rd wr r) S (mtext_c h rd wr r _ hc hl (S.it (mrI h rd wr r)) (S.lend (mrI h rd wr r) (S.mem.fact (GlF r.p r.bs)))) rfl ?_;clear S;rintro _ a w ⟨rfl,hh⟩ hS
 have S:=hS (mrI h rd wr (textR r)) hh (fun k h=>.inl h)
 clear hS
 replace S:=S.ofBoth
 have hs1:=textR_sub r
 have hc1:=hs1.cap hc
 have hl1:=hs1.len
 replace S:=S.add (Φ:=GlF (textR r).p (textR r).bs) ((S.mem.fact (GlF r.p r.bs)).imp fun _ h=>hs1.gl hc _ h)
 refine deL S ?_;refine dlL ?_
 refine sit (rdI rd (textR r)) S (u16R_c rd (textR r) _ hc1 (by omega) (S.it (rdI rd (textR r))) (S.lend (rdI rd (textR r)) (S.mem.fact (GlF (textR r).p (textR r).bs)))) rfl ?_;clear S;rintro _ a w ⟨rfl,hh⟩ hS
 have S:=hS (rdI rd (takeR (textR r) 2)) hh (fun k h=>.inl h)
 clear hS
 obtain ⟨n2,hn2⟩:∃ n2,n2=numN (tookR (textR r) 2) 0:=⟨_,rfl⟩
 rw[←hn2]at S
 have hn2l:n2 < 65536:=by rw[hn2];exact (took_num (textR r) 2 (by decide)).2
 refine deL S ?_;refine dqL S ?_;clear S;intro a S
 rw[w64 (n2:Int) (by omega) (by omega)]at S
 refine dqL S ?_;clear S;intro a S;refine dlL (sn S ?_);clear S;intro b13 a w S
 replace S:=S.boxRow b13 2 1 rfl (by decide)
 rw[show [str (textS r),.int .i64 (n2:Int)]=encL [(⟨textS r,n2⟩:LMark)] from rfl]at S
 refine deL S ?_;refine dlL ?_
 refine sap S (by simp[maxLen];omega) (by omega) ?_;clear S;rintro p7 c7 a w - S
 rw[←encL_append]at S
 refine deL S ?_;refine dqL S ?_;clear S;intro a S;refine dlL (sw S ?_);clear S;intro a w S;refine dzL ?_
 have hmk:=mark_ab r
 rw[←hn2]at hmk
 rw[show m.seeds.length+1=(m.seeds++[(⟨textS r,n2⟩:LMark)]).length from by simp]at S
 have S2:=St.dmClose (b:=b) (h:=h) (rd:=rd) (m:={ m with seeds:=m.seeds++[⟨textS r,n2⟩],sp:=p7,sc:=c7 }) (wr:=wr) (r:=takeR (textR r) 2) (bs:=[ext Mr]) (fs:=[AllI m.seen]) (S.sub _ _)
 obtain ⟨m1,hm1⟩:∃ m1:LMem,m1 = { m with seeds:=m.seeds++[⟨textS r,n2⟩],sp:=p7,sc:=c7 }:=⟨_,rfl⟩
 rw[←hm1]at S2
 have hh:=S2.it (dmI b h rd m1 wr (takeR (textR r) 2))
 have hnw:=S2.itNew (dmI b h rd m1 wr (takeR (textR r) 2)) rfl
 have hst:Stable (fun k=>(dmI b h rd m1 wr (takeR (textR r) 2)).foot k∨Mr k) _ (AllI m.seen):=(S2.wd.facts (AllI m.seen) (by simp)).less fun k _ hk=>hk.elim (fun h1=>⟨dmI b h rd m1 wr (takeR (textR r) 2),by simp,h1⟩) (fun h1=>⟨ext Mr,by simp,h1⟩)
 have e1:m1.seen=m.seen:=by rw[hm1]
 refine end0 S2 (fun _=>⟨rfl,m1,wr,takeR (textR r) 2,⟨rfl,by rw[hmk],by rw[hmk,hm1];rfl⟩,hs1.trans (SubR.take _ _),hh,hnw,by rw[e1];exact hst⟩)
theorem mdec2_c (b b4 h rd:Nat) (m:LMem) (wr:Bool) (r:RS) (Mr:Nat→Prop) (w0:World) (hc:r.bs.length≤r.c) (hl:r.bs.length≤10000000) (hk:m.vers.length≤1000) (hMr:∀ k,Mr k→k < w0.heap.size∧¬(dmI b h rd m wr r).foot k) (hd:(dmI b h rd m wr r).holds w0)
  (h4:Stable (fun k=>(dmI b h rd m wr r).foot k∨Mr k) w0 (BoxF b4 207 [.pointer (some ⟨h,0,none⟩)])) (hx:Stable (fun k=>(dmI b h rd m wr r).foot k∨Mr k) w0 (GlF r.p r.bs)) (hs:Stable (fun k=>(dmI b h rd m wr r).foot k∨Mr k) w0 (AllI m.seen)) :
  Ret Tryz.prog 140 [.pointer (some ⟨b,0,none⟩),.pointer (some ⟨b4,0,none⟩)] w0 (dmI b h rd m wr r).foot fun v w'=>DmR Mr b h rd m wr r (fun m' wr' r'=>wr'=wr∧r'.ab=(markD r.ab).2∧m'.m = { m.m with vers:=m.vers++[(markD r.ab).1] }) v w0 w':=by
 refine enter Tryz.func140 rfl rfl ((Wd.itLentM (x:=dmI b h rd m wr r) (Mr:=Mr) (fs:=[BoxF b4 207 [.pointer (some ⟨h,0,none⟩)],GlF r.p r.bs,AllI m.seen]) hd hMr (by simp;exact ⟨h4,hx,hs⟩))) (fun a S=>?_)
 simp only[Tryz.ntmps140,qqA,qqB,Nat.reduceAdd,Nat.reduceSub,qqC,qqD,qqE,qqF]at S
 replace S:=St.dmOpen S
 refine c_drawL 14 [(0,true),(1,true),(2,true),(4,true),(5,true),(6,true),(7,true),(3,false),(8,false),(9,true),(10,true),(11,false),(12,false),(13,true),(14,false)] [mrX h rd wr,mmX b m] S ?_;clear S;intro w S;(iterate 7 (refine dqL S ?_;clear S;intro a S));refine dlL ?_
 replace S:=((S.front (rdI rd r)).front (mrX h rd wr)).toBoth
 refine sit (mrI h rd wr r) S (mtext_c h rd wr r _ hc hl (S.it (mrI h rd wr r)) (S.lend (mrI h rd wr r) (S.mem.fact (GlF r.p r.bs)))) rfl ?_;clear S;rintro _ a w ⟨rfl,hh⟩ hS
 have S:=hS (mrI h rd wr (textR r)) hh (fun k h=>.inl h)
 clear hS
 replace S:=S.ofBoth
 have hs1:=textR_sub r
 have hc1:=hs1.cap hc
 have hl1:=hs1.len
 replace S:=S.add (Φ:=GlF (textR r).p (textR r).bs) ((S.mem.fact (GlF r.p r.bs)).imp fun _ h=>hs1.gl hc _ h)
 refine deL S ?_;refine dlL ?_
 refine sit (rdI rd (textR r)) S (u16R_c rd (textR r) _ hc1 (by omega) (S.it (rdI rd (textR r))) (S.lend (rdI rd (textR r)) (S.mem.fact (GlF (textR r).p (textR r).bs)))) rfl ?_;clear S;rintro _ a w ⟨rfl,hh⟩ hS
 have S:=hS (rdI rd (takeR (textR r) 2)) hh (fun k h=>.inl h)
 clear hS
 obtain ⟨n2,hn2⟩:∃ n2,n2=numN (tookR (textR r) 2) 0:=⟨_,rfl⟩
 rw[←hn2]at S
 have hn2l:n2 < 65536:=by rw[hn2];exact (took_num (textR r) 2 (by decide)).2
 refine deL S ?_;refine dqL S ?_;clear S;intro a S
 rw[w64 (n2:Int) (by omega) (by omega)]at S
 refine dqL S ?_;clear S;intro a S;refine dlL (sn S ?_);clear S;intro b13 a w S
 replace S:=S.boxRow b13 2 1 rfl (by decide)
 rw[show [str (textS r),.int .i64 (n2:Int)]=encL [(⟨textS r,n2⟩:LMark)] from rfl]at S
 refine deL S ?_;refine dlL ?_
 refine sap S (by simp[maxLen];omega) (by omega) ?_;clear S;rintro p7 c7 a w - S
 rw[←encL_append]at S
 refine deL S ?_;refine dqL S ?_;clear S;intro a S;refine dlL (sw S ?_);clear S;intro a w S;refine dzL ?_
 have hmk:=mark_ab r
 rw[←hn2]at hmk
 rw[show m.vers.length+1=(m.vers++[(⟨textS r,n2⟩:LMark)]).length from by simp]at S
 have S2:=St.dmClose (b:=b) (h:=h) (rd:=rd) (m:={ m with vers:=m.vers++[⟨textS r,n2⟩],vp:=p7,vc:=c7 }) (wr:=wr) (r:=takeR (textR r) 2) (bs:=[ext Mr]) (fs:=[AllI m.seen]) (S.sub _ _)
 obtain ⟨m1,hm1⟩:∃ m1:LMem,m1 = { m with vers:=m.vers++[⟨textS r,n2⟩],vp:=p7,vc:=c7 }:=⟨_,rfl⟩
 rw[←hm1]at S2
 have hh:=S2.it (dmI b h rd m1 wr (takeR (textR r) 2))
 have hnw:=S2.itNew (dmI b h rd m1 wr (takeR (textR r) 2)) rfl
 have hst:Stable (fun k=>(dmI b h rd m1 wr (takeR (textR r) 2)).foot k∨Mr k) _ (AllI m.seen):=(S2.wd.facts (AllI m.seen) (by simp)).less fun k _ hk=>hk.elim (fun h1=>⟨dmI b h rd m1 wr (takeR (textR r) 2),by simp,h1⟩) (fun h1=>⟨ext Mr,by simp,h1⟩)
 have e1:m1.seen=m.seen:=by rw[hm1]
 refine end0 S2 (fun _=>⟨rfl,m1,wr,takeR (textR r) 2,⟨rfl,by rw[hmk],by rw[hmk,hm1];rfl⟩,hs1.trans (SubR.take _ _),hh,hnw,by rw[e1];exact hst⟩)
set_option maxHeartbeats 2000000 in
theorem mdec3_c (b b4 h rd:Nat) (m:LMem) (wr:Bool) (r:RS) (Mr:Nat→Prop) (w0:World) (hc:r.bs.length≤r.c) (hl:r.bs.length≤10000000) (hk:m.seen.length≤1000) (hMr:∀ k,Mr k→k < w0.heap.size∧¬(dmI b h rd m wr r).foot k) (hd:(dmI b h rd m wr r).holds w0)
  (h4:Stable (fun k=>(dmI b h rd m wr r).foot k∨Mr k) w0 (BoxF b4 207 [.pointer (some ⟨h,0,none⟩)])) (hx:Stable (fun k=>(dmI b h rd m wr r).foot k∨Mr k) w0 (GlF r.p r.bs)) (hs:Stable (fun k=>(dmI b h rd m wr r).foot k∨Mr k) w0 (AllI m.seen)) :
  Ret Tryz.prog 141 [.pointer (some ⟨b,0,none⟩),.pointer (some ⟨b4,0,none⟩)] w0 (dmI b h rd m wr r).foot fun v w'=>DmR Mr b h rd m wr r (fun m' wr' r'=>wr'=(wr||!(seenD r.ab).2.1)∧r'.ab=(seenD r.ab).2.2∧m'.m = { m.m with seen:=ssP m.seen++[(seenD r.ab).1] }) v w0 w':=by
 have hs1:=SubR.take r 1
 have hc1:=hs1.cap hc
 have hl1:=hs1.len
 have hs2:=SubR.take (takeR r 1) 2
 have hc2:=hs2.cap hc1
 have hl2:=hs2.len
 have hrs:=rootR_sub (takeR (takeR r 1) 2)
 obtain ⟨eab1,eab2⟩:=tk_ab r 1
 obtain ⟨eab3,eab4⟩:=tk_ab (takeR r 1) 2
 have hrab:=root_ab (takeR (takeR r 1) 2)
 obtain ⟨n1,hn1⟩:∃ n1,n1=numN (tookR r 1) 0:=⟨_,rfl⟩
 obtain ⟨n2,hn2⟩:∃ n2,n2=numN (tookR (takeR r 1) 2) 0:=⟨_,rfl⟩
 obtain ⟨r2,hr2⟩:∃ r2,r2=takeR (takeR r 1) 2:=⟨_,rfl⟩
 have hn1l:n1 < 256:=by rw[hn1];exact (took_num r 1 (by decide)).2
 have hn2l:n2 < 65536:=by rw[hn2];exact (took_num (takeR r 1) 2 (by decide)).2
 have hsd:seenD r.ab=(⟨(n1:Nat),(n2:Nat),(rootX r2.ab).1⟩,(rootX r2.ab).2.1,(rootX r2.ab).2.2):=by
  rw[seenD,←eab1,←eab2,←eab3,←eab4,←hn1,←hn2,←hr2]
 have hrr:(rootX r2.ab).2.2=(rootR r2).ab:=by
  rw[root_ab r2];split <;> rfl
 rw[←hr2]at hs2 hc2 hl2 hrs
 refine enter Tryz.func141 rfl rfl ((Wd.itLentM (x:=dmI b h rd m wr r) (Mr:=Mr) (fs:=[BoxF b4 207 [.pointer (some ⟨h,0,none⟩)],GlF r.p r.bs,AllI m.seen]) hd hMr (by simp;exact ⟨h4,hx,hs⟩))) (fun a S=>?_)
 simp only[Tryz.ntmps141,qqA,qqB,Nat.reduceAdd,Nat.reduceSub,qqC,qqD,qqE,qqF]at S
 replace S:=St.dmOpen S
 refine c_drawV [(0,0),(0,0),(0,2),(0,2),(0,3),(0,4),(0,5),(0,6),(0,8),(0,8),(0,9),(0,10),(0,6),(0,12),(0,14),(1,12),(0,15),(1,16),(1,17),(0,18),(2,18)] [(0,1),(1,1),(2,0),(3,0),(4,0),(5,0),(8,1),(9,1),(10,1),(11,0),(14,0),(6,3),(7,1),(12,3),(13,1),(15,3),(16,1),(17,3),(18,3),(19,1),(20,3)] ([mrX h rd wr,mmX b m]) ([mmX b m]) ([]) S ?_;clear S;intro w S;(iterate 2 (refine dqV1 S ?_;clear S;intro a S));(iterate 4 (refine dqV0 S ?_;clear S;intro a S));(iterate 3 (refine dqV1 S ?_;clear S;intro a S));(iterate 2 (refine dqV0 S ?_;clear S;intro a S));refine dlV ?_
 refine sit (rdI rd r) S (u8R_c rd r _ hc hl (S.it (rdI rd r)) (S.lend (rdI rd r) (S.mem.fact (GlF r.p r.bs)))) rfl ?_;clear S;rintro _ a w ⟨rfl,hh⟩ hS
 have S:=hS (rdI rd (takeR r 1)) hh (fun k h=>.inl h)
 clear hS
 rw[←hn1]at S
 replace S:=S.add (Φ:=GlF (takeR r 1).p (takeR r 1).bs) (takeR_gl hc (S.mem.fact (GlF r.p r.bs)))
 refine deV0 S ?_;refine dqV1 S ?_;clear S;intro a S
 rw[w64 (n1:Int) (by omega) (by omega)]at S
 refine dlV ?_
 refine sit (rdI rd (takeR r 1)) S (u16R_c rd (takeR r 1) _ hc1 (by omega) (S.it (rdI rd (takeR r 1))) (S.lend (rdI rd (takeR r 1)) (S.mem.fact (GlF (takeR r 1).p (takeR r 1).bs)))) rfl ?_;clear S;rintro _ a w ⟨rfl,hh⟩ hS
 have S:=hS (rdI rd (takeR (takeR r 1) 2)) hh (fun k h=>.inl h)
 clear hS
 rw[←hn2]at S
 replace S:=S.add (Φ:=GlF (takeR (takeR r 1) 2).p (takeR (takeR r 1) 2).bs) (takeR_gl hc1 (S.mem.fact (GlF (takeR r 1).p (takeR r 1).bs)))
 rw[←hr2]at S
 refine deV0 S ?_;refine dqV1 S ?_;clear S;intro a S
 rw[w64 (n2:Int) (by omega) (by omega)]at S
 refine dlV ?_
 replace S:=((S.front (rdI rd r2)).front (mrX h rd wr)).toBoth
 refine sitM (mrI h rd wr r2) S (mroot_c h rd wr r2 (restOf _ (mrI h rd wr r2)) w hc2 (by omega) (S.restOk _) (S.it (mrI h rd wr r2)) ((S.mem.fact (GlF r2.p r2.bs)).split (mrI h rd wr r2))) rfl ?_;clear S;rintro _ a w ⟨z,rfl,hz,hh,hzf⟩ hS
 have S:=hS (mrI h rd (wr||!(rootX r2.ab).2.1) (rootR r2)) [LtF z] hh (fun k h=>.inl h) (by intro Φ hΦ;obtain rfl:=List.mem_singleton.1 hΦ;exact hzf)
 clear hS
 replace S:=S.ofBoth
 refine deV1 S ?_;refine dqV1 S ?_;clear S;intro a S;refine dlV (sn S ?_);clear S;intro b19 a w S
 replace S:=S.boxRow b19 7 1 rfl (by decide)
 rw[show [.int .i64 (n1:Int),.int .i64 (n2:Int),.int .i64 z.kind,.int .i64 z.user,.int .i64 z.num,str z.text,.slice z.p z.kids.length z.cap]=encL [(⟨n1,n2,z⟩:LSeen)] from rfl]at S
 refine deV1 S ?_;refine dlV ?_
 refine sap S (by simp[maxLen];omega) (by omega) ?_;clear S;rintro p7 c7 a w - S
 rw[←encL_append]at S
 refine deV1 S ?_;refine dqV1 S ?_;clear S;intro a S;refine dlV (sw S ?_);clear S;intro a w S;refine deV2 S ?_;refine dnV ?_
 rw[show m.seen.length+1=(m.seen++[(⟨n1,n2,z⟩:LSeen)]).length from by simp]at S
 have S2:=St.dmClose (b:=b) (h:=h) (rd:=rd) (m:={ m with seen:=m.seen++[⟨n1,n2,z⟩],ep:=p7,ec:=c7 }) (wr:=(wr||!(rootX r2.ab).2.1)) (r:=rootR r2) (bs:=[ext Mr]) (fs:=[LtF z,AllI m.seen]) (S.sub _ _)
 obtain ⟨m1,hm1⟩:∃ m1:LMem,m1 = { m with seen:=m.seen++[⟨n1,n2,z⟩],ep:=p7,ec:=c7 }:=⟨_,rfl⟩
 rw[←hm1]at S2
 have hh:=S2.it (dmI b h rd m1 (wr||!(rootX r2.ab).2.1) (rootR r2))
 have hnw:=S2.itNew (dmI b h rd m1 (wr||!(rootX r2.ab).2.1) (rootR r2)) rfl
 have hall:Stable _ _ (AllI (m.seen++[(⟨n1,n2,z⟩:LSeen)])):=AllI.snoc (r:=(⟨n1,n2,z⟩:LSeen)) (S2.wd.facts (AllI m.seen) (by simp)) (S2.wd.facts (LtF z) (by simp))
 have hst:Stable (fun k=>(dmI b h rd m1 (wr||!(rootX r2.ab).2.1) (rootR r2)).foot k∨Mr k) _ (AllI (m.seen++[(⟨n1,n2,z⟩:LSeen)])):=hall.less fun k _ hk=>hk.elim (fun h1=>⟨dmI b h rd m1 (wr||!(rootX r2.ab).2.1) (rootR r2),by simp,h1⟩) (fun h1=>⟨ext Mr,by simp,h1⟩)
 have e1:m1.seen=m.seen++[⟨n1,n2,z⟩]:=by rw[hm1]
 refine end0 S2 (fun _=>⟨rfl,m1,(wr||!(rootX r2.ab).2.1),rootR r2,⟨by rw[hsd],by rw[hsd];exact hrr.symm,?_⟩,(hs1.trans hs2).trans hrs,hh,hnw,by rw[e1];exact hst⟩)
 have e2:ssP (m.seen++[(⟨n1,n2,z⟩:LSeen)])=ssP m.seen++[⟨n1,n2,(rootX r2.ab).1⟩]:=by rw[ssP,ssP,List.map_append,←hz];rfl
 rw[hsd,hm1]
 exact congrArg (fun x=>PMem.mk m.user m.leaf m.counter m.num m.seeds m.vers x) e2
abbrev ptrV (b:Nat):Value:=.pointer (some ⟨b,0,none⟩)
def DmE (Mr:Nat→Prop) (b h rd:Nat) (m:LMem) (wr:Bool) (r:RS) (Q:LMem→Bool→RS→Prop) (v:Value) (w0 w:World):Prop:=v=.tuple #[]∧∃ m' wr' r',Q m' wr' r'∧SubR r r'∧(dmI b h rd m' wr' r').holds w∧(∀ k,(dmI b h rd m' wr' r').foot k→(dmI b h rd m wr r).foot k∨w0.heap.size≤k)∧Stable (fun k=>(dmI b h rd m' wr' r').foot k∨Mr k) w (AllI m'.seen)
set_option maxHeartbeats 2000000 in
theorem meach_c (gf:Nat) [EntF Tryz.prog gf] (b b4 h rd:Nat) (R:Nat→LMem→Bool→RS→Prop) (stp:LMem→Bool→RS→LMem→Bool→RS→Prop)
  (hstp:∀ k m wr r m' wr' r',R (k+1) m wr r→r.why=0→stp m wr r m' wr' r'→R k m' wr' r')
  (hcall:∀ k m wr r (Mr:Nat→Prop) (w0:World),R (k+1) m wr r→r.bs.length≤r.c→r.bs.length≤10000000→(∀ k,Mr k→k < w0.heap.size∧¬(dmI b h rd m wr r).foot k)→(dmI b h rd m wr r).holds w0→Stable (fun k=>(dmI b h rd m wr r).foot k∨Mr k) w0 (BoxF b4 207 [.pointer (some ⟨h,0,none⟩)])→Stable (fun k=>(dmI b h rd m wr r).foot k∨Mr k) w0 (GlF r.p r.bs)→Stable (fun k=>(dmI b h rd m wr r).foot k∨Mr k) w0 (AllI m.seen)→
   Ret Tryz.prog gf [ptrV b,ptrV b4] w0 (dmI b h rd m wr r).foot fun v w'=>DmR Mr b h rd m wr r (stp m wr r) v w0 w')
  (m:LMem) (wr:Bool) (r:RS) (Mr:Nat→Prop) (w0:World) (hR:R (numN (tookR r 1) 0) m wr (takeR r 1)) (hc:r.bs.length≤r.c) (hl:r.bs.length≤10000000) (hMr:∀ k,Mr k→k < w0.heap.size∧¬(dmI b h rd m wr r).foot k) (hd:(dmI b h rd m wr r).holds w0)
  (h4:Stable (fun k=>(dmI b h rd m wr r).foot k∨Mr k) w0 (BoxF b4 207 [.pointer (some ⟨h,0,none⟩)])) (hx:Stable (fun k=>(dmI b h rd m wr r).foot k∨Mr k) w0 (GlF r.p r.bs)) (hs:Stable (fun k=>(dmI b h rd m wr r).foot k∨Mr k) w0 (AllI m.seen)) :
  Ret Tryz.prog 137 [.pointer (some ⟨h,0,none⟩),.func (.func gf) #[] ⟨[ptrV b,ptrV b4]⟩] w0 (dmI b h rd m wr r).foot fun v w'=>DmE Mr b h rd m wr r (fun m' wr' r'=>∃ k,R k m' wr' r'∧(k=0∨r'.why≠0)) v w0 w':=by
 refine enter Tryz.func137 rfl rfl ((Wd.itLentM (x:=dmI b h rd m wr r) (Mr:=Mr) (fs:=[GlF r.p r.bs,AllI m.seen,BoxF b4 207 [.pointer (some ⟨h,0,none⟩)]]) hd hMr (by simp;exact ⟨hx,hs,h4⟩))) (fun a S=>?_)
 simp only[Tryz.ntmps137,qqA,qqB,Nat.reduceAdd,Nat.reduceSub,qqC,qqD,qqE,qqF]at S
 refine kS ?_
 replace S:=St.dmOpen S
 obtain ⟨n,hn⟩:∃ n,n=numN (tookR r 1) 0:=⟨_,rfl⟩
 rw[←hn]at hR
 refine kR ?_;(iterate 4 (refine sq S ?_;clear S;intro a S))
 refine sit (rdI rd r) S (u8R_c rd r _ hc hl (S.it (rdI rd r)) (S.lend (rdI rd r) (S.mem.fact (GlF r.p r.bs)))) rfl ?_;clear S;rintro _ a w ⟨rfl,hh⟩ hS
 have S:=hS (rdI rd (takeR r 1)) hh (fun k h=>.inl h)
 clear hS
 rw[←hn]at S
 have hnl:n < 256:=by rw[hn];exact (took_num r 1 (by decide)).2
 replace S:=S.add (Φ:=GlF (takeR r 1).p (takeR r 1).bs) (takeR_gl hc (S.mem.fact (GlF r.p r.bs)))
 have hs1:=SubR.take r 1
 replace S:=(((((S.front (mmX b m)).front (rwS m)).front (rwV m)).front (rwE m)).front (rdI rd (takeR r 1))).front (mrX h rd wr)
 replace S:=St.dmClose S
 refine sq S ?_;clear S;intro a S;refine kN (xtn (kB ?_))
 refine c_fore4 S (fun(k:Nat) (m1:LMem) (wr1:Bool) (r1:RS) uu=>[(4,.int .u8 (k:Nat)),(5,uu 10),(0,uu 11),(0,uu 12),(0,uu 13),(0,uu 14),(0,uu 15),(0,uu 16),(0,uu 17),(0,uu 18),(0,uu 19),(0,uu 20),(0,uu 21),(0,uu 22),(0,uu 23)]) (fun(k:Nat) (m1:LMem) (wr1:Bool) (r1:RS)=>[dmI b h rd m1 wr1 r1,ext Mr]) (fun(k:Nat) (m1:LMem) (wr1:Bool) (r1:RS)=>[GlF r1.p r1.bs,AllI m1.seen,BoxF b4 207 [.pointer (some ⟨h,0,none⟩)]]) (fun(k:Nat) (m1:LMem) (wr1:Bool) (r1:RS)=>R k m1 wr1 r1∧SubR r r1∧k < 256) (fun(k:Nat) (m1:LMem) (wr1:Bool) (r1:RS)=>k) (n) (m) (wr) (takeR r 1) ?_ S.uu ?_ ?_
 exact ⟨hR,hs1,hnl⟩
 first | exact S | exact S.sub _ _
 clear S;rintro k m1 wr1 r1 uu a w ⟨hRk,hsub,hk⟩ S
 refine kS (kS ?_)
 have hc1:=hsub.cap hc
 have hl1:=hsub.len
 refine kR ?_;(iterate 3 (refine sq S ?_;clear S;intro a S))
 refine gS S (fun hs1g S=>?_) (fun hs1g S=>?_)
 refine gT S ?_;refine sq S ?_;clear S;intro a S
 replace S:=St.dmOpen S
 refine gT S ?_;refine sq S ?_;clear S;intro a S;refine gT S ?_;refine sq S ?_;clear S;intro a S;refine gT S ?_;refine sq S ?_;clear S;intro a S;refine gT S ?_
 refine sr S (errR_c rd r1 _ (BoxF.stable (S.box rd) (fun h=>h))) ?_;clear S;rintro _ a w rfl S
 replace S:=(((((S.front (mmX b m1)).front (rwS m1)).front (rwV m1)).front (rwE m1)).front (rdI rd r1)).front (mrX h rd wr1)
 replace S:=St.dmClose S
 refine gT S ?_;(iterate 2 (refine sq S ?_;clear S;intro a S));refine kN (xtn ?_)
 refine kC S (fun h1=>?_) (fun h1=>?_)
 refine kK (xtn (kS (kB ?_)))
 obtain ⟨k',rfl⟩:∃ k',k=k'+1:=⟨k - 1,by have:=of_decide_eq_true hs1g;omega⟩
 refine kR (sq S ?_);clear S;intro a S
 refine sitM (dmI b h rd m1 wr1 r1) S (hcall k' m1 wr1 r1 (restOf _ (dmI b h rd m1 wr1 r1)) _ hRk hc1 (by omega) (S.restOk _) (S.it (dmI b h rd m1 wr1 r1)) ((S.mem.fact (BoxF b4 207 [.pointer (some ⟨h,0,none⟩)])).split (dmI b h rd m1 wr1 r1)) ((S.mem.fact (GlF r1.p r1.bs)).split (dmI b h rd m1 wr1 r1)) ((S.mem.fact (AllI m1.seen)).split (dmI b h rd m1 wr1 r1))) rfl ?_;clear S;rintro _ a w ⟨rfl,m2,wr2,r2,hq,hsb,hh,hf,hall⟩ hS
 have S:=hS (dmI b h rd m2 wr2 r2) [AllI m2.seen] hh hf (by intro Φ hΦ;obtain rfl:=List.mem_singleton.1 hΦ;exact hall)
 clear hS
 refine kN (xbn (xtn (kR ?_)));(iterate 2 (refine sq S ?_;clear S;intro a S))
 rw[show IntKind.u8.wrap (((k'+1:Nat):Int) - 1)=(k':Nat) from by
  rw[show (((k'+1:Nat):Int) - 1)=(k':Nat) from by omega]
  unfold IntKind.wrap
  simp only[IntKind.bits,IntKind.signed,Bool.false_and]
  simp;omega]at S
 refine sq S ?_;clear S;intro a S;refine kN (xtn ?_)
 replace S:=S.add (Φ:=GlF r2.p r2.bs) ((S.mem.fact (GlF r1.p r1.bs)).imp fun _ h=>hsb.gl hc1 _ h)
 refine ⟨k',m2,wr2,r2,S.uu,⟨hstp _ _ _ _ _ _ _ hRk (of_decide_eq_true h1) hq,hsub.trans hsb,by omega⟩,S.sub _ _,by omega⟩
 refine kE (xte (xte (xbe ?_)))
 have hh:=S.it (dmI b h rd m1 wr1 r1)
 have hnw:=S.itNew (dmI b h rd m1 wr1 r1) rfl
 have hst:Stable (fun k=>(dmI b h rd m1 wr1 r1).foot k∨Mr k) _ (AllI m1.seen):=(S.wd.facts (AllI m1.seen) (by simp)).less fun k _ hk=>hk.elim (fun h1=>⟨dmI b h rd m1 wr1 r1,by simp,h1⟩) (fun h1=>⟨ext Mr,by simp,h1⟩)
 exact end0 S (fun _=>⟨rfl,m1,wr1,r1,⟨k,hRk,.inr (of_decide_eq_false h1)⟩,hsub,hh,hnw,hst⟩)
 refine gF S ?_;clear S;intro a S;(iterate 5 (refine gF S ?_;clear S;intro a S));refine sq S ?_;clear S;intro a S;refine kN (xtn ?_);refine c_condF S ?_;refine kE (xte (xte (xbe ?_)))
 have hh:=S.it (dmI b h rd m1 wr1 r1)
 have hnw:=S.itNew (dmI b h rd m1 wr1 r1) rfl
 have hst:Stable (fun k=>(dmI b h rd m1 wr1 r1).foot k∨Mr k) _ (AllI m1.seen):=(S.wd.facts (AllI m1.seen) (by simp)).less fun k _ hk=>hk.elim (fun h1=>⟨dmI b h rd m1 wr1 r1,by simp,h1⟩) (fun h1=>⟨ext Mr,by simp,h1⟩)
 exact end0 S (fun _=>⟨rfl,m1,wr1,r1,⟨k,hRk,.inl (by have:=of_decide_eq_false hs1g;omega)⟩,hsub,hh,hnw,hst⟩)
mutual
def smallT:Term→Int→Term
 | .mk k u n s ks,d=>.mk k u n (s.take (min s.length 65)) (smallL ks 0 d)
def smallL:List Term→Nat→Int→List Term
 | [],_,_=>[]
 | t::ts,i,d=>if i < 3∧0 < d then smallT t (d - 1)::smallL ts (i+1) d else smallL ts (i+1) d
end
theorem small_c (N:Nat):∀ (t:LTerm) (d:Int) (M:Nat→Prop) (w0:World),SizeOf.sizeOf t < N→-1000≤d→d≤1000→(∀ k,M k→k < w0.heap.size)→Stable M w0 (LtF t)→
  Ret Tryz.prog 105 [vL t,.int .i64 d] w0 (fun _=>False) fun v w'=>IsT M w' v (smallT t.t d):=by
 induction N with
 | zero=>intro t _ _ _ h;exact absurd h (Nat.not_lt_zero _)
 | succ N ih=>
 intro t d M w0 hN hd1 hd2 hM hf
 have hlen:=LTerm.len_le hf
 have hL:LeC (min t.text.length 65) t.text.length:=⟨Nat.min_le_left _ _⟩
 refine enter Tryz.func105 rfl rfl (Wd.beginM (M:=M) (fs:=[LtF t]) hM (by simpa using hf)) (fun a S=>?_)
 simp only[Tryz.ntmps105,qqA,qqB,Nat.reduceAdd,Nat.reduceSub,qqC,qqD,qqE,qqF]at S
 refine kS (kR ?_);refine sa S ?_;clear S;intro b2 a w S;refine sa S ?_;clear S;intro b4 a w S;refine kN (xtn (kS (kR ?_)));(iterate 8 (refine sq S ?_;clear S;intro a S));refine sw S ?_;clear S;intro a w S;refine kN (xtn (kS (kR (sq S ?_))));clear S;intro a S;refine kN (xtn (kS (kS (kR ?_))));(iterate 4 (refine sq S ?_;clear S;intro a S));refine kN ?_;refine xtn (kB ?_)
 refine c_fore4 S (fun(k:Nat) (zs:List LTerm) (p5:Option Addr) (c5:Nat) uu=>[(5,.slice p5 zs.length c5),(0,uu 6),(0,uu 7),(11,.int .i64 (k:Nat)),(0,uu 20),(0,uu 21),(0,uu 22),(0,uu 23),(0,uu 24),(0,uu 25),(0,uu 26),(0,uu 27),(0,uu 28),(0,uu 29),(0,uu 30),(0,uu 31),(0,uu 32),(0,uu 33),(0,uu 34),(0,uu 35),(0,uu 36),(0,uu 37)]) (fun(k:Nat) (zs:List LTerm) (p5:Option Addr) (c5:Nat)=>[Wk.row 43 5 p5 zs.length c5 (encL zs),Wk.box b4 43 [.int .i64 0,.int .i64 0,.int .i64 0,.string ⟨#[]⟩,.slice none 0 0],Wk.box b2 43 [.int .i64 t.kind,.int .i64 t.user,.int .i64 t.num,str (t.text.take (min t.text.length 65)),.slice t.p t.kids.length t.cap],ext M]) (fun(k:Nat) (zs:List LTerm) (p5:Option Addr) (c5:Nat)=>[AllL zs,LtF t]) (fun(k:Nat) (zs:List LTerm) (p5:Option Addr) (c5:Nat)=>k≤t.kids.length∧zs.length≤3∧zs.length≤k∧zs.map LTerm.t++smallL ((t.kids.drop k).map LTerm.t) k d=smallL (t.kids.map LTerm.t) 0 d) (fun(k:Nat) (zs:List LTerm) (p5:Option Addr) (c5:Nat)=>t.kids.length - k) (0) ([]) (none) (0) ?_ S.uu ?_ ?_
 ·exact ⟨Nat.zero_le _,by simp,Nat.le_refl _,rfl⟩
 ·rw[List.drop_zero]at S
  replace S:=S.addNil 43 5
  replace S:=S.add (Φ:=AllL []) (fun _ _ _ hx=>by cases hx)
  rw[show Wk.row 43 5 none 0 0 []=Wk.row 43 5 none 0 0 (encL ([]:List LTerm)) from rfl]at S
  exact S.sub _ _
 ·clear S;rintro k zs p5 c5 uu a w ⟨hk,hz3,hzk,hrel⟩ S
  refine kS (kR (sq S ?_));clear S;intro a S;refine kN (xtn (kS ?_))
  refine kC S (fun h4=>?_) (fun h4=>?_)
  ·refine kK (xtn (kS (kB (kS ?_))))
   have hkl:k < t.kids.length:=by have:=of_decide_eq_true h4;omega
   have hK:KLt k t.kids.length:=⟨hkl⟩
   rw[nth_drop hkl,List.map_cons,smallL]at hrel
   refine kR ?_;(iterate 3 (refine sq S ?_;clear S;intro a S));refine sa S ?_;clear S;intro b7 a w S;refine sq S ?_;clear S;intro a S;refine sw S ?_;clear S;intro a w S;refine kN (xtn (kS (kR ?_)));(iterate 3 (refine sq S ?_;clear S;intro a S));(iterate 2 (refine gQ S ?_;clear S;intro a S));refine sq S ?_;clear S;intro a S;refine kN (xtn ?_)
   refine kC S (fun h6=>?_) (fun h6=>?_)
   ·refine kR ?_;(iterate 3 (refine sq S ?_;clear S;intro a S))
    have h6':(k:Int) < 3∧0 < d:=by simpa using h6
    refine sq S ?_;clear S;intro a S
    rw[w64 (d - 1) (by omega) (by omega)]at S
    refine sr S (ih (nthL t.kids k) (d - 1) _ w (by have:=LTerm.kid_lt (nth_mem hkl);omega) (by omega) (by omega) (foots_lt S) (kid_st (S.t t) (nth_mem hkl))) ?_;clear S;rintro _ a w ⟨z,rfl,hz,hzf⟩ S
    replace S:=S.add (Φ:=LtF z) hzf
    have hA1:Stable _ _ (AllL zs):=S.wd.facts (AllL zs) (by simp)
    have hA2:=S.t z
    replace S:=S.add (Φ:=AllL (zs++[z])) (fun w' hw' x hx=>by
     rcases List.mem_append.1 hx with h | h
     ·exact hA1 w' hw' x h
     ·rw[List.mem_singleton.1 h];exact hA2 w' hw')
    refine sn S ?_;clear S;intro b35 a w S
    refine sap S (by simp[maxLen];omega) (by omega) ?_;clear S;rintro p7 c7 a w - S
    rw[show encL zs++[Value.int .i64 z.kind,.int .i64 z.user,.int .i64 z.num,str z.text,.slice z.p z.kids.length z.cap]=encL (zs++[z]) from by rw[encL_append];rfl,show zs.length+1=(zs++[z]).length from by simp]at S
    refine sq S ?_;clear S;intro a S;refine kN (xbn (xtn (kR ?_)));(iterate 2 (refine sq S ?_;clear S;intro a S));refine kN (xtn ?_)
    rw[if_pos (show k < 3∧0 < d by omega)]at hrel
    rw[w64 ((k:Int)+1) (by omega) (by omega)]at S
    refine ⟨k+1,zs++[z],p7,c7,S.uu,⟨hkl,by simp;omega,by simp;omega,?_⟩,S.sub _ _,by omega⟩
    rw[List.map_append,List.append_assoc,←hrel]
    show _++(z.t::_)=_
    rw[hz];rfl
   ·refine kK (xbn (xtn (kR ?_)));(iterate 2 (refine sq S ?_;clear S;intro a S));refine kN (xtn ?_)
    have h6':¬(k < 3∧0 < d):=fun h=>by
     have:(decide ((k:Int) < 3)&&decide (0 < d))=true:=by rw[decide_eq_true (show (k:Int) < 3 by omega),decide_eq_true h.2];rfl
     rw[this]at h6;cases h6
    rw[if_neg h6']at hrel
    rw[w64 ((k:Int)+1) (by omega) (by omega)]at S
    exact ⟨k+1,zs,p5,c5,S.uu,⟨hkl,hz3,by omega,hrel⟩,S.sub _ _,by omega⟩
  ·refine kE (xte (xte (xbe (xtn (kS (kR ?_))))));(iterate 2 (refine sq S ?_;clear S;intro a S));refine sw S ?_;clear S;intro a w S;refine kN (xtn (kS (kR (sq S ?_))));clear S;intro a S;refine sw S ?_;clear S;intro a w S;refine kN (xtn (kT ?_))
   have hk2:t.kids.length≤k:=by have:=of_decide_eq_false h4;omega
   rw[List.drop_of_length_le hk2,List.map_nil,smallL,List.append_nil]at hrel
   have hrow:=S.row p5 zs.length
   have hall:Stable _ _ (AllL zs):=S.wd.facts (AllL zs) (by simp)
   have hap:∀ ad,p5=some ad→¬M ad.block:=fun ad had hm=>St.apart2 S (Wk.row 43 5 p5 zs.length c5 (encL zs)) (ext M) ad.block ⟨ad,had,rfl⟩ hm
   have hkids:Stable M _ (AllL zs):=hall.less fun k _ hm=>⟨ext M,by simp,hm⟩
   have hls:=ls_of_own hrow (fun x hx=>AllL.get hkids hx) hap
   refine end1 S (fun _=>⟨.mk t.kind t.user t.num (t.text.take (min t.text.length 65)) p5 c5 zs,rfl,?_,fun w' hw'=>?_⟩)
   ·rw[t.t_eq,smallT,←hrel];exact LTerm.t_eq _
   ·exact LtIn.iff.2 ⟨own_le hrow,own_capT hrow,hls w' hw'⟩
def cutN (n:Nat) (x:LMark):LMark:=⟨x.key.take (min x.key.length n),x.ver⟩
def smallS (s:PSeen):PSeen:=⟨s.user,s.cnt,smallT s.root 10⟩
def shortP (m:PMem):PMem:=⟨m.user,m.leaf,m.counter,m.num,(m.seeds.take 7).map (cutN 25),(m.vers.take 17).map (cutN 65),(m.seen.take 8).map smallS⟩
theorem cut_len {n:Nat} {xs:List LMark} (k:Nat):∀ x∈(xs.take k).map (cutN n),x.key.length≤n:=by
 intro x hx
 obtain ⟨y,-,rfl⟩:=List.mem_map.1 hx
 rw[cutN];simp only[List.length_take];omega
theorem take_snoc {α β:Type} [Lay α] {xs:List α} {k:Nat} (h:k < xs.length) (f:α→β):(xs.take k).map f++[f (nthG xs k)]=(xs.take (k+1)).map f:=by
 rw[List.take_add_one,nthG_get h];simp
structure BigM (m:LMem):Prop where
 seeds:m.seeds.length≤9223372036854775807
 vers:m.vers.length≤9223372036854775807
 seen:m.seen.length≤9223372036854775807
def ShortO (M:Nat→Prop) (p:PMem) (v:Value) (w0 w:World):Prop:=∃ x:LMem,v=vMem x∧x.m=p∧FitM x∧w.ownsRow 0 177 2 (.slice x.vp x.vers.length x.vc) x.vers.length (encL x.vers)∧(∀ ad,x.vp=some ad→w0.heap.size≤ad.block∧¬M ad.block)∧
 Stable (fun k=>M k∨∃ ad,x.vp=some ad∧k=ad.block) w (GlF x.sp x.seeds)∧Stable (fun k=>M k∨∃ ad,x.vp=some ad∧k=ad.block) w (GlF x.ep x.seen)
set_option maxHeartbeats 4000000 in
theorem short_o (m:LMem) (hl:BigM m) (M:Nat→Prop) (w0:World) (hM:∀ k,M k→k < w0.heap.size) (hf:Stable M w0 (MemF m)):Ret Tryz.prog 34 [vMem m] w0 (fun _=>False) fun v w'=>ShortO M (shortP m.m) v w0 w':=by
 have hl1:=hl.seeds
 have hl2:=hl.vers
 have hl3:=hl.seen
 refine enter Tryz.func34 rfl rfl (Wd.beginM (M:=M) (fs:=[GlF m.sp m.seeds,GlF m.vp m.vers,GlF m.ep m.seen]) hM (by simp;exact ⟨hf.imp fun _ h=>h.1,hf.imp fun _ h=>h.2.1,hf.imp fun _ h=>h.2.2⟩)) (fun a S=>?_)
 simp only[Tryz.ntmps34,qqA,qqB,Nat.reduceAdd,Nat.reduceSub,qqC,qqD,qqE,qqF]at S
 refine kS (kR ?_);refine sa S ?_;clear S;intro b1 a w S;refine sa S ?_;clear S;intro b2 a w S;refine kN (xtn (kS (kR ?_)));refine sa S ?_;clear S;intro b3 a w S;refine kN (xtn (kS ?_));refine c_drawD [(0,true),(1,true),(2,true),(3,true),(4,true),(5,true),(6,true),(7,true),(8,true),(9,false),(10,true),(11,false),(12,true),(13,false),(14,true),(15,false)] [b3] S ?_;clear S;intro w S
 (iterate 9 (refine dq S ?_;clear S;intro a S));refine dl (sw S ?_);clear S;intro a w S;refine de S ?_;refine dq S ?_;clear S;intro a S;refine dl (sw S ?_);clear S;intro a w S;refine de S ?_;refine dq S ?_;clear S;intro a S;refine dl (sw S ?_);clear S;intro a w S;refine de S ?_;refine dq S ?_;clear S;intro a S;refine dl (sw S ?_);clear S;intro a w S;refine de S ?_;refine dn (xtn ?_)
 refine c_mrge3 S (fun(o1:List LMark) (p1:Option Addr) (c1:Nat) uu=>[(4,uu 4),(0,uu 5),(16,uu 22),(0,uu 23),(0,uu 24),(0,uu 25),(0,uu 26),(0,uu 27),(0,uu 28),(0,uu 29),(0,uu 30),(0,uu 31),(0,uu 32),(0,uu 33),(0,uu 34),(0,uu 35),(0,uu 36),(0,uu 37),(0,uu 38),(0,uu 39),(0,uu 40),(0,uu 41),(0,uu 42),(0,uu 43),(0,uu 44),(0,uu 45),(0,uu 46),(0,uu 47)]) (fun(o1:List LMark) (p1:Option Addr) (c1:Nat)=>[Wk.row 175 2 p1 o1.length c1 (encL o1),Wk.box b3 67 [.int .i64 m.user,.int .i64 m.leaf,.int .i64 m.counter,.int .i64 m.num,.slice p1 o1.length c1,.slice none 0 0,.slice none 0 0],Wk.box b2 67 [.int .i64 0,.int .i64 0,.int .i64 0,.int .i64 0,.slice none 0 0,.slice none 0 0,.slice none 0 0],Wk.box b1 67 (cMem m),ext M]) (fun(o1:List LMark) (p1:Option Addr) (c1:Nat)=>[GlF m.sp m.seeds,GlF m.vp m.vers,GlF m.ep m.seen]) (fun(o1:List LMark) (p1:Option Addr) (c1:Nat)=>o1=(m.seeds.take 7).map (cutN 25)) ?_ ?_
 refine kS (kR ?_);(iterate 4 (refine sq S ?_;clear S;intro a S));refine kN (xtn (kB ?_))
 refine c_fore4 S (fun(k:Nat) (o1:List LMark) (p1:Option Addr) (c1:Nat) uu=>[(4,uu 4),(0,uu 5),(19,.int .i64 (k:Nat)),(0,uu 26),(0,uu 27),(0,uu 28),(0,uu 29),(0,uu 30),(0,uu 31),(0,uu 32),(0,uu 33),(0,uu 34),(0,uu 35),(0,uu 36),(0,uu 37),(0,uu 38),(0,uu 39),(0,uu 40),(0,uu 41),(0,uu 42),(0,uu 43),(0,uu 44),(0,uu 45),(0,uu 46),(0,uu 47)]) (fun(k:Nat) (o1:List LMark) (p1:Option Addr) (c1:Nat)=>[Wk.row 175 2 p1 o1.length c1 (encL o1),Wk.box b3 67 [.int .i64 m.user,.int .i64 m.leaf,.int .i64 m.counter,.int .i64 m.num,.slice p1 o1.length c1,.slice none 0 0,.slice none 0 0],Wk.box b2 67 [.int .i64 0,.int .i64 0,.int .i64 0,.int .i64 0,.slice none 0 0,.slice none 0 0,.slice none 0 0],Wk.box b1 67 (cMem m),ext M]) (fun(k:Nat) (o1:List LMark) (p1:Option Addr) (c1:Nat)=>[GlF m.sp m.seeds,GlF m.vp m.vers,GlF m.ep m.seen]) (fun(k:Nat) (o1:List LMark) (p1:Option Addr) (c1:Nat)=>k≤7∧k≤m.seeds.length∧o1.length=k∧o1=(m.seeds.take k).map (cutN 25)) (fun(k:Nat) (o1:List LMark) (p1:Option Addr) (c1:Nat)=>m.seeds.length - k) (0) ([]) (none) (0) ?_ S.uu ?_ ?_
 exact ⟨Nat.zero_le _,Nat.zero_le _,rfl,rfl⟩
 replace S:=S.addNil 175 2
 rw[show Wk.row 175 2 none 0 0 []=Wk.row 175 2 none 0 0 (encL ([]:List LMark)) from rfl]at S
 exact S.sub _ _
 clear S;rintro k o1 p1 c1 uu a w ⟨hk8,hk,hkl0,hrel⟩ S
 refine kS (kR (sq S ?_));clear S;intro a S;refine kN (xtn (kS ?_))
 refine kC S (fun h4=>?_) (fun h4=>?_)
 refine kK (xtn (kS (kB (kS ?_))))
 have hkl:k < m.seeds.length:=by have:=of_decide_eq_true h4;omega
 have hK:KLt k m.seeds.length:=⟨hkl⟩
 have hL:LeC (min (nthG m.seeds k).key.length 25) (nthG m.seeds k).key.length:=⟨Nat.min_le_left _ _⟩
 refine kR ?_;(iterate 3 (refine sq S ?_;clear S;intro a S));refine sa S ?_;clear S;intro b5 a w S;refine sq S ?_;clear S;intro a S;refine sw S ?_;clear S;intro a w S;refine kN (xtn (kS (kS (kR ?_))));(iterate 2 (refine sq S ?_;clear S;intro a S));refine kN (xtn ?_)
 refine kC S (fun h6=>?_) (fun h6=>?_)
 refine kE (xte (xbx (xte (xte (xbe (xtn ?_))))))
 exact ⟨o1,p1,c1,S.uu,by rw[hrel,show k=7 from by have:=of_decide_eq_true h6;omega],S.sub _ _⟩
 refine kK (xtn ?_);refine c_drawL 15 [(0,true),(1,true),(2,true),(3,true),(4,true),(5,true),(6,true),(7,true),(8,true),(9,true),(10,true),(11,true),(12,false),(13,false),(14,true),(15,false)] [Wk.box b5 175 [str (nthG m.seeds k).key,.int .i64 (nthG m.seeds k).ver],Wk.box b3 67 [.int .i64 m.user,.int .i64 m.leaf,.int .i64 m.counter,.int .i64 m.num,.slice p1 o1.length c1,.slice none 0 0,.slice none 0 0]] S ?_;clear S;intro w S;(iterate 9 (refine dqL S ?_;clear S;intro a S))
 rw[List.drop_zero]at S
 (iterate 3 (refine dqL S ?_;clear S;intro a S));refine dlL (sn S ?_);clear S;intro b44 a w S
 replace S:=S.boxRow b44 2 1 rfl (by decide)
 rw[show [str ((nthG m.seeds k).key.take (min (nthG m.seeds k).key.length 25)),.int .i64 (nthG m.seeds k).ver]=encL [cutN 25 (nthG m.seeds k)] from rfl]at S
 refine deL S ?_;refine dlL ?_
 refine sap S (by simp[maxLen];omega) (by omega) ?_;clear S;rintro p7 c7 a w - S
 rw[←encL_append,show o1.length+1=(o1++[cutN 25 (nthG m.seeds k)]).length from by simp]at S
 refine deL S ?_;refine dqL S ?_;clear S;intro a S;refine dlL (sw S ?_);clear S;intro a w S;refine dzL (xbn (xtn (kR ?_)));(iterate 2 (refine sq S ?_;clear S;intro a S));refine kN (xtn ?_)
 rw[w64 ((k:Int)+1) (by omega) (by omega)]at S
 refine ⟨k+1,o1++[cutN 25 (nthG m.seeds k)],p7,c7,S.uu,⟨by have:=of_decide_eq_false h6;omega,hkl,by simp;omega,by rw[hrel];exact take_snoc hkl _⟩,S.sub _ _,by omega⟩
 refine kE (xte (xte (xbe (xtn ?_))))
 have hkl:m.seeds.length≤k:=by have:=of_decide_eq_false h4;omega
 exact ⟨o1,p1,c1,S.uu,by rw[hrel,List.take_of_length_le hkl,List.take_of_length_le (by omega)],S.sub _ _⟩
 clear S;rintro o1 p1 c1 uu a w ho1 S
 refine c_mrge3 S (fun(o2:List LMark) (p2:Option Addr) (c2:Nat) uu=>[(6,uu 6),(0,uu 7),(40,uu 48),(0,uu 49),(0,uu 50),(0,uu 51),(0,uu 52),(0,uu 53),(0,uu 54),(0,uu 55),(0,uu 56),(0,uu 57),(0,uu 58),(0,uu 59),(0,uu 60),(0,uu 61),(0,uu 62),(0,uu 63),(0,uu 64),(0,uu 65),(0,uu 66),(0,uu 67),(0,uu 68),(0,uu 69),(0,uu 70),(0,uu 71),(0,uu 72),(0,uu 73)]) (fun(o2:List LMark) (p2:Option Addr) (c2:Nat)=>[Wk.row 177 2 p2 o2.length c2 (encL o2),Wk.row 175 2 p1 o1.length c1 (encL o1),Wk.box b3 67 [.int .i64 m.user,.int .i64 m.leaf,.int .i64 m.counter,.int .i64 m.num,.slice p1 o1.length c1,.slice p2 o2.length c2,.slice none 0 0],Wk.box b2 67 [.int .i64 0,.int .i64 0,.int .i64 0,.int .i64 0,.slice none 0 0,.slice none 0 0,.slice none 0 0],Wk.box b1 67 (cMem m),ext M]) (fun(o2:List LMark) (p2:Option Addr) (c2:Nat)=>[GlF m.sp m.seeds,GlF m.vp m.vers,GlF m.ep m.seen]) (fun(o2:List LMark) (p2:Option Addr) (c2:Nat)=>o2=(m.vers.take 17).map (cutN 65)) ?_ ?_
 refine kS (kR ?_);(iterate 4 (refine sq S ?_;clear S;intro a S));refine kN (xtn (kB ?_))
 refine c_fore4 S (fun(k:Nat) (o2:List LMark) (p2:Option Addr) (c2:Nat) uu=>[(6,uu 6),(0,uu 7),(43,.int .i64 (k:Nat)),(0,uu 52),(0,uu 53),(0,uu 54),(0,uu 55),(0,uu 56),(0,uu 57),(0,uu 58),(0,uu 59),(0,uu 60),(0,uu 61),(0,uu 62),(0,uu 63),(0,uu 64),(0,uu 65),(0,uu 66),(0,uu 67),(0,uu 68),(0,uu 69),(0,uu 70),(0,uu 71),(0,uu 72),(0,uu 73)]) (fun(k:Nat) (o2:List LMark) (p2:Option Addr) (c2:Nat)=>[Wk.row 177 2 p2 o2.length c2 (encL o2),Wk.row 175 2 p1 o1.length c1 (encL o1),Wk.box b3 67 [.int .i64 m.user,.int .i64 m.leaf,.int .i64 m.counter,.int .i64 m.num,.slice p1 o1.length c1,.slice p2 o2.length c2,.slice none 0 0],Wk.box b2 67 [.int .i64 0,.int .i64 0,.int .i64 0,.int .i64 0,.slice none 0 0,.slice none 0 0,.slice none 0 0],Wk.box b1 67 (cMem m),ext M]) (fun(k:Nat) (o2:List LMark) (p2:Option Addr) (c2:Nat)=>[GlF m.sp m.seeds,GlF m.vp m.vers,GlF m.ep m.seen]) (fun(k:Nat) (o2:List LMark) (p2:Option Addr) (c2:Nat)=>k≤17∧k≤m.vers.length∧o2.length=k∧o2=(m.vers.take k).map (cutN 65)) (fun(k:Nat) (o2:List LMark) (p2:Option Addr) (c2:Nat)=>m.vers.length - k) (0) ([]) (none) (0) ?_ S.uu ?_ ?_
 exact ⟨Nat.zero_le _,Nat.zero_le _,rfl,rfl⟩
 replace S:=S.addNil 177 2
 rw[show Wk.row 177 2 none 0 0 []=Wk.row 177 2 none 0 0 (encL ([]:List LMark)) from rfl]at S
 exact S.sub _ _
 clear S;rintro k o2 p2 c2 uu a w ⟨hk8,hk,hkl0,hrel⟩ S
 refine kS (kR (sq S ?_));clear S;intro a S;refine kN (xtn (kS ?_))
 refine kC S (fun h10=>?_) (fun h10=>?_)
 refine kK (xtn (kS (kB (kS ?_))))
 have hkl:k < m.vers.length:=by have:=of_decide_eq_true h10;omega
 have hK:KLt k m.vers.length:=⟨hkl⟩
 have hL:LeC (min (nthG m.vers k).key.length 65) (nthG m.vers k).key.length:=⟨Nat.min_le_left _ _⟩
 refine kR ?_;(iterate 3 (refine sq S ?_;clear S;intro a S));refine sa S ?_;clear S;intro b7 a w S;refine sq S ?_;clear S;intro a S;refine sw S ?_;clear S;intro a w S;refine kN (xtn (kS (kS (kR ?_))));(iterate 2 (refine sq S ?_;clear S;intro a S));refine kN (xtn ?_)
 refine kC S (fun h12=>?_) (fun h12=>?_)
 refine kE (xte (xbx (xte (xte (xbe (xtn ?_))))))
 exact ⟨o2,p2,c2,S.uu,by rw[hrel,show k=17 from by have:=of_decide_eq_true h12;omega],S.sub _ _⟩
 refine kK (xtn ?_);refine c_drawL 15 [(0,true),(1,true),(2,true),(3,true),(4,true),(5,true),(6,true),(7,true),(8,true),(9,true),(10,true),(11,true),(12,false),(13,false),(14,true),(15,false)] [Wk.box b7 177 [str (nthG m.vers k).key,.int .i64 (nthG m.vers k).ver],Wk.box b3 67 [.int .i64 m.user,.int .i64 m.leaf,.int .i64 m.counter,.int .i64 m.num,.slice p1 o1.length c1,.slice p2 o2.length c2,.slice none 0 0]] S ?_;clear S;intro w S;(iterate 9 (refine dqL S ?_;clear S;intro a S))
 rw[List.drop_zero]at S
 (iterate 3 (refine dqL S ?_;clear S;intro a S));refine dlL (sn S ?_);clear S;intro b44 a w S
 replace S:=S.boxRow b44 2 1 rfl (by decide)
 rw[show [str ((nthG m.vers k).key.take (min (nthG m.vers k).key.length 65)),.int .i64 (nthG m.vers k).ver]=encL [cutN 65 (nthG m.vers k)] from rfl]at S
 refine deL S ?_;refine dlL ?_
 refine sap S (by simp[maxLen];omega) (by omega) ?_;clear S;rintro p7 c7 a w - S
 rw[←encL_append,show o2.length+1=(o2++[cutN 65 (nthG m.vers k)]).length from by simp]at S
 refine deL S ?_;refine dqL S ?_;clear S;intro a S;refine dlL (sw S ?_);clear S;intro a w S;refine dzL (xbn (xtn (kR ?_)));(iterate 2 (refine sq S ?_;clear S;intro a S));refine kN (xtn ?_)
 rw[w64 ((k:Int)+1) (by omega) (by omega)]at S
 refine ⟨k+1,o2++[cutN 65 (nthG m.vers k)],p7,c7,S.uu,⟨by have:=of_decide_eq_false h12;omega,hkl,by simp;omega,by rw[hrel];exact take_snoc hkl _⟩,S.sub _ _,by omega⟩
 refine kE (xte (xte (xbe (xtn ?_))))
 have hkl:m.vers.length≤k:=by have:=of_decide_eq_false h10;omega
 exact ⟨o2,p2,c2,S.uu,by rw[hrel,List.take_of_length_le hkl,List.take_of_length_le (by omega)],S.sub _ _⟩
 clear S;rintro o2 p2 c2 uu a w ho2 S
 refine c_mrge3 S (fun(o3:List LSeen) (p3:Option Addr) (c3:Nat) uu=>[(8,uu 8),(0,uu 9),(64,uu 74),(0,uu 75),(0,uu 76),(0,uu 77),(0,uu 78),(0,uu 79),(0,uu 80),(0,uu 81),(0,uu 82),(0,uu 83),(0,uu 84),(0,uu 85),(0,uu 86),(0,uu 87),(0,uu 88),(0,uu 89),(0,uu 90),(0,uu 91),(0,uu 92),(0,uu 93),(0,uu 94),(0,uu 95),(0,uu 96),(0,uu 97)]) (fun(o3:List LSeen) (p3:Option Addr) (c3:Nat)=>[Wk.row 179 7 p3 o3.length c3 (encL o3),Wk.row 177 2 p2 o2.length c2 (encL o2),Wk.row 175 2 p1 o1.length c1 (encL o1),Wk.box b3 67 [.int .i64 m.user,.int .i64 m.leaf,.int .i64 m.counter,.int .i64 m.num,.slice p1 o1.length c1,.slice p2 o2.length c2,.slice p3 o3.length c3],Wk.box b2 67 [.int .i64 0,.int .i64 0,.int .i64 0,.int .i64 0,.slice none 0 0,.slice none 0 0,.slice none 0 0],Wk.box b1 67 (cMem m),ext M]) (fun(o3:List LSeen) (p3:Option Addr) (c3:Nat)=>[AllI o3,GlF m.sp m.seeds,GlF m.vp m.vers,GlF m.ep m.seen]) (fun(o3:List LSeen) (p3:Option Addr) (c3:Nat)=>o3.map LSeen.s=(m.seen.take 8).map fun s=>smallS s.s) ?_ ?_
 refine kS (kR ?_);(iterate 4 (refine sq S ?_;clear S;intro a S));refine kN (xtn (kB ?_))
 refine c_fore4 S (fun(k:Nat) (o3:List LSeen) (p3:Option Addr) (c3:Nat) uu=>[(8,uu 8),(0,uu 9),(67,.int .i64 (k:Nat)),(0,uu 78),(0,uu 79),(0,uu 80),(0,uu 81),(0,uu 82),(0,uu 83),(0,uu 84),(0,uu 85),(0,uu 86),(0,uu 87),(0,uu 88),(0,uu 89),(0,uu 90),(0,uu 91),(0,uu 92),(0,uu 93),(0,uu 94),(0,uu 95),(0,uu 96),(0,uu 97)]) (fun(k:Nat) (o3:List LSeen) (p3:Option Addr) (c3:Nat)=>[Wk.row 179 7 p3 o3.length c3 (encL o3),Wk.row 177 2 p2 o2.length c2 (encL o2),Wk.row 175 2 p1 o1.length c1 (encL o1),Wk.box b3 67 [.int .i64 m.user,.int .i64 m.leaf,.int .i64 m.counter,.int .i64 m.num,.slice p1 o1.length c1,.slice p2 o2.length c2,.slice p3 o3.length c3],Wk.box b2 67 [.int .i64 0,.int .i64 0,.int .i64 0,.int .i64 0,.slice none 0 0,.slice none 0 0,.slice none 0 0],Wk.box b1 67 (cMem m),ext M]) (fun(k:Nat) (o3:List LSeen) (p3:Option Addr) (c3:Nat)=>[AllI o3,GlF m.sp m.seeds,GlF m.vp m.vers,GlF m.ep m.seen]) (fun(k:Nat) (o3:List LSeen) (p3:Option Addr) (c3:Nat)=>k≤8∧k≤m.seen.length∧o3.length=k∧o3.map LSeen.s=(m.seen.take k).map fun s=>smallS s.s) (fun(k:Nat) (o3:List LSeen) (p3:Option Addr) (c3:Nat)=>m.seen.length - k) (0) ([]) (none) (0) ?_ S.uu ?_ ?_
 exact ⟨Nat.zero_le _,Nat.zero_le _,rfl,rfl⟩
 replace S:=S.addNil 179 7
 rw[show Wk.row 179 7 none 0 0 []=Wk.row 179 7 none 0 0 (encL ([]:List LSeen)) from rfl]at S
 replace S:=S.add (Φ:=AllI ([]:List LSeen)) (fun _ _ _ hx=>by cases hx)
 exact S.sub _ _
 clear S;rintro k o3 p3 c3 uu a w ⟨hk8,hk,hkl0,hrel⟩ S
 refine kS (kR (sq S ?_));clear S;intro a S;refine kN (xtn (kS ?_))
 refine kC S (fun h16=>?_) (fun h16=>?_)
 refine kK (xtn (kS (kB (kS ?_))))
 have hkl:k < m.seen.length:=by have:=of_decide_eq_true h16;omega
 have hK:KLt k m.seen.length:=⟨hkl⟩
 refine kR ?_;(iterate 3 (refine sq S ?_;clear S;intro a S));refine sa S ?_;clear S;intro b9 a w S;refine sq S ?_;clear S;intro a S;refine sw S ?_;clear S;intro a w S;refine kN (xtn (kS (kS (kR ?_))));(iterate 2 (refine sq S ?_;clear S;intro a S));refine kN (xtn ?_)
 refine kC S (fun h18=>?_) (fun h18=>?_)
 refine kE (xte (xbx (xte (xte (xbe (xtn ?_))))))
 exact ⟨o3,p3,c3,S.uu,by rw[hrel,show k=8 from by have:=of_decide_eq_true h18;omega],S.sub _ _⟩
 refine kK (xtn ?_);refine c_drawL 13 [(0,true),(1,true),(2,true),(3,true),(4,true),(5,true),(6,true),(7,true),(8,false),(9,true),(10,false),(11,false),(12,true),(13,false)] [Wk.box b9 179 [.int .i64 (nthG m.seen k).user,.int .i64 (nthG m.seen k).cnt,.int .i64 (nthG m.seen k).root.kind,.int .i64 (nthG m.seen k).root.user,.int .i64 (nthG m.seen k).root.num,str (nthG m.seen k).root.text,.slice (nthG m.seen k).root.p (nthG m.seen k).root.kids.length (nthG m.seen k).root.cap],Wk.box b3 67 [.int .i64 m.user,.int .i64 m.leaf,.int .i64 m.counter,.int .i64 m.num,.slice p1 o1.length c1,.slice p2 o2.length c2,.slice p3 o3.length c3]] S ?_;clear S;intro w S
 (iterate 8 (refine dqL S ?_;clear S;intro a S));refine dlL ?_
 refine sr S (small_c _ (nthG m.seen k).root 10 _ w (Nat.lt_succ_self _) (by decide) (by decide) (foots_lt S) ((S.mem.fact (GlF m.ep m.seen)).imp fun _ h=>h.2 _ (nthG_mem hkl))) ?_;clear S;rintro _ a w ⟨z,rfl,hz,hzf⟩ S
 replace S:=S.add (Φ:=LtF z) hzf
 have hA1:Stable _ _ (AllI o3):=S.wd.facts (AllI o3) (by simp)
 have hA2:=S.t z
 replace S:=S.add (Φ:=AllI (o3++[(⟨(nthG m.seen k).user,(nthG m.seen k).cnt,z⟩:LSeen)])) (AllI.snoc (r:=(⟨(nthG m.seen k).user,(nthG m.seen k).cnt,z⟩:LSeen)) hA1 hA2)
 refine deL S ?_;refine dqL S ?_;clear S;intro a S;refine dlL (sn S ?_);clear S;intro b44 a w S
 replace S:=S.boxRow b44 7 1 rfl (by decide)
 rw[show [.int .i64 (nthG m.seen k).user,.int .i64 (nthG m.seen k).cnt,.int .i64 z.kind,.int .i64 z.user,.int .i64 z.num,str z.text,.slice z.p z.kids.length z.cap]=encL [(⟨(nthG m.seen k).user,(nthG m.seen k).cnt,z⟩:LSeen)] from rfl]at S
 refine deL S ?_;refine dlL ?_
 refine sap S (by simp[maxLen];omega) (by omega) ?_;clear S;rintro p7 c7 a w - S
 rw[←encL_append,show o3.length+1=(o3++[(⟨(nthG m.seen k).user,(nthG m.seen k).cnt,z⟩:LSeen)]).length from by simp]at S
 refine deL S ?_;refine dqL S ?_;clear S;intro a S;refine dlL (sw S ?_);clear S;intro a w S;refine dzL (xbn (xtn (kR ?_)));(iterate 2 (refine sq S ?_;clear S;intro a S));refine kN (xtn ?_)
 rw[w64 ((k:Int)+1) (by omega) (by omega)]at S
 refine ⟨k+1,o3++[⟨(nthG m.seen k).user,(nthG m.seen k).cnt,z⟩],p7,c7,S.uu,⟨by have:=of_decide_eq_false h18;omega,hkl,by simp;omega,?_⟩,S.sub _ _,by omega⟩
 rw[List.map_append,hrel,←take_snoc hkl]
 show _++[(⟨_,_,z.t⟩:PSeen)]=_
 rw[hz];rfl
 refine kE (xte (xte (xbe (xtn ?_))))
 have hkl:m.seen.length≤k:=by have:=of_decide_eq_false h16;omega
 exact ⟨o3,p3,c3,S.uu,by rw[hrel,List.take_of_length_le hkl,List.take_of_length_le (by omega)],S.sub _ _⟩
 clear S;rintro o3 p3 c3 uu a w ho3 S;refine kS (kR (sq S ?_));clear S;intro a S;refine sw S ?_;clear S;intro a w S;refine kN (xtn (kT ?_))
 have e3:o3.length≤8:=by
  have:=congrArg List.length ho3
  rw[List.length_map,List.length_map,List.length_take]at this;omega
 have e1:o1.length≤7:=by rw[ho1,List.length_map,List.length_take];omega
 have e2:o2.length≤17:=by rw[ho2,List.length_map,List.length_take];omega
 replace S:=S.rowToGl p3 o3 (e:=179) (sz:=7) (n:=o3.length) (c:=c3) (S.wd.facts (AllI o3) (by simp))
 replace S:=(S.front (Wk.row 175 2 p1 o1.length c1 (encL o1))).rowToGl p1 o1 (e:=175) (sz:=2) (n:=o1.length) (c:=c1) (fun _ _ _ _=>trivial)
 have hrow:=S.row p2 o2.length
 have hnew:=S.rowNew p2 o2.length
 have g1:Stable (fun k=>M k∨∃ ad,p2=some ad∧k=ad.block) _ (GlF p1 o1):=(S.wd.facts (GlF p1 o1) (by simp)).less fun k _ hk=>hk.elim (fun h=>⟨ext M,by simp,h⟩) (fun h=>⟨Wk.row 177 2 p2 o2.length c2 (encL o2),by simp,h⟩)
 have g3:Stable (fun k=>M k∨∃ ad,p2=some ad∧k=ad.block) _ (GlF p3 o3):=(S.wd.facts (GlF p3 o3) (by simp)).less fun k _ hk=>hk.elim (fun h=>⟨ext M,by simp,h⟩) (fun h=>⟨Wk.row 177 2 p2 o2.length c2 (encL o2),by simp,h⟩)
 have hap:∀ ad,p2=some ad→¬M ad.block:=fun ad had hm=>St.apart2 S (Wk.row 177 2 p2 o2.length c2 (encL o2)) (ext M) ad.block ⟨ad,had,rfl⟩ hm
 refine end1 S (fun _=>?_)
 refine ⟨⟨m.user,m.leaf,m.counter,m.num,p1,c1,o1,p2,c2,o2,p3,c3,o3⟩,rfl,?_,⟨by show o1.length≤1000;omega,by show o2.length≤1000;omega,by show o3.length≤1000;omega,fun x hx=>by have:=cut_len (n:=25) (xs:=m.seeds) 7 x (by rw[←ho1];exact hx);omega,fun x hx=>by have:=cut_len (n:=65) (xs:=m.vers) 17 x (by rw[←ho2];exact hx);omega⟩,hrow,fun ad h=>⟨(hnew ad h).elim (fun h=>h.elim) id,hap ad h⟩,g1,g3⟩
 show PMem.mk _ _ _ _ o1 o2 (ssP o3)=_
 rw[ssP,ho3,ho1,ho2,shortP,LMem.m]
 simp only[ssP,List.map_take,List.map_map]
 rfl
theorem short_c (m:LMem) (hl:BigM m) (M:Nat→Prop) (w0:World) (hM:∀ k,M k→k < w0.heap.size) (hf:Stable M w0 (MemF m)):Ret Tryz.prog 34 [vMem m] w0 (fun _=>False) fun v w'=>IsM M w' v (shortP m.m):=
 (short_o m hl M w0 hM hf).mono fun _v _w' ⟨x,h1,h2,h3,h4,h5,h6,h7⟩=>⟨x,h1,h2,h3,fun w2 hw2=>⟨h6.less (fun _ _ h=>.inl h) w2 hw2,gl_own h4 (fun _ _ _ _=>trivial) (fun ad h=>(h5 ad h).2) w2 hw2,h7.less (fun _ _ h=>.inl h) w2 hw2⟩⟩
theorem numM1 (c:UInt8):numN [c] 0=c.toNat:=by simp[numN]
def e1D (bs:List UInt8):=tkB 1 (bs,false)
def e2D (bs:List UInt8):=tkB 2 (e1D bs).2
def e3D (bs:List UInt8):=tkB 2 (e2D bs).2
def e4D (bs:List UInt8):=tkB 2 (e3D bs).2
def c1D (bs:List UInt8):=tkB 1 (e4D bs).2
def s1D (bs:List UInt8):=marksD (numN (c1D bs).1 0) (c1D bs).2
def c2D (bs:List UInt8):=tkB 1 (s1D bs).2
def s2D (bs:List UInt8):=marksD (numN (c2D bs).1 0) (c2D bs).2
def c3D (bs:List UInt8):=tkB 1 (s2D bs).2
def s3D (bs:List UInt8):=seensD (numN (c3D bs).1 0) (c3D bs).2
def memD (bs:List UInt8):PMem:=⟨(numN (e1D bs).1 0:Nat),(numN (e2D bs).1 0:Nat),(numN (e3D bs).1 0:Nat),(numN (e4D bs).1 0:Nat),(s1D bs).1,(s2D bs).1,(s3D bs).1⟩
def zeroM:PMem:=⟨0,0,0,0,[],[],[]⟩
def decM (bs:List UInt8):PMem × Int:=
 if (s3D bs).2.2.2=true then (zeroM,7) else
 if (s3D bs).2.1=false∨0 < (s3D bs).2.2.1.length∨memB (memD bs)=false then (zeroM,300) else (memD bs,0)
theorem two_back {n:Int} (h:0≤n∧n≤65535) (X:List UInt8):tkB 2 (twoB n++X,false)=(twoB n,(X,false))∧(numN (twoB n) 0:Int)=n:=by
 rw[twoB,wu16 n h.1 h.2]
 exact ⟨tkB_ok (be_len 2 n),be2_numD h⟩
theorem byte_back {n:Int} (h:0≤n∧n≤255) (X:List UInt8):tkB 1 (Wk.u8 n::X,false)=([Wk.u8 n],(X,false))∧(numN [Wk.u8 n] 0:Int)=n:=
 ⟨tkB_ok (k:=1) (l:=[Wk.u8 n]) rfl,by rw[numM1];exact u8_natD h⟩
structure MarkOk (m:LMark):Prop where
 key:m.key.length≤255
 ver:0≤m.ver∧m.ver≤65535
theorem mark_back {m:LMark} (h:MarkOk m) (X:List UInt8):markD (markE m++X,false)=(m,(X,false)):=by
 have hk:=u8_lenD h.key
 obtain ⟨t1,t2⟩:=two_back h.ver X
 have e1:tkB 1 (markE m++X,false)=([Wk.u8 (m.key.length:Int)],(m.key++(twoB m.ver++X),false)):=by
  rw[markE,List.append_assoc];exact tkB_ok (k:=1) (l:=[Wk.u8 (m.key.length:Int)]) rfl
 have e2:tkB (numN [Wk.u8 (m.key.length:Int)] 0) (m.key++(twoB m.ver++X),false)=(m.key,(twoB m.ver++X,false)):=tkB_ok (by rw[numM1,hk])
 rw[markD,e1];simp only
 rw[e2];simp only
 rw[t1,t2]
theorem marks_back:∀ (l:List LMark) (X:List UInt8),(∀ m∈l,MarkOk m)→marksD l.length (marksE l++X,false)=(l,(X,false))
 | [],X,_=>rfl
 | m::l,X,h=>by
  rw[qqA,marksD,if_neg (by simp),marksE,List.append_assoc,mark_back (h m (.head _))]
  simp only
  rw[marks_back l X fun x hx=>h x (.tail _ hx)]
structure SeenOk (s:PSeen):Prop where
 user:0≤s.user∧s.user≤255
 cnt:0≤s.cnt∧s.cnt≤65535
 root:checkF s.root=0
theorem be4_numN {n:Nat} (h:n < 4294967296):numN (be 4 (n:Int)) 0=n:=by
 have e:be 4 (n:Int)=[Wk.u8 ((n:Int).fdiv (2 ^ 24)),Wk.u8 ((n:Int).fdiv (2 ^ 16)),Wk.u8 ((n:Int).fdiv (2 ^ 8)),Wk.u8 ((n:Int).fdiv (2 ^ 0))]:=rfl
 have hb:∀ x:Nat,(Wk.u8 (x:Int)).toNat=x % 256:=fun x=>by
  rw[Wk.u8,UInt8.toNat_ofNat'];omega
 have d1:(n:Int).fdiv (2 ^ 24)=((n / 16777216:Nat):Int):=by rw[Int.fdiv_eq_ediv_of_nonneg _ (by decide)];rfl
 have d2:(n:Int).fdiv (2 ^ 16)=((n / 65536:Nat):Int):=by rw[Int.fdiv_eq_ediv_of_nonneg _ (by decide)];rfl
 have d3:(n:Int).fdiv (2 ^ 8)=((n / 256:Nat):Int):=by rw[Int.fdiv_eq_ediv_of_nonneg _ (by decide)];rfl
 have d4:(n:Int).fdiv (2 ^ 0)=((n / 1:Nat):Int):=by rw[Int.fdiv_eq_ediv_of_nonneg _ (by decide)];rfl
 rw[e,d1,d2,d3,d4]
 simp only[numN,List.foldl_cons,List.foldl_nil,hb]
 omega
theorem root_back {t:Term} (h:checkF t=0) (X:List UInt8):rootX (be 4 (IntKind.u32.wrap ((nameF t).length:Int))++nameF t++X,false)=(t,true,(X,false)):=by
 have hl:=nameF_short t
 obtain ⟨left,hd⟩:=dec_name h
 have e1:tkB 4 (be 4 (IntKind.u32.wrap ((nameF t).length:Int))++nameF t++X,false)=(be 4 ((nameF t).length:Int),(nameF t++X,false)):=by
  rw[wu32 _ (by omega) (by omega),List.append_assoc];exact tkB_ok (be_len 4 _)
 have e2:tkB (numN (be 4 ((nameF t).length:Int)) 0) (nameF t++X,false)=(nameF t,(X,false)):=tkB_ok (be4_numN (by omega)).symm
 rw[rootX,e1];simp only
 rw[e2];simp only
 rw[if_neg (by simp),rootD,hd];rfl
theorem seen_back {s:PSeen} (h:SeenOk s) (X:List UInt8):seenD (seenE s++X,false)=(s,true,(X,false)):=by
 obtain ⟨b1,b2⟩:=byte_back h.user (twoB s.cnt++(be 4 (IntKind.u32.wrap ((nameF s.root).length:Int))++nameF s.root++X))
 obtain ⟨t1,t2⟩:=two_back h.cnt (be 4 (IntKind.u32.wrap ((nameF s.root).length:Int))++nameF s.root++X)
 have e:seenE s++X=Wk.u8 s.user::(twoB s.cnt++(be 4 (IntKind.u32.wrap ((nameF s.root).length:Int))++nameF s.root++X)):=by rw[seenE];simp
 rw[e,seenD,b1];simp only
 rw[t1];simp only
 rw[root_back h.root X,b2,t2]
theorem seens_back:∀ (l:List PSeen) (X:List UInt8),(∀ s∈l,SeenOk s)→seensD l.length (seensE l++X,false)=(l,true,(X,false))
 | [],X,_=>rfl
 | s::l,X,h=>by
  rw[qqA,seensD,if_neg (by simp),seensE,List.append_assoc,seen_back (h s (.head _))]
  simp only
  rw[seens_back l X fun x hx=>h x (.tail _ hx)]
  rfl
theorem riseS_ok (u:Int):∀ (l:List LMark) (k:List UInt8),riseS u k l=true→∀ m∈l,MarkOk m
 | [],_,_,m,hm=>by cases hm
 | x::l,k,h,m,hm=>by
  rw[riseS]at h
  simp only[Bool.and_eq_true,decide_eq_true_eq,cntK,namedB]at h
  obtain ⟨⟨⟨⟨⟨hu,ho⟩,-⟩,hv⟩,⟨-,hv2⟩⟩,hr⟩:=h
  rcases List.mem_cons.1 hm with rfl | hm
  refine ⟨?_,by omega,hv2⟩
  have hu1:1≤u:=by simp only[knownF,Bool.and_eq_true,decide_eq_true_eq]at hu;exact hu.1
  unfold ownN at ho
  split at ho
  rename_i hc
  have:=hc.1
  simp only[nameK,Bool.and_eq_true,decide_eq_true_eq]at this
  omega
  omega
  exact riseS_ok u l x.key hr m hm
theorem riseM_ok:∀ (l:List LMark) (k:List UInt8),riseM k l=true→∀ m∈l,MarkOk m
 | [],_,_,m,hm=>by cases hm
 | x::l,k,h,m,hm=>by
  rw[riseM]at h
  simp only[Bool.and_eq_true,markB,decide_eq_true_eq]at h
  rcases List.mem_cons.1 hm with rfl | hm
  exact ⟨by omega,h.1.1.1.2,h.1.1.2⟩
  exact riseM_ok l x.key h.2 m hm
theorem seenB_ok:∀ (l:List PSeen) (k:Int),seenB k l=true→∀ s∈l,SeenOk s
 | [],_,_,s,hs=>by cases hs
 | x::l,k,h,s,hs=>by
  rw[seenB]at h
  simp only[Bool.and_eq_true,decide_eq_true_eq,knownF,cntS]at h
  rcases List.mem_cons.1 hs with rfl | hs
  exact ⟨by omega,by omega,h.1.2⟩
  exact seenB_ok l x.user h.2 s hs
theorem seenB_few:∀ (l:List PSeen) (k:Int),k≤6→seenB k l=true→(l.length:Int)≤6 - k
 | [],k,hk,_=>by simp;omega
 | x::l,k,hk,h=>by
  rw[seenB]at h
  simp only[Bool.and_eq_true,decide_eq_true_eq,knownF]at h
  have:=seenB_few l x.user (by omega) h.2
  rw[qqA];push_cast;omega
structure MemOk (m:PMem):Prop where
 user:1≤m.user∧m.user≤6
 leaf:0≤m.leaf∧m.leaf≤65535
 counter:0≤m.counter∧m.counter≤65535
 num:0≤m.num∧m.num≤65535
 seeds:m.seeds.length≤6∧∀ x∈m.seeds,MarkOk x
 vers:m.vers.length≤16∧∀ x∈m.vers,MarkOk x
 seen:m.seen.length≤6∧∀ s∈m.seen,SeenOk s
theorem memB_ok {m:PMem} (h:memB m=true):MemOk m:=by
 rw[memB,headB,okM]at h
 simp only[Bool.and_eq_true,decide_eq_true_eq,cntK]at h
 obtain ⟨⟨⟨⟨⟨⟨h1,h2⟩,h3,h4,h5⟩,h6⟩,h7⟩,h8,h9⟩,h10⟩:=h
 have:=seenB_few m.seen 0 (by omega) h10
 exact ⟨⟨h1,h2⟩,h3,h4,h5,⟨by omega,riseS_ok _ _ _ h7⟩,⟨by omega,riseM_ok _ _ h9⟩,⟨by omega,seenB_ok _ _ h10⟩⟩
theorem encM_shape (m:PMem):encM m=Wk.u8 m.user::(twoB m.leaf++(twoB m.counter++(twoB m.num++(Wk.u8 m.seeds.length::(marksE m.seeds++(Wk.u8 m.vers.length::(marksE m.vers++(Wk.u8 m.seen.length::seensE m.seen)))))))):=by
 rw[encM,tailE1,tailE2,tailE3];simp[twosB]
theorem parts_enc {m:PMem} (h:memB m=true):memD (encM m)=m∧(s3D (encM m)).2=(true,([],false)):=by
 have ok:=memB_ok h
 have q1:=(byte_back (n:=m.user) (by have:=ok.user;omega) (twoB m.leaf++(twoB m.counter++(twoB m.num++(Wk.u8 m.seeds.length::(marksE m.seeds++(Wk.u8 m.vers.length::(marksE m.vers++(Wk.u8 m.seen.length::seensE m.seen)))))))))
 have q2:=two_back ok.leaf (twoB m.counter++(twoB m.num++(Wk.u8 m.seeds.length::(marksE m.seeds++(Wk.u8 m.vers.length::(marksE m.vers++(Wk.u8 m.seen.length::seensE m.seen)))))))
 have q3:=two_back ok.counter (twoB m.num++(Wk.u8 m.seeds.length::(marksE m.seeds++(Wk.u8 m.vers.length::(marksE m.vers++(Wk.u8 m.seen.length::seensE m.seen))))))
 have q4:=two_back ok.num (Wk.u8 m.seeds.length::(marksE m.seeds++(Wk.u8 m.vers.length::(marksE m.vers++(Wk.u8 m.seen.length::seensE m.seen)))))
 have q5:=byte_back (n:=(m.seeds.length:Int)) (by have:=ok.seeds.1;omega) (marksE m.seeds++(Wk.u8 m.vers.length::(marksE m.vers++(Wk.u8 m.seen.length::seensE m.seen))))
 have q6:=marks_back m.seeds (Wk.u8 m.vers.length::(marksE m.vers++(Wk.u8 m.seen.length::seensE m.seen))) ok.seeds.2
 have q7:=byte_back (n:=(m.vers.length:Int)) (by have:=ok.vers.1;omega) (marksE m.vers++(Wk.u8 m.seen.length::seensE m.seen))
 have q8:=marks_back m.vers (Wk.u8 m.seen.length::seensE m.seen) ok.vers.2
 have q9:=byte_back (n:=(m.seen.length:Int)) (by have:=ok.seen.1;omega) (seensE m.seen)
 have q10:=seens_back m.seen [] ok.seen.2
 rw[List.append_nil]at q10
 have n1:numN [Wk.u8 (m.seeds.length:Int)] 0=m.seeds.length:=by have:=q5.2;omega
 have n2:numN [Wk.u8 (m.vers.length:Int)] 0=m.vers.length:=by have:=q7.2;omega
 have n3:numN [Wk.u8 (m.seen.length:Int)] 0=m.seen.length:=by have:=q9.2;omega
 have d1:=(congrArg (fun b=>tkB 1 (b,false)) (encM_shape m)).trans q1.1
 change e1D (encM m)=_ at d1
 have d2:=(congrArg (fun x:List UInt8 × RB=>tkB 2 x.2) d1).trans q2.1
 change e2D (encM m)=_ at d2
 have d3:=(congrArg (fun x:List UInt8 × RB=>tkB 2 x.2) d2).trans q3.1
 change e3D (encM m)=_ at d3
 have d4:=(congrArg (fun x:List UInt8 × RB=>tkB 2 x.2) d3).trans q4.1
 change e4D (encM m)=_ at d4
 have d5:=(congrArg (fun x:List UInt8 × RB=>tkB 1 x.2) d4).trans q5.1
 change c1D (encM m)=_ at d5
 have d6:=congrArg (fun x:List UInt8 × RB=>marksD (numN x.1 0) x.2) d5
 simp only at d6
 rw[n1,q6]at d6
 change s1D (encM m)=_ at d6
 have d7:=(congrArg (fun x:List LMark × RB=>tkB 1 x.2) d6).trans q7.1
 change c2D (encM m)=_ at d7
 have d8:=congrArg (fun x:List UInt8 × RB=>marksD (numN x.1 0) x.2) d7
 simp only at d8
 rw[n2,q8]at d8
 change s2D (encM m)=_ at d8
 have d9:=(congrArg (fun x:List LMark × RB=>tkB 1 x.2) d8).trans q9.1
 change c3D (encM m)=_ at d9
 have d10:=congrArg (fun x:List UInt8 × RB=>seensD (numN x.1 0) x.2) d9
 simp only at d10
 rw[n3,q10]at d10
 change s3D (encM m)=_ at d10
 refine ⟨?_,by rw[d10]⟩
 rw[memD,d1,d2,d3,d4,d6,d8,d10]
 simp only
 rw[q1.2,q2.2,q3.2,q4.2]
theorem decM_enc {m:PMem} (h:memB m=true):decM (encM m)=(m,0):=by
 obtain ⟨h1,h2⟩:=parts_enc h
 rw[decM,h2,if_neg (by simp),if_neg,h1]
 rintro (h3 | h3 | h3)
 cases h3
 simp at h3
 rw[h1,h]at h3;cases h3
structure LeftS (N:Nat) (X:RB) (u l c n:Int) (k:Nat) (m:LMem) (wr:Bool) (r:RS):Prop where
 wr:wr=false
 flat:m.user=u∧m.leaf=l∧m.counter=c∧m.num=n∧m.vers=[]∧m.seen=[]
 rel:marksD N X=(m.seeds++(marksD k r.ab).1,(marksD k r.ab).2)
 few:m.seeds.length+k≤255
 names:∀ x∈m.seeds,x.key.length≤255
theorem LeftS.next {N:Nat} {X:RB} {u l c n:Int} {k:Nat} {m m':LMem} {wr wr':Bool} {r r':RS} (h:LeftS N X u l c n (k+1) m wr r) (hw:r.why=0) (h1:wr'=wr) (h2:r'.ab=(markD r.ab).2) (h3:m'.m = { m.m with seeds:=m.seeds++[(markD r.ab).1] }) (h4:(markD r.ab).1.key.length≤255):LeftS N X u l c n k m' wr' r':=by
 have e1:m'.seeds=m.seeds++[(markD r.ab).1]:=congrArg PMem.seeds h3
 have e2:m'.vers=m.vers:=congrArg PMem.vers h3
 have e3:ssP m'.seen=ssP m.seen:=congrArg PMem.seen h3
 have hf:r.ab.2=false:=by show (!decide (r.why=0))=false;rw[hw];rfl
 refine ⟨h1.trans h.wr,⟨(congrArg PMem.user h3).trans h.flat.1,(congrArg PMem.leaf h3).trans h.flat.2.1,(congrArg PMem.counter h3).trans h.flat.2.2.1,(congrArg PMem.num h3).trans h.flat.2.2.2.1,e2.trans h.flat.2.2.2.2.1,?_⟩,?_,?_,fun x hx=>?_⟩
 ·rw[h.flat.2.2.2.2.2]at e3
  exact List.map_eq_nil_iff.1 e3
 ·rw[h.rel,marksD,if_neg (by rw[hf];simp),e1,h2];simp
 ·have:=h.few;rw[e1,List.length_append];simp;omega
 ·rw[e1]at hx
  rcases List.mem_append.1 hx with h5 | h5
  ·exact h.names x h5
  ·rw[List.mem_singleton.1 h5];exact h4
theorem marksD_end {k:Nat} {r:RS} (h:k=0∨r.why≠0):marksD k r.ab=([],r.ab):=by
 rcases h with rfl | h
 rfl
 cases k with
 | zero=>rfl
 | succ k=>rw[marksD,if_pos (RS.ab_why.2 h)]
theorem seensD_end {k:Nat} {r:RS} (h:k=0∨r.why≠0):seensD k r.ab=([],true,r.ab):=by
 rcases h with rfl | h
 rfl
 cases k with
 | zero=>rfl
 | succ k=>rw[seensD,if_pos (RS.ab_why.2 h)]
theorem markD_key (r:RS):(markD r.ab).1.key.length≤255:=by rw[mark_ab];exact textS_len r
structure LeftV (N:Nat) (X:RB) (u l c n:Int) (ss:List LMark) (k:Nat) (m:LMem) (wr:Bool) (r:RS):Prop where
 wr:wr=false
 flat:m.user=u∧m.leaf=l∧m.counter=c∧m.num=n∧m.seeds=ss∧m.seen=[]
 rel:marksD N X=(m.vers++(marksD k r.ab).1,(marksD k r.ab).2)
 few:m.vers.length+k≤255
 names:∀ x∈m.vers,x.key.length≤255
theorem LeftV.next {N:Nat} {X:RB} {u l c n:Int} {ss:List LMark} {k:Nat} {m m':LMem} {wr wr':Bool} {r r':RS} (h:LeftV N X u l c n ss (k+1) m wr r) (hw:r.why=0) (h1:wr'=wr) (h2:r'.ab=(markD r.ab).2) (h3:m'.m = { m.m with vers:=m.vers++[(markD r.ab).1] }) (h4:(markD r.ab).1.key.length≤255):LeftV N X u l c n ss k m' wr' r':=by
 have e1:m'.vers=m.vers++[(markD r.ab).1]:=congrArg PMem.vers h3
 have e2:m'.seeds=m.seeds:=congrArg PMem.seeds h3
 have e3:ssP m'.seen=ssP m.seen:=congrArg PMem.seen h3
 have hf:r.ab.2=false:=by show (!decide (r.why=0))=false;rw[hw];rfl
 refine ⟨h1.trans h.wr,⟨(congrArg PMem.user h3).trans h.flat.1,(congrArg PMem.leaf h3).trans h.flat.2.1,(congrArg PMem.counter h3).trans h.flat.2.2.1,(congrArg PMem.num h3).trans h.flat.2.2.2.1,e2.trans h.flat.2.2.2.2.1,?_⟩,?_,?_,fun x hx=>?_⟩
 ·rw[h.flat.2.2.2.2.2]at e3
  exact List.map_eq_nil_iff.1 e3
 ·rw[h.rel,marksD,if_neg (by rw[hf];simp),e1,h2];simp
 ·have:=h.few;rw[e1,List.length_append];simp;omega
 ·rw[e1]at hx
  rcases List.mem_append.1 hx with h5 | h5
  ·exact h.names x h5
  ·rw[List.mem_singleton.1 h5];exact h4
structure LeftE (N:Nat) (X:RB) (u l c n:Int) (ss vs:List LMark) (k:Nat) (m:LMem) (wr:Bool) (r:RS):Prop where
 flat:m.user=u∧m.leaf=l∧m.counter=c∧m.num=n∧m.seeds=ss∧m.vers=vs
 rel:seensD N X=(ssP m.seen++(seensD k r.ab).1,!wr&&(seensD k r.ab).2.1,(seensD k r.ab).2.2)
 few:m.seen.length+k≤255
theorem LeftE.next {N:Nat} {X:RB} {u l c n:Int} {ss vs:List LMark} {k:Nat} {m m':LMem} {wr wr':Bool} {r r':RS} (h:LeftE N X u l c n ss vs (k+1) m wr r) (hw:r.why=0) (h1:wr'=(wr||!(seenD r.ab).2.1)) (h2:r'.ab=(seenD r.ab).2.2) (h3:m'.m = { m.m with seen:=ssP m.seen++[(seenD r.ab).1] }):LeftE N X u l c n ss vs k m' wr' r':=by
 have e1:ssP m'.seen=ssP m.seen++[(seenD r.ab).1]:=congrArg PMem.seen h3
 have hf:r.ab.2=false:=by show (!decide (r.why=0))=false;rw[hw];rfl
 have hl:=congrArg List.length e1
 rw[ssP,ssP,List.length_append,List.length_map,List.length_map,List.length_singleton]at hl
 refine ⟨⟨(congrArg PMem.user h3).trans h.flat.1,(congrArg PMem.leaf h3).trans h.flat.2.1,(congrArg PMem.counter h3).trans h.flat.2.2.1,(congrArg PMem.num h3).trans h.flat.2.2.2.1,(congrArg PMem.seeds h3).trans h.flat.2.2.2.2.1,(congrArg PMem.vers h3).trans h.flat.2.2.2.2.2⟩,?_,by have:=h.few;omega⟩
 rw[h.rel,seensD,if_neg (by rw[hf];simp),e1,h2,h1]
 simp only[List.append_assoc,List.singleton_append,Bool.not_or,Bool.not_not,Bool.and_assoc]
structure AllGood (bs:List UInt8):Prop where
 e1:(e1D bs).2.2=false
 e2:(e2D bs).2.2=false
 e3:(e3D bs).2.2=false
 e4:(e4D bs).2.2=false
 c1:(c1D bs).2.2=false
 s1:(s1D bs).2.2=false
 c2:(c2D bs).2.2=false
 s2:(s2D bs).2.2=false
 c3:(c3D bs).2.2=false
end Go.Proofs.YtdakncgafdnjfaaGreat