/- 3: a part of this claim's texts, joined: W4 CloseB SlicesV W5 OctetB RefSame RowRegress RowBase W6 PlainVault TreeA. -/
import Derived.Test.YtdakncgafdnjfaaGreatPk2
import Derived.Scope
import Derived.Lib.AppendZeros
import Derived.Maps.RangeRun
import Derived.Test.YtdakncgafdnjfaaGreatRows
namespace Go.Wk
open Go
def lpI (L D:Nat) (r:Loop):Item where
 foot:=fun k=>k=D∨k=L
 holds:=fun w=>w.heap[L]? = some (.loop r)∧w.heap[D]? = some (.deferred (some []))
def lpR (b:Loop) (s:LoopState) (p:Option Code):Loop:={ b with state:=s,pending:=p }
def marks (Ds:List Nat):Item where
 foot:=fun k=>k∈Ds
 holds:=fun w=>Ds.Nodup∧∀ k∈Ds,w.heap[k]? = some (.deferred (some []))
def dsOf (Ds:List Nat):List Deferred:=Ds.map fun D=>{ target:=.collected D,args:=#[] }
theorem lpI_loc (L D:Nat) (r:Loop) (w1 w2:World) (h:∀ k,(lpI L D r).foot k→w2.heap[k]? = w1.heap[k]?) (h1:(lpI L D r).holds w1):(lpI L D r).holds w2:=
 ⟨(h L (.inr rfl)).trans h1.1,(h D (.inl rfl)).trans h1.2⟩
theorem marks_loc (Ds:List Nat) (w1 w2:World) (h:∀ k,(marks Ds).foot k→w2.heap[k]? = w1.heap[k]?) (h1:(marks Ds).holds w1):(marks Ds).holds w2:=
 ⟨h1.1,fun k hk=>(h k hk).trans (h1.2 k hk)⟩
theorem Agree.putObj {M:Nat→Prop} (w:World) (g:Nat) (o:Obj) (hg:M g):Agree M w (w.putObj g o):=
 ⟨rfl,rfl,rfl,by simp,fun k _ hm=>World.putObj_heap_other (fun e=>hm (e▸hg))⟩
def IterRet {α:Type} (P:Program) (g:Nat) (lb:List Value) (w:World) (M:Nat→Prop) (E:α→List Value→World→World→Prop) (xs:List α):Prop:=
 ∀ (l:Nat) (J:Nat→World→Prop) (Jx:World→Prop),
  (∀ i x vs W0 W1,xs[i]? = some x→J i W0→Grow W0 W1→E x vs W0 W1→YieldAt (FW none) 0 P l vs.toArray W1 fun e W'=>
   Agree M w W'∧((e=.returned (.bool true)∧J (i+1) W')∨(e=.returned (.bool false)∧Jx W')))→
  J 0 w→
  CallsIn (FW none) 0 P g (.func (.yield l) #[] #[]::lb).toArray w fun e W'=>(∃ v,e=.returned v)∧∃ W0,Grow W0 W'∧(J xs.length W0∨Jx W0)
theorem Wd.rebase {w0 w1 w:World} {M0 M:Nat→Prop} {bs:List Item} {fs:List (World→Prop)} (h:Wd w1 M w bs fs) (ha:Agree M0 w0 w1) (hM:∀ k,M k→M0 k∨w0.heap.size≤k):Wd w0 M0 w bs fs where
 agree:=ha.trans' h.agree fun i hi hm=>(hM i hm).elim id (fun h=>absurd h (by omega))
 held:=h.held
 lt:=h.lt
 own:=fun it hi ho k hk=>(h.own it hi ho k hk).elim (hM k) (fun h1=>.inr (Nat.le_trans ha.size h1))
 apart:=h.apart
 facts:=h.facts
 loc:=h.loc
theorem Wd.join {w0 w:World} {M0:Nat→Prop} {Es Ds:List Nat} {bs bs':List Item} {fs:List (World→Prop)} (h:Wd w0 M0 w (marks Es::bs) fs) (hr:ReplI bs (marks Ds) (marks (Es++Ds)) bs'):Wd w0 M0 w bs' fs:=by
 obtain ⟨pre,post,rfl,rfl⟩:=hr.ex
 have h2:=h.perm (bs':=marks Es::marks Ds::(pre++post)) (.cons _ (List.perm_middle.symm))
 have hap:=List.pairwise_cons.1 h2.apart
 have hap2:=List.pairwise_cons.1 hap.2
 have he:(marks Es).holds w:=h2.held _ (by simp)
 have hd:(marks Ds).holds w:=h2.held _ (by simp)
 refine Wd.perm (bs:=marks (Es++Ds)::(pre++post)) ?_ List.perm_middle
 have hfeq:foots (marks (Es++Ds)::(pre++post))=foots (marks Es::marks Ds::(pre++post)):=by
  funext k
  simp only[foots,List.mem_cons,or_and_right,exists_or,exists_eq_left,marks,List.mem_append,or_assoc]
 refine ⟨h2.agree,?_,?_,?_,List.pairwise_cons.2 ⟨?_,hap2.2⟩,?_,?_⟩
 intro it hi
 rcases List.mem_cons.1 hi with rfl | hi
 exact ⟨List.nodup_append.2 ⟨he.1,hd.1,fun a ha b hb e=>hap.1 (marks Ds) (by simp) a ha (e▸hb)⟩,fun k hk=>(List.mem_append.1 hk).elim (he.2 k) (hd.2 k)⟩
 exact h2.held it (by simp only[List.mem_cons];exact .inr (.inr hi))
 intro it hi k hk
 rcases List.mem_cons.1 hi with rfl | hi
 exact (List.mem_append.1 hk).elim (fun q=>h2.lt (marks Es) (by simp) k q) (fun q=>h2.lt (marks Ds) (by simp) k q)
 exact h2.lt it (by simp only[List.mem_cons];exact .inr (.inr hi)) k hk
 intro it hi ho k hk
 rcases List.mem_cons.1 hi with rfl | hi
 exact (List.mem_append.1 hk).elim (fun q=>h2.own (marks Es) (by simp) rfl k q) (fun q=>h2.own (marks Ds) (by simp) rfl k q)
 exact h2.own it (by simp only[List.mem_cons];exact .inr (.inr hi)) ho k hk
 intro it hi k hk
 rcases List.mem_append.1 hk with q | q
 exact hap.1 it (by simp only[List.mem_cons];exact .inr hi) k q
 exact hap2.1 it hi k q
 intro Φ hΦ
 rw[hfeq];exact h2.facts Φ hΦ
 intro it hi
 rcases List.mem_cons.1 hi with rfl | hi
 exact marks_loc _
 exact h2.loc it (by simp only[List.mem_cons];exact .inr (.inr hi))
section
variable {P:Program} {Q:Exit→Act→World→Prop} {w0:World} {M0:Nat→Prop} {ds:List Deferred} {a:Act} {w:World} {l:List Value} {bs bs':List Item} {fs:List (World→Prop)}
def RoundEnd (P:Program) (L:Nat) (w1:World) (M:Nat→Prop) (J:World→Prop) (Jx:Code→World→Prop):Exit→Act→World→Prop:=
 roundPost P L fun e W'=>Agree M w1 W'∧((e=.returned (.bool true)∧J W')∨(e=.returned (.bool false)∧∃ c,Jx c W'))
theorem Wd.putLoop {L D:Nat} {r r':Loop} (h:Wd w0 M0 w bs fs) [hr:ReplI bs (lpI L D r) (lpI L D r') bs']:w.heap[L]? = some (.loop r)∧Wd w0 M0 (w.putObj L (.loop r')) bs' fs:=by
 obtain ⟨pre,post,rfl,rfl⟩:=hr.ex
 have hm:lpI L D r∈pre++lpI L D r::post:=by simp
 have hl:=h.held _ hm
 have hlt:L < w.heap.size:=(Array.getElem?_eq_some_iff.1 hl.1).1
 have hDL:D≠L:=fun e=>by have h1:=hl.1;have h2:=hl.2;rw[e,h1]at h2;cases h2
 exact ⟨hl.1,h.swap rfl (Agree.putObj w L _ (.inr rfl)) ⟨World.putObj_heap_same hlt,(World.putObj_heap_other hDL).trans hl.2⟩ (fun k hk=>.inl hk) (fun k hk=>by simpa using h.lt _ hm k hk) (lpI_loc _ _ _)⟩
theorem rend {L D:Nat} {b:Loop} {w1:World} {M:Nat→Prop} {J:World→Prop} {Jx:Code→World→Prop} (S:St w1 M ds a w l bs fs) (jump:Option Code)
  [hr:ReplI bs (lpI L D (lpR b .busy none)) (lpI L D (lpR b (if jump.isNone then .ready else .done) jump)) bs']
  (h:∀ W',Wd w1 M W' bs' fs→(jump=none→J W')∧(∀ c,jump=some c→Jx c W')):∃ v w',(Instr.endRound L jump).run P w=.ok v w'∧(Agree M w1 w'∧((Ending.returned v=.returned (.bool true)∧J w')∨(Ending.returned v=.returned (.bool false)∧∃ c,Jx c w'))):=by
 obtain ⟨hl,hwd⟩:=S.wd.putLoop (L:=L) (D:=D) (r:=lpR b .busy none) (r':=lpR b (if jump.isNone then .ready else .done) jump)
 obtain ⟨h1,h2⟩:=h _ hwd
 refine ⟨_,_,run_endRound (P:=P) jump hl,hwd.agree,?_⟩
 cases jump with
 | none=>exact .inl ⟨rfl,h1 rfl⟩
 | some c=>exact .inr ⟨rfl,c,h2 c rfl⟩
theorem rnext {L D:Nat} {b:Loop} {w1:World} {M:Nat→Prop} {J:World→Prop} {Jx:Code→World→Prop} (S:St w1 M ds a w l bs fs)
  [hr:ReplI bs (lpI L D (lpR b .busy none)) (lpI L D (lpR b .ready none)) bs'] (h:∀ W',Wd w1 M W' bs' fs→J W'):RoundEnd P L w1 M J Jx .normal a w:=
 rend (D:=D) (b:=b) S none (hr:=hr) fun W' hW=>⟨fun _=>h W' hW,fun _ h=>by cases h⟩
theorem rret {L D:Nat} {b:Loop} {w1:World} {M:Nat→Prop} {J:World→Prop} {Jx:Code→World→Prop} (S:St w1 M ds a w l bs fs)
  [hr:ReplI bs (lpI L D (lpR b .busy none)) (lpI L D (lpR b .done (some .ret))) bs'] (h:∀ W',Wd w1 M W' bs' fs→Jx .ret W'):RoundEnd P L w1 M J Jx .ret a w:=
 rend (D:=D) (b:=b) S (some .ret) (hr:=hr) fun W' hW=>⟨fun h=>by (cases h),fun _ h'=>by cases h';exact h W' hW⟩
theorem rexit {L D id:Nat} {b:Loop} {w1:World} {M:Nat→Prop} {J:World→Prop} {Jx:Code→World→Prop} (S:St w1 M ds a w l bs fs)
  [hr:ReplI bs (lpI L D (lpR b .busy none)) (lpI L D (lpR b .done (some (.exit id)))) bs'] (h:∀ W',Wd w1 M W' bs' fs→Jx (.exit id) W'):RoundEnd P L w1 M J Jx (.exit id) a w:=
 rend (D:=D) (b:=b) S (some (.exit id)) (hr:=hr) fun W' hW=>⟨fun h=>by (cases h),fun _ h'=>by cases h';exact h W' hW⟩
theorem rbegin {L D:Nat} {b:Loop} {w1:World} {M:Nat→Prop} {K:Act→World→Prop} (S:St w1 M ds a w l bs fs)
  [hr:ReplI bs (lpI L D (lpR b .ready none)) (lpI L D (lpR b .busy none)) bs']
  (h:∀ a w,St w1 M ds a w l bs' fs→K a w):∃ w2,(Instr.beginRound L).run P w=.ok () w2∧K a w2:=by
 obtain ⟨hl,hwd⟩:=S.wd.putLoop (L:=L) (D:=D) (r:=lpR b .ready none) (r':=lpR b .busy none)
 exact ⟨_,run_beginRound (P:=P) hl rfl,h _ _ ⟨S.slots,S.defers,hwd⟩⟩
theorem foldl_put (ps:List Nat) (vs:List Value):∀ (t:Array Value),(ps.toArray.zip vs.toArray).foldl (fun t (p,v)=>t.setIfInBounds p v) t=(ps.zip vs).foldl (fun t (x:Nat × Value)=>t.setIfInBounds x.1 x.2) t:=by
 intro t
 simp
class PutPs (l:List Value) (ps:List Nat) (vs:List Value) (l':outParam (List Value)):Prop where eq:(ps.zip vs).foldl (fun(t:Array Value) (x:Nat × Value)=>t.setIfInBounds x.1 x.2) l.toArray=l'.toArray∧vs.length=ps.length
instance putps0 {l:List Value} : PutPs l [] [] l:=⟨by simp⟩
instance putpsS {l l1 l':List Value} {p:Nat} {v:Value} {ps:List Nat} {vs:List Value} [h:PutAt l p v l1] [h':PutPs l1 ps vs l']:PutPs l (p::ps) (v::vs) l':=⟨by
 obtain ⟨h1,h2⟩:=h'.eq
 have:=h.eq
 simp[←h1,h2,←this]⟩
theorem c_range {α:Type} {g:Operand} {ps:List Nat} {assign body:Code} {gf:Nat} {lb:List Value} {Ds:List Nat} {κ κx:Type} {E:α→List Value→World→World→Prop} (xs:List α)
  (bsI:Nat→κ→List Item) (fsI:Nat→κ→List (World→Prop)) (φ:Nat→κ→Prop) (bsX:κx→List Item) (fsX:κx→List (World→Prop)) (ψ:Code→κx→Prop) (k0:κ)
  (S:St w0 M0 (dsOf Ds) a w l bs fs) [EntF P gf] [hg:Ev ⟨[],l⟩ g (.func (.func gf) #[] ⟨lb⟩)]
  (hit:∀ (M:Nat→Prop) (w1:World),(∀ k,M k→k < w1.heap.size)→(∀ Φ∈fs,Stable M w1 Φ)→(∀ it∈bs,it.own=false→Stable M w1 it.holds)→IterRet P gf lb w1 M E xs)
  (hk0:φ 0 k0∧bsI 0 k0=bs∧fsI 0 k0=fs)
  (hround:∀ (L D:Nat) (b:Loop) (M:Nat→Prop) (w1:World) (i:Nat) (x:α) (vs:List Value) (k:κ) (W0 W:World),xs[i]? = some x→φ i k→Wd w1 M W0 (lpI L D (lpR b .ready none)::bsI i k) (fsI i k)→Grow W0 W→E x vs W0 W→∃ lx,PutPs l ps vs lx∧∀ a,
   St w1 M [] a W lx (lpI L D (lpR b .ready none)::bsI i k) (fsI i k)→
   Wp P (some L) assign (Exit.then (fun a w=>∃ w2,(Instr.beginRound L).run P w=.ok () w2∧Wp P (some L) body (RoundEnd P L w1 M (fun W=>∃ k',φ (i+1) k'∧Wd w1 M W (lpI L D (lpR b .ready none)::bsI (i+1) k') (fsI (i+1) k'))
    (fun c W=>(c=.ret∨∃ id,c=.exit id)∧∃ k',ψ c k'∧Wd w1 M W (lpI L D (lpR b .done (some c))::bsX k') (fsX k'))) a w2) (fun _ _ _=>False)) a W)
  (hdone:∀ (D:Nat) (k:κ) (a:Act) (W:World),φ xs.length k→St w0 M0 (dsOf ([D]++Ds)) a W l (marks [D]::bsI xs.length k) (fsI xs.length k)→Q .normal a W)
  (hret:∀ (D:Nat) (k:κx) (a:Act) (W:World),ψ .ret k→St w0 M0 (dsOf ([D]++Ds)) a W l (marks [D]::bsX k) (fsX k)→Q .ret a W)
  (hexit:∀ (id D:Nat) (k:κx) (a:Act) (W:World),ψ (.exit id) k→St w0 M0 (dsOf ([D]++Ds)) a W l (marks [D]::bsX k) (fsX k)→Q (.exit id) a W) :
  Wp P none (.rangeFunc g ps.toArray assign body) Q a w:=by
 refine wpIn_rangeFunc ?_
 intro fn _
 obtain ⟨b,hb⟩:∃ b:Loop,b = { state:=.ready,pending:=none,fn:=fn,tmps:=a.tmps,params:=ps.toArray,assign:=assign,body:=body,defers:=w.heap.size }:=⟨_,rfl⟩
 obtain ⟨w1,hw1⟩:∃ w1,(w.alloc (.deferred (some []))).alloc (.loop b)=w1:=⟨_,rfl⟩
 have hL1:w1.heap[w.heap.size+1]? = some (.loop b):=by
  rw[←hw1];have:=World.alloc_heap_new (w.alloc (.deferred (some []))) (.loop b);rwa [World.size_alloc]at this
 have hD1:w1.heap[w.heap.size]? = some (.deferred (some [])):=by
  rw[←hw1];exact (RowKit.Below.heap_alloc _ _ _ (by simp)).trans (World.alloc_heap_new w _)
 have hsz:w1.heap.size=w.heap.size+2:=by rw[←hw1];simp
 have hgrow:Grow w w1:=by rw[←hw1];exact (Agree.alloc _ w _).trans (Agree.alloc _ _ _)
 have hlpr:lpR b .ready none=b:=by rw[hb];rfl
 obtain ⟨M,hM⟩:∃ M:Nat→Prop,M=fun k=>k=w.heap.size∨k=w.heap.size+1∨∃ it∈bs,it.own=true∧it.foot k:=⟨_,rfl⟩
 have hwd1:Wd w1 M w1 (lpI (w.heap.size+1) w.heap.size (lpR b .ready none)::bs) fs:=by
  have hst:=S.wd.step hgrow
  refine ⟨Agree.refl _ _,?_,?_,?_,List.pairwise_cons.2 ⟨?_,hst.apart⟩,?_,?_⟩
  ·intro it hi
   rcases List.mem_cons.1 hi with rfl | hi
   ·exact ⟨by rw[hlpr];exact hL1,hD1⟩
   ·exact hst.held it hi
  ·intro it hi k hk
   rcases List.mem_cons.1 hi with rfl | hi
   ·simp only[lpI]at hk;omega
   ·exact hst.lt it hi k hk
  ·intro it hi ho k hk
   rw[hM]
   rcases List.mem_cons.1 hi with rfl | hi
   ·exact .inl (hk.elim .inl (fun h=>.inr (.inl h)))
   ·exact .inl (.inr (.inr ⟨it,hi,ho,hk⟩))
  ·intro it hi k hk hk'
   have:=S.wd.lt it hi k hk'
   simp only[lpI]at hk;omega
  ·intro Φ hΦ w'' hw''
   refine S.wd.facts Φ hΦ w'' ((hgrow.mono (fun _ _ h=>h.elim)).trans' hw'' fun i hi ⟨it,hm,hk⟩=>?_)
   rcases List.mem_cons.1 hm with rfl | hm
   ·simp only[lpI]at hk;omega
   ·exact ⟨it,hm,hk⟩
  ·intro it hi
   rcases List.mem_cons.1 hi with rfl | hi
   ·exact lpI_loc _ _ _
   ·exact hst.loc it hi
 have hMlt:∀ k,M k→k < w1.heap.size:=fun k hk=>by
  rw[hM]at hk
  rcases hk with rfl | rfl | ⟨it,hi,_,hk⟩
  ·omega
  ·omega
  ·have:=S.wd.lt it hi k hk;omega
 have hMf:∀ Φ∈fs,Stable M w1 Φ:=fun Φ hΦ=>(hwd1.facts Φ hΦ).less fun k _ hk=>by
  rw[hM]at hk
  rcases hk with rfl | rfl | ⟨it,hi,_,hk⟩
  ·exact ⟨_,List.mem_cons_self ..,.inl rfl⟩
  ·exact ⟨_,List.mem_cons_self ..,.inr rfl⟩
  ·exact ⟨it,List.mem_cons_of_mem _ hi,hk⟩
 have hMr:∀ it∈bs,it.own=false→Stable M w1 it.holds:=fun it hi ho w2 hw2=>by
  have hst:=S.wd.step hgrow
  refine hst.loc it hi w1 w2 (fun k hk=>hw2.blk (hst.lt it hi k hk) fun hm=>?_) (hst.held it hi)
  rw[hM]at hm
  have hlt:=S.wd.lt it hi k hk
  rcases hm with rfl | rfl | ⟨it',hi',ho',hk'⟩
  ·omega
  ·omega
  ·exact apart_of S.wd.apart hi hi' (by rw[ho,ho'];simp) k hk hk'
 have hM0:∀ k,M k→M0 k∨w0.heap.size≤k:=fun k hk=>by
  have:=S.wd.agree.size
  rw[hM]at hk
  rcases hk with rfl | rfl | ⟨it,hi,ho,hk⟩
  ·exact .inr this
  ·exact .inr (by omega)
  ·exact S.wd.own it hi ho k hk
 have hag:Agree M0 w0 w1:=(S.wd.step hgrow).agree
 have hfin:∀ (r:Loop) (bs2:List Item) (fs2:List (World→Prop)) (W:World),r.state≠.busy→Wd w1 M W (lpI (w.heap.size+1) w.heap.size r::bs2) fs2→
   ∃ W',(Instr.endLoop (w.heap.size+1)).run P W=.ok r.pending W'∧St w0 M0 (dsOf ([w.heap.size]++Ds)) { a with defers:=[{ target:=.collected w.heap.size,args:=#[] }]++a.defers } W' l (marks [w.heap.size]::bs2) fs2:=fun r bs2 fs2 W hr hwd=>by
  have hl:W.heap[w.heap.size+1]? = some (.loop r)∧W.heap[w.heap.size]? = some (.deferred (some [])):=hwd.held _ (List.mem_cons_self ..)
  have hlt:w.heap.size+1 < W.heap.size:=(Array.getElem?_eq_some_iff.1 hl.1).1
  refine ⟨_,run_endLoop (P:=P) hl.1 hr,S.slots,by rw[S.defers];rfl,?_⟩
  refine (hwd.rebase hag hM0).swap (pre:=[]) (y:=marks [w.heap.size]) rfl (Agree.putObj W _ _ (.inr rfl)) ⟨by simp,fun k hk=>?_⟩ (fun k hk=>.inl ?_) (fun k hk=>?_) (marks_loc _)
  ·obtain rfl:=List.mem_singleton.1 hk
   exact (World.putObj_heap_other (by omega)).trans hl.2
  ·obtain rfl:=List.mem_singleton.1 hk;exact .inl rfl
  ·obtain rfl:=List.mem_singleton.1 hk;simp;omega
 have heg:=hg.eq (by simp) a.defers
 have hae:a.eval g=.func (.func gf) #[] ⟨lb⟩:=S.fr.ev
 refine ⟨w.heap.size+1,[{ target:=.collected w.heap.size,args:=#[] }],w1,{ target:=.fn (.func gf) ⟨lb⟩,args:=#[.func (.yield (w.heap.size+1)) #[] #[]] },w1,gf,
  (.func (.yield (w.heap.size+1)) #[] #[]::lb).toArray,w1,?_,?_,fun _ _=>trivial,?_,fun h=>(by cases h),?_⟩
 ·rw[←hw1,hb];exact run_enterLoop_outer _ _ _ _ _
 ·simp only[resolve,hae]
  simp[go_sem]
 ·have:=EntF.run (P:=P) (f:=gf) (.func (.yield (w.heap.size+1)) #[] #[]::lb).toArray w1
  simpa [invoke,go_sem] using this
 ·have hI:=hit M w1 hMlt hMf hMr
  refine CallsIn.mono (hI (w.heap.size+1) (fun i W=>∃ k,φ i k∧Wd w1 M W (lpI (w.heap.size+1) w.heap.size (lpR b .ready none)::bsI i k) (fsI i k))
   (fun W=>∃ c,(c=.ret∨∃ id,c=.exit id)∧∃ k,ψ c k∧Wd w1 M W (lpI (w.heap.size+1) w.heap.size (lpR b .done (some c))::bsX k) (fsX k)) ?_ ⟨k0,hk0.1,by rw[hk0.2.1,hk0.2.2];exact hwd1⟩) ?_
  ·rintro i x vs W0 W1 hx ⟨k,hφ,hwd⟩ hgr hE
   have hwdg:=hwd.step hgr
   have hl:W1.heap[w.heap.size+1]? = some (.loop (lpR b .ready none)):=(hwdg.held _ (List.mem_cons_self ..)).1
   obtain ⟨lx,hps,hround'⟩:=hround (w.heap.size+1) w.heap.size b M w1 i x vs k W0 W1 hx hφ hwd hgr hE
   have hp:=hps.eq
   have hy:=run_yield (P:=P) (args:=vs.toArray) hl (by rw[hb];simpa [lpR] using hp.2)
   refine ⟨_,_,_,_,hy,roundIn_of_wpIn trivial ?_⟩
   have e1:(((lpR b .ready none).params.zip vs.toArray).foldl (fun tmps (t,a)=>tmps.setIfInBounds t a) (lpR b .ready none).tmps)=lx.toArray:=by
    rw[hb]
    simp only[lpR,S.slots,foldl_put,hp.1]
   rw[e1]
   have:=hround' { tmps:=lx.toArray,defers:=[] } ⟨rfl,rfl,hwdg⟩
   simp only[hb,lpR]at this⊢
   refine wpIn_mono this ?_
   intro e a' w' he
   cases e with
   | normal=>
    obtain ⟨w2,h1,h2⟩:=he
    exact ⟨w2,h1,h2⟩
   | _=>exact he.elim
  ·rintro e W ⟨⟨v,rfl⟩,W0,hgr,⟨k,hφ,hwd⟩ | ⟨c,hc,k,hψ,hwd⟩⟩
   ·obtain ⟨W',h1,h2⟩:=hfin (lpR b .ready none) _ _ W (by simp[lpR]) (hwd.step hgr)
    exact ⟨none,W',h1,hdone _ k _ W' hφ h2⟩
   ·obtain ⟨W',h1,h2⟩:=hfin (lpR b .done (some c)) _ _ W (by simp[lpR]) (hwd.step hgr)
    refine ⟨some c,W',h1,?_⟩
    rcases hc with rfl | ⟨id,rfl⟩
    ·exact wpIn_ret (hret _ k _ W' hψ h2)
    ·exact wpIn_exit (hexit id _ k _ W' hψ h2)
theorem St.join {Es Ds:List Nat} (S:St w0 M0 ds a w l (marks Es::bs) fs) [hr:ReplI bs (marks Ds) (marks (Es++Ds)) bs']:St w0 M0 ds a w l bs' fs:=⟨S.slots,S.defers,S.wd.join hr⟩
theorem enterM {f:Nat} {fn:Func} {c:Code} {args:List Value} {l:List Value} {R:Ending→World→Prop} {M0:Nat→Prop} {bs:List Item} {fs:List (World→Prop)}
  (hf:P.funcs[f]? = some fn) (hb:fn.body=some c) (hl:args++List.replicate (fn.ntmps - args.length) undef=l) (hw:Wd w M0 w bs fs)
  (h:∀ a,St w M0 (dsOf []) a w l (marks []::bs) fs→Wp P none c (bodyPostM (FW none) 0 P fn R) a w):Calls P f args.toArray w R:=by
 refine (callsIn_wide (n:=0)).1 (callsIn_of_wp_marks (F:=FW none) (n:=0) hf hb trivial (h _ ⟨?_,rfl,?_⟩))
 simp[←hl]
 exact hw.more (y:=marks []) ⟨by simp,by simp⟩ (fun k hk=>by cases hk) (fun k hk=>by cases hk) (fun it _ k hk=>by cases hk)
  (fun Φ hΦ=>(hw.facts Φ hΦ).less fun k _ ⟨it,hi,hk⟩=>by
   rcases List.mem_cons.1 hi with rfl | hi
   cases hk
   exact ⟨it,hi,hk⟩) (marks_loc _)
theorem leavesM {fn:Func} {R:Ending→World→Prop} {t:Array Value} : ∀ (Ds:List Nat) (w:World),Wd w0 M0 w (marks Ds::bs) fs→(∀ w',Wd w0 M0 w' bs fs→LeavesIn (FW none) 0 P fn t R [] .returning w')→LeavesInM (FW none) 0 P fn t R (dsOf Ds) .returning w
 | [],w,hw,h=>h w (hw.sub (bs0:=bs) (List.sublist_cons_self ..) (List.Sublist.refl _))
 | D::Ds,w,hw,h=>by
  have hm:(marks (D::Ds)).holds w:=hw.held _ (List.mem_cons_self ..)
  have hD:=hm.2 D (List.mem_cons_self ..)
  have hlt:D < w.heap.size:=(Array.getElem?_eq_some_iff.1 hD).1
  refine ⟨by simp,.inl ⟨D,_,rfl,run_takeDeferred (P:=P) hD,leavesM Ds _ ?_ h⟩⟩
  refine hw.swap (pre:=[]) (y:=marks Ds) rfl (Agree.putObj w D _ (List.mem_cons_self ..)) ⟨(List.nodup_cons.1 hm.1).2,fun k hk=>?_⟩ (fun k hk=>.inl (List.mem_cons_of_mem _ hk)) (fun k hk=>?_) (marks_loc _)
  ·exact (World.putObj_heap_other (fun(e:k=D)=>(List.nodup_cons.1 hm.1).1 (by rw[←e];exact hk))).trans (hm.2 k (List.mem_cons_of_mem _ hk))
  ·simpa using hw.lt _ (List.mem_cons_self ..) k (List.mem_cons_of_mem _ hk)
class DropI (bs:List Item) (x:Item) (bs':outParam (List Item)):Prop where perm:(x::bs').Perm bs
instance dri0 {x:Item} {bs:List Item} : DropI (x::bs) x bs:=⟨.refl _⟩
instance (priority:=900) driS {x y:Item} {bs bs':List Item} [h:DropI bs x bs']:DropI (y::bs) x (y::bs'):=⟨(List.Perm.swap _ _ _).trans (.cons _ h.perm)⟩
theorem finM {fn:Func} {R:Value→World→Prop} {e:Exit} {Ds:List Nat} {v:Value} (S:St w0 M0 (dsOf Ds) a w l bs fs) [hd:DropI bs (marks Ds) bs'] (hv:∀ w,(∀ it∈bs',it.holds w)→(results fn l.toArray).run P w=.ok v w) (h:∀ w,Wd w0 M0 w bs' fs→R v w) (he:e=.ret∨e=.normal:=by simp) :
  bodyPostM (FW none) 0 P fn (fun e w'=>∃ v,e=.returned v∧Agree M0 w0 w'∧R v w') e a w:=by
 have key:LeavesInM (FW none) 0 P fn a.tmps (fun e w'=>∃ v,e=.returned v∧Agree M0 w0 w'∧R v w') a.defers .returning w:=by
  rw[S.defers,S.slots]
  refine leavesM Ds w (S.wd.perm hd.perm) fun w' hw'=>?_
  exact ⟨v,hv w' hw'.held,v,rfl,hw'.agree,h w' hw'⟩
 rcases he with rfl | rfl <;> exact key
theorem endM1 {fn:Func} {R:Value→World→Prop} {e:Exit} {Ds:List Nat} {r1:ResultVar} {v1:Value} [hr:FnRes fn [r1]] (S:St w0 M0 (dsOf Ds) a w l bs fs) [hd:DropI bs (marks Ds) bs'] [h1:ResV P l bs' r1 v1] (h:∀ w,Wd w0 M0 w bs' fs→R v1 w) (he:e=.ret∨e=.normal:=by simp) :
  bodyPostM (FW none) 0 P fn (fun e w'=>∃ v,e=.returned v∧Agree M0 w0 w'∧R v w') e a w:=
 finM S (fun w hw=>by rw[results_eq (rs:=[r1])];simp[run_res (P:=P) (l:=l) (bs:=bs') (rv:=r1) (v:=v1) w hw]) h he
theorem endM2 {fn:Func} {R:Value→World→Prop} {e:Exit} {Ds:List Nat} {r1 r2:ResultVar} {v1 v2:Value} [hr:FnRes fn [r1,r2]] (S:St w0 M0 (dsOf Ds) a w l bs fs) [hd:DropI bs (marks Ds) bs'] [h1:ResV P l bs' r1 v1] [h2:ResV P l bs' r2 v2] (h:∀ w,Wd w0 M0 w bs' fs→R (.tuple ⟨[v1,v2]⟩) w) (he:e=.ret∨e=.normal:=by simp) :
  bodyPostM (FW none) 0 P fn (fun e w'=>∃ v,e=.returned v∧Agree M0 w0 w'∧R v w') e a w:=
 finM S (fun w hw=>by rw[results_eq (rs:=[r1,r2])];simp[run_res (P:=P) (l:=l) (bs:=bs') (rv:=r1) (v:=v1) w hw,run_res (P:=P) (l:=l) (bs:=bs') (rv:=r2) (v:=v2) w hw]) h he
end
inductive Tr where
 | e
 | q (i:Nat) (t:Tr)
 | l (i:Nat) (t:Tr)
 | b2 (i j:Nat) (t u:Tr)
 | b3 (i j k:Nat) (t u v:Tr)
 | b4 (i j k m:Nat) (t u v x:Tr)
def Tr.len:Tr→Nat
 | .e=>0
 | .q _ t | .l _ t=>t.len+1
 | .b2 _ _ t _=>t.len+1
 | .b3 _ _ _ t _ _=>t.len+1
 | .b4 _ _ _ _ t _ _ _=>t.len+1
def flowT (ops:Array Oper):Tr→Array Bool→Bool
 | .e,listed=>(Region.ready .any ops listed).isEmpty
 | .q i t,listed=>((Region.ready .any ops listed).contains i&&Region.free .any ops listed i)&&flowT ops t (listed.setIfInBounds i true)
 | .l i t,listed=>(match Region.ready .any ops listed with | [j]=>Nat.beq j i | _=>false)&&flowT ops t (listed.setIfInBounds i true)
 | .b2 i j t u,listed=>(match Region.ready .any ops listed with | [x,y]=>Nat.beq x i&&Nat.beq y j | _=>false)&&(Nat.beq u.len t.len&&(flowT ops t (listed.setIfInBounds i true)&&flowT ops u (listed.setIfInBounds j true)))
 | .b3 i j k t u v,listed=>(match Region.ready .any ops listed with | [x,y,z]=>Nat.beq x i&&(Nat.beq y j&&Nat.beq z k) | _=>false)&&(Nat.beq u.len t.len&&(Nat.beq v.len t.len&&(flowT ops t (listed.setIfInBounds i true)&&(flowT ops u (listed.setIfInBounds j true)&&flowT ops v (listed.setIfInBounds k true)))))
 | .b4 i j k m t u v x,listed=>(match Region.ready .any ops listed with | [a,y,z,b]=>Nat.beq a i&&(Nat.beq y j&&(Nat.beq z k&&Nat.beq b m)) | _=>false)&&(Nat.beq u.len t.len&&(Nat.beq v.len t.len&&(Nat.beq x.len t.len&&(flowT ops t (listed.setIfInBounds i true)&&(flowT ops u (listed.setIfInBounds j true)&&(flowT ops v (listed.setIfInBounds k true)&&flowT ops x (listed.setIfInBounds m true)))))))
section
variable {P:Program} {ops:Array Oper} {C:World→Prop} {R:Act→World→Prop}
variable {r:Option Nat} {Q:Exit→Act→World→Prop} {w0:World} {M0:Nat→Prop} {ds:List Deferred} {a:Act} {w:World} {l l':List Value} {bs bs' bs0:List Item} {fs fs0:List (World→Prop)}
 {d:Option Nat} {op:Op} {ty:TypeId} {pos:String} {af:Array Edge} {rest:List Oper} {v v' G:Value} {j g:Nat} {pol:Bool} {cs:List Bool} {n:Nat} {listed:Array Bool}
def AT (P:Program) (ops:Array Oper) (C:World→Prop) (R:Act→World→Prop) (t:Tr) (a:Act) (w:World):Prop:=
 ∀ listed,Region.noSelect ops=true→flowT ops t listed=true→AC P ops C R t.len listed a w
variable {t u x:Tr} {i k:Nat}
theorem tq (S:St w0 M0 ds a w l bs fs) [hb:SubL bs0 bs] [hf:SubL fs0 fs] [ho:OpAt ops i ⟨d,op,ty,pos,af,none⟩] [hq:OpQ P op ty ⟨[],l⟩ bs0 fs0 v] [hp:PutO l d v l']
  (K:∀ a,St w0 M0 ds a w l' bs fs→AT P ops (fun w=>Wd w0 M0 w bs0 fs0) R t a w) :
  AT P ops (fun w=>Wd w0 M0 w bs0 fs0) R (.q i t) a w:=by
 intro listed hs hflow
 simp only[flowT,Bool.and_eq_true]at hflow
 refine ac_first ho.eq (Region.noSelect_spec hs) _ listed a w (Region.free_spec ho.eq hflow.1.2) (by simpa using hflow.1.1) (v:=v) (.inl ⟨rfl,fun w' hw'=>?_⟩) (S.wd.sub hb.sub hf.sub) (K _ S.put _ hs hflow.2)
 rw[execOp_eq]
 exact hq.run a.eval w' S.fr hw'.mem
theorem wn_of {o:Oper} [ho:OpAt ops i o] {K:Act→World→Prop} (h:WL P none ops (fun e a' w'=>e=.normal∧K a' w') [o] a w):WN P ops i K a w:=by
 unfold WN wpOpIn
 simp only[ho.eq]
 simp only[WL,wpListIn]at h
 split
 ·rename_i hw
  rw[if_pos hw]at h
  refine ⟨fun _ _=>trivial,?_⟩
  have h:=h.2
  generalize (o.semAt (FW none).round a.eval).run P w=q at *
  cases q with
  | ok x w'=>
   cases x <;> simp only[Oper.uponIn]at h⊢
   case value u=>exact h.2
   case skip=>exact h.2
   case defer d=>exact h.2
   case enter f args=>
    refine ⟨h.1,CallsIn.mono h.2 fun e w'' he=>?_⟩
    cases e with
    | returned u=>exact he.2
    | panicked c=>exact absurd he.1 (by simp)
    | outgrown=>obtain ⟨_,_,he,_⟩:=he;exact absurd he (by simp)
   case row row args=>exact ⟨h.1,RowsIn.mono h.2 fun u w'' he=>he.2⟩
   case round l f tmps assign body=>
    refine ⟨h.1,RoundIn.mono h.2 fun e w'' he=>?_⟩
    cases e with
    | returned u=>exact he.2
    | panicked c=>exact absurd he.1 (by simp)
    | outgrown=>obtain ⟨_,_,he,_⟩:=he;exact absurd he (by simp)
  | halt x w'=>
   cases x <;> simp only[Oper.uponIn]at h⊢
   case panic u=>exact absurd h.1 (by simp)
 ·rename_i hw
  rw[if_neg hw]at h
  exact ⟨fun _ _=>trivial,h.2.2⟩
theorem tl {o:Oper} [ho:OpAt ops i o] (h:WL P none ops (fun e a' w'=>e=.normal∧C w'∧AT P ops C R t a' w') [o] a w):AT P ops C R (.l i t) a w:=by
 intro listed hs hflow
 simp only[flowT,Bool.and_eq_true]at hflow
 have hr:Region.ready .any ops listed=[i]:=by
  have:=hflow.1
  split at this
  rename_i k hk;rw[hk,Nat.eq_of_beq_eq_true this]
  cases this
 refine ⟨fun h0=>(by rw[h0]at hr;cases hr),fun k hk=>?_⟩
 rw[hr]at hk
 obtain rfl:k=i:=by simpa using hk
 exact wpOpIn_mono (fun a' w' h'=>⟨h'.1,h'.2 _ hs hflow.2⟩) (wn_of h)
theorem tb2 {oi oj:Oper} [hi:OpAt ops i oi] [hj:OpAt ops j oj] (h1:WL P none ops (fun e a' w'=>e=.normal∧C w'∧AT P ops C R t a' w') [oi] a w) (h2:WL P none ops (fun e a' w'=>e=.normal∧C w'∧AT P ops C R u a' w') [oj] a w):AT P ops C R (.b2 i j t u) a w:=by
 intro listed hs hflow
 simp only[flowT,Bool.and_eq_true]at hflow
 have hr:Region.ready .any ops listed=[i,j]:=by
  have:=hflow.1
  split at this
  rename_i x y hk
  simp only[Bool.and_eq_true]at this
  rw[hk,Nat.eq_of_beq_eq_true this.1,Nat.eq_of_beq_eq_true this.2]
  cases this
 have hlen:=Nat.eq_of_beq_eq_true hflow.2.1
 refine ⟨fun h0=>(by rw[h0]at hr;cases hr),fun k hk=>?_⟩
 rw[hr]at hk
 rcases List.mem_cons.1 hk with rfl | hk
 exact wpOpIn_mono (fun a' w' h'=>⟨h'.1,h'.2 _ hs hflow.2.2.1⟩) (wn_of h1)
 obtain rfl:=List.mem_singleton.1 hk
 refine wpOpIn_mono (fun a' w' h'=>⟨h'.1,?_⟩) (wn_of h2)
 have:=h'.2 _ hs hflow.2.2.2
 rwa [hlen]at this
theorem tb3 {oi oj ok:Oper} [hi:OpAt ops i oi] [hj:OpAt ops j oj] [hk:OpAt ops k ok] (h1:WL P none ops (fun e a' w'=>e=.normal∧C w'∧AT P ops C R t a' w') [oi] a w) (h2:WL P none ops (fun e a' w'=>e=.normal∧C w'∧AT P ops C R u a' w') [oj] a w)
  (h3:WL P none ops (fun e a' w'=>e=.normal∧C w'∧AT P ops C R x a' w') [ok] a w):AT P ops C R (.b3 i j k t u x) a w:=by
 intro listed hs hflow
 simp only[flowT,Bool.and_eq_true]at hflow
 have hr:Region.ready .any ops listed=[i,j,k]:=by
  have:=hflow.1
  split at this
  rename_i x y z hk
  simp only[Bool.and_eq_true]at this
  rw[hk,Nat.eq_of_beq_eq_true this.1,Nat.eq_of_beq_eq_true this.2.1,Nat.eq_of_beq_eq_true this.2.2]
  cases this
 have hlen:=Nat.eq_of_beq_eq_true hflow.2.1
 have hlen2:=Nat.eq_of_beq_eq_true hflow.2.2.1
 refine ⟨fun h0=>(by rw[h0]at hr;cases hr),fun m hm=>?_⟩
 rw[hr]at hm
 rcases List.mem_cons.1 hm with rfl | hm
 exact wpOpIn_mono (fun a' w' h'=>⟨h'.1,h'.2 _ hs hflow.2.2.2.1⟩) (wn_of h1)
 rcases List.mem_cons.1 hm with rfl | hm
 refine wpOpIn_mono (fun a' w' h'=>⟨h'.1,?_⟩) (wn_of h2)
 have:=h'.2 _ hs hflow.2.2.2.2.1
 rwa [hlen]at this
 obtain rfl:=List.mem_singleton.1 hm
 refine wpOpIn_mono (fun a' w' h'=>⟨h'.1,?_⟩) (wn_of h3)
 have:=h'.2 _ hs hflow.2.2.2.2.2
 rwa [hlen2]at this
theorem te [hb:SubL bs0 bs] [hf:SubL fs0 fs] (S:St w0 M0 ds a w l bs fs) (h:AT P ops (fun w=>Wd w0 M0 w bs0 fs0) R t a w):WL P none ops (fun e a' w'=>e=.normal∧Wd w0 M0 w' bs0 fs0∧AT P ops (fun w=>Wd w0 M0 w bs0 fs0) R t a' w') [] a w:=
 kN ⟨rfl,S.wd.sub hb.sub hf.sub,h⟩
theorem tn (h:R a w):AT P ops C R .e a w:=by
 intro listed hs hflow
 have hr:Region.ready .any ops listed=[]:=by simpa [flowT] using hflow
 exact ⟨hr,h⟩
theorem ac_mono {R':Act→World→Prop} (hR:∀ a w,R a w→R' a w):∀ (fuel:Nat) (listed:Array Bool) (a:Act) (w:World),AC P ops C R fuel listed a w→AC P ops C R' fuel listed a w
 | 0,_,_,_,h=>⟨h.1,hR _ _ h.2⟩
 | fuel+1,_,_,_,h=>⟨fun h0=>hR _ _ (h.1 h0),fun i hi=>wpOpIn_mono (fun _ _ h'=>⟨h'.1,ac_mono hR fuel _ _ _ h'.2⟩) (h.2 i hi)⟩
theorem c_drawT {id:Nat} {lo:List Oper} (t:Tr) (bs0:List Item) (S:St w0 M0 ds a w l bs fs) (I:Act→World→Prop) (h:∀ w,St w0 M0 ds a w l bs fs→AT P lo.toArray (fun w=>Wd w0 M0 w bs0 fs) I t a w)
  (hk:∀ a w,I a w→Q .normal a w) (hm:P.follows .mixedOrders=true:=by kernel_rfl)
  (hd:((lo.all fun o=>!isDefer o.op)&&(Nat.beq t.len lo.length&&(Region.noSelect lo.toArray&&flowT lo.toArray t (Array.replicate lo.length false))))=true:=by kernel_rfl):Wp P r (.region id lo.toArray true) Q a w:=by
 simp only[Bool.and_eq_true]at hd
 refine wpIn_region_any hm (any_of_ac (C:=fun w=>Wd w0 M0 w bs0 fs) (fun i o ho=>?_) _ _ _ _ ?_)
 have:=List.all_eq_true.1 hd.1 o (by
  rw[List.getElem?_toArray]at ho
  exact List.mem_of_getElem? ho)
 simpa using this
 have:=h { w with drawn:=w.drawn+1 } ⟨S.slots,S.defers,S.wd.step (Agree.drawn _ w _)⟩ _ hd.2.2.1 hd.2.2.2
 rw[Nat.eq_of_beq_eq_true hd.2.1]at this
 simpa using ac_mono hk _ _ _ _ this
theorem c_drawT0 {id:Nat} {lo:List Oper} {l2:List Value} {bs2:List Item} {fs2:List (World→Prop)} (t:Tr) (ids:List Nat) [DropBs bs ids bs0] (S:St w0 M0 ds a w l bs fs) (h:∀ w,St w0 M0 ds a w l bs fs→AT P lo.toArray (fun w=>Wd w0 M0 w bs0 fs) (fun a w=>St w0 M0 ds a w l2 bs2 fs2) t a w)
  (hk:∀ a w,St w0 M0 ds a w l2 bs2 fs2→Q .normal a w) (hm:P.follows .mixedOrders=true:=by kernel_rfl)
  (hd:((lo.all fun o=>!isDefer o.op)&&(Nat.beq t.len lo.length&&(Region.noSelect lo.toArray&&flowT lo.toArray t (Array.replicate lo.length false))))=true:=by kernel_rfl):Wp P r (.region id lo.toArray true) Q a w:=
 c_drawT t _ S _ h hk hm hd
end
instance opMakeFunc {P ty} {l:Cx} {bs fs} {f:Nat} {fi ca:List Operand} {vs us:List Value} [EvL l fi vs] [EvL l ca us]:OpQ P (.makeFunc (.func f) fi.toArray ca.toArray) ty l bs fs (.func (.func f) ⟨vs⟩ ⟨us⟩):=⟨fun ρ w h _=>by
 have e1:=h.evl (xs:=fi) (vs:=vs)
 have e2:=h.evl (xs:=ca) (vs:=us)
 simp[xop,execOp,e1,e2,Instr.makeFunc]⟩
section
variable {P:Program} {r:Option Nat} {ops:Array Oper} {Q:Exit→Act→World→Prop} {w0:World} {M0:Nat→Prop} {ds:List Deferred} {a:Act} {w:World} {l:List Value} {bs bs':List Item} {fs fs0:List (World→Prop)}
 {d:Option Nat} {op:Op} {ty:TypeId} {pos:String} {af:Array Edge} {rest:List Oper} {ts:Array TypeId}
theorem sy {x:Operand} {xs:List Operand} {L:Nat} {vs:List Value} {l':Bool→List Value} {wI:World} {M:Nat→Prop} {J Jx:World→Prop} [hx:Ev ⟨[],l⟩ x (.func (.yield L) #[] #[])] [hv:EvL ⟨[],l⟩ xs vs] [hp:∀ b:Bool,PutO l d (.bool b) (l' b)]
  (S:St w0 M0 ds a w l bs fs) (hF:∀ Φ∈fs0,Stable M wI Φ)
  (hy:YieldAt (FW none) 0 P L vs.toArray w fun e W'=>Agree M wI W'∧((e=.returned (.bool true)∧J W')∨(e=.returned (.bool false)∧Jx W')))
  (K:∀ (b:Bool) (N:Nat→Prop) a W,(b=true→J W)→(b=false→Jx W)→St W (fun _=>False) ds a W (l' b) [ext N] fs0→WL P r ops Q rest a W) :
  WL P r ops Q (⟨d,.call { callee:=.value x,args:=xs.toArray,argTypes:=ts },ty,pos,af,none⟩::rest) a w:=by
 refine wl_plain rfl ?_
 rw[semAt_nd rfl]
 obtain ⟨fn,tmps,assign,body,hrun,hround⟩:=hy
 have hf:a.eval x=.func (.yield L) #[] #[]:=S.fr.ev
 have e:=S.fr.evl (xs:=xs) (vs:=vs)
 have e1:(xop a.eval (.call { callee:=.value x,args:=xs.toArray,argTypes:=ts }) ty).run P w=.ok (.round L fn tmps assign body) w:=by
  rw[←hrun]
  simp[xop,execOp,resolve,hf,Deferred.ofValue,invoke,e]
 simp only[e1,Oper.uponIn]
 refine ⟨fun h=>(by cases h),RoundIn.mono hround ?_⟩
 have key:∀ (b:Bool) (W:World),Agree M wI W→(b=true→J W)→(b=false→Jx W)→WL P r ops Q rest (a.put d (.bool b)) W:=fun b W hag h1 h2=>by
  have:=hp b
  have S':=S.put (d:=d) (v:=.bool b)
  refine K b (fun k=>(M k∨wI.heap.size≤k)∧k < W.heap.size) _ W h1 h2 ⟨S'.slots,S'.defers,Wd.beginM (fun k hk=>hk.2) fun Φ hΦ w'' hw''=>hF Φ hΦ w'' (hag.trans' hw'' fun i hi hk=>?_)⟩
  rcases hk.1 with h | h
  exact h
  omega
 rintro e W ⟨hag,⟨rfl,hJ⟩ | ⟨rfl,hJ⟩⟩
 exact key true W hag (fun _=>hJ) (fun h=>by cases h)
 exact key false W hag (fun h=>by cases h) (fun _=>hJ)
class EvB (l:Cx) (x:Option Operand) (dflt:Nat) (v:outParam Nat):Prop where
 eq:(x=none∧v=dflt)∨∃ o kk,x=some o∧Ev l o (.int kk (v:Int))
instance evb0 {l:Cx} {n:Nat} : EvB l none n n:=⟨.inl ⟨rfl,rfl⟩⟩
instance evb1 {l:Cx} {x:Operand} {n m:Nat} {kk:IntKind} {mi:Int} [h:Ev l x (.int kk mi)] [hm:IsNat mi m]:EvB l (some x) n m:=⟨.inr ⟨x,kk,rfl,by have:=hm.eq;subst this;exact h⟩⟩
theorem run_sliceBound {P:Program} {kk:IntKind} {v y:Nat} (h:v≤y) (code:BoundsCode) (w:World):(Instr.sliceBound (.int kk (v:Int)) y code).run P w=.ok v w:=by
 simp[Instr.sliceBound,asIntOf,h]
theorem c_scope {c:Code} (h:Wp P r c (Exit.noGoto Q) a w):Wp P r (.scope c) Q a w:=by
 intro b k cs hro hb hr
 have h0:(lone (b.atR a (.code (.scope c)::k)) cs w).fenced P (FW r):=fenced_calm hb hr rfl
 have s1:step P (lone (b.atR a (.code (.scope c)::k)) cs w)=.next (lone (b.atR a (.code c::.inScope c::k)) cs w):=step_lone_go (by simp[stepG,stepG.exec,Frame.atR])
 have s2:∀ (a:Act) (w:World),step P (lone (b.atR a (.inScope c::k)) cs w)=.next (lone (b.atR a k) cs w):=fun a w=>step_lone_go (by simp[stepG,stepG.exec,Frame.atR])
 obtain ⟨e,a₁,w₁,hq,harr⟩:=h b (.inScope c::k) cs hro hb hr
 cases e with
 | normal=>exact ⟨.normal,a₁,w₁,hq,.head h0 s1 (StepsIn.trans harr (.one (fenced_calm hb hr rfl) (s2 _ _)))⟩
 | exit id=>
  have hx:exitTo id (.inScope c::k)=exitTo id k:=by simp[exitTo]
  exact ⟨.exit id,a₁,w₁,hq,fun k' hk=>.head h0 s1 (harr.1 k' (by rw[hx];exact hk)),fun hr' hk=>let ⟨k₁,h1,h2⟩:=harr.2 hr' (by rw[hx];exact hk);⟨k₁,h1,.head h0 s1 h2⟩⟩
 | goto l=>exact hq.elim
 | ret=>exact ⟨_,a₁,w₁,hq,.of_steps (.one h0 s1) harr⟩
 | panic ch=>exact ⟨_,a₁,w₁,hq,.of_steps (.one h0 s1) harr⟩
 | outgrown=>exact ⟨_,a₁,w₁,hq,.of_steps (.one h0 s1) harr⟩
theorem xsr (h:Q .ret a w):Exit.noGoto Q .ret a w:=h
def Item.ro (x:Item):Item:={ x with own:=false }
theorem St.toRo {x:Item} (S:St w0 M0 ds a w l bs fs) [hr:ReplI bs x x.ro bs']:St w0 M0 ds a w l bs' fs:=by
 obtain ⟨pre,post,rfl,rfl⟩:=hr.ex
 have h:=S.wd
 have key:∀ it,it∈pre++x.ro::post→∃ y,y∈pre++x::post∧y.foot=it.foot∧y.holds=it.holds∧(it.own=true→y.own=true):=fun it hi=>by
  rcases List.mem_append.1 hi with hi | hi
  exact ⟨it,by simp[hi],rfl,rfl,id⟩
  rcases List.mem_cons.1 hi with rfl | hi
  exact ⟨x,by simp,rfl,rfl,fun h=>by cases h⟩
  exact ⟨it,by simp[hi],rfl,rfl,id⟩
 have hfe:foots (pre++x.ro::post)=foots (pre++x::post):=foots_repl rfl
 refine ⟨S.slots,S.defers,h.agree,?_,?_,?_,?_,?_,?_⟩
 intro it hi;obtain ⟨y,hy,_,h2,_⟩:=key it hi;rw[←h2];exact h.held y hy
 intro it hi k hk;obtain ⟨y,hy,h1,_,_⟩:=key it hi;exact h.lt y hy k (h1▸hk)
 intro it hi ho k hk;obtain ⟨y,hy,h1,_,h3⟩:=key it hi;exact h.own y hy (h3 ho) k (h1▸hk)
 have hap:=List.pairwise_append.1 h.apart
 have hap2:=List.pairwise_cons.1 hap.2.1
 exact List.pairwise_append.2 ⟨hap.1,List.pairwise_cons.2 hap2,fun u hu y hy=>by
  rcases List.mem_cons.1 hy with rfl | hy
  exact hap.2.2 u hu x (by simp)
  exact hap.2.2 u hu y (by simp[hy])⟩
 intro Φ hΦ;rw[hfe];exact h.facts Φ hΦ
 intro it hi w1 w2 hk hh;obtain ⟨y,hy,h1,h2,_⟩:=key it hi;rw[←h2]at hh⊢;exact h.loc y hy w1 w2 (fun k hk'=>hk k (h1▸hk')) hh
theorem St.unRo {x:Item} (S:St w0 M0 ds a w l bs fs) [hr:ReplI bs x.ro x bs'] (hown:∀ k,x.foot k→M0 k∨w0.heap.size≤k):St w0 M0 ds a w l bs' fs:=by
 obtain ⟨pre,post,rfl,rfl⟩:=hr.ex
 have h:=S.wd
 have key:∀ it,it∈pre++x::post→∃ y,y∈pre++x.ro::post∧y.foot=it.foot∧y.holds=it.holds∧(it=x∨y.own=it.own):=fun it hi=>by
  rcases List.mem_append.1 hi with hi | hi
  exact ⟨it,by simp[hi],rfl,rfl,.inr rfl⟩
  rcases List.mem_cons.1 hi with rfl | hi
  exact ⟨it.ro,by simp,rfl,rfl,.inl rfl⟩
  exact ⟨it,by simp[hi],rfl,rfl,.inr rfl⟩
 have hfe:foots (pre++x::post)=foots (pre++x.ro::post):=foots_repl rfl
 refine ⟨S.slots,S.defers,h.agree,?_,?_,?_,?_,?_,?_⟩
 intro it hi;obtain ⟨y,hy,_,h2,_⟩:=key it hi;rw[←h2];exact h.held y hy
 intro it hi k hk;obtain ⟨y,hy,h1,_,_⟩:=key it hi;exact h.lt y hy k (h1▸hk)
 intro it hi ho k hk
 obtain ⟨y,hy,h1,_,h3⟩:=key it hi
 rcases h3 with rfl | h3
 exact hown k hk
 exact h.own y hy (h3▸ho) k (h1▸hk)
 have hap:=List.pairwise_append.1 h.apart
 have hap2:=List.pairwise_cons.1 hap.2.1
 exact List.pairwise_append.2 ⟨hap.1,List.pairwise_cons.2 hap2,fun u hu y hy=>by
  rcases List.mem_cons.1 hy with rfl | hy
  exact hap.2.2 u hu y.ro (by simp)
  exact hap.2.2 u hu y (by simp[hy])⟩
 intro Φ hΦ;rw[hfe];exact h.facts Φ hΦ
 intro it hi w1 w2 hk hh;obtain ⟨y,hy,h1,h2,_⟩:=key it hi;rw[←h2]at hh⊢;exact h.loc y hy w1 w2 (fun k hk'=>hk k (h1▸hk')) hh
end
theorem St.boxNew {w0 M0 ds a w l bs fs} (S:St w0 M0 ds a w l bs fs) (b:Nat) {t:TypeId} {cs:List Value} [h:HasBox bs b t cs]:M0 b∨w0.heap.size≤b:=S.wd.own _ h.mem rfl b rfl
instance isnatL0:IsNat 0 0:=⟨rfl⟩
instance isnatL1:IsNat 1 1:=⟨rfl⟩
instance isnatL4:IsNat 4 4:=⟨rfl⟩
theorem endI {P:Program} {fn:Func} {R:World→Prop} {w0:World} {M0:Nat→Prop} {a:Act} {w:World} {l:List Value} {bs:List Item} {fs:List (World→Prop)} {e:Exit} [hr:FnRes fn []] (S:St w0 M0 [] a w l bs fs) (h:R w) (he:e=.ret∨e=.normal:=by simp) :
  bodyPost P fn (fun e w'=>(∃ v,e=.returned v)∧R w') e a w:=by
 have hv:(results fn l.toArray).run P w=.ok (.tuple #[]) w:=by rw[results_eq (rs:=[])];simp
 rw[←S.slots]at hv
 rcases he with rfl | rfl
 exact bodyPost_ret hv S.defers ⟨⟨_,rfl⟩,h⟩
 exact bodyPost_end hv S.defers ⟨⟨_,rfl⟩,h⟩
instance (priority:=100) mulnAny {i s:Nat} : MulN i s (i*s):=⟨rfl⟩
theorem LsIn.nil_of {w:World} {i:Nat} {xs:List LTerm} (h:LsIn w none i xs):xs=[]:=by
 cases xs with
 | nil=>rfl
 | cons x xs=>obtain ⟨⟨ad,h0,_⟩,_⟩:=h;cases h0
section
variable {P:Program} {ty:TypeId} {l:Cx} {bs:List Item} {fs:List (World→Prop)} {x y:Operand} {t e:TypeId}
instance (priority:=960) opIdxB {lc:Cx} {b n c k o:Nat} {kk:IntKind} {m:Int} {z:Value} {sz by_:Nat} [Ev lc x (.slice (some ⟨b,0,none⟩) n c)] [Ev lc y (.int kk m)] [Und P t (.slice e)] [TI P e z sz by_] [hm:IsNat m k] [hk:KLt k n] [hmul:MulN k sz o] :
  OpQ P (.indexAddr t x y) ty lc bs fs (.pointer (some ⟨b,o,none⟩)):=⟨fun ρ w h mm=>by
 have hlt:=hk.lt
 have h2:=hm.eq
 subst h2
 have he:(⟨b,0,none⟩:Addr).add (k*sz)=⟨b,o,none⟩:=by rw[hmul.eq,add_lit]
 simp[xop,execOp,h.ev (x:=x) (v:=.slice (some ⟨b,0,none⟩) n c),h.ev (x:=y) (v:=.int kk (k:Int))]
 simp[run_indexAt (P:=P) (t:=t) (e:=e) (z:=z) (sz:=sz) (by_:=by_) (Int.natCast_nonneg k) (Int.ofNat_lt.2 hlt),he]⟩
class LeC (a b:Nat):Prop where le:a≤b
instance (priority:=1100) lec0 {a:Nat} : LeC a a:=⟨Nat.le_refl _⟩
class HiOk (om oh:Option Operand):Prop where ok:om.isSome=true→oh.isSome=true
instance hiok0 {oh:Option Operand} : HiOk none oh:=⟨fun h=>by cases h⟩
instance hiok1 {om:Option Operand} {x:Operand} : HiOk om (some x):=⟨fun _=>rfl⟩
end
section
variable {P:Program} {r:Option Nat} {ops:Array Oper} {Q:Exit→Act→World→Prop} {w0:World} {M0:Nat→Prop} {ds:List Deferred} {a:Act} {w:World} {l:List Value} {bs bs':List Item} {fs:List (World→Prop)}
 {d:Option Nat} {op:Op} {ty:TypeId} {pos:String} {af:Array Edge} {rest:List Oper} {v:Value} {t e:TypeId} {sz by_ n c:Nat} {z:Value} {p:Option Addr} {xs:List Value} {x y:Operand}
theorem add_lit_off (g o j:Nat):(⟨g,o,none⟩:Addr).add j=⟨g,o+j,none⟩:=by unfold Addr.add;split <;> simp_all
theorem run_cut {ρ:Operand→Value} {lc:Cx} {ol oh om:Option Operand} {lo hi mx:Nat} [Ev lc x (.slice p n c)] [hl:EvB lc ol 0 lo] [hh:EvB lc oh n hi] [hx:EvB lc om c mx] [Und P t (.slice e)] [TI P e z sz by_] (hf:Fr ρ lc)
  (h1:mx≤c) (h2:hi≤mx) (h3:lo≤hi) (hxh:om.isSome=true→oh.isSome=true) (w:World) :
  (xop ρ (.slice t x ol oh om) ty).run P w=.ok (.value (.slice (if mx=lo then p else p.map (·.add (lo*sz))) (hi - lo) (mx - lo))) w:=by
 have hsz:=run_size (P:=P) (t:=e) (z:=z) (s:=sz) (b:=by_) w
 have eX:ρ x=.slice p n c:=hf.ev
 have hb:(Instr.sliceBounds true n c (ol.map ρ) (oh.map ρ) (om.map ρ)).run P w=.ok (lo,hi,mx) w:=by
  rcases hx.eq with ⟨rfl,rfl⟩ | ⟨o,kk,rfl,h⟩
  rcases hh.eq with ⟨rfl,rfl⟩ | ⟨o2,kk2,rfl,h'⟩
  rcases hl.eq with ⟨rfl,rfl⟩ | ⟨o3,kk3,rfl,h''⟩
  simp[Instr.sliceBounds]
  have e3:=hf.ev (x:=o3) (v:=.int kk3 (lo:Int))
  simp[Instr.sliceBounds,e3,run_sliceBound h3]
  have e2:=hf.ev (x:=o2) (v:=.int kk2 (hi:Int))
  have h2':hi≤mx:=h2
  rcases hl.eq with ⟨rfl,rfl⟩ | ⟨o3,kk3,rfl,h''⟩
  simp[Instr.sliceBounds,e2,run_sliceBound h2']
  have e3:=hf.ev (x:=o3) (v:=.int kk3 (lo:Int))
  simp[Instr.sliceBounds,Sem.run_bind,e2,e3,run_sliceBound h2',run_sliceBound h3]
  have e1:=hf.ev (x:=o) (v:=.int kk (mx:Int))
  rcases hh.eq with ⟨rfl,rfl⟩ | ⟨o2,kk2,rfl,h'⟩
  exact absurd (hxh rfl) (by simp)
  have e2:=hf.ev (x:=o2) (v:=.int kk2 (hi:Int))
  rcases hl.eq with ⟨rfl,rfl⟩ | ⟨o3,kk3,rfl,h''⟩
  simp[Instr.sliceBounds,Sem.run_bind,e1,e2,run_sliceBound h1,run_sliceBound h2]
  have e3:=hf.ev (x:=o3) (v:=.int kk3 (lo:Int))
  simp[Instr.sliceBounds,Sem.run_bind,e1,e2,e3,run_sliceBound h1,run_sliceBound h2,run_sliceBound h3]
 have key:(Instr.slice t (.slice p n c) (ol.map ρ) (oh.map ρ) (om.map ρ)).run P w=.ok (.slice (if mx=lo then p else p.map (·.add (lo*sz))) (hi - lo) (mx - lo)) w:=by
  simp only[Instr.slice,Sem.run_bind,run_und,Result.andThen_ok,hb,hsz,Sem.run_pure]
 simp only[xop,execOp,Instr.sliceAt,eX,Sem.run_bind,run_und,Result.andThen_ok,Sem.run_pure]
 simp[key]
instance (priority:=700) opSliceQ {lc:Cx} {ol oh om:Option Operand} {lo hi mx:Nat} [Ev lc x (.slice p n c)] [EvB lc ol 0 lo] [EvB lc oh n hi] [EvB lc om c mx] [Und P t (.slice e)] [TI P e z sz by_] [h1:LeC mx c] [h2:LeC hi mx] [h3:LeC lo hi] [h4:HiOk om oh] :
  OpQ P (.slice t x ol oh om) ty lc bs fs (.slice (if mx=lo then p else p.map (·.add (lo*sz))) (hi - lo) (mx - lo)):=⟨fun _ρ w h _=>run_cut h h1.le h2.le h3.le h4.ok w⟩
end
theorem ls_own_from {w:World} {e:TypeId} {p:Option Addr} {n c:Nat} {xs:List LTerm} (h:w.ownsRow 0 e 5 (.slice p n c) n (encL xs)) (hk:∀ x∈xs,LtIn w x):∀ (k i:Nat),xs.length - i=k→i≤xs.length→LsIn w p i (xs.drop i)
 | 0,i,hi,hle=>by rw[List.drop_of_length_le (by omega)];simp[LsIn]
 | k+1,i,hi,hle=>by
  have hlt:i < xs.length:=by omega
  have hn:n=xs.length:=by
   have:=h.1
   rw[encL_len]at this
   have e5:Enc.sz LTerm=5:=rfl
   rw[e5]at this;omega
  obtain ⟨g,cur,hp,_⟩:=own_cells h (by omega)
  rw[nth_drop hlt]
  refine ⟨⟨⟨g,0,none⟩,hp,fun j v hj=>?_⟩,hk _ (nth_mem hlt),ls_own_from h hk k (i+1) (by omega) hlt⟩
  have hj5:j < 5:=(List.getElem?_eq_some_iff.1 hj).1
  have h1:=encL_get xs i _ (nth_get hlt) j hj5
  have h2:(encL xs)[i*5+j]? = some v:=by
   rw[←hj];exact h1
  have h3:=own_cell h h2
  rw[hp]at h3
  simp only[rAddr,Option.getD_some,add_add]at h3
  exact h3
theorem ls_of_own {M:Nat→Prop} {w:World} {e:TypeId} {p:Option Addr} {n c:Nat} {xs:List LTerm} (h:w.ownsRow 0 e 5 (.slice p n c) n (encL xs)) (hk:∀ x∈xs,Stable M w (LtF x)) (hM:∀ ad,p=some ad→¬M ad.block):Stable M w (LsF p 0 xs):=fun w' hw'=>by
 have h':w'.ownsRow 0 e 5 (.slice p n c) n (encL xs):=row_loc e 5 p n c (encL xs) w w' (fun k hkf=>by
  obtain ⟨ad,h1,h2⟩:=hkf
  exact hw'.blk (row_foot_lt h k ⟨ad,h1,h2⟩) (by rw[h2];exact hM ad h1)) h
 have:=ls_own_from h' (fun x hx=>hk x hx w' hw') _ 0 rfl (Nat.zero_le _)
 rw[List.drop_zero]at this
 exact this
theorem St.apart2 {w0 M0 ds a w l bs fs} (S:St w0 M0 ds a w l bs fs) (x y:Item) [h:SubL [x,y] bs] (k:Nat) (hk:x.foot k):¬y.foot k:=by
 have:=(S.wd.apart.sublist h.sub)
 simp only[List.pairwise_cons,List.mem_singleton,forall_eq]at this
 exact this.1 k hk
def kvS (x:List UInt8 × Value):Value × Value:=(str x.1,x.2)
def enKV (e:MapEntry):Value × Value:=(e.key,e.val)
def mpi (b r:Nat) (kv done:List (List UInt8 × Value)):Item where
 foot:=fun k=>k=b∨k=r
 holds:=fun w=>∃ (es:Array MapEntry) (clock:Nat) (ds:List MapEntry),w.heap[b]? = some (.map es clock)∧es.toList.map enKV=kv.map kvS∧(∀ e∈es.toList,e.born < clock)∧(es.toList.map (·.born)).Nodup∧
  w.heap[r]? = some (.mapIter (some b) clock (ds.map (·.born)).toArray clock)∧(∀ e∈ds,e∈es.toList)∧(ds.map (·.born)).Nodup∧ds.map enKV=done.map kvS
class HasMpi (bs:List Item) (r:Nat) (b:outParam Nat) (kv done:outParam (List (List UInt8 × Value))):Prop where mem:mpi b r kv done∈bs
class HasMpiB (bs:List Item) (b:Nat) (kv:outParam (List (List UInt8 × Value))):Prop where mem:∃ r done,mpi b r kv done∈bs
section
variable {P:Program} {r0:Option Nat} {ops:Array Oper} {Q:Exit→Act→World→Prop} {w0:World} {M0:Nat→Prop} {ds:List Deferred} {a:Act} {w:World} {l:List Value} {bs:List Item} {fs:List (World→Prop)}
 {d:Option Nat} {op:Op} {ty:TypeId} {pos:String} {af:Array Edge} {rest:List Oper} {t kt et:TypeId} {x:Operand} {b:Nat} {kv:List (List UInt8 × Value)}
end
section
variable {P:Program} {r:Option Nat} {ops:Array Oper} {Q:Exit→Act→World→Prop} {w0:World} {M0:Nat→Prop} {ds:List Deferred} {a:Act} {w:World} {l:List Value} {bs:List Item} {fs:List (World→Prop)}
 {d:Option Nat} {ty:TypeId} {pos:String} {af:Array Edge} {rest:List Oper} {f:Nat} {x:Operand} {ys:List Operand} {args:List Value} {ts:Array TypeId}
theorem Wd.addItem {w':World} {y:Item} (hold:Wd w0 M0 w bs fs) (hw:Grow w w') (hy:y.holds w') (hfoot:∀ k,y.foot k→w.heap.size≤k) (hlt:∀ k,y.foot k→k < w'.heap.size)
  (hloc:∀ w1 w2:World,(∀ k,y.foot k→w2.heap[k]? = w1.heap[k]?)→y.holds w1→y.holds w2):Wd w0 M0 w' (y::bs) fs:=by
 refine (hold.step hw).more hy (fun k hk=>Nat.le_trans hold.agree.size (hfoot k hk)) hlt (fun it hi k hk hk'=>absurd (hold.lt it hi k hk') (by have:=hfoot k hk;omega)) (fun Φ hΦ w'' hw''=>?_) hloc
 refine hold.facts Φ hΦ w'' ((hw.mono (fun _ _ h=>h.elim)).trans' hw'' fun i hi ⟨it,hm,hk⟩=>?_)
 rcases List.mem_cons.1 hm with rfl | hm
 exact absurd (hfoot i hk) (by omega)
 exact ⟨it,hm,hk⟩
end
end Go.Wk
namespace Go.Proofs.YtdakncgafdnjfaaGreat
open Go Go.Wk
set_option synthInstance.maxSize 100000
set_option synthInstance.maxHeartbeats 400000
set_option maxRecDepth 100000
abbrev zeroL:LTerm:=.mk 0 0 0 [] none 0 []
theorem kid_st {M:Nat→Prop} {w:World} {t x:LTerm} (h:Stable M w (LtF t)) (hx:x∈t.kids):Stable M w (LtF x):=by
 obtain ⟨k,hk,rfl⟩:=List.mem_iff_getElem.1 hx
 exact h.imp fun w' hw'=>((LtIn.iff.1 hw').2.2.get (List.getElem?_eq_getElem hk)).2
theorem clone_c (xs:List LTerm) (p:Option Addr) (n c:Nat) (w0:World) (hn:xs.length=n) (hl:n≤10000000) (hx:Stable (fun _=>False) w0 (LsF p 0 xs)) :
  Ret Tryz.prog 251 [.slice p n c] w0 (fun _=>False) fun v w'=>∃ p' c',v=.slice p' n c'∧w'.ownsRow 0 43 5 (.slice p' n c') n (encL xs)∧∀ ad,p'=some ad→w0.heap.size≤ad.block:=by
 refine enter Tryz.func251 rfl rfl (Wd.begin (fs:=[LsF p 0 xs]) (by simpa using hx)) (fun a S=>?_)
 simp only[Tryz.ntmps251,qqA,qqB,Nat.reduceAdd,Nat.reduceSub,qqC,qqD,qqE,qqF]at S
 refine kS (kR (sq S ?_));clear S;intro a S;refine kN (xtn (kS (kS (kR ?_))));(iterate 2 (refine sq S ?_;clear S;intro a S));refine kN (xtn ?_)
 refine kC S (fun h1=>?_) (fun h1=>?_)
 refine kS (kR (sq S ?_));clear S;intro a S;refine kN (xtn (kT (xtr ?_)))
 have hp:p=none:=by simpa using h1
 subst hp
 have hx0:=hx.now.nil_of
 subst hx0
 simp at hn
 subst hn
 refine end1 S (fun _=>?_)
 exact ⟨none,0,rfl,World.ownsRow_nil _ _ _ _,fun _ h=>by cases h⟩
 refine kK (xtn (kS (kR ?_)));refine sn S ?_;clear S;intro b5 a w S;refine sq S ?_;clear S;intro a S
 replace S:=S.boxRow b5 5 0 rfl (by omega)
 have hN:LenN xs n:=⟨hn⟩
 refine sap S (by simp[maxLen];omega) (by omega) ?_;clear S;rintro p2 c2 a w - S
 rw[qqF,Nat.zero_add]at S
 refine sq S ?_;clear S;intro a S;refine kN (xtn (kT ?_))
 have hrow:=S.row p2 n
 have hnew:=S.rowNew p2 n
 refine end1 S (fun _=>?_)
 exact ⟨p2,c2,rfl,hrow,fun ad h=>(hnew ad h).elim (fun h=>h.elim) id⟩
theorem encL_drop (xs:List LTerm) (k:Nat) (h:k≤xs.length):(encL xs).drop (k*5)=encL (xs.drop k):=by
 have e:encL xs=encL (xs.take k)++encL (xs.drop k):=by rw[←encL_append,List.take_append_drop]
 have hl:(encL (xs.take k)).length=k*5:=by rw[encL_len,List.length_take,Nat.min_eq_left h];rfl
 rw[e,←hl,List.drop_left]
end Go.Proofs.YtdakncgafdnjfaaGreat
namespace Go.Wk
open Go Go.Deep Go.ChangeShapes Go.WideShapes Go.ChangeAt Go.RowKit
section
variable {H:Type} {enc:TypeId × Value→H} {P:Program} {w:World} {base:Nat} {spare:Nat→Bool} {held:Bool} {L:TypeId}
end
section
variable {w0:World} {M0:Nat→Prop} {ds:List Deferred} {a:Act} {w:World} {l:List Value} {bs:List Item} {fs:List (World→Prop)}
theorem St.cutRow {bs':List Item} {e:TypeId} {sz c:Nat} {xs:List Value} (S:St w0 M0 ds a w l bs fs) (p:Option Addr) (m n:Nat) [hr:HasRow bs p n e sz c xs] [hrep:ReplI bs (Wk.row e sz p n c xs) (Wk.row e sz p m c (xs.take (m*sz))) bs'] (hle:m≤n):St w0 M0 ds a w l bs' fs:=by
 have hrow:=S.row p n
 have hown:w.ownsRow 0 e sz (.slice p m c) m (xs.take (m*sz)):=by
  refine ⟨by rw[List.length_take,hrow.1,Nat.min_eq_left (Nat.mul_le_mul_right _ hle)],?_⟩
  rcases hrow.2 with ⟨hv,rfl⟩ | ⟨g,cap,cur,hv,hb,hg,hnc,hcm,hcs,ht⟩
  cases hv
  exact .inl ⟨by rw[show m=0 from by omega],by omega⟩
  cases hv
  exact .inr ⟨g,c,cur,rfl,hb,hg,by omega,hcm,hcs,by rw[←ht,List.take_take,Nat.min_eq_left (Nat.mul_le_mul_right _ hle)]⟩
 exact S.reput (x:=Wk.row e sz p n c xs) (y:=Wk.row e sz p m c (xs.take (m*sz))) S.slots S.defers rfl (Agree.refl _ _) hown (fun k h=>.inl h) (row_foot_lt hown) (row_loc _ _ _ _ _ _)
theorem own_le {w:World} {e:TypeId} {sz:Nat} {p:Option Addr} {n c:Nat} {xs:List Value} (h:w.ownsRow 0 e sz (.slice p n c) n xs):n≤c:=by
 rcases h.2 with ⟨hv,h0⟩ | ⟨g,cap,cur,hv,hb,hg,hnc,hcm,hcs,ht⟩
 omega
 cases hv;exact hnc
end
def AllL (L:List LTerm):World→Prop:=fun w=>∀ x∈L,LtIn w x
theorem AllL.stable {M:Nat→Prop} {w:World} {L:List LTerm} (h:∀ x∈L,Stable M w (LtF x)):Stable M w (AllL L):=fun w' hw x hx=>h x hx w' hw
theorem AllL.get {M:Nat→Prop} {w:World} {L:List LTerm} (h:Stable M w (AllL L)) {x:LTerm} (hx:x∈L):Stable M w (LtF x):=fun w' hw=>h w' hw x hx
def nthI (ys:List Int) (k:Nat):Int:=ys.getD k 0
theorem nthI_get {ys:List Int} {k:Nat} (h:k < ys.length):ys[k]? = some (nthI ys k):=by simp[nthI,h]
theorem SlF.nil {p:Option Addr} {w:World} : SlF p [] w:=⟨fun _=>rfl,fun _ _ j u hj=>by simp at hj⟩
section
variable {P:Program} {l lc:Cx} {bs:List Item} {fs:List (World→Prop)} {x y:Operand} {p:Option Addr} {n c k:Nat} {kk:IntKind} {m:Int} {ys:List Int} {t ty e:TypeId} {z:Value} {by_:Nat}
end
class Lay (α:Type) extends Enc α where
 dflt:α
 inn:World→α→Prop
 mono:∀ (w w':World) (x:α),(∀ ad v,w.cell? ad=some v→w'.cell? ad=some v)→inn w x→inn w' x
instance layI:Lay Int:={ encI with dflt:=0,inn:=fun _ _=>True,mono:=fun _ _ _ _ h=>h }
instance layS:Lay (List UInt8):={ encS with dflt:=[],inn:=fun _ _=>True,mono:=fun _ _ _ _ h=>h }
instance layT:Lay LTerm:={ encT with dflt:=zeroL,inn:=LtIn,mono:=fun _ _ x h hx=>LtIn.mono h x hx }
instance encBo:Enc Bool:=⟨1,fun b=>[.bool b],fun _=>rfl,fun x u hu=>by obtain rfl:=List.mem_singleton.1 hu;rfl⟩
instance layBo:Lay Bool:={ encBo with dflt:=false,inn:=fun _ _=>True,mono:=fun _ _ _ _ h=>h }
instance layB:Lay UInt8:={ encB with dflt:=0,inn:=fun _ _=>True,mono:=fun _ _ _ _ h=>h }
def InF {α:Type} [Lay α] (x:α):World→Prop:=fun w=>Lay.inn w x
def GlF {α:Type} [Lay α] (p:Option Addr) (xs:List α):World→Prop:=fun w=>SlF p (encL xs) w∧∀ x∈xs,Lay.inn w x
def nthG {α:Type} [Lay α] (xs:List α) (k:Nat):α:=xs.getD k Lay.dflt
theorem nthG_get {α:Type} [Lay α] {xs:List α} {k:Nat} (h:k < xs.length):xs[k]? = some (nthG xs k):=by simp[nthG,h]
theorem nthG_mem {α:Type} [Lay α] {xs:List α} {k:Nat} (h:k < xs.length):nthG xs k∈xs:=List.mem_of_getElem? (nthG_get h)
theorem nthG_drop {α:Type} [Lay α] {xs:List α} {k:Nat} (h:k < xs.length):xs.drop k=nthG xs k::xs.drop (k+1):=by
 rw[List.drop_eq_getElem_cons h]
 congr 1
 simp[nthG,h]
theorem nthG_take {α:Type} [Lay α] {xs:List α} {k:Nat} (h:k < xs.length):xs.take (k+1)=xs.take k++[nthG xs k]:=by
 rw[List.take_add_one,nthG_get h];rfl
def gAddr (p:Option Addr) (k sz off:Nat):Addr:=(p.getD ⟨0,0,none⟩).add (k*sz+off)
structure Sl (α:Type) where
 p:Option Addr
 cap:Nat
 xs:List α
abbrev Sl.v {α:Type} (s:Sl α):Value:=.slice s.p s.xs.length s.cap
instance encSl {α:Type} : Enc (Sl α):=⟨1,fun s=>[s.v],fun _=>rfl,fun x u hu=>by obtain rfl:=List.mem_singleton.1 hu;rfl⟩
theorem SlF.mono {p:Option Addr} {xs:List Value} {w w':World} (h:∀ ad v,w.cell? ad=some v→w'.cell? ad=some v) (hs:SlF p xs w):SlF p xs w':=⟨hs.1,fun ad hp j u hj=>h _ _ (hs.2 ad hp j u hj)⟩
theorem GlF.mono {α:Type} [Lay α] {p:Option Addr} {xs:List α} {w w':World} (h:∀ ad v,w.cell? ad=some v→w'.cell? ad=some v) (hs:GlF p xs w):GlF p xs w':=⟨hs.1.mono h,fun x hx=>Lay.mono w w' x h (hs.2 x hx)⟩
instance laySl {α:Type} [Lay α]:Lay (Sl α):={ encSl with
 dflt:=⟨none,0,[]⟩
 inn:=fun w s=>s.xs.length≤s.cap∧s.cap≤maxLen∧GlF s.p s.xs w
 mono:=fun _ _ _ h hx=>⟨hx.1,hx.2.1,hx.2.2.mono h⟩ }
theorem GlF.stable {α:Type} [Lay α] {w:World} {p:Option Addr} {xs:List α} (h:GlF p xs w):Stable (fun _=>False) w (GlF p xs):=fun _ hw'=>h.mono fun _ _ hc=>cell_agree hw' hc
theorem gl_nil {α:Type} [Lay α] {w:World} {p:Option Addr} : GlF (α:=α) p [] w:=⟨SlF.nil,fun _ h=>by cases h⟩
theorem gl_some {α:Type} [Lay α] {w:World} {p:Option Addr} {xs:List α} (h:GlF p xs w) {k:Nat} (hk:k < xs.length) (hz:0 < Enc.sz α):∃ ad,p=some ad:=by
 cases hp:p with
 | some ad=>exact ⟨ad,rfl⟩
 | none=>
  have h1:=congrArg List.length (h.1.1 hp)
  rw[encL_len]at h1
  have h2:xs.length*Enc.sz α=0:=h1
  rcases Nat.mul_eq_zero.1 h2 with h3 | h3 <;> omega
theorem gl_cell {α:Type} [Lay α] {w:World} {p:Option Addr} {xs:List α} (h:GlF p xs w) {k:Nat} (hk:k < xs.length) {j:Nat} {u:Value} (hj:(Enc.cells (nthG xs k))[j]? = some u):w.cell? (gAddr p k (Enc.sz α) j)=some u:=by
 have hjs:j < Enc.sz α:=by
  have:=(List.getElem?_eq_some_iff.1 hj).1
  rwa [Enc.len]at this
 obtain ⟨ad,rfl⟩:=gl_some h hk (by omega)
 exact h.1.2 ad rfl _ _ ((encL_get xs k _ (nthG_get hk) j hjs).trans hj)
class HasG (fs:List (World→Prop)) (p:Option Addr) (α:outParam Type) (i:outParam (Lay α)) (xs:outParam (List α)):Prop where
 of:∀ (M:Nat→Prop) (w:World),(∀ Φ∈fs,Stable M w Φ)→Stable M w (GlF p xs)
instance hasg0 {α:Type} [i:Lay α] {fs:List (World→Prop)} {p:Option Addr} {xs:List α} : HasG (GlF p xs::fs) p α i xs:=⟨fun _ _ h=>h _ (by simp)⟩
instance (priority:=900) hasgS {α:Type} {i:Lay α} {fs:List (World→Prop)} {Φ:World→Prop} {p:Option Addr} {xs:List α} [h:HasG fs p α i xs]:HasG (Φ::fs) p α i xs:=⟨fun M w hf=>h.of M w fun Ψ hΨ=>hf Ψ (by simp[hΨ])⟩
class HasGx (fs:List (World→Prop)) {α:Type} [Lay α] (xs:List α):Prop where
 of:∀ (M:Nat→Prop) (w:World),(∀ Φ∈fs,Stable M w Φ)→∃ p,Stable M w (GlF p xs)
instance hasgx0 {α:Type} [i:Lay α] {fs:List (World→Prop)} {p:Option Addr} {xs:List α} : HasGx (GlF p xs::fs) xs:=⟨fun _ _ h=>⟨p,h _ (by simp)⟩⟩
instance (priority:=900) hasgxS {α:Type} [i:Lay α] {fs:List (World→Prop)} {Φ:World→Prop} {xs:List α} [h:HasGx fs xs]:HasGx (Φ::fs) xs:=⟨fun M w hf=>h.of M w fun Ψ hΨ=>hf Ψ (by simp[hΨ])⟩
class HasI (fs:List (World→Prop)) {α:Type} [Lay α] (x:α):Prop where
 of:∀ (M:Nat→Prop) (w:World),(∀ Φ∈fs,Stable M w Φ)→Stable M w (InF x)
instance (priority:=850) hasgI {α:Type} [i:Lay α] {fs:List (World→Prop)} {s:Sl α} [h:HasI fs s]:HasG fs s.p α i s.xs:=⟨fun M w hf=>(h.of M w hf).imp fun _ h=>h.2.2⟩
instance (priority:=850) hasgxI {α:Type} [i:Lay α] {fs:List (World→Prop)} {s:Sl α} [h:HasI fs s]:HasGx fs s.xs:=⟨fun M w hf=>⟨s.p,(h.of M w hf).imp fun _ h=>h.2.2⟩⟩
section
variable {α:Type} [Lay α] {w0:World} {M0:Nat→Prop} {ds:List Deferred} {a:Act} {w:World} {l:List Value} {bs:List Item} {fs:List (World→Prop)}
theorem St.gl {α:Type} {i:Lay α} (S:St w0 M0 ds a w l bs fs) (p:Option Addr) {xs:List α} [h:HasG fs p α i xs]:Stable (foots bs) w (GlF p xs):=h.of _ _ S.wd.facts
theorem St.gl0 {α:Type} {i:Lay α} (S:St w0 M0 ds a w l bs fs) (p:Option Addr) {xs:List α} [h:HasG fs p α i xs]:Stable (fun _=>False) w (GlF p xs):=(S.gl p).less fun _ _ h=>h.elim
theorem gl_of_own {M:Nat→Prop} {e:TypeId} {p:Option Addr} {n c sz:Nat} {xs:List α} (h:w.ownsRow 0 e sz (.slice p n c) n (encL xs)) (hk:∀ x∈xs,Stable M w (InF x)) (hM:∀ ad,p=some ad→¬M ad.block):Stable M w (GlF p xs):=fun w' hw'=>
 ⟨SlF.stable (own_sl h) hM w' hw',fun x hx=>hk x hx w' hw'⟩
end
class SzE (α:Type) [Lay α] (n:outParam Nat):Prop where
 eq:Enc.sz α=n
 pos:0 < n
instance:SzE Int 1:=⟨rfl,by decide⟩
instance:SzE UInt8 1:=⟨rfl,by decide⟩
class CellsOf {α:Type} [Lay α] (x:α) (cs:outParam (List Value)):Prop where eq:Enc.cells x=cs
instance {x:Int} : CellsOf x [.int .i64 x]:=⟨rfl⟩
instance {x:UInt8} : CellsOf x [.int .u8 x.toNat]:=⟨rfl⟩
section
variable {P:Program} {l:Cx} {bs:List Item} {fs:List (World→Prop)} {x y:Operand} {p:Option Addr} {n c k sz off:Nat} {kk:IntKind} {m:Int} {t ty e:TypeId} {z:Value} {by_:Nat} {α:Type} {i:Lay α} {xs:List α}
instance (priority:=880) opIdxG [Ev l x (.slice p n c)] [Ev l y (.int kk m)] [Und P t (.slice e)] [TI P e z sz by_] [hm:IsNat m k] [hl:HasG fs p α i xs] [hs:SzE α sz] [hk:KLt k n] [hk':KLt k xs.length] :
  OpQ P (.indexAddr t x y) ty l bs fs (.pointer (some (gAddr p k sz 0))):=⟨fun ρ w h mm=>by
 have hlt:=hk.lt
 obtain ⟨ad,rfl⟩:=gl_some (hl.of _ _ mm.facts).now hk'.lt (by rw[hs.eq];exact hs.pos)
 have h2:=hm.eq
 subst h2
 simp[xop,execOp,h.ev (x:=x) (v:=.slice (some ad) n c),h.ev (x:=y) (v:=.int kk (k:Int))]
 simp[run_indexAt (P:=P) (t:=t) (e:=e) (z:=z) (sz:=sz) (by_:=by_) (Int.natCast_nonneg k) (Int.ofNat_lt.2 hlt),gAddr]⟩
theorem gAddr_add (p:Option Addr) (k sz o j:Nat):(gAddr p k sz o).add j=gAddr p k sz (o+j):=by simp only[gAddr,add_add,Nat.add_assoc]
instance (priority:=880) opFieldG [Ev l x (.pointer (some (gAddr p k sz 0)))] {s f ft:Nat} [hf:Fld P s f off ft]:OpQ P (.fieldAddr s x f) ty l bs fs (.pointer (some (gAddr p k sz off))):=⟨fun ρ w h _=>by
 simp[xop,execOp,h.ev (x:=x) (v:=.pointer (some (gAddr p k sz 0))),run_fieldAt (P:=P) (s:=s) (f:=f) (off:=off) (ft:=ft),gAddr_add]⟩
theorem gl_cells {cs:List Value} {w:World} [hs:SzE α sz] (h:GlF p xs w) (hk:k < xs.length) [hc:CellsOf (nthG xs k) cs] {j:Nat} {u:Value} (hj:cs[j]? = some u):w.cell? (gAddr p k sz j)=some u:=by
 rw[←hs.eq]
 exact gl_cell h hk (by rw[hc.eq];exact hj)
instance (priority:=780) opLoadG1 {v:Value} {cs:List Value} [Ev l x (.pointer (some (gAddr p k sz off)))] [ha:AggT P t false] [hl:HasG fs p α i xs] [hs:SzE α sz] [hk:KLt k xs.length] [hc:CellsOf (nthG xs k) cs] [hn:Nth cs off v] :
  OpQ P (.load t x) ty l bs fs v:=⟨fun ρ w h mm=>by
 have h1:=gl_cells (hl.of _ _ mm.facts).now hk.lt hn.eq
 simp[xop,execOp,Instr.loadAt,h.ev (x:=x) (v:=.pointer (some (gAddr p k sz off))),Instr.sureAddr,loadVar,Sem.run_bind,ha.run,load,Sem.run,h1]⟩
instance (priority:=780) opLoadGA {cs vs:List Value} [Ev l x (.pointer (some (gAddr p k sz off)))] [ha:AggT P t true] [TI P t z n by_] [hl:HasG fs p α i xs] [hs:SzE α sz] [hk:KLt k xs.length] [hc:CellsOf (nthG xs k) cs] [hn:Seg cs off n vs] :
  OpQ P (.load t x) ty l bs fs (.agg ⟨vs⟩):=⟨fun ρ w h mm=>by
 have hlc:=run_loadCells_list (P:=P) w (gAddr p k sz off) vs (fun j v hj=>by
  have hjn:j < n:=by rw[←hn.eq.1];exact (List.getElem?_eq_some_iff.1 hj).1
  rw[gAddr_add]
  exact gl_cells (hl.of _ _ mm.facts).now hk.lt ((hn.eq.2 j hjn).trans hj))
 rw[hn.eq.1]at hlc
 simp[xop,execOp,Instr.loadAt,h.ev (x:=x) (v:=.pointer (some (gAddr p k sz off))),Instr.sureAddr,loadVar,Sem.run_bind,ha.run,run_size,hlc]⟩
instance (priority:=860) srcG {tx:TypeId} [h:Und P tx (.slice e)] [hr:HasG fs p α i xs] [hs:SzE α sz] [hn:LenN xs n]:SrcV P tx (.slice p n c) bs fs sz n (encL xs):=⟨fun w mm=>
 src_sl h.eq (hr.of _ _ mm.facts).now.1 (by rw[encL_len,hn.eq,hs.eq]) (encL_one xs) hs.pos⟩
end
class Tro (P:Program) (T:TypeId) (α:Type) [Lay α]:Prop where
 of:∀ {H:Type} (enc:TypeId × Value→H) (w:World) (base:Nat) (spare:Nat→Bool) (held:Bool) (fuel:Nat) (cs:List Value) (x:DataW H × List MemPlace),DataW.trod enc P w base spare held fuel T cs=some x→∃ a:α,cs=Enc.cells a∧Lay.inn w a
 size:P.cellsOf T=Enc.sz α
theorem str_of (s:ByteArray):Value.string s=str s.data.toList:=by simp[str]
theorem troI {P:Program} {T:TypeId} (hu:P.underlying T=some (.int .i64)) (hs:P.cellsOf T=1):Tro P T Int:=⟨fun enc w base spare held fuel cs x h=>by
 obtain ⟨k,e0,_,_⟩:=DataW.trod_int hu h
 exact ⟨k,e0,trivial⟩,hs⟩
theorem troS {P:Program} {T:TypeId} (hu:P.underlying T=some .string) (hs:P.cellsOf T=1):Tro P T (List UInt8):=⟨fun enc w base spare held fuel cs x h=>by
 obtain ⟨s,e0,_⟩:=DataW.trod_string hu h
 exact ⟨s.data.toList,by rw[e0,str_of];rfl,trivial⟩,hs⟩
theorem troSl {P:Program} {T L:TypeId} {α:Type} [Lay α] [hT:Tro P T α] (hu:P.underlying L=some (.slice T)) (hs:P.cellsOf L=1):Tro P L (Sl α):=⟨fun enc w base spare held fuel cs x h=>by
 rcases DataW.trod_slice hu h with ⟨e4,_⟩ | ⟨ad,len,cap,elems,rest,n',rfl,e4,_,_,hlc,hcm,hel,hem,_,_⟩
 exact ⟨⟨none,0,[]⟩,e4,Nat.le_refl _,Nat.zero_le _,gl_nil⟩
 subst e4
 have:Inhabited α:=⟨Lay.dflt⟩
 obtain ⟨g,hg⟩:=choose_lt (α:=α) (p:=fun i t=>w.cells? base (ad.add (i*Enc.sz α)) (Enc.sz α)=some (Enc.cells t)∧Lay.inn w t) (n:=len) (fun i hi=>by
  have h1:=hem i hi
  rw[hT.size,List.getElem?_eq_getElem (by omega)]at h1
  obtain ⟨cs',h2,h3⟩:=Option.bind_eq_some_iff.1 h1
  obtain ⟨t,rfl,ht⟩:=hT.of _ _ _ _ _ _ _ _ h3
  exact ⟨t,h2,ht⟩)
 refine ⟨⟨some ad,cap,(List.range len).map g⟩,by simp[Enc.cells,Sl.v],by simpa using hlc,hcm,⟨fun h=>(by cases h),fun ad' hp j u hj=>?_⟩,fun t ht=>?_⟩
 obtain rfl:ad=ad':=by simpa using hp
 have hjl:j < len*Enc.sz α:=by
  have:=(List.getElem?_eq_some_iff.1 hj).1
  rw[encL_len]at this;simpa using this
 have hz:0 < Enc.sz α:=Nat.pos_of_ne_zero fun h0=>by rw[h0]at hjl;omega
 have hi:j / Enc.sz α < len:=(Nat.div_lt_iff_lt_mul hz).2 hjl
 have hm:j % Enc.sz α < Enc.sz α:=Nat.mod_lt _ hz
 have hdm:j / Enc.sz α*Enc.sz α+j % Enc.sz α=j:=Nat.div_add_mod' j _
 obtain ⟨hc,-⟩:=hg _ hi
 obtain ⟨_,_,h5⟩:=World.cells?_some hc
 have h6:=h5 _ hm
 have h7:=encL_get ((List.range len).map g) (j / Enc.sz α) (g (j / Enc.sz α)) (by simp[hi]) _ hm
 rw[hdm,hj]at h7
 rw[Go.Deep.add_add,hdm]at h6
 rw[h6,←h7]
 obtain ⟨i,hi,rfl⟩:=List.mem_map.1 ht
 exact (hg i (List.mem_range.1 hi)).2,hs⟩
theorem trod_flds {H:Type} {enc:TypeId × Value→H} {P:Program} {w:World} {base:Nat} {spare:Nat→Bool} {held:Bool} {T:TypeId} {fs:Array Field} (hu:P.underlying T=some (.struct fs)) {fuel:Nat} {cs:List Value} {x:DataW H × List MemPlace} (h:DataW.trod enc P w base spare held fuel T cs=some x) :
  cs.length=P.cellsOf T∧∀ (i t o:Nat),(fs.toList.map (fun f=>(f.type,f.offset)))[i]? = some (t,o)→∃ n y,DataW.trod enc P w base spare held n t ((cs.drop o).take (P.cellsOf t))=some y:=by
 obtain ⟨xs,n,rfl,rfl,hlen,hxl,hx⟩:=DataW.trod_struct hu h
 refine ⟨hlen,fun i t o hi=>?_⟩
 rw[List.getElem?_map]at hi
 obtain ⟨f,hf1,hf2⟩:=Option.map_eq_some_iff.1 hi
 simp only[Prod.mk.injEq]at hf2
 obtain ⟨rfl,rfl⟩:=hf2
 have hlt:i < fs.size:=by simpa using (List.getElem?_eq_some_iff.1 hf1).1
 have:=hx i f (by simpa using hf1)
 rw[List.getElem?_eq_getElem (by omega)]at this
 exact ⟨n,_,this⟩
theorem trod_fld {H:Type} {enc:TypeId × Value→H} {P:Program} {w:World} {base:Nat} {spare:Nat→Bool} {held:Bool} {T:TypeId} {α:Type} [Lay α] [hT:Tro P T α] {n:Nat} {cs:List Value} {y:DataW H × List MemPlace} {o s:Nat} (h:DataW.trod enc P w base spare held n T ((cs.drop o).take s)=some y) (hs:s=P.cellsOf T) :
  ∃ a:α,(cs.drop o).take (Enc.sz α)=Enc.cells a∧Lay.inn w a:=by
 subst hs
 obtain ⟨a,h1,h2⟩:=hT.of _ _ _ _ _ _ _ _ h
 exact ⟨a,by rw[←hT.size];exact h1,h2⟩
theorem troT {P:Program} {T:TypeId} [hT:TermTy P T]:Tro P T LTerm:=⟨fun enc w base spare held fuel cs x h=>term_of_trod fuel cs x h,by obtain ⟨fs,I,S,L,hu,hf,hI,hS,hL,c1,c2,c3,c4⟩:=hT.ex;exact c1⟩
theorem slice_of_Trod {P:Program} {L T:TypeId} {α:Type} [Lay α] [hT:Tro P L (Sl α)] {H:Type} {enc:TypeId × Value→H} {w:World} {base:Nat} {spare:Nat→Bool} {held:Bool} (hu:P.underlying L=some (.slice T)) {v:Value} {d:DataW H} {p:List MemPlace} {r:Reach} {W:World} {base':Nat} (h:DataW.Trod enc P w base spare held L v d p) (hv:Value.okWide P W r base' L v) :
  ∃ s:Sl α,v=s.v∧s.xs.length≤s.cap∧s.cap≤maxLen∧GlF s.p s.xs w:=by
 obtain ⟨a,len,cap,rfl⟩:=okWide_slice hu hv
 obtain ⟨fuel,hf⟩:=h
 obtain ⟨s,e,hs⟩:=hT.of _ _ _ _ _ _ _ _ hf
 refine ⟨s,?_,hs⟩
 have:[Value.slice a len cap]=[s.v]:=by simpa [Value.cells,Enc.cells] using e
 simpa using this
open Go
class SetG (l:List Value) (ms:List (Nat × Value)) (l':outParam (List Value)):Prop where ok:True
instance setg0 {l:List Value} : SetG l [] l:=⟨trivial⟩
instance setg1 {u v:Value} {l l':List Value} {ms:List (Nat × Value)} [SetG l ms l']:SetG (u::l) ((0,v)::ms) (v::l'):=⟨trivial⟩
instance setg2 {u v:Value} {g:Nat} {l l':List Value} {ms:List (Nat × Value)} [SetG l ((g,v)::ms) l']:SetG (u::l) ((g+1,v)::ms) (u::l'):=⟨trivial⟩
section
variable {P:Program} {r:Option Nat} {Q:Exit→Act→World→Prop} {w0:World} {M0:Nat→Prop} {ds:List Deferred} {a:Act} {w:World} {l:List Value} {bs:List Item} {fs:List (World→Prop)}
theorem c_drwe0 {id:Nat} {lo:List Oper}  (t:Tr) (S:St w0 M0 ds a w l bs fs) (mods:(Nat→Value)→List (Nat × Value)) {l1:(Nat→Value)→List Value} [∀ uu,SetG l (mods uu) (l1 uu)] (bs0:List Item) (bs1:List Item) (fs1:List (World→Prop)) (rel:Prop)
  (h:∀ w,St w0 M0 ds a w l bs fs→AT P lo.toArray (fun w=>Wd w0 M0 w bs0 fs) (fun a w=>∃ vv,rel∧St w0 M0 ds a w (l1 vv) bs1 fs1) t a w) (hK:∀  uu a w,rel→St w0 M0 ds a w (l1 uu) bs1 fs1→Q .normal a w) (hm:P.follows .mixedOrders=true:=by kernel_rfl)
  (hd:((lo.all fun o=>!isDefer o.op)&&(Nat.beq t.len lo.length&&(Region.noSelect lo.toArray&&flowT lo.toArray t (Array.replicate lo.length false))))=true:=by kernel_rfl):Wp P r (.region id lo.toArray true) Q a w:=
 c_drawT t bs0 S _ h (fun a w h=>by obtain ⟨vv,h1,h2⟩:=h;exact hK  vv a w h1 h2) hm hd
theorem c_fore1 {c:Code} {ι1:Type} (_S:St w0 M0 ds a w l bs fs) (mods:ι1→(Nat→Value)→List (Nat × Value)) {l1:ι1→(Nat→Value)→List Value} [∀ x1 uu,SetG l (mods x1 uu) (l1 x1 uu)] (bs1:ι1→List Item) (fs1:ι1→List (World→Prop)) (rel:ι1→Prop) (μ:ι1→Nat) (z1:ι1) (h0:rel z1) (uu0:Nat→Value) (S0:St w0 M0 ds a w (l1 z1 uu0) (bs1 z1) (fs1 z1))
  (hr:∀ x1 uu a w,rel x1→St w0 M0 ds a w (l1 x1 uu) (bs1 x1) (fs1 x1)→Wp P r c (Exit.then (fun a w=>∃ y1 vv,rel y1∧St w0 M0 ds a w (l1 y1 vv) (bs1 y1) (fs1 y1)∧μ y1 < μ x1) Q) a w):Wp P r (.loop c) Q a w:=by
 refine c_loop (ι:=ι1) (fun p a w=>rel p∧∃ uu,St w0 M0 ds a w (l1 p uu) (bs1 p) (fs1 p)) (fun p=>μ p) (z1) ⟨h0,uu0,S0⟩ ?_
 rintro p a w ⟨h1,uu,S1⟩
 refine wpIn_mono (hr p uu a w h1 S1) fun e a1 w1 hq=>?_
 cases e <;> first | exact hq | skip
 obtain ⟨y1,vv,h2,S2,hm⟩:=hq
 exact ⟨y1,⟨h2,vv,S2⟩,hm⟩
theorem c_mrge1 {x y:Code} {ι1:Type} (_S:St w0 M0 ds a w l bs fs) (mods:ι1→(Nat→Value)→List (Nat × Value)) {l1:ι1→(Nat→Value)→List Value} [∀ x1 uu,SetG l (mods x1 uu) (l1 x1 uu)] (bs1:ι1→List Item) (fs1:ι1→List (World→Prop)) (rel:ι1→Prop)
  (hx:Wp P r x (Exit.then (fun a w=>∃ y1 vv,rel y1∧St w0 M0 ds a w (l1 y1 vv) (bs1 y1) (fs1 y1)) Q) a w) (hy:∀ x1 uu a w,rel x1→St w0 M0 ds a w (l1 x1 uu) (bs1 x1) (fs1 x1)→Wp P r y Q a w):Wp P r (.seq x y) Q a w:=
 c_merge _ hx fun a w h=>by obtain ⟨y1,vv,h1,h2⟩:=h;exact hy y1 vv a w h1 h2
theorem c_drwe1 {id:Nat} {lo:List Oper} {ι1:Type} (t:Tr) (S:St w0 M0 ds a w l bs fs) (mods:ι1→(Nat→Value)→List (Nat × Value)) {l1:ι1→(Nat→Value)→List Value} [∀ x1 uu,SetG l (mods x1 uu) (l1 x1 uu)] (bs0:List Item) (bs1:ι1→List Item) (fs1:ι1→List (World→Prop)) (rel:ι1→Prop)
  (h:∀ w,St w0 M0 ds a w l bs fs→AT P lo.toArray (fun w=>Wd w0 M0 w bs0 fs) (fun a w=>∃ y1 vv,rel y1∧St w0 M0 ds a w (l1 y1 vv) (bs1 y1) (fs1 y1)) t a w) (hK:∀ x1 uu a w,rel x1→St w0 M0 ds a w (l1 x1 uu) (bs1 x1) (fs1 x1)→Q .normal a w) (hm:P.follows .mixedOrders=true:=by kernel_rfl)
  (hd:((lo.all fun o=>!isDefer o.op)&&(Nat.beq t.len lo.length&&(Region.noSelect lo.toArray&&flowT lo.toArray t (Array.replicate lo.length false))))=true:=by kernel_rfl):Wp P r (.region id lo.toArray true) Q a w:=
 c_drawT t bs0 S _ h (fun a w h=>by obtain ⟨y1,vv,h1,h2⟩:=h;exact hK y1 vv a w h1 h2) hm hd
theorem c_forb1 {c:Code} {ι1:Type} (_S:St w0 M0 ds a w l bs fs) (mods:ι1→(Nat→Value)→List (Nat × Value)) {l1:ι1→(Nat→Value)→List Value} [∀ x1 uu,SetG l (mods x1 uu) (l1 x1 uu)]   (rel:ι1→Prop) (μ:ι1→Nat) (z1:ι1) (h0:rel z1) (uu0:Nat→Value) (S0:St w0 M0 ds a w (l1 z1 uu0) bs fs)
  (hr:∀ x1 uu a w,rel x1→St w0 M0 ds a w (l1 x1 uu) bs fs→Wp P r c (Exit.then (fun a w=>∃ y1 vv,rel y1∧St w0 M0 ds a w (l1 y1 vv) bs fs∧μ y1 < μ x1) Q) a w):Wp P r (.loop c) Q a w:=by
 refine c_loop (ι:=ι1) (fun p a w=>rel p∧∃ uu,St w0 M0 ds a w (l1 p uu) bs fs) (fun p=>μ p) (z1) ⟨h0,uu0,S0⟩ ?_
 rintro p a w ⟨h1,uu,S1⟩
 refine wpIn_mono (hr p uu a w h1 S1) fun e a1 w1 hq=>?_
 cases e <;> first | exact hq | skip
 obtain ⟨y1,vv,h2,S2,hm⟩:=hq
 exact ⟨y1,⟨h2,vv,S2⟩,hm⟩
theorem c_forf1 {c:Code} {ι1:Type} (_S:St w0 M0 ds a w l bs fs) (mods:ι1→(Nat→Value)→List (Nat × Value)) {l1:ι1→(Nat→Value)→List Value} [∀ x1 uu,SetG l (mods x1 uu) (l1 x1 uu)] (bs1:ι1→List Item)  (rel:ι1→Prop) (μ:ι1→Nat) (z1:ι1) (h0:rel z1) (uu0:Nat→Value) (S0:St w0 M0 ds a w (l1 z1 uu0) (bs1 z1) fs)
  (hr:∀ x1 uu a w,rel x1→St w0 M0 ds a w (l1 x1 uu) (bs1 x1) fs→Wp P r c (Exit.then (fun a w=>∃ y1 vv,rel y1∧St w0 M0 ds a w (l1 y1 vv) (bs1 y1) fs∧μ y1 < μ x1) Q) a w):Wp P r (.loop c) Q a w:=by
 refine c_loop (ι:=ι1) (fun p a w=>rel p∧∃ uu,St w0 M0 ds a w (l1 p uu) (bs1 p) fs) (fun p=>μ p) (z1) ⟨h0,uu0,S0⟩ ?_
 rintro p a w ⟨h1,uu,S1⟩
 refine wpIn_mono (hr p uu a w h1 S1) fun e a1 w1 hq=>?_
 cases e <;> first | exact hq | skip
 obtain ⟨y1,vv,h2,S2,hm⟩:=hq
 exact ⟨y1,⟨h2,vv,S2⟩,hm⟩
theorem c_fore2 {c:Code} {ι1:Type} {ι2:Type} (_S:St w0 M0 ds a w l bs fs) (mods:ι1→ι2→(Nat→Value)→List (Nat × Value)) {l1:ι1→ι2→(Nat→Value)→List Value} [∀ x1 x2 uu,SetG l (mods x1 x2 uu) (l1 x1 x2 uu)] (bs1:ι1→ι2→List Item) (fs1:ι1→ι2→List (World→Prop)) (rel:ι1→ι2→Prop) (μ:ι1→ι2→Nat) (z1:ι1) (z2:ι2) (h0:rel z1 z2) (uu0:Nat→Value) (S0:St w0 M0 ds a w (l1 z1 z2 uu0) (bs1 z1 z2) (fs1 z1 z2))
  (hr:∀ x1 x2 uu a w,rel x1 x2→St w0 M0 ds a w (l1 x1 x2 uu) (bs1 x1 x2) (fs1 x1 x2)→Wp P r c (Exit.then (fun a w=>∃ y1 y2 vv,rel y1 y2∧St w0 M0 ds a w (l1 y1 y2 vv) (bs1 y1 y2) (fs1 y1 y2)∧μ y1 y2 < μ x1 x2) Q) a w):Wp P r (.loop c) Q a w:=by
 refine c_loop (ι:=ι1 × ι2) (fun p a w=>rel (p.1) (p.2)∧∃ uu,St w0 M0 ds a w (l1 (p.1) (p.2) uu) (bs1 (p.1) (p.2)) (fs1 (p.1) (p.2))) (fun p=>μ (p.1) (p.2)) (z1,z2) ⟨h0,uu0,S0⟩ ?_
 rintro p a w ⟨h1,uu,S1⟩
 refine wpIn_mono (hr (p.1) (p.2) uu a w h1 S1) fun e a1 w1 hq=>?_
 cases e <;> first | exact hq | skip
 obtain ⟨y1,y2,vv,h2,S2,hm⟩:=hq
 exact ⟨(y1,y2),⟨h2,vv,S2⟩,hm⟩
theorem c_mrge2 {x y:Code} {ι1:Type} {ι2:Type} (_S:St w0 M0 ds a w l bs fs) (mods:ι1→ι2→(Nat→Value)→List (Nat × Value)) {l1:ι1→ι2→(Nat→Value)→List Value} [∀ x1 x2 uu,SetG l (mods x1 x2 uu) (l1 x1 x2 uu)] (bs1:ι1→ι2→List Item) (fs1:ι1→ι2→List (World→Prop)) (rel:ι1→ι2→Prop)
  (hx:Wp P r x (Exit.then (fun a w=>∃ y1 y2 vv,rel y1 y2∧St w0 M0 ds a w (l1 y1 y2 vv) (bs1 y1 y2) (fs1 y1 y2)) Q) a w) (hy:∀ x1 x2 uu a w,rel x1 x2→St w0 M0 ds a w (l1 x1 x2 uu) (bs1 x1 x2) (fs1 x1 x2)→Wp P r y Q a w):Wp P r (.seq x y) Q a w:=
 c_merge _ hx fun a w h=>by obtain ⟨y1,y2,vv,h1,h2⟩:=h;exact hy y1 y2 vv a w h1 h2
theorem c_drwe2 {id:Nat} {lo:List Oper} {ι1:Type} {ι2:Type} (t:Tr) (S:St w0 M0 ds a w l bs fs) (mods:ι1→ι2→(Nat→Value)→List (Nat × Value)) {l1:ι1→ι2→(Nat→Value)→List Value} [∀ x1 x2 uu,SetG l (mods x1 x2 uu) (l1 x1 x2 uu)] (bs0:List Item) (bs1:ι1→ι2→List Item) (fs1:ι1→ι2→List (World→Prop)) (rel:ι1→ι2→Prop)
  (h:∀ w,St w0 M0 ds a w l bs fs→AT P lo.toArray (fun w=>Wd w0 M0 w bs0 fs) (fun a w=>∃ y1 y2 vv,rel y1 y2∧St w0 M0 ds a w (l1 y1 y2 vv) (bs1 y1 y2) (fs1 y1 y2)) t a w) (hK:∀ x1 x2 uu a w,rel x1 x2→St w0 M0 ds a w (l1 x1 x2 uu) (bs1 x1 x2) (fs1 x1 x2)→Q .normal a w) (hm:P.follows .mixedOrders=true:=by kernel_rfl)
  (hd:((lo.all fun o=>!isDefer o.op)&&(Nat.beq t.len lo.length&&(Region.noSelect lo.toArray&&flowT lo.toArray t (Array.replicate lo.length false))))=true:=by kernel_rfl):Wp P r (.region id lo.toArray true) Q a w:=
 c_drawT t bs0 S _ h (fun a w h=>by obtain ⟨y1,y2,vv,h1,h2⟩:=h;exact hK y1 y2 vv a w h1 h2) hm hd
theorem c_forb2 {c:Code} {ι1:Type} {ι2:Type} (_S:St w0 M0 ds a w l bs fs) (mods:ι1→ι2→(Nat→Value)→List (Nat × Value)) {l1:ι1→ι2→(Nat→Value)→List Value} [∀ x1 x2 uu,SetG l (mods x1 x2 uu) (l1 x1 x2 uu)]   (rel:ι1→ι2→Prop) (μ:ι1→ι2→Nat) (z1:ι1) (z2:ι2) (h0:rel z1 z2) (uu0:Nat→Value) (S0:St w0 M0 ds a w (l1 z1 z2 uu0) bs fs)
  (hr:∀ x1 x2 uu a w,rel x1 x2→St w0 M0 ds a w (l1 x1 x2 uu) bs fs→Wp P r c (Exit.then (fun a w=>∃ y1 y2 vv,rel y1 y2∧St w0 M0 ds a w (l1 y1 y2 vv) bs fs∧μ y1 y2 < μ x1 x2) Q) a w):Wp P r (.loop c) Q a w:=by
 refine c_loop (ι:=ι1 × ι2) (fun p a w=>rel (p.1) (p.2)∧∃ uu,St w0 M0 ds a w (l1 (p.1) (p.2) uu) bs fs) (fun p=>μ (p.1) (p.2)) (z1,z2) ⟨h0,uu0,S0⟩ ?_
 rintro p a w ⟨h1,uu,S1⟩
 refine wpIn_mono (hr (p.1) (p.2) uu a w h1 S1) fun e a1 w1 hq=>?_
 cases e <;> first | exact hq | skip
 obtain ⟨y1,y2,vv,h2,S2,hm⟩:=hq
 exact ⟨(y1,y2),⟨h2,vv,S2⟩,hm⟩
theorem c_fore3 {c:Code} {ι1:Type} {ι2:Type} {ι3:Type} (_S:St w0 M0 ds a w l bs fs) (mods:ι1→ι2→ι3→(Nat→Value)→List (Nat × Value)) {l1:ι1→ι2→ι3→(Nat→Value)→List Value} [∀ x1 x2 x3 uu,SetG l (mods x1 x2 x3 uu) (l1 x1 x2 x3 uu)] (bs1:ι1→ι2→ι3→List Item) (fs1:ι1→ι2→ι3→List (World→Prop)) (rel:ι1→ι2→ι3→Prop) (μ:ι1→ι2→ι3→Nat) (z1:ι1) (z2:ι2) (z3:ι3) (h0:rel z1 z2 z3) (uu0:Nat→Value) (S0:St w0 M0 ds a w (l1 z1 z2 z3 uu0) (bs1 z1 z2 z3) (fs1 z1 z2 z3))
  (hr:∀ x1 x2 x3 uu a w,rel x1 x2 x3→St w0 M0 ds a w (l1 x1 x2 x3 uu) (bs1 x1 x2 x3) (fs1 x1 x2 x3)→Wp P r c (Exit.then (fun a w=>∃ y1 y2 y3 vv,rel y1 y2 y3∧St w0 M0 ds a w (l1 y1 y2 y3 vv) (bs1 y1 y2 y3) (fs1 y1 y2 y3)∧μ y1 y2 y3 < μ x1 x2 x3) Q) a w):Wp P r (.loop c) Q a w:=by
 refine c_loop (ι:=ι1 × ι2 × ι3) (fun p a w=>rel (p.1) (p.2.1) (p.2.2)∧∃ uu,St w0 M0 ds a w (l1 (p.1) (p.2.1) (p.2.2) uu) (bs1 (p.1) (p.2.1) (p.2.2)) (fs1 (p.1) (p.2.1) (p.2.2))) (fun p=>μ (p.1) (p.2.1) (p.2.2)) (z1,z2,z3) ⟨h0,uu0,S0⟩ ?_
 rintro p a w ⟨h1,uu,S1⟩
 refine wpIn_mono (hr (p.1) (p.2.1) (p.2.2) uu a w h1 S1) fun e a1 w1 hq=>?_
 cases e <;> first | exact hq | skip
 obtain ⟨y1,y2,y3,vv,h2,S2,hm⟩:=hq
 exact ⟨(y1,y2,y3),⟨h2,vv,S2⟩,hm⟩
theorem c_mrge3 {x y:Code} {ι1:Type} {ι2:Type} {ι3:Type} (_S:St w0 M0 ds a w l bs fs) (mods:ι1→ι2→ι3→(Nat→Value)→List (Nat × Value)) {l1:ι1→ι2→ι3→(Nat→Value)→List Value} [∀ x1 x2 x3 uu,SetG l (mods x1 x2 x3 uu) (l1 x1 x2 x3 uu)] (bs1:ι1→ι2→ι3→List Item) (fs1:ι1→ι2→ι3→List (World→Prop)) (rel:ι1→ι2→ι3→Prop)
  (hx:Wp P r x (Exit.then (fun a w=>∃ y1 y2 y3 vv,rel y1 y2 y3∧St w0 M0 ds a w (l1 y1 y2 y3 vv) (bs1 y1 y2 y3) (fs1 y1 y2 y3)) Q) a w) (hy:∀ x1 x2 x3 uu a w,rel x1 x2 x3→St w0 M0 ds a w (l1 x1 x2 x3 uu) (bs1 x1 x2 x3) (fs1 x1 x2 x3)→Wp P r y Q a w):Wp P r (.seq x y) Q a w:=
 c_merge _ hx fun a w h=>by obtain ⟨y1,y2,y3,vv,h1,h2⟩:=h;exact hy y1 y2 y3 vv a w h1 h2
theorem c_fore4 {c:Code} {ι1:Type} {ι2:Type} {ι3:Type} {ι4:Type} (_S:St w0 M0 ds a w l bs fs) (mods:ι1→ι2→ι3→ι4→(Nat→Value)→List (Nat × Value)) {l1:ι1→ι2→ι3→ι4→(Nat→Value)→List Value} [∀ x1 x2 x3 x4 uu,SetG l (mods x1 x2 x3 x4 uu) (l1 x1 x2 x3 x4 uu)] (bs1:ι1→ι2→ι3→ι4→List Item) (fs1:ι1→ι2→ι3→ι4→List (World→Prop)) (rel:ι1→ι2→ι3→ι4→Prop) (μ:ι1→ι2→ι3→ι4→Nat) (z1:ι1) (z2:ι2) (z3:ι3) (z4:ι4) (h0:rel z1 z2 z3 z4) (uu0:Nat→Value) (S0:St w0 M0 ds a w (l1 z1 z2 z3 z4 uu0) (bs1 z1 z2 z3 z4) (fs1 z1 z2 z3 z4))
  (hr:∀ x1 x2 x3 x4 uu a w,rel x1 x2 x3 x4→St w0 M0 ds a w (l1 x1 x2 x3 x4 uu) (bs1 x1 x2 x3 x4) (fs1 x1 x2 x3 x4)→Wp P r c (Exit.then (fun a w=>∃ y1 y2 y3 y4 vv,rel y1 y2 y3 y4∧St w0 M0 ds a w (l1 y1 y2 y3 y4 vv) (bs1 y1 y2 y3 y4) (fs1 y1 y2 y3 y4)∧μ y1 y2 y3 y4 < μ x1 x2 x3 x4) Q) a w):Wp P r (.loop c) Q a w:=by
 refine c_loop (ι:=ι1 × ι2 × ι3 × ι4) (fun p a w=>rel (p.1) (p.2.1) (p.2.2.1) (p.2.2.2)∧∃ uu,St w0 M0 ds a w (l1 (p.1) (p.2.1) (p.2.2.1) (p.2.2.2) uu) (bs1 (p.1) (p.2.1) (p.2.2.1) (p.2.2.2)) (fs1 (p.1) (p.2.1) (p.2.2.1) (p.2.2.2))) (fun p=>μ (p.1) (p.2.1) (p.2.2.1) (p.2.2.2)) (z1,z2,z3,z4) ⟨h0,uu0,S0⟩ ?_
 rintro p a w ⟨h1,uu,S1⟩
 refine wpIn_mono (hr (p.1) (p.2.1) (p.2.2.1) (p.2.2.2) uu a w h1 S1) fun e a1 w1 hq=>?_
 cases e <;> first | exact hq | skip
 obtain ⟨y1,y2,y3,y4,vv,h2,S2,hm⟩:=hq
 exact ⟨(y1,y2,y3,y4),⟨h2,vv,S2⟩,hm⟩
theorem c_drwe4 {id:Nat} {lo:List Oper} {ι1:Type} {ι2:Type} {ι3:Type} {ι4:Type} (t:Tr) (S:St w0 M0 ds a w l bs fs) (mods:ι1→ι2→ι3→ι4→(Nat→Value)→List (Nat × Value)) {l1:ι1→ι2→ι3→ι4→(Nat→Value)→List Value} [∀ x1 x2 x3 x4 uu,SetG l (mods x1 x2 x3 x4 uu) (l1 x1 x2 x3 x4 uu)] (bs0:List Item) (bs1:ι1→ι2→ι3→ι4→List Item) (fs1:ι1→ι2→ι3→ι4→List (World→Prop)) (rel:ι1→ι2→ι3→ι4→Prop)
  (h:∀ w,St w0 M0 ds a w l bs fs→AT P lo.toArray (fun w=>Wd w0 M0 w bs0 fs) (fun a w=>∃ y1 y2 y3 y4 vv,rel y1 y2 y3 y4∧St w0 M0 ds a w (l1 y1 y2 y3 y4 vv) (bs1 y1 y2 y3 y4) (fs1 y1 y2 y3 y4)) t a w) (hK:∀ x1 x2 x3 x4 uu a w,rel x1 x2 x3 x4→St w0 M0 ds a w (l1 x1 x2 x3 x4 uu) (bs1 x1 x2 x3 x4) (fs1 x1 x2 x3 x4)→Q .normal a w) (hm:P.follows .mixedOrders=true:=by kernel_rfl)
  (hd:((lo.all fun o=>!isDefer o.op)&&(Nat.beq t.len lo.length&&(Region.noSelect lo.toArray&&flowT lo.toArray t (Array.replicate lo.length false))))=true:=by kernel_rfl):Wp P r (.region id lo.toArray true) Q a w:=
 c_drawT t bs0 S _ h (fun a w h=>by obtain ⟨y1,y2,y3,y4,vv,h1,h2⟩:=h;exact hK y1 y2 y3 y4 vv a w h1 h2) hm hd
theorem c_forf4 {c:Code} {ι1:Type} {ι2:Type} {ι3:Type} {ι4:Type} (S:St w0 M0 ds a w l bs fs) (mods:ι1→ι2→ι3→ι4→(Nat→Value)→List (Nat × Value)) {l1:ι1→ι2→ι3→ι4→(Nat→Value)→List Value} [∀ x1 x2 x3 x4 uu,SetG l (mods x1 x2 x3 x4 uu) (l1 x1 x2 x3 x4 uu)] (bs1:ι1→ι2→ι3→ι4→List Item)  (rel:ι1→ι2→ι3→ι4→Prop) (μ:ι1→ι2→ι3→ι4→Nat) (z1:ι1) (z2:ι2) (z3:ι3) (z4:ι4) (h0:rel z1 z2 z3 z4) (uu0:Nat→Value) (S0:St w0 M0 ds a w (l1 z1 z2 z3 z4 uu0) (bs1 z1 z2 z3 z4) fs)
  (hr:∀ x1 x2 x3 x4 uu a w,rel x1 x2 x3 x4→St w0 M0 ds a w (l1 x1 x2 x3 x4 uu) (bs1 x1 x2 x3 x4) fs→Wp P r c (Exit.then (fun a w=>∃ y1 y2 y3 y4 vv,rel y1 y2 y3 y4∧St w0 M0 ds a w (l1 y1 y2 y3 y4 vv) (bs1 y1 y2 y3 y4) fs∧μ y1 y2 y3 y4 < μ x1 x2 x3 x4) Q) a w):Wp P r (.loop c) Q a w:=by
 refine c_loop (ι:=ι1 × ι2 × ι3 × ι4) (fun p a w=>rel (p.1) (p.2.1) (p.2.2.1) (p.2.2.2)∧∃ uu,St w0 M0 ds a w (l1 (p.1) (p.2.1) (p.2.2.1) (p.2.2.2) uu) (bs1 (p.1) (p.2.1) (p.2.2.1) (p.2.2.2)) fs) (fun p=>μ (p.1) (p.2.1) (p.2.2.1) (p.2.2.2)) (z1,z2,z3,z4) ⟨h0,uu0,S0⟩ ?_
 rintro p a w ⟨h1,uu,S1⟩
 refine wpIn_mono (hr (p.1) (p.2.1) (p.2.2.1) (p.2.2.2) uu a w h1 S1) fun e a1 w1 hq=>?_
 cases e <;> first | exact hq | skip
 obtain ⟨y1,y2,y3,y4,vv,h2,S2,hm⟩:=hq
 exact ⟨(y1,y2,y3,y4),⟨h2,vv,S2⟩,hm⟩
theorem c_fore5 {c:Code} {ι1:Type} {ι2:Type} {ι3:Type} {ι4:Type} {ι5:Type} (_S:St w0 M0 ds a w l bs fs) (mods:ι1→ι2→ι3→ι4→ι5→(Nat→Value)→List (Nat × Value)) {l1:ι1→ι2→ι3→ι4→ι5→(Nat→Value)→List Value} [∀ x1 x2 x3 x4 x5 uu,SetG l (mods x1 x2 x3 x4 x5 uu) (l1 x1 x2 x3 x4 x5 uu)] (bs1:ι1→ι2→ι3→ι4→ι5→List Item) (fs1:ι1→ι2→ι3→ι4→ι5→List (World→Prop)) (rel:ι1→ι2→ι3→ι4→ι5→Prop) (μ:ι1→ι2→ι3→ι4→ι5→Nat) (z1:ι1) (z2:ι2) (z3:ι3) (z4:ι4) (z5:ι5) (h0:rel z1 z2 z3 z4 z5) (uu0:Nat→Value) (S0:St w0 M0 ds a w (l1 z1 z2 z3 z4 z5 uu0) (bs1 z1 z2 z3 z4 z5) (fs1 z1 z2 z3 z4 z5))
  (hr:∀ x1 x2 x3 x4 x5 uu a w,rel x1 x2 x3 x4 x5→St w0 M0 ds a w (l1 x1 x2 x3 x4 x5 uu) (bs1 x1 x2 x3 x4 x5) (fs1 x1 x2 x3 x4 x5)→Wp P r c (Exit.then (fun a w=>∃ y1 y2 y3 y4 y5 vv,rel y1 y2 y3 y4 y5∧St w0 M0 ds a w (l1 y1 y2 y3 y4 y5 vv) (bs1 y1 y2 y3 y4 y5) (fs1 y1 y2 y3 y4 y5)∧μ y1 y2 y3 y4 y5 < μ x1 x2 x3 x4 x5) Q) a w):Wp P r (.loop c) Q a w:=by
 refine c_loop (ι:=ι1 × ι2 × ι3 × ι4 × ι5) (fun p a w=>rel (p.1) (p.2.1) (p.2.2.1) (p.2.2.2.1) (p.2.2.2.2)∧∃ uu,St w0 M0 ds a w (l1 (p.1) (p.2.1) (p.2.2.1) (p.2.2.2.1) (p.2.2.2.2) uu) (bs1 (p.1) (p.2.1) (p.2.2.1) (p.2.2.2.1) (p.2.2.2.2)) (fs1 (p.1) (p.2.1) (p.2.2.1) (p.2.2.2.1) (p.2.2.2.2))) (fun p=>μ (p.1) (p.2.1) (p.2.2.1) (p.2.2.2.1) (p.2.2.2.2)) (z1,z2,z3,z4,z5) ⟨h0,uu0,S0⟩ ?_
 rintro p a w ⟨h1,uu,S1⟩
 refine wpIn_mono (hr (p.1) (p.2.1) (p.2.2.1) (p.2.2.2.1) (p.2.2.2.2) uu a w h1 S1) fun e a1 w1 hq=>?_
 cases e <;> first | exact hq | skip
 obtain ⟨y1,y2,y3,y4,y5,vv,h2,S2,hm⟩:=hq
 exact ⟨(y1,y2,y3,y4,y5),⟨h2,vv,S2⟩,hm⟩
theorem c_forf5 {c:Code} {ι1:Type} {ι2:Type} {ι3:Type} {ι4:Type} {ι5:Type} (_S:St w0 M0 ds a w l bs fs) (mods:ι1→ι2→ι3→ι4→ι5→(Nat→Value)→List (Nat × Value)) {l1:ι1→ι2→ι3→ι4→ι5→(Nat→Value)→List Value} [∀ x1 x2 x3 x4 x5 uu,SetG l (mods x1 x2 x3 x4 x5 uu) (l1 x1 x2 x3 x4 x5 uu)] (bs1:ι1→ι2→ι3→ι4→ι5→List Item)  (rel:ι1→ι2→ι3→ι4→ι5→Prop) (μ:ι1→ι2→ι3→ι4→ι5→Nat) (z1:ι1) (z2:ι2) (z3:ι3) (z4:ι4) (z5:ι5) (h0:rel z1 z2 z3 z4 z5) (uu0:Nat→Value) (S0:St w0 M0 ds a w (l1 z1 z2 z3 z4 z5 uu0) (bs1 z1 z2 z3 z4 z5) fs)
  (hr:∀ x1 x2 x3 x4 x5 uu a w,rel x1 x2 x3 x4 x5→St w0 M0 ds a w (l1 x1 x2 x3 x4 x5 uu) (bs1 x1 x2 x3 x4 x5) fs→Wp P r c (Exit.then (fun a w=>∃ y1 y2 y3 y4 y5 vv,rel y1 y2 y3 y4 y5∧St w0 M0 ds a w (l1 y1 y2 y3 y4 y5 vv) (bs1 y1 y2 y3 y4 y5) fs∧μ y1 y2 y3 y4 y5 < μ x1 x2 x3 x4 x5) Q) a w):Wp P r (.loop c) Q a w:=by
 refine c_loop (ι:=ι1 × ι2 × ι3 × ι4 × ι5) (fun p a w=>rel (p.1) (p.2.1) (p.2.2.1) (p.2.2.2.1) (p.2.2.2.2)∧∃ uu,St w0 M0 ds a w (l1 (p.1) (p.2.1) (p.2.2.1) (p.2.2.2.1) (p.2.2.2.2) uu) (bs1 (p.1) (p.2.1) (p.2.2.1) (p.2.2.2.1) (p.2.2.2.2)) fs) (fun p=>μ (p.1) (p.2.1) (p.2.2.1) (p.2.2.2.1) (p.2.2.2.2)) (z1,z2,z3,z4,z5) ⟨h0,uu0,S0⟩ ?_
 rintro p a w ⟨h1,uu,S1⟩
 refine wpIn_mono (hr (p.1) (p.2.1) (p.2.2.1) (p.2.2.2.1) (p.2.2.2.2) uu a w h1 S1) fun e a1 w1 hq=>?_
 cases e <;> first | exact hq | skip
 obtain ⟨y1,y2,y3,y4,y5,vv,h2,S2,hm⟩:=hq
 exact ⟨(y1,y2,y3,y4,y5),⟨h2,vv,S2⟩,hm⟩
theorem c_fore6 {c:Code} {ι1:Type} {ι2:Type} {ι3:Type} {ι4:Type} {ι5:Type} {ι6:Type} (_S:St w0 M0 ds a w l bs fs) (mods:ι1→ι2→ι3→ι4→ι5→ι6→(Nat→Value)→List (Nat × Value)) {l1:ι1→ι2→ι3→ι4→ι5→ι6→(Nat→Value)→List Value} [∀ x1 x2 x3 x4 x5 x6 uu,SetG l (mods x1 x2 x3 x4 x5 x6 uu) (l1 x1 x2 x3 x4 x5 x6 uu)] (bs1:ι1→ι2→ι3→ι4→ι5→ι6→List Item) (fs1:ι1→ι2→ι3→ι4→ι5→ι6→List (World→Prop)) (rel:ι1→ι2→ι3→ι4→ι5→ι6→Prop) (μ:ι1→ι2→ι3→ι4→ι5→ι6→Nat) (z1:ι1) (z2:ι2) (z3:ι3) (z4:ι4) (z5:ι5) (z6:ι6) (h0:rel z1 z2 z3 z4 z5 z6) (uu0:Nat→Value) (S0:St w0 M0 ds a w (l1 z1 z2 z3 z4 z5 z6 uu0) (bs1 z1 z2 z3 z4 z5 z6) (fs1 z1 z2 z3 z4 z5 z6))
  (hr:∀ x1 x2 x3 x4 x5 x6 uu a w,rel x1 x2 x3 x4 x5 x6→St w0 M0 ds a w (l1 x1 x2 x3 x4 x5 x6 uu) (bs1 x1 x2 x3 x4 x5 x6) (fs1 x1 x2 x3 x4 x5 x6)→Wp P r c (Exit.then (fun a w=>∃ y1 y2 y3 y4 y5 y6 vv,rel y1 y2 y3 y4 y5 y6∧St w0 M0 ds a w (l1 y1 y2 y3 y4 y5 y6 vv) (bs1 y1 y2 y3 y4 y5 y6) (fs1 y1 y2 y3 y4 y5 y6)∧μ y1 y2 y3 y4 y5 y6 < μ x1 x2 x3 x4 x5 x6) Q) a w):Wp P r (.loop c) Q a w:=by
 refine c_loop (ι:=ι1 × ι2 × ι3 × ι4 × ι5 × ι6) (fun p a w=>rel (p.1) (p.2.1) (p.2.2.1) (p.2.2.2.1) (p.2.2.2.2.1) (p.2.2.2.2.2)∧∃ uu,St w0 M0 ds a w (l1 (p.1) (p.2.1) (p.2.2.1) (p.2.2.2.1) (p.2.2.2.2.1) (p.2.2.2.2.2) uu) (bs1 (p.1) (p.2.1) (p.2.2.1) (p.2.2.2.1) (p.2.2.2.2.1) (p.2.2.2.2.2)) (fs1 (p.1) (p.2.1) (p.2.2.1) (p.2.2.2.1) (p.2.2.2.2.1) (p.2.2.2.2.2))) (fun p=>μ (p.1) (p.2.1) (p.2.2.1) (p.2.2.2.1) (p.2.2.2.2.1) (p.2.2.2.2.2)) (z1,z2,z3,z4,z5,z6) ⟨h0,uu0,S0⟩ ?_
 rintro p a w ⟨h1,uu,S1⟩
 refine wpIn_mono (hr (p.1) (p.2.1) (p.2.2.1) (p.2.2.2.1) (p.2.2.2.2.1) (p.2.2.2.2.2) uu a w h1 S1) fun e a1 w1 hq=>?_
 cases e <;> first | exact hq | skip
 obtain ⟨y1,y2,y3,y4,y5,y6,vv,h2,S2,hm⟩:=hq
 exact ⟨(y1,y2,y3,y4,y5,y6),⟨h2,vv,S2⟩,hm⟩
end
class ItOk (x:Item):Prop where
 loc:∀ w1 w2:World,(∀ k,x.foot k→w2.heap[k]? = w1.heap[k]?)→x.holds w1→x.holds w2
 lt:∀ w:World,x.holds w→∀ k,x.foot k→k < w.heap.size
instance itBox {b:Nat} {t:TypeId} {cs:List Value} : ItOk (box b t cs):=⟨box_loc b t cs,fun w h k hk=>by simp only[box]at hk h;subst hk;exact (Array.getElem?_eq_some_iff.1 h).1⟩
instance itRow {e:TypeId} {sz:Nat} {p:Option Addr} {n c:Nat} {xs:List Value} : ItOk (row e sz p n c xs):=⟨row_loc e sz p n c xs,fun _ h=>row_foot_lt h⟩
def both (x y:Item):Item where
 foot:=fun k=>x.foot k∨y.foot k
 holds:=fun w=>x.holds w∧y.holds w∧∀ k,x.foot k→¬y.foot k
 own:=x.own&&y.own
instance itBoth {x y:Item} [hx:ItOk x] [hy:ItOk y]:ItOk (both x y):=⟨fun w1 w2 h h1=>⟨hx.loc w1 w2 (fun k hk=>h k (.inl hk)) h1.1,hy.loc w1 w2 (fun k hk=>h k (.inr hk)) h1.2.1,h1.2.2⟩,fun w h k hk=>hk.elim (hx.lt w h.1 k) (hy.lt w h.2.1 k)⟩
theorem foots_both {x y:Item} {bs:List Item} : foots (both x y::bs)=foots (x::y::bs):=by
 funext k
 simp only[foots,List.mem_cons,or_and_right,exists_or,exists_eq_left,both,or_assoc]
section
variable {w0:World} {M0:Nat→Prop} {ds:List Deferred} {a:Act} {w:World} {l:List Value} {bs bs':List Item} {fs:List (World→Prop)} {x y:Item}
theorem Wd.toBoth [ox:ItOk x] [oy:ItOk y] (h:Wd w0 M0 w (x::y::bs) fs) (hx:x.own=true) (hy:y.own=true):Wd w0 M0 w (both x y::bs) fs:=by
 have hp:=List.pairwise_cons.1 h.apart
 have hp2:=List.pairwise_cons.1 hp.2
 have hap:∀ k,x.foot k→¬y.foot k:=hp.1 y (by simp)
 refine ⟨h.agree,?_,?_,?_,?_,?_,?_⟩
 intro it hi
 rcases List.mem_cons.1 hi with rfl | hi
 exact ⟨h.held x (by simp),h.held y (by simp),hap⟩
 exact h.held it (by simp[hi])
 intro it hi k hk
 rcases List.mem_cons.1 hi with rfl | hi
 exact hk.elim (h.lt x (by simp) k) (h.lt y (by simp) k)
 exact h.lt it (by simp[hi]) k hk
 intro it hi ho k hk
 rcases List.mem_cons.1 hi with rfl | hi
 exact hk.elim (h.own x (by simp) hx k) (h.own y (by simp) hy k)
 exact h.own it (by simp[hi]) ho k hk
 exact List.pairwise_cons.2 ⟨fun it hi k hk=>hk.elim (hp.1 it (by simp[hi]) k) (hp2.1 it hi k),hp2.2⟩
 intro Φ hΦ;rw[foots_both];exact h.facts Φ hΦ
 intro it hi
 rcases List.mem_cons.1 hi with rfl | hi
 exact (itBoth (x:=x) (y:=y)).loc
 exact h.loc it (by simp[hi])
theorem Wd.ofBoth [ox:ItOk x] [oy:ItOk y] (h:Wd w0 M0 w (both x y::bs) fs) (hx:x.own=true) (hy:y.own=true):Wd w0 M0 w (x::y::bs) fs:=by
 have hb:=h.held (both x y) (by simp)
 have hp:=List.pairwise_cons.1 h.apart
 have hown:=h.own (both x y) (by simp) (by simp[both,hx,hy])
 refine ⟨h.agree,?_,?_,?_,?_,?_,?_⟩
 intro it hi
 rcases List.mem_cons.1 hi with rfl | hi
 exact hb.1
 rcases List.mem_cons.1 hi with rfl | hi
 exact hb.2.1
 exact h.held it (by simp[hi])
 intro it hi k hk
 rcases List.mem_cons.1 hi with rfl | hi
 exact h.lt (both it y) (by simp) k (.inl hk)
 rcases List.mem_cons.1 hi with rfl | hi
 exact h.lt (both x it) (by simp) k (.inr hk)
 exact h.lt it (by simp[hi]) k hk
 intro it hi ho k hk
 rcases List.mem_cons.1 hi with rfl | hi
 exact hown k (.inl hk)
 rcases List.mem_cons.1 hi with rfl | hi
 exact hown k (.inr hk)
 exact h.own it (by simp[hi]) ho k hk
 refine List.pairwise_cons.2 ⟨fun it hi k hk=>?_,List.pairwise_cons.2 ⟨fun it hi k hk=>hp.1 it hi k (.inr hk),hp.2⟩⟩
 rcases List.mem_cons.1 hi with rfl | hi
 exact hb.2.2 k hk
 exact hp.1 it hi k (.inl hk)
 intro Φ hΦ;rw[←foots_both];exact h.facts Φ hΦ
 intro it hi
 rcases List.mem_cons.1 hi with rfl | hi
 exact ox.loc
 rcases List.mem_cons.1 hi with rfl | hi
 exact oy.loc
 exact h.loc it (by simp[hi])
theorem St.perm (S:St w0 M0 ds a w l bs fs) (bs':List Item) (hp:bs'.Perm bs):St w0 M0 ds a w l bs' fs:=⟨S.slots,S.defers,S.wd.perm hp⟩
theorem St.front (S:St w0 M0 ds a w l bs fs) (x:Item) [hd:DropI bs x bs']:St w0 M0 ds a w l (x::bs') fs:=S.perm _ hd.perm
theorem St.toBoth [ItOk x] [ItOk y] (S:St w0 M0 ds a w l (x::y::bs) fs) (hx:x.own=true:=by rfl) (hy:y.own=true:=by rfl):St w0 M0 ds a w l (both x y::bs) fs:=⟨S.slots,S.defers,S.wd.toBoth hx hy⟩
theorem St.ofBoth [ItOk x] [ItOk y] (S:St w0 M0 ds a w l (both x y::bs) fs) (hx:x.own=true:=by rfl) (hy:y.own=true:=by rfl):St w0 M0 ds a w l (x::y::bs) fs:=⟨S.slots,S.defers,S.wd.ofBoth hx hy⟩
theorem Wd.itLent {x:Item} [ox:ItOk x] (h:x.holds w) (hf:∀ Φ∈fs,Stable x.foot w Φ):Wd w x.foot w [x] fs:=by
 refine ⟨Agree.refl _ _,?_,?_,?_,by simp,?_,?_⟩
 intro it hi;obtain rfl:=List.mem_singleton.1 hi;exact h
 intro it hi;obtain rfl:=List.mem_singleton.1 hi;exact ox.lt w h
 intro it hi _ k hk;obtain rfl:=List.mem_singleton.1 hi;exact .inl hk
 intro Φ hΦ
 refine (hf Φ hΦ).less fun k _ hk=>?_
 obtain ⟨it,hi,hk⟩:=hk
 obtain rfl:=List.mem_singleton.1 hi;exact hk
 intro it hi;obtain rfl:=List.mem_singleton.1 hi;exact ox.loc
theorem Wd.it2Lent {x y:Item} [ox:ItOk x] [oy:ItOk y] (h:(both x y).holds w) (hx:x.own=true) (hy:y.own=true) (hf:∀ Φ∈fs,Stable (both x y).foot w Φ):Wd w (both x y).foot w [x,y] fs:=(Wd.itLent h hf).ofBoth hx hy
class HasIt (bs:List Item) (x:Item):Prop where mem:x∈bs
instance hit0 {x:Item} {bs:List Item} : HasIt (x::bs) x:=⟨List.mem_cons_self ..⟩
instance (priority:=900) hit1 {x y:Item} {bs:List Item} [h:HasIt bs x]:HasIt (y::bs) x:=⟨List.mem_cons_of_mem _ h.mem⟩
theorem St.it (S:St w0 M0 ds a w l bs fs) (x:Item) [h:HasIt bs x]:x.holds w:=S.wd.held _ h.mem
theorem St.lend (_S:St w0 M0 ds a w l bs fs) (x:Item) [h:HasIt bs x] {Φ:World→Prop} (hΦ:Stable (foots bs) w Φ):Stable x.foot w Φ:=hΦ.less fun _ _ hk=>⟨_,h.mem,hk⟩
theorem St.itNew (S:St w0 M0 ds a w l bs fs) (x:Item) [h:HasIt bs x] (ho:x.own=true:=by rfl):∀ k,x.foot k→M0 k∨w0.heap.size≤k:=S.wd.own _ h.mem ho
end
section
variable {P:Program} {r:Option Nat} {ops:Array Oper} {Q:Exit→Act→World→Prop} {w0:World} {M0:Nat→Prop} {ds:List Deferred} {a:Act} {w:World} {l:List Value} {bs:List Item} {fs:List (World→Prop)}
 {d:Option Nat} {ty:TypeId} {pos:String} {af:Array Edge} {rest:List Oper} {f:Nat} {x:Operand} {ys:List Operand} {args:List Value} {ts:Array TypeId}
theorem sit {l':Value→List Value} (it:Item) [EntF P f] [CallTo ⟨[],l⟩ x ys f args] [hp:∀ v,PutO l d v (l' v)] (S:St w0 M0 ds a w l bs fs) {R:Value→World→Prop} (hc:Ret P f args w it.foot R) (ho:it.own=true)
  (K:∀ v a w',R v w'→(∀ (y:Item) {bs':List Item} [ReplI bs it y bs'] [ItOk y],y.holds w'→(∀ k,y.foot k→it.foot k∨w.heap.size≤k)→St w0 M0 ds a w' (l' v) bs' fs)→WL P r ops Q rest a w') :
  WL P r ops Q (⟨d,.call { callee:=.value x,args:=ys.toArray,argTypes:=ts },ty,pos,af,none⟩::rest) a w:=
 sri it S hc ho fun v a w' hR hS=>K v a w' hR fun y bs' hr oy h hf=>hS y bs' hr h hf (oy.lt w' h) oy.loc
theorem snew {l':Value→List Value} [EntF P f] [CallTo ⟨[],l⟩ x ys f args] [hp:∀ v,PutO l d v (l' v)] (S:St w0 M0 ds a w l bs fs) {R:Value→World→Prop} (hc:Ret P f args w (fun _=>False) R)
  (K:∀ v a w',w.heap.size≤w'.heap.size→R v w'→(∀ (y:Item) [ItOk y],y.holds w'→(∀ k,y.foot k→w.heap.size≤k)→St w0 M0 ds a w' (l' v) (y::bs) fs)→St w0 M0 ds a w' (l' v) bs fs→WL P r ops Q rest a w') :
  WL P r ops Q (⟨d,.call { callee:=.value x,args:=ys.toArray,argTypes:=ts },ty,pos,af,none⟩::rest) a w:=by
 refine cv_any S hc ?_
 rintro e w' ⟨v,rfl,ha,hR⟩
 have:=hp v
 have S':=S.put (d:=d) (v:=v)
 exact ⟨v,rfl,K v _ w' ha.size hR (fun y oy hy hf=>⟨S'.slots,S'.defers,S'.wd.addItem ha hy hf (oy.lt w' hy) oy.loc⟩) ⟨S'.slots,S'.defers,S'.wd.step ha⟩⟩
end
instance:IsNat 12 12:=⟨rfl⟩
instance:IsNat 16 16:=⟨rfl⟩
instance:IsNat 25 25:=⟨rfl⟩
instance:IsNat 28 28:=⟨rfl⟩
instance:IsNat 43 43:=⟨rfl⟩
instance:IsNat 48 48:=⟨rfl⟩
instance:IsNat 64 64:=⟨rfl⟩
instance:IsNat 65 65:=⟨rfl⟩
instance isnatMin {a b:Int} {n m:Nat} [h:IsNat a n] [h':IsNat b m]:IsNat (min a b) (min n m):=⟨by rw[h.eq,h'.eq];omega⟩
instance (priority:=900) lecZ {a:Nat} : LeC 0 a:=⟨Nat.zero_le _⟩
theorem str_cut (s:List UInt8) (lo hi:Nat):(⟨s.toArray⟩:ByteArray).extract lo hi=⟨((s.take hi).drop lo).toArray⟩:=by
 apply ByteArray.ext
 rw[ByteArray.data_extract]
 simp[List.extract_eq_take_drop,List.drop_take]
section
variable {P:Program} {l lc:Cx} {bs:List Item} {fs:List (World→Prop)} {x y:Operand} {p:Option Addr} {n c k:Nat} {t ty e:TypeId} {z:Value} {sz by_:Nat} {ol oh om:Option Operand} {lo hi mx:Nat} {s:List UInt8}
instance opSliceStr [Ev lc x (str s)] [hl:EvB lc ol 0 lo] [hh:EvB lc oh s.length hi] [Und P t .string] [h1:LeC hi s.length] [h2:LeC lo hi]:OpQ P (.slice t x ol oh none) ty lc bs fs (str ((s.take hi).drop lo)):=⟨fun ρ w hf _=>by
 have eX:ρ x=str s:=hf.ev
 have hb:(Instr.sliceBounds false s.length s.length (ol.map ρ) (oh.map ρ) none).run P w=.ok (lo,hi,s.length) w:=by
  rcases hh.eq with ⟨rfl,rfl⟩ | ⟨o2,kk2,rfl,h'⟩
  rcases hl.eq with ⟨rfl,rfl⟩ | ⟨o3,kk3,rfl,h''⟩
  simp[Instr.sliceBounds]
  have e3:=hf.ev (x:=o3) (v:=.int kk3 (lo:Int))
  simp[Instr.sliceBounds,e3,run_sliceBound h2.le]
  have e2:=hf.ev (x:=o2) (v:=.int kk2 (hi:Int))
  rcases hl.eq with ⟨rfl,rfl⟩ | ⟨o3,kk3,rfl,h''⟩
  simp[Instr.sliceBounds,e2,run_sliceBound h1.le]
  have e3:=hf.ev (x:=o3) (v:=.int kk3 (lo:Int))
  simp[Instr.sliceBounds,Sem.run_bind,e2,e3,run_sliceBound h1.le,run_sliceBound h2.le]
 have hsz:(⟨s.toArray⟩:ByteArray).size=s.length:=rfl
 simp[xop,execOp,eX,Instr.sliceAt,Instr.slice,Sem.run_bind,run_und,hsz,hb,str_cut]⟩
instance (priority:=710) opSliceQ0 [Ev lc x (.slice p n c)] [EvB lc oh n hi] [EvB lc om c mx] [Und P t (.slice e)] [TI P e z sz by_] [h1:LeC mx c] [h2:LeC hi mx] [h4:HiOk om oh] :
  OpQ P (.slice t x none oh om) ty lc bs fs (.slice p hi mx):=⟨fun ρ w h _=>by
 have:=run_cut (P:=P) (ρ:=ρ) (lc:=lc) (ol:=none) (oh:=oh) (om:=om) (lo:=0) (hi:=hi) (mx:=mx) (t:=t) (e:=e) (z:=z) (sz:=sz) (by_:=by_) (x:=x) (p:=p) (n:=n) (c:=c) (ty:=ty) h h1.le h2.le (Nat.zero_le _) h4.ok w
 rw[this]
 have e1:(if mx=0 then p else p.map (·.add (0*sz)))=p:=by
  split
  rfl
  cases p <;> simp[Addr.add]
 rw[e1];simp⟩
end
theorem Wd.itLentM {w:World} {fs:List (World→Prop)} {x:Item} {Mr:Nat→Prop} [ox:ItOk x] (h:x.holds w) (hM:∀ k,Mr k→k < w.heap.size∧¬x.foot k) (hf:∀ Φ∈fs,Stable (fun k=>x.foot k∨Mr k) w Φ):Wd w x.foot w [x,ext Mr] fs:=by
 refine ⟨Agree.refl _ _,?_,?_,?_,?_,?_,?_⟩
 intro it hi
 rcases List.mem_cons.1 hi with rfl | hi
 exact h
 obtain rfl:=List.mem_singleton.1 hi;trivial
 intro it hi k hk
 rcases List.mem_cons.1 hi with rfl | hi
 exact ox.lt w h k hk
 obtain rfl:=List.mem_singleton.1 hi;exact (hM k hk).1
 intro it hi ho k hk
 rcases List.mem_cons.1 hi with rfl | hi
 exact .inl hk
 obtain rfl:=List.mem_singleton.1 hi;cases ho
 refine List.pairwise_cons.2 ⟨fun it hi k hk hk'=>?_,by simp⟩
 obtain rfl:=List.mem_singleton.1 hi;exact (hM k hk').2 hk
 intro Φ hΦ
 refine (hf Φ hΦ).less fun k _ hk=>?_
 obtain ⟨it,hi,hk⟩:=hk
 rcases List.mem_cons.1 hi with rfl | hi
 exact .inl hk
 obtain rfl:=List.mem_singleton.1 hi;exact .inr hk
 intro it hi
 rcases List.mem_cons.1 hi with rfl | hi
 exact ox.loc
 obtain rfl:=List.mem_singleton.1 hi;exact fun _ _ _ _=>trivial
theorem Wd.it2LentM {w:World} {fs:List (World→Prop)} {x y:Item} {Mr:Nat→Prop} [ox:ItOk x] [oy:ItOk y] (h:(both x y).holds w) (hx:x.own=true) (hy:y.own=true) (hM:∀ k,Mr k→k < w.heap.size∧¬(both x y).foot k) (hf:∀ Φ∈fs,Stable (fun k=>(both x y).foot k∨Mr k) w Φ):Wd w (both x y).foot w [x,y,ext Mr] fs:=(Wd.itLentM h hM hf).ofBoth hx hy
def restOf (bs:List Item) (x:Item):Nat→Prop:=fun k=>foots bs k∧¬x.foot k
theorem St.restOk {w0:World} {M0:Nat→Prop} {ds:List Deferred} {a:Act} {w:World} {l:List Value} {bs:List Item} {fs:List (World→Prop)} (S:St w0 M0 ds a w l bs fs) (x:Item):∀ k,restOf bs x k→k < w.heap.size∧¬x.foot k:=fun k h=>⟨foots_lt S k h.1,h.2⟩
theorem Stable.split {bs:List Item} {w:World} {Φ:World→Prop} (x:Item) [hx:HasIt bs x] (h:Stable (foots bs) w Φ):Stable (fun k=>x.foot k∨restOf bs x k) w Φ:=h.less fun _ _ hk=>hk.elim (fun h=>⟨x,hx.mem,h⟩) (fun h=>h.1)
section
variable {P:Program} {r:Option Nat} {ops:Array Oper} {Q:Exit→Act→World→Prop} {w0:World} {M0:Nat→Prop} {ds:List Deferred} {a:Act} {w:World} {l:List Value} {bs bs':List Item} {fs:List (World→Prop)}
 {d:Option Nat} {ty:TypeId} {pos:String} {af:Array Edge} {rest:List Oper} {f:Nat} {x:Operand} {ys:List Operand} {args:List Value} {ts:Array TypeId}
theorem St.addAll (S:St w0 M0 ds a w l bs fs):∀ (fs2:List (World→Prop)),(∀ Φ∈fs2,Stable (foots bs) w Φ)→St w0 M0 ds a w l bs (fs2++fs)
 | [],_=>S
 | Φ::fs2,h=>(St.addAll S fs2 (fun Ψ hΨ=>h Ψ (by simp[hΨ]))).add (h Φ (by simp))
theorem sitM {l':Value→List Value} (it:Item) [EntF P f] [CallTo ⟨[],l⟩ x ys f args] [hp:∀ v,PutO l d v (l' v)] (S:St w0 M0 ds a w l bs fs) {R:Value→World→Prop} (hc:Ret P f args w it.foot R) (ho:it.own=true)
  (K:∀ v a w',R v w'→(∀ (y:Item) (fs2:List (World→Prop)) {fs3:List (World→Prop)} {bs':List Item} [AppL fs2 fs fs3] [ReplI bs it y bs'] [ItOk y],y.holds w'→(∀ k,y.foot k→it.foot k∨w.heap.size≤k)→(∀ Φ∈fs2,Stable (fun k=>y.foot k∨restOf bs it k) w' Φ)→St w0 M0 ds a w' (l' v) bs' fs3)→WL P r ops Q rest a w') :
  WL P r ops Q (⟨d,.call { callee:=.value x,args:=ys.toArray,argTypes:=ts },ty,pos,af,none⟩::rest) a w:=by
 have hap:=S.wd.apart
 refine sit it S hc ho fun v a w' hR hS=>K v a w' hR fun y fs2 fs3 bs' happ hr oy hy hf hfs=>?_
 rw[←happ.eq]
 refine (hS y hy hf).addAll fs2 fun Φ hΦ=>(hfs Φ hΦ).less fun k _ hk=>?_
 obtain ⟨pre,post,rfl,rfl⟩:=hr.ex
 obtain ⟨z,hz,hk⟩:=hk
 have hp:=List.pairwise_append.1 hap
 rcases List.mem_append.1 hz with hz | hz
 exact .inr ⟨⟨z,by simp[hz],hk⟩,hp.2.2 z hz it (by simp) k hk⟩
 rcases List.mem_cons.1 hz with rfl | hz
 exact .inl hk
 exact .inr ⟨⟨z,by simp[hz],hk⟩,fun hx=>(List.pairwise_cons.1 hp.2.1).1 z hz k hx hk⟩
theorem St.boxToF (S:St w0 M0 ds a w l bs fs) (b:Nat) {t:TypeId} {cs:List Value} [_hb:HasBox bs b t cs] [hd:DropI bs (Wk.box b t cs) bs']:St w0 M0 ds a w l bs' (BoxF b t cs::fs):=by
 have S1:=S.perm _ hd.perm
 have hap:=List.pairwise_cons.1 S1.wd.apart
 have hbx:BoxF b t cs w:=S1.wd.held (Wk.box b t cs) (by simp)
 have S2:St w0 M0 ds a w l bs' fs:=⟨S1.slots,S1.defers,S1.wd.sub (.cons _ (.refl _)) (.refl _)⟩
 exact S2.add (BoxF.stable hbx fun ⟨it,hi,hk⟩=>hap.1 it hi b rfl hk)
end
instance condsU {pol:Bool} : Conds undef pol [false]:=⟨by simp[undef]⟩
theorem gU {P:Program} {r:Option Nat} {ops:Array Oper} {Q:Exit→Act→World→Prop} {w0:World} {M0:Nat→Prop} {ds:List Deferred} {a:Act} {w:World} {l l':List Value} {bs:List Item} {fs:List (World→Prop)} {d:Option Nat} {op:Op} {ty:TypeId} {pos:String} {af:Array Edge} {rest:List Oper} {j g:Nat} {pol:Bool}
  (S:St w0 M0 ds a w l bs fs) [hp:PutO l d undef l'] [hg:GSlot ops j g] [hn:Nth l g undef] (h:∀ a,St w0 M0 ds a w l' bs fs→WL P r ops Q rest a w):WL P r ops Q (⟨d,op,ty,pos,af,some (j,pol)⟩::rest) a w:=
 wl_guard (fun ht=>by
  have:=(wanted_iff (ops:=ops) (d:=d) (op:=op) (ty:=ty) (pos:=pos) (af:=af) (pol:=pol) S hg.eq).1 ht
  simp at this) fun _=>h _ S.put
section
variable {P:Program} {l:Cx} {bs:List Item} {fs:List (World→Prop)} {x y:Operand} {k:Nat} {kk:IntKind} {m:Int} {t ty:TypeId} {s:List UInt8}
instance opIndexStr [Ev l x (str s)] [Ev l y (.int kk m)] [Und P t .string] [hm:IsNat m k] [hk:KLt k s.length]:OpQ P (.index t x y) ty l bs fs (.int .u8 ((nthG s k).toNat:Int)):=⟨fun ρ w h _=>by
 have h2:=hm.eq
 subst h2
 have hlt:=hk.lt
 have hsz:k < (⟨s.toArray⟩:ByteArray).size:=hlt
 have hb:(⟨s.toArray⟩:ByteArray)[k]? = some (nthG s k):=by
  rw[getElem?_pos (⟨s.toArray⟩:ByteArray) k hsz]
  have:(⟨s.toArray⟩:ByteArray)[k]=s[k]:=rfl
  rw[this]
  have:=nthG_get hlt
  rw[List.getElem?_eq_getElem hlt]at this
  exact this
 simp[xop,execOp,h.ev (x:=x) (v:=str s),h.ev (x:=y) (v:=.int kk (k:Int)),Instr.index,asIntOf,Sem.run_bind,run_und,hb]⟩
end
def idxG {α:Type} (q:α→Bool):List α→Int→Int
 | [],_=>-1
 | x::xs,i=>if q x then i else idxG q xs (i+1)
theorem idxG_any {α:Type} (q:α→Bool):∀ (xs:List α) (i:Int),0≤i→(decide (0≤idxG q xs i)=xs.any q)
 | [],i,h=>by simp[idxG]
 | x::xs,i,h=>by
  rw[idxG,List.any_cons]
  cases hq:q x with
  | true=>simp[h]
  | false=>simpa using idxG_any q xs (i+1) (by omega)
theorem encL_takeG {α:Type} [Enc α] (xs:List α) (m:Nat):encL (xs.take m)=(encL xs).take (m*Enc.sz α):=(encL_take xs m).symm
theorem GlF.take {α:Type} [Lay α] {p:Option Addr} {xs:List α} {w:World} (m:Nat) (h:GlF p xs w):GlF p (xs.take m) w:=by
 refine ⟨⟨fun hp=>by rw[encL_takeG,h.1.1 hp];simp,fun ad hp j u hj=>h.1.2 ad hp j u ?_⟩,fun x hx=>h.2 x (List.mem_of_mem_take hx)⟩
 rw[encL_takeG,List.getElem?_take]at hj
 split at hj
 exact hj
 cases hj
def AllI {α:Type} [Lay α] (L:List α):World→Prop:=fun w=>∀ x∈L,Lay.inn w x
theorem AllI.get {α:Type} [Lay α] {M:Nat→Prop} {w:World} {L:List α} (h:Stable M w (AllI L)) {x:α} (hx:x∈L):Stable M w (InF x):=fun w' hw=>h w' hw x hx
theorem AllI.snoc {α:Type} [Lay α] {M:Nat→Prop} {w:World} {L:List α} {r:α} (h:Stable M w (AllI L)) (hr:Stable M w (InF r)):Stable M w (AllI (L++[r])):=fun w' hw x hx=>by
 rcases List.mem_append.1 hx with hx | hx
 exact h w' hw x hx
 rw[List.mem_singleton.1 hx];exact hr w' hw
theorem gl_own {α:Type} [Lay α] {M:Nat→Prop} {w:World} {e:TypeId} {p:Option Addr} {n c sz:Nat} {xs:List α} (h:w.ownsRow 0 e sz (.slice p n c) n (encL xs)) (hk:Stable M w (AllI xs)) (hM:∀ ad,p=some ad→¬M ad.block):Stable M w (GlF p xs):=gl_of_own h (fun _ hx=>AllI.get hk hx) hM
end Go.Wk
namespace Go.Proofs.YtdakncgafdnjfaaGreat
open Go Go.Wk
set_option synthInstance.maxSize 100000
set_option synthInstance.maxHeartbeats 400000
set_option maxRecDepth 100000
theorem be_len (k:Nat) (v:Int):(be k v).length=k:=by simp[be]
theorem be_take (W k:Nat) (v:Int) (h:k < W):(be W v).take (k+1)=(be W v).take k++[Wk.u8 (v.fdiv (2 ^ (8*(W - 1 - k))))]:=by
 rw[List.take_add_one]
 congr 1
 simp[be,h]
theorem lay32_c (p:Option Addr) (n c:Nat) (b:List UInt8) (v:Int) (w0:World) (hn:b.length=n) (hb:n≤1073741824) (hv:0≤v) (hv':v≤4294967295) (hs:Stable (fun _=>False) w0 (SlF p (encL b))) :
  Ret Tryz.prog 196 [.slice p n c,.int .u32 v,.int .i64 4] w0 (fun _=>False) fun r w'=>∃ g,r=.slice (some ⟨g,0,none⟩) (n+4) (n+4)∧w0.heap.size≤g∧w'.ownsRow 0 5 1 (.slice (some ⟨g,0,none⟩) (n+4) (n+4)) (n+4) (encL (b++be 4 v)):=by
 have hln:LenN b n:=⟨hn⟩
 refine enter Tryz.func196 rfl rfl (Wd.begin (fs:=[SlF p (encL b)]) (by simpa using hs)) (fun a S=>?_)
 simp only[Tryz.ntmps196,qqA,qqB,Nat.reduceAdd,Nat.reduceSub,qqC,qqD,qqE,qqF]at S
 refine kS (kR (sq S ?_));clear S;intro a S;refine kN (xtn (kS (kR ?_)));(iterate 4 (refine sq S ?_;clear S;intro a S))
 rw[w64 ((n:Int)+4) (by omega) (by omega)]at S
 refine smk (n+4) S (by omega) (by omega) (by omega) (by simp only[maxLen];omega) ?_;clear S;intro g a w S
 refine sq S ?_;clear S;intro a S;refine kN (xtn (kS (kR ?_)));(iterate 2 (refine sq S ?_;clear S;intro a S))
 refine scp S (by omega) ?_;clear S;intro a w S
 rw[drop_rep]at S
 refine kN (xtn (kS (kS (kR ?_))));(iterate 2 (refine sq S ?_;clear S;intro a S));refine kN (xtn (kB ?_))
 rw[show encL b++List.replicate 4 (Value.int .u8 0)=encL (b++((be 4 v).take 0++List.replicate (4 - 0) 0)) from by rw[encL_append];rfl]at S
 refine c_fore1 S (fun(k:Nat) uu=>[(8,uu 8),(9,.int .i64 (k:Nat)),(0,uu 19),(0,uu 20),(0,uu 21),(0,uu 22),(0,uu 23),(0,uu 24),(0,uu 25),(0,uu 26),(0,uu 27),(0,uu 28),(0,uu 29),(0,uu 30),(0,uu 31),(0,uu 32),(0,uu 33),(0,uu 34),(0,uu 35),(0,uu 36)]) (fun(k:Nat)=>[Wk.row 5 1 (some ⟨g,0,none⟩) (n+4) (n+4) (encL (b++((be 4 v).take k++List.replicate (4 - k) 0)))]) (fun(k:Nat)=>[]) (fun(k:Nat)=>k≤4) (fun(k:Nat)=>4 - k) (0) ?_ S.uu ?_ ?_
 exact Nat.zero_le _
 first | exact S | exact S.sub _ _
 clear S;rintro k uu a w hk S;refine kS (kR (sq S ?_));clear S;intro a S;refine kN (xtn (kS ?_))
 refine kC S (fun h4=>?_) (fun h4=>?_)
 refine kK (xtn (kS (kB (kS (kR ?_)))));(iterate 2 (refine sq S ?_;clear S;intro a S));refine kN (xtn (kR ?_));(iterate 4 (refine sq S ?_;clear S;intro a S))
 have hk2:k < 4:=by simp at h4;omega
 refine sq S ?_;clear S;intro a S
 rw[w64 ((n:Int)+(k:Int)) (by omega) (by omega),show (n:Int)+(k:Int)=((n+k:Nat):Int) from by omega]at S
 (iterate 2 (refine sq S ?_;clear S;intro a S))
 rw[wu64 v (by omega) (by omega)]at S
 (iterate 2 (refine sq S ?_;clear S;intro a S))
 rw[show IntKind.i64.wrap (4 - 1)=(4 - 1:Int) from rfl]at S
 (iterate 2 (refine sq S ?_;clear S;intro a S))
 rw[w64 ((4 - 1:Int) - (k:Int)) (by omega) (by omega)]at S
 refine sq S ?_;clear S;intro a S
 rw[w64 (8*((4 - 1:Int) - (k:Int))) (by omega) (by omega),show 8*((4 - 1:Int) - (k:Int))=((8*(4 - 1 - k):Nat):Int) from by omega]at S
 refine sq S ?_;clear S;intro a S
 rw[show min (8*(4 - 1 - k)) IntKind.u64.bits=8*(4 - 1 - k) from Nat.min_eq_left (by simp only[IntKind.bits];omega)]at S
 refine sq S ?_;clear S;intro a S
 rw[u8_wrap]at S
 have hK:KLt (n+k) (n+4):=⟨by omega⟩
 refine sq S ?_;clear S;intro a S
 rw[show (⟨g,n+k,none⟩:Addr)=rAddr (some ⟨g,0,none⟩) (n+k) from by rw[rAddr,Option.getD_some,add_lit]]at S
 refine sws S (n+4) (by omega) (by omega) ?_;clear S;intro a w S
 refine kN (xbn (xtn (kR ?_)));(iterate 2 (refine sq S ?_;clear S;intro a S));refine kN (xtn ?_)
 rw[w64 ((k:Int)+1) (by omega) (by omega)]at S
 have e:encL (b++((be 4 v).take (k+1)++List.replicate (4 - (k+1)) 0))=(encL (b++((be 4 v).take k++List.replicate (4 - k) 0))).take (n+k)++[.int .u8 ((Wk.u8 (v.fdiv (2 ^ (8*(4 - 1 - k))))).toNat:Int)]++(encL (b++((be 4 v).take k++List.replicate (4 - k) 0))).drop (n+k+1):=by
  have h1:=enc_set1 (b++(be 4 v).take k) (List.replicate (4 - (k+1)) 0) 0 (Wk.u8 (v.fdiv (2 ^ (8*(4 - 1 - k)))))
  have h2:(b++(be 4 v).take k).length=n+k:=by rw[List.length_append,List.length_take,be_len,hn];omega
  have h3:List.replicate (4 - k) (0:UInt8)=0::List.replicate (4 - (k+1)) 0:=by rw[show 4 - k=(4 - (k+1))+1 from by omega,qqC]
  rw[h2]at h1
  rw[h3,be_take 4 k v hk2]
  simp only[List.append_assoc,qqE,qqF]at h1⊢
  exact h1.symm
 rw[List.length_singleton,←e]at S
 exact ⟨k+1,S.uu,by omega,S.sub _ _,by omega⟩
 refine kE (xte (xte (xbe (xtn (kS (kR ?_))))));(iterate 2 (refine sq S ?_;clear S;intro a S));refine kN (xtn (kT ?_))
 have hk2:k=4:=by simp at h4;omega
 subst hk2
 have hrow:=S.row (some ⟨g,0,none⟩) (n+4)
 have hnew:=S.rowNew (some ⟨g,0,none⟩) (n+4)
 refine end1 S (fun _=>⟨g,rfl,?_,?_⟩)
 exact (hnew _ rfl).elim (fun h=>h.elim) id
 rw[List.take_of_length_le (by rw[be_len];exact Nat.le_refl _),show List.replicate (4 - 4) (0:UInt8)=[] from rfl,List.append_nil]at hrow
 exact hrow
theorem put32_c (p:Option Addr) (n c:Nat) (b:List UInt8) (v:Int) (w0:World) (hn:b.length=n) (hb:n≤1073741824) (hv:0≤v) (hv':v≤4294967295) (hs:Stable (fun _=>False) w0 (SlF p (encL b))) :
  Ret Tryz.prog 112 [.slice p n c,.int .u32 v] w0 (fun _=>False) fun r w'=>∃ g,r=.slice (some ⟨g,0,none⟩) (n+4) (n+4)∧w0.heap.size≤g∧w'.ownsRow 0 5 1 (.slice (some ⟨g,0,none⟩) (n+4) (n+4)) (n+4) (encL (b++be 4 v)):=by
 refine enter Tryz.func112 rfl rfl (Wd.begin (fs:=[SlF p (encL b)]) (by simpa using hs)) (fun a S=>?_)
 simp only[Tryz.ntmps112,qqA,qqB,Nat.reduceAdd,Nat.reduceSub,qqC,qqD,qqE,qqF]at S
 refine kS (kR (sq S ?_));clear S;intro a S;refine kN (xtn (kS (kR ?_)));(iterate 2 (refine sq S ?_;clear S;intro a S))
 refine srn S (lay32_c p n c b v _ hn hb hv hv' ((S.fact (Φ:=SlF p (encL b)) (by simp)).less fun _ _ h=>h.elim)) ?_;clear S;rintro _ a w1 ⟨g,rfl,hg,hown⟩ - S
 refine sq S ?_;clear S;intro a S;refine kN (xtn (kT ?_))
 exact end1 S (fun _=>⟨g,rfl,hg,hown⟩)
theorem lay64_c (p:Option Addr) (n c:Nat) (b:List UInt8) (v:Int) (w0:World) (hn:b.length=n) (hb:n≤1073741824) (_hv:0≤v) (_hv':v≤18446744073709551615) (hs:Stable (fun _=>False) w0 (SlF p (encL b))) :
  Ret Tryz.prog 281 [.slice p n c,.int .u64 v,.int .i64 8] w0 (fun _=>False) fun r w'=>∃ g,r=.slice (some ⟨g,0,none⟩) (n+8) (n+8)∧w0.heap.size≤g∧w'.ownsRow 0 5 1 (.slice (some ⟨g,0,none⟩) (n+8) (n+8)) (n+8) (encL (b++be 8 v)):=by
 have hln:LenN b n:=⟨hn⟩
 refine enter Tryz.func281 rfl rfl (Wd.begin (fs:=[SlF p (encL b)]) (by simpa using hs)) (fun a S=>?_)
 simp only[Tryz.ntmps281,qqA,qqB,Nat.reduceAdd,Nat.reduceSub,qqC,qqD,qqE,qqF]at S
 refine kS (kR (sq S ?_));clear S;intro a S;refine kN (xtn (kS (kR ?_)));(iterate 4 (refine sq S ?_;clear S;intro a S))
 rw[w64 ((n:Int)+8) (by omega) (by omega)]at S
 refine smk (n+8) S (by omega) (by omega) (by omega) (by simp only[maxLen];omega) ?_;clear S;intro g a w S
 refine sq S ?_;clear S;intro a S;refine kN (xtn (kS (kR ?_)));(iterate 2 (refine sq S ?_;clear S;intro a S))
 refine scp S (by omega) ?_;clear S;intro a w S
 rw[drop_rep]at S
 refine kN (xtn (kS (kS (kR ?_))));(iterate 2 (refine sq S ?_;clear S;intro a S));refine kN (xtn (kB ?_))
 rw[show encL b++List.replicate 8 (Value.int .u8 0)=encL (b++((be 8 v).take 0++List.replicate (8 - 0) 0)) from by rw[encL_append];rfl]at S
 refine c_fore1 S (fun(k:Nat) uu=>[(8,uu 8),(9,.int .i64 (k:Nat)),(0,uu 19),(0,uu 20),(0,uu 21),(0,uu 22),(0,uu 23),(0,uu 24),(0,uu 25),(0,uu 26),(0,uu 27),(0,uu 28),(0,uu 29),(0,uu 30),(0,uu 31),(0,uu 32),(0,uu 33),(0,uu 34),(0,uu 35)]) (fun(k:Nat)=>[Wk.row 5 1 (some ⟨g,0,none⟩) (n+8) (n+8) (encL (b++((be 8 v).take k++List.replicate (8 - k) 0)))]) (fun(k:Nat)=>[]) (fun(k:Nat)=>k≤8) (fun(k:Nat)=>8 - k) (0) ?_ S.uu ?_ ?_
 exact Nat.zero_le _
 first | exact S | exact S.sub _ _
 clear S;rintro k uu a w hk S;refine kS (kR (sq S ?_));clear S;intro a S;refine kN (xtn (kS ?_))
 refine kC S (fun h4=>?_) (fun h4=>?_)
 refine kK (xtn (kS (kB (kS (kR ?_)))));(iterate 2 (refine sq S ?_;clear S;intro a S));refine kN (xtn (kR ?_));(iterate 4 (refine sq S ?_;clear S;intro a S))
 have hk2:k < 8:=by simp at h4;omega
 refine sq S ?_;clear S;intro a S
 rw[w64 ((n:Int)+(k:Int)) (by omega) (by omega),show (n:Int)+(k:Int)=((n+k:Nat):Int) from by omega]at S
 (iterate 3 (refine sq S ?_;clear S;intro a S))
 rw[show IntKind.i64.wrap (8 - 1)=(8 - 1:Int) from rfl]at S
 (iterate 2 (refine sq S ?_;clear S;intro a S))
 rw[w64 ((8 - 1:Int) - (k:Int)) (by omega) (by omega)]at S
 refine sq S ?_;clear S;intro a S
 rw[w64 (8*((8 - 1:Int) - (k:Int))) (by omega) (by omega),show 8*((8 - 1:Int) - (k:Int))=((8*(8 - 1 - k):Nat):Int) from by omega]at S
 refine sq S ?_;clear S;intro a S
 rw[show min (8*(8 - 1 - k)) IntKind.u64.bits=8*(8 - 1 - k) from Nat.min_eq_left (by simp only[IntKind.bits];omega)]at S
 refine sq S ?_;clear S;intro a S
 rw[u8_wrap]at S
 have hK:KLt (n+k) (n+8):=⟨by omega⟩
 refine sq S ?_;clear S;intro a S
 rw[show (⟨g,n+k,none⟩:Addr)=rAddr (some ⟨g,0,none⟩) (n+k) from by rw[rAddr,Option.getD_some,add_lit]]at S
 refine sws S (n+8) (by omega) (by omega) ?_;clear S;intro a w S
 refine kN (xbn (xtn (kR ?_)));(iterate 2 (refine sq S ?_;clear S;intro a S));refine kN (xtn ?_)
 rw[w64 ((k:Int)+1) (by omega) (by omega)]at S
 have e:encL (b++((be 8 v).take (k+1)++List.replicate (8 - (k+1)) 0))=(encL (b++((be 8 v).take k++List.replicate (8 - k) 0))).take (n+k)++[.int .u8 ((Wk.u8 (v.fdiv (2 ^ (8*(8 - 1 - k))))).toNat:Int)]++(encL (b++((be 8 v).take k++List.replicate (8 - k) 0))).drop (n+k+1):=by
  have h1:=enc_set1 (b++(be 8 v).take k) (List.replicate (8 - (k+1)) 0) 0 (Wk.u8 (v.fdiv (2 ^ (8*(8 - 1 - k)))))
  have h2:(b++(be 8 v).take k).length=n+k:=by rw[List.length_append,List.length_take,be_len,hn];omega
  have h3:List.replicate (8 - k) (0:UInt8)=0::List.replicate (8 - (k+1)) 0:=by rw[show 8 - k=(8 - (k+1))+1 from by omega,qqC]
  rw[h2]at h1
  rw[h3,be_take 8 k v hk2]
  simp only[List.append_assoc,qqE,qqF]at h1⊢
  exact h1.symm
 rw[List.length_singleton,←e]at S
 exact ⟨k+1,S.uu,by omega,S.sub _ _,by omega⟩
 refine kE (xte (xte (xbe (xtn (kS (kR ?_))))));(iterate 2 (refine sq S ?_;clear S;intro a S));refine kN (xtn (kT ?_))
 have hk2:k=8:=by simp at h4;omega
 subst hk2
 have hrow:=S.row (some ⟨g,0,none⟩) (n+8)
 have hnew:=S.rowNew (some ⟨g,0,none⟩) (n+8)
 refine end1 S (fun _=>⟨g,rfl,?_,?_⟩)
 exact (hnew _ rfl).elim (fun h=>h.elim) id
 rw[List.take_of_length_le (by rw[be_len];exact Nat.le_refl _),show List.replicate (8 - 8) (0:UInt8)=[] from rfl,List.append_nil]at hrow
 exact hrow
theorem put64_c (p:Option Addr) (n c:Nat) (b:List UInt8) (v:Int) (w0:World) (hn:b.length=n) (hb:n≤1073741824) (hv:0≤v) (hv':v≤18446744073709551615) (hs:Stable (fun _=>False) w0 (SlF p (encL b))) :
  Ret Tryz.prog 272 [.slice p n c,.int .u64 v] w0 (fun _=>False) fun r w'=>∃ g,r=.slice (some ⟨g,0,none⟩) (n+8) (n+8)∧w0.heap.size≤g∧w'.ownsRow 0 5 1 (.slice (some ⟨g,0,none⟩) (n+8) (n+8)) (n+8) (encL (b++be 8 v)):=by
 refine enter Tryz.func272 rfl rfl (Wd.begin (fs:=[SlF p (encL b)]) (by simpa using hs)) (fun a S=>?_)
 simp only[Tryz.ntmps272,qqA,qqB,Nat.reduceAdd,Nat.reduceSub,qqC,qqD,qqE,qqF]at S
 refine kS (kR (sq S ?_));clear S;intro a S;refine kN (xtn (kS (kR ?_)));(iterate 2 (refine sq S ?_;clear S;intro a S))
 refine srn S (lay64_c p n c b v _ hn hb hv hv' ((S.fact (Φ:=SlF p (encL b)) (by simp)).less fun _ _ h=>h.elim)) ?_;clear S;rintro _ a w1 ⟨g,rfl,hg,hown⟩ - S
 refine sq S ?_;clear S;intro a S;refine kN (xtn (kT ?_))
 exact end1 S (fun _=>⟨g,rfl,hg,hown⟩)
theorem lay16b_c (p:Option Addr) (n c:Nat) (b:List UInt8) (v:Int) (w0:World) (hn:b.length=n) (hb:n≤1073741824) (hv:0≤v) (hv':v≤65535) (hs:Stable (fun _=>False) w0 (SlF p (encL b))) :
  Ret Tryz.prog 164 [.slice p n c,.int .u16 v,.int .i64 2] w0 (fun _=>False) fun r w'=>∃ g,r=.slice (some ⟨g,0,none⟩) (n+2) (n+2)∧w0.heap.size≤g∧w'.ownsRow 0 5 1 (.slice (some ⟨g,0,none⟩) (n+2) (n+2)) (n+2) (encL (b++be 2 v)):=by
 have hln:LenN b n:=⟨hn⟩
 refine enter Tryz.func164 rfl rfl (Wd.begin (fs:=[SlF p (encL b)]) (by simpa using hs)) (fun a S=>?_)
 simp only[Tryz.ntmps164,qqA,qqB,Nat.reduceAdd,Nat.reduceSub,qqC,qqD,qqE,qqF]at S
 refine kS (kR (sq S ?_));clear S;intro a S;refine kN (xtn (kS (kR ?_)));(iterate 4 (refine sq S ?_;clear S;intro a S))
 rw[w64 ((n:Int)+2) (by omega) (by omega)]at S
 refine smk (n+2) S (by omega) (by omega) (by omega) (by simp only[maxLen];omega) ?_;clear S;intro g a w S
 refine sq S ?_;clear S;intro a S;refine kN (xtn (kS (kR ?_)));(iterate 2 (refine sq S ?_;clear S;intro a S))
 refine scp S (by omega) ?_;clear S;intro a w S
 rw[drop_rep]at S
 refine kN (xtn (kS (kS (kR ?_))));(iterate 2 (refine sq S ?_;clear S;intro a S));refine kN (xtn (kB ?_))
 rw[show encL b++List.replicate 2 (Value.int .u8 0)=encL (b++((be 2 v).take 0++List.replicate (2 - 0) 0)) from by rw[encL_append];rfl]at S
 refine c_fore1 S (fun(k:Nat) uu=>[(8,uu 8),(9,.int .i64 (k:Nat)),(0,uu 19),(0,uu 20),(0,uu 21),(0,uu 22),(0,uu 23),(0,uu 24),(0,uu 25),(0,uu 26),(0,uu 27),(0,uu 28),(0,uu 29),(0,uu 30),(0,uu 31),(0,uu 32),(0,uu 33),(0,uu 34),(0,uu 35),(0,uu 36)]) (fun(k:Nat)=>[Wk.row 5 1 (some ⟨g,0,none⟩) (n+2) (n+2) (encL (b++((be 2 v).take k++List.replicate (2 - k) 0)))]) (fun(k:Nat)=>[]) (fun(k:Nat)=>k≤2) (fun(k:Nat)=>2 - k) (0) ?_ S.uu ?_ ?_
 exact Nat.zero_le _
 first | exact S | exact S.sub _ _
 clear S;rintro k uu a w hk S;refine kS (kR (sq S ?_));clear S;intro a S;refine kN (xtn (kS ?_))
 refine kC S (fun h4=>?_) (fun h4=>?_)
 refine kK (xtn (kS (kB (kS (kR ?_)))));(iterate 2 (refine sq S ?_;clear S;intro a S));refine kN (xtn (kR ?_));(iterate 4 (refine sq S ?_;clear S;intro a S))
 have hk2:k < 2:=by simp at h4;omega
 refine sq S ?_;clear S;intro a S
 rw[w64 ((n:Int)+(k:Int)) (by omega) (by omega),show (n:Int)+(k:Int)=((n+k:Nat):Int) from by omega]at S
 (iterate 2 (refine sq S ?_;clear S;intro a S))
 rw[wu64 v (by omega) (by omega)]at S
 (iterate 2 (refine sq S ?_;clear S;intro a S))
 rw[show IntKind.i64.wrap (2 - 1)=(2 - 1:Int) from rfl]at S
 (iterate 2 (refine sq S ?_;clear S;intro a S))
 rw[w64 ((2 - 1:Int) - (k:Int)) (by omega) (by omega)]at S
 refine sq S ?_;clear S;intro a S
 rw[w64 (8*((2 - 1:Int) - (k:Int))) (by omega) (by omega),show 8*((2 - 1:Int) - (k:Int))=((8*(2 - 1 - k):Nat):Int) from by omega]at S
 refine sq S ?_;clear S;intro a S
 rw[show min (8*(2 - 1 - k)) IntKind.u64.bits=8*(2 - 1 - k) from Nat.min_eq_left (by simp only[IntKind.bits];omega)]at S
 refine sq S ?_;clear S;intro a S
 rw[u8_wrap]at S
 have hK:KLt (n+k) (n+2):=⟨by omega⟩
 refine sq S ?_;clear S;intro a S
 rw[show (⟨g,n+k,none⟩:Addr)=rAddr (some ⟨g,0,none⟩) (n+k) from by rw[rAddr,Option.getD_some,add_lit]]at S
 refine sws S (n+2) (by omega) (by omega) ?_;clear S;intro a w S
 refine kN (xbn (xtn (kR ?_)));(iterate 2 (refine sq S ?_;clear S;intro a S));refine kN (xtn ?_)
 rw[w64 ((k:Int)+1) (by omega) (by omega)]at S
 have e:encL (b++((be 2 v).take (k+1)++List.replicate (2 - (k+1)) 0))=(encL (b++((be 2 v).take k++List.replicate (2 - k) 0))).take (n+k)++[.int .u8 ((Wk.u8 (v.fdiv (2 ^ (8*(2 - 1 - k))))).toNat:Int)]++(encL (b++((be 2 v).take k++List.replicate (2 - k) 0))).drop (n+k+1):=by
  have h1:=enc_set1 (b++(be 2 v).take k) (List.replicate (2 - (k+1)) 0) 0 (Wk.u8 (v.fdiv (2 ^ (8*(2 - 1 - k)))))
  have h2:(b++(be 2 v).take k).length=n+k:=by rw[List.length_append,List.length_take,be_len,hn];omega
  have h3:List.replicate (2 - k) (0:UInt8)=0::List.replicate (2 - (k+1)) 0:=by rw[show 2 - k=(2 - (k+1))+1 from by omega,qqC]
  rw[h2]at h1
  rw[h3,be_take 2 k v hk2]
  simp only[List.append_assoc,qqE,qqF]at h1⊢
  exact h1.symm
 rw[List.length_singleton,←e]at S
 exact ⟨k+1,S.uu,by omega,S.sub _ _,by omega⟩
 refine kE (xte (xte (xbe (xtn (kS (kR ?_))))));(iterate 2 (refine sq S ?_;clear S;intro a S));refine kN (xtn (kT ?_))
 have hk2:k=2:=by simp at h4;omega
 subst hk2
 have hrow:=S.row (some ⟨g,0,none⟩) (n+2)
 have hnew:=S.rowNew (some ⟨g,0,none⟩) (n+2)
 refine end1 S (fun _=>⟨g,rfl,?_,?_⟩)
 exact (hnew _ rfl).elim (fun h=>h.elim) id
 rw[List.take_of_length_le (by rw[be_len];exact Nat.le_refl _),show List.replicate (2 - 2) (0:UInt8)=[] from rfl,List.append_nil]at hrow
 exact hrow
theorem put16b_c (p:Option Addr) (n c:Nat) (b:List UInt8) (v:Int) (w0:World) (hn:b.length=n) (hb:n≤1073741824) (hv:0≤v) (hv':v≤65535) (hs:Stable (fun _=>False) w0 (SlF p (encL b))) :
  Ret Tryz.prog 65 [.slice p n c,.int .u16 v] w0 (fun _=>False) fun r w'=>∃ g,r=.slice (some ⟨g,0,none⟩) (n+2) (n+2)∧w0.heap.size≤g∧w'.ownsRow 0 5 1 (.slice (some ⟨g,0,none⟩) (n+2) (n+2)) (n+2) (encL (b++be 2 v)):=by
 refine enter Tryz.func65 rfl rfl (Wd.begin (fs:=[SlF p (encL b)]) (by simpa using hs)) (fun a S=>?_)
 simp only[Tryz.ntmps65,qqA,qqB,Nat.reduceAdd,Nat.reduceSub,qqC,qqD,qqE,qqF]at S
 refine kS (kR (sq S ?_));clear S;intro a S;refine kN (xtn (kS (kR ?_)));(iterate 2 (refine sq S ?_;clear S;intro a S))
 refine srn S (lay16b_c p n c b v _ hn hb hv hv' ((S.fact (Φ:=SlF p (encL b)) (by simp)).less fun _ _ h=>h.elim)) ?_;clear S;rintro _ a w1 ⟨g,rfl,hg,hown⟩ - S
 refine sq S ?_;clear S;intro a S;refine kN (xtn (kT ?_))
 exact end1 S (fun _=>⟨g,rfl,hg,hown⟩)
theorem sameF_mk (x y:LTerm):sameF x.t y.t=(decide (x.kind=y.kind)&&decide (x.user=y.user)&&decide (x.num=y.num)&&decide (x.text=y.text)&&sameLF (x.kids.map LTerm.t) (y.kids.map LTerm.t)):=by
 rw[x.t_eq,y.t_eq,sameF]
theorem rsame_all (N:Nat):∀ (x y:LTerm) (w0:World),SizeOf.sizeOf x≤N→Stable (fun _=>False) w0 (LtF x)→Stable (fun _=>False) w0 (LtF y)→
  Ret Tryz.prog 85 [vL x,vL y] w0 (fun _=>False) fun v _=>v=.bool (sameF x.t y.t):=by
 induction N with
 | zero=>intro x _ _ h;cases x;simp at h
 | succ N ih=>
 intro x y w0 hN hx hy
 have e0:=sameF_mk x y
 have hlen:=LTerm.len_le hx
 refine enter Tryz.func85 rfl rfl (Wd.begin (fs:=[LtF x,LtF y]) (by simp;exact ⟨hx,hy⟩)) (fun a S=>?_)
 simp only[Tryz.ntmps85,qqA,qqB,Nat.reduceAdd,Nat.reduceSub,qqC,qqD,qqE,qqF]at S
 refine kS (kR ?_);refine sa S ?_;clear S;intro b2 a w S;refine sa S ?_;clear S;intro b3 a w S;refine sq S ?_;clear S;intro a S;refine kN (xtn (kS (kS (kR ?_))));(iterate 6 (refine sq S ?_;clear S;intro a S));(iterate 5 (refine gQ S ?_;clear S;intro a S));(iterate 2 (refine sq S ?_;clear S;intro a S));(iterate 5 (refine gQ S ?_;clear S;intro a S));(iterate 2 (refine sq S ?_;clear S;intro a S));(iterate 5 (refine gQ S ?_;clear S;intro a S));(iterate 2 (refine sq S ?_;clear S;intro a S));(iterate 7 (refine gQ S ?_;clear S;intro a S));refine sq S ?_;clear S;intro a S;refine kN (xtn ?_)
 refine kC S (fun h1=>?_) (fun h1=>?_)
 ·refine kS (kR (sq S ?_));clear S;intro a S;refine kN (xtn (kT (xtr ?_)))
  refine end1 S (fun _=>?_)
  have h3:¬(x.kind=y.kind∧x.user=y.user∧x.num=y.num∧x.text=y.text∧x.kids.length=y.kids.length):=by
   rintro ⟨q1,q2,q3,q4,q5⟩;simp[q1,q2,q3,q4,q5]at h1
  rw[e0]
  congr 1
  cases hs:(decide (x.kind=y.kind)&&decide (x.user=y.user)&&decide (x.num=y.num)&&decide (x.text=y.text)&&sameLF (x.kids.map LTerm.t) (y.kids.map LTerm.t)) with
  | false=>rfl
  | true=>
   simp at hs
   obtain ⟨⟨⟨⟨q1,q2⟩,q3⟩,q4⟩,q5⟩:=hs
   have:=congrArg List.length ((sameLF_iff _ _).1 q5)
   exact absurd ⟨q1,q2,q3,q4,by simpa using this⟩ h3
 ·refine kK (xtn (kS (kS (kR (sq S ?_)))));clear S;intro a S;refine kN (xtn (kB ?_))
  have h3:(x.kind=y.kind∧x.user=y.user∧x.num=y.num∧x.text=y.text)∧x.kids.length=y.kids.length:=by simp[and_assoc]at h1;simpa [and_assoc,Int.ofNat_inj] using h1
  obtain ⟨⟨q1,q2,q3,q4⟩,q5⟩:=h3
  have e1:sameF x.t y.t=sameLF (x.kids.map LTerm.t) (y.kids.map LTerm.t):=by rw[e0];simp[q1,q2,q3,q4]
  refine c_loop (ι:=Nat) (fun k a w=>k≤x.kids.length∧sameLF ((x.kids.drop k).map LTerm.t) ((y.kids.drop k).map LTerm.t)=sameF x.t y.t∧∃ uu:Nat→Value,St w0 (fun _=>False) [] a w ((vL x)::(vL y)::(.pointer (some ⟨b2,0,none⟩))::(.pointer (some ⟨b3,0,none⟩))::(.bool false)::(.int .i64 (k:Nat))::uu 6::uu 7::uu 8::uu 9::uu 10::uu 11::uu 12::uu 13::uu 14::uu 15::uu 16::uu 17::uu 18::uu 19::uu 20::uu 21::uu 22::uu 23::uu 24::uu 25::uu 26::uu 27::uu 28::uu 29::uu 30::uu 31::uu 32::uu 33::uu 34::uu 35::uu 36::uu 37::uu 38::uu 39::uu 40::uu 41::uu 42::uu 43::uu 44::uu 45::uu 46::uu 47::uu 48::uu 49::uu 50::uu 51::uu 52::uu 53::uu 54::uu 55::uu 56::uu 57::uu 58::uu 59::[]) [box b3 43 y.cells,box b2 43 x.cells] [LtF x,LtF y]) (fun k=>x.kids.length - k) 0 ?_ ?_
  ·exact ⟨Nat.zero_le _,e1.symm,S.uu,S⟩
  ·clear S
   rintro k a w ⟨hk,hrel,uu,S⟩
   have hK:k < x.kids.length→KLt k x.kids.length∧KLt k y.kids.length:=fun h=>⟨⟨h⟩,⟨by omega⟩⟩
   refine kS (kS (kR ?_));(iterate 5 (refine sq S ?_;clear S;intro a S));refine kN (xtn ?_)
   refine kC S (fun h4=>?_) (fun h4=>?_)
   ·refine kK (xtn (kS (kB ?_)))
    have hkl:k < x.kids.length:=by simpa using h4
    obtain ⟨hK1,hK2⟩:=hK hkl
    refine kS ?_;refine c_drawD [(0,true),(1,true),(2,true),(3,true),(4,true),(5,true),(6,true),(7,true),(8,true),(9,true),(10,false),(11,true)] [] S ?_;clear S;intro w S;(iterate 10 (refine dq S ?_;clear S;intro a S));refine dl ?_
    rw[nth_drop hkl,nth_drop (show k < y.kids.length by omega),List.map_cons,List.map_cons,sameLF]at hrel
    refine sr S (ih (nthL x.kids k) (nthL y.kids k) w (by have:=LTerm.kid_lt (nth_mem hkl);omega) (S.t0 _) (S.t0 _)) ?_;clear S;rintro _ a w rfl S
    refine de S ?_;refine dq S ?_;clear S;intro a S;refine dn (xtn ?_)
    refine kC S (fun h6=>?_) (fun h6=>?_)
    ·refine kS (kR (sq S ?_));clear S;intro a S;refine kN (xtn (kT (xbr (xtr (xtr (xbr (xtr ?_)))))))
     refine end1 S (fun _=>?_)
     have h9:sameF (nthL x.kids k).t (nthL y.kids k).t=false:=by simpa using h6
     simp[←hrel,h9]
    ·refine kK (xbn (xtn (kR ?_)));(iterate 3 (refine sq S ?_;clear S;intro a S));refine kN (xtn ?_)
     have h9:sameF (nthL x.kids k).t (nthL y.kids k).t=true:=by simpa using h6
     rw[h9,Bool.true_and]at hrel
     rw[w64 ((k:Int)+1) (by omega) (by omega)]at S
     exact ⟨k+1,⟨hkl,hrel,S.uu,S⟩,by omega⟩
   ·refine kE (xte (xte (xbe (xtn (kS (kR (sq S ?_)))))));clear S;intro a S;refine kN (xtn (kT ?_))
    refine end1 S (fun _=>?_)
    have h9:x.kids.length≤k:=by simpa using h4
    rw[List.drop_of_length_le h9,List.drop_of_length_le (by omega)]at hrel
    simp[←hrel,sameLF]
theorem rsame_c (x y:LTerm) (w:World) (hx:Stable (fun _=>False) w (LtF x)) (hy:Stable (fun _=>False) w (LtF y)):Ret Tryz.prog 85 [vL x,vL y] w (fun _=>False) fun v _=>v=.bool (sameF x.t y.t):=rsame_all _ x y w (Nat.le_refl _) hx hy
instance {x y:LTerm} {bs fs} [HasT fs x] [HasT fs y]:CallV Tryz.prog 85 [vL x,vL y] bs fs (.bool (sameF x.t y.t)):=⟨fun w m=>rsame_c x y w (m.t0 _) (m.t0 _)⟩
open Go.ChangeShapes Go.WideShapes Go.ChangeAt Go.RowKit
theorem own:ownKnob Tryz.prog.godebug=none:=by kernel_rfl
theorem laidOut:laidOutB Tryz.prog=true:=by kernel_rfl
instance termTy:TermTy Tryz.prog 43:=⟨⟨_,3,9,41,rfl,rfl,rfl,rfl,rfl,by kernel_rfl,by kernel_rfl,by kernel_rfl,by kernel_rfl⟩⟩
instance troInt:Tro Tryz.prog 3 Int:=troI Tryz.underlying3 (by kernel_rfl)
instance troTerm:Tro Tryz.prog 43 LTerm:=troT
end Go.Proofs.YtdakncgafdnjfaaGreat
namespace Go.Wk
open Go
theorem bl_irrefl:∀ s:List UInt8,Op.bytesLess s s=false
 | []=>rfl
 | a::s=>by simp[Op.bytesLess,bl_irrefl s]
theorem bl_tri:∀ s u:List UInt8,Op.bytesLess s u=true∨s=u∨Op.bytesLess u s=true
 | [],[]=>.inr (.inl rfl)
 | [],_::_=>.inl rfl
 | _::_,[]=>.inr (.inr rfl)
 | a::s,b::u=>by
  simp only[Op.bytesLess,Bool.or_eq_true,Bool.and_eq_true,decide_eq_true_eq,beq_iff_eq,List.cons.injEq]
  rcases UInt8.lt_or_lt_of_ne (a:=a) (b:=b) |> fun h=>(Classical.em (a=b)).imp id h with rfl | h
  rcases bl_tri s u with h | h | h
  exact .inl (.inr ⟨rfl,h⟩)
  exact .inr (.inl ⟨rfl,h⟩)
  exact .inr (.inr (.inr ⟨rfl,h⟩))
  rcases h with h | h
  exact .inl (.inl h)
  exact .inr (.inr (.inl h))
theorem bl_asymm:∀ s u:List UInt8,Op.bytesLess s u=true→Op.bytesLess u s=false
 | [],[],h=>by cases h
 | [],_::_,_=>rfl
 | _::_,[],h=>by simp[Op.bytesLess]at h
 | a::s,b::u,h=>by
  simp only[Op.bytesLess,Bool.or_eq_true,Bool.and_eq_true,decide_eq_true_eq,beq_iff_eq]at h
  rcases h with h | ⟨rfl,h⟩
  have h1:¬b < a:=by intro h2;exact absurd (UInt8.lt_trans h h2) (UInt8.lt_irrefl _)
  have h2:b≠a:=by rintro rfl;exact absurd h (UInt8.lt_irrefl _)
  simp[Op.bytesLess,h1,h2]
  simp[Op.bytesLess,bl_asymm s u h]
theorem bl_gt (s u:List UInt8):(!(Op.bytesLess s u||(s == u)))=Op.bytesLess u s:=by
 rcases bl_tri s u with h | rfl | h
 rw[h,bl_asymm _ _ h];rfl
 rw[bl_irrefl];simp
 rw[bl_asymm _ _ h,h]
 have:s≠u:=by rintro rfl;rw[bl_irrefl]at h;cases h
 simp[this]
class Ascii (m:Int):Prop where
 lo:0≤m
 hi:m < 128
section
variable {P:Program} {l:Cx} {bs:List Item} {fs:List (World→Prop)} {x y:Operand} {t t' ty:TypeId} {s u:List UInt8} {m:Int} {k:IntKind}
instance opSGtr [Ev l x (str s)] [Ev l y (str u)]:OpQ P (.binOp .gtr t x y t') ty l bs fs (.bool (Op.bytesLess u s)):=⟨fun ρ w h _=>by
 have:=bl_gt s u
 simp[xop,execOp,h.ev (x:=x) (v:=str s),h.ev (x:=y) (v:=str u),eqGuard,binOp,Op.stringOp]
 rw[←this];simp⟩
instance opSGeq [Ev l x (str s)] [Ev l y (str u)]:OpQ P (.binOp .geq t x y t') ty l bs fs (.bool (!Op.bytesLess s u)):=⟨fun ρ w h _=>by
 simp[xop,execOp,h.ev (x:=x) (v:=str s),h.ev (x:=y) (v:=str u),eqGuard,binOp,Op.stringOp]⟩
end
open Go Go.Deep Go.ChangeShapes Go.WideShapes Go.ChangeAt Go.RowKit
section
variable {w0:World} {M0:Nat→Prop} {ds:List Deferred} {a:Act} {w:World} {l:List Value} {bs bs':List Item} {fs:List (World→Prop)}
theorem St.rowToGl {α:Type} [Lay α] (S:St w0 M0 ds a w l bs fs) (p:Option Addr) (xs:List α) {e:TypeId} {sz n c:Nat} [hd:DropI bs (Wk.row e sz p n c (encL xs)) bs'] (h:Stable (foots bs) w (AllI xs)):St w0 M0 ds a w l bs' (GlF p xs::fs):=by
 have S1:=S.perm _ hd.perm
 have hap:=List.pairwise_cons.1 S1.wd.apart
 have hr:(Wk.row e sz p n c (encL xs)).holds w:=S1.wd.held _ (by simp)
 have S2:St w0 M0 ds a w l bs' fs:=⟨S1.slots,S1.defers,S1.wd.sub (.cons _ (.refl _)) (.refl _)⟩
 refine S2.add fun w' hw'=>⟨SlF.stable (own_sl hr) (fun ad hp ⟨it,hi,hk⟩=>hap.1 it hi ad.block ⟨ad,hp,rfl⟩ hk) w' hw',?_⟩
 exact (h.less fun k _ ⟨it,hi,hk⟩=>⟨it,(hd.perm.mem_iff).1 (List.mem_cons_of_mem _ hi),hk⟩) w' hw'
end
section
variable {P:Program} {l:Cx} {bs:List Item} {fs:List (World→Prop)} {x y:Operand} {p:Option Addr} {n c k sz off:Nat} {kk:IntKind} {m:Int} {t ty e:TypeId} {z v:Value} {by_:Nat}
class CLt (cs:List Bool) (k n:Nat):Prop where lt:(∀ c∈cs,c=true)→k < n
instance (priority:=1100) cltD {cs:List Bool} {k n:Nat} : CLt (decide ((k:Int) < (n:Int))::cs) k n:=⟨fun h=>by have:=h (decide ((k:Int) < (n:Int))) (by simp);simp at this;omega⟩
section
variable {cs:List Bool} {ls:List Value} {α:Type} {i:Lay α} {xs:List α}
instance (priority:=820) opIdxGC [Ev ⟨cs,ls⟩ x (.slice p n c)] [Ev ⟨cs,ls⟩ y (.int kk m)] [Und P t (.slice e)] [TI P e z sz by_] [hm:IsNat m k] [hl:HasG fs p α i xs] [hs:SzE α sz] [hk:CLt cs k n] [hk':CLt cs k xs.length] :
  OpQ P (.indexAddr t x y) ty ⟨cs,ls⟩ bs fs (.pointer (some (gAddr p k sz 0))):=⟨fun ρ w h mm=>by
 have hlt:=hk.lt h.1
 obtain ⟨ad,rfl⟩:=gl_some (hl.of _ _ mm.facts).now (hk'.lt h.1) (by rw[hs.eq];exact hs.pos)
 have h2:=hm.eq
 subst h2
 simp[xop,execOp,h.ev (x:=x) (v:=.slice (some ad) n c),h.ev (x:=y) (v:=.int kk (k:Int))]
 simp[run_indexAt (P:=P) (t:=t) (e:=e) (z:=z) (sz:=sz) (by_:=by_) (Int.natCast_nonneg k) (Int.ofNat_lt.2 hlt),gAddr]⟩
instance (priority:=760) opLoadG1C {ds:List Value} [Ev ⟨cs,ls⟩ x (.pointer (some (gAddr p k sz off)))] [ha:AggT P t false] [hl:HasG fs p α i xs] [hs:SzE α sz] [hk:CLt cs k xs.length] [hc:CellsOf (nthG xs k) ds] [hn:Nth ds off v] :
  OpQ P (.load t x) ty ⟨cs,ls⟩ bs fs v:=⟨fun ρ w h mm=>by
 have h1:=gl_cells (hl.of _ _ mm.facts).now (hk.lt h.1) hn.eq
 simp[xop,execOp,Instr.loadAt,h.ev (x:=x) (v:=.pointer (some (gAddr p k sz off))),Instr.sureAddr,loadVar,Sem.run_bind,ha.run,load,Sem.run,h1]⟩
instance (priority:=760) opLoadGAC {ds vs:List Value} [Ev ⟨cs,ls⟩ x (.pointer (some (gAddr p k sz off)))] [ha:AggT P t true] [TI P t z n by_] [hl:HasG fs p α i xs] [hs:SzE α sz] [hk:CLt cs k xs.length] [hc:CellsOf (nthG xs k) ds] [hn:Seg ds off n vs] :
  OpQ P (.load t x) ty ⟨cs,ls⟩ bs fs (.agg ⟨vs⟩):=⟨fun ρ w h mm=>by
 have hlc:=run_loadCells_list (P:=P) w (gAddr p k sz off) vs (fun j v hj=>by
  have hjn:j < n:=by rw[←hn.eq.1];exact (List.getElem?_eq_some_iff.1 hj).1
  rw[gAddr_add]
  exact gl_cells (hl.of _ _ mm.facts).now (hk.lt h.1) ((hn.eq.2 j hjn).trans hj))
 rw[hn.eq.1]at hlc
 simp[xop,execOp,Instr.loadAt,h.ev (x:=x) (v:=.pointer (some (gAddr p k sz off))),Instr.sureAddr,loadVar,Sem.run_bind,ha.run,run_size,hlc]⟩
end
end
section
variable {w0:World} {M0:Nat→Prop} {ds:List Deferred} {a:Act} {w:World} {l:List Value} {bs bs':List Item} {fs:List (World→Prop)}
end
theorem encL_dropG {α:Type} [Enc α] (xs:List α) (m:Nat):encL (xs.drop m)=(encL xs).drop (m*Enc.sz α):=by
 induction m generalizing xs with
 | zero=>simp
 | succ m ih=>
  cases xs with
  | nil=>simp[encL]
  | cons x xs=>
   rw[List.drop_succ_cons,ih,encL_cons,show (m+1)*Enc.sz α=(Enc.cells x).length+m*Enc.sz α from by rw[Enc.len,Nat.add_mul];omega,←List.drop_drop,List.drop_left]
theorem GlF.drop {α:Type} [Lay α] {sz:Nat} [hs:SzE α sz] {p:Option Addr} {xs:List α} {w:World} {c:Nat} (m:Nat) (h:GlF p xs w) (hc:xs.length≤c):GlF (if c=m then p else p.map (·.add (m*sz))) (xs.drop m) w:=by
 split
 rename_i he
 rw[List.drop_of_length_le (by omega)];exact gl_nil
 refine ⟨⟨fun hp=>?_,fun ad hp j u hj=>?_⟩,fun x hx=>h.2 x (List.drop_subset _ _ hx)⟩
 have:p=none:=by cases p with
  | none=>rfl
  | some a=>cases hp
 rw[encL_dropG,h.1.1 this,List.drop_nil]
 cases p with
 | none=>cases hp
 | some a=>
  obtain rfl:a.add (m*sz)=ad:=by simpa using hp
  rw[encL_dropG,List.getElem?_drop,hs.eq]at hj
  rw[Go.Deep.add_add]
  exact h.1.2 a rfl _ _ hj
class PS (p:Option Addr):Prop where ex:∃ ad,p=some ad
section
variable {P:Program} {lc:Cx} {bs:List Item} {fs:List (World→Prop)} {x y:Operand} {p:Option Addr} {n c k sz o:Nat} {kk:IntKind} {m:Int} {t ty e:TypeId} {z:Value} {by_:Nat}
end
class IfT (P:Program) (t:TypeId):Prop where eq:P.underlying t=some (.interface (P.methodsAt t))
end Go.Wk
namespace Go.Proofs.YtdakncgafdnjfaaGreat
open Go Go.Wk
set_option synthInstance.maxSize 100000
set_option synthInstance.maxHeartbeats 400000
set_option maxRecDepth 100000
structure PRow where
 name:List UInt8
 term:Term
def goneP (r:PRow):Bool:=sameF r.term zeroT
def charsP (s:List UInt8):Bool:=s.all fun c=>decide (33≤c.toNat)&&decide (c.toNat≤126)
def fitP (r:PRow):Bool:=decide (1≤r.name.length)&&decide (r.name.length≤32)&&(goneP r||(decide (checkF r.term=0)&&decide ((nameF r.term).length≤65535)))
def rightP (r:PRow):Bool:=charsP r.name&&fitP r
def SortedP (l:List PRow):Prop:=(l.map PRow.name).Pairwise fun a b=>Op.bytesLess a b=true
structure KeptP (l:List PRow):Prop where
 up:SortedP l
 right:∀ r∈l,rightP r=true
 there:∀ r∈l,goneP r=false
structure LMark where
 key:List UInt8
 ver:Int
instance encMark:Enc LMark:=⟨2,fun m=>[str m.key,.int .i64 m.ver],fun _=>rfl,fun x u hu=>by simp only[List.mem_cons,List.not_mem_nil,or_false]at hu;rcases hu with rfl | rfl <;> rfl⟩
instance layMark:Lay LMark:={ encMark with
 dflt:=⟨[],0⟩
 inn:=fun _ _=>True
 mono:=fun _ _ _ _ h=>h }
instance:SzE LMark 2:=⟨rfl,by decide⟩
instance {m:LMark} : CellsOf m [str m.key,.int .i64 m.ver]:=⟨rfl⟩
abbrev vMark (m:LMark):Value:=.agg ⟨[str m.key,.int .i64 m.ver]⟩
def markB (m:LMark):Bool:=!decide (m.key=[])&&decide ((m.key.length:Int)≤64)&&decide (0≤m.ver)&&decide (m.ver≤65535)
theorem marked_c (m:LMark) (w0:World):Ret Tryz.prog 200 [vMark m] w0 (fun _=>False) fun v _=>v=.bool (markB m):=by
 refine enter Tryz.func200 rfl rfl (Wd.start w0) (fun a S=>?_)
 simp only[Tryz.ntmps200,qqA,qqB,Nat.reduceAdd,Nat.reduceSub,qqC,qqD,qqE,qqF]at S
 refine kS (kR ?_);refine sa S ?_;clear S;intro b1 a w S;refine sq S ?_;clear S;intro a S;refine kN (xtn (kS (kR ?_)));(iterate 4 (refine sq S ?_;clear S;intro a S));(iterate 4 (refine gQ S ?_;clear S;intro a S));(iterate 2 (refine sq S ?_;clear S;intro a S));(iterate 3 (refine gQ S ?_;clear S;intro a S));(iterate 2 (refine sq S ?_;clear S;intro a S));(iterate 3 (refine gQ S ?_;clear S;intro a S));(iterate 2 (refine sq S ?_;clear S;intro a S));refine kN (xtn (kT ?_))
 refine end1 S (fun _=>rfl)
instance {m:LMark} {bs fs} : CallV Tryz.prog 200 [.agg ⟨[str m.key,.int .i64 m.ver]⟩] bs fs (.bool (markB m)):=⟨fun w _=>marked_c m w⟩
def riseM:List UInt8→List LMark→Bool
 | _,[]=>true
 | k,m::l=>markB m&&Op.bytesLess k m.key&&riseM m.key l
def lastM (l:List LMark):Nat→List UInt8
 | 0=>[]
 | j+1=>(nthG l j).key
def okM (l:List LMark):Bool:=decide ((l.length:Int)≤16)&&riseM [] l
def tchkF (l:List LMark):Int:=if okM l then 0 else 240
theorem tcheck_c (l:List LMark) (p:Option Addr) (n c:Nat) (w0:World) (hn:l.length=n) (hl:n≤9223372036854775807) (hx:Stable (fun _=>False) w0 (GlF p l)) :
  Ret Tryz.prog 115 [.slice p n c] w0 (fun _=>False) fun v _=>v=.int .i64 (tchkF l):=by
 subst hn
 refine enter Tryz.func115 rfl rfl (Wd.begin (fs:=[GlF p l]) (by simpa using hx)) (fun a S=>?_)
 simp only[Tryz.ntmps115,qqA,qqB,Nat.reduceAdd,Nat.reduceSub,qqC,qqD,qqE,qqF]at S
 refine kS (kR (sq S ?_));clear S;intro a S;refine kN (xtn (kS (kR ?_)));(iterate 4 (refine sq S ?_;clear S;intro a S));refine kN (xtn (kS (kR (sq S ?_))));clear S;intro a S;refine kN (xtn (kS (kS (kR ?_))));(iterate 3 (refine sq S ?_;clear S;intro a S));refine kN (xtn (kB ?_))
 refine c_forb2 S (fun(k:Nat) (ok:Bool) uu=>[(3,.bool ok),(0,str (lastM l k)),(1,uu 6),(5,.int .i64 (k:Nat)),(0,uu 13),(0,uu 14),(0,uu 15),(0,uu 16),(0,uu 17),(0,uu 18),(0,uu 19),(0,uu 20),(0,uu 21),(0,uu 22),(0,uu 23),(0,uu 24),(0,uu 25),(0,uu 26),(0,uu 27),(0,uu 28),(0,uu 29)]) (fun(k:Nat) (ok:Bool)=>k≤l.length∧(ok&&riseM (lastM l k) (l.drop k))=okM l) (fun(k:Nat) (ok:Bool)=>l.length - k) (0) (decide ((l.length:Int)≤16)) ?_ S.uu ?_ ?_
 exact ⟨Nat.zero_le _,rfl⟩
 first | exact S | exact S.sub _ _
 clear S;rintro k ok uu a w ⟨hk,hrel⟩ S
 refine kS (kR (sq S ?_));clear S;intro a S;refine kN (xtn (kS ?_))
 refine kC S (fun h4=>?_) (fun h4=>?_)
 refine kK (xtn (kS (kB (kS ?_))))
 have hkl:k < l.length:=by simp at h4;omega
 have hK:KLt k l.length:=⟨hkl⟩
 rw[nthG_drop hkl]at hrel
 refine kR ?_;(iterate 2 (refine sq S ?_;clear S;intro a S));refine sa S ?_;clear S;intro b6 a w S;refine sw S ?_;clear S;intro a w S;refine kN (xtn (kS (kR ?_)));(iterate 2 (refine sq S ?_;clear S;intro a S));refine gQ S ?_;clear S;intro a S;refine gC S ?_;clear S;intro a w S;(iterate 2 (refine sq S ?_;clear S;intro a S));(iterate 4 (refine gQ S ?_;clear S;intro a S));(iterate 2 (refine sq S ?_;clear S;intro a S));refine kN ?_;refine xtn (kR ?_);(iterate 3 (refine sq S ?_;clear S;intro a S));refine kN (xbn (xtn (kR ?_)));(iterate 2 (refine sq S ?_;clear S;intro a S));refine kN (xtn ?_)
 rw[w64 ((k:Int)+1) (by omega) (by omega)]at S
 refine ⟨k+1,_,S.uu,⟨hkl,?_⟩,S.sub _ _,by omega⟩
 rw[←hrel]
 show (ok&&markB (nthG l k)&&Op.bytesLess (lastM l k) (nthG l k).key&&riseM (nthG l k).key (l.drop (k+1)))=(ok&&(markB (nthG l k)&&Op.bytesLess (lastM l k) (nthG l k).key&&riseM (nthG l k).key (l.drop (k+1))))
 simp only[Bool.and_assoc]
 refine kE (xte (xte (xbe (xtn (kS (kS ?_))))))
 rw[List.drop_of_length_le (by simp at h4;omega)]at hrel
 rw[show riseM (lastM l k) []=true from rfl,Bool.and_true]at hrel
 refine kR ?_;(iterate 2 (refine sq S ?_;clear S;intro a S));refine kN (xtn ?_)
 refine kC S (fun h9=>?_) (fun h9=>?_)
 refine kS (kR (sq S ?_));clear S;intro a S;refine kN (xtn (kT (xtr ?_)))
 have h9':ok=false:=by simpa using h9
 refine end1 S (fun _=>?_)
 rw[tchkF,←hrel,h9'];rfl
 refine kK (xtn (kS (kR (sq S ?_))));clear S;intro a S;refine kN (xtn (kT ?_))
 have h9':ok=true:=by simpa using h9
 refine end1 S (fun _=>?_)
 rw[tchkF,←hrel,h9'];rfl
instance {l:List LMark} {p:Option Addr} {n c:Nat} {bs fs} [hg:HasG fs p LMark layMark l] [hn:LenN l n] [hk:LeC n 9223372036854775807]:CallV Tryz.prog 115 [.slice p n c] bs fs (.int .i64 (tchkF l)):=⟨fun w m=>tcheck_c l p n c w hn.eq hk.le ((hg.of _ _ m.facts).less fun _ _ h=>h.elim)⟩
theorem half_u (i j:Nat) (h:i+j≤1000000000):(IntKind.u64.wrap (IntKind.i64.wrap ((i:Int)+(j:Int)))).fdiv (2 ^ min 1 IntKind.u64.bits)=(((i+j) / 2:Nat):Int):=by
 have e1:IntKind.u64.wrap ((i:Int)+(j:Int))=(i:Int)+(j:Int):=by
  unfold IntKind.wrap
  simp only[IntKind.bits,IntKind.signed,Bool.false_and]
  simp
  omega
 rw[w64 _ (by omega) (by omega),e1]
 show ((i:Int)+(j:Int)).fdiv 2=_
 rw[Int.fdiv_eq_ediv_of_nonneg _ (by omega)]
 omega
end Go.Proofs.YtdakncgafdnjfaaGreat