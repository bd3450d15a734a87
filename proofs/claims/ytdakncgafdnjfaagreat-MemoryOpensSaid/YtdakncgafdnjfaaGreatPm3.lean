/- 3: a part of this claim's texts, joined: W4 CloseB SlicesV W5 OctetB RefSame RowRegress RowBase W6 PlainVault TreeA. -/
import Derived.Test.YtdakncgafdnjfaaGreatPm2
import Derived.Scope
import Derived.Lib.AppendZeros
import Derived.Maps.RangeRun
import Derived.Test.YtdakncgafdnjfaaGreatRows
namespace Go.Wk
open Go
def lP (L D:Nat)(r:Loop):Item where
 aj:=fun k=>k=D∨k=L
 holds:=fun w=>w.heap[L]? = some (.loop r)∧w.heap[D]? = some (.deferred (some []))
def kW (b:Loop)(s:LoopState)(p:Option Code):Loop:={ b with state:=s,pending:=p }
def marks (Ds:List Nat):Item where
 aj:=fun k=>k∈Ds
 holds:=fun w=>Ds.Nodup∧∀ k∈Ds,w.heap[k]? = some (.deferred (some []))
def wO (Ds:List Nat):List Deferred:=Ds.map fun D=>{ target:=.collected D,args:=#[] }
theorem Ek (L D:Nat)(r:Loop)(w1 w2:World)(h:∀ k,(lP L D r).aj k→w2.heap[k]? = w1.heap[k]?)(h1:(lP L D r).holds w1):(lP L D r).holds w2:=
 ⟨(h L (.inr rfl)).trans h1.1,(h D (.inl rfl)).trans h1.2⟩
theorem oE (Ds:List Nat)(w1 w2:World)(h:∀ k,(marks Ds).aj k→w2.heap[k]? = w1.heap[k]?)(h1:(marks Ds).holds w1):(marks Ds).holds w2:=
 ⟨h1.1,fun k hk=>(h k hk).trans (h1.2 k hk)⟩
theorem aJ.putObj {M:Nat→Prop}(w:World)(g:Nat)(o:Obj)(hg:M g):aJ M w (w.putObj g o):=
 ⟨rfl,rfl,rfl,by simp,fun k _ hm=>World.putObj_heap_other (fun e=>hm (e▸hg))⟩
def oF {α:Type}(P:Program)(g:Nat)(lb:List Value)(w:World)(M:Nat→Prop)(E:α→List Value→World→World→Prop)(xs:List α):Prop:=
 ∀ (l:Nat) (J:Nat→World→Prop) (Jx:World→Prop),
  (∀ i x vs W0 W1,xs[i]? = some x→J i W0→yB W0 W1→E x vs W0 W1→YieldAt (FW none) 0 P l vs.toArray W1 fun e W'=>
   aJ M w W'∧((e=.returned (.bool true)∧J (i+1) W')∨(e=.returned (.bool false)∧Jx W')))→
  J 0 w→
  CallsIn (FW none) 0 P g (.func (.yield l) #[] #[]::lb).toArray w fun e W'=>(∃ v,e=.returned v)∧∃ W0,yB W0 W'∧(J xs.length W0∨Jx W0)
theorem Wd.O5 {w0 w1 w:World}{M0 M:Nat→Prop}{bs:List Item}{fs:List (World→Prop)}(h:Wd w1 M w bs fs)(ha:aJ M0 w0 w1)(hM:∀ k,M k→M0 k∨w0.heap.size≤k):Wd w0 M0 w bs fs where
 agree:=ha.trans' h.agree fun i hi hm=>(hM i hm).elim id (fun h=>absurd h (by omega))
 held:=h.held
 lt:=h.lt
 own:=fun it hi ho k hk=>(h.own it hi ho k hk).elim (hM k) (fun h1=>.inr (Nat.le_trans ha.size h1))
 apart:=h.apart
 facts:=h.facts
 loc:=h.loc
theorem Wd.join {w0 w:World}{M0:Nat→Prop}{Es Ds:List Nat}{bs bs':List Item}{fs:List (World→Prop)}(h:Wd w0 M0 w (marks Es::bs) fs)(hr:dD bs (marks Ds) (marks (Es++Ds)) bs'):Wd w0 M0 w bs' fs:=by
 obtain ⟨pre,post,rfl,rfl⟩:=hr.ex;have h2:=h.perm (bs':=marks Es::marks Ds::(pre++post)) (.cons _ (List.perm_middle.symm));have hap:=List.pairwise_cons.1 h2.apart;have s9:=List.pairwise_cons.1 hap.2;have he:(marks Es).holds w:=h2.held _ (by simp);have hd:(marks Ds).holds w:=h2.held _ (by simp);refine Wd.perm (bs:=marks (Es++Ds)::(pre++post)) ?_ List.perm_middle;have XI:dR (marks (Es++Ds)::(pre++post))=dR (marks Es::marks Ds::(pre++post)):=by
  funext k
  simp only[dR,List.mem_cons,or_and_right,exists_or,exists_eq_left,marks,List.mem_append,or_assoc]
 refine ⟨h2.agree,?_,?_,?_,List.pairwise_cons.2 ⟨?_,s9.2⟩,?_,?_⟩;intro it hi;rcases List.mem_cons.1 hi with rfl | hi
 exact ⟨List.nodup_append.2 ⟨he.1,hd.1,fun a ha b hb e=>hap.1 (marks Ds) (by simp) a ha (e▸hb)⟩,fun k hk=>(List.mem_append.1 hk).elim (he.2 k) (hd.2 k)⟩;exact h2.held it (by simp only[List.mem_cons];exact .inr (.inr hi));intro it hi k hk;rcases List.mem_cons.1 hi with rfl | hi
 exact (List.mem_append.1 hk).elim (fun q=>h2.lt (marks Es) (by simp) k q) (fun q=>h2.lt (marks Ds) (by simp) k q);exact h2.lt it (by simp only[List.mem_cons];exact .inr (.inr hi)) k hk;intro it hi ho k hk;rcases List.mem_cons.1 hi with rfl | hi
 exact (List.mem_append.1 hk).elim (fun q=>h2.own (marks Es) (by simp) rfl k q) (fun q=>h2.own (marks Ds) (by simp) rfl k q);exact h2.own it (by simp only[List.mem_cons];exact .inr (.inr hi)) ho k hk;intro it hi k hk;rcases List.mem_append.1 hk with q | q
 exact hap.1 it (by simp only[List.mem_cons];exact .inr hi) k q;exact s9.1 it hi k q;intro Φ hΦ;rw[XI];exact h2.facts Φ hΦ;intro it hi;rcases List.mem_cons.1 hi with rfl | hi
 exact oE _;exact h2.loc it (by simp only[List.mem_cons];exact .inr (.inr hi))
section
variable {P:Program}{Q:Exit→Act→World→Prop}{w0:World}{M0:Nat→Prop}{ds:List Deferred}{a:Act}{w:World}{l:List Value}{bs bs':List Item}{fs:List (World→Prop)}
def qD (P:Program)(L:Nat)(w1:World)(M:Nat→Prop)(J:World→Prop)(Jx:Code→World→Prop):Exit→Act→World→Prop:=
 roundPost P L fun e W'=>aJ M w1 W'∧((e=.returned (.bool true)∧J W')∨(e=.returned (.bool false)∧∃ c,Jx c W'))
theorem Wd.El {L D:Nat}{r r':Loop}(h:Wd w0 M0 w bs fs)[hr:dD bs (lP L D r) (lP L D r') bs']:w.heap[L]? = some (.loop r)∧Wd w0 M0 (w.putObj L (.loop r')) bs' fs:=by
 obtain ⟨pre,post,rfl,rfl⟩:=hr.ex;have hm:lP L D r∈pre++lP L D r::post:=by simp
 have hl:=h.held _ hm;have hlt:L < w.heap.size:=(Array.getElem?_eq_some_iff.1 hl.1).1;have hDL:D≠L:=fun e=>by have h1:=hl.1;have h2:=hl.2;rw[e,h1]at h2;cases h2
 exact ⟨hl.1,h.swap rfl (aJ.putObj w L _ (.inr rfl)) ⟨World.putObj_heap_same hlt,(World.putObj_heap_other hDL).trans hl.2⟩ (fun k hk=>.inl hk) (fun k hk=>by simpa using h.lt _ hm k hk) (Ek _ _ _)⟩
theorem O6 {L D:Nat}{b:Loop}{w1:World}{M:Nat→Prop}{J:World→Prop}{Jx:Code→World→Prop}(S:St w1 M ds a w l bs fs)(jump:Option Code)
  [hr:dD bs (lP L D (kW b .busy none)) (lP L D (kW b (if jump.isNone then .ready else .done) jump)) bs']
  (h:∀ W',Wd w1 M W' bs' fs→(jump=none→J W')∧(∀ c,jump=some c→Jx c W')):∃ v w',(Instr.endRound L jump).run P w=.ok v w'∧(aJ M w1 w'∧((Ending.returned v=.returned (.bool true)∧J w')∨(Ending.returned v=.returned (.bool false)∧∃ c,Jx c w'))):=by
 obtain ⟨hl,hO⟩:=S.wd.El (L:=L) (D:=D) (r:=kW b .busy none) (r':=kW b (if jump.isNone then .ready else .done) jump);obtain ⟨h1,h2⟩:=h _ hO;refine ⟨_,_,run_endRound (P:=P) jump hl,hO.agree,?_⟩;cases jump with
 | none=>exact .inl ⟨rfl,h1 rfl⟩
 | some c=>exact .inr ⟨rfl,c,h2 c rfl⟩
theorem AE {L D:Nat}{b:Loop}{w1:World}{M:Nat→Prop}{J:World→Prop}{Jx:Code→World→Prop}(S:St w1 M ds a w l bs fs)
  [hr:dD bs (lP L D (kW b .busy none)) (lP L D (kW b .ready none)) bs'] (h:∀ W',Wd w1 M W' bs' fs→J W'):qD P L w1 M J Jx .normal a w:=
 O6 (D:=D) (b:=b) S none (hr:=hr) fun W' hW=>⟨fun _=>h W' hW,fun _ h=>by cases h⟩
theorem LB {L D:Nat}{b:Loop}{w1:World}{M:Nat→Prop}{J:World→Prop}{Jx:Code→World→Prop}(S:St w1 M ds a w l bs fs)
  [hr:dD bs (lP L D (kW b .busy none)) (lP L D (kW b .done (some .ret))) bs'] (h:∀ W',Wd w1 M W' bs' fs→Jx .ret W'):qD P L w1 M J Jx .ret a w:=
 O6 (D:=D) (b:=b) S (some .ret) (hr:=hr) fun W' hW=>⟨fun h=>by (cases h),fun _ h'=>by cases h';exact h W' hW⟩
theorem Sz {L D id:Nat}{b:Loop}{w1:World}{M:Nat→Prop}{J:World→Prop}{Jx:Code→World→Prop}(S:St w1 M ds a w l bs fs)
  [hr:dD bs (lP L D (kW b .busy none)) (lP L D (kW b .done (some (.exit id)))) bs'] (h:∀ W',Wd w1 M W' bs' fs→Jx (.exit id) W'):qD P L w1 M J Jx (.exit id) a w:=
 O6 (D:=D) (b:=b) S (some (.exit id)) (hr:=hr) fun W' hW=>⟨fun h=>by (cases h),fun _ h'=>by cases h';exact h W' hW⟩
theorem uG {L D:Nat}{b:Loop}{w1:World}{M:Nat→Prop}{K:Act→World→Prop}(S:St w1 M ds a w l bs fs)
  [hr:dD bs (lP L D (kW b .ready none)) (lP L D (kW b .busy none)) bs']
  (h:∀ a w,St w1 M ds a w l bs' fs→K a w):∃ w2,(Instr.beginRound L).run P w=.ok () w2∧K a w2:=by
 obtain ⟨hl,hO⟩:=S.wd.El (L:=L) (D:=D) (r:=kW b .ready none) (r':=kW b .busy none);exact ⟨_,run_beginRound (P:=P) hl rfl,h _ _ ⟨S.slots,S.defers,hO⟩⟩
theorem FM (ps:List Nat)(vs:List Value):∀ (t:Array Value),(ps.toArray.zip vs.toArray).foldl (fun t (p,v)=>t.setIfInBounds p v) t=(ps.zip vs).foldl (fun t (x:Nat × Value)=>t.setIfInBounds x.1 x.2) t:=by
 intro t;simp
class Em (l:List Value)(ps:List Nat)(vs:List Value)(l':outParam (List Value)):Prop where eq:(ps.zip vs).foldl (fun(t:Array Value) (x:Nat × Value)=>t.setIfInBounds x.1 x.2) l.toArray=l'.toArray∧vs.length=ps.length
instance XJ {l:List Value} : Em l [] [] l:=⟨by simp⟩
instance XK {l l1 l':List Value}{p:Nat}{v:Value}{ps:List Nat}{vs:List Value}[h:qy l p v l1][h':Em l1 ps vs l']:Em l (p::ps) (v::vs) l':=⟨by
 obtain ⟨h1,h2⟩:=h'.eq;have:=h.eq;simp[←h1,h2,←this]⟩
theorem qE {α:Type}{g:Operand}{ps:List Nat}{assign body:Code}{gf:Nat}{lb:List Value}{Ds:List Nat}{κ κx:Type}{E:α→List Value→World→World→Prop}(xs:List α)
  (RD:Nat→κ→List Item) (RE:Nat→κ→List (World→Prop)) (φ:Nat→κ→Prop) (VH:κx→List Item) (VI:κx→List (World→Prop)) (ψ:Code→κx→Prop) (k0:κ)
  (S:St w0 M0 (wO Ds) a w l bs fs) [aF P gf] [hg:Ev ⟨[],l⟩ g (.func (.func gf) #[] ⟨lb⟩)]
  (hit:∀ (M:Nat→Prop) (w1:World),(∀ k,M k→k < w1.heap.size)→(∀ Φ∈fs,ag M w1 Φ)→(∀ it∈bs,it.own=false→ag M w1 it.holds)→oF P gf lb w1 M E xs)
  (RF:φ 0 k0∧RD 0 k0=bs∧RE 0 k0=fs)
  (CP:∀ (L D:Nat) (b:Loop) (M:Nat→Prop) (w1:World) (i:Nat) (x:α) (vs:List Value) (k:κ) (W0 W:World),xs[i]? = some x→φ i k→Wd w1 M W0 (lP L D (kW b .ready none)::RD i k) (RE i k)→yB W0 W→E x vs W0 W→∃ lx,Em l ps vs lx∧∀ a,
   St w1 M [] a W lx (lP L D (kW b .ready none)::RD i k) (RE i k)→
   Wp P (some L) assign (Exit.then (fun a w=>∃ w2,(Instr.beginRound L).run P w=.ok () w2∧Wp P (some L) body (qD P L w1 M (fun W=>∃ k',φ (i+1) k'∧Wd w1 M W (lP L D (kW b .ready none)::RD (i+1) k') (RE (i+1) k'))
    (fun c W=>(c=.ret∨∃ id,c=.exit id)∧∃ k',ψ c k'∧Wd w1 M W (lP L D (kW b .done (some c))::VH k') (VI k'))) a w2) (fun _ _ _=>False)) a W)
  (hdone:∀ (D:Nat) (k:κ) (a:Act) (W:World),φ xs.length k→St w0 M0 (wO ([D]++Ds)) a W l (marks [D]::RD xs.length k) (RE xs.length k)→Q .normal a W)
  (XL:∀ (D:Nat) (k:κx) (a:Act) (W:World),ψ .ret k→St w0 M0 (wO ([D]++Ds)) a W l (marks [D]::VH k) (VI k)→Q .ret a W)
  (SA:∀ (id D:Nat) (k:κx) (a:Act) (W:World),ψ (.exit id) k→St w0 M0 (wO ([D]++Ds)) a W l (marks [D]::VH k) (VI k)→Q (.exit id) a W) :
  Wp P none (.rangeFunc g ps.toArray assign body) Q a w:=by
 refine wpIn_rangeFunc ?_;intro fn _;obtain ⟨b,hb⟩:∃ b:Loop,b = { state:=.ready,pending:=none,fn:=fn,tmps:=a.tmps,params:=ps.toArray,assign:=assign,body:=body,defers:=w.heap.size }:=⟨_,rfl⟩;obtain ⟨w1,hw1⟩:∃ w1,(w.alloc (.deferred (some []))).alloc (.loop b)=w1:=⟨_,rfl⟩;have sR:w1.heap[w.heap.size+1]? = some (.loop b):=by
  rw[←hw1];have:=World.alloc_heap_new (w.alloc (.deferred (some []))) (.loop b);rwa [World.size_alloc]at this
 have hD1:w1.heap[w.heap.size]? = some (.deferred (some [])):=by
  rw[←hw1];exact (RowKit.Below.heap_alloc _ _ _ (by simp)).trans (World.alloc_heap_new w _)
 have hsz:w1.heap.size=w.heap.size+2:=by rw[←hw1];simp
 have hgrow:yB w w1:=by rw[←hw1];exact (aJ.alloc _ w _).trans (aJ.alloc _ _ _)
 have XM:kW b .ready none=b:=by rw[hb];rfl
 obtain ⟨M,hM⟩:∃ M:Nat→Prop,M=fun k=>k=w.heap.size∨k=w.heap.size+1∨∃ it∈bs,it.own=true∧it.aj k:=⟨_,rfl⟩
 have SB:Wd w1 M w1 (lP (w.heap.size+1) w.heap.size (kW b .ready none)::bs) fs:=by
  have hst:=S.wd.step hgrow;refine ⟨aJ.refl _ _,?_,?_,?_,List.pairwise_cons.2 ⟨?_,hst.apart⟩,?_,?_⟩
  ·intro it hi
   rcases List.mem_cons.1 hi with rfl | hi
   ·exact ⟨by rw[XM];exact sR,hD1⟩
   ·exact hst.held it hi
  ·intro it hi k hk
   rcases List.mem_cons.1 hi with rfl | hi
   ·simp only[lP]at hk;omega
   ·exact hst.lt it hi k hk
  ·intro it hi ho k hk
   rw[hM];rcases List.mem_cons.1 hi with rfl | hi
   ·exact .inl (hk.elim .inl (fun h=>.inr (.inl h)))
   ·exact .inl (.inr (.inr ⟨it,hi,ho,hk⟩))
  ·intro it hi k hk hk'
   have:=S.wd.lt it hi k hk';simp only[lP]at hk;omega
  ·intro Φ hΦ w'' mQ
   refine S.wd.facts Φ hΦ w'' ((hgrow.mono (fun _ _ h=>h.elim)).trans' mQ fun i hi ⟨it,hm,hk⟩=>?_);rcases List.mem_cons.1 hm with rfl | hm
   ·simp only[lP]at hk;omega
   ·exact ⟨it,hm,hk⟩
  ·intro it hi
   rcases List.mem_cons.1 hi with rfl | hi
   ·exact Ek _ _ _
   ·exact hst.loc it hi
 have XN:∀ k,M k→k < w1.heap.size:=fun k hk=>by
  rw[hM]at hk;rcases hk with rfl | rfl | ⟨it,hi,_,hk⟩
  ·omega
  ·omega
  ·have:=S.wd.lt it hi k hk;omega
 have hMf:∀ Φ∈fs,ag M w1 Φ:=fun Φ hΦ=>(SB.facts Φ hΦ).less fun k _ hk=>by
  rw[hM]at hk;rcases hk with rfl | rfl | ⟨it,hi,_,hk⟩
  ·exact ⟨_,List.mem_cons_self ..,.inl rfl⟩
  ·exact ⟨_,List.mem_cons_self ..,.inr rfl⟩
  ·exact ⟨it,List.mem_cons_of_mem _ hi,hk⟩
 have jI:∀ it∈bs,it.own=false→ag M w1 it.holds:=fun it hi ho w2 wJ=>by
  have hst:=S.wd.step hgrow;refine hst.loc it hi w1 w2 (fun k hk=>wJ.iB (hst.lt it hi k hk) fun hm=>?_) (hst.held it hi);rw[hM]at hm;have hlt:=S.wd.lt it hi k hk;rcases hm with rfl | rfl | ⟨it',hi',ho',hk'⟩
  ·omega
  ·omega
  ·exact Hy S.wd.apart hi hi' (by rw[ho,ho'];simp) k hk hk'
 have hM0:∀ k,M k→M0 k∨w0.heap.size≤k:=fun k hk=>by
  have:=S.wd.agree.size;rw[hM]at hk;rcases hk with rfl | rfl | ⟨it,hi,ho,hk⟩
  ·exact .inr this
  ·exact .inr (by omega)
  ·exact S.wd.own it hi ho k hk
 have iR:aJ M0 w0 w1:=(S.wd.step hgrow).agree;have FN:∀ (r:Loop) (uH:List Item) (wP:List (World→Prop)) (W:World),r.state≠.busy→Wd w1 M W (lP (w.heap.size+1) w.heap.size r::uH) wP→
   ∃ W',(Instr.endLoop (w.heap.size+1)).run P W=.ok r.pending W'∧St w0 M0 (wO ([w.heap.size]++Ds)) { a with defers:=[{ target:=.collected w.heap.size,args:=#[] }]++a.defers } W' l (marks [w.heap.size]::uH) wP:=fun r uH wP W hr hO=>by
  have hl:W.heap[w.heap.size+1]? = some (.loop r)∧W.heap[w.heap.size]? = some (.deferred (some [])):=hO.held _ (List.mem_cons_self ..);have hlt:w.heap.size+1 < W.heap.size:=(Array.getElem?_eq_some_iff.1 hl.1).1;refine ⟨_,run_endLoop (P:=P) hl.1 hr,S.slots,by rw[S.defers];rfl,?_⟩;refine (hO.O5 iR hM0).swap (pre:=[]) (y:=marks [w.heap.size]) rfl (aJ.putObj W _ _ (.inr rfl)) ⟨by simp,fun k hk=>?_⟩ (fun k hk=>.inl ?_) (fun k hk=>?_) (oE _)
  ·obtain rfl:=List.mem_singleton.1 hk
   exact (World.putObj_heap_other (by omega)).trans hl.2
  ·obtain rfl:=List.mem_singleton.1 hk;exact .inl rfl
  ·obtain rfl:=List.mem_singleton.1 hk;simp;omega
 have heg:=hg.eq (by simp) a.defers;have hae:a.eval g=.func (.func gf) #[] ⟨lb⟩:=S.fr.ev;refine ⟨w.heap.size+1,[{ target:=.collected w.heap.size,args:=#[] }],w1,{ target:=.fn (.func gf) ⟨lb⟩,args:=#[.func (.yield (w.heap.size+1)) #[] #[]] },w1,gf,
  (.func (.yield (w.heap.size+1)) #[] #[]::lb).toArray,w1,?_,?_,fun _ _=>trivial,?_,fun h=>(by cases h),?_⟩
 ·rw[←hw1,hb];exact run_enterLoop_outer _ _ _ _ _
 ·simp only[resolve,hae]
  simp[go_sem]
 ·have:=aF.run (P:=P) (f:=gf) (.func (.yield (w.heap.size+1)) #[] #[]::lb).toArray w1
  simpa [invoke,go_sem] using this
 ·have hI:=hit M w1 XN hMf jI
  refine CallsIn.mono (hI (w.heap.size+1) (fun i W=>∃ k,φ i k∧Wd w1 M W (lP (w.heap.size+1) w.heap.size (kW b .ready none)::RD i k) (RE i k))
   (fun W=>∃ c,(c=.ret∨∃ id,c=.exit id)∧∃ k,ψ c k∧Wd w1 M W (lP (w.heap.size+1) w.heap.size (kW b .done (some c))::VH k) (VI k)) ?_ ⟨k0,RF.1,by rw[RF.2.1,RF.2.2];exact SB⟩) ?_
  ·rintro i x vs W0 W1 hx ⟨k,hφ,hO⟩ Ho hE
   have SC:=hO.step Ho;have hl:W1.heap[w.heap.size+1]? = some (.loop (kW b .ready none)):=(SC.held _ (List.mem_cons_self ..)).1;obtain ⟨lx,hps,LC⟩:=CP (w.heap.size+1) w.heap.size b M w1 i x vs k W0 W1 hx hφ hO Ho hE;have hp:=hps.eq;have hy:=run_yield (P:=P) (args:=vs.toArray) hl (by rw[hb];simpa [kW] using hp.2);refine ⟨_,_,_,_,hy,roundIn_of_wpIn trivial ?_⟩;have e1:(((kW b .ready none).params.zip vs.toArray).foldl (fun tmps (t,a)=>tmps.setIfInBounds t a) (kW b .ready none).tmps)=lx.toArray:=by
    rw[hb];simp only[kW,S.slots,FM,hp.1]
   rw[e1];have:=LC { tmps:=lx.toArray,defers:=[] } ⟨rfl,rfl,SC⟩;simp only[hb,kW]at this⊢;refine wpIn_mono this ?_;intro e a' w' he;cases e with
   | normal=>
    obtain ⟨w2,h1,h2⟩:=he;exact ⟨w2,h1,h2⟩
   | _=>exact he.elim
  ·rintro e W ⟨⟨v,rfl⟩,W0,Ho,⟨k,hφ,hO⟩ | ⟨c,hc,k,hψ,hO⟩⟩
   ·obtain ⟨W',h1,h2⟩:=FN (kW b .ready none) _ _ W (by simp[kW]) (hO.step Ho)
    exact ⟨none,W',h1,hdone _ k _ W' hφ h2⟩
   ·obtain ⟨W',h1,h2⟩:=FN (kW b .done (some c)) _ _ W (by simp[kW]) (hO.step Ho)
    refine ⟨some c,W',h1,?_⟩;rcases hc with rfl | ⟨id,rfl⟩
    ·exact wpIn_ret (XL _ k _ W' hψ h2)
    ·exact wpIn_exit (SA id _ k _ W' hψ h2)
theorem St.join {Es Ds:List Nat}(S:St w0 M0 ds a w l (marks Es::bs) fs)[hr:dD bs (marks Ds) (marks (Es++Ds)) bs']:St w0 M0 ds a w l bs' fs:=⟨S.slots,S.defers,S.wd.join hr⟩
theorem pX {f:Nat}{fn:Func}{c:Code}{args:List Value}{l:List Value}{R:Ending→World→Prop}{M0:Nat→Prop}{bs:List Item}{fs:List (World→Prop)}
  (hf:P.funcs[f]? = some fn) (hb:fn.body=some c) (hl:args++List.replicate (fn.ntmps - args.length) undef=l) (hw:Wd w M0 w bs fs)
  (h:∀ a,St w M0 (wO []) a w l (marks []::bs) fs→Wp P none c (bodyPostM (FW none) 0 P fn R) a w):Calls P f args.toArray w R:=by
 refine (callsIn_wide (n:=0)).1 (callsIn_of_wp_marks (F:=FW none) (n:=0) hf hb trivial (h _ ⟨?_,rfl,?_⟩));simp[←hl];exact hw.more (y:=marks []) ⟨by simp,by simp⟩ (fun k hk=>by cases hk) (fun k hk=>by cases hk) (fun it _ k hk=>by cases hk)
  (fun Φ hΦ=>(hw.facts Φ hΦ).less fun k _ ⟨it,hi,hk⟩=>by
   rcases List.mem_cons.1 hi with rfl | hi
   cases hk;exact ⟨it,hi,hk⟩) (oE _)
theorem En {fn:Func}{R:Ending→World→Prop}{t:Array Value} : ∀ (Ds:List Nat) (w:World),Wd w0 M0 w (marks Ds::bs) fs→(∀ w',Wd w0 M0 w' bs fs→LeavesIn (FW none) 0 P fn t R [] .returning w')→LeavesInM (FW none) 0 P fn t R (wO Ds) .returning w
 | [],w,hw,h=>h w (hw.sub (eD:=bs) (List.sublist_cons_self ..) (List.Sublist.refl _))
 | D::Ds,w,hw,h=>by
  have hm:(marks (D::Ds)).holds w:=hw.held _ (List.mem_cons_self ..);have hD:=hm.2 D (List.mem_cons_self ..);have hlt:D < w.heap.size:=(Array.getElem?_eq_some_iff.1 hD).1;refine ⟨by simp,.inl ⟨D,_,rfl,run_takeDeferred (P:=P) hD,En Ds _ ?_ h⟩⟩;refine hw.swap (pre:=[]) (y:=marks Ds) rfl (aJ.putObj w D _ (List.mem_cons_self ..)) ⟨(List.nodup_cons.1 hm.1).2,fun k hk=>?_⟩ (fun k hk=>.inl (List.mem_cons_of_mem _ hk)) (fun k hk=>?_) (oE _)
  ·exact (World.putObj_heap_other (fun(e:k=D)=>(List.nodup_cons.1 hm.1).1 (by rw[←e];exact hk))).trans (hm.2 k (List.mem_cons_of_mem _ hk))
  ·simpa using hw.lt _ (List.mem_cons_self ..) k (List.mem_cons_of_mem _ hk)
class pH (bs:List Item)(x:Item)(bs':outParam (List Item)):Prop where perm:(x::bs').Perm bs
instance dri0 {x:Item}{bs:List Item} : pH (x::bs) x bs:=⟨.refl _⟩
instance (priority:=900) driS {x y:Item}{bs bs':List Item}[h:pH bs x bs']:pH (y::bs) x (y::bs'):=⟨(List.Perm.swap _ _ _).trans (.cons _ h.perm)⟩
theorem SD {fn:Func}{R:Value→World→Prop}{e:Exit}{Ds:List Nat}{v:Value}(S:St w0 M0 (wO Ds) a w l bs fs)[hd:pH bs (marks Ds) bs'](hv:∀ w,(∀ it∈bs',it.holds w)→(results fn l.toArray).run P w=.ok v w)(h:∀ w,Wd w0 M0 w bs' fs→R v w)(he:e=.ret∨e=.normal:=by simp) :
  bodyPostM (FW none) 0 P fn (fun e w'=>∃ v,e=.returned v∧aJ M0 w0 w'∧R v w') e a w:=by
 have key:LeavesInM (FW none) 0 P fn a.tmps (fun e w'=>∃ v,e=.returned v∧aJ M0 w0 w'∧R v w') a.defers .returning w:=by
  rw[S.defers,S.slots];refine En Ds w (S.wd.perm hd.perm) fun w' bP=>?_
  exact ⟨v,hv w' bP.held,v,rfl,bP.agree,h w' bP⟩
 rcases he with rfl | rfl <;> exact key
theorem Eo {fn:Func}{R:Value→World→Prop}{e:Exit}{Ds:List Nat}{r1:ResultVar}{v1:Value}[hr:ax fn [r1]](S:St w0 M0 (wO Ds) a w l bs fs)[hd:pH bs (marks Ds) bs'][h1:mP P l bs' r1 v1](h:∀ w,Wd w0 M0 w bs' fs→R v1 w)(he:e=.ret∨e=.normal:=by simp) :
  bodyPostM (FW none) 0 P fn (fun e w'=>∃ v,e=.returned v∧aJ M0 w0 w'∧R v w') e a w:=
 SD S (fun w hw=>by rw[eE (rs:=[r1])];simp[fQ (P:=P) (l:=l) (bs:=bs') (rv:=r1) (v:=v1) w hw]) h he
theorem nx {fn:Func}{R:Value→World→Prop}{e:Exit}{Ds:List Nat}{r1 r2:ResultVar}{v1 v2:Value}[hr:ax fn [r1,r2]](S:St w0 M0 (wO Ds) a w l bs fs)[hd:pH bs (marks Ds) bs'][h1:mP P l bs' r1 v1][h2:mP P l bs' r2 v2](h:∀ w,Wd w0 M0 w bs' fs→R (.tuple ⟨[v1,v2]⟩) w)(he:e=.ret∨e=.normal:=by simp) :
  bodyPostM (FW none) 0 P fn (fun e w'=>∃ v,e=.returned v∧aJ M0 w0 w'∧R v w') e a w:=
 SD S (fun w hw=>by rw[eE (rs:=[r1,r2])];simp[fQ (P:=P) (l:=l) (bs:=bs') (rv:=r1) (v:=v1) w hw,fQ (P:=P) (l:=l) (bs:=bs') (rv:=r2) (v:=v2) w hw]) h he
end
inductive Tr where
 | e
 | q (i:Nat) (t:Tr)
 | l (i:Nat) (t:Tr)
 | b2 (i j:Nat) (t u:Tr)
 | b3 (i j k:Nat) (t u v:Tr)
 | b4 (i j k m:Nat) (t u v x:Tr)
def Tr.len:Tr→Nat
 | .e=>0
 | .q _ t | .l _ t=>t.len+1
 | .b2 _ _ t _=>t.len+1
 | .b3 _ _ _ t _ _=>t.len+1
 | .b4 _ _ _ _ t _ _ _=>t.len+1
def gI (ops:Array Oper):Tr→Array Bool→Bool
 | .e,listed=>(Region.ready .any ops listed).isEmpty
 | .q i t,listed=>((Region.ready .any ops listed).contains i&&Region.free .any ops listed i)&&gI ops t (listed.setIfInBounds i true)
 | .l i t,listed=>(match Region.ready .any ops listed with | [j]=>Nat.beq j i | _=>false)&&gI ops t (listed.setIfInBounds i true)
 | .b2 i j t u,listed=>(match Region.ready .any ops listed with | [x,y]=>Nat.beq x i&&Nat.beq y j | _=>false)&&(Nat.beq u.len t.len&&(gI ops t (listed.setIfInBounds i true)&&gI ops u (listed.setIfInBounds j true)))
 | .b3 i j k t u v,listed=>(match Region.ready .any ops listed with | [x,y,z]=>Nat.beq x i&&(Nat.beq y j&&Nat.beq z k) | _=>false)&&(Nat.beq u.len t.len&&(Nat.beq v.len t.len&&(gI ops t (listed.setIfInBounds i true)&&(gI ops u (listed.setIfInBounds j true)&&gI ops v (listed.setIfInBounds k true)))))
 | .b4 i j k m t u v x,listed=>(match Region.ready .any ops listed with | [a,y,z,b]=>Nat.beq a i&&(Nat.beq y j&&(Nat.beq z k&&Nat.beq b m)) | _=>false)&&(Nat.beq u.len t.len&&(Nat.beq v.len t.len&&(Nat.beq x.len t.len&&(gI ops t (listed.setIfInBounds i true)&&(gI ops u (listed.setIfInBounds j true)&&(gI ops v (listed.setIfInBounds k true)&&gI ops x (listed.setIfInBounds m true)))))))
section
variable {P:Program}{ops:Array Oper}{C:World→Prop}{R:Act→World→Prop}
variable {r:Option Nat}{Q:Exit→Act→World→Prop}{w0:World}{M0:Nat→Prop}{ds:List Deferred}{a:Act}{w:World}{l l':List Value}{bs bs' eD:List Item}{fs dz:List (World→Prop)}
 {d:Option Nat} {op:Op} {ty:TypeId} {pos:String} {af:Array Edge} {rest:List Oper} {v v' G:Value} {j g:Nat} {kZ:Bool} {cs:List Bool} {n:Nat} {listed:Array Bool}
def AT (P:Program)(ops:Array Oper)(C:World→Prop)(R:Act→World→Prop)(t:Tr)(a:Act)(w:World):Prop:=
 ∀ listed,Region.noSelect ops=true→gI ops t listed=true→AC P ops C R t.len listed a w
variable {t u x:Tr}{i k:Nat}
theorem tq (S:St w0 M0 ds a w l bs fs)[hb:dj eD bs][hf:dj dz fs][ho:jL ops i ⟨d,op,ty,pos,af,none⟩][hq:dO P op ty ⟨[],l⟩ eD dz v][hp:cZ l d v l']
  (K:∀ a,St w0 M0 ds a w l' bs fs→AT P ops (fun w=>Wd w0 M0 w eD dz) R t a w) :
  AT P ops (fun w=>Wd w0 M0 w eD dz) R (.q i t) a w:=by
 intro listed hs aS;simp only[gI,Bool.and_eq_true]at aS;refine nL ho.eq (Region.noSelect_spec hs) _ listed a w (Region.free_spec ho.eq aS.1.2) (by simpa using aS.1.1) (v:=v) (.inl ⟨rfl,fun w' bP=>?_⟩) (S.wd.sub hb.sub hf.sub) (K _ S.put _ hs aS.2);rw[gN];exact hq.run a.eval w' S.fr bP.mem
theorem XO (S:St w0 M0 ds a w l bs fs)[hb:dj eD bs][hf:dj dz fs][ho:jL ops i ⟨d,op,ty,pos,af,some (j,kZ)⟩][hg:nr ops j g][hn:pF l g G][hc:nq G kZ cs][hq:dO P op ty ⟨cs,l⟩ eD dz v][hv:CE cs v v'][hp:cZ l d v' l']
  (K:∀ a,St w0 M0 ds a w l' bs fs→AT P ops (fun w=>Wd w0 M0 w eD dz) R t a w) :
  AT P ops (fun w=>Wd w0 M0 w eD dz) R (.q i t) a w:=by
 intro listed hs aS;simp only[gI,Bool.and_eq_true]at aS;have hw:=e_ (ops:=ops) (d:=d) (op:=op) (ty:=ty) (pos:=pos) (af:=af) (kZ:=kZ) S hg.eq;refine nL ho.eq (Region.noSelect_spec hs) _ listed a w (Region.free_spec ho.eq aS.1.2) (by simpa using aS.1.1) (v:=v') ?_ (S.wd.sub hb.sub hf.sub) (K _ S.put _ hs aS.2)
 by_cases hall:∀ c∈cs,c=true
 refine .inl ⟨hw.2 hall,fun w' bP=>?_⟩;rw[gN,hv.eq,if_pos hall];exact hq.run a.eval w' (S.Vk hall) bP.mem;exact .inr ⟨by
  cases hx:Region.wanted _ (yielded ops a.tmps) with
  | true=>exact absurd (hw.1 hx) hall
  | false=>rfl,by rw[hv.eq,if_neg hall]⟩
theorem uI {o:Oper}[ho:jL ops i o]{K:Act→World→Prop}(h:WL P none ops (fun e a' w'=>e=.normal∧K a' w') [o] a w):WN P ops i K a w:=by
 unfold WN wpOpIn;simp only[ho.eq];simp only[WL,wpListIn]at h;split
 ·rename_i hw
  rw[if_pos hw]at h;refine ⟨fun _ _=>trivial,?_⟩;have h:=h.2
  generalize (o.semAt (FW none).round a.eval).run P w=q at *
  cases q with
  | ok x w'=>
   cases x <;> simp only[Oper.uponIn]at h⊢
   case value u=>exact h.2
   case skip=>exact h.2
   case defer d=>exact h.2
   case enter f args=>
    refine ⟨h.1,CallsIn.mono h.2 fun e w'' he=>?_⟩;cases e with
    | returned u=>exact he.2
    | panicked c=>exact absurd he.1 (by simp)
    | outgrown=>obtain ⟨_,_,he,_⟩:=he;exact absurd he (by simp)
   case row row args=>exact ⟨h.1,RowsIn.mono h.2 fun u w'' he=>he.2⟩
   case round l f tmps assign body=>
    refine ⟨h.1,RoundIn.mono h.2 fun e w'' he=>?_⟩;cases e with
    | returned u=>exact he.2
    | panicked c=>exact absurd he.1 (by simp)
    | outgrown=>obtain ⟨_,_,he,_⟩:=he;exact absurd he (by simp)
  | halt x w'=>
   cases x <;> simp only[Oper.uponIn]at h⊢
   case panic u=>exact absurd h.1 (by simp)
 ·rename_i hw
  rw[if_neg hw]at h;exact ⟨fun _ _=>trivial,h.2.2⟩
theorem tl {o:Oper}[ho:jL ops i o](h:WL P none ops (fun e a' w'=>e=.normal∧C w'∧AT P ops C R t a' w') [o] a w):AT P ops C R (.l i t) a w:=by
 intro listed hs aS;simp only[gI,Bool.and_eq_true]at aS;have hr:Region.ready .any ops listed=[i]:=by
  have:=aS.1;split at this
  rename_i k hk;rw[hk,Nat.eq_of_beq_eq_true this]
  cases this
 refine ⟨fun h0=>(by rw[h0]at hr;cases hr),fun k hk=>?_⟩;rw[hr]at hk;obtain rfl:k=i:=by simpa using hk
 exact wpOpIn_mono (fun a' w' h'=>⟨h'.1,h'.2 _ hs aS.2⟩) (uI h)
theorem Hp {oi oj:Oper}[hi:jL ops i oi][hj:jL ops j oj](h1:WL P none ops (fun e a' w'=>e=.normal∧C w'∧AT P ops C R t a' w') [oi] a w)(h2:WL P none ops (fun e a' w'=>e=.normal∧C w'∧AT P ops C R u a' w') [oj] a w):AT P ops C R (.b2 i j t u) a w:=by
 intro listed hs aS;simp only[gI,Bool.and_eq_true]at aS;have hr:Region.ready .any ops listed=[i,j]:=by
  have:=aS.1;split at this
  rename_i x y hk
  simp only[Bool.and_eq_true]at this;rw[hk,Nat.eq_of_beq_eq_true this.1,Nat.eq_of_beq_eq_true this.2];cases this
 have hlen:=Nat.eq_of_beq_eq_true aS.2.1;refine ⟨fun h0=>(by rw[h0]at hr;cases hr),fun k hk=>?_⟩;rw[hr]at hk;rcases List.mem_cons.1 hk with rfl | hk
 exact wpOpIn_mono (fun a' w' h'=>⟨h'.1,h'.2 _ hs aS.2.2.1⟩) (uI h1);obtain rfl:=List.mem_singleton.1 hk;refine wpOpIn_mono (fun a' w' h'=>⟨h'.1,?_⟩) (uI h2);have:=h'.2 _ hs aS.2.2.2
 rwa [hlen]at this
theorem te [hb:dj eD bs][hf:dj dz fs](S:St w0 M0 ds a w l bs fs)(h:AT P ops (fun w=>Wd w0 M0 w eD dz) R t a w):WL P none ops (fun e a' w'=>e=.normal∧Wd w0 M0 w' eD dz∧AT P ops (fun w=>Wd w0 M0 w eD dz) R t a' w') [] a w:=
 kN ⟨rfl,S.wd.sub hb.sub hf.sub,h⟩
theorem tn (h:R a w):AT P ops C R .e a w:=by
 intro listed hs aS;have hr:Region.ready .any ops listed=[]:=by simpa [gI] using aS
 exact ⟨hr,h⟩
theorem yI {R':Act→World→Prop}(hR:∀ a w,R a w→R' a w):∀ (fuel:Nat) (listed:Array Bool) (a:Act) (w:World),AC P ops C R fuel listed a w→AC P ops C R' fuel listed a w
 | 0,_,_,_,h=>⟨h.1,hR _ _ h.2⟩
 | fuel+1,_,_,_,h=>⟨fun h0=>hR _ _ (h.1 h0),fun i hi=>wpOpIn_mono (fun _ _ h'=>⟨h'.1,yI hR fuel _ _ _ h'.2⟩) (h.2 i hi)⟩
theorem tM {id:Nat}{lo:List Oper}(t:Tr)(eD:List Item)(S:St w0 M0 ds a w l bs fs)(I:Act→World→Prop)(h:∀ w,St w0 M0 ds a w l bs fs→AT P lo.toArray (fun w=>Wd w0 M0 w eD fs) I t a w)
  (hk:∀ a w,I a w→Q .normal a w) (hm:P.follows .mixedOrders=true:=by kernel_rfl)
  (hd:((lo.all fun o=>!cE o.op)&&(Nat.beq t.len lo.length&&(Region.noSelect lo.toArray&&gI lo.toArray t (Array.replicate lo.length false))))=true:=by kernel_rfl):Wp P r (.region id lo.toArray true) Q a w:=by
 simp only[Bool.and_eq_true]at hd;refine wpIn_region_any hm (lS (C:=fun w=>Wd w0 M0 w eD fs) (fun i o ho=>?_) _ _ _ _ ?_);have:=List.all_eq_true.1 hd.1 o (by
  rw[List.getElem?_toArray]at ho;exact List.mem_of_getElem? ho)
 simpa using this;have:=h { w with drawn:=w.drawn+1 } ⟨S.slots,S.defers,S.wd.step (aJ.drawn _ w _)⟩ _ hd.2.2.1 hd.2.2.2;rw[Nat.eq_of_beq_eq_true hd.2.1]at this;simpa using yI hk _ _ _ _ this
theorem qF {id:Nat}{lo:List Oper}{l2:List Value}{uH:List Item}{wP:List (World→Prop)}(t:Tr)(ids:List Nat)[ur bs ids eD](S:St w0 M0 ds a w l bs fs)(h:∀ w,St w0 M0 ds a w l bs fs→AT P lo.toArray (fun w=>Wd w0 M0 w eD fs) (fun a w=>St w0 M0 ds a w l2 uH wP) t a w)
  (hk:∀ a w,St w0 M0 ds a w l2 uH wP→Q .normal a w) (hm:P.follows .mixedOrders=true:=by kernel_rfl)
  (hd:((lo.all fun o=>!cE o.op)&&(Nat.beq t.len lo.length&&(Region.noSelect lo.toArray&&gI lo.toArray t (Array.replicate lo.length false))))=true:=by kernel_rfl):Wp P r (.region id lo.toArray true) Q a w:=
 tM t _ S _ h hk hm hd
end
instance O7 {P ty}{l:Cx}{bs fs}{f:Nat}{fi ca:List Operand}{vs us:List Value}[Hv l fi vs][Hv l ca us]:dO P (.makeFunc (.func f) fi.toArray ca.toArray) ty l bs fs (.func (.func f) ⟨vs⟩ ⟨us⟩):=⟨fun ρ w h _=>by
 have e1:=h.Sb (xs:=fi) (vs:=vs);have e2:=h.Sb (xs:=ca) (vs:=us);simp[cu,execOp,e1,e2,Instr.makeFunc]⟩
section
variable {P:Program}{r:Option Nat}{ops:Array Oper}{Q:Exit→Act→World→Prop}{w0:World}{M0:Nat→Prop}{ds:List Deferred}{a:Act}{w:World}{l:List Value}{bs bs':List Item}{fs dz:List (World→Prop)}
 {d:Option Nat} {op:Op} {ty:TypeId} {pos:String} {af:Array Edge} {rest:List Oper} {ts:Array TypeId}
theorem sy {x:Operand}{xs:List Operand}{L:Nat}{vs:List Value}{l':Bool→List Value}{wI:World}{M:Nat→Prop}{J Jx:World→Prop}[hx:Ev ⟨[],l⟩ x (.func (.yield L) #[] #[])][hv:Hv ⟨[],l⟩ xs vs][hp:∀ b:Bool,cZ l d (.bool b) (l' b)]
  (S:St w0 M0 ds a w l bs fs) (hF:∀ Φ∈dz,ag M wI Φ)
  (hy:YieldAt (FW none) 0 P L vs.toArray w fun e W'=>aJ M wI W'∧((e=.returned (.bool true)∧J W')∨(e=.returned (.bool false)∧Jx W')))
  (K:∀ (b:Bool) (N:Nat→Prop) a W,(b=true→J W)→(b=false→Jx W)→St W (fun _=>False) ds a W (l' b) [ext N] dz→WL P r ops Q rest a W) :
  WL P r ops Q (⟨d,.call { callee:=.value x,args:=xs.toArray,argTypes:=ts },ty,pos,af,none⟩::rest) a w:=by
 refine bR rfl ?_;rw[bQ rfl];obtain ⟨fn,tmps,assign,body,hrun,CP⟩:=hy;have hf:a.eval x=.func (.yield L) #[] #[]:=S.fr.ev;have e:=S.fr.Sb (xs:=xs) (vs:=vs);have e1:(cu a.eval (.call { callee:=.value x,args:=xs.toArray,argTypes:=ts }) ty).run P w=.ok (.round L fn tmps assign body) w:=by
  rw[←hrun];simp[cu,execOp,resolve,hf,Deferred.ofValue,invoke,e]
 simp only[e1,Oper.uponIn];refine ⟨fun h=>(by cases h),RoundIn.mono CP ?_⟩;have key:∀ (b:Bool) (W:World),aJ M wI W→(b=true→J W)→(b=false→Jx W)→WL P r ops Q rest (a.put d (.bool b)) W:=fun b W iR h1 h2=>by
  have:=hp b;have S':=S.put (d:=d) (v:=.bool b);refine K b (fun k=>(M k∨wI.heap.size≤k)∧k < W.heap.size) _ W h1 h2 ⟨S'.slots,S'.defers,Wd.fE (fun k hk=>hk.2) fun Φ hΦ w'' mQ=>hF Φ hΦ w'' (iR.trans' mQ fun i hi hk=>?_)⟩;rcases hk.1 with h | h
  exact h;omega
 rintro e W ⟨iR,⟨rfl,hJ⟩ | ⟨rfl,hJ⟩⟩;exact key true W iR (fun _=>hJ) (fun h=>by cases h);exact key false W iR (fun h=>by cases h) (fun _=>hJ)
class Cp (l:Cx)(x:Option Operand)(dflt:Nat)(v:outParam Nat):Prop where
 eq:(x=none∧v=dflt)∨∃ o kk,x=some o∧Ev l o (.int kk (v:Int))
instance evb0 {l:Cx}{n:Nat} : Cp l none n n:=⟨.inl ⟨rfl,rfl⟩⟩
instance evb1 {l:Cx}{x:Operand}{n m:Nat}{kk:IntKind}{mi:Int}[h:Ev l x (.int kk mi)][hm:ey mi m]:Cp l (some x) n m:=⟨.inr ⟨x,kk,rfl,by have:=hm.eq;subst this;exact h⟩⟩
theorem run_sliceBound {P:Program}{kk:IntKind}{v y:Nat}(h:v≤y)(code:BoundsCode)(w:World):(Instr.sliceBound (.int kk (v:Int)) y code).run P w=.ok v w:=by
 simp[Instr.sliceBound,asIntOf,h]
theorem Ep {c:Code}(h:Wp P r c (Exit.noGoto Q) a w):Wp P r (.scope c) Q a w:=by
 intro b k cs hro hb hr;have h0:(lone (b.atR a (.code (.scope c)::k)) cs w).fenced P (FW r):=fenced_calm hb hr rfl;have s1:step P (lone (b.atR a (.code (.scope c)::k)) cs w)=.next (lone (b.atR a (.code c::.inScope c::k)) cs w):=step_lone_go (by simp[stepG,stepG.exec,Frame.atR]);have s2:∀ (a:Act) (w:World),step P (lone (b.atR a (.inScope c::k)) cs w)=.next (lone (b.atR a k) cs w):=fun a w=>step_lone_go (by simp[stepG,stepG.exec,Frame.atR])
 obtain ⟨e,a₁,w₁,hq,FO⟩:=h b (.inScope c::k) cs hro hb hr;cases e with
 | normal=>exact ⟨.normal,a₁,w₁,hq,.head h0 s1 (StepsIn.trans FO (.one (fenced_calm hb hr rfl) (s2 _ _)))⟩
 | exit id=>
  have hx:exitTo id (.inScope c::k)=exitTo id k:=by simp[exitTo]
  exact ⟨.exit id,a₁,w₁,hq,fun k' hk=>.head h0 s1 (FO.1 k' (by rw[hx];exact hk)),fun hr' hk=>let ⟨k₁,h1,h2⟩:=FO.2 hr' (by rw[hx];exact hk);⟨k₁,h1,.head h0 s1 h2⟩⟩
 | goto l=>exact hq.elim
 | ret=>exact ⟨_,a₁,w₁,hq,.of_steps (.one h0 s1) FO⟩
 | panic ch=>exact ⟨_,a₁,w₁,hq,.of_steps (.one h0 s1) FO⟩
 | outgrown=>exact ⟨_,a₁,w₁,hq,.of_steps (.one h0 s1) FO⟩
theorem O8 (h:Q .ret a w):Exit.noGoto Q .ret a w:=h
def Item.ro (x:Item):Item:={ x with own:=false }
theorem St.SE {x:Item}(S:St w0 M0 ds a w l bs fs)[hr:dD bs x x.ro bs']:St w0 M0 ds a w l bs' fs:=by
 obtain ⟨pre,post,rfl,rfl⟩:=hr.ex;have h:=S.wd;have key:∀ it,it∈pre++x.ro::post→∃ y,y∈pre++x::post∧y.aj=it.aj∧y.holds=it.holds∧(it.own=true→y.own=true):=fun it hi=>by
  rcases List.mem_append.1 hi with hi | hi
  exact ⟨it,by simp[hi],rfl,rfl,id⟩;rcases List.mem_cons.1 hi with rfl | hi
  exact ⟨x,by simp,rfl,rfl,fun h=>by cases h⟩;exact ⟨it,by simp[hi],rfl,rfl,id⟩
 have hfe:dR (pre++x.ro::post)=dR (pre++x::post):=pP rfl;refine ⟨S.slots,S.defers,h.agree,?_,?_,?_,?_,?_,?_⟩;intro it hi;obtain ⟨y,hy,_,h2,_⟩:=key it hi;rw[←h2];exact h.held y hy;intro it hi k hk;obtain ⟨y,hy,h1,_,_⟩:=key it hi;exact h.lt y hy k (h1▸hk);intro it hi ho k hk;obtain ⟨y,hy,h1,_,h3⟩:=key it hi;exact h.own y hy (h3 ho) k (h1▸hk);have hap:=List.pairwise_append.1 h.apart;have s9:=List.pairwise_cons.1 hap.2.1;exact List.pairwise_append.2 ⟨hap.1,List.pairwise_cons.2 s9,fun u hu y hy=>by
  rcases List.mem_cons.1 hy with rfl | hy
  exact hap.2.2 u hu x (by simp);exact hap.2.2 u hu y (by simp[hy])⟩
 intro Φ hΦ;rw[hfe];exact h.facts Φ hΦ;intro it hi w1 w2 hk hh;obtain ⟨y,hy,h1,h2,_⟩:=key it hi;rw[←h2]at hh⊢;exact h.loc y hy w1 w2 (fun k hk'=>hk k (h1▸hk')) hh
theorem St.LD {x:Item}(S:St w0 M0 ds a w l bs fs)[hr:dD bs x.ro x bs'](hown:∀ k,x.aj k→M0 k∨w0.heap.size≤k):St w0 M0 ds a w l bs' fs:=by
 obtain ⟨pre,post,rfl,rfl⟩:=hr.ex;have h:=S.wd;have key:∀ it,it∈pre++x::post→∃ y,y∈pre++x.ro::post∧y.aj=it.aj∧y.holds=it.holds∧(it=x∨y.own=it.own):=fun it hi=>by
  rcases List.mem_append.1 hi with hi | hi
  exact ⟨it,by simp[hi],rfl,rfl,.inr rfl⟩;rcases List.mem_cons.1 hi with rfl | hi
  exact ⟨it.ro,by simp,rfl,rfl,.inl rfl⟩;exact ⟨it,by simp[hi],rfl,rfl,.inr rfl⟩
 have hfe:dR (pre++x::post)=dR (pre++x.ro::post):=pP rfl;refine ⟨S.slots,S.defers,h.agree,?_,?_,?_,?_,?_,?_⟩;intro it hi;obtain ⟨y,hy,_,h2,_⟩:=key it hi;rw[←h2];exact h.held y hy;intro it hi k hk;obtain ⟨y,hy,h1,_,_⟩:=key it hi;exact h.lt y hy k (h1▸hk);intro it hi ho k hk;obtain ⟨y,hy,h1,_,h3⟩:=key it hi;rcases h3 with rfl | h3
 exact hown k hk;exact h.own y hy (h3▸ho) k (h1▸hk);have hap:=List.pairwise_append.1 h.apart;have s9:=List.pairwise_cons.1 hap.2.1;exact List.pairwise_append.2 ⟨hap.1,List.pairwise_cons.2 s9,fun u hu y hy=>by
  rcases List.mem_cons.1 hy with rfl | hy
  exact hap.2.2 u hu y.ro (by simp);exact hap.2.2 u hu y (by simp[hy])⟩
 intro Φ hΦ;rw[hfe];exact h.facts Φ hΦ;intro it hi w1 w2 hk hh;obtain ⟨y,hy,h1,h2,_⟩:=key it hi;rw[←h2]at hh⊢;exact h.loc y hy w1 w2 (fun k hk'=>hk k (h1▸hk')) hh
end
theorem St.mS {w0 M0 ds a w l bs fs}(S:St w0 M0 ds a w l bs fs)(b:Nat){t:TypeId}{cs:List Value}[h:e9 bs b t cs]:M0 b∨w0.heap.size≤b:=S.wd.own _ h.mem rfl b rfl
instance VJ:ey 0 0:=⟨rfl⟩
instance VK:ey 1 1:=⟨rfl⟩
instance VL:ey 4 4:=⟨rfl⟩
theorem CQ {P:Program}{fn:Func}{R:World→Prop}{w0:World}{M0:Nat→Prop}{a:Act}{w:World}{l:List Value}{bs:List Item}{fs:List (World→Prop)}{e:Exit}[hr:ax fn []](S:St w0 M0 [] a w l bs fs)(h:R w)(he:e=.ret∨e=.normal:=by simp) :
  bodyPost P fn (fun e w'=>(∃ v,e=.returned v)∧R w') e a w:=by
 have hv:(results fn l.toArray).run P w=.ok (.tuple #[]) w:=by rw[eE (rs:=[])];simp
 rw[←S.slots]at hv;rcases he with rfl | rfl
 exact bodyPost_ret hv S.defers ⟨⟨_,rfl⟩,h⟩;exact bodyPost_end hv S.defers ⟨⟨_,rfl⟩,h⟩
instance (priority:=100) VM {i s:Nat} : uq i s (i*s):=⟨rfl⟩
theorem iS.O9 {w:World}{i:Nat}{xs:List ak}(h:iS w none i xs):xs=[]:=by
 cases xs with
 | nil=>rfl
 | cons x xs=>obtain ⟨⟨ad,h0,_⟩,_⟩:=h;cases h0
section
variable {P:Program}{ty:TypeId}{l:Cx}{bs:List Item}{fs:List (World→Prop)}{x y:Operand}{t e:TypeId}
instance (priority:=960) XQ {lc:Cx}{b n c k o:Nat}{kk:IntKind}{m:Int}{z:Value}{sz dy:Nat}[Ev lc x (.slice (some ⟨b,0,none⟩) n c)][Ev lc y (.int kk m)][dN P t (.slice e)][TI P e z sz dy][hm:ey m k][hk:cx k n][hmul:uq k sz o] :
  dO P (.indexAddr t x y) ty lc bs fs (.pointer (some ⟨b,o,none⟩)):=⟨fun ρ w h mm=>by
 have hlt:=hk.lt;have h2:=hm.eq;subst h2;have he:(⟨b,0,none⟩:Addr).add (k*sz)=⟨b,o,none⟩:=by rw[hmul.eq,add_lit]
 simp[cu,execOp,h.ev (x:=x) (v:=.slice (some ⟨b,0,none⟩) n c),h.ev (x:=y) (v:=.int kk (k:Int))];simp[gD (P:=P) (t:=t) (e:=e) (z:=z) (sz:=sz) (dy:=dy) (Int.natCast_nonneg k) (Int.ofNat_lt.2 hlt),he]⟩
class eS (a b:Nat):Prop where le:a≤b
instance (priority:=1100) lec0 {a:Nat} : eS a a:=⟨Nat.le_refl _⟩
class LF (om oh:Option Operand):Prop where ok:om.isSome=true→oh.isSome=true
instance hiok0 {oh:Option Operand} : LF none oh:=⟨fun h=>by cases h⟩
instance hiok1 {om:Option Operand}{x:Operand} : LF om (some x):=⟨fun _=>rfl⟩
end
section
variable {P:Program}{r:Option Nat}{ops:Array Oper}{Q:Exit→Act→World→Prop}{w0:World}{M0:Nat→Prop}{ds:List Deferred}{a:Act}{w:World}{l:List Value}{bs bs':List Item}{fs:List (World→Prop)}
 {d:Option Nat} {op:Op} {ty:TypeId} {pos:String} {af:Array Edge} {rest:List Oper} {v:Value} {t e:TypeId} {sz dy n c:Nat} {z:Value} {p:Option Addr} {xs:List Value} {x y:Operand}
theorem AF (g o j:Nat):(⟨g,o,none⟩:Addr).add j=⟨g,o+j,none⟩:=by unfold Addr.add;split <;> simp_all
theorem Er {ρ:Operand→Value}{lc:Cx}{ol oh om:Option Operand}{lo hi mx:Nat}[Ev lc x (.slice p n c)][hl:Cp lc ol 0 lo][hh:Cp lc oh n hi][hx:Cp lc om c mx][dN P t (.slice e)][TI P e z sz dy](hf:Fr ρ lc)
  (h1:mx≤c) (h2:hi≤mx) (h3:lo≤hi) (hxh:om.isSome=true→oh.isSome=true) (w:World) :
  (cu ρ (.slice t x ol oh om) ty).run P w=.ok (.value (.slice (if mx=lo then p else p.map (·.add (lo*sz))) (hi - lo) (mx - lo))) w:=by
 have hsz:=cv (P:=P) (t:=e) (z:=z) (s:=sz) (b:=dy) w;have eX:ρ x=.slice p n c:=hf.ev;have hb:(Instr.sliceBounds true n c (ol.map ρ) (oh.map ρ) (om.map ρ)).run P w=.ok (lo,hi,mx) w:=by
  rcases hx.eq with ⟨rfl,rfl⟩ | ⟨o,kk,rfl,h⟩
  rcases hh.eq with ⟨rfl,rfl⟩ | ⟨o2,LH,rfl,h'⟩
  rcases hl.eq with ⟨rfl,rfl⟩ | ⟨o3,AG,rfl,h''⟩
  simp[Instr.sliceBounds];have e3:=hf.ev (x:=o3) (v:=.int AG (lo:Int));simp[Instr.sliceBounds,e3,run_sliceBound h3];have e2:=hf.ev (x:=o2) (v:=.int LH (hi:Int));have NR:hi≤mx:=h2;rcases hl.eq with ⟨rfl,rfl⟩ | ⟨o3,AG,rfl,h''⟩
  simp[Instr.sliceBounds,e2,run_sliceBound NR];have e3:=hf.ev (x:=o3) (v:=.int AG (lo:Int));simp[Instr.sliceBounds,Sem.run_bind,e2,e3,run_sliceBound NR,run_sliceBound h3];have e1:=hf.ev (x:=o) (v:=.int kk (mx:Int));rcases hh.eq with ⟨rfl,rfl⟩ | ⟨o2,LH,rfl,h'⟩
  exact absurd (hxh rfl) (by simp);have e2:=hf.ev (x:=o2) (v:=.int LH (hi:Int));rcases hl.eq with ⟨rfl,rfl⟩ | ⟨o3,AG,rfl,h''⟩
  simp[Instr.sliceBounds,Sem.run_bind,e1,e2,run_sliceBound h1,run_sliceBound h2];have e3:=hf.ev (x:=o3) (v:=.int AG (lo:Int));simp[Instr.sliceBounds,Sem.run_bind,e1,e2,e3,run_sliceBound h1,run_sliceBound h2,run_sliceBound h3]
 have key:(Instr.slice t (.slice p n c) (ol.map ρ) (oh.map ρ) (om.map ρ)).run P w=.ok (.slice (if mx=lo then p else p.map (·.add (lo*sz))) (hi - lo) (mx - lo)) w:=by
  simp only[Instr.slice,Sem.run_bind,cp,Result.andThen_ok,hb,hsz,Sem.run_pure]
 simp only[cu,execOp,Instr.sliceAt,eX,Sem.run_bind,cp,Result.andThen_ok,Sem.run_pure];simp[key]
instance (priority:=700) SF {lc:Cx}{ol oh om:Option Operand}{lo hi mx:Nat}[Ev lc x (.slice p n c)][Cp lc ol 0 lo][Cp lc oh n hi][Cp lc om c mx][dN P t (.slice e)][TI P e z sz dy][h1:eS mx c][h2:eS hi mx][h3:eS lo hi][h4:LF om oh] :
  dO P (.slice t x ol oh om) ty lc bs fs (.slice (if mx=lo then p else p.map (·.add (lo*sz))) (hi - lo) (mx - lo)):=⟨fun _ρ w h _=>Er h h1.le h2.le h3.le h4.ok w⟩
end
theorem sS {w:World}{e:TypeId}{p:Option Addr}{n c:Nat}{xs:List ak}(h:w.ownsRow 0 e 5 (.slice p n c) n (aa xs))(hk:∀ x∈xs,f_ w x):∀ (k i:Nat),xs.length - i=k→i≤xs.length→iS w p i (xs.drop i)
 | 0,i,hi,hle=>by rw[List.drop_of_length_le (by omega)];simp[iS]
 | k+1,i,hi,hle=>by
  have hlt:i < xs.length:=by omega
  have hn:n=xs.length:=by
   have:=h.1;rw[aU]at this;have e5:cX.sz ak=5:=rfl;rw[e5]at this;omega
  obtain ⟨g,cur,hp,_⟩:=eB h (by omega);rw[js hlt];refine ⟨⟨⟨g,0,none⟩,hp,fun j v hj=>?_⟩,hk _ (fC hlt),sS h hk k (i+1) (by omega) hlt⟩;have Cm:j < 5:=(List.getElem?_eq_some_iff.1 hj).1;have h1:=eV xs i _ (jn hlt) j Cm;have h2:(aa xs)[i*5+j]? = some v:=by
   rw[←hj];exact h1
  have h3:=nN h h2;rw[hp]at h3;simp only[dx,Option.getD_some,add_add]at h3;exact h3
theorem j8 {M:Nat→Prop}{w:World}{e:TypeId}{p:Option Addr}{n c:Nat}{xs:List ak}(h:w.ownsRow 0 e 5 (.slice p n c) n (aa xs))(hk:∀ x∈xs,ag M w (dc x))(hM:∀ ad,p=some ad→¬M ad.block):ag M w (Ae p 0 xs):=fun w' bP=>by
 have h':w'.ownsRow 0 e 5 (.slice p n c) n (aa xs):=gv e 5 p n c (aa xs) w w' (fun k hkf=>by
  obtain ⟨ad,h1,h2⟩:=hkf;exact bP.iB (bS h k ⟨ad,h1,h2⟩) (by rw[h2];exact hM ad h1)) h
 have:=sS h' (fun x hx=>hk x hx w' bP) _ 0 rfl (Nat.zero_le _);rw[List.drop_zero]at this;exact this
theorem St.gj {w0 M0 ds a w l bs fs}(S:St w0 M0 ds a w l bs fs)(x y:Item)[h:dj [x,y] bs](k:Nat)(hk:x.aj k):¬y.aj k:=by
 have:=(S.wd.apart.sublist h.sub);simp only[List.pairwise_cons,List.mem_singleton,forall_eq]at this;exact this.1 k hk
theorem jW {α β:Type}{f:α→β} : ∀ {l:List α},(l.map f).Nodup→l.Nodup
 | [],_=>.nil
 | x::l,h=>by
  rw[List.map_cons,List.nodup_cons]at h;exact List.nodup_cons.2 ⟨fun hx=>h.1 (List.mem_map.2 ⟨x,hx,rfl⟩),jW h.2⟩
def kvS (x:List UInt8 × Value):Value × Value:=(str x.1,x.2)
def CR (e:MapEntry):Value × Value:=(e.key,e.val)
def mpi (b r:Nat)(kv done:List (List UInt8 × Value)):Item where
 aj:=fun k=>k=b∨k=r
 holds:=fun w=>∃ (es:Array MapEntry) (clock:Nat) (ds:List MapEntry),w.heap[b]? = some (.map es clock)∧es.toList.map CR=kv.map kvS∧(∀ e∈es.toList,e.born < clock)∧(es.toList.map (·.born)).Nodup∧
  w.heap[r]? = some (.mapIter (some b) clock (ds.map (·.born)).toArray clock)∧(∀ e∈ds,e∈es.toList)∧(ds.map (·.born)).Nodup∧ds.map CR=done.map kvS
class XR (bs:List Item)(r:Nat)(b:outParam Nat)(kv done:outParam (List (List UInt8 × Value))):Prop where mem:mpi b r kv done∈bs
class VN (bs:List Item)(b:Nat)(kv:outParam (List (List UInt8 × Value))):Prop where mem:∃ r done,mpi b r kv done∈bs
theorem born_inj {es:List MapEntry}(h:(es.map (·.born)).Nodup){e e':MapEntry}(he:e∈es)(he':e'∈es)(hb:e.born=e'.born):e=e':=by
 induction es with
 | nil=>cases he
 | cons x xs ih=>
  rw[List.map_cons,List.nodup_cons]at h;rcases List.mem_cons.1 he with q | q <;> rcases List.mem_cons.1 he' with q' | q'
  ·rw[q,q']
  ·exact absurd (List.mem_map.2 ⟨e',q',by rw[←hb,q]⟩) h.1
  ·exact absurd (List.mem_map.2 ⟨e,q,by rw[hb,q']⟩) h.1
  ·exact ih h.2 q q'
section
variable {P:Program}{r0:Option Nat}{ops:Array Oper}{Q:Exit→Act→World→Prop}{w0:World}{M0:Nat→Prop}{ds:List Deferred}{a:Act}{w:World}{l:List Value}{bs:List Item}{fs:List (World→Prop)}
 {d:Option Nat} {op:Op} {ty:TypeId} {pos:String} {af:Array Edge} {rest:List Oper} {t kt et:TypeId} {x:Operand} {b:Nat} {kv:List (List UInt8 × Value)}
theorem sU {w w1:World}{r:Nat}{o:Obj}{M:Nat→Prop}(h1:w1=w∨w1=w.drew)(hM:M r)(hr:r < w.heap.size):aJ M w (ChangeMaps.setBlock w1 r o)∧(ChangeMaps.setBlock w1 r o).heap[r]? = some o∧(ChangeMaps.setBlock w1 r o).heap.size=w.heap.size:=by
 have key:aJ M w (ChangeMaps.setBlock w r o)∧(ChangeMaps.setBlock w r o).heap[r]? = some o∧(ChangeMaps.setBlock w r o).heap.size=w.heap.size:=by
  refine ⟨⟨rfl,rfl,rfl,by simp[ChangeMaps.setBlock],fun k hk hm=>?_⟩,?_,?_⟩;have:r≠k:=fun e=>hm (e▸hM)
  simp[ChangeMaps.setBlock,this];simp[ChangeMaps.setBlock,hr];simp[ChangeMaps.setBlock]
 rcases h1 with rfl | rfl
 exact key;exact ⟨⟨rfl,rfl,rfl,key.1.2.2.2.1,key.1.2.2.2.2⟩,key.2⟩
end
section
variable {P:Program}{r:Option Nat}{ops:Array Oper}{Q:Exit→Act→World→Prop}{w0:World}{M0:Nat→Prop}{ds:List Deferred}{a:Act}{w:World}{l:List Value}{bs:List Item}{fs:List (World→Prop)}
 {d:Option Nat} {ty:TypeId} {pos:String} {af:Array Edge} {rest:List Oper} {f:Nat} {x:Operand} {ys:List Operand} {args:List Value} {ts:Array TypeId}
theorem Wd.addItem {w':World}{y:Item}(hold:Wd w0 M0 w bs fs)(hw:yB w w')(hy:y.holds w')(nt:∀ k,y.aj k→w.heap.size≤k)(hlt:∀ k,y.aj k→k < w'.heap.size)
  (yE:∀ w1 w2:World,(∀ k,y.aj k→w2.heap[k]? = w1.heap[k]?)→y.holds w1→y.holds w2):Wd w0 M0 w' (y::bs) fs:=by
 refine (hold.step hw).more hy (fun k hk=>Nat.le_trans hold.agree.size (nt k hk)) hlt (fun it hi k hk hk'=>absurd (hold.lt it hi k hk') (by have:=nt k hk;omega)) (fun Φ hΦ w'' mQ=>?_) yE;refine hold.facts Φ hΦ w'' ((hw.mono (fun _ _ h=>h.elim)).trans' mQ fun i hi ⟨it,hm,hk⟩=>?_);rcases List.mem_cons.1 hm with rfl | hm
 exact absurd (nt i hk) (by omega);exact ⟨it,hm,hk⟩
end
end Go.Wk
namespace Go.Proofs.YtdakncgafdnjfaaGreat
open Go.Proofs.Tryz
open Go Go.Wk
set_option synthInstance.maxSize 100000
set_option synthInstance.maxHeartbeats 400000
set_option maxRecDepth 100000
abbrev eO:ak:=.mk 0 0 0 [] none 0 []
theorem rV {M:Nat→Prop}{w:World}{t x:ak}(h:ag M w (dc t))(hx:x∈t.kids):ag M w (dc x):=by
 obtain ⟨k,hk,rfl⟩:=List.mem_iff_getElem.1 hx;exact h.imp fun w' bP=>((f_.iff.1 bP).2.2.get (List.getElem?_eq_getElem hk)).2
theorem Et (xs:List ak)(p:Option Addr)(n c:Nat)(w0:World)(hn:xs.length=n)(hl:n≤10000000)(hx:Fx w0 (Ae p 0 xs)) :
  aT prog 251 [.slice p n c] w0 (fun _=>False) fun v w'=>∃ p' c',v=.slice p' n c'∧w'.ownsRow 0 43 5 (.slice p' n c') n (aa xs)∧∀ ad,p'=some ad→w0.heap.size≤ad.block:=by
 refine E1 func251 rfl ntmps251 (Wd.begin (fs:=[Ae p 0 xs]) (by simpa using hx)) ?_;intro a S;refine jq ?_;intro a S;refine kC S (fun h1=>?_) (fun h1=>?_);refine J7 ?_;intro a S;have hp:p=none:=by simpa using h1
 subst hp;have hx0:=hx.now.O9;subst hx0;simp at hn;subst hn;refine aD S (fun _=>?_);exact ⟨none,0,rfl,World.ownsRow_nil _ _ _ _,fun _ h=>by cases h⟩;refine kK (aQ (kS (kR ?_)));refine sn S ?_;intro b5 a w S;refine J1 ?_;intro a S;replace S:=S.bT b5 5 0 rfl (by omega);have hN:eu xs n:=⟨hn⟩;refine gA S (by simp[maxLen];omega) (by omega) ?_;rintro p2 c2 a w - S;rw[j6,Nat.zero_add]at S;refine J4 ?_;intro a S;have hrow:=S.row p2 n;have hnew:=S.cQ p2 n;refine aD S (fun _=>?_);exact ⟨p2,c2,rfl,hrow,fun ad h=>(hnew ad h).elim (fun h=>h.elim) id⟩
theorem FP (xs:List ak)(k:Nat)(h:k≤xs.length):(aa xs).drop (k*5)=aa (xs.drop k):=by
 have e:aa xs=aa (xs.take k)++aa (xs.drop k):=by rw[←aC,List.take_append_drop]
 have hl:(aa (xs.take k)).length=k*5:=by rw[aU,List.length_take,Nat.min_eq_left h];rfl
 rw[e,←hl,List.drop_left]
end Go.Proofs.YtdakncgafdnjfaaGreat
namespace Go.Wk
open Go Go.Deep Go.ChangeShapes Go.WideShapes Go.ChangeAt Go.RowKit
section
variable {H:Type}{enc:TypeId × Value→H}{P:Program}{w:World}{base:Nat}{spare:Nat→Bool}{held:Bool}{L:TypeId}
end
section
variable {w0:World}{M0:Nat→Prop}{ds:List Deferred}{a:Act}{w:World}{l:List Value}{bs:List Item}{fs:List (World→Prop)}
theorem St.O_ {bs':List Item}{e:TypeId}{sz c:Nat}{xs:List Value}(S:St w0 M0 ds a w l bs fs)(p:Option Addr)(m n:Nat)[hr:gE bs p n e sz c xs][k4:dD bs (Wk.row e sz p n c xs) (Wk.row e sz p m c (xs.take (m*sz))) bs'](hle:m≤n):St w0 M0 ds a w l bs' fs:=by
 have hrow:=S.row p n;have hown:w.ownsRow 0 e sz (.slice p m c) m (xs.take (m*sz)):=by
  refine ⟨by rw[List.length_take,hrow.1,Nat.min_eq_left (Nat.mul_le_mul_right _ hle)],?_⟩;rcases hrow.2 with ⟨hv,rfl⟩ | ⟨g,cap,cur,hv,hb,hg,hnc,nM,hcs,ht⟩
  cases hv;exact .inl ⟨by rw[show m=0 from by omega],by omega⟩;cases hv;exact .inr ⟨g,c,cur,rfl,hb,hg,by omega,nM,hcs,by rw[←ht,List.take_take,Nat.min_eq_left (Nat.mul_le_mul_right _ hle)]⟩
 exact S.lg (x:=Wk.row e sz p n c xs) (y:=Wk.row e sz p m c (xs.take (m*sz))) S.slots S.defers rfl (aJ.refl _ _) hown (fun k h=>.inl h) (bS hown) (gv _ _ _ _ _ _)
theorem gm {w:World}{e:TypeId}{sz:Nat}{p:Option Addr}{n c:Nat}{xs:List Value}(h:w.ownsRow 0 e sz (.slice p n c) n xs):n≤c:=by
 rcases h.2 with ⟨hv,h0⟩ | ⟨g,cap,cur,hv,hb,hg,hnc,nM,hcs,ht⟩
 omega;cases hv;exact hnc
end
def dA (L:List ak):World→Prop:=fun w=>∀ x∈L,f_ w x
theorem dA.aO {M:Nat→Prop}{w:World}{L:List ak}(h:∀ x∈L,ag M w (dc x)):ag M w (dA L):=fun w' hw x hx=>h x hx w' hw
theorem dA.get {M:Nat→Prop}{w:World}{L:List ak}(h:ag M w (dA L)){x:ak}(hx:x∈L):ag M w (dc x):=fun w' hw=>h w' hw x hx
def bG (ys:List Int)(k:Nat):Int:=ys.getD k 0
theorem nP {ys:List Int}{k:Nat}(h:k < ys.length):ys[k]? = some (bG ys k):=by simp[bG,h]
theorem iE.nil {p:Option Addr}{w:World} : iE p [] w:=⟨fun _=>rfl,fun _ _ j u hj=>by simp at hj⟩
section
variable {P:Program}{l lc:Cx}{bs:List Item}{fs:List (World→Prop)}{x y:Operand}{p:Option Addr}{n c k:Nat}{kk:IntKind}{m:Int}{ys:List Int}{t ty e:TypeId}{z:Value}{dy:Nat}
end
class dW (α:Type) extends cX α where
 dflt:α
 ny:World→α→Prop
 mono:∀ (w w':World) (x:α),(∀ ad v,w.cell? ad=some v→w'.cell? ad=some v)→ny w x→ny w' x
instance layI:dW Int:={ Xw with dflt:=0,ny:=fun _ _=>True,mono:=fun _ _ _ _ h=>h }
instance layS:dW (List UInt8):={ Xx with dflt:=[],ny:=fun _ _=>True,mono:=fun _ _ _ _ h=>h }
instance layT:dW ak:={ Sn with dflt:=eO,ny:=f_,mono:=fun _ _ x h hx=>f_.mono h x hx }
instance SG:cX Bool:=⟨1,fun b=>[.bool b],fun _=>rfl,fun x u hu=>by obtain rfl:=List.mem_singleton.1 hu;rfl⟩
instance layBo:dW Bool:={ SG with dflt:=false,ny:=fun _ _=>True,mono:=fun _ _ _ _ h=>h }
instance layB:dW UInt8:={ Xv with dflt:=0,ny:=fun _ _=>True,mono:=fun _ _ _ _ h=>h }
def NS {α:Type}[dW α](x:α):World→Prop:=fun w=>dW.ny w x
def av {α:Type}[dW α](p:Option Addr)(xs:List α):World→Prop:=fun w=>iE p (aa xs) w∧∀ x∈xs,dW.ny w x
def aq {α:Type}[dW α](xs:List α)(k:Nat):α:=xs.getD k dW.dflt
theorem bu {α:Type}[dW α]{xs:List α}{k:Nat}(h:k < xs.length):xs[k]? = some (aq xs k):=by simp[aq,h]
theorem bh {α:Type}[dW α]{xs:List α}{k:Nat}(h:k < xs.length):aq xs k∈xs:=List.mem_of_getElem? (bu h)
theorem bE {α:Type}[dW α]{xs:List α}{k:Nat}(h:k < xs.length):xs.drop k=aq xs k::xs.drop (k+1):=by
 rw[List.drop_eq_getElem_cons h]
 congr 1
 simp[aq,h]
theorem eC {α:Type}[dW α]{xs:List α}{k:Nat}(h:k < xs.length):xs.take (k+1)=xs.take k++[aq xs k]:=by
 rw[List.take_add_one,bu h];rfl
def eG (p:Option Addr)(k sz off:Nat):Addr:=(p.getD ⟨0,0,none⟩).add (k*sz+off)
structure Sl (α:Type) where
 p:Option Addr
 cap:Nat
 xs:List α
abbrev Sl.v {α:Type}(s:Sl α):Value:=.slice s.p s.xs.length s.cap
instance SH {α:Type} : cX (Sl α):=⟨1,fun s=>[s.v],fun _=>rfl,fun x u hu=>by obtain rfl:=List.mem_singleton.1 hu;rfl⟩
theorem iE.mono {p:Option Addr}{xs:List Value}{w w':World}(h:∀ ad v,w.cell? ad=some v→w'.cell? ad=some v)(hs:iE p xs w):iE p xs w':=⟨hs.1,fun ad hp j u hj=>h _ _ (hs.2 ad hp j u hj)⟩
theorem av.mono {α:Type}[dW α]{p:Option Addr}{xs:List α}{w w':World}(h:∀ ad v,w.cell? ad=some v→w'.cell? ad=some v)(hs:av p xs w):av p xs w':=⟨hs.1.mono h,fun x hx=>dW.mono w w' x h (hs.2 x hx)⟩
instance laySl {α:Type}[dW α]:dW (Sl α):={ SH with
 dflt:=⟨none,0,[]⟩
 ny:=fun w s=>s.xs.length≤s.cap∧s.cap≤maxLen∧av s.p s.xs w
 mono:=fun _ _ _ h hx=>⟨hx.1,hx.2.1,hx.2.2.mono h⟩ }
theorem NS.aO {α:Type}[dW α]{w:World}{x:α}(h:dW.ny w x):Fx w (NS x):=fun w' bP=>dW.mono w w' x (fun _ _ hc=>uy bP hc) h
theorem av.aO {α:Type}[dW α]{w:World}{p:Option Addr}{xs:List α}(h:av p xs w):Fx w (av p xs):=fun _ bP=>h.mono fun _ _ hc=>uy bP hc
theorem jd {α:Type}[dW α]{w:World}{p:Option Addr} : av (α:=α) p [] w:=⟨iE.nil,fun _ h=>by cases h⟩
theorem yJ {α:Type}[dW α]{w:World}{p:Option Addr}{xs:List α}(h:av p xs w){k:Nat}(hk:k < xs.length)(hz:0 < cX.sz α):∃ ad,p=some ad:=by
 cases hp:p with
 | some ad=>exact ⟨ad,rfl⟩
 | none=>
  have h1:=congrArg List.length (h.1.1 hp);rw[aU]at h1;have h2:xs.length*cX.sz α=0:=h1;rcases Nat.mul_eq_zero.1 h2 with h3 | h3 <;> omega
theorem Eu {α:Type}[dW α]{w:World}{p:Option Addr}{xs:List α}(h:av p xs w){k:Nat}(hk:k < xs.length){j:Nat}{u:Value}(hj:(cX.cells (aq xs k))[j]? = some u):w.cell? (eG p k (cX.sz α) j)=some u:=by
 have hjs:j < cX.sz α:=by
  have:=(List.getElem?_eq_some_iff.1 hj).1
  rwa [cX.len]at this
 obtain ⟨ad,rfl⟩:=yJ h hk (by omega);exact h.1.2 ad rfl _ _ ((eV xs k _ (bu hk) j hjs).trans hj)
class lI (fs:List (World→Prop))(p:Option Addr)(α:outParam Type)(i:outParam (dW α))(xs:outParam (List α)):Prop where
 of:∀ (M:Nat→Prop) (w:World),(∀ Φ∈fs,ag M w Φ)→ag M w (av p xs)
instance hasg0 {α:Type}[i:dW α]{fs:List (World→Prop)}{p:Option Addr}{xs:List α} : lI (av p xs::fs) p α i xs:=⟨fun _ _ h=>h _ (by simp)⟩
instance (priority:=900) hasgS {α:Type}{i:dW α}{fs:List (World→Prop)}{Φ:World→Prop}{p:Option Addr}{xs:List α}[h:lI fs p α i xs]:lI (Φ::fs) p α i xs:=⟨fun M w hf=>h.of M w fun Ψ hΨ=>hf Ψ (by simp[hΨ])⟩
class Ew (fs:List (World→Prop)){α:Type}[dW α](xs:List α):Prop where
 of:∀ (M:Nat→Prop) (w:World),(∀ Φ∈fs,ag M w Φ)→∃ p,ag M w (av p xs)
instance XS {α:Type}[i:dW α]{fs:List (World→Prop)}{p:Option Addr}{xs:List α} : Ew (av p xs::fs) xs:=⟨fun _ _ h=>⟨p,h _ (by simp)⟩⟩
instance (priority:=900) XT {α:Type}[i:dW α]{fs:List (World→Prop)}{Φ:World→Prop}{xs:List α}[h:Ew fs xs]:Ew (Φ::fs) xs:=⟨fun M w hf=>h.of M w fun Ψ hΨ=>hf Ψ (by simp[hΨ])⟩
class SI (fs:List (World→Prop)){α:Type}[dW α](x:α):Prop where
 of:∀ (M:Nat→Prop) (w:World),(∀ Φ∈fs,ag M w Φ)→ag M w (NS x)
instance (priority:=850) hasgI {α:Type}[i:dW α]{fs:List (World→Prop)}{s:Sl α}[h:SI fs s]:lI fs s.p α i s.xs:=⟨fun M w hf=>(h.of M w hf).imp fun _ h=>h.2.2⟩
instance (priority:=850) XU {α:Type}[i:dW α]{fs:List (World→Prop)}{s:Sl α}[h:SI fs s]:Ew fs s.xs:=⟨fun M w hf=>⟨s.p,(h.of M w hf).imp fun _ h=>h.2.2⟩⟩
section
variable {α:Type}[dW α]{w0:World}{M0:Nat→Prop}{ds:List Deferred}{a:Act}{w:World}{l:List Value}{bs:List Item}{fs:List (World→Prop)}
theorem St.gl {α:Type}{i:dW α}(S:St w0 M0 ds a w l bs fs)(p:Option Addr){xs:List α}[h:lI fs p α i xs]:ag (dR bs) w (av p xs):=h.of _ _ S.wd.facts
theorem St.j9 {α:Type}{i:dW α}(S:St w0 M0 ds a w l bs fs)(p:Option Addr){xs:List α}[h:lI fs p α i xs]:Fx w (av p xs):=(S.gl p).less fun _ _ h=>h.elim
theorem FQ {M:Nat→Prop}{e:TypeId}{p:Option Addr}{n c sz:Nat}{xs:List α}(h:w.ownsRow 0 e sz (.slice p n c) n (aa xs))(hk:∀ x∈xs,ag M w (NS x))(hM:∀ ad,p=some ad→¬M ad.block):ag M w (av p xs):=fun w' bP=>
 ⟨iE.aO (jc h) hM w' bP,fun x hx=>hk x hx w' bP⟩
end
class Ai (α:Type)[dW α](n:outParam Nat):Prop where
 eq:cX.sz α=n
 pos:0 < n
instance:Ai Int 1:=⟨rfl,by decide⟩
instance:Ai Bool 1:=⟨rfl,by decide⟩
instance:Ai UInt8 1:=⟨rfl,by decide⟩
instance {α:Type}[dW α]:Ai (Sl α) 1:=⟨rfl,by decide⟩
class gx {α:Type}[dW α](x:α)(cs:outParam (List Value)):Prop where eq:cX.cells x=cs
instance {x:Int} : gx x [.int .i64 x]:=⟨rfl⟩
instance {x:Bool} : gx x [.bool x]:=⟨rfl⟩
instance {x:UInt8} : gx x [.int .u8 x.toNat]:=⟨rfl⟩
instance {α:Type}[dW α]{x:Sl α} : gx x [.slice x.p x.xs.length x.cap]:=⟨rfl⟩
section
variable {P:Program}{l:Cx}{bs:List Item}{fs:List (World→Prop)}{x y:Operand}{p:Option Addr}{n c k sz off:Nat}{kk:IntKind}{m:Int}{t ty e:TypeId}{z:Value}{dy:Nat}{α:Type}{i:dW α}{xs:List α}
instance (priority:=880) XV [Ev l x (.slice p n c)][Ev l y (.int kk m)][dN P t (.slice e)][TI P e z sz dy][hm:ey m k][hl:lI fs p α i xs][hs:Ai α sz][hk:cx k n][hk':cx k xs.length] :
  dO P (.indexAddr t x y) ty l bs fs (.pointer (some (eG p k sz 0))):=⟨fun ρ w h mm=>by
 have hlt:=hk.lt;obtain ⟨ad,rfl⟩:=yJ (hl.of _ _ mm.facts).now hk'.lt (by rw[hs.eq];exact hs.pos);have h2:=hm.eq;subst h2;simp[cu,execOp,h.ev (x:=x) (v:=.slice (some ad) n c),h.ev (x:=y) (v:=.int kk (k:Int))];simp[gD (P:=P) (t:=t) (e:=e) (z:=z) (sz:=sz) (dy:=dy) (Int.natCast_nonneg k) (Int.ofNat_lt.2 hlt),eG]⟩
theorem lY (p:Option Addr)(k sz o j:Nat):(eG p k sz o).add j=eG p k sz (o+j):=by simp only[eG,add_add,Nat.add_assoc]
instance (priority:=880) SJ [Ev l x (.pointer (some (eG p k sz 0)))]{s f ft:Nat}[hf:fZ P s f off ft]:dO P (.fieldAddr s x f) ty l bs fs (.pointer (some (eG p k sz off))):=⟨fun ρ w h _=>by
 simp[cu,execOp,h.ev (x:=x) (v:=.pointer (some (eG p k sz 0))),ld (P:=P) (s:=s) (f:=f) (off:=off) (ft:=ft),lY]⟩
theorem qG {cs:List Value}{w:World}[hs:Ai α sz](h:av p xs w)(hk:k < xs.length)[hc:gx (aq xs k) cs]{j:Nat}{u:Value}(hj:cs[j]? = some u):w.cell? (eG p k sz j)=some u:=by
 rw[←hs.eq];exact Eu h hk (by rw[hc.eq];exact hj)
instance (priority:=780) SK {v:Value}{cs:List Value}[Ev l x (.pointer (some (eG p k sz off)))][ha:eU P t false][hl:lI fs p α i xs][hs:Ai α sz][hk:cx k xs.length][hc:gx (aq xs k) cs][hn:pF cs off v] :
  dO P (.load t x) ty l bs fs v:=⟨fun ρ w h mm=>by
 have h1:=qG (hl.of _ _ mm.facts).now hk.lt hn.eq;simp[cu,execOp,Instr.loadAt,h.ev (x:=x) (v:=.pointer (some (eG p k sz off))),Instr.sureAddr,loadVar,Sem.run_bind,ha.run,load,Sem.run,h1]⟩
instance (priority:=780) SL {cs vs:List Value}[Ev l x (.pointer (some (eG p k sz off)))][ha:eU P t true][TI P t z n dy][hl:lI fs p α i xs][hs:Ai α sz][hk:cx k xs.length][hc:gx (aq xs k) cs][hn:Lk cs off n vs] :
  dO P (.load t x) ty l bs fs (.agg ⟨vs⟩):=⟨fun ρ w h mm=>by
 have hlc:=run_loadCells_list (P:=P) w (eG p k sz off) vs (fun j v hj=>by
  have hjn:j < n:=by rw[←hn.eq.1];exact (List.getElem?_eq_some_iff.1 hj).1
  rw[lY];exact qG (hl.of _ _ mm.facts).now hk.lt ((hn.eq.2 j hjn).trans hj))
 rw[hn.eq.1]at hlc;simp[cu,execOp,Instr.loadAt,h.ev (x:=x) (v:=.pointer (some (eG p k sz off))),Instr.sureAddr,loadVar,Sem.run_bind,ha.run,cv,hlc]⟩
instance (priority:=860) srcG {tx:TypeId}[h:dN P tx (.slice e)][hr:lI fs p α i xs][hs:Ai α sz][hn:eu xs n]:yF P tx (.slice p n c) bs fs sz n (aa xs):=⟨fun w mm=>
 HH h.eq (hr.of _ _ mm.facts).now.1 (by rw[aU,hn.eq,hs.eq]) (hY xs) hs.pos⟩
end
class uJ (P:Program)(T:TypeId)(α:Type)[dW α]:Prop where
 of:∀ {H:Type} (enc:TypeId × Value→H) (w:World) (base:Nat) (spare:Nat→Bool) (held:Bool) (fuel:Nat) (cs:List Value) (x:DataW H × List MemPlace),DataW.trod enc P w base spare held fuel T cs=some x→∃ a:α,cs=cX.cells a∧dW.ny w a
 size:P.cellsOf T=cX.sz α
theorem Pa (s:ByteArray):Value.string s=str s.data.toList:=by simp[str]
theorem SM {P:Program}{T:TypeId}(hu:P.underlying T=some (.int .i64))(hs:P.cellsOf T=1):uJ P T Int:=⟨fun enc w base spare held fuel cs x h=>by
 obtain ⟨k,e0,_,_⟩:=DataW.trod_int hu h;exact ⟨k,e0,trivial⟩,hs⟩
theorem SN {P:Program}{T:TypeId}(hu:P.underlying T=some .bool)(hs:P.cellsOf T=1):uJ P T Bool:=⟨fun enc w base spare held fuel cs x h=>by
 obtain ⟨k,e0,_⟩:=DataW.trod_bool hu h;exact ⟨k,e0,trivial⟩,hs⟩
theorem XX {P:Program}{T:TypeId}(hu:P.underlying T=some (.int .u8))(hs:P.cellsOf T=1):uJ P T UInt8:=⟨fun enc w base spare held fuel cs x h=>by
 obtain ⟨k,e0,_,hw⟩:=DataW.trod_int hu h;have hr:0≤k∧k < 256:=by
  simp[Lit.wf,IntKind.min,IntKind.max,IntKind.bits,IntKind.signed]at hw;omega
 refine ⟨UInt8.ofNat k.toNat,?_,trivial⟩;rw[e0]
 show _=[Value.int .u8 ((UInt8.ofNat k.toNat).toNat:Int)]
 rw[UInt8.toNat_ofNat_of_lt' (by show k.toNat < 256;omega)]
 congr 2;omega,hs⟩
theorem XY {P:Program}{T:TypeId}(hu:P.underlying T=some .string)(hs:P.cellsOf T=1):uJ P T (List UInt8):=⟨fun enc w base spare held fuel cs x h=>by
 obtain ⟨s,e0,_⟩:=DataW.trod_string hu h;exact ⟨s.data.toList,by rw[e0,Pa];rfl,trivial⟩,hs⟩
theorem AH {P:Program}{T L:TypeId}{α:Type}[dW α][hT:uJ P T α](hu:P.underlying L=some (.slice T))(hs:P.cellsOf L=1):uJ P L (Sl α):=⟨fun enc w base spare held fuel cs x h=>by
 rcases DataW.trod_slice hu h with ⟨e4,_⟩ | ⟨ad,len,cap,elems,rest,n',rfl,e4,_,_,hlc,nM,hel,hem,_,_⟩
 exact ⟨⟨none,0,[]⟩,e4,Nat.le_refl _,Nat.zero_le _,jd⟩;subst e4;have:Inhabited α:=⟨dW.dflt⟩;obtain ⟨g,hg⟩:=choose_lt (α:=α) (p:=fun i t=>w.cells? base (ad.add (i*cX.sz α)) (cX.sz α)=some (cX.cells t)∧dW.ny w t) (n:=len) (fun i hi=>by
  have h1:=hem i hi;rw[hT.size,List.getElem?_eq_getElem (by omega)]at h1;obtain ⟨cs',h2,h3⟩:=Option.bind_eq_some_iff.1 h1;obtain ⟨t,rfl,ht⟩:=hT.of _ _ _ _ _ _ _ _ h3;exact ⟨t,h2,ht⟩)
 refine ⟨⟨some ad,cap,(List.range len).map g⟩,by simp[cX.cells,Sl.v],by simpa using hlc,nM,⟨fun h=>(by cases h),fun Ee hp j u hj=>?_⟩,fun t ht=>?_⟩;obtain rfl:ad=Ee:=by simpa using hp
 have hjl:j < len*cX.sz α:=by
  have:=(List.getElem?_eq_some_iff.1 hj).1;rw[aU]at this;simpa using this
 have hz:0 < cX.sz α:=Nat.pos_of_ne_zero fun h0=>by rw[h0]at hjl;omega
 have hi:j / cX.sz α < len:=(Nat.div_lt_iff_lt_mul hz).2 hjl;have hm:j % cX.sz α < cX.sz α:=Nat.mod_lt _ hz;have SO:j / cX.sz α*cX.sz α+j % cX.sz α=j:=Nat.div_add_mod' j _;obtain ⟨hc,-⟩:=hg _ hi;obtain ⟨_,_,h5⟩:=World.cells?_some hc;have h6:=h5 _ hm;have h7:=eV ((List.range len).map g) (j / cX.sz α) (g (j / cX.sz α)) (by simp[hi]) _ hm;rw[SO,hj]at h7;rw[Go.Deep.add_add,SO]at h6;rw[h6,←h7];obtain ⟨i,hi,rfl⟩:=List.mem_map.1 ht;exact (hg i (List.mem_range.1 hi)).2,hs⟩
theorem oG {H:Type}{enc:TypeId × Value→H}{P:Program}{w:World}{base:Nat}{spare:Nat→Bool}{held:Bool}{T:TypeId}{fs:Array Field}(hu:P.underlying T=some (.struct fs)){fuel:Nat}{cs:List Value}{x:DataW H × List MemPlace}(h:DataW.trod enc P w base spare held fuel T cs=some x) :
  cs.length=P.cellsOf T∧∀ (i t o:Nat),(fs.toList.map (fun f=>(f.type,f.offset)))[i]? = some (t,o)→∃ n y,DataW.trod enc P w base spare held n t ((cs.drop o).take (P.cellsOf t))=some y:=by
 obtain ⟨xs,n,rfl,rfl,hlen,Ag,hx⟩:=DataW.trod_struct hu h;refine ⟨hlen,fun i t o hi=>?_⟩;rw[List.getElem?_map]at hi;obtain ⟨f,kr,iF⟩:=Option.map_eq_some_iff.1 hi;simp only[Prod.mk.injEq]at iF;obtain ⟨rfl,rfl⟩:=iF;have hlt:i < fs.size:=by simpa using (List.getElem?_eq_some_iff.1 kr).1
 have:=hx i f (by simpa using kr);rw[List.getElem?_eq_getElem (by omega)]at this;exact ⟨n,_,this⟩
theorem eZ {H:Type}{enc:TypeId × Value→H}{P:Program}{w:World}{base:Nat}{spare:Nat→Bool}{held:Bool}{T:TypeId}{α:Type}[dW α][hT:uJ P T α]{n:Nat}{cs:List Value}{y:DataW H × List MemPlace}{o s:Nat}(h:DataW.trod enc P w base spare held n T ((cs.drop o).take s)=some y)(hs:s=P.cellsOf T) :
  ∃ a:α,(cs.drop o).take (cX.sz α)=cX.cells a∧dW.ny w a:=by
 subst hs;obtain ⟨a,h1,h2⟩:=hT.of _ _ _ _ _ _ _ _ h;exact ⟨a,by rw[←hT.size];exact h1,h2⟩
theorem XZ {P:Program}{T:TypeId}[hT:CL P T]:uJ P T ak:=⟨fun enc w base spare held fuel cs x h=>yG fuel cs x h,by obtain ⟨fs,I,S,L,hu,hf,hI,hS,hL,c1,c2,c3,c4⟩:=hT.ex;exact c1⟩
theorem pI {P:Program}{L T:TypeId}{α:Type}[dW α][hT:uJ P L (Sl α)]{H:Type}{enc:TypeId × Value→H}{w:World}{base:Nat}{spare:Nat→Bool}{held:Bool}(hu:P.underlying L=some (.slice T)){v:Value}{d:DataW H}{p:List MemPlace}{r:Reach}{W:World}{base':Nat}(h:DataW.Trod enc P w base spare held L v d p)(hv:Value.okWide P W r base' L v) :
  ∃ s:Sl α,v=s.v∧s.xs.length≤s.cap∧s.cap≤maxLen∧av s.p s.xs w:=by
 obtain ⟨a,len,cap,rfl⟩:=okWide_slice hu hv;obtain ⟨fuel,hf⟩:=h;obtain ⟨s,e,hs⟩:=hT.of _ _ _ _ _ _ _ _ hf;refine ⟨s,?_,hs⟩;have:[Value.slice a len cap]=[s.v]:=by simpa [Value.cells,cX.cells] using e
 simpa using this
open Go
class jN (l:List Value)(ms:List (Nat × Value))(l':outParam (List Value)):Prop where ok:True
instance setg0 {l:List Value} : jN l [] l:=⟨trivial⟩
instance setg1 {u v:Value}{l l':List Value}{ms:List (Nat × Value)}[jN l ms l']:jN (u::l) ((0,v)::ms) (v::l'):=⟨trivial⟩
instance setg2 {u v:Value}{g:Nat}{l l':List Value}{ms:List (Nat × Value)}[jN l ((g,v)::ms) l']:jN (u::l) ((g+1,v)::ms) (u::l'):=⟨trivial⟩
section
variable {P:Program}{r:Option Nat}{Q:Exit→Act→World→Prop}{w0:World}{M0:Nat→Prop}{ds:List Deferred}{a:Act}{w:World}{l:List Value}{bs:List Item}{fs:List (World→Prop)}
theorem LI {id:Nat}{lo:List Oper}  (t:Tr)(S:St w0 M0 ds a w l bs fs)(mods:(Nat→Value)→List (Nat × Value)){l1:(Nat→Value)→List Value}[∀ uu,jN l (mods uu) (l1 uu)](eD:List Item)(fU:List Item)(jo:List (World→Prop))(rel:Prop)
  (h:∀ w,St w0 M0 ds a w l bs fs→AT P lo.toArray (fun w=>Wd w0 M0 w eD fs) (fun a w=>∃ vv,rel∧St w0 M0 ds a w (l1 vv) fU jo) t a w) (hK:∀  uu a w,rel→St w0 M0 ds a w (l1 uu) fU jo→Q .normal a w) (hm:P.follows .mixedOrders=true:=by kernel_rfl)
  (hd:((lo.all fun o=>!cE o.op)&&(Nat.beq t.len lo.length&&(Region.noSelect lo.toArray&&gI lo.toArray t (Array.replicate lo.length false))))=true:=by kernel_rfl):Wp P r (.region id lo.toArray true) Q a w:=
 tM t eD S _ h (fun a w h=>by obtain ⟨vv,h1,h2⟩:=h;exact hK  vv a w h1 h2) hm hd
theorem fD {c:Code}{ι1:Type}(_S:St w0 M0 ds a w l bs fs)(mods:ι1→(Nat→Value)→List (Nat × Value)){l1:ι1→(Nat→Value)→List Value}[∀ x1 uu,jN l (mods x1 uu) (l1 x1 uu)](fU:ι1→List Item)(jo:ι1→List (World→Prop))(rel:ι1→Prop)(μ:ι1→Nat)(z1:ι1)(h0:rel z1)(nQ:Nat→Value)(S0:St w0 M0 ds a w (l1 z1 nQ) (fU z1) (jo z1))
  (hr:∀ x1 uu a w,rel x1→St w0 M0 ds a w (l1 x1 uu) (fU x1) (jo x1)→Wp P r c (Exit.then (fun a w=>∃ y1 vv,rel y1∧St w0 M0 ds a w (l1 y1 vv) (fU y1) (jo y1)∧μ y1 < μ x1) Q) a w):Wp P r (.loop c) Q a w:=by
 refine eR (ι:=ι1) (fun p a w=>rel p∧∃ uu,St w0 M0 ds a w (l1 p uu) (fU p) (jo p)) (fun p=>μ p) (z1) ⟨h0,nQ,S0⟩ ?_;rintro p a w ⟨h1,uu,S1⟩;refine wpIn_mono (hr p uu a w h1 S1) fun e a1 w1 hq=>?_
 cases e <;> first | exact hq | skip
 obtain ⟨y1,vv,h2,S2,hm⟩:=hq;exact ⟨y1,⟨h2,vv,S2⟩,hm⟩
theorem qH {x y:Code}{ι1:Type}(_S:St w0 M0 ds a w l bs fs)(mods:ι1→(Nat→Value)→List (Nat × Value)){l1:ι1→(Nat→Value)→List Value}[∀ x1 uu,jN l (mods x1 uu) (l1 x1 uu)](fU:ι1→List Item)(jo:ι1→List (World→Prop))(rel:ι1→Prop)
  (hx:Wp P r x (Exit.then (fun a w=>∃ y1 vv,rel y1∧St w0 M0 ds a w (l1 y1 vv) (fU y1) (jo y1)) Q) a w) (hy:∀ x1 uu a w,rel x1→St w0 M0 ds a w (l1 x1 uu) (fU x1) (jo x1)→Wp P r y Q a w):Wp P r (.seq x y) Q a w:=
 oC _ hx fun a w h=>by obtain ⟨y1,vv,h1,h2⟩:=h;exact hy y1 vv a w h1 h2
theorem tN {id:Nat}{lo:List Oper}{ι1:Type}(t:Tr)(S:St w0 M0 ds a w l bs fs)(mods:ι1→(Nat→Value)→List (Nat × Value)){l1:ι1→(Nat→Value)→List Value}[∀ x1 uu,jN l (mods x1 uu) (l1 x1 uu)](eD:List Item)(fU:ι1→List Item)(jo:ι1→List (World→Prop))(rel:ι1→Prop)
  (h:∀ w,St w0 M0 ds a w l bs fs→AT P lo.toArray (fun w=>Wd w0 M0 w eD fs) (fun a w=>∃ y1 vv,rel y1∧St w0 M0 ds a w (l1 y1 vv) (fU y1) (jo y1)) t a w) (hK:∀ x1 uu a w,rel x1→St w0 M0 ds a w (l1 x1 uu) (fU x1) (jo x1)→Q .normal a w) (hm:P.follows .mixedOrders=true:=by kernel_rfl)
  (hd:((lo.all fun o=>!cE o.op)&&(Nat.beq t.len lo.length&&(Region.noSelect lo.toArray&&gI lo.toArray t (Array.replicate lo.length false))))=true:=by kernel_rfl):Wp P r (.region id lo.toArray true) Q a w:=
 tM t eD S _ h (fun a w h=>by obtain ⟨y1,vv,h1,h2⟩:=h;exact hK y1 vv a w h1 h2) hm hd
theorem iH {c:Code}{ι1:Type}(_S:St w0 M0 ds a w l bs fs)(mods:ι1→(Nat→Value)→List (Nat × Value)){l1:ι1→(Nat→Value)→List Value}[∀ x1 uu,jN l (mods x1 uu) (l1 x1 uu)]   (rel:ι1→Prop)(μ:ι1→Nat)(z1:ι1)(h0:rel z1)(nQ:Nat→Value)(S0:St w0 M0 ds a w (l1 z1 nQ) bs fs)
  (hr:∀ x1 uu a w,rel x1→St w0 M0 ds a w (l1 x1 uu) bs fs→Wp P r c (Exit.then (fun a w=>∃ y1 vv,rel y1∧St w0 M0 ds a w (l1 y1 vv) bs fs∧μ y1 < μ x1) Q) a w):Wp P r (.loop c) Q a w:=by
 refine eR (ι:=ι1) (fun p a w=>rel p∧∃ uu,St w0 M0 ds a w (l1 p uu) bs fs) (fun p=>μ p) (z1) ⟨h0,nQ,S0⟩ ?_;rintro p a w ⟨h1,uu,S1⟩;refine wpIn_mono (hr p uu a w h1 S1) fun e a1 w1 hq=>?_
 cases e <;> first | exact hq | skip
 obtain ⟨y1,vv,h2,S2,hm⟩:=hq;exact ⟨y1,⟨h2,vv,S2⟩,hm⟩
theorem yK {c:Code}{ι1:Type}(_S:St w0 M0 ds a w l bs fs)(mods:ι1→(Nat→Value)→List (Nat × Value)){l1:ι1→(Nat→Value)→List Value}[∀ x1 uu,jN l (mods x1 uu) (l1 x1 uu)](fU:ι1→List Item)  (rel:ι1→Prop)(μ:ι1→Nat)(z1:ι1)(h0:rel z1)(nQ:Nat→Value)(S0:St w0 M0 ds a w (l1 z1 nQ) (fU z1) fs)
  (hr:∀ x1 uu a w,rel x1→St w0 M0 ds a w (l1 x1 uu) (fU x1) fs→Wp P r c (Exit.then (fun a w=>∃ y1 vv,rel y1∧St w0 M0 ds a w (l1 y1 vv) (fU y1) fs∧μ y1 < μ x1) Q) a w):Wp P r (.loop c) Q a w:=by
 refine eR (ι:=ι1) (fun p a w=>rel p∧∃ uu,St w0 M0 ds a w (l1 p uu) (fU p) fs) (fun p=>μ p) (z1) ⟨h0,nQ,S0⟩ ?_;rintro p a w ⟨h1,uu,S1⟩;refine wpIn_mono (hr p uu a w h1 S1) fun e a1 w1 hq=>?_
 cases e <;> first | exact hq | skip
 obtain ⟨y1,vv,h2,S2,hm⟩:=hq;exact ⟨y1,⟨h2,vv,S2⟩,hm⟩
theorem iI {c:Code}{ι1:Type}{ι2:Type}(_S:St w0 M0 ds a w l bs fs)(mods:ι1→ι2→(Nat→Value)→List (Nat × Value)){l1:ι1→ι2→(Nat→Value)→List Value}[∀ x1 x2 uu,jN l (mods x1 x2 uu) (l1 x1 x2 uu)](fU:ι1→ι2→List Item)(jo:ι1→ι2→List (World→Prop))(rel:ι1→ι2→Prop)(μ:ι1→ι2→Nat)(z1:ι1)(z2:ι2)(h0:rel z1 z2)(nQ:Nat→Value)(S0:St w0 M0 ds a w (l1 z1 z2 nQ) (fU z1 z2) (jo z1 z2))
  (hr:∀ x1 x2 uu a w,rel x1 x2→St w0 M0 ds a w (l1 x1 x2 uu) (fU x1 x2) (jo x1 x2)→Wp P r c (Exit.then (fun a w=>∃ y1 y2 vv,rel y1 y2∧St w0 M0 ds a w (l1 y1 y2 vv) (fU y1 y2) (jo y1 y2)∧μ y1 y2 < μ x1 x2) Q) a w):Wp P r (.loop c) Q a w:=by
 refine eR (ι:=ι1 × ι2) (fun p a w=>rel (p.1) (p.2)∧∃ uu,St w0 M0 ds a w (l1 (p.1) (p.2) uu) (fU (p.1) (p.2)) (jo (p.1) (p.2))) (fun p=>μ (p.1) (p.2)) (z1,z2) ⟨h0,nQ,S0⟩ ?_;rintro p a w ⟨h1,uu,S1⟩;refine wpIn_mono (hr (p.1) (p.2) uu a w h1 S1) fun e a1 w1 hq=>?_
 cases e <;> first | exact hq | skip
 obtain ⟨y1,y2,vv,h2,S2,hm⟩:=hq;exact ⟨(y1,y2),⟨h2,vv,S2⟩,hm⟩
theorem lq {x y:Code}{ι1:Type}{ι2:Type}(_S:St w0 M0 ds a w l bs fs)(mods:ι1→ι2→(Nat→Value)→List (Nat × Value)){l1:ι1→ι2→(Nat→Value)→List Value}[∀ x1 x2 uu,jN l (mods x1 x2 uu) (l1 x1 x2 uu)](fU:ι1→ι2→List Item)(jo:ι1→ι2→List (World→Prop))(rel:ι1→ι2→Prop)
  (hx:Wp P r x (Exit.then (fun a w=>∃ y1 y2 vv,rel y1 y2∧St w0 M0 ds a w (l1 y1 y2 vv) (fU y1 y2) (jo y1 y2)) Q) a w) (hy:∀ x1 x2 uu a w,rel x1 x2→St w0 M0 ds a w (l1 x1 x2 uu) (fU x1 x2) (jo x1 x2)→Wp P r y Q a w):Wp P r (.seq x y) Q a w:=
 oC _ hx fun a w h=>by obtain ⟨y1,y2,vv,h1,h2⟩:=h;exact hy y1 y2 vv a w h1 h2
theorem Ex {id:Nat}{lo:List Oper}{ι1:Type}{ι2:Type}(t:Tr)(S:St w0 M0 ds a w l bs fs)(mods:ι1→ι2→(Nat→Value)→List (Nat × Value)){l1:ι1→ι2→(Nat→Value)→List Value}[∀ x1 x2 uu,jN l (mods x1 x2 uu) (l1 x1 x2 uu)](eD:List Item)(fU:ι1→ι2→List Item)(jo:ι1→ι2→List (World→Prop))(rel:ι1→ι2→Prop)
  (h:∀ w,St w0 M0 ds a w l bs fs→AT P lo.toArray (fun w=>Wd w0 M0 w eD fs) (fun a w=>∃ y1 y2 vv,rel y1 y2∧St w0 M0 ds a w (l1 y1 y2 vv) (fU y1 y2) (jo y1 y2)) t a w) (hK:∀ x1 x2 uu a w,rel x1 x2→St w0 M0 ds a w (l1 x1 x2 uu) (fU x1 x2) (jo x1 x2)→Q .normal a w) (hm:P.follows .mixedOrders=true:=by kernel_rfl)
  (hd:((lo.all fun o=>!cE o.op)&&(Nat.beq t.len lo.length&&(Region.noSelect lo.toArray&&gI lo.toArray t (Array.replicate lo.length false))))=true:=by kernel_rfl):Wp P r (.region id lo.toArray true) Q a w:=
 tM t eD S _ h (fun a w h=>by obtain ⟨y1,y2,vv,h1,h2⟩:=h;exact hK y1 y2 vv a w h1 h2) hm hd
theorem yL {c:Code}{ι1:Type}{ι2:Type}(_S:St w0 M0 ds a w l bs fs)(mods:ι1→ι2→(Nat→Value)→List (Nat × Value)){l1:ι1→ι2→(Nat→Value)→List Value}[∀ x1 x2 uu,jN l (mods x1 x2 uu) (l1 x1 x2 uu)]   (rel:ι1→ι2→Prop)(μ:ι1→ι2→Nat)(z1:ι1)(z2:ι2)(h0:rel z1 z2)(nQ:Nat→Value)(S0:St w0 M0 ds a w (l1 z1 z2 nQ) bs fs)
  (hr:∀ x1 x2 uu a w,rel x1 x2→St w0 M0 ds a w (l1 x1 x2 uu) bs fs→Wp P r c (Exit.then (fun a w=>∃ y1 y2 vv,rel y1 y2∧St w0 M0 ds a w (l1 y1 y2 vv) bs fs∧μ y1 y2 < μ x1 x2) Q) a w):Wp P r (.loop c) Q a w:=by
 refine eR (ι:=ι1 × ι2) (fun p a w=>rel (p.1) (p.2)∧∃ uu,St w0 M0 ds a w (l1 (p.1) (p.2) uu) bs fs) (fun p=>μ (p.1) (p.2)) (z1,z2) ⟨h0,nQ,S0⟩ ?_;rintro p a w ⟨h1,uu,S1⟩;refine wpIn_mono (hr (p.1) (p.2) uu a w h1 S1) fun e a1 w1 hq=>?_
 cases e <;> first | exact hq | skip
 obtain ⟨y1,y2,vv,h2,S2,hm⟩:=hq;exact ⟨(y1,y2),⟨h2,vv,S2⟩,hm⟩
theorem yM {c:Code}{ι1:Type}{ι2:Type}(S:St w0 M0 ds a w l bs fs)(mods:ι1→ι2→(Nat→Value)→List (Nat × Value)){l1:ι1→ι2→(Nat→Value)→List Value}[∀ x1 x2 uu,jN l (mods x1 x2 uu) (l1 x1 x2 uu)](fU:ι1→ι2→List Item)  (rel:ι1→ι2→Prop)(μ:ι1→ι2→Nat)(z1:ι1)(z2:ι2)(h0:rel z1 z2)(nQ:Nat→Value)(S0:St w0 M0 ds a w (l1 z1 z2 nQ) (fU z1 z2) fs)
  (hr:∀ x1 x2 uu a w,rel x1 x2→St w0 M0 ds a w (l1 x1 x2 uu) (fU x1 x2) fs→Wp P r c (Exit.then (fun a w=>∃ y1 y2 vv,rel y1 y2∧St w0 M0 ds a w (l1 y1 y2 vv) (fU y1 y2) fs∧μ y1 y2 < μ x1 x2) Q) a w):Wp P r (.loop c) Q a w:=by
 refine eR (ι:=ι1 × ι2) (fun p a w=>rel (p.1) (p.2)∧∃ uu,St w0 M0 ds a w (l1 (p.1) (p.2) uu) (fU (p.1) (p.2)) fs) (fun p=>μ (p.1) (p.2)) (z1,z2) ⟨h0,nQ,S0⟩ ?_;rintro p a w ⟨h1,uu,S1⟩;refine wpIn_mono (hr (p.1) (p.2) uu a w h1 S1) fun e a1 w1 hq=>?_
 cases e <;> first | exact hq | skip
 obtain ⟨y1,y2,vv,h2,S2,hm⟩:=hq;exact ⟨(y1,y2),⟨h2,vv,S2⟩,hm⟩
theorem Ey {c:Code}{ι1:Type}{ι2:Type}{ι3:Type}(_S:St w0 M0 ds a w l bs fs)(mods:ι1→ι2→ι3→(Nat→Value)→List (Nat × Value)){l1:ι1→ι2→ι3→(Nat→Value)→List Value}[∀ x1 x2 x3 uu,jN l (mods x1 x2 x3 uu) (l1 x1 x2 x3 uu)](fU:ι1→ι2→ι3→List Item)(jo:ι1→ι2→ι3→List (World→Prop))(rel:ι1→ι2→ι3→Prop)(μ:ι1→ι2→ι3→Nat)(z1:ι1)(z2:ι2)(z3:ι3)(h0:rel z1 z2 z3)(nQ:Nat→Value)(S0:St w0 M0 ds a w (l1 z1 z2 z3 nQ) (fU z1 z2 z3) (jo z1 z2 z3))
  (hr:∀ x1 x2 x3 uu a w,rel x1 x2 x3→St w0 M0 ds a w (l1 x1 x2 x3 uu) (fU x1 x2 x3) (jo x1 x2 x3)→Wp P r c (Exit.then (fun a w=>∃ y1 y2 y3 vv,rel y1 y2 y3∧St w0 M0 ds a w (l1 y1 y2 y3 vv) (fU y1 y2 y3) (jo y1 y2 y3)∧μ y1 y2 y3 < μ x1 x2 x3) Q) a w):Wp P r (.loop c) Q a w:=by
 refine eR (ι:=ι1 × ι2 × ι3) (fun p a w=>rel (p.1) (p.2.1) (p.2.2)∧∃ uu,St w0 M0 ds a w (l1 (p.1) (p.2.1) (p.2.2) uu) (fU (p.1) (p.2.1) (p.2.2)) (jo (p.1) (p.2.1) (p.2.2))) (fun p=>μ (p.1) (p.2.1) (p.2.2)) (z1,z2,z3) ⟨h0,nQ,S0⟩ ?_;rintro p a w ⟨h1,uu,S1⟩;refine wpIn_mono (hr (p.1) (p.2.1) (p.2.2) uu a w h1 S1) fun e a1 w1 hq=>?_
 cases e <;> first | exact hq | skip
 obtain ⟨y1,y2,y3,vv,h2,S2,hm⟩:=hq;exact ⟨(y1,y2,y3),⟨h2,vv,S2⟩,hm⟩
theorem jX {x y:Code}{ι1:Type}{ι2:Type}{ι3:Type}(_S:St w0 M0 ds a w l bs fs)(mods:ι1→ι2→ι3→(Nat→Value)→List (Nat × Value)){l1:ι1→ι2→ι3→(Nat→Value)→List Value}[∀ x1 x2 x3 uu,jN l (mods x1 x2 x3 uu) (l1 x1 x2 x3 uu)](fU:ι1→ι2→ι3→List Item)(jo:ι1→ι2→ι3→List (World→Prop))(rel:ι1→ι2→ι3→Prop)
  (hx:Wp P r x (Exit.then (fun a w=>∃ y1 y2 y3 vv,rel y1 y2 y3∧St w0 M0 ds a w (l1 y1 y2 y3 vv) (fU y1 y2 y3) (jo y1 y2 y3)) Q) a w) (hy:∀ x1 x2 x3 uu a w,rel x1 x2 x3→St w0 M0 ds a w (l1 x1 x2 x3 uu) (fU x1 x2 x3) (jo x1 x2 x3)→Wp P r y Q a w):Wp P r (.seq x y) Q a w:=
 oC _ hx fun a w h=>by obtain ⟨y1,y2,y3,vv,h1,h2⟩:=h;exact hy y1 y2 y3 vv a w h1 h2
theorem dI {c:Code}{ι1:Type}{ι2:Type}{ι3:Type}{ι4:Type}(_S:St w0 M0 ds a w l bs fs)(mods:ι1→ι2→ι3→ι4→(Nat→Value)→List (Nat × Value)){l1:ι1→ι2→ι3→ι4→(Nat→Value)→List Value}[∀ x1 x2 x3 x4 uu,jN l (mods x1 x2 x3 x4 uu) (l1 x1 x2 x3 x4 uu)](fU:ι1→ι2→ι3→ι4→List Item)(jo:ι1→ι2→ι3→ι4→List (World→Prop))(rel:ι1→ι2→ι3→ι4→Prop)(μ:ι1→ι2→ι3→ι4→Nat)(z1:ι1)(z2:ι2)(z3:ι3)(z4:ι4)(h0:rel z1 z2 z3 z4)(nQ:Nat→Value)(S0:St w0 M0 ds a w (l1 z1 z2 z3 z4 nQ) (fU z1 z2 z3 z4) (jo z1 z2 z3 z4))
  (hr:∀ x1 x2 x3 x4 uu a w,rel x1 x2 x3 x4→St w0 M0 ds a w (l1 x1 x2 x3 x4 uu) (fU x1 x2 x3 x4) (jo x1 x2 x3 x4)→Wp P r c (Exit.then (fun a w=>∃ y1 y2 y3 y4 vv,rel y1 y2 y3 y4∧St w0 M0 ds a w (l1 y1 y2 y3 y4 vv) (fU y1 y2 y3 y4) (jo y1 y2 y3 y4)∧μ y1 y2 y3 y4 < μ x1 x2 x3 x4) Q) a w):Wp P r (.loop c) Q a w:=by
 refine eR (ι:=ι1 × ι2 × ι3 × ι4) (fun p a w=>rel (p.1) (p.2.1) (p.2.2.1) (p.2.2.2)∧∃ uu,St w0 M0 ds a w (l1 (p.1) (p.2.1) (p.2.2.1) (p.2.2.2) uu) (fU (p.1) (p.2.1) (p.2.2.1) (p.2.2.2)) (jo (p.1) (p.2.1) (p.2.2.1) (p.2.2.2))) (fun p=>μ (p.1) (p.2.1) (p.2.2.1) (p.2.2.2)) (z1,z2,z3,z4) ⟨h0,nQ,S0⟩ ?_;rintro p a w ⟨h1,uu,S1⟩;refine wpIn_mono (hr (p.1) (p.2.1) (p.2.2.1) (p.2.2.2) uu a w h1 S1) fun e a1 w1 hq=>?_
 cases e <;> first | exact hq | skip
 obtain ⟨y1,y2,y3,y4,vv,h2,S2,hm⟩:=hq;exact ⟨(y1,y2,y3,y4),⟨h2,vv,S2⟩,hm⟩
theorem LJ {c:Code}{ι1:Type}{ι2:Type}{ι3:Type}{ι4:Type}(S:St w0 M0 ds a w l bs fs)(mods:ι1→ι2→ι3→ι4→(Nat→Value)→List (Nat × Value)){l1:ι1→ι2→ι3→ι4→(Nat→Value)→List Value}[∀ x1 x2 x3 x4 uu,jN l (mods x1 x2 x3 x4 uu) (l1 x1 x2 x3 x4 uu)](fU:ι1→ι2→ι3→ι4→List Item)  (rel:ι1→ι2→ι3→ι4→Prop)(μ:ι1→ι2→ι3→ι4→Nat)(z1:ι1)(z2:ι2)(z3:ι3)(z4:ι4)(h0:rel z1 z2 z3 z4)(nQ:Nat→Value)(S0:St w0 M0 ds a w (l1 z1 z2 z3 z4 nQ) (fU z1 z2 z3 z4) fs)
  (hr:∀ x1 x2 x3 x4 uu a w,rel x1 x2 x3 x4→St w0 M0 ds a w (l1 x1 x2 x3 x4 uu) (fU x1 x2 x3 x4) fs→Wp P r c (Exit.then (fun a w=>∃ y1 y2 y3 y4 vv,rel y1 y2 y3 y4∧St w0 M0 ds a w (l1 y1 y2 y3 y4 vv) (fU y1 y2 y3 y4) fs∧μ y1 y2 y3 y4 < μ x1 x2 x3 x4) Q) a w):Wp P r (.loop c) Q a w:=by
 refine eR (ι:=ι1 × ι2 × ι3 × ι4) (fun p a w=>rel (p.1) (p.2.1) (p.2.2.1) (p.2.2.2)∧∃ uu,St w0 M0 ds a w (l1 (p.1) (p.2.1) (p.2.2.1) (p.2.2.2) uu) (fU (p.1) (p.2.1) (p.2.2.1) (p.2.2.2)) fs) (fun p=>μ (p.1) (p.2.1) (p.2.2.1) (p.2.2.2)) (z1,z2,z3,z4) ⟨h0,nQ,S0⟩ ?_;rintro p a w ⟨h1,uu,S1⟩;refine wpIn_mono (hr (p.1) (p.2.1) (p.2.2.1) (p.2.2.2) uu a w h1 S1) fun e a1 w1 hq=>?_
 cases e <;> first | exact hq | skip
 obtain ⟨y1,y2,y3,y4,vv,h2,S2,hm⟩:=hq;exact ⟨(y1,y2,y3,y4),⟨h2,vv,S2⟩,hm⟩
theorem qI {c:Code}{ι1:Type}{ι2:Type}{ι3:Type}{ι4:Type}{ι5:Type}(_S:St w0 M0 ds a w l bs fs)(mods:ι1→ι2→ι3→ι4→ι5→(Nat→Value)→List (Nat × Value)){l1:ι1→ι2→ι3→ι4→ι5→(Nat→Value)→List Value}[∀ x1 x2 x3 x4 x5 uu,jN l (mods x1 x2 x3 x4 x5 uu) (l1 x1 x2 x3 x4 x5 uu)](fU:ι1→ι2→ι3→ι4→ι5→List Item)(jo:ι1→ι2→ι3→ι4→ι5→List (World→Prop))(rel:ι1→ι2→ι3→ι4→ι5→Prop)(μ:ι1→ι2→ι3→ι4→ι5→Nat)(z1:ι1)(z2:ι2)(z3:ι3)(z4:ι4)(z5:ι5)(h0:rel z1 z2 z3 z4 z5)(nQ:Nat→Value)(S0:St w0 M0 ds a w (l1 z1 z2 z3 z4 z5 nQ) (fU z1 z2 z3 z4 z5) (jo z1 z2 z3 z4 z5))
  (hr:∀ x1 x2 x3 x4 x5 uu a w,rel x1 x2 x3 x4 x5→St w0 M0 ds a w (l1 x1 x2 x3 x4 x5 uu) (fU x1 x2 x3 x4 x5) (jo x1 x2 x3 x4 x5)→Wp P r c (Exit.then (fun a w=>∃ y1 y2 y3 y4 y5 vv,rel y1 y2 y3 y4 y5∧St w0 M0 ds a w (l1 y1 y2 y3 y4 y5 vv) (fU y1 y2 y3 y4 y5) (jo y1 y2 y3 y4 y5)∧μ y1 y2 y3 y4 y5 < μ x1 x2 x3 x4 x5) Q) a w):Wp P r (.loop c) Q a w:=by
 refine eR (ι:=ι1 × ι2 × ι3 × ι4 × ι5) (fun p a w=>rel (p.1) (p.2.1) (p.2.2.1) (p.2.2.2.1) (p.2.2.2.2)∧∃ uu,St w0 M0 ds a w (l1 (p.1) (p.2.1) (p.2.2.1) (p.2.2.2.1) (p.2.2.2.2) uu) (fU (p.1) (p.2.1) (p.2.2.1) (p.2.2.2.1) (p.2.2.2.2)) (jo (p.1) (p.2.1) (p.2.2.1) (p.2.2.2.1) (p.2.2.2.2))) (fun p=>μ (p.1) (p.2.1) (p.2.2.1) (p.2.2.2.1) (p.2.2.2.2)) (z1,z2,z3,z4,z5) ⟨h0,nQ,S0⟩ ?_;rintro p a w ⟨h1,uu,S1⟩;refine wpIn_mono (hr (p.1) (p.2.1) (p.2.2.1) (p.2.2.2.1) (p.2.2.2.2) uu a w h1 S1) fun e a1 w1 hq=>?_
 cases e <;> first | exact hq | skip
 obtain ⟨y1,y2,y3,y4,y5,vv,h2,S2,hm⟩:=hq;exact ⟨(y1,y2,y3,y4,y5),⟨h2,vv,S2⟩,hm⟩
theorem Ez {c:Code}{ι1:Type}{ι2:Type}{ι3:Type}{ι4:Type}{ι5:Type}(_S:St w0 M0 ds a w l bs fs)(mods:ι1→ι2→ι3→ι4→ι5→(Nat→Value)→List (Nat × Value)){l1:ι1→ι2→ι3→ι4→ι5→(Nat→Value)→List Value}[∀ x1 x2 x3 x4 x5 uu,jN l (mods x1 x2 x3 x4 x5 uu) (l1 x1 x2 x3 x4 x5 uu)](fU:ι1→ι2→ι3→ι4→ι5→List Item)  (rel:ι1→ι2→ι3→ι4→ι5→Prop)(μ:ι1→ι2→ι3→ι4→ι5→Nat)(z1:ι1)(z2:ι2)(z3:ι3)(z4:ι4)(z5:ι5)(h0:rel z1 z2 z3 z4 z5)(nQ:Nat→Value)(S0:St w0 M0 ds a w (l1 z1 z2 z3 z4 z5 nQ) (fU z1 z2 z3 z4 z5) fs)
  (hr:∀ x1 x2 x3 x4 x5 uu a w,rel x1 x2 x3 x4 x5→St w0 M0 ds a w (l1 x1 x2 x3 x4 x5 uu) (fU x1 x2 x3 x4 x5) fs→Wp P r c (Exit.then (fun a w=>∃ y1 y2 y3 y4 y5 vv,rel y1 y2 y3 y4 y5∧St w0 M0 ds a w (l1 y1 y2 y3 y4 y5 vv) (fU y1 y2 y3 y4 y5) fs∧μ y1 y2 y3 y4 y5 < μ x1 x2 x3 x4 x5) Q) a w):Wp P r (.loop c) Q a w:=by
 refine eR (ι:=ι1 × ι2 × ι3 × ι4 × ι5) (fun p a w=>rel (p.1) (p.2.1) (p.2.2.1) (p.2.2.2.1) (p.2.2.2.2)∧∃ uu,St w0 M0 ds a w (l1 (p.1) (p.2.1) (p.2.2.1) (p.2.2.2.1) (p.2.2.2.2) uu) (fU (p.1) (p.2.1) (p.2.2.1) (p.2.2.2.1) (p.2.2.2.2)) fs) (fun p=>μ (p.1) (p.2.1) (p.2.2.1) (p.2.2.2.1) (p.2.2.2.2)) (z1,z2,z3,z4,z5) ⟨h0,nQ,S0⟩ ?_;rintro p a w ⟨h1,uu,S1⟩;refine wpIn_mono (hr (p.1) (p.2.1) (p.2.2.1) (p.2.2.2.1) (p.2.2.2.2) uu a w h1 S1) fun e a1 w1 hq=>?_
 cases e <;> first | exact hq | skip
 obtain ⟨y1,y2,y3,y4,y5,vv,h2,S2,hm⟩:=hq;exact ⟨(y1,y2,y3,y4,y5),⟨h2,vv,S2⟩,hm⟩
theorem tO {c:Code}{ι1:Type}{ι2:Type}{ι3:Type}{ι4:Type}{ι5:Type}{ι6:Type}(_S:St w0 M0 ds a w l bs fs)(mods:ι1→ι2→ι3→ι4→ι5→ι6→(Nat→Value)→List (Nat × Value)){l1:ι1→ι2→ι3→ι4→ι5→ι6→(Nat→Value)→List Value}[∀ x1 x2 x3 x4 x5 x6 uu,jN l (mods x1 x2 x3 x4 x5 x6 uu) (l1 x1 x2 x3 x4 x5 x6 uu)](fU:ι1→ι2→ι3→ι4→ι5→ι6→List Item)(jo:ι1→ι2→ι3→ι4→ι5→ι6→List (World→Prop))(rel:ι1→ι2→ι3→ι4→ι5→ι6→Prop)(μ:ι1→ι2→ι3→ι4→ι5→ι6→Nat)(z1:ι1)(z2:ι2)(z3:ι3)(z4:ι4)(z5:ι5)(z6:ι6)(h0:rel z1 z2 z3 z4 z5 z6)(nQ:Nat→Value)(S0:St w0 M0 ds a w (l1 z1 z2 z3 z4 z5 z6 nQ) (fU z1 z2 z3 z4 z5 z6) (jo z1 z2 z3 z4 z5 z6))
  (hr:∀ x1 x2 x3 x4 x5 x6 uu a w,rel x1 x2 x3 x4 x5 x6→St w0 M0 ds a w (l1 x1 x2 x3 x4 x5 x6 uu) (fU x1 x2 x3 x4 x5 x6) (jo x1 x2 x3 x4 x5 x6)→Wp P r c (Exit.then (fun a w=>∃ y1 y2 y3 y4 y5 y6 vv,rel y1 y2 y3 y4 y5 y6∧St w0 M0 ds a w (l1 y1 y2 y3 y4 y5 y6 vv) (fU y1 y2 y3 y4 y5 y6) (jo y1 y2 y3 y4 y5 y6)∧μ y1 y2 y3 y4 y5 y6 < μ x1 x2 x3 x4 x5 x6) Q) a w):Wp P r (.loop c) Q a w:=by
 refine eR (ι:=ι1 × ι2 × ι3 × ι4 × ι5 × ι6) (fun p a w=>rel (p.1) (p.2.1) (p.2.2.1) (p.2.2.2.1) (p.2.2.2.2.1) (p.2.2.2.2.2)∧∃ uu,St w0 M0 ds a w (l1 (p.1) (p.2.1) (p.2.2.1) (p.2.2.2.1) (p.2.2.2.2.1) (p.2.2.2.2.2) uu) (fU (p.1) (p.2.1) (p.2.2.1) (p.2.2.2.1) (p.2.2.2.2.1) (p.2.2.2.2.2)) (jo (p.1) (p.2.1) (p.2.2.1) (p.2.2.2.1) (p.2.2.2.2.1) (p.2.2.2.2.2))) (fun p=>μ (p.1) (p.2.1) (p.2.2.1) (p.2.2.2.1) (p.2.2.2.2.1) (p.2.2.2.2.2)) (z1,z2,z3,z4,z5,z6) ⟨h0,nQ,S0⟩ ?_;rintro p a w ⟨h1,uu,S1⟩;refine wpIn_mono (hr (p.1) (p.2.1) (p.2.2.1) (p.2.2.2.1) (p.2.2.2.2.1) (p.2.2.2.2.2) uu a w h1 S1) fun e a1 w1 hq=>?_
 cases e <;> first | exact hq | skip
 obtain ⟨y1,y2,y3,y4,y5,y6,vv,h2,S2,hm⟩:=hq;exact ⟨(y1,y2,y3,y4,y5,y6),⟨h2,vv,S2⟩,hm⟩
end
class cV (x:Item):Prop where
 loc:∀ w1 w2:World,(∀ k,x.aj k→w2.heap[k]? = w1.heap[k]?)→x.holds w1→x.holds w2
 lt:∀ w:World,x.holds w→∀ k,x.aj k→k < w.heap.size
instance itBox {b:Nat}{t:TypeId}{cs:List Value} : cV (box b t cs):=⟨qz b t cs,fun w h k hk=>by simp only[box]at hk h;subst hk;exact (Array.getElem?_eq_some_iff.1 h).1⟩
instance itRow {e:TypeId}{sz:Nat}{p:Option Addr}{n c:Nat}{xs:List Value} : cV (row e sz p n c xs):=⟨gv e sz p n c xs,fun _ h=>bS h⟩
def both (x y:Item):Item where
 aj:=fun k=>x.aj k∨y.aj k
 holds:=fun w=>x.holds w∧y.holds w∧∀ k,x.aj k→¬y.aj k
 own:=x.own&&y.own
instance Pb {x y:Item}[hx:cV x][hy:cV y]:cV (both x y):=⟨fun w1 w2 h h1=>⟨hx.loc w1 w2 (fun k hk=>h k (.inl hk)) h1.1,hy.loc w1 w2 (fun k hk=>h k (.inr hk)) h1.2.1,h1.2.2⟩,fun w h k hk=>hk.elim (hx.lt w h.1 k) (hy.lt w h.2.1 k)⟩
theorem uK {x y:Item}{bs:List Item} : dR (both x y::bs)=dR (x::y::bs):=by
 funext k
 simp only[dR,List.mem_cons,or_and_right,exists_or,exists_eq_left,both,or_assoc]
section
variable {w0:World}{M0:Nat→Prop}{ds:List Deferred}{a:Act}{w:World}{l:List Value}{bs bs':List Item}{fs:List (World→Prop)}{x y:Item}
theorem Wd.aL [ox:cV x][oy:cV y](h:Wd w0 M0 w (x::y::bs) fs)(hx:x.own=true)(hy:y.own=true):Wd w0 M0 w (both x y::bs) fs:=by
 have hp:=List.pairwise_cons.1 h.apart;have X0:=List.pairwise_cons.1 hp.2;have hap:∀ k,x.aj k→¬y.aj k:=hp.1 y (by simp);refine ⟨h.agree,?_,?_,?_,?_,?_,?_⟩;intro it hi;rcases List.mem_cons.1 hi with rfl | hi
 exact ⟨h.held x (by simp),h.held y (by simp),hap⟩;exact h.held it (by simp[hi]);intro it hi k hk;rcases List.mem_cons.1 hi with rfl | hi
 exact hk.elim (h.lt x (by simp) k) (h.lt y (by simp) k);exact h.lt it (by simp[hi]) k hk;intro it hi ho k hk;rcases List.mem_cons.1 hi with rfl | hi
 exact hk.elim (h.own x (by simp) hx k) (h.own y (by simp) hy k);exact h.own it (by simp[hi]) ho k hk;exact List.pairwise_cons.2 ⟨fun it hi k hk=>hk.elim (hp.1 it (by simp[hi]) k) (X0.1 it hi k),X0.2⟩;intro Φ hΦ;rw[uK];exact h.facts Φ hΦ;intro it hi;rcases List.mem_cons.1 hi with rfl | hi
 exact (Pb (x:=x) (y:=y)).loc;exact h.loc it (by simp[hi])
theorem Wd.aP [ox:cV x][oy:cV y](h:Wd w0 M0 w (both x y::bs) fs)(hx:x.own=true)(hy:y.own=true):Wd w0 M0 w (x::y::bs) fs:=by
 have hb:=h.held (both x y) (by simp);have hp:=List.pairwise_cons.1 h.apart;have hown:=h.own (both x y) (by simp) (by simp[both,hx,hy]);refine ⟨h.agree,?_,?_,?_,?_,?_,?_⟩;intro it hi;rcases List.mem_cons.1 hi with rfl | hi
 exact hb.1;rcases List.mem_cons.1 hi with rfl | hi
 exact hb.2.1;exact h.held it (by simp[hi]);intro it hi k hk;rcases List.mem_cons.1 hi with rfl | hi
 exact h.lt (both it y) (by simp) k (.inl hk);rcases List.mem_cons.1 hi with rfl | hi
 exact h.lt (both x it) (by simp) k (.inr hk);exact h.lt it (by simp[hi]) k hk;intro it hi ho k hk;rcases List.mem_cons.1 hi with rfl | hi
 exact hown k (.inl hk);rcases List.mem_cons.1 hi with rfl | hi
 exact hown k (.inr hk);exact h.own it (by simp[hi]) ho k hk;refine List.pairwise_cons.2 ⟨fun it hi k hk=>?_,List.pairwise_cons.2 ⟨fun it hi k hk=>hp.1 it hi k (.inr hk),hp.2⟩⟩;rcases List.mem_cons.1 hi with rfl | hi
 exact hb.2.2 k hk;exact hp.1 it hi k (.inl hk);intro Φ hΦ;rw[←uK];exact h.facts Φ hΦ;intro it hi;rcases List.mem_cons.1 hi with rfl | hi
 exact ox.loc;rcases List.mem_cons.1 hi with rfl | hi
 exact oy.loc;exact h.loc it (by simp[hi])
theorem St.perm (S:St w0 M0 ds a w l bs fs)(bs':List Item)(hp:bs'.Perm bs):St w0 M0 ds a w l bs' fs:=⟨S.slots,S.defers,S.wd.perm hp⟩
theorem St.front (S:St w0 M0 ds a w l bs fs)(x:Item)[hd:pH bs x bs']:St w0 M0 ds a w l (x::bs') fs:=S.perm _ hd.perm
theorem St.aL [cV x][cV y](S:St w0 M0 ds a w l (x::y::bs) fs)(hx:x.own=true:=by rfl)(hy:y.own=true:=by rfl):St w0 M0 ds a w l (both x y::bs) fs:=⟨S.slots,S.defers,S.wd.aL hx hy⟩
theorem St.aP [cV x][cV y](S:St w0 M0 ds a w l (both x y::bs) fs)(hx:x.own=true:=by rfl)(hy:y.own=true:=by rfl):St w0 M0 ds a w l (x::y::bs) fs:=⟨S.slots,S.defers,S.wd.aP hx hy⟩
theorem Wd.bV {x:Item}[ox:cV x](h:x.holds w)(hf:∀ Φ∈fs,ag x.aj w Φ):Wd w x.aj w [x] fs:=by
 refine ⟨aJ.refl _ _,?_,?_,?_,by simp,?_,?_⟩;intro it hi;obtain rfl:=List.mem_singleton.1 hi;exact h;intro it hi;obtain rfl:=List.mem_singleton.1 hi;exact ox.lt w h;intro it hi _ k hk;obtain rfl:=List.mem_singleton.1 hi;exact .inl hk;intro Φ hΦ;refine (hf Φ hΦ).less fun k _ hk=>?_
 obtain ⟨it,hi,hk⟩:=hk;obtain rfl:=List.mem_singleton.1 hi;exact hk;intro it hi;obtain rfl:=List.mem_singleton.1 hi;exact ox.loc
theorem Wd.ig {x y:Item}[ox:cV x][oy:cV y](h:(both x y).holds w)(hx:x.own=true)(hy:y.own=true)(hf:∀ Φ∈fs,ag (both x y).aj w Φ):Wd w (both x y).aj w [x,y] fs:=(Wd.bV h hf).aP hx hy
class pJ (bs:List Item)(x:Item):Prop where mem:x∈bs
instance hit0 {x:Item}{bs:List Item} : pJ (x::bs) x:=⟨List.mem_cons_self ..⟩
instance (priority:=900) hit1 {x y:Item}{bs:List Item}[h:pJ bs x]:pJ (y::bs) x:=⟨List.mem_cons_of_mem _ h.mem⟩
theorem St.it (S:St w0 M0 ds a w l bs fs)(x:Item)[h:pJ bs x]:x.holds w:=S.wd.held _ h.mem
theorem St.bU (_S:St w0 M0 ds a w l bs fs)(x:Item)[h:pJ bs x]{Φ:World→Prop}(hΦ:ag (dR bs) w Φ):ag x.aj w Φ:=hΦ.less fun _ _ hk=>⟨_,h.mem,hk⟩
theorem St.bH (S:St w0 M0 ds a w l bs fs)(x:Item)[h:pJ bs x](ho:x.own=true:=by rfl):∀ k,x.aj k→M0 k∨w0.heap.size≤k:=S.wd.own _ h.mem ho
end
section
variable {P:Program}{r:Option Nat}{ops:Array Oper}{Q:Exit→Act→World→Prop}{w0:World}{M0:Nat→Prop}{ds:List Deferred}{a:Act}{w:World}{l:List Value}{bs:List Item}{fs:List (World→Prop)}
 {d:Option Nat} {ty:TypeId} {pos:String} {af:Array Edge} {rest:List Oper} {f:Nat} {x:Operand} {ys:List Operand} {args:List Value} {ts:Array TypeId}
theorem cM {l':Value→List Value}(it:Item)[aF P f][fP ⟨[],l⟩ x ys f args][hp:∀ v,cZ l d v (l' v)](S:St w0 M0 ds a w l bs fs){R:Value→World→Prop}(hc:aT P f args w it.aj R)(ho:it.own=true)
  (K:∀ v a w',R v w'→(∀ (y:Item) {bs':List Item} [dD bs it y bs'] [cV y],y.holds w'→(∀ k,y.aj k→it.aj k∨w.heap.size≤k)→St w0 M0 ds a w' (l' v) bs' fs)→WL P r ops Q rest a w') :
  WL P r ops Q (⟨d,.call { callee:=.value x,args:=ys.toArray,argTypes:=ts },ty,pos,af,none⟩::rest) a w:=
 sri it S hc ho fun v a w' hR hS=>K v a w' hR fun y bs' hr oy h hf=>hS y bs' hr h hf (oy.lt w' h) oy.loc
theorem td {l':Value→List Value}[aF P f][fP ⟨[],l⟩ x ys f args][hp:∀ v,cZ l d v (l' v)](S:St w0 M0 ds a w l bs fs){R:Value→World→Prop}(hc:aT P f args w (fun _=>False) R)
  (K:∀ v a w',w.heap.size≤w'.heap.size→R v w'→(∀ (y:Item) [cV y],y.holds w'→(∀ k,y.aj k→w.heap.size≤k)→St w0 M0 ds a w' (l' v) (y::bs) fs)→St w0 M0 ds a w' (l' v) bs fs→WL P r ops Q rest a w') :
  WL P r ops Q (⟨d,.call { callee:=.value x,args:=ys.toArray,argTypes:=ts },ty,pos,af,none⟩::rest) a w:=by
 refine pS S hc ?_;rintro e w' ⟨v,rfl,ha,hR⟩;have:=hp v;have S':=S.put (d:=d) (v:=v);exact ⟨v,rfl,K v _ w' ha.size hR (fun y oy hy hf=>⟨S'.slots,S'.defers,S'.wd.addItem ha hy hf (oy.lt w' hy) oy.loc⟩) ⟨S'.slots,S'.defers,S'.wd.step ha⟩⟩
end
instance:ey 12 12:=⟨rfl⟩
instance:ey 16 16:=⟨rfl⟩
instance:ey 25 25:=⟨rfl⟩
instance:ey 28 28:=⟨rfl⟩
instance:ey 43 43:=⟨rfl⟩
instance:ey 48 48:=⟨rfl⟩
instance:ey 64 64:=⟨rfl⟩
instance:ey 65 65:=⟨rfl⟩
instance SP {a b:Int}{n m:Nat}[h:ey a n][h':ey b m]:ey (min a b) (min n m):=⟨by rw[h.eq,h'.eq];omega⟩
instance (priority:=900) lecZ {a:Nat} : eS 0 a:=⟨Nat.zero_le _⟩
theorem LK (s:List UInt8)(lo hi:Nat):(⟨s.toArray⟩:ByteArray).extract lo hi=⟨((s.take hi).drop lo).toArray⟩:=by
 apply ByteArray.ext;rw[ByteArray.data_extract];simp[List.extract_eq_take_drop,List.drop_take]
section
variable {P:Program}{l lc:Cx}{bs:List Item}{fs:List (World→Prop)}{x y:Operand}{p:Option Addr}{n c k:Nat}{t ty e:TypeId}{z:Value}{sz dy:Nat}{ol oh om:Option Operand}{lo hi mx:Nat}{s:List UInt8}
instance Pc [Ev lc x (str s)][hl:Cp lc ol 0 lo][hh:Cp lc oh s.length hi][dN P t .string][h1:eS hi s.length][h2:eS lo hi]:dO P (.slice t x ol oh none) ty lc bs fs (str ((s.take hi).drop lo)):=⟨fun ρ w hf _=>by
 have eX:ρ x=str s:=hf.ev;have hb:(Instr.sliceBounds false s.length s.length (ol.map ρ) (oh.map ρ) none).run P w=.ok (lo,hi,s.length) w:=by
  rcases hh.eq with ⟨rfl,rfl⟩ | ⟨o2,LH,rfl,h'⟩
  rcases hl.eq with ⟨rfl,rfl⟩ | ⟨o3,AG,rfl,h''⟩
  simp[Instr.sliceBounds];have e3:=hf.ev (x:=o3) (v:=.int AG (lo:Int));simp[Instr.sliceBounds,e3,run_sliceBound h2.le];have e2:=hf.ev (x:=o2) (v:=.int LH (hi:Int));rcases hl.eq with ⟨rfl,rfl⟩ | ⟨o3,AG,rfl,h''⟩
  simp[Instr.sliceBounds,e2,run_sliceBound h1.le];have e3:=hf.ev (x:=o3) (v:=.int AG (lo:Int));simp[Instr.sliceBounds,Sem.run_bind,e2,e3,run_sliceBound h1.le,run_sliceBound h2.le]
 have hsz:(⟨s.toArray⟩:ByteArray).size=s.length:=rfl;simp[cu,execOp,eX,Instr.sliceAt,Instr.slice,Sem.run_bind,cp,hsz,hb,LK]⟩
instance (priority:=710) RG [Ev lc x (.slice p n c)][Cp lc oh n hi][Cp lc om c mx][dN P t (.slice e)][TI P e z sz dy][h1:eS mx c][h2:eS hi mx][h4:LF om oh] :
  dO P (.slice t x none oh om) ty lc bs fs (.slice p hi mx):=⟨fun ρ w h _=>by
 have:=Er (P:=P) (ρ:=ρ) (lc:=lc) (ol:=none) (oh:=oh) (om:=om) (lo:=0) (hi:=hi) (mx:=mx) (t:=t) (e:=e) (z:=z) (sz:=sz) (dy:=dy) (x:=x) (p:=p) (n:=n) (c:=c) (ty:=ty) h h1.le h2.le (Nat.zero_le _) h4.ok w;rw[this];have e1:(if mx=0 then p else p.map (·.add (0*sz)))=p:=by
  split;rfl;cases p <;> simp[Addr.add]
 rw[e1];simp⟩
end
theorem Wd.ij {w:World}{fs:List (World→Prop)}{x:Item}{Mr:Nat→Prop}[ox:cV x](h:x.holds w)(hM:∀ k,Mr k→k < w.heap.size∧¬x.aj k)(hf:∀ Φ∈fs,ag (fun k=>x.aj k∨Mr k) w Φ):Wd w x.aj w [x,ext Mr] fs:=by
 refine ⟨aJ.refl _ _,?_,?_,?_,?_,?_,?_⟩;intro it hi;rcases List.mem_cons.1 hi with rfl | hi
 exact h;obtain rfl:=List.mem_singleton.1 hi;trivial;intro it hi k hk;rcases List.mem_cons.1 hi with rfl | hi
 exact ox.lt w h k hk;obtain rfl:=List.mem_singleton.1 hi;exact (hM k hk).1;intro it hi ho k hk;rcases List.mem_cons.1 hi with rfl | hi
 exact .inl hk;obtain rfl:=List.mem_singleton.1 hi;cases ho;refine List.pairwise_cons.2 ⟨fun it hi k hk hk'=>?_,by simp⟩;obtain rfl:=List.mem_singleton.1 hi;exact (hM k hk').2 hk;intro Φ hΦ;refine (hf Φ hΦ).less fun k _ hk=>?_
 obtain ⟨it,hi,hk⟩:=hk;rcases List.mem_cons.1 hi with rfl | hi
 exact .inl hk;obtain rfl:=List.mem_singleton.1 hi;exact .inr hk;intro it hi;rcases List.mem_cons.1 hi with rfl | hi
 exact ox.loc;obtain rfl:=List.mem_singleton.1 hi;exact fun _ _ _ _=>trivial
theorem Wd.nR {w:World}{fs:List (World→Prop)}{x y:Item}{Mr:Nat→Prop}[ox:cV x][oy:cV y](h:(both x y).holds w)(hx:x.own=true)(hy:y.own=true)(hM:∀ k,Mr k→k < w.heap.size∧¬(both x y).aj k)(hf:∀ Φ∈fs,ag (fun k=>(both x y).aj k∨Mr k) w Φ):Wd w (both x y).aj w [x,y,ext Mr] fs:=(Wd.ij h hM hf).aP hx hy
def c_ (bs:List Item)(x:Item):Nat→Prop:=fun k=>dR bs k∧¬x.aj k
theorem St.dM {w0:World}{M0:Nat→Prop}{ds:List Deferred}{a:Act}{w:World}{l:List Value}{bs:List Item}{fs:List (World→Prop)}(S:St w0 M0 ds a w l bs fs)(x:Item):∀ k,c_ bs x k→k < w.heap.size∧¬x.aj k:=fun k h=>⟨a_ S k h.1,h.2⟩
theorem ag.split {bs:List Item}{w:World}{Φ:World→Prop}(x:Item)[hx:pJ bs x](h:ag (dR bs) w Φ):ag (fun k=>x.aj k∨c_ bs x k) w Φ:=h.less fun _ _ hk=>hk.elim (fun h=>⟨x,hx.mem,h⟩) (fun h=>h.1)
section
variable {P:Program}{r:Option Nat}{ops:Array Oper}{Q:Exit→Act→World→Prop}{w0:World}{M0:Nat→Prop}{ds:List Deferred}{a:Act}{w:World}{l:List Value}{bs bs':List Item}{fs:List (World→Prop)}
 {d:Option Nat} {ty:TypeId} {pos:String} {af:Array Edge} {rest:List Oper} {f:Nat} {x:Operand} {ys:List Operand} {args:List Value} {ts:Array TypeId}
theorem St.CS (S:St w0 M0 ds a w l bs fs):∀ (wP:List (World→Prop)),(∀ Φ∈wP,ag (dR bs) w Φ)→St w0 M0 ds a w l bs (wP++fs)
 | [],_=>S
 | Φ::wP,h=>(St.CS S wP (fun Ψ hΨ=>h Ψ (by simp[hΨ]))).add (h Φ (by simp))
theorem kD {l':Value→List Value}(it:Item)[aF P f][fP ⟨[],l⟩ x ys f args][hp:∀ v,cZ l d v (l' v)](S:St w0 M0 ds a w l bs fs){R:Value→World→Prop}(hc:aT P f args w it.aj R)(ho:it.own=true)
  (K:∀ v a w',R v w'→(∀ (y:Item) (wP:List (World→Prop)) {Pd:List (World→Prop)} {bs':List Item} [As wP fs Pd] [dD bs it y bs'] [cV y],y.holds w'→(∀ k,y.aj k→it.aj k∨w.heap.size≤k)→(∀ Φ∈wP,ag (fun k=>y.aj k∨c_ bs it k) w' Φ)→St w0 M0 ds a w' (l' v) bs' Pd)→WL P r ops Q rest a w') :
  WL P r ops Q (⟨d,.call { callee:=.value x,args:=ys.toArray,argTypes:=ts },ty,pos,af,none⟩::rest) a w:=by
 have hap:=S.wd.apart;refine cM it S hc ho fun v a w' hR hS=>K v a w' hR fun y wP Pd bs' Pe hr oy hy hf Au=>?_
 rw[←Pe.eq];refine (hS y hy hf).CS wP fun Φ hΦ=>(Au Φ hΦ).less fun k _ hk=>?_
 obtain ⟨pre,post,rfl,rfl⟩:=hr.ex;obtain ⟨z,hz,hk⟩:=hk;have hp:=List.pairwise_append.1 hap;rcases List.mem_append.1 hz with hz | hz
 exact .inr ⟨⟨z,by simp[hz],hk⟩,hp.2.2 z hz it (by simp) k hk⟩;rcases List.mem_cons.1 hz with rfl | hz
 exact .inl hk;exact .inr ⟨⟨z,by simp[hz],hk⟩,fun hx=>(List.pairwise_cons.1 hp.2.1).1 z hz k hx hk⟩
theorem St.iJ (S:St w0 M0 ds a w l bs fs)(b:Nat){t:TypeId}{cs:List Value}[_hb:e9 bs b t cs][hd:pH bs (Wk.box b t cs) bs']:St w0 M0 ds a w l bs' (az b t cs::fs):=by
 have S1:=S.perm _ hd.perm;have hap:=List.pairwise_cons.1 S1.wd.apart;have ju:az b t cs w:=S1.wd.held (Wk.box b t cs) (by simp);have S2:St w0 M0 ds a w l bs' fs:=⟨S1.slots,S1.defers,S1.wd.sub (.cons _ (.refl _)) (.refl _)⟩;exact S2.add (az.aO ju fun ⟨it,hi,hk⟩=>hap.1 it hi b rfl hk)
end
instance X1 {kZ:Bool} : nq undef kZ [false]:=⟨by simp[undef]⟩
theorem gU {P:Program}{r:Option Nat}{ops:Array Oper}{Q:Exit→Act→World→Prop}{w0:World}{M0:Nat→Prop}{ds:List Deferred}{a:Act}{w:World}{l l':List Value}{bs:List Item}{fs:List (World→Prop)}{d:Option Nat}{op:Op}{ty:TypeId}{pos:String}{af:Array Edge}{rest:List Oper}{j g:Nat}{kZ:Bool}
  (S:St w0 M0 ds a w l bs fs) [hp:cZ l d undef l'] [hg:nr ops j g] [hn:pF l g undef] (h:∀ a,St w0 M0 ds a w l' bs fs→WL P r ops Q rest a w):WL P r ops Q (⟨d,op,ty,pos,af,some (j,kZ)⟩::rest) a w:=
 ko (fun ht=>by
  have:=(e_ (ops:=ops) (d:=d) (op:=op) (ty:=ty) (pos:=pos) (af:=af) (kZ:=kZ) S hg.eq).1 ht;simp at this) fun _=>h _ S.put
section
variable {P:Program}{l:Cx}{bs:List Item}{fs:List (World→Prop)}{x y:Operand}{k:Nat}{kk:IntKind}{m:Int}{t ty:TypeId}{s:List UInt8}
instance Pf [Ev l x (str s)][Ev l y (.int kk m)][dN P t .string][hm:ey m k][hk:cx k s.length]:dO P (.index t x y) ty l bs fs (.int .u8 ((aq s k).toNat:Int)):=⟨fun ρ w h _=>by
 have h2:=hm.eq;subst h2;have hlt:=hk.lt;have hsz:k < (⟨s.toArray⟩:ByteArray).size:=hlt;have hb:(⟨s.toArray⟩:ByteArray)[k]? = some (aq s k):=by
  rw[getElem?_pos (⟨s.toArray⟩:ByteArray) k hsz];have:(⟨s.toArray⟩:ByteArray)[k]=s[k]:=rfl;rw[this];have:=bu hlt;rw[List.getElem?_eq_getElem hlt]at this;exact this
 simp[cu,execOp,h.ev (x:=x) (v:=str s),h.ev (x:=y) (v:=.int kk (k:Int)),Instr.index,asIntOf,Sem.run_bind,cp,hb]⟩
end
def lZ {α:Type}(q:α→Bool):List α→Int→Int
 | [],_=>-1
 | x::xs,i=>if q x then i else lZ q xs (i+1)
theorem nS {α:Type}(q:α→Bool):∀ (xs:List α) (i:Int),0≤i→(decide (0≤lZ q xs i)=xs.any q)
 | [],i,h=>by simp[lZ]
 | x::xs,i,h=>by
  rw[lZ,List.any_cons];cases hq:q x with
  | true=>simp[h]
  | false=>simpa using nS q xs (i+1) (by omega)
theorem uL {α:Type}[cX α](xs:List α)(m:Nat):aa (xs.take m)=(aa xs).take (m*cX.sz α):=(lU xs m).symm
theorem av.take {α:Type}[dW α]{p:Option Addr}{xs:List α}{w:World}(m:Nat)(h:av p xs w):av p (xs.take m) w:=by
 refine ⟨⟨fun hp=>by rw[uL,h.1.1 hp];simp,fun ad hp j u hj=>h.1.2 ad hp j u ?_⟩,fun x hx=>h.2 x (List.mem_of_mem_take hx)⟩;rw[uL,List.getElem?_take]at hj;split at hj;exact hj;cases hj
def cA {α:Type}[dW α](L:List α):World→Prop:=fun w=>∀ x∈L,dW.ny w x
theorem cA.get {α:Type}[dW α]{M:Nat→Prop}{w:World}{L:List α}(h:ag M w (cA L)){x:α}(hx:x∈L):ag M w (NS x):=fun w' hw=>h w' hw x hx
theorem cA.snoc {α:Type}[dW α]{M:Nat→Prop}{w:World}{L:List α}{r:α}(h:ag M w (cA L))(hr:ag M w (NS r)):ag M w (cA (L++[r])):=fun w' hw x hx=>by
 rcases List.mem_append.1 hx with hx | hx
 exact h w' hw x hx;rw[List.mem_singleton.1 hx];exact hr w' hw
theorem gJ {α:Type}[dW α]{M:Nat→Prop}{w:World}{e:TypeId}{p:Option Addr}{n c sz:Nat}{xs:List α}(h:w.ownsRow 0 e sz (.slice p n c) n (aa xs))(hk:ag M w (cA xs))(hM:∀ ad,p=some ad→¬M ad.block):ag M w (av p xs):=FQ h (fun _ hx=>cA.get hk hx) hM
end Go.Wk
namespace Go.Proofs.YtdakncgafdnjfaaGreat
open Go.Proofs.Tryz
open Go Go.Wk
set_option synthInstance.maxSize 100000
set_option synthInstance.maxHeartbeats 400000
set_option maxRecDepth 100000
theorem bI (k:Nat)(v:Int):(be k v).length=k:=by simp[be]
theorem yN (W k:Nat)(v:Int)(h:k < W):(be W v).take (k+1)=(be W v).take k++[Wk.u8 (v.fdiv (2 ^ (8*(W - 1 - k))))]:=by
 rw[List.take_add_one]
 congr 1
 simp[be,h]
theorem LL (p:Option Addr)(n c:Nat)(b:List UInt8)(v:Int)(w0:World)(hn:b.length=n)(hb:n≤1073741824)(hv:0≤v)(Hl:v≤4294967295)(hs:Fx w0 (iE p (aa b))) :
  aT prog 196 [.slice p n c,.int .u32 v,.int .i64 4] w0 (fun _=>False) fun r w'=>∃ g,r=.slice (some ⟨g,0,none⟩) (n+4) (n+4)∧w0.heap.size≤g∧w'.ownsRow 0 5 1 (.slice (some ⟨g,0,none⟩) (n+4) (n+4)) (n+4) (aa (b++be 4 v)):=by
 have RA:eu b n:=⟨hn⟩;refine E1 func196 rfl ntmps196 (Wd.begin (fs:=[iE p (aa b)]) (by simpa using hs)) ?_;intro a S;refine gM ?_;intro a S;rw[w6 ((n:Int)+4)]at S;refine NO (n+4) S (by omega) (by omega) (by omega) (by simp only[maxLen];omega) ?_;intro g a w S;refine J7 ?_;intro a S;refine scp S (by omega) ?_;intro a w S;rw[nO]at S;refine mJ ?_;intro a S;rw[show aa b++List.replicate 4 (Value.int .u8 0)=aa (b++((be 4 v).take 0++List.replicate (4 - 0) 0)) from by rw[aC];rfl]at S;refine fD S (fun(k:Nat) uu=>[(8,uu 8),(9,.int .i64 (k:Nat)),(0,uu 19),(0,uu 20),(0,uu 21),(0,uu 22),(0,uu 23),(0,uu 24),(0,uu 25),(0,uu 26),(0,uu 27),(0,uu 28),(0,uu 29),(0,uu 30),(0,uu 31),(0,uu 32),(0,uu 33),(0,uu 34),(0,uu 35),(0,uu 36)]) (fun(k:Nat)=>[Wk.row 5 1 (some ⟨g,0,none⟩) (n+4) (n+4) (aa (b++((be 4 v).take k++List.replicate (4 - k) 0)))]) (fun(k:Nat)=>[]) (fun(k:Nat)=>k≤4) (fun(k:Nat)=>4 - k) (0) ?_ S.uu ?_ ?_;exact Nat.zero_le _
 first | exact S | exact S.sub _ _
 clear S;rintro k uu a w hk S;refine J6 ?_;intro a S;refine kC S (fun h4=>?_) (fun h4=>?_);refine tI ?_;intro a S;have hk2:k < 4:=by simp at h4;omega
 refine J1 ?_;intro a S;rw[w6 ((n:Int)+(k:Int)),show (n:Int)+(k:Int)=((n+k:Nat):Int) from by omega]at S;refine J2 ?_;intro a S;rw[jV v (by omega) (by omega)]at S;refine J2 ?_;intro a S;rw[show IntKind.i64.wrap (4 - 1)=(4 - 1:Int) from rfl]at S;refine J2 ?_;intro a S;rw[w6 ((4 - 1:Int) - (k:Int))]at S;refine J1 ?_;intro a S;rw[Ar (8*((4 - 1:Int) - (k:Int))) (by omega) (by omega),show 8*((4 - 1:Int) - (k:Int))=((8*(4 - 1 - k):Nat):Int) from by omega]at S;refine J1 ?_;intro a S;rw[show min (8*(4 - 1 - k)) IntKind.u64.bits=8*(4 - 1 - k) from Nat.min_eq_left (by simp only[IntKind.bits];omega)]at S;refine J1 ?_;intro a S;rw[cF]at S;have hK:cx (n+k) (n+4):=⟨by omega⟩;refine J1 ?_;intro a S;rw[show (⟨g,n+k,none⟩:Addr)=dx (some ⟨g,0,none⟩) (n+k) from by rw[dx,Option.getD_some,add_lit]]at S;refine CJ S (n+4) (by omega) (by omega) ?_;intro a w S;refine J8 ?_;intro a S;rw[w6 ((k:Int)+1)]at S;have e:aa (b++((be 4 v).take (k+1)++List.replicate (4 - (k+1)) 0))=(aa (b++((be 4 v).take k++List.replicate (4 - k) 0))).take (n+k)++[.int .u8 ((Wk.u8 (v.fdiv (2 ^ (8*(4 - 1 - k))))).toNat:Int)]++(aa (b++((be 4 v).take k++List.replicate (4 - k) 0))).drop (n+k+1):=by
  have h1:=lW (b++(be 4 v).take k) (List.replicate (4 - (k+1)) 0) 0 (Wk.u8 (v.fdiv (2 ^ (8*(4 - 1 - k)))));have h2:(b++(be 4 v).take k).length=n+k:=by rw[List.length_append,List.length_take,bI,hn];omega
  have h3:List.replicate (4 - k) (0:UInt8)=0::List.replicate (4 - (k+1)) 0:=by rw[show 4 - k=(4 - (k+1))+1 from by omega,rQ]
  rw[h2]at h1;rw[h3,yN 4 k v hk2];simp only[List.append_assoc,Cl,j6]at h1⊢;exact h1.symm
 rw[List.length_singleton,←e]at S;exact ⟨k+1,S.uu,by omega,S.sub _ _,by omega⟩;refine jq ?_;intro a S;have hk2:k=4:=by simp at h4;omega
 subst hk2;have hrow:=S.row (some ⟨g,0,none⟩) (n+4);have hnew:=S.cQ (some ⟨g,0,none⟩) (n+4);refine aD S (fun _=>⟨g,rfl,?_,?_⟩);exact (hnew _ rfl).elim (fun h=>h.elim) id;rw[List.take_of_length_le (by rw[bI];exact Nat.le_refl _),show List.replicate (4 - 4) (0:UInt8)=[] from rfl,List.append_nil]at hrow;exact hrow
theorem oH (p:Option Addr)(n c:Nat)(b:List UInt8)(v:Int)(w0:World)(hn:b.length=n)(hb:n≤1073741824)(hv:0≤v)(Hl:v≤4294967295)(hs:Fx w0 (iE p (aa b))) :
  aT prog 112 [.slice p n c,.int .u32 v] w0 (fun _=>False) fun r w'=>∃ g,r=.slice (some ⟨g,0,none⟩) (n+4) (n+4)∧w0.heap.size≤g∧w'.ownsRow 0 5 1 (.slice (some ⟨g,0,none⟩) (n+4) (n+4)) (n+4) (aa (b++be 4 v)):=by
 refine E1 func112 rfl ntmps112 (Wd.begin (fs:=[iE p (aa b)]) (by simpa using hs)) ?_;intro a S;refine J9 ?_;intro a S;refine jU S (LL p n c b v _ hn hb hv Hl ((S.fact (Φ:=iE p (aa b)) (by simp)).less fun _ _ h=>h.elim)) ?_;rintro _ a w1 ⟨g,rfl,hg,hown⟩ - S;refine J4 ?_;intro a S;exact aD S (fun _=>⟨g,rfl,hg,hown⟩)
theorem LM (p:Option Addr)(n c:Nat)(b:List UInt8)(v:Int)(w0:World)(hn:b.length=n)(hb:n≤1073741824)(_hv:0≤v)(_hv':v≤18446744073709551615)(hs:Fx w0 (iE p (aa b))) :
  aT prog 281 [.slice p n c,.int .u64 v,.int .i64 8] w0 (fun _=>False) fun r w'=>∃ g,r=.slice (some ⟨g,0,none⟩) (n+8) (n+8)∧w0.heap.size≤g∧w'.ownsRow 0 5 1 (.slice (some ⟨g,0,none⟩) (n+8) (n+8)) (n+8) (aa (b++be 8 v)):=by
 have RA:eu b n:=⟨hn⟩;refine E1 func281 rfl ntmps281 (Wd.begin (fs:=[iE p (aa b)]) (by simpa using hs)) ?_;intro a S;refine gM ?_;intro a S;rw[w6 ((n:Int)+8)]at S;refine NO (n+8) S (by omega) (by omega) (by omega) (by simp only[maxLen];omega) ?_;intro g a w S;refine J7 ?_;intro a S;refine scp S (by omega) ?_;intro a w S;rw[nO]at S;refine mJ ?_;intro a S;rw[show aa b++List.replicate 8 (Value.int .u8 0)=aa (b++((be 8 v).take 0++List.replicate (8 - 0) 0)) from by rw[aC];rfl]at S;refine fD S (fun(k:Nat) uu=>[(8,uu 8),(9,.int .i64 (k:Nat)),(0,uu 19),(0,uu 20),(0,uu 21),(0,uu 22),(0,uu 23),(0,uu 24),(0,uu 25),(0,uu 26),(0,uu 27),(0,uu 28),(0,uu 29),(0,uu 30),(0,uu 31),(0,uu 32),(0,uu 33),(0,uu 34),(0,uu 35)]) (fun(k:Nat)=>[Wk.row 5 1 (some ⟨g,0,none⟩) (n+8) (n+8) (aa (b++((be 8 v).take k++List.replicate (8 - k) 0)))]) (fun(k:Nat)=>[]) (fun(k:Nat)=>k≤8) (fun(k:Nat)=>8 - k) (0) ?_ S.uu ?_ ?_;exact Nat.zero_le _
 first | exact S | exact S.sub _ _
 clear S;rintro k uu a w hk S;refine J6 ?_;intro a S;refine kC S (fun h4=>?_) (fun h4=>?_);refine tI ?_;intro a S;have hk2:k < 8:=by simp at h4;omega
 refine J1 ?_;intro a S;rw[w6 ((n:Int)+(k:Int)),show (n:Int)+(k:Int)=((n+k:Nat):Int) from by omega]at S;refine J3 ?_;intro a S;rw[show IntKind.i64.wrap (8 - 1)=(8 - 1:Int) from rfl]at S;refine J2 ?_;intro a S;rw[w6 ((8 - 1:Int) - (k:Int))]at S;refine J1 ?_;intro a S;rw[Ar (8*((8 - 1:Int) - (k:Int))) (by omega) (by omega),show 8*((8 - 1:Int) - (k:Int))=((8*(8 - 1 - k):Nat):Int) from by omega]at S;refine J1 ?_;intro a S;rw[show min (8*(8 - 1 - k)) IntKind.u64.bits=8*(8 - 1 - k) from Nat.min_eq_left (by simp only[IntKind.bits];omega)]at S;refine J1 ?_;intro a S;rw[cF]at S;have hK:cx (n+k) (n+8):=⟨by omega⟩;refine J1 ?_;intro a S;rw[show (⟨g,n+k,none⟩:Addr)=dx (some ⟨g,0,none⟩) (n+k) from by rw[dx,Option.getD_some,add_lit]]at S;refine CJ S (n+8) (by omega) (by omega) ?_;intro a w S;refine J8 ?_;intro a S;rw[w6 ((k:Int)+1)]at S;have e:aa (b++((be 8 v).take (k+1)++List.replicate (8 - (k+1)) 0))=(aa (b++((be 8 v).take k++List.replicate (8 - k) 0))).take (n+k)++[.int .u8 ((Wk.u8 (v.fdiv (2 ^ (8*(8 - 1 - k))))).toNat:Int)]++(aa (b++((be 8 v).take k++List.replicate (8 - k) 0))).drop (n+k+1):=by
  have h1:=lW (b++(be 8 v).take k) (List.replicate (8 - (k+1)) 0) 0 (Wk.u8 (v.fdiv (2 ^ (8*(8 - 1 - k)))));have h2:(b++(be 8 v).take k).length=n+k:=by rw[List.length_append,List.length_take,bI,hn];omega
  have h3:List.replicate (8 - k) (0:UInt8)=0::List.replicate (8 - (k+1)) 0:=by rw[show 8 - k=(8 - (k+1))+1 from by omega,rQ]
  rw[h2]at h1;rw[h3,yN 8 k v hk2];simp only[List.append_assoc,Cl,j6]at h1⊢;exact h1.symm
 rw[List.length_singleton,←e]at S;exact ⟨k+1,S.uu,by omega,S.sub _ _,by omega⟩;refine jq ?_;intro a S;have hk2:k=8:=by simp at h4;omega
 subst hk2;have hrow:=S.row (some ⟨g,0,none⟩) (n+8);have hnew:=S.cQ (some ⟨g,0,none⟩) (n+8);refine aD S (fun _=>⟨g,rfl,?_,?_⟩);exact (hnew _ rfl).elim (fun h=>h.elim) id;rw[List.take_of_length_le (by rw[bI];exact Nat.le_refl _),show List.replicate (8 - 8) (0:UInt8)=[] from rfl,List.append_nil]at hrow;exact hrow
theorem LN (p:Option Addr)(n c:Nat)(b:List UInt8)(v:Int)(w0:World)(hn:b.length=n)(hb:n≤1073741824)(hv:0≤v)(Hl:v≤18446744073709551615)(hs:Fx w0 (iE p (aa b))) :
  aT prog 272 [.slice p n c,.int .u64 v] w0 (fun _=>False) fun r w'=>∃ g,r=.slice (some ⟨g,0,none⟩) (n+8) (n+8)∧w0.heap.size≤g∧w'.ownsRow 0 5 1 (.slice (some ⟨g,0,none⟩) (n+8) (n+8)) (n+8) (aa (b++be 8 v)):=by
 refine E1 func272 rfl ntmps272 (Wd.begin (fs:=[iE p (aa b)]) (by simpa using hs)) ?_;intro a S;refine J9 ?_;intro a S;refine jU S (LM p n c b v _ hn hb hv Hl ((S.fact (Φ:=iE p (aa b)) (by simp)).less fun _ _ h=>h.elim)) ?_;rintro _ a w1 ⟨g,rfl,hg,hown⟩ - S;refine J4 ?_;intro a S;exact aD S (fun _=>⟨g,rfl,hg,hown⟩)
theorem HR (p:Option Addr)(n c:Nat)(b:List UInt8)(v:Int)(w0:World)(hn:b.length=n)(hb:n≤1073741824)(hv:0≤v)(Hl:v≤65535)(hs:Fx w0 (iE p (aa b))) :
  aT prog 164 [.slice p n c,.int .u16 v,.int .i64 2] w0 (fun _=>False) fun r w'=>∃ g,r=.slice (some ⟨g,0,none⟩) (n+2) (n+2)∧w0.heap.size≤g∧w'.ownsRow 0 5 1 (.slice (some ⟨g,0,none⟩) (n+2) (n+2)) (n+2) (aa (b++be 2 v)):=by
 have RA:eu b n:=⟨hn⟩;refine E1 func164 rfl ntmps164 (Wd.begin (fs:=[iE p (aa b)]) (by simpa using hs)) ?_;intro a S;refine gM ?_;intro a S;rw[w6 ((n:Int)+2)]at S;refine NO (n+2) S (by omega) (by omega) (by omega) (by simp only[maxLen];omega) ?_;intro g a w S;refine J7 ?_;intro a S;refine scp S (by omega) ?_;intro a w S;rw[nO]at S;refine mJ ?_;intro a S;rw[show aa b++List.replicate 2 (Value.int .u8 0)=aa (b++((be 2 v).take 0++List.replicate (2 - 0) 0)) from by rw[aC];rfl]at S;refine fD S (fun(k:Nat) uu=>[(8,uu 8),(9,.int .i64 (k:Nat)),(0,uu 19),(0,uu 20),(0,uu 21),(0,uu 22),(0,uu 23),(0,uu 24),(0,uu 25),(0,uu 26),(0,uu 27),(0,uu 28),(0,uu 29),(0,uu 30),(0,uu 31),(0,uu 32),(0,uu 33),(0,uu 34),(0,uu 35),(0,uu 36)]) (fun(k:Nat)=>[Wk.row 5 1 (some ⟨g,0,none⟩) (n+2) (n+2) (aa (b++((be 2 v).take k++List.replicate (2 - k) 0)))]) (fun(k:Nat)=>[]) (fun(k:Nat)=>k≤2) (fun(k:Nat)=>2 - k) (0) ?_ S.uu ?_ ?_;exact Nat.zero_le _
 first | exact S | exact S.sub _ _
 clear S;rintro k uu a w hk S;refine J6 ?_;intro a S;refine kC S (fun h4=>?_) (fun h4=>?_);refine tI ?_;intro a S;have hk2:k < 2:=by simp at h4;omega
 refine J1 ?_;intro a S;rw[w6 ((n:Int)+(k:Int)),show (n:Int)+(k:Int)=((n+k:Nat):Int) from by omega]at S;refine J2 ?_;intro a S;rw[jV v (by omega) (by omega)]at S;refine J2 ?_;intro a S;rw[show IntKind.i64.wrap (2 - 1)=(2 - 1:Int) from rfl]at S;refine J2 ?_;intro a S;rw[w6 ((2 - 1:Int) - (k:Int))]at S;refine J1 ?_;intro a S;rw[Ar (8*((2 - 1:Int) - (k:Int))) (by omega) (by omega),show 8*((2 - 1:Int) - (k:Int))=((8*(2 - 1 - k):Nat):Int) from by omega]at S;refine J1 ?_;intro a S;rw[show min (8*(2 - 1 - k)) IntKind.u64.bits=8*(2 - 1 - k) from Nat.min_eq_left (by simp only[IntKind.bits];omega)]at S;refine J1 ?_;intro a S;rw[cF]at S;have hK:cx (n+k) (n+2):=⟨by omega⟩;refine J1 ?_;intro a S;rw[show (⟨g,n+k,none⟩:Addr)=dx (some ⟨g,0,none⟩) (n+k) from by rw[dx,Option.getD_some,add_lit]]at S;refine CJ S (n+2) (by omega) (by omega) ?_;intro a w S;refine J8 ?_;intro a S;rw[w6 ((k:Int)+1)]at S;have e:aa (b++((be 2 v).take (k+1)++List.replicate (2 - (k+1)) 0))=(aa (b++((be 2 v).take k++List.replicate (2 - k) 0))).take (n+k)++[.int .u8 ((Wk.u8 (v.fdiv (2 ^ (8*(2 - 1 - k))))).toNat:Int)]++(aa (b++((be 2 v).take k++List.replicate (2 - k) 0))).drop (n+k+1):=by
  have h1:=lW (b++(be 2 v).take k) (List.replicate (2 - (k+1)) 0) 0 (Wk.u8 (v.fdiv (2 ^ (8*(2 - 1 - k)))));have h2:(b++(be 2 v).take k).length=n+k:=by rw[List.length_append,List.length_take,bI,hn];omega
  have h3:List.replicate (2 - k) (0:UInt8)=0::List.replicate (2 - (k+1)) 0:=by rw[show 2 - k=(2 - (k+1))+1 from by omega,rQ]
  rw[h2]at h1;rw[h3,yN 2 k v hk2];simp only[List.append_assoc,Cl,j6]at h1⊢;exact h1.symm
 rw[List.length_singleton,←e]at S;exact ⟨k+1,S.uu,by omega,S.sub _ _,by omega⟩;refine jq ?_;intro a S;have hk2:k=2:=by simp at h4;omega
 subst hk2;have hrow:=S.row (some ⟨g,0,none⟩) (n+2);have hnew:=S.cQ (some ⟨g,0,none⟩) (n+2);refine aD S (fun _=>⟨g,rfl,?_,?_⟩);exact (hnew _ rfl).elim (fun h=>h.elim) id;rw[List.take_of_length_le (by rw[bI];exact Nat.le_refl _),show List.replicate (2 - 2) (0:UInt8)=[] from rfl,List.append_nil]at hrow;exact hrow
theorem AI (p:Option Addr)(n c:Nat)(b:List UInt8)(v:Int)(w0:World)(hn:b.length=n)(hb:n≤1073741824)(hv:0≤v)(Hl:v≤65535)(hs:Fx w0 (iE p (aa b))) :
  aT prog 65 [.slice p n c,.int .u16 v] w0 (fun _=>False) fun r w'=>∃ g,r=.slice (some ⟨g,0,none⟩) (n+2) (n+2)∧w0.heap.size≤g∧w'.ownsRow 0 5 1 (.slice (some ⟨g,0,none⟩) (n+2) (n+2)) (n+2) (aa (b++be 2 v)):=by
 refine E1 func65 rfl ntmps65 (Wd.begin (fs:=[iE p (aa b)]) (by simpa using hs)) ?_;intro a S;refine J9 ?_;intro a S;refine jU S (HR p n c b v _ hn hb hv Hl ((S.fact (Φ:=iE p (aa b)) (by simp)).less fun _ _ h=>h.elim)) ?_;rintro _ a w1 ⟨g,rfl,hg,hown⟩ - S;refine J4 ?_;intro a S;exact aD S (fun _=>⟨g,rfl,hg,hown⟩)
theorem HS (x y:ak):gw x.t y.t=(decide (x.kind=y.kind)&&decide (x.user=y.user)&&decide (x.num=y.num)&&decide (x.text=y.text)&&fc (x.kids.map ak.t) (y.kids.map ak.t)):=by
 rw[x.mN,y.mN,gw]
theorem FR (N:Nat):∀ (x y:ak) (w0:World),SizeOf.sizeOf x≤N→Fx w0 (dc x)→Fx w0 (dc y)→
  aT prog 85 [vL x,vL y] w0 (fun _=>False) fun v _=>v=.bool (gw x.t y.t):=by
 induction N with
 | zero=>intro x _ _ h;cases x;simp at h
 | succ N ih=>
 intro x y w0 hN hx hy;have e0:=HS x y;have hlen:=ak.pR hx;refine E1 func85 rfl ntmps85 (Wd.begin (fs:=[dc x,dc y]) (by simp;exact ⟨hx,hy⟩)) ?_;intro a S;refine kS (kR ?_);refine sa S ?_;intro b2 a w S;refine sa S ?_;intro b3 a w S;refine mK ?_;intro a S;refine mK ?_;intro a S;refine J3 ?_;intro a S;refine kC S (fun h1=>?_) (fun h1=>?_)
 ·refine J7 ?_;intro a S
  refine aD S (fun _=>?_);have h3:¬(x.kind=y.kind∧x.user=y.user∧x.num=y.num∧x.text=y.text∧x.kids.length=y.kids.length):=by
   rintro ⟨q1,q2,q3,q4,q5⟩;simp[q1,q2,q3,q4,q5]at h1
  rw[e0]
  congr 1
  cases hs:(decide (x.kind=y.kind)&&decide (x.user=y.user)&&decide (x.num=y.num)&&decide (x.text=y.text)&&fc (x.kids.map ak.t) (y.kids.map ak.t)) with
  | false=>rfl
  | true=>
   simp at hs;obtain ⟨⟨⟨⟨q1,q2⟩,q3⟩,q4⟩,q5⟩:=hs;have:=congrArg List.length ((mR _ _).1 q5);exact absurd ⟨q1,q2,q3,q4,by simpa using this⟩ h3
 ·refine J9 ?_;intro a S
  have h3:(x.kind=y.kind∧x.user=y.user∧x.num=y.num∧x.text=y.text)∧x.kids.length=y.kids.length:=by simp[and_assoc]at h1;simpa [and_assoc,Int.ofNat_inj] using h1
  obtain ⟨⟨q1,q2,q3,q4⟩,q5⟩:=h3;have e1:gw x.t y.t=fc (x.kids.map ak.t) (y.kids.map ak.t):=by rw[e0];simp[q1,q2,q3,q4]
  refine eR (ι:=Nat) (fun k a w=>k≤x.kids.length∧fc ((x.kids.drop k).map ak.t) ((y.kids.drop k).map ak.t)=gw x.t y.t∧∃ uu:Nat→Value,St w0 (fun _=>False) [] a w ((vL x)::(vL y)::(.pointer (some ⟨b2,0,none⟩))::(.pointer (some ⟨b3,0,none⟩))::(.bool false)::(.int .i64 (k:Nat))::uu 6::uu 7::uu 8::uu 9::uu 10::uu 11::uu 12::uu 13::uu 14::uu 15::uu 16::uu 17::uu 18::uu 19::uu 20::uu 21::uu 22::uu 23::uu 24::uu 25::uu 26::uu 27::uu 28::uu 29::uu 30::uu 31::uu 32::uu 33::uu 34::uu 35::uu 36::uu 37::uu 38::uu 39::uu 40::uu 41::uu 42::uu 43::uu 44::uu 45::uu 46::uu 47::uu 48::uu 49::uu 50::uu 51::uu 52::uu 53::uu 54::uu 55::uu 56::uu 57::uu 58::uu 59::[]) [box b3 43 y.cells,box b2 43 x.cells] [dc x,dc y]) (fun k=>x.kids.length - k) 0 ?_ ?_
  ·exact ⟨Nat.zero_le _,e1.symm,S.uu,S⟩
  ·clear S
   rintro k a w ⟨hk,aI,uu,S⟩;have hK:k < x.kids.length→cx k x.kids.length∧cx k y.kids.length:=fun h=>⟨⟨h⟩,⟨by omega⟩⟩
   refine mJ ?_;intro a S;refine kC S (fun h4=>?_) (fun h4=>?_)
   ·refine kK (aQ (kS (kB ?_)))
    have bn:k < x.kids.length:=by simpa using h4
    obtain ⟨SQ,Cq⟩:=hK bn;refine kS ?_;refine bM [T9 0,T9 1,T9 2,T9 3,T9 4,T9 5,T9 6,T9 7,T9 8,T9 9,F9 10,T9 11] [] S ?_;intro w S;(iterate 10 (refine dq S ?_;intro a S));refine dl ?_;rw[js bn,js (show k < y.kids.length by omega),List.map_cons,List.map_cons,fc]at aI;refine sr S (ih (gP x.kids k) (gP y.kids k) w (by have:=ak.lH (fC bn);omega) (S.t0 _) (S.t0 _)) ?_;rintro _ a w rfl S;refine de S ?_;refine dq S ?_;intro a S;refine dn (aQ ?_);refine kC S (fun h6=>?_) (fun h6=>?_)
    ·refine gM ?_;intro a S
     refine aD S (fun _=>?_);have h9:gw (gP x.kids k).t (gP y.kids k).t=false:=by simpa using h6
     simp[←aI,h9]
    ·refine J9 ?_;intro a S
     have h9:gw (gP x.kids k).t (gP y.kids k).t=true:=by simpa using h6
     rw[h9,Bool.true_and]at aI;rw[w6 ((k:Int)+1)]at S;exact ⟨k+1,⟨bn,aI,S.uu,S⟩,by omega⟩
   ·refine gM ?_;intro a S
    refine aD S (fun _=>?_);have h9:x.kids.length≤k:=by simpa using h4
    rw[List.drop_of_length_le h9,List.drop_of_length_le (by omega)]at aI;simp[←aI,fc]
theorem LO (x y:ak)(w:World)(hx:Fx w (dc x))(hy:Fx w (dc y)):aT prog 85 [vL x,vL y] w (fun _=>False) fun v _=>v=.bool (gw x.t y.t):=FR _ x y w (Nat.le_refl _) hx hy
instance {x y:ak}{bs fs}[qA fs x][qA fs y]:cB prog 85 [vL x,vL y] bs fs (.bool (gw x.t y.t)):=⟨fun w m=>LO x y w (m.t0 _) (m.t0 _)⟩
open Go.ChangeShapes Go.WideShapes Go.ChangeAt Go.RowKit
theorem own:ownKnob Tryz.prog.godebug=none:=by kernel_rfl
theorem laidOut:laidOutB prog=true:=by kernel_rfl
instance X2:CL prog 43:=⟨⟨_,3,9,41,rfl,rfl,rfl,rfl,rfl,by kernel_rfl,by kernel_rfl,by kernel_rfl,by kernel_rfl⟩⟩
instance X3:uJ prog 3 Int:=SM underlying3 (by kernel_rfl)
instance VO:uJ prog 43 ak:=XZ
end Go.Proofs.YtdakncgafdnjfaaGreat
namespace Go.Wk
open Go
theorem rW:∀ s:List UInt8,Op.bytesLess s s=false
 | []=>rfl
 | a::s=>by simp[Op.bytesLess,rW s]
theorem HT:∀ s u:List UInt8,Op.bytesLess s u=true∨s=u∨Op.bytesLess u s=true
 | [],[]=>.inr (.inl rfl)
 | [],_::_=>.inl rfl
 | _::_,[]=>.inr (.inr rfl)
 | a::s,b::u=>by
  simp only[Op.bytesLess,Bool.or_eq_true,Bool.and_eq_true,decide_eq_true_eq,beq_iff_eq,List.cons.injEq];rcases UInt8.lt_or_lt_of_ne (a:=a) (b:=b) |> fun h=>(Classical.em (a=b)).imp id h with rfl | h
  rcases HT s u with h | h | h
  exact .inl (.inr ⟨rfl,h⟩);exact .inr (.inl ⟨rfl,h⟩);exact .inr (.inr (.inr ⟨rfl,h⟩));rcases h with h | h
  exact .inl (.inl h);exact .inr (.inr (.inl h))
theorem uM:∀ s u:List UInt8,Op.bytesLess s u=true→Op.bytesLess u s=false
 | [],[],h=>by cases h
 | [],_::_,_=>rfl
 | _::_,[],h=>by simp[Op.bytesLess]at h
 | a::s,b::u,h=>by
  simp only[Op.bytesLess,Bool.or_eq_true,Bool.and_eq_true,decide_eq_true_eq,beq_iff_eq]at h;rcases h with h | ⟨rfl,h⟩
  have h1:¬b < a:=by intro h2;exact absurd (UInt8.lt_trans h h2) (UInt8.lt_irrefl _)
  have h2:b≠a:=by rintro rfl;exact absurd h (UInt8.lt_irrefl _)
  simp[Op.bytesLess,h1,h2];simp[Op.bytesLess,uM s u h]
theorem SR (s u:List UInt8):(!(Op.bytesLess s u||(s == u)))=Op.bytesLess u s:=by
 rcases HT s u with h | rfl | h
 rw[h,uM _ _ h];rfl;rw[rW];simp;rw[uM _ _ h,h];have:s≠u:=by rintro rfl;rw[rW]at h;cases h
 simp[this]
class Ascii (m:Int):Prop where
 lo:0≤m
 hi:m < 128
section
variable {P:Program}{l:Cx}{bs:List Item}{fs:List (World→Prop)}{x y:Operand}{t t' ty:TypeId}{s u:List UInt8}{m:Int}{k:IntKind}
instance X4 [Ev l x (str s)][Ev l y (str u)]:dO P (.binOp .gtr t x y t') ty l bs fs (.bool (Op.bytesLess u s)):=⟨fun ρ w h _=>by
 have:=SR s u;simp[cu,execOp,h.ev (x:=x) (v:=str s),h.ev (x:=y) (v:=str u),eqGuard,binOp,Op.stringOp];rw[←this];simp⟩
instance X5 [Ev l x (str s)][Ev l y (str u)]:dO P (.binOp .geq t x y t') ty l bs fs (.bool (!Op.bytesLess s u)):=⟨fun ρ w h _=>by
 simp[cu,execOp,h.ev (x:=x) (v:=str s),h.ev (x:=y) (v:=str u),eqGuard,binOp,Op.stringOp]⟩
end
open Go Go.Deep Go.ChangeShapes Go.WideShapes Go.ChangeAt Go.RowKit
section
variable {w0:World}{M0:Nat→Prop}{ds:List Deferred}{a:Act}{w:World}{l:List Value}{bs bs':List Item}{fs:List (World→Prop)}
theorem St.bA {α:Type}[dW α](S:St w0 M0 ds a w l bs fs)(p:Option Addr)(xs:List α){e:TypeId}{sz n c:Nat}[hd:pH bs (Wk.row e sz p n c (aa xs)) bs'](h:ag (dR bs) w (cA xs)):St w0 M0 ds a w l bs' (av p xs::fs):=by
 have S1:=S.perm _ hd.perm;have hap:=List.pairwise_cons.1 S1.wd.apart;have hr:(Wk.row e sz p n c (aa xs)).holds w:=S1.wd.held _ (by simp);have S2:St w0 M0 ds a w l bs' fs:=⟨S1.slots,S1.defers,S1.wd.sub (.cons _ (.refl _)) (.refl _)⟩;refine S2.add fun w' bP=>⟨iE.aO (jc hr) (fun ad hp ⟨it,hi,hk⟩=>hap.1 it hi ad.block ⟨ad,hp,rfl⟩ hk) w' bP,?_⟩
 exact (h.less fun k _ ⟨it,hi,hk⟩=>⟨it,(hd.perm.mem_iff).1 (List.mem_cons_of_mem _ hi),hk⟩) w' bP
end
section
variable {P:Program}{l:Cx}{bs:List Item}{fs:List (World→Prop)}{x y:Operand}{p:Option Addr}{n c k sz off:Nat}{kk:IntKind}{m:Int}{t ty e:TypeId}{z v:Value}{dy:Nat}
class K7 (cs:List Bool)(k n:Nat):Prop where lt:(∀ c∈cs,c=true)→k < n
instance (priority:=1100) cltD {cs:List Bool}{k n:Nat} : K7 (decide ((k:Int) < (n:Int))::cs) k n:=⟨fun h=>by have:=h (decide ((k:Int) < (n:Int))) (by simp);simp at this;omega⟩
section
variable {cs:List Bool}{ls:List Value}{α:Type}{i:dW α}{xs:List α}
instance (priority:=820) VP [Ev ⟨cs,ls⟩ x (.slice p n c)][Ev ⟨cs,ls⟩ y (.int kk m)][dN P t (.slice e)][TI P e z sz dy][hm:ey m k][hl:lI fs p α i xs][hs:Ai α sz][hk:K7 cs k n][hk':K7 cs k xs.length] :
  dO P (.indexAddr t x y) ty ⟨cs,ls⟩ bs fs (.pointer (some (eG p k sz 0))):=⟨fun ρ w h mm=>by
 have hlt:=hk.lt h.1;obtain ⟨ad,rfl⟩:=yJ (hl.of _ _ mm.facts).now (hk'.lt h.1) (by rw[hs.eq];exact hs.pos);have h2:=hm.eq;subst h2;simp[cu,execOp,h.ev (x:=x) (v:=.slice (some ad) n c),h.ev (x:=y) (v:=.int kk (k:Int))];simp[gD (P:=P) (t:=t) (e:=e) (z:=z) (sz:=sz) (dy:=dy) (Int.natCast_nonneg k) (Int.ofNat_lt.2 hlt),eG]⟩
instance (priority:=760) RH {ds:List Value}[Ev ⟨cs,ls⟩ x (.pointer (some (eG p k sz off)))][ha:eU P t false][hl:lI fs p α i xs][hs:Ai α sz][hk:K7 cs k xs.length][hc:gx (aq xs k) ds][hn:pF ds off v] :
  dO P (.load t x) ty ⟨cs,ls⟩ bs fs v:=⟨fun ρ w h mm=>by
 have h1:=qG (hl.of _ _ mm.facts).now (hk.lt h.1) hn.eq;simp[cu,execOp,Instr.loadAt,h.ev (x:=x) (v:=.pointer (some (eG p k sz off))),Instr.sureAddr,loadVar,Sem.run_bind,ha.run,load,Sem.run,h1]⟩
instance (priority:=760) RI {ds vs:List Value}[Ev ⟨cs,ls⟩ x (.pointer (some (eG p k sz off)))][ha:eU P t true][TI P t z n dy][hl:lI fs p α i xs][hs:Ai α sz][hk:K7 cs k xs.length][hc:gx (aq xs k) ds][hn:Lk ds off n vs] :
  dO P (.load t x) ty ⟨cs,ls⟩ bs fs (.agg ⟨vs⟩):=⟨fun ρ w h mm=>by
 have hlc:=run_loadCells_list (P:=P) w (eG p k sz off) vs (fun j v hj=>by
  have hjn:j < n:=by rw[←hn.eq.1];exact (List.getElem?_eq_some_iff.1 hj).1
  rw[lY];exact qG (hl.of _ _ mm.facts).now (hk.lt h.1) ((hn.eq.2 j hjn).trans hj))
 rw[hn.eq.1]at hlc;simp[cu,execOp,Instr.loadAt,h.ev (x:=x) (v:=.pointer (some (eG p k sz off))),Instr.sureAddr,loadVar,Sem.run_bind,ha.run,cv,hlc]⟩
end
end
section
variable {w0:World}{M0:Nat→Prop}{ds:List Deferred}{a:Act}{w:World}{l:List Value}{bs bs':List Item}{fs:List (World→Prop)}
end
theorem kF {α:Type}[cX α](xs:List α)(m:Nat):aa (xs.drop m)=(aa xs).drop (m*cX.sz α):=by
 induction m generalizing xs with
 | zero=>simp
 | succ m ih=>
  cases xs with
  | nil=>simp[aa]
  | cons x xs=>
   rw[List.drop_succ_cons,ih,bf,show (m+1)*cX.sz α=(cX.cells x).length+m*cX.sz α from by rw[cX.len,Nat.add_mul];omega,←List.drop_drop,List.drop_left]
theorem av.drop {α:Type}[dW α]{sz:Nat}[hs:Ai α sz]{p:Option Addr}{xs:List α}{w:World}{c:Nat}(m:Nat)(h:av p xs w)(hc:xs.length≤c):av (if c=m then p else p.map (·.add (m*sz))) (xs.drop m) w:=by
 split
 rename_i he
 rw[List.drop_of_length_le (by omega)];exact jd;refine ⟨⟨fun hp=>?_,fun ad hp j u hj=>?_⟩,fun x hx=>h.2 x (List.drop_subset _ _ hx)⟩;have:p=none:=by cases p with
  | none=>rfl
  | some a=>cases hp
 rw[kF,h.1.1 this,List.drop_nil];cases p with
 | none=>cases hp
 | some a=>
  obtain rfl:a.add (m*sz)=ad:=by simpa using hp
  rw[kF,List.getElem?_drop,hs.eq]at hj;rw[Go.Deep.add_add];exact h.1.2 a rfl _ _ hj
class PS (p:Option Addr):Prop where ex:∃ ad,p=some ad
theorem PS.of {w:World}{e:TypeId}{sz:Nat}{p:Option Addr}{n c:Nat}{xs:List Value}(h:w.ownsRow 0 e sz (.slice p n c) n xs)(hn:0 < n):PS p:=by
 obtain ⟨g,cur,rfl,_⟩:=eB h hn;exact ⟨_,rfl⟩
section
variable {P:Program}{lc:Cx}{bs:List Item}{fs:List (World→Prop)}{x y:Operand}{p:Option Addr}{n c k sz o:Nat}{kk:IntKind}{m:Int}{t ty e:TypeId}{z:Value}{dy:Nat}
instance (priority:=955) X6 [Ev lc x (.slice p n c)][Ev lc y (.int kk m)][dN P t (.slice e)][TI P e z sz dy][hm:ey m k][hp:PS p][hk:cx k n][hmul:uq k sz o] :
  dO P (.indexAddr t x y) ty lc bs fs (.pointer (some (dx p o))):=⟨fun ρ w h mm=>by
 have hlt:=hk.lt;obtain ⟨ad,rfl⟩:=hp.ex;have h2:=hm.eq;subst h2;have e3:=hmul.eq;simp[cu,execOp,h.ev (x:=x) (v:=.slice (some ad) n c),h.ev (x:=y) (v:=.int kk (k:Int))];simp[gD (P:=P) (t:=t) (e:=e) (z:=z) (sz:=sz) (dy:=dy) (Int.natCast_nonneg k) (Int.ofNat_lt.2 hlt),dx,e3]⟩
end
class X7 (P:Program)(t:TypeId):Prop where eq:P.underlying t=some (.interface (P.methodsAt t))
end Go.Wk
namespace Go.Proofs.YtdakncgafdnjfaaGreat
open Go.Proofs.Tryz
open Go Go.Wk
set_option synthInstance.maxSize 100000
set_option synthInstance.maxHeartbeats 400000
set_option maxRecDepth 100000
structure CT where
 name:List UInt8
 term:Term
def NT (r:CT):Bool:=gw r.term At
def Pg (s:List UInt8):Bool:=s.all fun c=>decide (33≤c.toNat)&&decide (c.toNat≤126)
def X8 (r:CT):Bool:=decide (1≤r.name.length)&&decide (r.name.length≤32)&&(NT r||(decide (cR r.term=0)&&decide ((dJ r.term).length≤65535)))
def Ph (r:CT):Bool:=Pg r.name&&X8 r
def LP (l:List CT):Prop:=(l.map CT.name).Pairwise fun a b=>Op.bytesLess a b=true
structure KeptP (l:List CT):Prop where
 up:LP l
 right:∀ r∈l,Ph r=true
 there:∀ r∈l,NT r=false
structure aH where
 key:List UInt8
 dS:Int
instance LQ:cX aH:=⟨2,fun m=>[str m.key,.int .i64 m.dS],fun _=>rfl,fun x u hu=>by simp only[List.mem_cons,List.not_mem_nil,or_false]at hu;rcases hu with rfl | rfl <;> rfl⟩
instance oJ:dW aH:={ LQ with
 dflt:=⟨[],0⟩
 ny:=fun _ _=>True
 mono:=fun _ _ _ _ h=>h }
instance:Ai aH 2:=⟨rfl,by decide⟩
instance {m:aH} : gx m [str m.key,.int .i64 m.dS]:=⟨rfl⟩
abbrev xl (m:aH):Value:=.agg ⟨[str m.key,.int .i64 m.dS]⟩
def jP (m:aH):Bool:=!decide (m.key=[])&&decide ((m.key.length:Int)≤64)&&decide (0≤m.dS)&&decide (m.dS≤65535)
theorem HU (m:aH)(w0:World):aT prog 200 [xl m] w0 (fun _=>False) fun v _=>v=.bool (jP m):=by
 refine E1 func200 rfl ntmps200 (Wd.start w0) ?_;intro a S;refine kS (kR ?_);refine sa S ?_;intro b1 a w S;refine mK ?_;intro a S;refine J8 ?_;intro a S;refine aD S (fun _=>rfl)
instance {m:aH}{bs fs} : cB prog 200 [.agg ⟨[str m.key,.int .i64 m.dS]⟩] bs fs (.bool (jP m)):=⟨fun w _=>HU m w⟩
def kG:List UInt8→List aH→Bool
 | _,[]=>true
 | k,m::l=>jP m&&Op.bytesLess k m.key&&kG m.key l
def jw (l:List aH):Nat→List UInt8
 | 0=>[]
 | j+1=>(aq l j).key
def EA (l:List aH):Bool:=decide ((l.length:Int)≤16)&&kG [] l
def xm (l:List aH):Int:=if EA l then 0 else 240
theorem HV (l:List aH)(p:Option Addr)(n c:Nat)(w0:World)(hn:l.length=n)(hl:n≤9223372036854775807)(hx:Fx w0 (av p l)) :
  aT prog 115 [.slice p n c] w0 (fun _=>False) fun v _=>v=.int .i64 (xm l):=by
 subst hn;refine E1 func115 rfl ntmps115 (Wd.begin (fs:=[av p l]) (by simpa using hx)) ?_;intro a S;refine mK ?_;intro a S;refine J7 ?_;intro a S;refine yL S (fun(k:Nat) (ok:Bool) uu=>[(3,.bool ok),(0,str (jw l k)),(1,uu 6),(5,.int .i64 (k:Nat)),(0,uu 13),(0,uu 14),(0,uu 15),(0,uu 16),(0,uu 17),(0,uu 18),(0,uu 19),(0,uu 20),(0,uu 21),(0,uu 22),(0,uu 23),(0,uu 24),(0,uu 25),(0,uu 26),(0,uu 27),(0,uu 28),(0,uu 29)]) (fun(k:Nat) (ok:Bool)=>k≤l.length∧(ok&&kG (jw l k) (l.drop k))=EA l) (fun(k:Nat) (ok:Bool)=>l.length - k) (0) (decide ((l.length:Int)≤16)) ?_ S.uu ?_ ?_;exact ⟨Nat.zero_le _,rfl⟩
 first | exact S | exact S.sub _ _
 clear S;rintro k ok uu a w ⟨hk,aI⟩ S;refine J6 ?_;intro a S;refine kC S (fun h4=>?_) (fun h4=>?_);refine kK (aQ (kS (kB (kS ?_))));have bn:k < l.length:=by simp at h4;omega
 have hK:cx k l.length:=⟨bn⟩;rw[bE bn]at aI;refine J3 ?_;intro a S;refine sa S ?_;intro b6 a w S;refine sP ?_;intro a w S;refine gM ?_;intro a S;rw[w6 ((k:Int)+1)]at S;refine ⟨k+1,_,S.uu,⟨bn,?_⟩,S.sub _ _,by omega⟩;rw[←aI]
 show (ok&&jP (aq l k)&&Op.bytesLess (jw l k) (aq l k).key&&kG (aq l k).key (l.drop (k+1)))=(ok&&(jP (aq l k)&&Op.bytesLess (jw l k) (aq l k).key&&kG (aq l k).key (l.drop (k+1))))
 simp only[Bool.and_assoc];refine kE (fT (fT (mM (aQ (kS (kS ?_))))));rw[List.drop_of_length_le (by simp at h4;omega)]at aI;rw[show kG (jw l k) []=true from rfl,Bool.and_true]at aI;refine J5 ?_;intro a S;refine kC S (fun h9=>?_) (fun h9=>?_);refine J7 ?_;intro a S;have X9:ok=false:=by simpa using h9
 refine aD S (fun _=>?_);rw[xm,←aI,X9];rfl;refine J8 ?_;intro a S;have X9:ok=true:=by simpa using h9
 refine aD S (fun _=>?_);rw[xm,←aI,X9];rfl
instance {l:List aH}{p:Option Addr}{n c:Nat}{bs fs}[hg:lI fs p aH oJ l][hn:eu l n][hk:eS n 9223372036854775807]:cB prog 115 [.slice p n c] bs fs (.int .i64 (xm l)):=⟨fun w m=>HV l p n c w hn.eq hk.le ((hg.of _ _ m.facts).less fun _ _ h=>h.elim)⟩
theorem Pj (i j:Nat)(h:i+j≤1000000000):(IntKind.u64.wrap (IntKind.i64.wrap ((i:Int)+(j:Int)))).fdiv (2 ^ min 1 IntKind.u64.bits)=(((i+j) / 2:Nat):Int):=by
 have e1:IntKind.u64.wrap ((i:Int)+(j:Int))=(i:Int)+(j:Int):=by
  unfold IntKind.wrap;simp only[IntKind.bits,IntKind.signed,Bool.false_and];simp;omega
 rw[w6 _,e1]
 show ((i:Int)+(j:Int)).fdiv 2=_
 rw[Int.fdiv_eq_ediv_of_nonneg _ (by omega)];omega
end Go.Proofs.YtdakncgafdnjfaaGreat