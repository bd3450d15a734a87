/- 2: a part of this claim's texts, joined: W3 Inst Octet TermA TermB TermC TermD RefTerm TermE TermF PlainName PlainSize W4. -/
import Derived.Test.YtlgnhhebeandkaaGreatDoorPm1
import Derived.Deep.AppendSrc
import Derived.Laws.MakeOwn
import Derived.Laws.BytesString
import Derived.MapKept
import Derived.ProofKit
import Derived.OpenShut
import Derived.Carry
import Derived.Deep.Slices
import Derived.Test.YtlgnhhebeandkaaGreatDoorProg
import Derived.Scope
import Derived.Lib.AppendZeros
import Derived.Maps.RangeRun
namespace Go.Wk
open Go
theorem Wd.swap {w0 M0 w w' fs}{pre post:List Item}{x y:Item}(h:Wd w0 M0 w (pre++x::post) fs)(hxo:x.own=true)(ha:Agree x.foot w w')(hy:y.holds w')
  (hf:∀ k,y.foot k→x.foot k∨w.heap.size≤k) (hlt:∀ k,y.foot k→k < w'.heap.size)
  (hloc:∀ w1 w2:World,(∀ k,y.foot k→w2.heap[k]? = w1.heap[k]?)→y.holds w1→y.holds w2):Wd w0 M0 w' (pre++y::post) fs:=by
 have hm:x∈pre++x::post:=by simp
 have hap:=List.pairwise_append.1 h.apart;have hap2:=List.pairwise_cons.1 hap.2.1;have hin:∀ it,it∈pre∨it∈post→it∈pre++x::post:=fun it hi=>by rcases hi with hi | hi <;> simp[hi]
 have hne:∀ it,it∈pre∨it∈post→∀ k,it.foot k→¬x.foot k:=by
  rintro it (hi | hi) k hk hxk
  ·exact hap.2.2 it hi x (by simp) k hk hxk
  ·exact hap2.1 it hi k hxk hk
 have hney:∀ it,it∈pre∨it∈post→∀ k,it.foot k→¬y.foot k:=fun it hi k hk hyk=>by
  rcases hf k hyk with h1 | h1
  ·exact hne it hi k hk h1
  ·exact absurd (h.lt it (hin it hi) k hk) (by omega)
 have hkeep:∀ it,it∈pre∨it∈post→it.holds w':=fun it hi=>
  h.loc it (hin it hi) w w' (fun k hk=>ha.blk (h.lt it (hin it hi) k hk) (hne it hi k hk)) (h.held it (hin it hi))
 have mem':∀ it,it∈pre++y::post→it=y∨it∈pre∨it∈post:=fun it hi=>by
  rcases List.mem_append.1 hi with hi | hi
  ·exact .inr (.inl hi)
  ·rcases List.mem_cons.1 hi with rfl | hi
   ·exact .inl rfl
   ·exact .inr (.inr hi)
 refine ⟨?_,?_,?_,?_,?_,?_,?_⟩
 ·refine h.agree.trans' ha fun k hk hx=>?_
  rcases h.own _ hm hxo k hx with h1 | h1
  ·exact h1
  ·omega
 ·intro it hi
  rcases mem' it hi with rfl | hi
  ·exact hy
  ·exact hkeep it hi
 ·intro it hi k hk
  rcases mem' it hi with rfl | hi
  ·exact hlt k hk
  ·exact Nat.lt_of_lt_of_le (h.lt it (hin it hi) k hk) ha.size
 ·intro it hi ho k hk
  rcases mem' it hi with rfl | hi
  ·rcases hf k hk with h1 | h1
   ·exact h.own _ hm hxo k h1
   ·exact .inr (Nat.le_trans h.agree.size h1)
  ·exact h.own it (hin it hi) ho k hk
 ·refine List.pairwise_append.2 ⟨hap.1,List.pairwise_cons.2 ⟨fun it hi k hk hk'=>hney it (.inr hi) k hk' hk,hap2.2⟩,fun a ha b hb=>?_⟩
  rcases List.mem_cons.1 hb with rfl | hb
  ·exact fun k hk hk'=>hney a (.inl ha) k hk hk'
  ·exact hap.2.2 a ha b (by simp[hb])
 ·intro Φ hΦ w'' hw''
  refine h.facts Φ hΦ w'' ⟨hw''.1.trans ha.1,hw''.2.1.trans ha.2.1,hw''.2.2.1.trans ha.2.2.1,Nat.le_trans ha.size hw''.size,fun k hk hn=>?_⟩;have hnx:¬x.foot k:=fun hx=>hn ⟨x,hm,hx⟩
  rw[hw''.blk (Nat.lt_of_lt_of_le hk ha.size) ?_,ha.blk hk hnx];rintro ⟨it,hi,hik⟩;rcases mem' it hi with rfl | hi
  ·rcases hf k hik with h1 | h1
   ·exact hnx h1
   ·omega
  ·exact hn ⟨it,hin it hi,hik⟩
 ·intro it hi
  rcases mem' it hi with rfl | hi
  ·exact hloc
  ·exact h.loc it (hin it hi)
class ReplI (bs:List Item)(x y:Item)(bs':outParam (List Item)):Prop where
 ex:∃ pre post,bs=pre++x::post∧bs'=pre++y::post
instance ri0 {x y:Item}{bs:List Item} : ReplI (x::bs) x y (y::bs):=⟨[],bs,rfl,rfl⟩
instance (priority:=900) ri1 {x y u:Item}{bs bs':List Item}[h:ReplI bs x y bs']:ReplI (u::bs) x y (u::bs'):=⟨by
 obtain ⟨pre,post,e1,e2⟩:=h.ex;exact ⟨u::pre,post,by rw[e1];rfl,by rw[e2];rfl⟩⟩
theorem Wd.more {w0 M0 w bs fs}{y:Item}(h:Wd w0 M0 w bs fs)(hy:y.holds w)(hn:∀ k,y.foot k→w0.heap.size≤k)(hlt:∀ k,y.foot k→k < w.heap.size)(hap:∀ it∈bs,∀ k,y.foot k→¬it.foot k)
  (hfs:∀ Φ∈fs,Stable (foots (y::bs)) w Φ) (hloc:∀ w1 w2:World,(∀ k,y.foot k→w2.heap[k]? = w1.heap[k]?)→y.holds w1→y.holds w2):Wd w0 M0 w (y::bs) fs:=by
 refine ⟨h.agree,?_,?_,?_,List.pairwise_cons.2 ⟨hap,h.apart⟩,hfs,?_⟩;intro it hi;exact (List.mem_cons.1 hi).elim (fun q=>by subst q;exact hy) (fun hi=>h.held it hi);intro it hi;exact (List.mem_cons.1 hi).elim (fun q=>by subst q;exact hlt) (fun hi=>h.lt it hi);intro it hi;exact (List.mem_cons.1 hi).elim (fun q=>by subst q;exact fun _ k hk=>.inr (hn k hk)) (fun hi=>h.own it hi);intro it hi;exact (List.mem_cons.1 hi).elim (fun q=>by subst q;exact hloc) (fun hi=>h.loc it hi)
class Enc (α:Type) where
 sz:Nat
 cells:α→List Value
 len:∀ x,(cells x).length=sz
 one:∀ x,∀ u∈cells x,u.oneCell'=true
def encL {α:Type}[Enc α](xs:List α):List Value:=xs.flatMap Enc.cells
theorem encL_nil {α:Type}[Enc α]:encL (α:=α) []=[]:=rfl
theorem encL_cons {α:Type}[Enc α](x:α)(xs:List α):encL (x::xs)=Enc.cells x++encL xs:=by simp[encL]
theorem encL_append {α:Type}[Enc α](xs ys:List α):encL (xs++ys)=encL xs++encL ys:=by simp[encL]
theorem encL_len {α:Type}[Enc α](xs:List α):(encL xs).length=xs.length*Enc.sz α:=by
 induction xs with
 | nil=>simp[encL]
 | cons x xs ih=>rw[encL_cons,List.length_append,ih,Enc.len,qqA,Nat.add_mul];omega
theorem encL_one {α:Type}[Enc α](xs:List α):∀ u∈encL xs,u.oneCell'=true:=fun u hu=>by
 obtain ⟨x,_,hx⟩:=List.mem_flatMap.1 hu;exact Enc.one x u hx
theorem encL_get {α:Type}[Enc α]:∀ (xs:List α) (k:Nat) (x:α),xs[k]? = some x→∀ j,j < Enc.sz α→(encL xs)[k*Enc.sz α+j]? = (Enc.cells x)[j]?
 | [],k,x,h,j,hj=>by simp at h
 | y::ys,0,x,h,j,hj=>by
  simp at h;subst h;rw[encL_cons,List.getElem?_append_left (by rw[Enc.len];omega)];simp
 | y::ys,k+1,x,h,j,hj=>by
  rw[encL_cons,List.getElem?_append_right (by rw[Enc.len,Nat.add_mul];omega),Enc.len];have:=encL_get ys k x (by simpa using h) j hj;rw[←this]
  congr 1
  rw[Nat.add_mul];omega
theorem encL_take {α:Type}[Enc α](xs:List α)(m:Nat):(encL xs).take (m*Enc.sz α)=encL (xs.take m):=by
 by_cases hm:m≤xs.length
 conv=>lhs;rw[←List.take_append_drop m xs,encL_append]
 rw[List.take_append_of_le_length (by rw[encL_len];simp[hm]),List.take_of_length_le (by rw[encL_len];simp[Nat.min_eq_left hm])];rw[List.take_of_length_le (by rw[encL_len];exact Nat.mul_le_mul_right _ (by omega)),List.take_of_length_le (by omega)]
instance encT:Enc LTerm:=⟨5,LTerm.cells,fun _=>rfl,fun x u hu=>by
 simp only[LTerm.cells,List.mem_cons,List.not_mem_nil,or_false]at hu;rcases hu with rfl | rfl | rfl | rfl | rfl <;> rfl⟩
instance encB:Enc UInt8:=⟨1,fun b=>[.int .u8 b.toNat],fun _=>rfl,fun x u hu=>by obtain rfl:=List.mem_singleton.1 hu;rfl⟩
instance encI:Enc Int:=⟨1,fun b=>[.int .i64 b],fun _=>rfl,fun x u hu=>by obtain rfl:=List.mem_singleton.1 hu;rfl⟩
instance encS:Enc (List UInt8):=⟨1,fun s=>[str s],fun _=>rfl,fun x u hu=>by obtain rfl:=List.mem_singleton.1 hu;rfl⟩
def u8 (n:Int):UInt8:=UInt8.ofNat (n % 256).toNat
theorem u8_wrap (n:Int):IntKind.u8.wrap n=((u8 n).toNat:Int):=by
 unfold IntKind.wrap u8;simp only[IntKind.bits,IntKind.signed,Bool.false_and];rw[UInt8.toNat_ofNat'];simp;omega
class Dec {α:Type}[Enc α](cs:List Value)(xs:outParam (List α)):Prop where eq:cs=encL xs
instance decT {t:LTerm} : Dec (α:=LTerm) (t.cells) [t]:=⟨by simp[encL];rfl⟩
instance decB {n:Int} : Dec (α:=UInt8) [.int .u8 (IntKind.u8.wrap n)] [u8 n]:=⟨by simp[encL,Enc.cells,u8_wrap]⟩
class FlatR (xs:List Value):Prop where all:∀ u∈xs,u.oneCell'=true
class LenN {α:Type}(xs:List α)(n:Nat):Prop where eq:xs.length=n
instance lenn {α:Type}{xs:List α} : LenN xs xs.length:=⟨rfl⟩
def row (e:TypeId)(sz:Nat)(p:Option Addr)(n c:Nat)(xs:List Value):Item where
 foot:=fun k=>∃ ad,p=some ad∧k=ad.block
 holds:=fun w=>w.ownsRow 0 e sz (.slice p n c) n xs
theorem row_loc (e:TypeId)(sz:Nat)(p:Option Addr)(n c:Nat)(xs:List Value)(w1 w2:World)(h:∀ k,(row e sz p n c xs).foot k→w2.heap[k]? = w1.heap[k]?)(h1:(row e sz p n c xs).holds w1):(row e sz p n c xs).holds w2:=by
 obtain ⟨h2,h3⟩:=h1;refine ⟨h2,?_⟩;rcases h3 with h3 | ⟨g,cap,cur,hv,hb,hg,r⟩
 exact .inl h3;refine .inr ⟨g,cap,cur,hv,hb,?_,r⟩;cases hv;rw[h g ⟨_,rfl,rfl⟩];exact hg
theorem row_foot_lt {e:TypeId}{sz:Nat}{p:Option Addr}{n c:Nat}{xs:List Value}{w:World}(h:(row e sz p n c xs).holds w):∀ k,(row e sz p n c xs).foot k→k < w.heap.size:=by
 rintro k ⟨ad,rfl,rfl⟩;rcases h.2 with ⟨h3,_⟩ | ⟨g,cap,cur,hv,_,hg,_⟩
 cases h3;cases hv;exact (Array.getElem?_eq_some_iff.1 hg).1
class HasRow (bs:List Item)(p:Option Addr)(n:Nat)(e:outParam TypeId)(sz c:outParam Nat)(xs:outParam (List Value)):Prop where mem:row e sz p n c xs∈bs
instance hr0 {e:TypeId}{sz:Nat}{p:Option Addr}{n c:Nat}{xs:List Value}{bs:List Item} : HasRow (row e sz p n c xs::bs) p n e sz c xs:=⟨List.mem_cons_self ..⟩
instance (priority:=900) hr1 {e:TypeId}{sz:Nat}{p:Option Addr}{n c:Nat}{xs:List Value}{x:Item}{bs:List Item}[h:HasRow bs p n e sz c xs]:HasRow (x::bs) p n e sz c xs:=⟨List.mem_cons_of_mem _ h.mem⟩
section
variable {P:Program}{r:Option Nat}{ops:Array Oper}{Q:Exit→Act→World→Prop}{w0:World}{M0:Nat→Prop}{ds:List Deferred}{a:Act}{w:World}{l:List Value}{bs bs':List Item}{fs:List (World→Prop)}
 {d:Option Nat} {op:Op} {ty:TypeId} {pos:String} {af:Array Edge} {rest:List Oper} {v:Value} {e:TypeId} {sz:Nat} {p:Option Addr} {n c:Nat} {xs:List Value}
theorem St.row (S:St w0 M0 ds a w l bs fs)(p:Option Addr)(n:Nat){e:TypeId}{sz c:Nat}{xs:List Value}[h:HasRow bs p n e sz c xs]:w.ownsRow 0 e sz (.slice p n c) n xs:=S.wd.held _ h.mem
theorem St.addNil (S:St w0 M0 ds a w l bs fs)(e:TypeId)(sz:Nat):St w0 M0 ds a w l (Wk.row e sz none 0 0 []::bs) fs:=by
 have hf:∀ k,¬(Wk.row e sz none 0 0 []).foot k:=fun k ⟨ad,h,_⟩=>by cases h
 refine ⟨S.slots,S.defers,S.wd.more (World.ownsRow_nil _ _ _ _) (fun k hk=>absurd hk (hf k)) (fun k hk=>absurd hk (hf k)) (fun _ _ k hk=>absurd hk (hf k)) (fun Φ hΦ=>?_) (row_loc _ _ _ _ _ _)⟩;refine (S.wd.facts Φ hΦ).less fun k _ ⟨it,hi,hk⟩=>?_
 rcases List.mem_cons.1 hi with rfl | hi
 exact absurd hk (hf k);exact ⟨it,hi,hk⟩
theorem run_append_row {w:World}{t tx ty:TypeId}{z:Value}{by_ m:Nat}{x:Value}{news:List Value}[ht:Und P t (.slice e)][hti:TI P e z sz by_](hz:z.cells.size=sz)(hown:w.ownsRow 0 e sz (.slice p n c) n xs)
  (hs:Src P sz tx x m news w) (h63:n+m≤maxLen) (hb:(n+m)*by_≤140737488355328) :
  ∃ p' c' w',(Builtin.append_ #[t,tx] ty #[.slice p n c,x]).run P w=.ok (.slice p' (n+m) c') w'∧w'.ownsRow 0 e sz (.slice p' (n+m) c') (n+m) (xs++news)∧
   Agree (fun k=>∃ ad,p=some ad∧k=ad.block) w w'∧(∀ ad,p'=some ad→(p=some ad)∨w.heap.size≤ad.block)∧(0 < m→p'.isSome):=by
 obtain ⟨i,hi,hz',hsize,hby⟩:=hti.ex;subst hsize hby;have htu:=ht.eq;have hlen:(xs++news).length=(n+m)*i.size:=by rw[List.length_append,hown.1,hs.newsLen,Nat.add_mul]
 have hfit:∀ old,old < n+m→Builtin.nextslicecap (n+m) old*i.bytes≤281474976710656:=fun old ho=>growslice_fits ho hb
 have hcells:∀ old,((xs++news).toArray++Builtin.zeroCells z.cells (grownCap w (n+m) old e - (n+m))).size=grownCap w (n+m) old e*i.size:=fun old=>by
  have:=grownCap_ge w (n+m) old e;rw[Array.size_append,size_zeroCells,hz,List.size_toArray,hlen,←Nat.add_mul]
  congr 1;omega
 have grown:∀ old,(w.drew.alloc (.cells ((xs++news).toArray++Builtin.zeroCells z.cells (grownCap w (n+m) old e - (n+m))) e)).ownsRow 0 e i.size (.slice (some ⟨w.heap.size,0,none⟩) (n+m) (grownCap w (n+m) old e)) (n+m) (xs++news):=fun old=>by
  refine ⟨hlen,.inr ⟨w.heap.size,_,_,rfl,Nat.zero_le _,heap_alloc_new w.drew _,grownCap_ge _ _ _ _,grownCap_le_maxLen w (n+m) old e h63,hcells old,?_⟩⟩;rw[←hlen,Array.toList_append];exact List.take_left
 have hag:∀ o,Agree (fun k=>∃ ad,p=some ad∧k=ad.block) w (w.drew.alloc o):=fun o=>(Agree.drawn _ w _).trans (Agree.alloc _ w.drew o)
 rcases hown.2 with ⟨hv,rfl⟩ | ⟨g,cap,cur,hv,hbg,hg,hnc,hcm,hcs,htake⟩
 cases hv;have hx:xs=[]:=List.eq_nil_of_length_eq_zero (by simpa using hown.1);subst hx
 by_cases hm:m=0
 subst hm;have hn:news=[]:=List.eq_nil_of_length_eq_zero (by simpa using hs.newsLen);subst hn;refine ⟨none,0,w,?_,World.ownsRow_nil w _ _ _,Agree.refl _ _,(fun _ h=>by cases h),(fun h=>absurd h (by omega))⟩;rcases hs.kind with ⟨e',hk⟩ | hk <;> simp[Builtin.append_,run_underlying htu,run_underlying hk,sizeOf,typeInfo,hi,hs.len,hs.cells]
 have hr:=run_append_grow_src (P:=P) w t tx ty e i z htu hi hz' none 0 0 [] (by simp[Builtin.firstCells]) x m news hs (by omega) (by simp only[maxLen]at h63;omega) (hfit 0 (by omega));exact ⟨_,_,_,hr,grown 0,hag _,fun ad h=>.inr (by cases h;exact Nat.le_refl _),fun _=>rfl⟩;cases hv
 by_cases hroom:n+m≤c
 have hb0:∀ j,j < news.length→n*i.size+j < cur.size:=fun j hj=>by
  have:=Nat.mul_le_mul_right i.size hroom;rw[hs.newsLen]at hj;rw[hcs];have e1:=Nat.add_mul n m i.size;omega
 have hcell:∀ j,w.cell? ⟨g,j,none⟩=cur[j]?:=fun j=>cell_of_row w g j cur e (0,0) hg
 have hr:=run_append_room_src (P:=P) w t tx ty e i htu hi g 0 n c x m news hs hroom
  (fun j hj=>by simp only[Nat.zero_add];rw[hcell];simpa using hb0 j hj)
  (fun j hj=>by simp[World.frozen?,hg])
 simp only[Nat.zero_add]at hr;have hfit2:n*i.size+news.length≤cur.size:=by
  have:=Nat.mul_le_mul_right i.size hroom;rw[hs.newsLen,hcs,←Nat.add_mul];exact this
 have hsc:w.setCells g (n*i.size) news=w.setRow g (cur.toList.take (n*i.size)++news++cur.toList.drop (n*i.size+news.length)).toArray:=by
  have h1:=run_storeCells_cells (P:=P) g (n*i.size) news 0 w (fun j hj=>by rw[hcell];simpa using hb0 j hj) (fun j hj=>by simp[World.frozen?,hg]) hs.one;have h2:=run_storeCells_at (P:=P) g (n*i.size) e news 0 cur w hg (by simpa using hfit2) hs.one;rw[h1]at h2;simp only[Nat.add_zero]at h2
  injection h2
 rw[hsc]at hr;refine ⟨_,_,_,hr,⟨hlen,.inr ⟨g,c,_,rfl,Nat.zero_le _,setRow_heap w g cur _ e _ hg,hroom,hcm,?_,?_⟩⟩,Agree.setRow w g _ ⟨_,rfl,rfl⟩,fun ad h=>.inl h,fun _=>rfl⟩;simp only[List.size_toArray,List.length_append,List.length_take,List.length_drop,Array.length_toList];omega;rw[htake,←hlen];exact List.take_left;have hr:=run_append_grow_src (P:=P) w t tx ty e i z htu hi hz' (some ⟨g,0,none⟩) n c xs (by
   have:=run_firstCells_some (P:=P) w.drew i.size n ⟨g,0,none⟩ n c xs hown.1 (fun j u hu=>by simpa using hown.cells (g:=g) rfl j u hu);simpa using this) x m news hs (by omega) (by simp only[maxLen]at h63;omega) (hfit c (by omega))
 exact ⟨_,_,_,hr,grown c,hag _,fun ad h=>.inr (by cases h;exact Nat.le_refl _),fun _=>rfl⟩
end
class SrcV (P:Program)(tx:TypeId)(x:Value)(bs:List Item)(fs:List (World→Prop))(sz:Nat)(m:outParam Nat)(news:outParam (List Value)):Prop where
 src:∀ w,Mem w bs fs→Src P sz tx x m news w
instance srcStr {P:Program}{tx:TypeId}{s:List UInt8}{bs:List Item}{fs:List (World→Prop)}[h:Und P tx .string]:SrcV P tx (str s) bs fs 1 s.length (encL s):=⟨fun w _=>by
 have e:=Src.ofString (P:=P) w (tx:=tx) h.eq ⟨s.toArray⟩;have h1:byteCells ⟨s.toArray⟩=encL s:=by
  clear e
  show s.map _=s.flatMap _
  induction s with
  | nil=>rfl
  | cons x xs ih=>rw[List.map_cons,List.flatMap_cons,ih];rfl
 rw[h1]at e;exact e⟩
theorem encT_cells {t:LTerm} : encL [t]=t.cells:=by simp[encL];rfl
class TakeC (cs:List Value)(n:Nat)(vs:outParam (List Value)):Prop where eq:cs.take n=vs∧vs.length=n
instance srcBox {P:Program}{tx e:TypeId}{b m c sz n:Nat}{t:TypeId}{cs:List Value}{bs:List Item}{fs:List (World→Prop)}[h:Und P tx (.slice e)][hb:HasBox bs b t cs][hm:MulN m sz n][hl:LenIs cs n][hf:Flat cs] :
  SrcV P tx (.slice (some ⟨b,0,none⟩) m c) bs fs sz m cs:=⟨fun w mm=>Src.ofSlice w h.eq _ _ _ _ (by rw[hl.eq,hm.eq]) (fun j u hj=>by
   have hj':j < cs.length:=(List.getElem?_eq_some_iff.1 hj).1;have e:(⟨b,0,none⟩:Addr).add j=⟨b,j,none⟩:=by unfold Addr.add;split <;> simp_all
   rw[e,cell_of_row w b j cs.toArray t (0,0) mm.box];simpa using hj) hf.all⟩
theorem lsIn_cells {w:World}{p:Option Addr}{xs:List LTerm}(h:LsIn w p 0 xs){ad:Addr}(hp:p=some ad):∀ j u,(encL xs)[j]? = some u→w.cell? (ad.add j)=some u:=by
 intro j u hj;have hlt:j < xs.length*5:=by
  have:=(List.getElem?_eq_some_iff.1 hj).1;rw[encL_len]at this;exact this
 have hk:j / 5 < xs.length:=by omega
 obtain ⟨ad',hp',hc⟩:=(h.get (nth_get hk)).1;rw[hp]at hp';cases hp';have:=encL_get xs (j / 5) _ (nth_get hk) (j % 5) (Nat.mod_lt _ (by decide));have e:j / 5*Enc.sz LTerm+j % 5=j:=by show j / 5*5+j % 5=j;omega
 rw[e,hj]at this;have:=hc (j % 5) u this.symm;rw[show (0+j / 5)*5+j % 5=j from by omega]at this;exact this
section
variable {P:Program}{r:Option Nat}{ops:Array Oper}{Q:Exit→Act→World→Prop}{w0:World}{M0:Nat→Prop}{ds:List Deferred}{a:Act}{w:World}{l:List Value}{bs:List Item}{fs:List (World→Prop)}
 {d:Option Nat} {op:Op} {ty:TypeId} {pos:String} {af:Array Edge} {rest:List Oper} {v:Value} {e:TypeId} {sz:Nat} {p:Option Addr} {n c:Nat} {xs:List Value}
theorem sap {x y:Operand}{t tx:TypeId}{z:Value}{by_ m:Nat}{xv:Value}{news:List Value}{l':Option Addr→Nat→List Value}{bs':Option Addr→Nat→List Item}(S:St w0 M0 ds a w l bs fs)
  [Ev ⟨[],l⟩ x (.slice p n c)] [Ev ⟨[],l⟩ y xv] [ht:Und P t (.slice e)] [hti:TI P e z sz by_] {zc:List Value} [hzc:Cells z zc] [hzl:LenIs zc sz] [hr:HasRow bs p n e sz c xs] [hs:SrcV P tx xv bs fs sz m news]
  [hp:∀ p' c',PutO l d (.slice p' (n+m) c') (l' p' c')] [hrep:∀ p' c',ReplI bs (row e sz p n c xs) (row e sz p' (n+m) c' (xs++news)) (bs' p' c')]
  (h63:n+m≤maxLen) (hb:(n+m)*by_≤140737488355328)
  (K:∀ p' c' a w,(0 < m→∃ g,p'=some ⟨g,0,none⟩)→St w0 M0 ds a w (l' p' c') (bs' p' c') fs→WL P r ops Q rest a w) :
  WL P r ops Q (⟨d,.call { callee:=.builtin .append,args:=#[x,y],argTypes:=#[t,tx] },ty,pos,af,none⟩::rest) a w:=by
 refine wl_plain rfl ?_;rw[semAt_nd rfl];obtain ⟨p',c',w',hrun,hown,hag,hnew,hsome⟩:=run_append_row (P:=P) (w:=w) (t:=t) (tx:=tx) (ty:=ty) (z:=z) (by_:=by_) (m:=m) (x:=xv) (news:=news) (by rw[←Array.length_toList,hzc.eq,hzl.eq]) (S.row p n) (hs.src w S.wd.mem) h63 hb;have e1:(xop a.eval (.call { callee:=.builtin .append,args:=#[x,y],argTypes:=#[t,tx] }) ty).run P w=.ok (.value (.slice p' (n+m) c')) w':=by
  simp[xop,execOp,resolve,invoke,builtin,S.fr.ev (x:=x) (v:=.slice p n c),S.fr.ev (x:=y) (v:=xv),hrun]
 simp only[e1,Oper.uponIn];have:=hp p' c';have S':=S.put (d:=d) (v:=.slice p' (n+m) c');obtain ⟨pre,post,q1,q2⟩:=(hrep p' c').ex;have hwd:=S'.wd;rw[q1]at hwd;refine K p' c' _ w' (fun hm=>?_) ⟨S'.slots,S'.defers,?_⟩
 ·rcases hown.2 with ⟨hv,h0⟩ | ⟨g,cap,cur,hv,_⟩
  ·omega
  ·cases hv;exact ⟨g,rfl⟩
 ·rw[q2]
  refine hwd.swap rfl hag hown (fun k ⟨ad,h1,h2⟩=>?_) (row_foot_lt hown) (row_loc _ _ _ _ _ _);rcases hnew ad h1 with h3 | h3
  ·exact .inl ⟨ad,h3,h2⟩
  ·exact .inr (h2▸h3)
theorem St.boxRow {bs':List Item}(S:St w0 M0 ds a w l bs fs)(b:Nat)(sz m:Nat){t:TypeId}{cs:List Value}[HasBox bs b t cs][hr:ReplI bs (Wk.box b t cs) (Wk.row t sz (some ⟨b,0,none⟩) m m cs) bs'](hl:cs.length=m*sz)(hm:m≤maxLen):St w0 M0 ds a w l bs' fs:=by
 obtain ⟨pre,post,q1,q2⟩:=hr.ex;have hwd:=S.wd;have hb:=S.box b;rw[q1]at hwd;refine ⟨S.slots,S.defers,?_⟩;have hown:(Wk.row t sz (some ⟨b,0,none⟩) m m cs).holds w:=⟨hl,.inr ⟨b,m,_,rfl,Nat.zero_le _,hb,Nat.le_refl _,hm,by simpa using hl,by simp[←hl]⟩⟩;rw[q2];exact hwd.swap rfl (Agree.refl _ _) hown (fun k ⟨ad,h1,h2⟩=>.inl (by cases h1;exact h2)) (row_foot_lt hown) (row_loc _ _ _ _ _ _)
theorem Wd.addRow {w':World}(hold:Wd w0 M0 w bs fs)(hw:Grow w w'){p:Option Addr}{n c:Nat}{e:TypeId}{sz:Nat}{xs:List Value}(h:w'.ownsRow 0 e sz (.slice p n c) n xs)(hn:∀ ad,p=some ad→w.heap.size≤ad.block) :
  Wd w0 M0 w' (Wk.row e sz p n c xs::bs) fs:=by
 have hfoot:∀ k,(Wk.row e sz p n c xs).foot k→w.heap.size≤k:=fun k ⟨ad,h1,h2⟩=>h2▸hn ad h1
 refine (hold.step hw).more h (fun k hk=>Nat.le_trans hold.agree.size (hfoot k hk)) (row_foot_lt h) (fun it hi k hk hk'=>absurd (hold.lt it hi k hk') (by have:=hfoot k hk;omega)) (fun Φ hΦ w'' hw''=>?_) (row_loc _ _ _ _ _ _);refine hold.facts Φ hΦ w'' ((hw.mono (fun _ _ h=>h.elim)).trans' hw'' fun i hi ⟨it,hm,hk⟩=>?_);rcases List.mem_cons.1 hm with rfl | hm
 exact absurd (hfoot i hk) (by omega);exact ⟨it,hm,hk⟩
variable {f:Nat}{x:Operand}{ys:List Operand}{args:List Value}{ts:Array TypeId}
theorem srn {l':Value→List Value}[EntF P f][CallTo ⟨[],l⟩ x ys f args][hp:∀ v,PutO l d v (l' v)](S:St w0 M0 ds a w l bs fs){R:Value→World→Prop}(hc:Ret P f args w (fun _=>False) R)
  (K:∀ v a w',R v w'→(∀ {p:Option Addr} {n c:Nat} {e:TypeId} {sz:Nat} {xs:List Value},w'.ownsRow 0 e sz (.slice p n c) n xs→(∀ ad,p=some ad→w.heap.size≤ad.block)→St w0 M0 ds a w' (l' v) (Wk.row e sz p n c xs::bs) fs)→St w0 M0 ds a w' (l' v) bs fs→WL P r ops Q rest a w') :
  WL P r ops Q (⟨d,.call { callee:=.value x,args:=ys.toArray,argTypes:=ts },ty,pos,af,none⟩::rest) a w:=by
 refine cv_any S hc ?_;rintro e w' ⟨v,rfl,ha,hR⟩;have:=hp v;have S':=S.put (d:=d) (v:=v);exact ⟨v,rfl,K v _ w' hR (fun h hn=>⟨S'.slots,S'.defers,S'.wd.addRow ha h hn⟩) ⟨S'.slots,S'.defers,S'.wd.step ha⟩⟩
theorem sri {l':Value→List Value}(it:Item)[EntF P f][CallTo ⟨[],l⟩ x ys f args][hp:∀ v,PutO l d v (l' v)](S:St w0 M0 ds a w l bs fs){R:Value→World→Prop}(hc:Ret P f args w it.foot R)(ho:it.own=true)
  (K:∀ v a w',R v w'→(∀ (y:Item) (bs':List Item),ReplI bs it y bs'→y.holds w'→(∀ k,y.foot k→it.foot k∨w.heap.size≤k)→(∀ k,y.foot k→k < w'.heap.size)→(∀ w1 w2:World,(∀ k,y.foot k→w2.heap[k]? = w1.heap[k]?)→y.holds w1→y.holds w2)→St w0 M0 ds a w' (l' v) bs' fs)→WL P r ops Q rest a w') :
  WL P r ops Q (⟨d,.call { callee:=.value x,args:=ys.toArray,argTypes:=ts },ty,pos,af,none⟩::rest) a w:=by
 refine cv_any S hc ?_;rintro e w' ⟨v,rfl,ha,hR⟩;have:=hp v;have S':=S.put (d:=d) (v:=v);refine ⟨v,rfl,K v _ w' hR fun y bs' hr hy hf hlt hloc=>⟨S'.slots,S'.defers,?_⟩⟩;obtain ⟨pre,post,q1,q2⟩:=hr.ex;have hwd:=S'.wd;rw[q1]at hwd;rw[q2];exact hwd.swap ho ha hy hf hlt hloc
theorem srg {l':Value→List Value}(p:Option Addr)(n:Nat){e:TypeId}{sz c:Nat}{xs:List Value}[HasRow bs p n e sz c xs][EntF P f][CallTo ⟨[],l⟩ x ys f args][hp:∀ v,PutO l d v (l' v)](S:St w0 M0 ds a w l bs fs){R:Value→World→Prop}(hc:Ret P f args w (fun k=>∃ ad,p=some ad∧k=ad.block) R)
  (K:∀ v a w',R v w'→(∀ {p':Option Addr} {n' c':Nat} {xs':List Value} (bs':List Item) [ReplI bs (Wk.row e sz p n c xs) (Wk.row e sz p' n' c' xs') bs'],w'.ownsRow 0 e sz (.slice p' n' c') n' xs'→(∀ ad,p'=some ad→(∃ ad',p=some ad'∧ad.block=ad'.block)∨w.heap.size≤ad.block)→St w0 M0 ds a w' (l' v) bs' fs)→WL P r ops Q rest a w') :
  WL P r ops Q (⟨d,.call { callee:=.value x,args:=ys.toArray,argTypes:=ts },ty,pos,af,none⟩::rest) a w:=
 sri (Wk.row e sz p n c xs) S hc rfl fun v a w' hR hS=>K v a w' hR fun bs' hr h hf=>hS _ bs' hr h (fun _k ⟨ad,h1,h2⟩=>(hf ad h1).imp (fun⟨ad',h3,h4⟩=>⟨ad',h3,h2.trans h4⟩) (fun h3=>h2▸h3)) (row_foot_lt h) (row_loc _ _ _ _ _ _)
theorem Wd.rowLent {w:World}{p:Option Addr}{n c:Nat}{e:TypeId}{sz:Nat}{xs:List Value}{fs:List (World→Prop)}(h:w.ownsRow 0 e sz (.slice p n c) n xs)(hf:∀ Φ∈fs,Stable (fun k=>∃ ad,p=some ad∧k=ad.block) w Φ) :
  Wd w (fun k=>∃ ad,p=some ad∧k=ad.block) w [Wk.row e sz p n c xs] fs:=by
 refine ⟨Agree.refl _ _,?_,?_,?_,by simp,?_,?_⟩;intro it hi;obtain rfl:=List.mem_singleton.1 hi;exact h;intro it hi;obtain rfl:=List.mem_singleton.1 hi;exact row_foot_lt h;intro it hi _ k hk;obtain rfl:=List.mem_singleton.1 hi;exact .inl hk;intro Φ hΦ;refine (hf Φ hΦ).less fun k _ hk=>?_
 obtain ⟨it,hi,hk⟩:=hk;obtain rfl:=List.mem_singleton.1 hi;exact hk;intro it hi;obtain rfl:=List.mem_singleton.1 hi;exact row_loc _ _ _ _ _ _
theorem St.rowNew (S:St w0 M0 ds a w l bs fs)(p:Option Addr)(n:Nat){e:TypeId}{sz c:Nat}{xs:List Value}[h:HasRow bs p n e sz c xs]:∀ ad,p=some ad→M0 ad.block∨w0.heap.size≤ad.block:=fun ad hp=>S.wd.own _ h.mem rfl _ ⟨ad,hp,rfl⟩
end
def rAddr (p:Option Addr)(o:Nat):Addr:=(p.getD ⟨0,0,none⟩).add o
theorem own_cells {w:World}{e:TypeId}{sz:Nat}{p:Option Addr}{n c:Nat}{xs:List Value}(h:w.ownsRow 0 e sz (.slice p n c) n xs)(hn:0 < n):∃ g cur,p=some ⟨g,0,none⟩∧w.heap[g]? = some (.cells cur e (0,0))∧n≤c∧cur.size=c*sz∧cur.toList.take (n*sz)=xs∧c≤maxLen:=by
 rcases h.2 with ⟨_,h0⟩ | ⟨g,cap,cur,hv,_,hg,hnc,hcm,hcs,ht⟩
 omega;cases hv;exact ⟨g,cur,rfl,hg,hnc,hcs,ht,hcm⟩
theorem add_lit (g j:Nat):(⟨g,0,none⟩:Addr).add j=⟨g,j,none⟩:=by unfold Addr.add;split <;> simp_all
theorem own_cell {w:World}{e:TypeId}{sz:Nat}{p:Option Addr}{n c:Nat}{xs:List Value}(h:w.ownsRow 0 e sz (.slice p n c) n xs){o j:Nat}{u:Value}(hj:xs[o+j]? = some u):w.cell? ((rAddr p o).add j)=some u:=by
  have hlt:o+j < n*sz:=by rw[←h.1];exact (List.getElem?_eq_some_iff.1 hj).1
  have hn : 0 < n := by rcases Nat.eq_zero_or_pos n with h0 | h0; · subst h0; simp at hlt
                        · exact h0
  obtain ⟨g,cur,rfl,hg,_,_,ht,_⟩:=own_cells h hn;simp only[rAddr,Option.getD_some];rw[add_add,add_lit,cell_of_row w g (o+j) cur e (0,0) hg,←Array.getElem?_toList];rw[←ht,List.getElem?_take]at hj;rw[if_pos hlt]at hj;exact hj
theorem take_set (l vs:List Value)(N o:Nat)(h:o+vs.length≤N)(hN:N≤l.length):(l.take o++vs++l.drop (o+vs.length)).take N=(l.take N).take o++vs++(l.take N).drop (o+vs.length):=by
 have e1:(l.take o++vs).length=o+vs.length:=by simp;omega
 rw[List.take_append,e1,List.take_of_length_le (by omega),List.take_take,Nat.min_eq_left (by omega),List.drop_take]
section
variable {P:Program}{r:Option Nat}{ops:Array Oper}{Q:Exit→Act→World→Prop}{w0:World}{M0:Nat→Prop}{ds:List Deferred}{a:Act}{w:World}{l l':List Value}{bs bs':List Item}{fs:List (World→Prop)}
 {d:Option Nat} {op:Op} {t ty:TypeId} {pos:String} {af:Array Edge} {rest:List Oper} {v z:Value} {e:TypeId} {sz by_:Nat} {p:Option Addr} {n c k:Nat} {xs:List Value} {x y:Operand} {kk:IntKind} {m:Int} {lc:Cx}
instance (priority:=950) opIdxR [Ev lc x (.slice p n c)][Ev lc y (.int kk m)][Und P t (.slice e)][TI P e z sz by_][hm:IsNat m k]{e':TypeId}{sz':Nat}[hr:HasRow bs p n e' sz' c xs][hk:KLt k n]{o:Nat}[hmul:MulN k sz o] :
  OpQ P (.indexAddr t x y) ty lc bs fs (.pointer (some (rAddr p o))):=⟨fun ρ w h mm=>by
 have hrow:w.ownsRow 0 e' sz' (.slice p n c) n xs:=mm.held _ hr.mem;have hlt:=hk.lt;obtain ⟨g,cur,rfl,_⟩:=own_cells hrow (by omega);have h2:=hm.eq;subst h2;simp[xop,execOp,h.ev (x:=x) (v:=.slice (some ⟨g,0,none⟩) n c),h.ev (x:=y) (v:=.int kk (k:Int))];simp[run_indexAt (P:=P) (t:=t) (e:=e) (z:=z) (sz:=sz) (by_:=by_) (Int.natCast_nonneg k) (Int.ofNat_lt.2 hlt),rAddr,hmul.eq]⟩
theorem slrA {o:Nat}(vs:List Value)(S:St w0 M0 ds a w l bs fs)[Ev ⟨[],l⟩ x (.pointer (some (rAddr p o)))][ha:AggT P t true][TI P t z sz by_][hl:LenIs vs sz][hp:PutO l d (.agg ⟨vs⟩) l']
  (n:Nat) {e':TypeId} {sz' c:Nat} {xs:List Value} [hr:HasRow bs p n e' sz' c xs] (h:∀ j v,vs[j]? = some v→xs[o+j]? = some v) (K:∀ a,St w0 M0 ds a w l' bs fs→WL P r ops Q rest a w):WL P r ops Q (⟨d,.load t x,ty,pos,af,none⟩::rest) a w:=
 slA vs S (fun j v hj=>own_cell (S.row p n) (h j v hj)) K
theorem St.reput {bs':List Item}{w':World}{x y:Item}(S:St w0 M0 ds a w l bs fs){a':Act}{l':List Value}(hs:a'.tmps=l'.toArray)(hd:a'.defers=ds)[hr:ReplI bs x y bs'](hxo:x.own=true)(ha:Agree x.foot w w')(hy:y.holds w')
  (hf:∀ k,y.foot k→x.foot k∨w.heap.size≤k) (hlt:∀ k,y.foot k→k < w'.heap.size) (hloc:∀ w1 w2:World,(∀ k,y.foot k→w2.heap[k]? = w1.heap[k]?)→y.holds w1→y.holds w2):St w0 M0 ds a' w' l' bs' fs:=by
 obtain ⟨pre,post,q1,q2⟩:=hr.ex;have hwd:=S.wd;rw[q1]at hwd;exact ⟨hs,hd,by rw[q2];exact hwd.swap hxo ha hy hf hlt hloc⟩
theorem own_set {w:World}(h:w.ownsRow 0 e sz (.slice p n c) n xs){g o:Nat}{vs:List Value}(hp:p=some ⟨g,0,none⟩)(ho:o+vs.length≤n*sz)(hv:∀ u∈vs,u.oneCell'=true) :
  ∃ w',(storeCells ⟨g,o,none⟩ vs).run P w=.ok () w'∧Agree (fun k=>∃ ad,p=some ad∧k=ad.block) w w'∧w'.ownsRow 0 e sz (.slice p n c) n (xs.take o++vs++xs.drop (o+vs.length)):=by
 subst hp;rcases h.2 with ⟨hv,_⟩ | ⟨g',cap,cur,hv',hb,hg,hnc,hcm,hcs,ht⟩
 cases hv;cases hv';have hle:o+vs.length≤cur.size:=by
  have:=Nat.mul_le_mul_right sz hnc;rw[hcs];omega
 have hrun:=run_storeCells_at (P:=P) g o e vs 0 cur w hg (by simpa using hle) hv;simp only[Nat.add_zero]at hrun;refine ⟨_,hrun,Agree.setRow w g _ ⟨_,rfl,rfl⟩,?_,.inr ⟨g,c,_,rfl,hb,setRow_heap w g cur _ e _ hg,hnc,hcm,?_,?_⟩⟩;have h1:=h.1;simp only[List.length_append,List.length_take,List.length_drop];omega;simp only[List.size_toArray,List.length_append,List.length_take,List.length_drop,Array.length_toList];omega;have hcl:n*sz≤cur.toList.length:=by rw[Array.length_toList,hcs];exact Nat.mul_le_mul_right sz hnc
 rw[←ht];exact take_set _ _ _ _ ho hcl
theorem sws {o sz0:Nat}{vs:List Value}(S:St w0 M0 ds a w l bs fs)[Ev ⟨[],l⟩ x (.pointer (some (rAddr p o)))][Ev ⟨[],l⟩ y v][hc:Cells v vs][TI P t z sz0 by_][hl:LenIs vs sz0][hf:Flat vs]
  (n:Nat) {e:TypeId} {sz c:Nat} {xs:List Value} [hr:HasRow bs p n e sz c xs] [hrep:ReplI bs (row e sz p n c xs) (row e sz p n c (xs.take o++vs++xs.drop (o+vs.length))) bs'] [hp:PutO l d undef l'] (hn:0 < n) (ho:o+sz0≤n*sz)
  (K:∀ a w,St w0 M0 ds a w l' bs' fs→WL P r ops Q rest a w):WL P r ops Q (⟨d,.store t x y,ty,pos,af,none⟩::rest) a w:=by
 refine wl_plain rfl ?_;rw[semAt_nd rfl];have hrow:=S.row p n;obtain ⟨g,cur,hpp,_⟩:=own_cells hrow hn;obtain ⟨w',hrun,hag,hown⟩:=own_set (P:=P) hrow (vs:=vs) hpp (by rw[hl.eq];exact ho) hf.all;have hcs:v.cells=vs.toArray:=by rw[←hc.eq]
 have e1:(xop a.eval (.store t x y) ty).run P w=.ok .skip w':=by
  have:rAddr p o=⟨g,o,none⟩:=by rw[hpp];simp[rAddr,add_lit]
  have hx:=S.fr.ev (x:=x) (v:=.pointer (some (rAddr p o)));rw[this]at hx;simp[xop,execOp,Instr.storeAt,hx,S.fr.ev (x:=y) (v:=v),Instr.sureAddr,storeVar,run_size,Sem.run_bind,hcs,hl.eq,hrun]
 simp only[e1,Oper.uponIn];have S':=S.put (d:=d) (v:=undef) (l':=l');exact K _ _ (S.reput (x:=row e sz p n c xs) (y:=row e sz p n c (xs.take o++vs++xs.drop (o+vs.length))) S'.slots S'.defers rfl hag hown (fun k h=>.inl h) (row_foot_lt hown) (row_loc _ _ _ _ _ _))
end
section
variable {P:Program}{r:Option Nat}{ops:Array Oper}{Q:Exit→Act→World→Prop}{w0:World}{M0:Nat→Prop}{ds:List Deferred}{a:Act}{w:World}{l l':List Value}{bs bs':List Item}{fs:List (World→Prop)}
 {d:Option Nat} {op:Op} {t ty:TypeId} {pos:String} {af:Array Edge} {rest:List Oper} {v z:Value} {e:TypeId} {sz by_:Nat} {p:Option Addr} {n c k:Nat} {xs:List Value} {x y:Operand} {kk kl:IntKind} {m:Int} {lc:Cx}
theorem smk {mi mj:Int}{l':Nat→List Value}{zc:List Value}(n:Nat)(S:St w0 M0 ds a w l bs fs)[Ev ⟨[],l⟩ x (.int kk mi)][Ev ⟨[],l⟩ y (.int kl mj)][ht:Und P t (.slice e)][hti:TI P e z sz by_][hzc:Cells z zc][hzl:LenIs zc sz][hne:NeN zc]
  [hp:∀ b,PutO l d (.slice (some ⟨b,0,none⟩) n n) (l' b)] (hi:mi=n) (hj:mj=n) (hb:by_*n≤281474976710656) (hm:n≤maxLen)
  (K:∀ b a w,St w0 M0 ds a w (l' b) (row e sz (some ⟨b,0,none⟩) n n ((List.replicate n zc).flatten)::bs) fs→WL P r ops Q rest a w):WL P r ops Q (⟨d,.makeSlice t x y,ty,pos,af,none⟩::rest) a w:=by
 refine wl_plain rfl ?_;rw[semAt_nd rfl];subst hi hj;obtain ⟨i,hi,hz,hs,hby⟩:=hti.ex;have hz':z.cells=zc.toArray:=by rw[←hzc.eq]
 have hlen:zc.length=sz:=hzl.eq;have hb':(i.bytes:Int)*(n:Int)≤281474976710656:=by
  have h:((by_*n:Nat):Int)≤281474976710656:=by omega
  rw[hby];rwa [Int.natCast_mul]at h
 have hr:=run_make (P:=P) w t e i z ht.eq hi hz kk kl n n (by omega) (Int.le_refl _) hb' (by simp only[maxLen]at hm;omega);have hcells:madeCells z.cells ((n:Int).toNat*i.size)=((List.replicate n zc).flatten).toArray:=by
  rw[←range_rep n zc hne.ne,hz',hs,←hlen];rfl
 rw[hcells]at hr;simp only[Int.toNat_natCast]at hr;have e1:(xop a.eval (.makeSlice t x y) ty).run P w=.ok (.value (.slice (some ⟨w.heap.size,0,none⟩) n n)) (w.alloc (.cells ((List.replicate n zc).flatten).toArray e)):=by
  simp[xop,execOp,S.fr.ev (x:=x) (v:=.int kk (n:Int)),S.fr.ev (x:=y) (v:=.int kl (n:Int)),hr]
 simp only[e1,Oper.uponIn];have:=hp w.heap.size;have S':=S.put (d:=d) (v:=.slice (some ⟨w.heap.size,0,none⟩) n n);have S2:St w0 M0 ds _ _ (l' w.heap.size) (box w.heap.size e ((List.replicate n zc).flatten)::bs) fs:=⟨S'.slots,S'.defers,S'.wd.alloc e ((List.replicate n zc).flatten)⟩;exact K _ _ _ (S2.boxRow w.heap.size sz n (by simp[hlen]) hm)
theorem scp {tx:TypeId}{m:Nat}{xv:Value}{news:List Value}(S:St w0 M0 ds a w l bs fs)[Ev ⟨[],l⟩ x (.slice p n c)][Ev ⟨[],l⟩ y xv][ht:Und P t (.slice e)][hti:TI P e z sz by_][hr:HasRow bs p n e sz c xs][hs:SrcV P tx xv bs fs sz m news]
  [hrep:ReplI bs (row e sz p n c xs) (row e sz p n c (news++xs.drop (m*sz))) bs'] [hp:PutO l d (.int .i64 m) l'] (hle:m≤n) (K:∀ a w,St w0 M0 ds a w l' bs' fs→WL P r ops Q rest a w) :
  WL P r ops Q (⟨d,.call { callee:=.builtin .copy,args:=#[x,y],argTypes:=#[t,tx] },ty,pos,af,none⟩::rest) a w:=by
 refine wl_plain rfl ?_;rw[semAt_nd rfl];have hsrc:=hs.src w S.wd.mem;have hrow:=S.row p n;have S':=S.put (d:=d) (v:=.int .i64 (m:Int)) (l':=l');have hmin:Nat.min m n=m:=Nat.min_eq_left hle;have hlen:=hsrc.newsLen
 suffices h:∃ w',(Builtin.copy_ #[t,tx] ty #[.slice p n c,xv]).run P w=.ok (.int .i64 m) w'∧Agree (fun k=>∃ ad,p=some ad∧k=ad.block) w w'∧w'.ownsRow 0 e sz (.slice p n c) n (news++xs.drop (m*sz)) by
  obtain ⟨w',hrun,hag,hown⟩:=h;have e1:(xop a.eval (.call { callee:=.builtin .copy,args:=#[x,y],argTypes:=#[t,tx] }) ty).run P w=.ok (.value (.int .i64 m)) w':=by
   simp[xop,execOp,resolve,invoke,builtin,S.fr.ev (x:=x) (v:=.slice p n c),S.fr.ev (x:=y) (v:=xv),hrun]
  simp only[e1,Oper.uponIn];exact K _ _ (S.reput (x:=row e sz p n c xs) (y:=row e sz p n c (news++xs.drop (m*sz))) S'.slots S'.defers rfl hag hown (fun k h=>.inl h) (row_foot_lt hown) (row_loc _ _ _ _ _ _))
 have hpre:∀ w',(storeCells (p.getD ⟨0,0,none⟩) news).run P w=.ok () w'→p.isSome=true→(Builtin.copy_ #[t,tx] ty #[.slice p n c,xv]).run P w=.ok (.int .i64 m) w':=by
  intro w' h1 h2;obtain ⟨ad,rfl⟩:=Option.isSome_iff_exists.1 h2;simp at h1;simp[Builtin.copy_,Sem.run_bind,run_und,run_size,hsrc.len,hmin,hsrc.cells,h1,goInt]
 rcases Nat.eq_zero_or_pos n with h0 | h0
 subst h0;have hm0:m=0:=by omega
 subst hm0;have hnews:news=[]:=List.eq_nil_of_length_eq_zero (by simpa using hlen);subst hnews;refine ⟨w,?_,Agree.refl _ _,by simpa using hrow⟩;cases hp:p with
 | none=>simp[Builtin.copy_,Sem.run_bind,run_und,run_size,hsrc.len,hsrc.cells,goInt]
 | some ad=>rw[←hp];exact hpre w (by simp[storeCells]) (by simp[hp])
 obtain ⟨g,cur,hpp,_⟩:=own_cells hrow h0;obtain ⟨w',hrun,hag,hown⟩:=own_set (P:=P) hrow (vs:=news) (o:=0) hpp (by rw[hlen];simpa using Nat.mul_le_mul_right sz hle) hsrc.one;refine ⟨w',hpre w' (by rw[hpp];exact hrun) (by simp[hpp]),hag,?_⟩;simpa [hlen] using hown
end
def SlF (p:Option Addr)(xs:List Value):World→Prop:=fun w=>(p=none→xs=[])∧∀ ad,p=some ad→∀ j u,xs[j]? = some u→w.cell? (ad.add j)=some u
theorem cell_lt {w:World}{ad:Addr}{v:Value}(hc:w.cell? ad=some v):ad.block < w.heap.size:=by
 rcases Nat.lt_or_ge ad.block w.heap.size with h' | h'
 exact h';unfold World.cell? at hc;rw[Array.getElem?_eq_none h']at hc;cases hc
theorem add_block (ad:Addr)(j:Nat):(ad.add j).block=ad.block:=by unfold Addr.add;split <;> rfl
theorem SlF.stable {w:World}{p:Option Addr}{xs:List Value}{M:Nat→Prop}(h:SlF p xs w)(hM:∀ ad,p=some ad→¬M ad.block):Stable M w (SlF p xs):=fun w' hw'=>⟨h.1,fun ad hp j u hj=>by
 have hc:=h.2 ad hp j u hj;have hlt:=cell_lt hc;rw[add_block]at hlt;rw[World.cell?_of_block (w:=w) (by rw[add_block];exact hw'.blk hlt (hM ad hp))];exact hc⟩
theorem own_sl {w:World}{e:TypeId}{sz:Nat}{p:Option Addr}{n c:Nat}{xs:List Value}(h:w.ownsRow 0 e sz (.slice p n c) n xs):SlF p xs w:=by
 refine ⟨fun hp=>?_,fun ad hp j u hj=>?_⟩;subst hp;rcases h.2 with ⟨_,rfl⟩ | ⟨g,cap,cur,hv,_⟩
 exact List.eq_nil_of_length_eq_zero (by simpa using h.1);cases hv;have:=own_cell h (o:=0) (j:=j) (by simpa using hj);subst hp;simpa [rAddr,Addr.add] using this
class HasSl (fs:List (World→Prop))(p:Option Addr)(xs:outParam (List Value)):Prop where mem:SlF p xs∈fs
instance hsl0 {p:Option Addr}{xs:List Value}{fs:List (World→Prop)} : HasSl (SlF p xs::fs) p xs:=⟨List.mem_cons_self ..⟩
theorem src_sl {P:Program}{tx e:TypeId}{w:World}{p:Option Addr}{m c sz:Nat}{xs:List Value}(h:P.underlying tx=some (.slice e))(hs:SlF p xs w)(hl:xs.length=m*sz)(h1:∀ u∈xs,u.oneCell'=true)(hz:0 < sz):Src P sz tx (.slice p m c) m xs w:=by
 cases p with
 | none=>
  have:=hs.1 rfl;subst this;have hm:m=0:=by
   rcases Nat.eq_zero_or_pos m with h0 | h0
   exact h0;have:=Nat.mul_pos h0 hz;simp at hl;omega
  subst hm;exact Src.ofNil w h c
 | some ad=>exact Src.ofSlice w h _ _ _ _ hl (hs.2 ad rfl) h1
instance (priority:=870) srcSlB {P:Program}{tx e:TypeId}{p:Option Addr}{m c:Nat}{ys:List UInt8}{bs:List Item}{fs:List (World→Prop)}[h:Und P tx (.slice e)][hr:HasSl fs p (encL ys)][hn:LenN ys m]:SrcV P tx (.slice p m c) bs fs 1 m (encL ys):=⟨fun w mm=>
 src_sl h.eq (mm.facts _ hr.mem).now (by rw[encL_len,hn.eq];rfl) (encL_one ys) (by decide)⟩
section
variable {P:Program}{r:Option Nat}{ops:Array Oper}{Q:Exit→Act→World→Prop}{w0:World}{M0:Nat→Prop}{ds:List Deferred}{a:Act}{w:World}{l l':List Value}{bs bs':List Item}{fs:List (World→Prop)}
 {d:Option Nat} {op:Op} {t t' ty:TypeId} {pos:String} {af:Array Edge} {rest:List Oper} {v z:Value} {e:TypeId} {sz by_:Nat} {p:Option Addr} {n c k:Nat} {xs:List Value} {x y:Operand} {kk kl:IntKind} {m j:Int} {lc:Cx}
theorem bytes_foldl (xs:List UInt8):∀ (s:ByteArray),((xs.map fun b=>(b.toNat:Int)).foldl (fun s n=>s.push (UInt8.ofNat n.toNat)) s)=⟨s.data++xs.toArray⟩:=by
 induction xs with
 | nil=>intro s;simp
 | cons x xs ih=>intro s;rw[List.map_cons,List.foldl_cons,ih];simp[ByteArray.push]
theorem encB_map (ys:List UInt8):encL ys=(ys.map fun b=>(b.toNat:Int)).map (Value.int .u8):=by
 induction ys with
 | nil=>rfl
 | cons y ys ih=>rw[encL_cons,ih];rfl
theorem run_str {w:World}{ys:List UInt8}(hs:SlF p (encL ys) w)(hn:ys.length=n):(Conv.bytesToString (.slice p n c)).run P w=.ok (str ys) w:=by
 cases p with
 | none=>
  have:=hs.1 rfl;have:ys=[]:=by
   cases ys with
   | nil=>rfl
   | cons y ys=>simp[encL,Enc.cells]at this
  subst this;simp[Conv.bytesToString,str];rfl
 | some ad=>
  have h1:=run_loadCells_list (P:=P) w ad (encL ys) (hs.2 ad rfl);rw[encL_len,encB_map]at h1;have h2:=run_bytesToString (P:=P) w ad n c (ys.map fun b=>(b.toNat:Int)) (by rw[←hn];simpa [Enc.sz] using h1);rw[h2,bytes_foldl];simp[str,ByteArray.empty,ByteArray.emptyWithCapacity];rfl
class HasBytes (bs:List Item)(fs:List (World→Prop))(p:Option Addr)(n:Nat)(ys:outParam (List UInt8)):Prop where of:∀ w,Mem w bs fs→SlF p (encL ys) w
instance hby1 {p:Option Addr}{n c:Nat}{e:TypeId}{ys:List UInt8}{bs:List Item}{fs:List (World→Prop)}[h:HasRow bs p n e 1 c (encL ys)]:HasBytes bs fs p n ys:=⟨fun _ mm=>own_sl (mm.held _ h.mem)⟩
instance opBytesStr {ys:List UInt8}[Ev lc x (.slice p n c)][Und P t (.slice e)][Und P e (.int .u8)][Und P t' .string][hb:HasBytes bs fs p n ys][hn:LenN ys n]:OpQ P (.convert t t' x) ty lc bs fs (str ys):=⟨fun ρ w h mm=>by
 have h1:=run_str (P:=P) (c:=c) (hb.of w mm) hn.eq;cases p <;> simp[xop,execOp,h.ev (x:=x) (v:=.slice _ n c),convert,Sem.run_bind,run_und,h1]⟩
instance opShr [Ev lc x (.int kk m)][Ev lc y (.int kl j)][hj:IsNat j k]:OpQ P (.binOp .shr t x y t') ty lc bs fs (.int kk (m.fdiv (2 ^ (min k kk.bits)))):=⟨fun ρ w h _=>by
 have h2:=hj.eq;subst h2;have h3:¬((k:Int) < 0):=by omega
 simp[xop,execOp,h.ev (x:=x) (v:=.int kk m),h.ev (x:=y) (v:=.int kl (k:Int)),eqGuard,binOp,Op.shift,h3]⟩
end
theorem wu64 (n:Int)(h1:0≤n)(h2:n≤18446744073709551615):IntKind.u64.wrap n=n:=by
 unfold IntKind.wrap;simp only[IntKind.bits,IntKind.signed,Bool.false_and];simp;omega
theorem wu16 (n:Int)(h1:0≤n)(h2:n≤65535):IntKind.u16.wrap n=n:=by
 unfold IntKind.wrap;simp only[IntKind.bits,IntKind.signed,Bool.false_and];simp;omega
def be (k:Nat)(v:Int):List UInt8:=(List.range k).map fun i=>u8 (v.fdiv (2 ^ (8*(k - 1 - i))))
theorem c_merge {P:Program}{r:Option Nat}{Q:Exit→Act→World→Prop}{a:Act}{w:World}{x y:Code}(I:Act→World→Prop)(hx:Wp P r x (Exit.then I Q) a w)(hy:∀ a w,I a w→Wp P r y Q a w):Wp P r (.seq x y) Q a w:=by
 refine kS (wpIn_mono hx ?_);intro e a w h;cases e <;> first | exact hy _ _ h | exact h
theorem c_drawE {P:Program}{r:Option Nat}{Q:Exit→Act→World→Prop}{w0:World}{M0:Nat→Prop}{ds:List Deferred}{a:Act}{w:World}{l:List Value}{bs:List Item}{fs:List (World→Prop)}{id:Nat}{lo:List Oper}(ord:List (Nat × Bool))(bs0:List Item)(S:St w0 M0 ds a w l bs fs)(h:∀ w,St w0 M0 ds a w l bs fs→AQ P lo.toArray (fun w=>Wd w0 M0 w bs0 fs) (fun a w=>Q .normal a w) ord a w)
  (hm:P.follows .mixedOrders=true:=by kernel_rfl) (hd:((lo.all fun o=>!isDefer o.op)&&(Nat.beq ord.length lo.length&&(Region.noSelect lo.toArray&&flowFrom lo.toArray ord (Array.replicate lo.length false))))=true:=by kernel_rfl):Wp P r (.region id lo.toArray true) Q a w:=by
 simp only[Bool.and_eq_true]at hd;refine wpIn_region_any hm (any_of_ac (C:=fun w=>Wd w0 M0 w bs0 fs) (fun i o ho=>?_) _ _ _ _ ?_);have:=List.all_eq_true.1 hd.1 o (by
  rw[List.getElem?_toArray]at ho;exact List.mem_of_getElem? ho)
 simpa using this;have:=h { w with drawn:=w.drawn+1 } ⟨S.slots,S.defers,S.wd.step (Agree.drawn _ w _)⟩ _ hd.2.2.1 hd.2.2.2;rw[Nat.eq_of_beq_eq_true hd.2.1]at this;simpa using this
theorem Wd.perm {w0 M0 w fs}{bs bs':List Item}(h:Wd w0 M0 w bs fs)(hp:bs'.Perm bs):Wd w0 M0 w bs' fs:=by
 have hm:∀ it,it∈bs'→it∈bs:=fun it hi=>hp.mem_iff.1 hi
 refine ⟨h.agree,fun it hi=>h.held it (hm it hi),fun it hi=>h.lt it (hm it hi),fun it hi=>h.own it (hm it hi),?_,fun Φ hΦ=>(h.facts Φ hΦ).less fun _ _ ⟨it,hi,hk⟩=>⟨it,hm it hi,hk⟩,fun it hi=>h.loc it (hm it hi)⟩;exact (hp.pairwise_iff fun hxy k hk hk'=>hxy k hk' hk).2 h.apart
theorem St.swap2 {w0 M0 ds a w l fs}{x y z:Item}(S:St w0 M0 ds a w l [x,y,z] fs):St w0 M0 ds a w l [y,x] fs:=
 ⟨S.slots,S.defers,(S.wd.sub (bs0:=[x,y]) (fs0:=fs) (by simp) (List.Sublist.refl _)).perm (List.Perm.swap _ _ _)⟩
def ents (es:Array MapEntry):List (Value × Value):=es.toList.map fun e=>(e.key,e.val)
def mp (b:Nat)(kv:List (List UInt8 × Value)):Item where
 foot:=fun k=>k=b
 holds:=fun w=>∃ es clock,w.heap[b]? = some (.map es clock)∧ents es=(kv.map fun x=>(str x.1,x.2))∧(∀ e∈es.toList,e.born < clock)∧(es.toList.map (·.born)).Nodup
class HasMp (bs:List Item)(b:Nat)(kv:outParam (List (List UInt8 × Value))):Prop where mem:mp b kv∈bs
def MpF (b:Nat)(kv:List (List UInt8 × Value)):World→Prop:=(mp b kv).holds
class HasMpF (fs:List (World→Prop))(b:Nat)(kv:outParam (List (List UInt8 × Value))):Prop where mem:MpF b kv∈fs
class KvOf (bs:List Item)(fs:List (World→Prop))(b:Nat)(kv:outParam (List (List UInt8 × Value))):Prop where of:∀ w,Mem w bs fs→(mp b kv).holds w
section
variable {P:Program}{r:Option Nat}{ops:Array Oper}{Q:Exit→Act→World→Prop}{w0:World}{M0:Nat→Prop}{ds:List Deferred}{a:Act}{w:World}{l l':List Value}{bs bs':List Item}{fs:List (World→Prop)}
 {d:Option Nat} {op:Op} {t ty:TypeId} {pos:String} {af:Array Edge} {rest:List Oper} {v z:Value} {e kt et:TypeId} {sz by_ b:Nat} {x y u:Operand} {lc:Cx} {k:List UInt8} {kv:List (List UInt8 × Value)}
end
def BoxF (b:Nat)(t:TypeId)(cs:List Value):World→Prop:=(box b t cs).holds
class HasBoxF (fs:List (World→Prop))(b:Nat)(t:outParam TypeId)(cs:outParam (List Value)):Prop where mem:BoxF b t cs∈fs
instance hbf0 {b:Nat}{t:TypeId}{cs:List Value}{fs:List (World→Prop)} : HasBoxF (BoxF b t cs::fs) b t cs:=⟨List.mem_cons_self ..⟩
theorem BoxF.stable {w:World}{b:Nat}{t:TypeId}{cs:List Value}{M:Nat→Prop}(h:BoxF b t cs w)(hM:¬M b):Stable M w (BoxF b t cs):=fun w' hw'=>by
 show w'.heap[b]? = some (.cells cs.toArray t (0,0))
 rw[hw'.blk (Array.getElem?_eq_some_iff.1 h).1 hM];exact h
instance (priority:=800) opLoadF {P:Program}{ty t bt:TypeId}{l:Cx}{bs:List Item}{fs:List (World→Prop)}{x:Operand}{b off:Nat}{cs:List Value}{v:Value}[Ev l x (.pointer (some ⟨b,off,none⟩))][hb:HasBoxF fs b bt cs][ha:AggT P t false][hn:Nth cs off v]:OpQ P (.load t x) ty l bs fs v:=⟨fun ρ w h m=>by
 have hbox:w.heap[b]? = some (.cells cs.toArray bt (0,0)):=(m.facts _ hb.mem).now;have hc:w.cell? ⟨b,off,none⟩=some v:=by rw[cell_of_row w b off cs.toArray bt (0,0) hbox];simpa using hn.eq
 simp[xop,execOp,Instr.loadAt,h.ev (x:=x) (v:=.pointer (some ⟨b,off,none⟩)),Instr.sureAddr,loadVar,Sem.run_bind,ha.run,load,Sem.run,hc]⟩
theorem St.boxF {w0 M0 ds a w l bs fs}(S:St w0 M0 ds a w l bs fs)(b:Nat){t:TypeId}{cs:List Value}[h:HasBox bs b t cs]:BoxF b t cs w:=S.box b
open Go Go.Deep Go.ChangeShapes Go.WideShapes Go.ChangeAt Go.RowKit
section
variable {H:Type}{enc:TypeId × Value→H}{P:Program}
theorem Agree.below {W W':World}(h:Agree (fun _=>False) W W'):Below W.heap.size W W':=by
 obtain ⟨h1,h2,h3,h4,h5⟩:=h;exact ⟨h1,h2,h3,h4,fun k hk=>h5 k hk id⟩
theorem trodAll_below (hl:laidOutB P=true){W W':World}(hb:Below W.heap.size W W'):∀ (ts:List TypeId) (vs:List Value) (ds:List (DataW H)) (ps:List MemPlace),(ts.all fun t=>P.readableRec t&&decide (t < P.types.size))=true→
  DataW.TrodAll enc P W 0 (fun _=>true) true ts vs ds ps→(∀ x∈ps,x.block < W.heap.size)→DataW.TrodAll enc P W' 0 (fun b=>decide (b < W.heap.size)) true ts vs ds ps
 | [],[],[],ps,_,h,_=>h
 | t::ts,v::vs,d::ds,ps,hr,⟨p,q,h1,h2,h3⟩,hlt=>by
  simp only[List.all_cons,Bool.and_eq_true,decide_eq_true_eq]at hr;subst h3;exact ⟨p,q,Below.trod hl hr.1.1 hr.1.2 h1 hb (fun x hx=>hlt x (List.mem_append.2 (.inl hx))),trodAll_below hl hb ts vs ds q (by simpa using hr.2) h2 (fun x hx=>hlt x (List.mem_append.2 (.inr hx))),rfl⟩
theorem law_post {f:Func}{s:ChangeSpec}{B:TypeId}{W W':World}{args:Array Value}{ds gs:List (DataW H)}{before:List MemPlace}(hl:laidOutB P=true)(hp:(f.params.toList.all fun t=>P.readableRec t&&decide (t < P.types.size))=true)
  (hB:P.underlying B=some .bool) (hrt:f.resultTypes = #[B]) (hv:s.vars=[])
  (hW:DataW.Whole enc P f.params.toList s.vars false W args.toList ds gs before) (hres:(s.fn H (ds++gs)).results=[.lit (.bool true)]) (hargs:(s.fn H (ds++gs)).args=ds) (hvars:(s.fn H (ds++gs)).vars=[])
  (hA:Agree (fun _=>False) W W'):s.post enc P f false true false false W args (.bool true) W':=by
 have hW':=hW;obtain ⟨p,q,hA0,hV,rfl,_,_⟩:=hW;have hlt:=hW'.lt;refine ⟨ds,gs,_,[],p,[],hW',?_,?_,?_,hA.below.frame _,fun h=>by cases h⟩;rw[hres,hrt];exact trodAll_mk1 (shut_bool hB _);rw[hargs];exact trodAll_below hl hA.below _ _ _ _ hp hA0 (fun x hx=>hlt x (List.mem_append.2 (.inl hx)));rw[hv,hvars];exact rfl
end
theorem Ret.law {P:Program}{f:Nat}{args:List Value}{W:World}{R:Ending→World→Prop}(h:Ret P f args W (fun _=>False) fun v _=>v=.bool true)
  (hR:∀ W',Agree (fun _=>False) W W'→R (.returned (.bool true)) W'):Calls P f args.toArray W R:=
 Calls.mono (show Calls P f args.toArray W _ from h) fun e W' he=>by
  obtain ⟨v,rfl,hag,rfl⟩:=he;exact hR W' hag
class TermTy (P:Program)(T:TypeId):Prop where
 ex:∃ fs I S L,P.underlying T=some (.struct fs)∧fs.toList.map (fun f=>(f.type,f.offset))=[(I,0),(I,1),(I,2),(S,3),(L,4)]∧P.underlying I=some (.int .i64)∧P.underlying S=some .string∧P.underlying L=some (.slice T)∧
  P.cellsOf T=5∧P.cellsOf I=1∧P.cellsOf S=1∧P.cellsOf L=1
theorem LsIn.of_all {w:World}{ad:Addr} : ∀ {i:Nat} {ks:List LTerm},(∀ k t,ks[k]? = some t→(∀ j v,t.cells[j]? = some v→w.cell? (ad.add ((i+k)*5+j))=some v)∧LtIn w t)→LsIn w (some ad) i ks
 | i,[],_=>trivial
 | i,x::xs,h=>by
  have h0:=h 0 x rfl;refine ⟨⟨ad,rfl,by simpa using h0.1⟩,h0.2,LsIn.of_all fun k t hk=>?_⟩;have h1:=h (k+1) t (by simpa using hk);rw[show i+(k+1)=i+1+k from by omega]at h1;exact h1
instance:Inhabited LTerm:=⟨zeroL⟩
theorem len5 {α:Type}{l:List α}(h:l.length=5):∃ a b c d e,l=[a,b,c,d,e]:=by
 match l,h with
 | [a,b,c,d,e],_=>exact ⟨a,b,c,d,e,rfl⟩
section
variable {H:Type}{enc:TypeId × Value→H}{P:Program}{w:World}{base:Nat}{spare:Nat→Bool}{held:Bool}{T:TypeId}
theorem term_of_trod [hT:TermTy P T]:∀ (fuel:Nat) (cs:List Value) (x:DataW H × List MemPlace),DataW.trod enc P w base spare held fuel T cs=some x→∃ t:LTerm,cs=t.cells∧LtIn w t:=by
 obtain ⟨fs,I,S,L,hu,hf,hI,hS,hL,c1,c2,c3,c4⟩:=hT.ex;intro fuel
 induction fuel using Nat.strongRecOn with
 | _ fuel ih=>
 intro cs x h;obtain ⟨xs,n,rfl,rfl,hlen,hxl,hx⟩:=DataW.trod_struct hu h;rw[c1]at hlen;obtain ⟨a,b,c,d,e,rfl⟩:=len5 hlen;have hfl:fs.size=5:=by
  have:=congrArg List.length hf;simpa using this
 rw[hfl]at hxl;obtain ⟨x0,x1,x2,x3,x4,rfl⟩:=len5 hxl;have fld:∀ (i:Nat) (t o:Nat),(fs.toList.map (fun f=>(f.type,f.offset)))[i]? = some (t,o)→∃ f,fs[i]? = some f∧f.type=t∧f.offset=o:=by
  intro i t o hi;rw[List.getElem?_map]at hi;obtain ⟨f,hf1,hf2⟩:=Option.map_eq_some_iff.1 hi;simp only[Prod.mk.injEq]at hf2;exact ⟨f,by simpa using hf1,hf2.1,hf2.2⟩
 rw[hf]at fld;obtain ⟨f0,q0,t0,o0⟩:=fld 0 I 0 rfl;obtain ⟨f1,q1,t1,o1⟩:=fld 1 I 1 rfl;obtain ⟨f2,q2,t2,o2⟩:=fld 2 I 2 rfl;obtain ⟨f3,q3,t3,o3⟩:=fld 3 S 3 rfl;obtain ⟨f4,q4,t4,o4⟩:=fld 4 L 4 rfl;have r0:=hx 0 f0 q0;have r1:=hx 1 f1 q1;have r2:=hx 2 f2 q2;have r3:=hx 3 f3 q3;have r4:=hx 4 f4 q4;rw[t0,o0,c2]at r0;rw[t1,o1,c2]at r1;rw[t2,o2,c2]at r2;rw[t3,o3,c3]at r3;rw[t4,o4,c4]at r4;obtain ⟨k,e0,_,_⟩:=DataW.trod_int hI r0;obtain ⟨u,e1,_,_⟩:=DataW.trod_int hI r1;obtain ⟨m,e2,_,_⟩:=DataW.trod_int hI r2;obtain ⟨s,e3,_,_⟩:=DataW.trod_string hS r3;simp at e0 e1 e2 e3;subst e0 e1 e2 e3;have hstr:∀ s:ByteArray,Value.string s=str s.data.toList:=fun s=>by simp[str]
 rcases DataW.trod_slice hL r4 with ⟨e4,_⟩ | ⟨ad,len,cap,elems,rest,n',rfl,e4,_,_,hlc,hcm,hel,hem,_,_⟩
 ·simp at e4
  subst e4;exact ⟨.mk k u m s.data.toList none 0 [],by simp[LTerm.cells,LTerm.kind,LTerm.user,LTerm.num,LTerm.text,LTerm.p,LTerm.cap,LTerm.kids,hstr],by simp[LtIn,LsIn]⟩
 ·simp at e4
  subst e4;obtain ⟨g,hg⟩:=choose_lt (α:=LTerm) (p:=fun i t=>w.cells? base (ad.add (i*5)) 5=some t.cells∧LtIn w t) (n:=len) (fun i hi=>by
   have h1:=hem i hi;rw[c1,List.getElem?_eq_getElem (by omega)]at h1;obtain ⟨cs',h2,h3⟩:=Option.bind_eq_some_iff.1 h1;obtain ⟨t,rfl,ht⟩:=ih n' (by omega) cs' _ h3;exact ⟨t,h2,ht⟩)
  refine ⟨.mk k u m s.data.toList (some ad) cap ((List.range len).map g),by simp[LTerm.cells,LTerm.kind,LTerm.user,LTerm.num,LTerm.text,LTerm.p,LTerm.cap,LTerm.kids,hstr],?_⟩;rw[LtIn];refine ⟨by simpa using hlc,hcm,LsIn.of_all fun i t ht=>?_⟩;have hi:i < len:=by
   rcases Nat.lt_or_ge i len with h | h
   ·exact h
   ·rw[List.getElem?_eq_none (by simpa using h)]at ht;cases ht
  have:t=g i:=by simpa [hi] using ht.symm
  subst this;obtain ⟨hc,hin⟩:=hg i hi;refine ⟨fun j v hj=>?_,hin⟩;obtain ⟨_,_,h5⟩:=World.cells?_some hc;have hj5:j < 5:=by
   have:=(List.getElem?_eq_some_iff.1 hj).1;simpa [LTerm.cells] using this
  have:=h5 j hj5;rw[Go.Deep.add_add,hj]at this;simpa using this
end
mutual
theorem LtIn.mono {w w':World}(h:∀ ad v,w.cell? ad=some v→w'.cell? ad=some v):∀ t:LTerm,LtIn w t→LtIn w' t
 | .mk _ _ _ _ _ _ kids,⟨h1,h2,h3⟩=>⟨h1,h2,LsIn.mono h kids h3⟩
theorem LsIn.mono {w w':World}(h:∀ ad v,w.cell? ad=some v→w'.cell? ad=some v):∀ {p:Option Addr} {i:Nat} (ts:List LTerm),LsIn w p i ts→LsIn w' p i ts
 | _,_,[],_=>trivial
 | _,_,t::ts,⟨⟨ad,hp,hc⟩,h2,h3⟩=>⟨⟨ad,hp,fun j v hj=>h _ _ (hc j v hj)⟩,LtIn.mono h t h2,LsIn.mono h ts h3⟩
end
theorem cell_agree {w w':World}(h:Agree (fun _=>False) w w'){ad:Addr}{v:Value}(hc:w.cell? ad=some v):w'.cell? ad=some v:=by
 have hlt:ad.block < w.heap.size:=by
  rcases Nat.lt_or_ge ad.block w.heap.size with h' | h'
  exact h';unfold World.cell? at hc;rw[Array.getElem?_eq_none h']at hc;cases hc
 rw[World.cell?_of_block (w:=w) (h.below.block _ hlt)];exact hc
end Go.Wk
namespace Go.Proofs.YtlgnhhebeandkaaGreatDoor
open Go Go.Wk
section
set_option maxRecDepth 100000
instance:Und Tryz.prog 3 (.int .i64):=⟨Tryz.underlying3⟩
instance:TI Tryz.prog 3 (.int .i64 0) 1 8:=ti_of (by kernel_rfl)
instance:Und Tryz.prog 4 (.bool):=⟨Tryz.underlying4⟩
instance:TI Tryz.prog 4 (.bool false) 1 1:=ti_of (by kernel_rfl)
instance:Und Tryz.prog 5 (.int .u8):=⟨Tryz.underlying5⟩
instance:TI Tryz.prog 5 (.int .u8 0) 1 1:=ti_of (by kernel_rfl)
instance:Und Tryz.prog 9 (.string):=⟨Tryz.underlying9⟩
instance:TI Tryz.prog 9 (.string ⟨#[]⟩) 1 16:=ti_of (by kernel_rfl)
instance:AggT Tryz.prog 23 true:=aggT_of (by kernel_rfl)
instance:Fld Tryz.prog 23 0 0 3:=fld_of (by kernel_rfl)
instance:TI Tryz.prog 23 (.agg #[.int .i64 0]) 1 8:=ti_of (by kernel_rfl)
instance:Und Tryz.prog 24 (.slice 47):=⟨Tryz.underlying24⟩
instance:TI Tryz.prog 24 (.slice none 0 0) 1 24:=ti_of (by kernel_rfl)
instance:AggT Tryz.prog 26 true:=aggT_of (by kernel_rfl)
instance:Fld Tryz.prog 26 0 0 23:=fld_of (by kernel_rfl)
instance:Fld Tryz.prog 26 1 1 24:=fld_of (by kernel_rfl)
instance:PlOf Tryz.prog 26 [(0,1),(1,1)]:=plof_of (by kernel_rfl)
instance:TI Tryz.prog 26 (.agg #[.int .i64 0,.slice none 0 0]) 2 32:=ti_of (by kernel_rfl)
instance:Und Tryz.prog 30 (.int .i64):=⟨Tryz.underlying30⟩
instance:TI Tryz.prog 30 (.int .i64 0) 1 8:=ti_of (by kernel_rfl)
instance:Und Tryz.prog 40 (.slice 42):=⟨Tryz.underlying40⟩
instance:TI Tryz.prog 40 (.slice none 0 0) 1 24:=ti_of (by kernel_rfl)
instance:AggT Tryz.prog 42 true:=aggT_of (by kernel_rfl)
instance:Fld Tryz.prog 42 0 0 3:=fld_of (by kernel_rfl)
instance:Fld Tryz.prog 42 1 1 3:=fld_of (by kernel_rfl)
instance:Fld Tryz.prog 42 2 2 3:=fld_of (by kernel_rfl)
instance:Fld Tryz.prog 42 3 3 9:=fld_of (by kernel_rfl)
instance:Fld Tryz.prog 42 4 4 40:=fld_of (by kernel_rfl)
instance:PlOf Tryz.prog 42 [(0,1),(1,1),(2,1),(3,1),(4,1)]:=plof_of (by kernel_rfl)
instance:TI Tryz.prog 42 (.agg #[.int .i64 0,.int .i64 0,.int .i64 0,.string ⟨#[]⟩,.slice none 0 0]) 5 64:=ti_of (by kernel_rfl)
instance:AggT Tryz.prog 44 true:=aggT_of (by kernel_rfl)
instance:Fld Tryz.prog 44 0 0 3:=fld_of (by kernel_rfl)
instance:Fld Tryz.prog 44 1 1 3:=fld_of (by kernel_rfl)
instance:Fld Tryz.prog 44 2 2 9:=fld_of (by kernel_rfl)
instance:Fld Tryz.prog 44 3 3 3:=fld_of (by kernel_rfl)
instance:Fld Tryz.prog 44 4 4 3:=fld_of (by kernel_rfl)
instance:Fld Tryz.prog 44 5 5 4:=fld_of (by kernel_rfl)
instance:Fld Tryz.prog 44 6 6 42:=fld_of (by kernel_rfl)
instance:TI Tryz.prog 44 (.agg #[.int .i64 0,.int .i64 0,.string ⟨#[]⟩,.int .i64 0,.int .i64 0,.bool false,.int .i64 0,.int .i64 0,.int .i64 0,.string ⟨#[]⟩,.slice none 0 0]) 11 120:=ti_of (by kernel_rfl)
instance:Und Tryz.prog 45 (.slice 4):=⟨Tryz.underlying45⟩
instance:TI Tryz.prog 45 (.slice none 0 0) 1 24:=ti_of (by kernel_rfl)
instance:AggT Tryz.prog 47 true:=aggT_of (by kernel_rfl)
instance:Fld Tryz.prog 47 0 0 3:=fld_of (by kernel_rfl)
instance:Fld Tryz.prog 47 1 1 44:=fld_of (by kernel_rfl)
instance:Fld Tryz.prog 47 2 12 9:=fld_of (by kernel_rfl)
instance:Fld Tryz.prog 47 3 13 9:=fld_of (by kernel_rfl)
instance:Fld Tryz.prog 47 4 14 42:=fld_of (by kernel_rfl)
instance:Fld Tryz.prog 47 5 19 3:=fld_of (by kernel_rfl)
instance:Fld Tryz.prog 47 6 20 3:=fld_of (by kernel_rfl)
instance:Fld Tryz.prog 47 7 21 3:=fld_of (by kernel_rfl)
instance:Fld Tryz.prog 47 8 22 45:=fld_of (by kernel_rfl)
instance:PlOf Tryz.prog 47 [(0,1),(1,11),(12,1),(13,1),(14,5),(19,1),(20,1),(21,1),(22,1)]:=plof_of (by kernel_rfl)
instance:TI Tryz.prog 47 (.agg ⟨.int .i64 0::.int .i64 0::.int .i64 0::.string ⟨#[]⟩::.int .i64 0::.int .i64 0::.bool false::.int .i64 0::.int .i64 0::.int .i64 0::.string ⟨#[]⟩::.slice none 0 0::.string ⟨#[]⟩::.string ⟨#[]⟩::.int .i64 0::.int .i64 0::.int .i64 0::.string ⟨#[]⟩::.slice none 0 0::.int .i64 0::.int .i64 0::.int .i64 0::.slice none 0 0::[]⟩) 23 272:=ti_of (by kernel_rfl)
instance:Und Tryz.prog 61 (.slice 5):=⟨Tryz.underlying61⟩
instance:TI Tryz.prog 61 (.slice none 0 0) 1 24:=ti_of (by kernel_rfl)
instance:Und Tryz.prog 70 (.slice 3):=⟨Tryz.underlying70⟩
instance:Und Tryz.prog 102 (.pointer 104):=⟨Tryz.underlying102⟩
instance:TI Tryz.prog 102 (.pointer none) 1 8:=ti_of (by kernel_rfl)
instance:Fld Tryz.prog 104 0 0 102:=fld_of (by kernel_rfl)
instance:Fld Tryz.prog 104 1 1 61:=fld_of (by kernel_rfl)
instance:Fld Tryz.prog 106 0 0 104:=fld_of (by kernel_rfl)
instance:TI Tryz.prog 106 (.agg #[.pointer none,.slice none 0 0]) 2 32:=ti_of (by kernel_rfl)
instance:Und Tryz.prog 129 (.int .u16):=⟨Tryz.underlying129⟩
instance:Und Tryz.prog 133 (.int .u64):=⟨Tryz.underlying133⟩
instance:TI Tryz.prog 133 (.int .u64 0) 1 8:=ti_of (by kernel_rfl)
instance:Und Tryz.prog 134 (.pointer 193):=⟨Tryz.underlying134⟩
instance:Und Tryz.prog 164 (.slice 9):=⟨Tryz.underlying164⟩
instance:Und Tryz.prog 166 (.slice 169):=⟨Tryz.underlying166⟩
instance:Und Tryz.prog 169 (.pointer 3):=⟨Tryz.underlying169⟩
instance:TI Tryz.prog 169 (.pointer none) 1 8:=ti_of (by kernel_rfl)
instance:Und Tryz.prog 171 (.pointer 5):=⟨Tryz.underlying171⟩
instance:Fld Tryz.prog 174 0 0 9:=fld_of (by kernel_rfl)
instance:Fld Tryz.prog 174 1 1 4:=fld_of (by kernel_rfl)
instance:PlOf Tryz.prog 174 [(0,1),(1,1)]:=plof_of (by kernel_rfl)
instance:TI Tryz.prog 174 (.agg #[.string ⟨#[]⟩,.bool false]) 2 24:=ti_of (by kernel_rfl)
instance:Fld Tryz.prog 191 0 0 61:=fld_of (by kernel_rfl)
instance:Fld Tryz.prog 191 1 1 30:=fld_of (by kernel_rfl)
instance:PlOf Tryz.prog 191 [(0,1),(1,1)]:=plof_of (by kernel_rfl)
instance:TI Tryz.prog 191 (.agg #[.slice none 0 0,.int .i64 0]) 2 32:=ti_of (by kernel_rfl)
instance:Fld Tryz.prog 193 0 0 191:=fld_of (by kernel_rfl)
instance:PlOf Tryz.prog 193 [(0,2)]:=plof_of (by kernel_rfl)
instance:TI Tryz.prog 193 (.agg #[.slice none 0 0,.int .i64 0]) 2 32:=ti_of (by kernel_rfl)
instance:Fld Tryz.prog 286 0 0 134:=fld_of (by kernel_rfl)
instance:Fld Tryz.prog 286 1 1 3:=fld_of (by kernel_rfl)
instance:PlOf Tryz.prog 286 [(0,1),(1,1)]:=plof_of (by kernel_rfl)
instance:TI Tryz.prog 286 (.agg #[.pointer none,.int .i64 0]) 2 16:=ti_of (by kernel_rfl)
instance:Fld Tryz.prog 288 0 0 30:=fld_of (by kernel_rfl)
instance:PlOf Tryz.prog 288 [(0,1)]:=plof_of (by kernel_rfl)
instance:TI Tryz.prog 288 (.agg #[.int .i64 0]) 1 8:=ti_of (by kernel_rfl)
instance:FnRes Tryz.f3 [ResultVar.tmp 4]:=⟨rfl⟩
instance:FnRes Tryz.f11 [ResultVar.tmp 0]:=⟨rfl⟩
instance:FnRes Tryz.f12 [ResultVar.cell 2 26]:=⟨rfl⟩
instance:FnRes Tryz.f13 [ResultVar.tmp 4]:=⟨rfl⟩
instance:FnRes Tryz.f14 [ResultVar.tmp 4]:=⟨rfl⟩
instance:FnRes Tryz.f15 [ResultVar.tmp 2,ResultVar.tmp 3]:=⟨rfl⟩
instance:FnRes Tryz.f16 [ResultVar.cell 2 26,ResultVar.tmp 3,ResultVar.tmp 4]:=⟨rfl⟩
instance:FnRes Tryz.f17 [ResultVar.tmp 2]:=⟨rfl⟩
instance:FnRes Tryz.f19 [ResultVar.tmp 4,ResultVar.tmp 5,ResultVar.tmp 6]:=⟨rfl⟩
instance:FnRes Tryz.f20 [ResultVar.cell 4 42]:=⟨rfl⟩
instance:FnRes Tryz.f39 [ResultVar.tmp 4]:=⟨rfl⟩
instance:FnRes Tryz.f44 [ResultVar.tmp 4]:=⟨rfl⟩
instance:FnRes Tryz.f47 [ResultVar.tmp 4]:=⟨rfl⟩
instance:FnRes Tryz.f48 [ResultVar.cell 2 47]:=⟨rfl⟩
instance:FnRes Tryz.f49 [ResultVar.tmp 6]:=⟨rfl⟩
instance:FnRes Tryz.f50 [ResultVar.tmp 4]:=⟨rfl⟩
instance:FnRes Tryz.f51 [ResultVar.tmp 4]:=⟨rfl⟩
instance:FnRes Tryz.f52 [ResultVar.tmp 4,ResultVar.tmp 5]:=⟨rfl⟩
instance:FnRes Tryz.f53 []:=⟨rfl⟩
instance:FnRes Tryz.f54 [ResultVar.tmp 4]:=⟨rfl⟩
instance:FnRes Tryz.f55 []:=⟨rfl⟩
instance:FnRes Tryz.f56 [ResultVar.tmp 2]:=⟨rfl⟩
instance:FnRes Tryz.f57 [ResultVar.tmp 2]:=⟨rfl⟩
instance:FnRes Tryz.f58 [ResultVar.tmp 6]:=⟨rfl⟩
instance:FnRes Tryz.f59 [ResultVar.tmp 4]:=⟨rfl⟩
instance:FnRes Tryz.f60 [ResultVar.tmp 2]:=⟨rfl⟩
instance:FnRes Tryz.f62 [ResultVar.tmp 4,ResultVar.tmp 5,ResultVar.tmp 6]:=⟨rfl⟩
instance:FnRes Tryz.f63 [ResultVar.tmp 4]:=⟨rfl⟩
instance:FnRes Tryz.f64 []:=⟨rfl⟩
instance:FnRes Tryz.f69 [ResultVar.tmp 4]:=⟨rfl⟩
instance:FnRes Tryz.f73 [ResultVar.tmp 2]:=⟨rfl⟩
instance:FnRes Tryz.f74 [ResultVar.tmp 2]:=⟨rfl⟩
instance:FnRes Tryz.f75 [ResultVar.tmp 2]:=⟨rfl⟩
instance:FnRes Tryz.f88 [ResultVar.tmp 2]:=⟨rfl⟩
instance:FnRes Tryz.f90 [ResultVar.tmp 6]:=⟨rfl⟩
instance:FnRes Tryz.f92 [ResultVar.tmp 2]:=⟨rfl⟩
instance:FnRes Tryz.f93 [ResultVar.tmp 4]:=⟨rfl⟩
instance:FnRes Tryz.f94 [ResultVar.tmp 4]:=⟨rfl⟩
instance:FnRes Tryz.f95 []:=⟨rfl⟩
instance:FnRes Tryz.f97 [ResultVar.tmp 0]:=⟨rfl⟩
instance:FnRes Tryz.f98 [ResultVar.tmp 2]:=⟨rfl⟩
instance:FnRes Tryz.f99 []:=⟨rfl⟩
instance:FnRes Tryz.f100 [ResultVar.tmp 2]:=⟨rfl⟩
instance:FnRes Tryz.f101 []:=⟨rfl⟩
instance:FnRes Tryz.f102 [ResultVar.cell 4 47]:=⟨rfl⟩
instance:FnRes Tryz.f103 [ResultVar.tmp 4]:=⟨rfl⟩
instance:FnRes Tryz.f104 [ResultVar.tmp 2]:=⟨rfl⟩
instance:FnRes Tryz.f105 [ResultVar.tmp 2]:=⟨rfl⟩
instance:FnRes Tryz.f106 [ResultVar.cell 2 47]:=⟨rfl⟩
instance:FnRes Tryz.f108 [ResultVar.tmp 2,ResultVar.tmp 3]:=⟨rfl⟩
instance:FnRes Tryz.f109 []:=⟨rfl⟩
instance:FnRes Tryz.f116 [ResultVar.tmp 6]:=⟨rfl⟩
instance:FnRes Tryz.f119 [ResultVar.cell 4 133]:=⟨rfl⟩
instance:FnRes Tryz.f135 [ResultVar.tmp 2]:=⟨rfl⟩
instance:FnRes Tryz.f145 [ResultVar.tmp 2]:=⟨rfl⟩
instance:FnRes Tryz.f146 [ResultVar.tmp 4]:=⟨rfl⟩
instance:FnRes Tryz.f147 [ResultVar.tmp 2]:=⟨rfl⟩
instance:FnRes Tryz.f148 [ResultVar.cell 2 42]:=⟨rfl⟩
instance:FnRes Tryz.f149 [ResultVar.tmp 4,ResultVar.tmp 5]:=⟨rfl⟩
instance:FnRes Tryz.f154 [ResultVar.tmp 4]:=⟨rfl⟩
instance:FnRes Tryz.f160 []:=⟨rfl⟩
instance:FnRes Tryz.f161 []:=⟨rfl⟩
instance:FnRes Tryz.f196 [ResultVar.tmp 4]:=⟨rfl⟩
instance:FnRes Tryz.f197 [ResultVar.cell 2 42,ResultVar.cell 3 3,ResultVar.cell 4 30]:=⟨rfl⟩
instance:FnRes Tryz.f198 [ResultVar.tmp 4,ResultVar.tmp 5]:=⟨rfl⟩
instance:FnRes Tryz.f225 []:=⟨rfl⟩
instance:FnRes Tryz.f226 [ResultVar.cell 4 42]:=⟨rfl⟩
instance:FnRes Tryz.f227 [ResultVar.tmp 2]:=⟨rfl⟩
instance:FnRes Tryz.f228 [ResultVar.tmp 4]:=⟨rfl⟩
instance:FnRes Tryz.f241 []:=⟨rfl⟩
instance:FnRes Tryz.f242 [ResultVar.cell 4 61]:=⟨rfl⟩
instance:FnRes Tryz.f247 [ResultVar.tmp 2]:=⟨rfl⟩
instance:FnRes Tryz.f248 []:=⟨rfl⟩
instance:EntF Tryz.prog 11:=⟨enters_of Tryz.func11 (by kernel_rfl) rfl⟩
instance:EntF Tryz.prog 12:=⟨enters_of Tryz.func12 (by kernel_rfl) rfl⟩
instance:EntF Tryz.prog 13:=⟨enters_of Tryz.func13 (by kernel_rfl) rfl⟩
instance:EntF Tryz.prog 14:=⟨enters_of Tryz.func14 (by kernel_rfl) rfl⟩
instance:EntF Tryz.prog 15:=⟨enters_of Tryz.func15 (by kernel_rfl) rfl⟩
instance:EntF Tryz.prog 16:=⟨enters_of Tryz.func16 (by kernel_rfl) rfl⟩
instance:EntF Tryz.prog 17:=⟨enters_of Tryz.func17 (by kernel_rfl) rfl⟩
instance:EntF Tryz.prog 19:=⟨enters_of Tryz.func19 (by kernel_rfl) rfl⟩
instance:EntF Tryz.prog 20:=⟨enters_of Tryz.func20 (by kernel_rfl) rfl⟩
instance:EntF Tryz.prog 39:=⟨enters_of Tryz.func39 (by kernel_rfl) rfl⟩
instance:EntF Tryz.prog 44:=⟨enters_of Tryz.func44 (by kernel_rfl) rfl⟩
instance:EntF Tryz.prog 47:=⟨enters_of Tryz.func47 (by kernel_rfl) rfl⟩
instance:EntF Tryz.prog 48:=⟨enters_of Tryz.func48 (by kernel_rfl) rfl⟩
instance:EntF Tryz.prog 49:=⟨enters_of Tryz.func49 (by kernel_rfl) rfl⟩
instance:EntF Tryz.prog 50:=⟨enters_of Tryz.func50 (by kernel_rfl) rfl⟩
instance:EntF Tryz.prog 51:=⟨enters_of Tryz.func51 (by kernel_rfl) rfl⟩
instance:EntF Tryz.prog 52:=⟨enters_of Tryz.func52 (by kernel_rfl) rfl⟩
instance:EntF Tryz.prog 53:=⟨enters_of Tryz.func53 (by kernel_rfl) rfl⟩
instance:EntF Tryz.prog 54:=⟨enters_of Tryz.func54 (by kernel_rfl) rfl⟩
instance:EntF Tryz.prog 55:=⟨enters_of Tryz.func55 (by kernel_rfl) rfl⟩
instance:EntF Tryz.prog 56:=⟨enters_of Tryz.func56 (by kernel_rfl) rfl⟩
instance:EntF Tryz.prog 57:=⟨enters_of Tryz.func57 (by kernel_rfl) rfl⟩
instance:EntF Tryz.prog 58:=⟨enters_of Tryz.func58 (by kernel_rfl) rfl⟩
instance:EntF Tryz.prog 59:=⟨enters_of Tryz.func59 (by kernel_rfl) rfl⟩
instance:EntF Tryz.prog 60:=⟨enters_of Tryz.func60 (by kernel_rfl) rfl⟩
instance:EntF Tryz.prog 62:=⟨enters_of Tryz.func62 (by kernel_rfl) rfl⟩
instance:EntF Tryz.prog 63:=⟨enters_of Tryz.func63 (by kernel_rfl) rfl⟩
instance:EntF Tryz.prog 64:=⟨enters_of Tryz.func64 (by kernel_rfl) rfl⟩
instance:EntF Tryz.prog 69:=⟨enters_of Tryz.func69 (by kernel_rfl) rfl⟩
instance:EntF Tryz.prog 73:=⟨enters_of Tryz.func73 (by kernel_rfl) rfl⟩
instance:EntF Tryz.prog 74:=⟨enters_of Tryz.func74 (by kernel_rfl) rfl⟩
instance:EntF Tryz.prog 75:=⟨enters_of Tryz.func75 (by kernel_rfl) rfl⟩
instance:EntF Tryz.prog 88:=⟨enters_of Tryz.func88 (by kernel_rfl) rfl⟩
instance:EntF Tryz.prog 90:=⟨enters_of Tryz.func90 (by kernel_rfl) rfl⟩
instance:EntF Tryz.prog 92:=⟨enters_of Tryz.func92 (by kernel_rfl) rfl⟩
instance:EntF Tryz.prog 93:=⟨enters_of Tryz.func93 (by kernel_rfl) rfl⟩
instance:EntF Tryz.prog 94:=⟨enters_of Tryz.func94 (by kernel_rfl) rfl⟩
instance:EntF Tryz.prog 95:=⟨enters_of Tryz.func95 (by kernel_rfl) rfl⟩
instance:EntF Tryz.prog 96:=⟨enters_of Tryz.func96 (by kernel_rfl) rfl⟩
instance:EntF Tryz.prog 97:=⟨enters_of Tryz.func97 (by kernel_rfl) rfl⟩
instance:EntF Tryz.prog 98:=⟨enters_of Tryz.func98 (by kernel_rfl) rfl⟩
instance:EntF Tryz.prog 99:=⟨enters_of Tryz.func99 (by kernel_rfl) rfl⟩
instance:EntF Tryz.prog 100:=⟨enters_of Tryz.func100 (by kernel_rfl) rfl⟩
instance:EntF Tryz.prog 101:=⟨enters_of Tryz.func101 (by kernel_rfl) rfl⟩
instance:EntF Tryz.prog 102:=⟨enters_of Tryz.func102 (by kernel_rfl) rfl⟩
instance:EntF Tryz.prog 103:=⟨enters_of Tryz.func103 (by kernel_rfl) rfl⟩
instance:EntF Tryz.prog 104:=⟨enters_of Tryz.func104 (by kernel_rfl) rfl⟩
instance:EntF Tryz.prog 105:=⟨enters_of Tryz.func105 (by kernel_rfl) rfl⟩
instance:EntF Tryz.prog 106:=⟨enters_of Tryz.func106 (by kernel_rfl) rfl⟩
instance:EntF Tryz.prog 107:=⟨enters_of Tryz.func107 (by kernel_rfl) rfl⟩
instance:EntF Tryz.prog 108:=⟨enters_of Tryz.func108 (by kernel_rfl) rfl⟩
instance:EntF Tryz.prog 109:=⟨enters_of Tryz.func109 (by kernel_rfl) rfl⟩
instance:EntF Tryz.prog 116:=⟨enters_of Tryz.func116 (by kernel_rfl) rfl⟩
instance:EntF Tryz.prog 119:=⟨enters_of Tryz.func119 (by kernel_rfl) rfl⟩
instance:EntF Tryz.prog 135:=⟨enters_of Tryz.func135 (by kernel_rfl) rfl⟩
instance:EntF Tryz.prog 136:=⟨enters_of Tryz.func136 (by kernel_rfl) rfl⟩
instance:EntF Tryz.prog 145:=⟨enters_of Tryz.func145 (by kernel_rfl) rfl⟩
instance:EntF Tryz.prog 146:=⟨enters_of Tryz.func146 (by kernel_rfl) rfl⟩
instance:EntF Tryz.prog 147:=⟨enters_of Tryz.func147 (by kernel_rfl) rfl⟩
instance:EntF Tryz.prog 148:=⟨enters_of Tryz.func148 (by kernel_rfl) rfl⟩
instance:EntF Tryz.prog 149:=⟨enters_of Tryz.func149 (by kernel_rfl) rfl⟩
instance:EntF Tryz.prog 154:=⟨enters_of Tryz.func154 (by kernel_rfl) rfl⟩
instance:EntF Tryz.prog 160:=⟨enters_of Tryz.func160 (by kernel_rfl) rfl⟩
instance:EntF Tryz.prog 161:=⟨enters_of Tryz.func161 (by kernel_rfl) rfl⟩
instance:EntF Tryz.prog 180:=⟨enters_of Tryz.func180 (by kernel_rfl) rfl⟩
instance:EntF Tryz.prog 196:=⟨enters_of Tryz.func196 (by kernel_rfl) rfl⟩
instance:EntF Tryz.prog 197:=⟨enters_of Tryz.func197 (by kernel_rfl) rfl⟩
instance:EntF Tryz.prog 198:=⟨enters_of Tryz.func198 (by kernel_rfl) rfl⟩
instance:EntF Tryz.prog 201:=⟨enters_of Tryz.func201 (by kernel_rfl) rfl⟩
instance:EntF Tryz.prog 202:=⟨enters_of Tryz.func202 (by kernel_rfl) rfl⟩
instance:EntF Tryz.prog 210:=⟨enters_of Tryz.func210 (by kernel_rfl) rfl⟩
instance:EntF Tryz.prog 224:=⟨enters_of Tryz.func224 (by kernel_rfl) rfl⟩
instance:EntF Tryz.prog 225:=⟨enters_of Tryz.func225 (by kernel_rfl) rfl⟩
instance:EntF Tryz.prog 226:=⟨enters_of Tryz.func226 (by kernel_rfl) rfl⟩
instance:EntF Tryz.prog 227:=⟨enters_of Tryz.func227 (by kernel_rfl) rfl⟩
instance:EntF Tryz.prog 228:=⟨enters_of Tryz.func228 (by kernel_rfl) rfl⟩
instance:EntF Tryz.prog 231:=⟨enters_of Tryz.func231 (by kernel_rfl) rfl⟩
instance:EntF Tryz.prog 232:=⟨enters_of Tryz.func232 (by kernel_rfl) rfl⟩
instance:EntF Tryz.prog 241:=⟨enters_of Tryz.func241 (by kernel_rfl) rfl⟩
instance:EntF Tryz.prog 242:=⟨enters_of Tryz.func242 (by kernel_rfl) rfl⟩
instance:EntF Tryz.prog 247:=⟨enters_of Tryz.func247 (by kernel_rfl) rfl⟩
instance:EntF Tryz.prog 248:=⟨enters_of Tryz.func248 (by kernel_rfl) rfl⟩
end
set_option synthInstance.maxSize 100000
set_option synthInstance.maxHeartbeats 400000
theorem drop_rep (n m:Nat)(z:Value):((List.replicate (n+m) [z]).flatten).drop (n*1)=List.replicate m z:=by
 have h:∀ k,(List.replicate k [z]).flatten=List.replicate k z:=fun k=>by
  induction k with
  | zero=>rfl
  | succ k ih=>rw[qqC,List.flatten_cons,ih];rfl
 rw[h,List.drop_replicate]
 congr 1;omega
theorem enc_set1 (l1 l2:List UInt8)(y y':UInt8):(encL (l1++y::l2)).take l1.length++[.int .u8 (y'.toNat:Int)]++(encL (l1++y::l2)).drop (l1.length+1)=encL (l1++y'::l2):=by
 have h1:(encL l1).length=l1.length:=by rw[encL_len];exact Nat.mul_one _
 have e:encL (l1++y::l2)=encL l1++(.int .u8 (y.toNat:Int)::encL l2):=by rw[encL_append,encL_cons];rfl
 rw[e,←h1,List.take_left,List.drop_append,List.drop_of_length_le (by omega),encL_append,encL_cons];simp[Enc.cells]
theorem lay16_c (p:Option Addr)(n c:Nat)(b:List UInt8)(v:Int)(w0:World)(hn:b.length=n)(hb:n≤1073741824)(hv:0≤v)(hv':v≤65535)(hs:Fx w0 (SlF p (encL b))) :
  Ret Tryz.prog 116 [.slice p n c,.int .u16 v,.int .i64 2] w0 (fun _=>False) fun r w'=>∃ g,r=.slice (some ⟨g,0,none⟩) (n+2) (n+2)∧w0.heap.size≤g∧w'.ownsRow 0 5 1 (.slice (some ⟨g,0,none⟩) (n+2) (n+2)) (n+2) (encL (b++be 2 v)):=by
 have hln:LenN b n:=⟨hn⟩;refine E1 Tryz.func116 rfl Tryz.ntmps116 (Wd.begin (fs:=[SlF p (encL b)]) (by simpa using hs)) ?_;intro a S;refine J11 ?_;intro a S;rw[w6 ((n:Int)+2)]at S;refine smk (n+2) S (by omega) (by omega) (by omega) (by simp only[maxLen];omega) ?_;intro g a w S;refine J7 ?_;intro a S;refine scp S (by omega) ?_;intro a w S;rw[drop_rep]at S;refine J10 ?_;intro a S;refine c_loop (ι:=Nat) (fun k a w=>k≤2∧∃ uu:Nat→Value,St w0 (fun _=>False) [] a w ((.slice p n c)::(.int .u16 v)::(.int .i64 2)::uu 3::uu 4::uu 5::uu 6::(.slice (some ⟨g,0,none⟩) (n+2) (n+2))::uu 8::uu 9::uu 10::uu 11::uu 12::uu 13::uu 14::uu 15::uu 16::(.int .i64 2)::(.int .i64 (k:Nat))::uu 19::uu 20::uu 21::uu 22::uu 23::uu 24::uu 25::uu 26::uu 27::uu 28::uu 29::uu 30::uu 31::uu 32::uu 33::uu 34::uu 35::uu 36::uu 37::[]) [row 5 1 (some ⟨g,0,none⟩) (n+2) (n+2) (encL (b++((be 2 v).take k++List.replicate (2 - k) 0)))] [SlF p (encL b)]) (fun k=>2 - k) 0 ?_ ?_;rw[show encL b++List.replicate 2 (Value.int .u8 0)=encL (b++((be 2 v).take 0++List.replicate (2 - 0) 0)) from by rw[encL_append];rfl]at S;exact ⟨Nat.zero_le _,S.uu,S⟩;clear S;rintro k a w ⟨hk,uu,S⟩;refine J6 ?_;intro a S;refine kC S (fun h4=>?_) (fun h4=>?_);refine J15 ?_;intro a S;have hk2:k < 2:=by simp at h4;omega
 refine J1 ?_;intro a S;rw[w6 ((n:Int)+(k:Int)),show (n:Int)+(k:Int)=((n+k:Nat):Int) from by omega]at S;refine J2 ?_;intro a S;rw[wu64 v (by omega) (by omega)]at S;refine J2 ?_;intro a S;rw[show IntKind.i64.wrap (2 - 1)=1 from rfl]at S;refine J2 ?_;intro a S;rw[w6 (1 - (k:Int))]at S;refine J1 ?_;intro a S;rw[w64 (8*(1 - (k:Int))) (by omega) (by omega),show 8*(1 - (k:Int))=((8*(2 - 1 - k):Nat):Int) from by omega]at S;refine J1 ?_;intro a S;rw[show min (8*(2 - 1 - k)) IntKind.u64.bits=8*(2 - 1 - k) from Nat.min_eq_left (by simp only[IntKind.bits];omega)]at S;refine J1 ?_;intro a S;rw[u8_wrap]at S;have hK:KLt (n+k) (n+2):=⟨by omega⟩;refine J1 ?_;intro a S;refine sws S (n+2) (by omega) (by omega) ?_;intro a w S;refine J8 ?_;intro a S;rw[w6 ((k:Int)+1)]at S;have e:encL (b++((be 2 v).take (k+1)++List.replicate (2 - (k+1)) 0))=(encL (b++((be 2 v).take k++List.replicate (2 - k) 0))).take (n+k)++[.int .u8 ((Wk.u8 (v.fdiv (2 ^ (8*(2 - 1 - k))))).toNat:Int)]++(encL (b++((be 2 v).take k++List.replicate (2 - k) 0))).drop (n+k+1):=by
  have hk2:k=0∨k=1:=by omega
  rcases hk2 with rfl | rfl
  have:=enc_set1 b [0] 0 (Wk.u8 (v.fdiv (2 ^ (8*(2 - 1 - 0)))));rw[hn]at this;exact this.symm;have:=enc_set1 (b++[Wk.u8 (v.fdiv (2 ^ 8))]) [] 0 (Wk.u8 (v.fdiv (2 ^ (8*(2 - 1 - 1)))));rw[List.length_append,hn]at this;simp only[List.append_assoc]at this⊢;exact this.symm
 rw[List.length_singleton,←e]at S;exact ⟨k+1,⟨by omega,S.uu,S⟩,by omega⟩;refine J12 ?_;intro a S;have hk2:k=2:=by simp at h4;omega
 subst hk2;have hrow:=S.row (some ⟨g,0,none⟩) (n+2);have hnew:=S.rowNew (some ⟨g,0,none⟩) (n+2);refine end1 S (fun _=>⟨g,rfl,?_,?_⟩);exact (hnew _ rfl).elim (fun h=>h.elim) id;rw[List.take_of_length_le (by simp[be]),show List.replicate (2 - 2) (0:UInt8)=[] from rfl,List.append_nil]at hrow;exact hrow
theorem put16_c (p:Option Addr)(n c:Nat)(b:List UInt8)(v:Int)(w0:World)(hn:b.length=n)(hb:n≤1073741824)(hv:0≤v)(hv':v≤65535)(hs:Fx w0 (SlF p (encL b))) :
  Ret Tryz.prog 69 [.slice p n c,.int .u16 v] w0 (fun _=>False) fun r w'=>∃ g,r=.slice (some ⟨g,0,none⟩) (n+2) (n+2)∧w0.heap.size≤g∧w'.ownsRow 0 5 1 (.slice (some ⟨g,0,none⟩) (n+2) (n+2)) (n+2) (encL (b++be 2 v)):=by
 refine E1 Tryz.func69 rfl Tryz.ntmps69 (Wd.begin (fs:=[SlF p (encL b)]) (by simpa using hs)) ?_;intro a S;refine J9 ?_;intro a S;refine srn S (lay16_c p n c b v _ hn hb hv hv' ((S.fact (Φ:=SlF p (encL b)) (by simp)).less fun _ _ h=>h.elim)) ?_;rintro _ a w1 ⟨g,rfl,hg,hown⟩ - S;refine J4 ?_;intro a S;exact end1 S (fun _=>⟨g,rfl,hg,hown⟩)
def fieldsOf (k:Int):Int:=
 if k=1 then 1 else if k=2 then 6 else if k=3 then 2 else if k=4∨k=6 then 16 else if k=5 then 8 else if k=7 then 10 else if k=8 then 14 else 0
theorem fields_c (k:Int)(w:World):Ret Tryz.prog 201 [.int .i64 k] w (fun _=>False) fun v _=>v=.int .i64 (fieldsOf k):=by
 refine E1 Tryz.func201 rfl Tryz.ntmps201 (Wd.start w) ?_;intro a S;refine J18 ?_;clear S;intro a S;refine kC S (fun h2=>?_) (fun h2=>?_);refine J8 ?_;clear S;intro a S;refine fin1 S (fun _=>?_);simp at *;first | (exfalso;omega) | simp[*,fieldsOf]
 refine J6 ?_;clear S;intro a S;refine kC S (fun h4=>?_) (fun h4=>?_);refine J8 ?_;clear S;intro a S;refine fin1 S (fun _=>?_);simp at *;first | (exfalso;omega) | simp[*,fieldsOf]
 refine J6 ?_;clear S;intro a S;refine kC S (fun h6=>?_) (fun h6=>?_);refine J8 ?_;clear S;intro a S;refine fin1 S (fun _=>?_);simp at *;first | (exfalso;omega) | simp[*,fieldsOf]
 refine J7 ?_;clear S;intro a S;refine kC S (fun h8=>?_) (fun h8=>?_);refine kK (xtn ?_);refine kC S (fun h8=>?_) (fun h8=>?_);refine J8 ?_;clear S;intro a S;refine fin1 S (fun _=>?_);simp at *;first | (exfalso;omega) | simp[*,fieldsOf]
 refine J6 ?_;clear S;intro a S;refine kC S (fun h11=>?_) (fun h11=>?_);refine J8 ?_;clear S;intro a S;refine fin1 S (fun _=>?_);simp at *;first | (exfalso;omega) | simp[*,fieldsOf]
 refine J6 ?_;clear S;intro a S;refine kC S (fun h13=>?_) (fun h13=>?_);refine J8 ?_;clear S;intro a S;refine fin1 S (fun _=>?_);simp at *;first | (exfalso;omega) | simp[*,fieldsOf]
 refine J6 ?_;clear S;intro a S;refine kC S (fun h15=>?_) (fun h15=>?_);refine J8 ?_;clear S;intro a S;refine fin1 S (fun _=>?_);simp at *;first | (exfalso;omega) | simp[*,fieldsOf]
 refine J9 ?_;clear S;intro a S;refine fin1 S (fun _=>?_);simp at *;first | (exfalso;omega) | simp[*,fieldsOf]
 refine J5 ?_;clear S;intro a S;refine kC S (fun h9=>?_) (fun h9=>?_);refine J8 ?_;clear S;intro a S;refine fin1 S (fun _=>?_);simp at *;first | (exfalso;omega) | simp[*,fieldsOf]
 refine J6 ?_;clear S;intro a S;refine kC S (fun h11=>?_) (fun h11=>?_);refine J8 ?_;clear S;intro a S;refine fin1 S (fun _=>?_);simp at *;first | (exfalso;omega) | simp[*,fieldsOf]
 refine J6 ?_;clear S;intro a S;refine kC S (fun h13=>?_) (fun h13=>?_);refine J8 ?_;clear S;intro a S;refine fin1 S (fun _=>?_);simp at *;first | (exfalso;omega) | simp[*,fieldsOf]
 refine J6 ?_;clear S;intro a S;refine kC S (fun h15=>?_) (fun h15=>?_);refine J8 ?_;clear S;intro a S;refine fin1 S (fun _=>?_);simp at *;first | (exfalso;omega) | simp[*,fieldsOf]
 refine J9 ?_;clear S;intro a S;refine fin1 S (fun _=>?_);simp at *;first | (exfalso;omega) | simp[*,fieldsOf]
instance {k:Int}{bs fs} : CallV Tryz.prog 201 [.int .i64 k] bs fs (.int .i64 (fieldsOf k)):=⟨fun w _=>fields_c k w⟩
def hasF (f g:Int):Bool:=!decide (iand .i64 f g=0)
theorem has_c (f g:Int)(w:World):Ret Tryz.prog 202 [.int .i64 f,.int .i64 g] w (fun _=>False) fun v _=>v=.bool (hasF f g):=by
 refine E1 Tryz.func202 rfl Tryz.ntmps202 (Wd.start w) ?_;intro a S;refine J15 ?_;intro a S;refine fin1 S (fun _=>?_);rfl
instance {f g:Int}{bs fs} : CallV Tryz.prog 202 [.int .i64 f,.int .i64 g] bs fs (.bool (hasF f g)):=⟨fun w _=>has_c f g w⟩
def kidsF (f:Int):Int:=if hasF f 16 then 2 else if hasF f 8 then 1 else 0
theorem kids_c (f:Int)(w:World):Ret Tryz.prog 231 [.int .i64 f] w (fun _=>False) fun v _=>v=.int .i64 (kidsF f):=by
 refine E1 Tryz.func231 rfl Tryz.ntmps231 (Wd.start w) ?_;intro a S;refine Y14 ?_;intro a w S;refine kC S (fun h1=>?_) (fun h1=>?_);refine J8 ?_;intro a S;refine fin1 S (fun _=>?_);simp[*,kidsF];refine Y7 ?_;intro a w S;refine kC S (fun h3=>?_) (fun h3=>?_);refine J8 ?_;intro a S;refine fin1 S (fun _=>?_);simp[*,kidsF];refine J9 ?_;intro a S;refine fin1 S (fun _=>?_);simp[*,kidsF]
instance {f:Int}{bs fs} : CallV Tryz.prog 231 [.int .i64 f] bs fs (.int .i64 (kidsF f)):=⟨fun w _=>kids_c f w⟩
def knownF (n:Int):Bool:=decide (1≤n)&&decide (n≤6)
theorem known_c (n:Int)(w:World):Ret Tryz.prog 232 [.int .i64 n] w (fun _=>False) fun v _=>v=.bool (knownF n):=by
 refine E1 Tryz.func232 rfl Tryz.ntmps232 (Wd.start w) ?_;intro a S;refine J17 ?_;intro a S;refine fin1 S (fun _=>?_);rfl
instance {n:Int}{bs fs} : CallV Tryz.prog 232 [.int .i64 n] bs fs (.bool (knownF n)):=⟨fun w _=>known_c n w⟩
def plainF (k u n:Int)(s:List UInt8)(m:Nat):Bool:=
 let f:=fieldsOf k
 !decide (f=0)&&decide ((m:Int)=kidsF f)&&decide ((s.length:Int)≤64)&&(hasF f 1||decide (s=[]))&&(hasF f 2&&knownF u||!hasF f 2&&decide (u=0))&&(hasF f 4&&decide (0≤n)&&decide (n≤65535)||!hasF f 4&&decide (n=0))
theorem plain_c (k u n:Int)(s:List UInt8)(p:Option Addr)(m c:Nat)(w:World):Ret Tryz.prog 210 [.agg #[.int .i64 k,.int .i64 u,.int .i64 n,str s,.slice p m c]] w (fun _=>False) fun v _=>v=.bool (plainF k u n s m):=by
 refine E1 Tryz.func210 rfl Tryz.ntmps210 (Wd.start w) ?_;intro a S;refine kS (kR ?_);refine sa S ?_;intro b1 a w S;refine Y12 ?_;intro a w S;refine c_drawD [T9 0,T9 1,T9 2,T9 3,T9 4,T9 5,T9 6,F9 7,T9 8,T9 9,T9 10,T9 11,T9 12,T9 13,T9 14,T9 15,T9 16,T9 17,F9 18,T9 19,T9 20,T9 21,T9 22,T9 23,T9 24,T9 25] [] S ?_;intro w S;(iterate 3 (refine dq S ?_;intro a S));(iterate 4 (refine dqG S ?_;intro a S));refine dl ?_;refine gC S ?_;intro a w S;refine de S ?_;refine dqG S ?_;intro a S;(iterate 2 (refine dq S ?_;intro a S));(iterate 4 (refine dqG S ?_;intro a S));(iterate 2 (refine dq S ?_;intro a S));refine dqG S ?_;intro a S;refine dl ?_;refine gC S ?_;intro a w S;refine de S ?_;(iterate 5 (refine dqG S ?_;intro a S));(iterate 2 (refine dq S ?_;intro a S));refine dn (xtn (kS (kR ?_)));(iterate 2 (refine sq S ?_;intro a S));refine gQ S ?_;intro a S;refine gC S ?_;intro a w S;(iterate 3 (refine gQ S ?_;intro a S));refine gC S ?_;intro a w S;refine Y20 ?_;intro a w S;refine Y20 ?_;intro a w S;refine J6 ?_;intro a S;refine fin1 S (fun _=>?_)
 first | rfl | simp[plainF]
instance {k u n:Int}{s:List UInt8}{p:Option Addr}{m c:Nat}{bs fs} : CallV Tryz.prog 210 [.agg #[.int .i64 k,.int .i64 u,.int .i64 n,str s,.slice p m c]] bs fs (.bool (plainF k u n s m)):=⟨fun w _=>plain_c k u n s p m c w⟩
mutual
def walkF:Term→Int→Int→Bool × Int
 | .mk k u n s kids,deep,left=>if left - 1 < 0∨60 < deep∨plainF k u n s kids.length=false then (false,left - 1) else walkLF kids (deep+1) (left - 1)
def walkLF:List Term→Int→Int→Bool × Int
 | [],_,left=>(true,left)
 | t::ts,deep,left=>if (walkF t deep left).1 then walkLF ts deep (walkF t deep left).2 else (false,(walkF t deep left).2)
end
mutual
theorem walkF_le:∀ (t:Term) (deep left:Int),(walkF t deep left).2≤left
 | .mk k u n s kids,deep,left=>by
  rw[walkF];split;simp;omega;have:=walkLF_le kids (deep+1) (left - 1);omega
theorem walkLF_le:∀ (ts:List Term) (deep left:Int),(walkLF ts deep left).2≤left
 | [],deep,left=>by simp[walkLF]
 | t::ts,deep,left=>by
  have h1:=walkF_le t deep left;have h2:=walkLF_le ts deep (walkF t deep left).2;rw[walkLF];split;omega;exact h1
end
mutual
theorem walkF_ge:∀ (t:Term) (deep left:Int),0≤left→(walkF t deep left).1=true→0≤(walkF t deep left).2
 | .mk k u n s kids,deep,left=>by
  intro h0 h;rw[walkF]at h⊢;split at h;simp at h
  rename_i hc
  rw[if_neg hc];exact walkLF_ge kids (deep+1) (left - 1) (by omega) h
theorem walkLF_ge:∀ (ts:List Term) (deep left:Int),0≤left→(walkLF ts deep left).1=true→0≤(walkLF ts deep left).2
 | [],deep,left=>by intro h0 _;simpa [walkLF] using h0
 | t::ts,deep,left=>by
  intro h0 h;rw[walkLF]at h⊢;split at h
  rename_i hc
  rw[if_pos hc];exact walkLF_ge ts deep _ (walkF_ge t deep left h0 hc) h;simp at h
end
theorem walk_c (N:Nat):∀ (t:LTerm) (deep left:Int) (b:Nat) (w0:World),SizeOf.sizeOf t≤N→0≤deep→deep≤61→0≤left→left≤1200→Stable (fun k=>k=b) w0 (LtF t)→w0.heap[b]? = some (.cells #[.int .i64 left] 3 (0,0))→
  Ret Tryz.prog 180 [vL t,.int .i64 deep,.pointer (some ⟨b,0,none⟩)] w0 (fun k=>k=b) fun v w'=>v=.bool (walkF t.t deep left).1∧w'.heap[b]? = some (.cells #[.int .i64 (walkF t.t deep left).2] 3 (0,0)):=by
 induction N with
 | zero=>intro t _ _ _ _ h;cases t;simp at h
 | succ N ih=>
 intro t deep left b w0 hN hd hd' hl hl' hf hb;have e0:=t.t_eq;refine E1 Tryz.func180 rfl Tryz.ntmps180 (Wd.lent (fs:=[LtF t]) hb (by simpa using hf)) ?_;intro a S;refine kS (kR ?_);refine sa S ?_;intro b3 a w S;refine J10 ?_;intro a S;rw[w6 (left - 1)]at S;refine Y21 ?_;intro a w S;refine kC S (fun h2=>?_) (fun h2=>?_)
 ·refine J7 ?_;intro a S
  have hbx:=S.box b;refine fin1 S (fun _=>?_);have h3:left - 1 < 0∨60 < deep∨plainF t.kind t.user t.num t.text t.kids.length=false:=by simpa [or_assoc] using h2
  rw[e0,walkF,if_pos (by simpa using h3)];exact ⟨rfl,hbx⟩
 ·refine J12 ?_;intro a S
  have h3:¬(left - 1 < 0∨60 < deep∨plainF t.kind t.user t.num t.text t.kids.length=false):=by simpa [and_assoc] using h2
  have hlen:=LTerm.len_le hf;refine c_loop (ι:=Nat) (fun k a w=>k≤t.kids.length∧∃ lf,0≤lf∧lf≤1200∧walkLF ((t.kids.drop k).map LTerm.t) (deep+1) lf=walkF t.t deep left∧∃ uu:Nat→Value,St w0 (fun k=>k=b) [] a w ((vL t)::(.int .i64 deep)::(.pointer (some ⟨b,0,none⟩))::(.pointer (some ⟨b3,0,none⟩))::uu 4::uu 5::(.bool false)::uu 7::uu 8::uu 9::uu 10::uu 11::uu 12::uu 13::uu 14::uu 15::uu 16::uu 17::uu 18::uu 19::uu 20::uu 21::uu 22::uu 23::uu 24::uu 25::uu 26::uu 27::(.slice t.p t.kids.length t.cap)::(.int .i64 t.kids.length)::(.int .i64 (k:Nat))::uu 31::uu 32::uu 33::uu 34::uu 35::uu 36::uu 37::uu 38::uu 39::uu 40::[]) [box b3 42 t.cells,box b 3 [.int .i64 lf]] [LtF t]) (fun k=>t.kids.length - k) 0 ?_ ?_
  ·refine ⟨Nat.zero_le _,left - 1,by omega,by omega,?_,S.uu,S⟩
   rw[e0,walkF,if_neg (by simpa using h3)];rfl
  ·clear S
   rintro k a w ⟨hk,lf,hlf,hlf',hrel,uu,S⟩;refine J6 ?_;intro a S;refine kC S (fun h5=>?_) (fun h5=>?_)
   ·refine kK (xtn (kS (kB (kS (kR ?_)))))
    have hkl:k < t.kids.length:=by simpa using h5
    obtain ⟨x,ad,hx,hm,hp,hcell,hfx⟩:=LTerm.kid (S.fact (Φ:=LtF t) (by simp)) hkl;replace S:=S.add hfx;refine si S ad hp (by omega) (by omega) ?_;intro a S;refine slA x.cells S hcell ?_;intro a S;refine sa S ?_;intro b8 a w S;refine Y8 ?_;intro a w S;rw[w6 (deep+1)]at S;refine J1 ?_;intro a S;have hdr:t.kids.drop k=x::t.kids.drop (k+1):=by
     rw[List.drop_eq_getElem_cons hkl];congr 1;exact (List.getElem?_eq_some_iff.1 hx).2
    rw[hdr,List.map_cons,walkLF]at hrel;have hb1:=walkF_le x.t (deep+1) lf;refine sb S (b:=b) (ih x (deep+1) lf b w (by have:=LTerm.kid_lt hm;omega) (by omega) (by have:¬60 < deep:=fun h=>h3 (.inr (.inl h));omega) hlf hlf' (S.fb b (by simp)) (S.box b)) ?_;clear S;rintro v a w ⟨rfl,hcb⟩ hS;have S:=hS [.int .i64 _] _ inferInstance hcb;clear hS;refine J3 ?_;intro a S;refine kC S (fun h7=>?_) (fun h7=>?_)
    ·refine J11 ?_;intro a S
     have hbx:=S.box b;refine fin1 S (fun _=>?_);have h8:(walkF x.t (deep+1) lf).1=false:=by simpa using h7
     rw[if_neg (by simp[h8])]at hrel;rw[←hrel];exact ⟨rfl,hbx⟩
    ·refine J8 ?_;intro a S
     have h8:(walkF x.t (deep+1) lf).1=true:=by simpa using h7
     rw[if_pos h8]at hrel;replace S:=S.sub [box b3 42 t.cells,box b 3 [.int .i64 (walkF x.t (deep+1) lf).2]] [LtF t];rw[w6 ((k:Int)+1)]at S;exact ⟨k+1,⟨hkl,_,walkF_ge x.t (deep+1) lf hlf h8,by omega,hrel,S.uu,S⟩,by omega⟩
   ·refine J11 ?_;intro a S
    have hbx:=S.box b;refine fin1 S (fun _=>?_);have h6:t.kids.length≤k:=by simpa using h5
    rw[List.drop_of_length_le h6,List.map_nil,walkLF]at hrel;rw[←hrel];exact ⟨rfl,hbx⟩
def sizeF (t:Term):Int:=if (walkF t 1 1200).1 then 1200 - (walkF t 1 1200).2 else 0
theorem size_c (t:LTerm)(w0:World)(hf:Fx w0 (LtF t)):Ret Tryz.prog 135 [vL t] w0 (fun _=>False) fun v _=>v=.int .i64 (sizeF t.t):=by
 have h1:=walkF_le t.t 1 1200;refine E1 Tryz.func135 rfl Tryz.ntmps135 (Wd.begin (fs:=[LtF t]) (by simpa using hf)) ?_;intro a S;refine kS (kR ?_);refine sa S ?_;intro b1 a w S;refine J5 ?_;intro a S;refine sa S ?_;intro b3 a w S;refine Y7 ?_;intro a w S;refine sb S (b:=b3) (walk_c _ t 1 1200 b3 w (Nat.le_refl _) (by omega) (by omega) (by omega) (by omega) (S.fb b3 (by simp)) (S.box b3)) ?_;clear S;rintro v a w ⟨rfl,hcb⟩ hS;have S:=hS [.int .i64 _] _ inferInstance hcb;clear hS;refine J3 ?_;intro a S;refine kC S (fun h2=>?_) (fun h2=>?_);refine J7 ?_;intro a S;refine end1 S (fun _=>?_);have h3:(walkF t.t 1 1200).1=false:=by simpa using h2
 simp[sizeF,h3];refine J5 ?_;intro a S;have h3:(walkF t.t 1 1200).1=true:=by simpa using h2
 have h4:=walkF_ge t.t 1 1200 (by omega) h3;refine J1 ?_;intro a S;rw[w6 (1200 - (walkF t.t 1 1200).2)]at S;refine J4 ?_;intro a S;refine end1 S (fun _=>?_);simp[sizeF,h3]
instance {t:LTerm}{bs fs}[HasT fs t]:CallV Tryz.prog 135 [vL t] bs fs (.int .i64 (sizeF t.t)):=⟨fun w m=>size_c t w (m.t0 _)⟩
def checkF (t:Term):Int:=if sizeF t=0 then 150 else 0
theorem check_c (t:LTerm)(w0:World)(hf:Fx w0 (LtF t)):Ret Tryz.prog 88 [vL t] w0 (fun _=>False) fun v _=>v=.int .i64 (checkF t.t):=by
 refine E1 Tryz.func88 rfl Tryz.ntmps88 (Wd.begin (fs:=[LtF t]) (by simpa using hf)) ?_;intro a S;refine kS (kR ?_);refine sa S ?_;intro b1 a w S;refine Y11 ?_;intro a w S;refine kC S (fun h1=>?_) (fun h1=>?_);refine J7 ?_;intro a S;refine end1 S (fun _=>?_);simp at h1;simp[checkF,h1];refine J8 ?_;intro a S;refine end1 S (fun _=>?_);simp at h1;simp[checkF,h1]
instance {t:LTerm}{bs fs}[HasT fs t]:CallV Tryz.prog 88 [vL t] bs fs (.int .i64 (checkF t.t)):=⟨fun w m=>check_c t w (m.t0 _)⟩
mutual
def sameF:Term→Term→Bool
 | .mk k u n s ks,.mk k' u' n' s' ks'=>decide (k=k')&&decide (u=u')&&decide (n=n')&&decide (s=s')&&sameLF ks ks'
def sameLF:List Term→List Term→Bool
 | [],[]=>true
 | a::l,b::m=>sameF a b&&sameLF l m
 | [],_::_=>false
 | _::_,[]=>false
end
mutual
theorem sameF_iff:∀ a b:Term,sameF a b=true↔a=b
 | .mk k u n s ks,.mk k' u' n' s' ks'=>by
  have:=sameLF_iff ks ks';simp[sameF,this,and_assoc]
theorem sameLF_iff:∀ a b:List Term,sameLF a b=true↔a=b
 | [],[]=>by simp[sameLF]
 | a::l,b::m=>by
  have h1:=sameF_iff a b;have h2:=sameLF_iff l m;simp[sameLF,h1,h2]
 | [],_::_=>by simp[sameLF]
 | _::_,[]=>by simp[sameLF]
end
theorem sameLF_len {a b:List Term}(h:a.length≠b.length):sameLF a b=false:=by
 cases hs:sameLF a b with
 | false=>rfl
 | true=>exact absurd (by rw[(sameLF_iff a b).1 hs]) h
def SameC (N:Nat):Prop:=∀ (x y:LTerm) (w:World),SizeOf.sizeOf x≤N→Fx w (LtF x)→Fx w (LtF y)→Ret Tryz.prog 44 [vL x,vL y] w (fun _=>False) fun v _=>v=.bool (sameF x.t y.t)
theorem equal_c (N:Nat)(hS:SameC N)(p q:Option Addr)(c e n m:Nat)(xs ys:List LTerm)(hn:xs.length=n)(hm:ys.length=m)(w0:World)(hl:n≤9223372036854775807)(hN:∀ x∈xs,SizeOf.sizeOf x≤N)(hx:Fx w0 (LsF p 0 xs))(hy:Fx w0 (LsF q 0 ys)) :
  Ret Tryz.prog 90 [.slice p n c,.slice q m e,.func (.func 44) #[] #[]] w0 (fun _=>False) fun v _=>v=.bool (sameLF (xs.map LTerm.t) (ys.map LTerm.t)):=by
 refine E1 Tryz.func90 rfl Tryz.ntmps90 (Wd.begin (fs:=[LsF p 0 xs,LsF q 0 ys]) (by simp;exact ⟨hx,hy⟩)) ?_;intro a S;refine J15 ?_;intro a S;refine kC S (fun h1=>?_) (fun h1=>?_);refine J7 ?_;intro a S;refine end1 S (fun _=>?_);rw[sameLF_len];simp[hn,hm];simp at h1;omega;refine J11 ?_;intro a S;obtain rfl:n=m:=by simp at h1;omega
 refine c_loop (ι:=Nat) (fun k a w=>k≤n∧sameLF ((xs.drop k).map LTerm.t) ((ys.drop k).map LTerm.t)=sameLF (xs.map LTerm.t) (ys.map LTerm.t)∧∃ uu:Nat→Value,St w0 (fun _=>False) [] a w ((.slice p n c)::(.slice q n e)::(.func (.func 44) #[] #[])::uu 3::uu 4::uu 5::(.bool false)::uu 7::uu 8::uu 9::uu 10::uu 11::uu 12::uu 13::uu 14::(.slice p n c)::(.int .i64 n)::(.int .i64 (k:Nat))::uu 18::uu 19::uu 20::uu 21::uu 22::uu 23::uu 24::uu 25::uu 26::uu 27::uu 28::uu 29::uu 30::uu 31::[]) [] [LsF p 0 xs,LsF q 0 ys]) (fun k=>n - k) 0 ?_ ?_;exact ⟨Nat.zero_le _,rfl,S.uu,S⟩;clear S;rintro k a w ⟨hk,hrel,uu,S⟩;refine J6 ?_;intro a S;refine kC S (fun h4=>?_) (fun h4=>?_);refine J7 ?_;intro a S;have hkl:k < n:=by simpa using h4
 obtain ⟨x,ad,hx1,hxm,hxd,hp,hcell,hfx⟩:=ls_kid (S.fact (Φ:=LsF p 0 xs) (by simp)) (k:=k) (by omega);replace S:=S.add hfx;refine si S ad hp (by omega) (by omega) ?_;intro a S;refine slA x.cells S hcell ?_;intro a S;refine sa S ?_;intro b8 a w S;refine Y8 ?_;intro a w S;obtain ⟨y,ad',hy1,hym,hyd,hq,hcell',hfy⟩:=ls_kid (S.fact (Φ:=LsF q 0 ys) (by simp)) (k:=k) (by omega);replace S:=S.add hfy;refine si S ad' hq (by omega) (by omega) ?_;intro a S;refine slA y.cells S hcell' ?_;intro a S;refine sa S ?_;intro b9 a w S;refine Y8 ?_;intro a w S;rw[hxd,hyd,List.map_cons,List.map_cons,sameLF]at hrel;refine sr S (hS x y w (hN x hxm) (S.mem.fact0 (LtF x)) (S.mem.fact0 (LtF y))) ?_;rintro v a w rfl S;refine J3 ?_;intro a S;refine kC S (fun h7=>?_) (fun h7=>?_);refine J11 ?_;intro a S;refine end1 S (fun _=>?_);have h8:sameF x.t y.t=false:=by simpa using h7
 simp[←hrel,h8];refine J8 ?_;intro a S;have h8:sameF x.t y.t=true:=by simpa using h7
 rw[h8,Bool.true_and]at hrel;replace S:=S.sub [] [LsF p 0 xs,LsF q 0 ys];rw[w6 ((k:Int)+1)]at S;exact ⟨k+1,⟨hkl,hrel,S.uu,S⟩,by omega⟩;refine J11 ?_;intro a S;refine end1 S (fun _=>?_);have h6:n≤k:=by simpa using h4
 rw[List.drop_of_length_le (by omega),List.drop_of_length_le (by omega)]at hrel;simp[←hrel,sameLF]
theorem same_all:∀ N,SameC N:=by
 intro N
 induction N with
 | zero=>intro x y w h;cases x;simp at h
 | succ N ih=>
 intro x y w0 hN hx hy;have e1:=x.t_eq;have e2:=y.t_eq;have hq:∀ {bs fs} [HasT fs x] [HasT fs y],CallV Tryz.prog 90 [.slice x.p x.kids.length x.cap,.slice y.p y.kids.length y.cap,.func (.func 44) #[] #[]] bs fs (.bool (sameLF (x.kids.map LTerm.t) (y.kids.map LTerm.t))):=
  ⟨fun w m=>equal_c N ih x.p y.p x.cap y.cap _ _ x.kids y.kids rfl rfl w (LTerm.len_le hx) (fun z hz=>by have:=LTerm.kid_lt hz;omega) (ls_of_lt (m.t0 _)) (ls_of_lt (m.t0 _))⟩
 refine E1 Tryz.func44 rfl Tryz.ntmps44 (Wd.begin (fs:=[LtF x,LtF y]) (by simp;exact ⟨hx,hy⟩)) ?_;intro a S;refine kS (kR ?_);refine sa S ?_;intro b2 a w S;refine sa S ?_;intro b3 a w S;refine J20 ?_;intro a S;refine Y22 ?_;intro a w S;refine end1 S (fun _=>?_);rw[e1,e2,sameF]
theorem same_c (x y:LTerm)(w:World)(hx:Fx w (LtF x))(hy:Fx w (LtF y)):Ret Tryz.prog 44 [vL x,vL y] w (fun _=>False) fun v _=>v=.bool (sameF x.t y.t):=same_all _ x y w (Nat.le_refl _) hx hy
instance {x y:LTerm}{bs fs}[HasT fs x][HasT fs y]:CallV Tryz.prog 44 [vL x,vL y] bs fs (.bool (sameF x.t y.t)):=⟨fun w m=>same_c x y w (m.t0 _) (m.t0 _)⟩
def put1 (k:Int)(s:List UInt8):List UInt8:=if hasF (fieldsOf k) 1 then Wk.u8 s.length::s else []
def put2 (k u:Int):List UInt8:=if hasF (fieldsOf k) 2 then [Wk.u8 u] else []
def put4 (k n:Int):List UInt8:=if hasF (fieldsOf k) 4 then be 2 (IntKind.u16.wrap n) else []
def headF (k u n:Int)(s:List UInt8):List UInt8:=[Wk.u8 k]++put1 k s++put2 k u++put4 k n
mutual
def bytesF:Term→List UInt8
 | .mk k u n s ks=>headF k u n s++bytesLF ks
def bytesLF:List Term→List UInt8
 | []=>[]
 | t::ts=>bytesF t++bytesLF ts
end
theorem wu16_range (n:Int):0≤IntKind.u16.wrap n∧IntKind.u16.wrap n≤65535:=by
 unfold IntKind.wrap;simp only[IntKind.bits,IntKind.signed,Bool.false_and];simp;omega
theorem sl_stable {w:World}{e:TypeId}{sz:Nat}{p:Option Addr}{n c:Nat}{xs:List Value}(h:w.ownsRow 0 e sz (.slice p n c) n xs):Fx w (SlF p xs):=(own_sl h).stable fun _ _ h=>h
def Grew (w0 w':World)(p:Option Addr)(b:List UInt8)(v:Value):Prop:=∃ p' c',v=.slice p' b.length c'∧w'.ownsRow 0 5 1 (.slice p' b.length c') b.length (encL b)∧∀ ad,p'=some ad→(∃ ad',p=some ad'∧ad.block=ad'.block)∨w0.heap.size≤ad.block
theorem put_c (N:Nat):∀ (t:LTerm) (p:Option Addr) (n c:Nat) (b:List UInt8) (w0:World),SizeOf.sizeOf t≤N→b.length=n→n+(bytesF t.t).length≤1073741824→w0.ownsRow 0 5 1 (.slice p n c) n (encL b)→Stable (fun k=>∃ ad,p=some ad∧k=ad.block) w0 (LtF t)→
  Ret Tryz.prog 154 [.slice p n c,vL t] w0 (fun k=>∃ ad,p=some ad∧k=ad.block) fun v w'=>Grew w0 w' p (b++bytesF t.t) v:=by
 induction N with
 | zero=>intro t _ _ _ _ _ h;cases t;simp at h
 | succ N ih=>
 intro t p n c b w0 hN hbn hbd hown hf;have hlen:=LTerm.len_le hf;have e0:bytesF t.t=headF t.kind t.user t.num t.text++bytesLF (t.kids.map LTerm.t):=by rw[t.t_eq,bytesF]
 have hL:n+(1+(put1 t.kind t.text).length+(put2 t.kind t.user).length+(put4 t.kind t.num).length+(bytesLF (t.kids.map LTerm.t)).length)≤1073741824:=by
  rw[e0]at hbd;simp only[headF,List.length_append,List.length_singleton]at hbd;omega
 refine E1 Tryz.func154 rfl Tryz.ntmps154 (Wd.rowLent (fs:=[LtF t]) hown (by simpa using hf)) ?_;intro a S;refine kS (kR ?_);refine sa S ?_;clear S;intro b3 a w S;refine Y17 ?_;clear S;intro a w S;refine sn S ?_;clear S;intro b15 a w S;refine sap S (by simp only[maxLen];omega) (by omega) ?_;clear S;intro p1 c1 a w _ S;rw[show encL b++[Value.int .u8 (IntKind.u8.wrap t.kind)]=encL (b++([Wk.u8 t.kind])) from by rw[encL_append,u8_wrap];rfl]at S;refine J3 ?_;clear S;intro a S;have hm1:n+1=(b++([Wk.u8 t.kind])).length:=by rw[List.length_append,hbn];rfl
 generalize n+1=m1 at S hm1
 refine c_merge (fun a w=>∃ (p':Option Addr) (c' m:Nat),m=(b++([Wk.u8 t.kind]++put1 t.kind t.text)).length∧∃ uu:Nat→Value,St w0 (fun k=>∃ ad,p=some ad∧k=ad.block) [] a w ((.slice p' m c')::(vL t)::uu 2::(.pointer (some ⟨b3,0,none⟩))::(.slice none 0 0)::(.int .i64 (fieldsOf t.kind))::uu 6::uu 7::uu 8::uu 9::uu 10::uu 11::uu 12::uu 13::uu 14::uu 15::uu 16::uu 17::uu 18::uu 19::uu 20::uu 21::uu 22::uu 23::uu 24::uu 25::uu 26::uu 27::uu 28::uu 29::uu 30::uu 31::uu 32::uu 33::uu 34::uu 35::uu 36::uu 37::uu 38::uu 39::uu 40::uu 41::uu 42::uu 43::uu 44::uu 45::uu 46::uu 47::uu 48::uu 49::uu 50::uu 51::uu 52::uu 53::uu 54::uu 55::[]) [box b3 42 t.cells,row 5 1 p' m c' (encL (b++([Wk.u8 t.kind]++put1 t.kind t.text)))] [LtF t]) ?_ ?_
 ·refine Y6 ?_;clear S;intro a w S
  refine kC S (fun h3=>?_) (fun h3=>?_)
  ·refine c_drawE [T9 0,T9 1,T9 2,T9 3,T9 4,T9 7,T9 8,F9 5,F9 6,F9 9,T9 10] [box b3 42 t.cells] S ?_;clear S;intro w S;(iterate 7 (refine dq S ?_;clear S;intro a S));refine dl (sn S ?_);clear S;intro b24 a w S;refine de S ?_;refine dl ?_
   have h3':hasF (fieldsOf t.kind) 1=true:=h3;have e1:put1 t.kind t.text=Wk.u8 t.text.length::t.text:=by rw[put1,if_pos h3']
   have hl1:(put1 t.kind t.text).length=t.text.length+1:=by rw[e1];rfl
   have hm2:m1=n+1:=by rw[hm1,List.length_append,hbn];rfl
   refine sap S (by simp only[maxLen];omega) (by omega) ?_;clear S;intro p2 c2 a w _ S;refine de S ?_;refine dl ?_;refine sap S (by simp only[maxLen];omega) (by omega) ?_;clear S;intro p3 c3 a w _ S;rw[show encL (b++([Wk.u8 t.kind]))++[Value.int .u8 (IntKind.u8.wrap (t.text.length:Int))]++encL t.text=encL (b++([Wk.u8 t.kind]++put1 t.kind t.text)) from by rw[e1,u8_wrap];simp[encL,Enc.cells]]at S;refine de S ?_;refine dq S ?_;clear S;intro a S;refine dn (xtn ?_);replace S:=S.sub [box b3 42 t.cells,row 5 1 p3 (m1+1+t.text.length) c3 (encL (b++([Wk.u8 t.kind]++put1 t.kind t.text)))] [LtF t];exact ⟨p3,c3,_,by rw[hm2,List.length_append,List.length_append,hl1,hbn];simp;omega,S.uu,S⟩
  ·refine kK (xtn ?_)
   have h3':¬hasF (fieldsOf t.kind) 1=true:=by simpa using h3
   have e1:put1 t.kind t.text=[]:=by rw[put1,if_neg h3']
   rw[show b++([Wk.u8 t.kind])=b++([Wk.u8 t.kind]++put1 t.kind t.text) from by rw[e1,List.append_nil]]at S hm1;replace S:=S.sub [box b3 42 t.cells,row 5 1 p1 m1 c1 (encL (b++([Wk.u8 t.kind]++put1 t.kind t.text)))] [LtF t];exact ⟨p1,c1,m1,hm1,S.uu,S⟩
 ·clear S;rintro a w ⟨p',c',m,hm,uu,S⟩
  have hlm:m=n+1+(put1 t.kind t.text).length:=by rw[hm];simp[hbn];omega
  refine c_merge (fun a w=>∃ (p':Option Addr) (c' m:Nat),m=(b++([Wk.u8 t.kind]++put1 t.kind t.text++put2 t.kind t.user)).length∧∃ uu:Nat→Value,St w0 (fun k=>∃ ad,p=some ad∧k=ad.block) [] a w ((.slice p' m c')::(vL t)::uu 2::(.pointer (some ⟨b3,0,none⟩))::(.slice none 0 0)::(.int .i64 (fieldsOf t.kind))::uu 6::uu 7::uu 8::uu 9::uu 10::uu 11::uu 12::uu 13::uu 14::uu 15::uu 16::uu 17::uu 18::uu 19::uu 20::uu 21::uu 22::uu 23::uu 24::uu 25::uu 26::uu 27::uu 28::uu 29::uu 30::uu 31::uu 32::uu 33::uu 34::uu 35::uu 36::uu 37::uu 38::uu 39::uu 40::uu 41::uu 42::uu 43::uu 44::uu 45::uu 46::uu 47::uu 48::uu 49::uu 50::uu 51::uu 52::uu 53::uu 54::uu 55::[]) [box b3 42 t.cells,row 5 1 p' m c' (encL (b++([Wk.u8 t.kind]++put1 t.kind t.text++put2 t.kind t.user)))] [LtF t]) ?_ ?_
  ·refine Y6 ?_;clear S;intro a w S
   refine kC S (fun h5=>?_) (fun h5=>?_)
   ·refine J5 ?_;clear S;intro a S
    have h5':hasF (fieldsOf t.kind) 2=true:=h5;have e2:put2 t.kind t.user=[Wk.u8 t.user]:=by rw[put2,if_pos h5']
    have hl2:(put2 t.kind t.user).length=1:=by rw[e2];rfl
    refine sn S ?_;clear S;intro b35 a w S;refine sap S (by simp only[maxLen];omega) (by omega) ?_;clear S;intro p2 c2 a w _ S;rw[show encL (b++([Wk.u8 t.kind]++put1 t.kind t.text))++[Value.int .u8 (IntKind.u8.wrap t.user)]=encL (b++([Wk.u8 t.kind]++put1 t.kind t.text++put2 t.kind t.user)) from by rw[e2,u8_wrap];simp[encL,Enc.cells]]at S;refine J3 ?_;clear S;intro a S;replace S:=S.sub [box b3 42 t.cells,row 5 1 p2 (m+1) c2 (encL (b++([Wk.u8 t.kind]++put1 t.kind t.text++put2 t.kind t.user)))] [LtF t];exact ⟨p2,c2,_,by rw[hm];simp[hl2];omega,S.uu,S⟩
   ·refine kK (xtn ?_)
    have h5':¬hasF (fieldsOf t.kind) 2=true:=by simpa using h5
    have e2:put2 t.kind t.user=[]:=by rw[put2,if_neg h5']
    rw[show b++([Wk.u8 t.kind]++put1 t.kind t.text)=b++([Wk.u8 t.kind]++put1 t.kind t.text++put2 t.kind t.user) from by rw[e2,List.append_nil]]at S hm;exact ⟨p',c',m,hm,S.uu,S⟩
  ·clear S;clear hlm hm;clear m;rintro a w ⟨p',c',m,hm,uu,S⟩
   have hlm:m=n+1+(put1 t.kind t.text).length+(put2 t.kind t.user).length:=by rw[hm];simp[hbn];omega
   refine c_merge (fun a w=>∃ (p':Option Addr) (c' m:Nat),m=(b++(headF t.kind t.user t.num t.text)).length∧∃ uu:Nat→Value,St w0 (fun k=>∃ ad,p=some ad∧k=ad.block) [] a w ((.slice p' m c')::(vL t)::uu 2::(.pointer (some ⟨b3,0,none⟩))::(.slice none 0 0)::(.int .i64 (fieldsOf t.kind))::uu 6::uu 7::uu 8::uu 9::uu 10::uu 11::uu 12::uu 13::uu 14::uu 15::uu 16::uu 17::uu 18::uu 19::uu 20::uu 21::uu 22::uu 23::uu 24::uu 25::uu 26::uu 27::uu 28::uu 29::uu 30::uu 31::uu 32::uu 33::uu 34::uu 35::uu 36::uu 37::uu 38::uu 39::uu 40::uu 41::uu 42::uu 43::uu 44::uu 45::uu 46::uu 47::uu 48::uu 49::uu 50::uu 51::uu 52::uu 53::uu 54::uu 55::[]) [box b3 42 t.cells,row 5 1 p' m c' (encL (b++(headF t.kind t.user t.num t.text)))] [LtF t]) ?_ ?_
   ·refine Y6 ?_;clear S;intro a w S
    refine kC S (fun h7=>?_) (fun h7=>?_)
    ·refine J5 ?_;clear S;intro a S
     have h7':hasF (fieldsOf t.kind) 4=true:=h7;have e4:put4 t.kind t.num=be 2 (IntKind.u16.wrap t.num):=by rw[put4,if_pos h7']
     have hwr:=wu16_range t.num;refine srn S (put16_c p' m c' (b++([Wk.u8 t.kind]++put1 t.kind t.text++put2 t.kind t.user)) (IntKind.u16.wrap t.num) w hm.symm (by omega) hwr.1 hwr.2 (sl_stable (S.row p' m))) ?_;clear S;rintro _ a w ⟨g,rfl,hg,hown2⟩ hS -;have S:=hS hown2 (fun ad h=>by cases h;exact hg);clear hS;rw[show b++([Wk.u8 t.kind]++put1 t.kind t.text++put2 t.kind t.user)++be 2 (IntKind.u16.wrap t.num)=b++(headF t.kind t.user t.num t.text) from by rw[headF,e4,List.append_assoc]]at S;refine J3 ?_;clear S;intro a S;have S2:St w0 (fun k=>∃ ad,p=some ad∧k=ad.block) [] _ _ _ [box b3 42 t.cells,row 5 1 (some ⟨g,0,none⟩) (m+2) (m+2) (encL (b++(headF t.kind t.user t.num t.text)))] [LtF t]:=S.swap2;exact ⟨_,_,_,by rw[hm,headF,e4];simp[be];omega,S.uu,S2⟩
    ·refine kK (xtn ?_)
     have h7':¬hasF (fieldsOf t.kind) 4=true:=by simpa using h7
     have e4:put4 t.kind t.num=[]:=by rw[put4,if_neg h7']
     rw[show b++([Wk.u8 t.kind]++put1 t.kind t.text++put2 t.kind t.user)=b++(headF t.kind t.user t.num t.text) from by rw[headF,e4,List.append_nil]]at S hm;exact ⟨p',c',m,hm,S.uu,S⟩
   ·clear S;clear hlm hm;clear m;rintro a w ⟨p',c',m,hm,uu,S⟩
    refine J10 ?_;clear S;intro a S;refine c_loop (ι:=Nat) (fun k a w=>k≤t.kids.length∧∃ (p':Option Addr) (c' m:Nat) (b':List UInt8),m=b'.length∧b'++bytesLF ((t.kids.drop k).map LTerm.t)=b++bytesF t.t∧∃ uu:Nat→Value,St w0 (fun k=>∃ ad,p=some ad∧k=ad.block) [] a w ((.slice p' m c')::(vL t)::uu 2::(.pointer (some ⟨b3,0,none⟩))::(.slice none 0 0)::(.int .i64 (fieldsOf t.kind))::uu 6::uu 7::uu 8::uu 9::uu 10::uu 11::uu 12::uu 13::uu 14::uu 15::uu 16::uu 17::uu 18::uu 19::uu 20::uu 21::uu 22::uu 23::uu 24::uu 25::uu 26::uu 27::uu 28::uu 29::uu 30::uu 31::uu 32::uu 33::uu 34::uu 35::uu 36::uu 37::uu 38::uu 39::uu 40::uu 41::uu 42::uu 43::uu 44::(.slice t.p t.kids.length t.cap)::(.int .i64 t.kids.length)::(.int .i64 (k:Nat))::uu 48::uu 49::uu 50::uu 51::uu 52::uu 53::uu 54::uu 55::[]) [box b3 42 t.cells,row 5 1 p' m c' (encL b')] [LtF t]) (fun k=>t.kids.length - k) 0 ?_ ?_
    ·exact ⟨Nat.zero_le _,p',c',m,_,hm,by rw[e0,List.append_assoc];rfl,S.uu,S⟩
    ·clear S;clear hm;clear m p' c'
     rintro k a w ⟨hk,p',c',m,b',hm,hrel,uu,S⟩;refine J6 ?_;clear S;intro a S;refine kC S (fun h10=>?_) (fun h10=>?_)
     ·refine kK (xtn (kS (kB (kS (kR ?_)))))
      have hkl:k < t.kids.length:=by simpa using h10
      have hK:KLt k t.kids.length:=⟨hkl⟩;refine J2 ?_;clear S;intro a S;refine sa S ?_;clear S;intro b7 a w S;refine Y6 ?_;clear S;intro a w S;rw[nth_drop hkl,List.map_cons,bytesLF]at hrel;have hbl:=congrArg List.length hrel;simp only[List.length_append,hbn]at hbl;refine srg p' m S (ih (nthL t.kids k) p' m c' b' w (by have:=LTerm.kid_lt (nth_mem hkl);omega) hm.symm (by omega) (S.row p' m) ((S.t _).less fun _ _ hk=>⟨_,HasRow.mem (p:=p') (n:=m),hk⟩)) ?_;clear S;rintro _ a w ⟨p2,c2,rfl,hown2,hnew2⟩ hS;have S:=hS _ hown2 hnew2;clear hS;refine J9 ?_;clear S;intro a S;rw[w6 ((k:Int)+1)]at S;replace S:=S.sub [box b3 42 t.cells,row 5 1 p2 (b'++bytesF (nthL t.kids k).t).length c2 (encL (b'++bytesF (nthL t.kids k).t))] [LtF t];exact ⟨k+1,⟨hkl,p2,c2,_,_,rfl,by rw[List.append_assoc];exact hrel,S.uu,S⟩,by omega⟩
     ·refine J12 ?_;clear S;intro a S
      have h9:t.kids.length≤k:=by simpa using h10
      rw[List.drop_of_length_le h9,List.map_nil,bytesLF,List.append_nil]at hrel;subst hrel hm;have hrow:=S.row p' (b++bytesF t.t).length;have hnew:=S.rowNew p' (b++bytesF t.t).length;exact end1 S (fun _=>⟨p',c',rfl,hrow,hnew⟩)
theorem head_le {k u n:Int}{s:List UInt8}{m:Nat}(h:plainF k u n s m=true):(headF k u n s).length≤69:=by
 have h1:s.length≤64:=by
  simp only[plainF,Bool.and_eq_true,decide_eq_true_eq]at h;omega
 have h2:(put1 k s).length≤65:=by unfold put1;split <;> simp <;> omega
 have h3:(put2 k u).length≤1:=by unfold put2;split <;> simp
 have h4:(put4 k n).length≤2:=by unfold put4;split <;> simp[be]
 simp only[headF,List.length_append,List.length_singleton];omega
mutual
theorem bytes_le:∀ (t:Term) (deep left:Int),(walkF t deep left).1=true→((bytesF t).length:Int)≤70*(left - (walkF t deep left).2)
 | .mk k u n s ks,deep,left=>by
  intro h;rw[walkF]at h⊢;split at h;simp at h
  rename_i hc
  rw[if_neg hc];have hp:plainF k u n s ks.length=true:=by
   cases hb:plainF k u n s ks.length with
   | true=>rfl
   | false=>exact absurd (.inr (.inr hb)) hc
  have h1:=head_le hp;have h2:=bytesL_le ks (deep+1) (left - 1) h;rw[bytesF,List.length_append];omega
theorem bytesL_le:∀ (ts:List Term) (deep left:Int),(walkLF ts deep left).1=true→((bytesLF ts).length:Int)≤70*(left - (walkLF ts deep left).2)
 | [],deep,left=>by intro _;simp[bytesLF,walkLF]
 | t::ts,deep,left=>by
  intro h;rw[walkLF]at h⊢;split at h
  rename_i hc
  rw[if_pos hc];have h1:=bytes_le t deep left hc;have h2:=bytesL_le ts deep _ h;rw[bytesLF,List.length_append];omega;simp at h
end
theorem bytes_small {t:Term}(h:sizeF t≠0):(bytesF t).length≤84000:=by
 unfold sizeF at h;split at h
 rename_i hc
 have h1:=bytes_le t 1 1200 hc;have h2:=walkF_ge t 1 1200 (by omega) hc;omega;exact absurd rfl h
def nameF (t:Term):List UInt8:=if sizeF t=0 then [] else bytesF t
theorem encode_c (t:LTerm)(w0:World)(hf:Fx w0 (LtF t)):Ret Tryz.prog 108 [vL t] w0 (fun _=>False) fun v w'=>
  ∃ p c,v=.tuple ⟨[.slice p (nameF t.t).length c,.int .i64 (checkF t.t)]⟩∧w'.ownsRow 0 5 1 (.slice p (nameF t.t).length c) (nameF t.t).length (encL (nameF t.t))∧∀ ad,p=some ad→w0.heap.size≤ad.block:=by
 refine E1 Tryz.func108 rfl Tryz.ntmps108 (Wd.begin (fs:=[LtF t]) (by simpa using hf)) ?_;intro a S;refine kS (kR ?_);refine sa S ?_;intro b1 a w S;refine Y12 ?_;intro a w S;refine kC S (fun h1=>?_) (fun h1=>?_);refine J8 ?_;intro a S;have hz:sizeF t.t=0:=by simpa using h1
 have e1:nameF t.t=[]:=by rw[nameF,if_pos hz]
 have e2:checkF t.t=150:=by rw[checkF,if_pos hz]
 refine end2 S (fun _=>?_);rw[e1,e2];exact ⟨none,0,rfl,World.ownsRow_nil _ _ _ _,fun _ h=>by cases h⟩;refine J5 ?_;intro a S;have hz:sizeF t.t≠0:=by simpa using h1
 have hsm:=bytes_small hz;have e1:nameF t.t=bytesF t.t:=by rw[nameF,if_neg hz]
 have e2:checkF t.t=0:=by rw[checkF,if_neg hz]
 replace S:=S.addNil 5 1;refine srg none 0 S (put_c _ t none 0 0 [] w (Nat.le_refl _) rfl (by omega) (S.row none 0) ((S.t t).less fun _ _ ⟨_,h,_⟩=>by cases h)) ?_;rintro _ a w ⟨p2,c2,rfl,hown2,hnew2⟩ hS;have S:=hS _ hown2 hnew2;clear hS;rw[qqF]at S;refine J5 ?_;intro a S;have hrow:=S.row p2 (bytesF t.t).length;have hnew:=S.rowNew p2 (bytesF t.t).length;refine end2 S (fun _=>?_);rw[e1,e2];exact ⟨p2,c2,rfl,hrow,fun ad h=>(hnew ad h).elim (fun h=>h.elim) id⟩
inductive Ok:Term→Prop where
 | mk {k u n:Int} {s:List UInt8} {ks:List Term} (h:plainF k u n s ks.length=true) (hk:∀ t∈ks,Ok t):Ok (.mk k u n s ks)
def Good (t:Term):Prop:=sizeF t≠0
theorem good_check {t:Term} : checkF t=0↔Good t:=by
 unfold checkF Good;split <;> simp_all
end Go.Proofs.YtlgnhhebeandkaaGreatDoor
namespace Go.Wk
open Go
section
variable {P:Program}{Q:Exit→Act→World→Prop}{w0:World}{M0:Nat→Prop}{ds:List Deferred}{a:Act}{w:World}{l:List Value}{bs bs':List Item}{fs:List (World→Prop)}
class PutPs (l:List Value)(ps:List Nat)(vs:List Value)(l':outParam (List Value)):Prop where eq:(ps.zip vs).foldl (fun(t:Array Value) (x:Nat × Value)=>t.setIfInBounds x.1 x.2) l.toArray=l'.toArray∧vs.length=ps.length
class DropI (bs:List Item)(x:Item)(bs':outParam (List Item)):Prop where perm:(x::bs').Perm bs
instance dri0 {x:Item}{bs:List Item} : DropI (x::bs) x bs:=⟨.refl _⟩
instance (priority:=900) driS {x y:Item}{bs bs':List Item}[h:DropI bs x bs']:DropI (y::bs) x (y::bs'):=⟨(List.Perm.swap _ _ _).trans (.cons _ h.perm)⟩
end
inductive Tr where
 | e
 | q (i:Nat) (t:Tr)
 | l (i:Nat) (t:Tr)
 | b2 (i j:Nat) (t u:Tr)
 | b3 (i j k:Nat) (t u v:Tr)
 | b4 (i j k m:Nat) (t u v x:Tr)
def Tr.len:Tr→Nat
 | .e=>0
 | .q _ t | .l _ t=>t.len+1
 | .b2 _ _ t _=>t.len+1
 | .b3 _ _ _ t _ _=>t.len+1
 | .b4 _ _ _ _ t _ _ _=>t.len+1
def flowT (ops:Array Oper):Tr→Array Bool→Bool
 | .e,listed=>(Region.ready .any ops listed).isEmpty
 | .q i t,listed=>((Region.ready .any ops listed).contains i&&Region.free .any ops listed i)&&flowT ops t (listed.setIfInBounds i true)
 | .l i t,listed=>(match Region.ready .any ops listed with | [j]=>Nat.beq j i | _=>false)&&flowT ops t (listed.setIfInBounds i true)
 | .b2 i j t u,listed=>(match Region.ready .any ops listed with | [x,y]=>Nat.beq x i&&Nat.beq y j | _=>false)&&(Nat.beq u.len t.len&&(flowT ops t (listed.setIfInBounds i true)&&flowT ops u (listed.setIfInBounds j true)))
 | .b3 i j k t u v,listed=>(match Region.ready .any ops listed with | [x,y,z]=>Nat.beq x i&&(Nat.beq y j&&Nat.beq z k) | _=>false)&&(Nat.beq u.len t.len&&(Nat.beq v.len t.len&&(flowT ops t (listed.setIfInBounds i true)&&(flowT ops u (listed.setIfInBounds j true)&&flowT ops v (listed.setIfInBounds k true)))))
 | .b4 i j k m t u v x,listed=>(match Region.ready .any ops listed with | [a,y,z,b]=>Nat.beq a i&&(Nat.beq y j&&(Nat.beq z k&&Nat.beq b m)) | _=>false)&&(Nat.beq u.len t.len&&(Nat.beq v.len t.len&&(Nat.beq x.len t.len&&(flowT ops t (listed.setIfInBounds i true)&&(flowT ops u (listed.setIfInBounds j true)&&(flowT ops v (listed.setIfInBounds k true)&&flowT ops x (listed.setIfInBounds m true)))))))
section
variable {P:Program}{ops:Array Oper}{C:World→Prop}{R:Act→World→Prop}
variable {r:Option Nat}{Q:Exit→Act→World→Prop}{w0:World}{M0:Nat→Prop}{ds:List Deferred}{a:Act}{w:World}{l l':List Value}{bs bs' bs0:List Item}{fs fs0:List (World→Prop)}
 {d:Option Nat} {op:Op} {ty:TypeId} {pos:String} {af:Array Edge} {rest:List Oper} {v v' G:Value} {j g:Nat} {pol:Bool} {cs:List Bool} {n:Nat} {listed:Array Bool}
def AT (P:Program)(ops:Array Oper)(C:World→Prop)(R:Act→World→Prop)(t:Tr)(a:Act)(w:World):Prop:=
 ∀ listed,Region.noSelect ops=true→flowT ops t listed=true→AC P ops C R t.len listed a w
variable {t u x:Tr}{i k:Nat}
theorem tq (S:St w0 M0 ds a w l bs fs)[hb:SubL bs0 bs][hf:SubL fs0 fs][ho:OpAt ops i ⟨d,op,ty,pos,af,none⟩][hq:OpQ P op ty ⟨[],l⟩ bs0 fs0 v][hp:PutO l d v l']
  (K:∀ a,St w0 M0 ds a w l' bs fs→AT P ops (fun w=>Wd w0 M0 w bs0 fs0) R t a w) :
  AT P ops (fun w=>Wd w0 M0 w bs0 fs0) R (.q i t) a w:=by
 intro listed hs hflow;simp only[flowT,Bool.and_eq_true]at hflow;refine ac_first ho.eq (Region.noSelect_spec hs) _ listed a w (Region.free_spec ho.eq hflow.1.2) (by simpa using hflow.1.1) (v:=v) (.inl ⟨rfl,fun w' hw'=>?_⟩) (S.wd.sub hb.sub hf.sub) (K _ S.put _ hs hflow.2);rw[execOp_eq];exact hq.run a.eval w' S.fr hw'.mem
theorem tqG (S:St w0 M0 ds a w l bs fs)[hb:SubL bs0 bs][hf:SubL fs0 fs][ho:OpAt ops i ⟨d,op,ty,pos,af,some (j,pol)⟩][hg:GSlot ops j g][hn:Nth l g G][hc:Conds G pol cs][hq:OpQ P op ty ⟨cs,l⟩ bs0 fs0 v][hv:GifV cs v v'][hp:PutO l d v' l']
  (K:∀ a,St w0 M0 ds a w l' bs fs→AT P ops (fun w=>Wd w0 M0 w bs0 fs0) R t a w) :
  AT P ops (fun w=>Wd w0 M0 w bs0 fs0) R (.q i t) a w:=by
 intro listed hs hflow;simp only[flowT,Bool.and_eq_true]at hflow;have hw:=wanted_iff (ops:=ops) (d:=d) (op:=op) (ty:=ty) (pos:=pos) (af:=af) (pol:=pol) S hg.eq;refine ac_first ho.eq (Region.noSelect_spec hs) _ listed a w (Region.free_spec ho.eq hflow.1.2) (by simpa using hflow.1.1) (v:=v') ?_ (S.wd.sub hb.sub hf.sub) (K _ S.put _ hs hflow.2)
 by_cases hall:∀ c∈cs,c=true
 refine .inl ⟨hw.2 hall,fun w' hw'=>?_⟩;rw[execOp_eq,hv.eq,if_pos hall];exact hq.run a.eval w' (S.frc hall) hw'.mem;exact .inr ⟨by
  cases hx:Region.wanted _ (yielded ops a.tmps) with
  | true=>exact absurd (hw.1 hx) hall
  | false=>rfl,by rw[hv.eq,if_neg hall]⟩
theorem wn_of {o:Oper}[ho:OpAt ops i o]{K:Act→World→Prop}(h:WL P none ops (fun e a' w'=>e=.normal∧K a' w') [o] a w):WN P ops i K a w:=by
 unfold WN wpOpIn;simp only[ho.eq];simp only[WL,wpListIn]at h;split
 ·rename_i hw
  rw[if_pos hw]at h;refine ⟨fun _ _=>trivial,?_⟩;have h:=h.2
  generalize (o.semAt (FW none).round a.eval).run P w=q at *
  cases q with
  | ok x w'=>
   cases x <;> simp only[Oper.uponIn]at h⊢
   case value u=>exact h.2
   case skip=>exact h.2
   case defer d=>exact h.2
   case enter f args=>
    refine ⟨h.1,CallsIn.mono h.2 fun e w'' he=>?_⟩;cases e with
    | returned u=>exact he.2
    | panicked c=>exact absurd he.1 (by simp)
    | outgrown=>obtain ⟨_,_,he,_⟩:=he;exact absurd he (by simp)
   case row row args=>exact ⟨h.1,RowsIn.mono h.2 fun u w'' he=>he.2⟩
   case round l f tmps assign body=>
    refine ⟨h.1,RoundIn.mono h.2 fun e w'' he=>?_⟩;cases e with
    | returned u=>exact he.2
    | panicked c=>exact absurd he.1 (by simp)
    | outgrown=>obtain ⟨_,_,he,_⟩:=he;exact absurd he (by simp)
  | halt x w'=>
   cases x <;> simp only[Oper.uponIn]at h⊢
   case panic u=>exact absurd h.1 (by simp)
 ·rename_i hw
  rw[if_neg hw]at h;exact ⟨fun _ _=>trivial,h.2.2⟩
theorem tl {o:Oper}[ho:OpAt ops i o](h:WL P none ops (fun e a' w'=>e=.normal∧C w'∧AT P ops C R t a' w') [o] a w):AT P ops C R (.l i t) a w:=by
 intro listed hs hflow;simp only[flowT,Bool.and_eq_true]at hflow;have hr:Region.ready .any ops listed=[i]:=by
  have:=hflow.1;split at this
  rename_i k hk;rw[hk,Nat.eq_of_beq_eq_true this]
  cases this
 refine ⟨fun h0=>(by rw[h0]at hr;cases hr),fun k hk=>?_⟩;rw[hr]at hk;obtain rfl:k=i:=by simpa using hk
 exact wpOpIn_mono (fun a' w' h'=>⟨h'.1,h'.2 _ hs hflow.2⟩) (wn_of h)
theorem tb2 {oi oj:Oper}[hi:OpAt ops i oi][hj:OpAt ops j oj](h1:WL P none ops (fun e a' w'=>e=.normal∧C w'∧AT P ops C R t a' w') [oi] a w)(h2:WL P none ops (fun e a' w'=>e=.normal∧C w'∧AT P ops C R u a' w') [oj] a w):AT P ops C R (.b2 i j t u) a w:=by
 intro listed hs hflow;simp only[flowT,Bool.and_eq_true]at hflow;have hr:Region.ready .any ops listed=[i,j]:=by
  have:=hflow.1;split at this
  rename_i x y hk
  simp only[Bool.and_eq_true]at this;rw[hk,Nat.eq_of_beq_eq_true this.1,Nat.eq_of_beq_eq_true this.2];cases this
 have hlen:=Nat.eq_of_beq_eq_true hflow.2.1;refine ⟨fun h0=>(by rw[h0]at hr;cases hr),fun k hk=>?_⟩;rw[hr]at hk;rcases List.mem_cons.1 hk with rfl | hk
 exact wpOpIn_mono (fun a' w' h'=>⟨h'.1,h'.2 _ hs hflow.2.2.1⟩) (wn_of h1);obtain rfl:=List.mem_singleton.1 hk;refine wpOpIn_mono (fun a' w' h'=>⟨h'.1,?_⟩) (wn_of h2);have:=h'.2 _ hs hflow.2.2.2
 rwa [hlen]at this
theorem tb3 {oi oj ok:Oper}[hi:OpAt ops i oi][hj:OpAt ops j oj][hk:OpAt ops k ok](h1:WL P none ops (fun e a' w'=>e=.normal∧C w'∧AT P ops C R t a' w') [oi] a w)(h2:WL P none ops (fun e a' w'=>e=.normal∧C w'∧AT P ops C R u a' w') [oj] a w)
  (h3:WL P none ops (fun e a' w'=>e=.normal∧C w'∧AT P ops C R x a' w') [ok] a w):AT P ops C R (.b3 i j k t u x) a w:=by
 intro listed hs hflow;simp only[flowT,Bool.and_eq_true]at hflow;have hr:Region.ready .any ops listed=[i,j,k]:=by
  have:=hflow.1;split at this
  rename_i x y z hk
  simp only[Bool.and_eq_true]at this;rw[hk,Nat.eq_of_beq_eq_true this.1,Nat.eq_of_beq_eq_true this.2.1,Nat.eq_of_beq_eq_true this.2.2];cases this
 have hlen:=Nat.eq_of_beq_eq_true hflow.2.1;have hlen2:=Nat.eq_of_beq_eq_true hflow.2.2.1;refine ⟨fun h0=>(by rw[h0]at hr;cases hr),fun m hm=>?_⟩;rw[hr]at hm;rcases List.mem_cons.1 hm with rfl | hm
 exact wpOpIn_mono (fun a' w' h'=>⟨h'.1,h'.2 _ hs hflow.2.2.2.1⟩) (wn_of h1);rcases List.mem_cons.1 hm with rfl | hm
 refine wpOpIn_mono (fun a' w' h'=>⟨h'.1,?_⟩) (wn_of h2);have:=h'.2 _ hs hflow.2.2.2.2.1
 rwa [hlen]at this
 obtain rfl:=List.mem_singleton.1 hm;refine wpOpIn_mono (fun a' w' h'=>⟨h'.1,?_⟩) (wn_of h3);have:=h'.2 _ hs hflow.2.2.2.2.2
 rwa [hlen2]at this
theorem te [hb:SubL bs0 bs][hf:SubL fs0 fs](S:St w0 M0 ds a w l bs fs)(h:AT P ops (fun w=>Wd w0 M0 w bs0 fs0) R t a w):WL P none ops (fun e a' w'=>e=.normal∧Wd w0 M0 w' bs0 fs0∧AT P ops (fun w=>Wd w0 M0 w bs0 fs0) R t a' w') [] a w:=
 kN ⟨rfl,S.wd.sub hb.sub hf.sub,h⟩
theorem tn (h:R a w):AT P ops C R .e a w:=by
 intro listed hs hflow;have hr:Region.ready .any ops listed=[]:=by simpa [flowT] using hflow
 exact ⟨hr,h⟩
theorem ac_mono {R':Act→World→Prop}(hR:∀ a w,R a w→R' a w):∀ (fuel:Nat) (listed:Array Bool) (a:Act) (w:World),AC P ops C R fuel listed a w→AC P ops C R' fuel listed a w
 | 0,_,_,_,h=>⟨h.1,hR _ _ h.2⟩
 | fuel+1,_,_,_,h=>⟨fun h0=>hR _ _ (h.1 h0),fun i hi=>wpOpIn_mono (fun _ _ h'=>⟨h'.1,ac_mono hR fuel _ _ _ h'.2⟩) (h.2 i hi)⟩
theorem c_drawT {id:Nat}{lo:List Oper}(t:Tr)(bs0:List Item)(S:St w0 M0 ds a w l bs fs)(I:Act→World→Prop)(h:∀ w,St w0 M0 ds a w l bs fs→AT P lo.toArray (fun w=>Wd w0 M0 w bs0 fs) I t a w)
  (hk:∀ a w,I a w→Q .normal a w) (hm:P.follows .mixedOrders=true:=by kernel_rfl)
  (hd:((lo.all fun o=>!isDefer o.op)&&(Nat.beq t.len lo.length&&(Region.noSelect lo.toArray&&flowT lo.toArray t (Array.replicate lo.length false))))=true:=by kernel_rfl):Wp P r (.region id lo.toArray true) Q a w:=by
 simp only[Bool.and_eq_true]at hd;refine wpIn_region_any hm (any_of_ac (C:=fun w=>Wd w0 M0 w bs0 fs) (fun i o ho=>?_) _ _ _ _ ?_);have:=List.all_eq_true.1 hd.1 o (by
  rw[List.getElem?_toArray]at ho;exact List.mem_of_getElem? ho)
 simpa using this;have:=h { w with drawn:=w.drawn+1 } ⟨S.slots,S.defers,S.wd.step (Agree.drawn _ w _)⟩ _ hd.2.2.1 hd.2.2.2;rw[Nat.eq_of_beq_eq_true hd.2.1]at this;simpa using ac_mono hk _ _ _ _ this
theorem c_drawT0 {id:Nat}{lo:List Oper}{l2:List Value}{bs2:List Item}{fs2:List (World→Prop)}(t:Tr)(ids:List Nat)[DropBs bs ids bs0](S:St w0 M0 ds a w l bs fs)(h:∀ w,St w0 M0 ds a w l bs fs→AT P lo.toArray (fun w=>Wd w0 M0 w bs0 fs) (fun a w=>St w0 M0 ds a w l2 bs2 fs2) t a w)
  (hk:∀ a w,St w0 M0 ds a w l2 bs2 fs2→Q .normal a w) (hm:P.follows .mixedOrders=true:=by kernel_rfl)
  (hd:((lo.all fun o=>!isDefer o.op)&&(Nat.beq t.len lo.length&&(Region.noSelect lo.toArray&&flowT lo.toArray t (Array.replicate lo.length false))))=true:=by kernel_rfl):Wp P r (.region id lo.toArray true) Q a w:=
 c_drawT t _ S _ h hk hm hd
end
instance opMakeFunc {P ty}{l:Cx}{bs fs}{f:Nat}{fi ca:List Operand}{vs us:List Value}[EvL l fi vs][EvL l ca us]:OpQ P (.makeFunc (.func f) fi.toArray ca.toArray) ty l bs fs (.func (.func f) ⟨vs⟩ ⟨us⟩):=⟨fun ρ w h _=>by
 have e1:=h.evl (xs:=fi) (vs:=vs);have e2:=h.evl (xs:=ca) (vs:=us);simp[xop,execOp,e1,e2,Instr.makeFunc]⟩
section
variable {P:Program}{r:Option Nat}{ops:Array Oper}{Q:Exit→Act→World→Prop}{w0:World}{M0:Nat→Prop}{ds:List Deferred}{a:Act}{w:World}{l:List Value}{bs bs':List Item}{fs fs0:List (World→Prop)}
 {d:Option Nat} {op:Op} {ty:TypeId} {pos:String} {af:Array Edge} {rest:List Oper} {ts:Array TypeId}
class EvB (l:Cx)(x:Option Operand)(dflt:Nat)(v:outParam Nat):Prop where
 eq:(x=none∧v=dflt)∨∃ o kk,x=some o∧Ev l o (.int kk (v:Int))
instance evb0 {l:Cx}{n:Nat} : EvB l none n n:=⟨.inl ⟨rfl,rfl⟩⟩
instance evb1 {l:Cx}{x:Operand}{n m:Nat}{kk:IntKind}{mi:Int}[h:Ev l x (.int kk mi)][hm:IsNat mi m]:EvB l (some x) n m:=⟨.inr ⟨x,kk,rfl,by have:=hm.eq;subst this;exact h⟩⟩
theorem run_sliceBound {P:Program}{kk:IntKind}{v y:Nat}(h:v≤y)(code:BoundsCode)(w:World):(Instr.sliceBound (.int kk (v:Int)) y code).run P w=.ok v w:=by
 simp[Instr.sliceBound,asIntOf,h]
theorem c_scope {c:Code}(h:Wp P r c (Exit.noGoto Q) a w):Wp P r (.scope c) Q a w:=by
 intro b k cs hro hb hr;have h0:(lone (b.atR a (.code (.scope c)::k)) cs w).fenced P (FW r):=fenced_calm hb hr rfl;have s1:step P (lone (b.atR a (.code (.scope c)::k)) cs w)=.next (lone (b.atR a (.code c::.inScope c::k)) cs w):=step_lone_go (by simp[stepG,stepG.exec,Frame.atR]);have s2:∀ (a:Act) (w:World),step P (lone (b.atR a (.inScope c::k)) cs w)=.next (lone (b.atR a k) cs w):=fun a w=>step_lone_go (by simp[stepG,stepG.exec,Frame.atR])
 obtain ⟨e,a₁,w₁,hq,harr⟩:=h b (.inScope c::k) cs hro hb hr;cases e with
 | normal=>exact ⟨.normal,a₁,w₁,hq,.head h0 s1 (StepsIn.trans harr (.one (fenced_calm hb hr rfl) (s2 _ _)))⟩
 | exit id=>
  have hx:exitTo id (.inScope c::k)=exitTo id k:=by simp[exitTo]
  exact ⟨.exit id,a₁,w₁,hq,fun k' hk=>.head h0 s1 (harr.1 k' (by rw[hx];exact hk)),fun hr' hk=>let ⟨k₁,h1,h2⟩:=harr.2 hr' (by rw[hx];exact hk);⟨k₁,h1,.head h0 s1 h2⟩⟩
 | goto l=>exact hq.elim
 | ret=>exact ⟨_,a₁,w₁,hq,.of_steps (.one h0 s1) harr⟩
 | panic ch=>exact ⟨_,a₁,w₁,hq,.of_steps (.one h0 s1) harr⟩
 | outgrown=>exact ⟨_,a₁,w₁,hq,.of_steps (.one h0 s1) harr⟩
theorem xsr (h:Q .ret a w):Exit.noGoto Q .ret a w:=h
def Item.ro (x:Item):Item:={ x with own:=false }
end
theorem St.boxNew {w0 M0 ds a w l bs fs}(S:St w0 M0 ds a w l bs fs)(b:Nat){t:TypeId}{cs:List Value}[h:HasBox bs b t cs]:M0 b∨w0.heap.size≤b:=S.wd.own _ h.mem rfl b rfl
instance isnatL0:IsNat 0 0:=⟨rfl⟩
instance isnatL1:IsNat 1 1:=⟨rfl⟩
instance isnatL2:IsNat 2 2:=⟨rfl⟩
instance isnatL4:IsNat 4 4:=⟨rfl⟩
instance (priority:=100) mulnAny {i s:Nat} : MulN i s (i*s):=⟨rfl⟩
theorem LsIn.nil_of {w:World}{i:Nat}{xs:List LTerm}(h:LsIn w none i xs):xs=[]:=by
 cases xs with
 | nil=>rfl
 | cons x xs=>obtain ⟨⟨ad,h0,_⟩,_⟩:=h;cases h0
section
variable {P:Program}{ty:TypeId}{l:Cx}{bs:List Item}{fs:List (World→Prop)}{x y:Operand}{t e:TypeId}
class LeC (a b:Nat):Prop where le:a≤b
instance (priority:=1100) lec0 {a:Nat} : LeC a a:=⟨Nat.le_refl _⟩
class HiOk (om oh:Option Operand):Prop where ok:om.isSome=true→oh.isSome=true
instance hiok0 {oh:Option Operand} : HiOk none oh:=⟨fun h=>by cases h⟩
end
section
variable {P:Program}{r:Option Nat}{ops:Array Oper}{Q:Exit→Act→World→Prop}{w0:World}{M0:Nat→Prop}{ds:List Deferred}{a:Act}{w:World}{l:List Value}{bs bs':List Item}{fs:List (World→Prop)}
 {d:Option Nat} {op:Op} {ty:TypeId} {pos:String} {af:Array Edge} {rest:List Oper} {v:Value} {t e:TypeId} {sz by_ n c:Nat} {z:Value} {p:Option Addr} {xs:List Value} {x y:Operand}
theorem run_cut {ρ:Operand→Value}{lc:Cx}{ol oh om:Option Operand}{lo hi mx:Nat}[Ev lc x (.slice p n c)][hl:EvB lc ol 0 lo][hh:EvB lc oh n hi][hx:EvB lc om c mx][Und P t (.slice e)][TI P e z sz by_](hf:Fr ρ lc)
  (h1:mx≤c) (h2:hi≤mx) (h3:lo≤hi) (hxh:om.isSome=true→oh.isSome=true) (w:World) :
  (xop ρ (.slice t x ol oh om) ty).run P w=.ok (.value (.slice (if mx=lo then p else p.map (·.add (lo*sz))) (hi - lo) (mx - lo))) w:=by
 have hsz:=run_size (P:=P) (t:=e) (z:=z) (s:=sz) (b:=by_) w;have eX:ρ x=.slice p n c:=hf.ev;have hb:(Instr.sliceBounds true n c (ol.map ρ) (oh.map ρ) (om.map ρ)).run P w=.ok (lo,hi,mx) w:=by
  rcases hx.eq with ⟨rfl,rfl⟩ | ⟨o,kk,rfl,h⟩
  rcases hh.eq with ⟨rfl,rfl⟩ | ⟨o2,kk2,rfl,h'⟩
  rcases hl.eq with ⟨rfl,rfl⟩ | ⟨o3,kk3,rfl,h''⟩
  simp[Instr.sliceBounds];have e3:=hf.ev (x:=o3) (v:=.int kk3 (lo:Int));simp[Instr.sliceBounds,e3,run_sliceBound h3];have e2:=hf.ev (x:=o2) (v:=.int kk2 (hi:Int));have h2':hi≤mx:=h2;rcases hl.eq with ⟨rfl,rfl⟩ | ⟨o3,kk3,rfl,h''⟩
  simp[Instr.sliceBounds,e2,run_sliceBound h2'];have e3:=hf.ev (x:=o3) (v:=.int kk3 (lo:Int));simp[Instr.sliceBounds,Sem.run_bind,e2,e3,run_sliceBound h2',run_sliceBound h3];have e1:=hf.ev (x:=o) (v:=.int kk (mx:Int));rcases hh.eq with ⟨rfl,rfl⟩ | ⟨o2,kk2,rfl,h'⟩
  exact absurd (hxh rfl) (by simp);have e2:=hf.ev (x:=o2) (v:=.int kk2 (hi:Int));rcases hl.eq with ⟨rfl,rfl⟩ | ⟨o3,kk3,rfl,h''⟩
  simp[Instr.sliceBounds,Sem.run_bind,e1,e2,run_sliceBound h1,run_sliceBound h2];have e3:=hf.ev (x:=o3) (v:=.int kk3 (lo:Int));simp[Instr.sliceBounds,Sem.run_bind,e1,e2,e3,run_sliceBound h1,run_sliceBound h2,run_sliceBound h3]
 have key:(Instr.slice t (.slice p n c) (ol.map ρ) (oh.map ρ) (om.map ρ)).run P w=.ok (.slice (if mx=lo then p else p.map (·.add (lo*sz))) (hi - lo) (mx - lo)) w:=by
  simp only[Instr.slice,Sem.run_bind,run_und,Result.andThen_ok,hb,hsz,Sem.run_pure]
 simp only[xop,execOp,Instr.sliceAt,eX,Sem.run_bind,run_und,Result.andThen_ok,Sem.run_pure];simp[key]
instance (priority:=700) opSliceQ {lc:Cx}{ol oh om:Option Operand}{lo hi mx:Nat}[Ev lc x (.slice p n c)][EvB lc ol 0 lo][EvB lc oh n hi][EvB lc om c mx][Und P t (.slice e)][TI P e z sz by_][h1:LeC mx c][h2:LeC hi mx][h3:LeC lo hi][h4:HiOk om oh] :
  OpQ P (.slice t x ol oh om) ty lc bs fs (.slice (if mx=lo then p else p.map (·.add (lo*sz))) (hi - lo) (mx - lo)):=⟨fun _ρ w h _=>run_cut h h1.le h2.le h3.le h4.ok w⟩
end
theorem ls_own_from {w:World}{e:TypeId}{p:Option Addr}{n c:Nat}{xs:List LTerm}(h:w.ownsRow 0 e 5 (.slice p n c) n (encL xs))(hk:∀ x∈xs,LtIn w x):∀ (k i:Nat),xs.length - i=k→i≤xs.length→LsIn w p i (xs.drop i)
 | 0,i,hi,hle=>by rw[List.drop_of_length_le (by omega)];simp[LsIn]
 | k+1,i,hi,hle=>by
  have hlt:i < xs.length:=by omega
  have hn:n=xs.length:=by
   have:=h.1;rw[encL_len]at this;have e5:Enc.sz LTerm=5:=rfl;rw[e5]at this;omega
  obtain ⟨g,cur,hp,_⟩:=own_cells h (by omega);rw[nth_drop hlt];refine ⟨⟨⟨g,0,none⟩,hp,fun j v hj=>?_⟩,hk _ (nth_mem hlt),ls_own_from h hk k (i+1) (by omega) hlt⟩;have hj5:j < 5:=(List.getElem?_eq_some_iff.1 hj).1;have h1:=encL_get xs i _ (nth_get hlt) j hj5;have h2:(encL xs)[i*5+j]? = some v:=by
   rw[←hj];exact h1
  have h3:=own_cell h h2;rw[hp]at h3;simp only[rAddr,Option.getD_some,add_add]at h3;exact h3
theorem ls_of_own {M:Nat→Prop}{w:World}{e:TypeId}{p:Option Addr}{n c:Nat}{xs:List LTerm}(h:w.ownsRow 0 e 5 (.slice p n c) n (encL xs))(hk:∀ x∈xs,Stable M w (LtF x))(hM:∀ ad,p=some ad→¬M ad.block):Stable M w (LsF p 0 xs):=fun w' hw'=>by
 have h':w'.ownsRow 0 e 5 (.slice p n c) n (encL xs):=row_loc e 5 p n c (encL xs) w w' (fun k hkf=>by
  obtain ⟨ad,h1,h2⟩:=hkf;exact hw'.blk (row_foot_lt h k ⟨ad,h1,h2⟩) (by rw[h2];exact hM ad h1)) h
 have:=ls_own_from h' (fun x hx=>hk x hx w' hw') _ 0 rfl (Nat.zero_le _);rw[List.drop_zero]at this;exact this
theorem St.apart2 {w0 M0 ds a w l bs fs}(S:St w0 M0 ds a w l bs fs)(x y:Item)[h:SubL [x,y] bs](k:Nat)(hk:x.foot k):¬y.foot k:=by
 have:=(S.wd.apart.sublist h.sub);simp only[List.pairwise_cons,List.mem_singleton,forall_eq]at this;exact this.1 k hk
def kvS (x:List UInt8 × Value):Value × Value:=(str x.1,x.2)
def enKV (e:MapEntry):Value × Value:=(e.key,e.val)
def mpi (b r:Nat)(kv done:List (List UInt8 × Value)):Item where
 foot:=fun k=>k=b∨k=r
 holds:=fun w=>∃ (es:Array MapEntry) (clock:Nat) (ds:List MapEntry),w.heap[b]? = some (.map es clock)∧es.toList.map enKV=kv.map kvS∧(∀ e∈es.toList,e.born < clock)∧(es.toList.map (·.born)).Nodup∧
  w.heap[r]? = some (.mapIter (some b) clock (ds.map (·.born)).toArray clock)∧(∀ e∈ds,e∈es.toList)∧(ds.map (·.born)).Nodup∧ds.map enKV=done.map kvS
class HasMpi (bs:List Item)(r:Nat)(b:outParam Nat)(kv done:outParam (List (List UInt8 × Value))):Prop where mem:mpi b r kv done∈bs
class HasMpiB (bs:List Item)(b:Nat)(kv:outParam (List (List UInt8 × Value))):Prop where mem:∃ r done,mpi b r kv done∈bs
section
variable {P:Program}{r0:Option Nat}{ops:Array Oper}{Q:Exit→Act→World→Prop}{w0:World}{M0:Nat→Prop}{ds:List Deferred}{a:Act}{w:World}{l:List Value}{bs:List Item}{fs:List (World→Prop)}
 {d:Option Nat} {op:Op} {ty:TypeId} {pos:String} {af:Array Edge} {rest:List Oper} {t kt et:TypeId} {x:Operand} {b:Nat} {kv:List (List UInt8 × Value)}
end
section
variable {P:Program}{r:Option Nat}{ops:Array Oper}{Q:Exit→Act→World→Prop}{w0:World}{M0:Nat→Prop}{ds:List Deferred}{a:Act}{w:World}{l:List Value}{bs:List Item}{fs:List (World→Prop)}
 {d:Option Nat} {ty:TypeId} {pos:String} {af:Array Edge} {rest:List Oper} {f:Nat} {x:Operand} {ys:List Operand} {args:List Value} {ts:Array TypeId}
theorem Wd.addItem {w':World}{y:Item}(hold:Wd w0 M0 w bs fs)(hw:Grow w w')(hy:y.holds w')(hfoot:∀ k,y.foot k→w.heap.size≤k)(hlt:∀ k,y.foot k→k < w'.heap.size)
  (hloc:∀ w1 w2:World,(∀ k,y.foot k→w2.heap[k]? = w1.heap[k]?)→y.holds w1→y.holds w2):Wd w0 M0 w' (y::bs) fs:=by
 refine (hold.step hw).more hy (fun k hk=>Nat.le_trans hold.agree.size (hfoot k hk)) hlt (fun it hi k hk hk'=>absurd (hold.lt it hi k hk') (by have:=hfoot k hk;omega)) (fun Φ hΦ w'' hw''=>?_) hloc;refine hold.facts Φ hΦ w'' ((hw.mono (fun _ _ h=>h.elim)).trans' hw'' fun i hi ⟨it,hm,hk⟩=>?_);rcases List.mem_cons.1 hm with rfl | hm
 exact absurd (hfoot i hk) (by omega);exact ⟨it,hm,hk⟩
end
end Go.Wk