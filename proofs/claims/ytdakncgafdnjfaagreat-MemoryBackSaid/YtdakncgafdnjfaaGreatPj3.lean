/- 3: a part of this claim's texts, joined: W5 OctetB RowRegress RowBase W6 PlainVault TreeA W7 MemA MemB. -/
import Derived.Test.YtdakncgafdnjfaaGreatPj2
import Derived.Test.YtdakncgafdnjfaaGreatRows
import Derived.RecoverIn
import Derived.OpenShut
namespace Go.Wk
open Go Go.Deep Go.ChangeShapes Go.WideShapes Go.ChangeAt Go.RowKit
section
variable {H:Type} {enc:TypeId × Value→H} {P:Program} {w:World} {base:Nat} {spare:Nat→Bool} {held:Bool} {L:TypeId}
end
section
variable {w0:World} {M0:Nat→Prop} {ds:List Deferred} {a:Act} {w:World} {l:List Value} {bs:List Item} {fs:List (World→Prop)}
theorem St.cutRow {bs':List Item} {e:TypeId} {sz c:Nat} {xs:List Value} (S:St w0 M0 ds a w l bs fs) (p:Option Addr) (m n:Nat) [hr:HasRow bs p n e sz c xs] [hrep:ReplI bs (Wk.row e sz p n c xs) (Wk.row e sz p m c (xs.take (m*sz))) bs'] (hle:m≤n):St w0 M0 ds a w l bs' fs:=by
 have hrow:=S.row p n
 have hown:w.ownsRow 0 e sz (.slice p m c) m (xs.take (m*sz)):=by
  refine ⟨by rw[List.length_take,hrow.1,Nat.min_eq_left (Nat.mul_le_mul_right _ hle)],?_⟩
  rcases hrow.2 with ⟨hv,rfl⟩ | ⟨g,cap,cur,hv,hb,hg,hnc,hcm,hcs,ht⟩
  cases hv
  exact .inl ⟨by rw[show m=0 from by omega],by omega⟩
  cases hv
  exact .inr ⟨g,c,cur,rfl,hb,hg,by omega,hcm,hcs,by rw[←ht,List.take_take,Nat.min_eq_left (Nat.mul_le_mul_right _ hle)]⟩
 exact S.reput (x:=Wk.row e sz p n c xs) (y:=Wk.row e sz p m c (xs.take (m*sz))) S.slots S.defers rfl (Agree.refl _ _) hown (fun k h=>.inl h) (row_foot_lt hown) (row_loc _ _ _ _ _ _)
theorem own_le {w:World} {e:TypeId} {sz:Nat} {p:Option Addr} {n c:Nat} {xs:List Value} (h:w.ownsRow 0 e sz (.slice p n c) n xs):n≤c:=by
 rcases h.2 with ⟨hv,h0⟩ | ⟨g,cap,cur,hv,hb,hg,hnc,hcm,hcs,ht⟩
 omega
 cases hv;exact hnc
end
def AllL (L:List LTerm):World→Prop:=fun w=>∀ x∈L,LtIn w x
theorem AllL.stable {M:Nat→Prop} {w:World} {L:List LTerm} (h:∀ x∈L,Stable M w (LtF x)):Stable M w (AllL L):=fun w' hw x hx=>h x hx w' hw
theorem AllL.get {M:Nat→Prop} {w:World} {L:List LTerm} (h:Stable M w (AllL L)) {x:LTerm} (hx:x∈L):Stable M w (LtF x):=fun w' hw=>h w' hw x hx
def nthI (ys:List Int) (k:Nat):Int:=ys.getD k 0
theorem nthI_get {ys:List Int} {k:Nat} (h:k < ys.length):ys[k]? = some (nthI ys k):=by simp[nthI,h]
theorem SlF.nil {p:Option Addr} {w:World} : SlF p [] w:=⟨fun _=>rfl,fun _ _ j u hj=>by simp at hj⟩
section
variable {P:Program} {l lc:Cx} {bs:List Item} {fs:List (World→Prop)} {x y:Operand} {p:Option Addr} {n c k:Nat} {kk:IntKind} {m:Int} {ys:List Int} {t ty e:TypeId} {z:Value} {by_:Nat}
end
class Lay (α:Type) extends Enc α where
 dflt:α
 inn:World→α→Prop
 mono:∀ (w w':World) (x:α),(∀ ad v,w.cell? ad=some v→w'.cell? ad=some v)→inn w x→inn w' x
instance layI:Lay Int:={ encI with dflt:=0,inn:=fun _ _=>True,mono:=fun _ _ _ _ h=>h }
instance layS:Lay (List UInt8):={ encS with dflt:=[],inn:=fun _ _=>True,mono:=fun _ _ _ _ h=>h }
instance layT:Lay LTerm:={ encT with dflt:=zeroL,inn:=LtIn,mono:=fun _ _ x h hx=>LtIn.mono h x hx }
instance encBo:Enc Bool:=⟨1,fun b=>[.bool b],fun _=>rfl,fun x u hu=>by obtain rfl:=List.mem_singleton.1 hu;rfl⟩
instance layBo:Lay Bool:={ encBo with dflt:=false,inn:=fun _ _=>True,mono:=fun _ _ _ _ h=>h }
instance layB:Lay UInt8:={ encB with dflt:=0,inn:=fun _ _=>True,mono:=fun _ _ _ _ h=>h }
def InF {α:Type} [Lay α] (x:α):World→Prop:=fun w=>Lay.inn w x
def GlF {α:Type} [Lay α] (p:Option Addr) (xs:List α):World→Prop:=fun w=>SlF p (encL xs) w∧∀ x∈xs,Lay.inn w x
def nthG {α:Type} [Lay α] (xs:List α) (k:Nat):α:=xs.getD k Lay.dflt
theorem nthG_get {α:Type} [Lay α] {xs:List α} {k:Nat} (h:k < xs.length):xs[k]? = some (nthG xs k):=by simp[nthG,h]
theorem nthG_mem {α:Type} [Lay α] {xs:List α} {k:Nat} (h:k < xs.length):nthG xs k∈xs:=List.mem_of_getElem? (nthG_get h)
theorem nthG_drop {α:Type} [Lay α] {xs:List α} {k:Nat} (h:k < xs.length):xs.drop k=nthG xs k::xs.drop (k+1):=by
 rw[List.drop_eq_getElem_cons h]
 congr 1
 simp[nthG,h]
theorem nthG_take {α:Type} [Lay α] {xs:List α} {k:Nat} (h:k < xs.length):xs.take (k+1)=xs.take k++[nthG xs k]:=by
 rw[List.take_add_one,nthG_get h];rfl
def gAddr (p:Option Addr) (k sz off:Nat):Addr:=(p.getD ⟨0,0,none⟩).add (k*sz+off)
structure Sl (α:Type) where
 p:Option Addr
 cap:Nat
 xs:List α
abbrev Sl.v {α:Type} (s:Sl α):Value:=.slice s.p s.xs.length s.cap
instance encSl {α:Type} : Enc (Sl α):=⟨1,fun s=>[s.v],fun _=>rfl,fun x u hu=>by obtain rfl:=List.mem_singleton.1 hu;rfl⟩
theorem SlF.mono {p:Option Addr} {xs:List Value} {w w':World} (h:∀ ad v,w.cell? ad=some v→w'.cell? ad=some v) (hs:SlF p xs w):SlF p xs w':=⟨hs.1,fun ad hp j u hj=>h _ _ (hs.2 ad hp j u hj)⟩
theorem GlF.mono {α:Type} [Lay α] {p:Option Addr} {xs:List α} {w w':World} (h:∀ ad v,w.cell? ad=some v→w'.cell? ad=some v) (hs:GlF p xs w):GlF p xs w':=⟨hs.1.mono h,fun x hx=>Lay.mono w w' x h (hs.2 x hx)⟩
instance laySl {α:Type} [Lay α]:Lay (Sl α):={ encSl with
 dflt:=⟨none,0,[]⟩
 inn:=fun w s=>s.xs.length≤s.cap∧s.cap≤maxLen∧GlF s.p s.xs w
 mono:=fun _ _ _ h hx=>⟨hx.1,hx.2.1,hx.2.2.mono h⟩ }
theorem GlF.stable {α:Type} [Lay α] {w:World} {p:Option Addr} {xs:List α} (h:GlF p xs w):Stable (fun _=>False) w (GlF p xs):=fun _ hw'=>h.mono fun _ _ hc=>cell_agree hw' hc
theorem gl_nil {α:Type} [Lay α] {w:World} {p:Option Addr} : GlF (α:=α) p [] w:=⟨SlF.nil,fun _ h=>by cases h⟩
theorem gl_some {α:Type} [Lay α] {w:World} {p:Option Addr} {xs:List α} (h:GlF p xs w) {k:Nat} (hk:k < xs.length) (hz:0 < Enc.sz α):∃ ad,p=some ad:=by
 cases hp:p with
 | some ad=>exact ⟨ad,rfl⟩
 | none=>
  have h1:=congrArg List.length (h.1.1 hp)
  rw[encL_len]at h1
  have h2:xs.length*Enc.sz α=0:=h1
  rcases Nat.mul_eq_zero.1 h2 with h3 | h3 <;> omega
theorem gl_cell {α:Type} [Lay α] {w:World} {p:Option Addr} {xs:List α} (h:GlF p xs w) {k:Nat} (hk:k < xs.length) {j:Nat} {u:Value} (hj:(Enc.cells (nthG xs k))[j]? = some u):w.cell? (gAddr p k (Enc.sz α) j)=some u:=by
 have hjs:j < Enc.sz α:=by
  have:=(List.getElem?_eq_some_iff.1 hj).1
  rwa [Enc.len]at this
 obtain ⟨ad,rfl⟩:=gl_some h hk (by omega)
 exact h.1.2 ad rfl _ _ ((encL_get xs k _ (nthG_get hk) j hjs).trans hj)
class HasG (fs:List (World→Prop)) (p:Option Addr) (α:outParam Type) (i:outParam (Lay α)) (xs:outParam (List α)):Prop where
 of:∀ (M:Nat→Prop) (w:World),(∀ Φ∈fs,Stable M w Φ)→Stable M w (GlF p xs)
instance hasg0 {α:Type} [i:Lay α] {fs:List (World→Prop)} {p:Option Addr} {xs:List α} : HasG (GlF p xs::fs) p α i xs:=⟨fun _ _ h=>h _ (by simp)⟩
instance (priority:=900) hasgS {α:Type} {i:Lay α} {fs:List (World→Prop)} {Φ:World→Prop} {p:Option Addr} {xs:List α} [h:HasG fs p α i xs]:HasG (Φ::fs) p α i xs:=⟨fun M w hf=>h.of M w fun Ψ hΨ=>hf Ψ (by simp[hΨ])⟩
class HasGx (fs:List (World→Prop)) {α:Type} [Lay α] (xs:List α):Prop where
 of:∀ (M:Nat→Prop) (w:World),(∀ Φ∈fs,Stable M w Φ)→∃ p,Stable M w (GlF p xs)
instance hasgx0 {α:Type} [i:Lay α] {fs:List (World→Prop)} {p:Option Addr} {xs:List α} : HasGx (GlF p xs::fs) xs:=⟨fun _ _ h=>⟨p,h _ (by simp)⟩⟩
instance (priority:=900) hasgxS {α:Type} [i:Lay α] {fs:List (World→Prop)} {Φ:World→Prop} {xs:List α} [h:HasGx fs xs]:HasGx (Φ::fs) xs:=⟨fun M w hf=>h.of M w fun Ψ hΨ=>hf Ψ (by simp[hΨ])⟩
class HasI (fs:List (World→Prop)) {α:Type} [Lay α] (x:α):Prop where
 of:∀ (M:Nat→Prop) (w:World),(∀ Φ∈fs,Stable M w Φ)→Stable M w (InF x)
instance (priority:=850) hasgI {α:Type} [i:Lay α] {fs:List (World→Prop)} {s:Sl α} [h:HasI fs s]:HasG fs s.p α i s.xs:=⟨fun M w hf=>(h.of M w hf).imp fun _ h=>h.2.2⟩
instance (priority:=850) hasgxI {α:Type} [i:Lay α] {fs:List (World→Prop)} {s:Sl α} [h:HasI fs s]:HasGx fs s.xs:=⟨fun M w hf=>⟨s.p,(h.of M w hf).imp fun _ h=>h.2.2⟩⟩
section
variable {α:Type} [Lay α] {w0:World} {M0:Nat→Prop} {ds:List Deferred} {a:Act} {w:World} {l:List Value} {bs:List Item} {fs:List (World→Prop)}
theorem St.gl {α:Type} {i:Lay α} (S:St w0 M0 ds a w l bs fs) (p:Option Addr) {xs:List α} [h:HasG fs p α i xs]:Stable (foots bs) w (GlF p xs):=h.of _ _ S.wd.facts
theorem St.gl0 {α:Type} {i:Lay α} (S:St w0 M0 ds a w l bs fs) (p:Option Addr) {xs:List α} [h:HasG fs p α i xs]:Stable (fun _=>False) w (GlF p xs):=(S.gl p).less fun _ _ h=>h.elim
theorem gl_of_own {M:Nat→Prop} {e:TypeId} {p:Option Addr} {n c sz:Nat} {xs:List α} (h:w.ownsRow 0 e sz (.slice p n c) n (encL xs)) (hk:∀ x∈xs,Stable M w (InF x)) (hM:∀ ad,p=some ad→¬M ad.block):Stable M w (GlF p xs):=fun w' hw'=>
 ⟨SlF.stable (own_sl h) hM w' hw',fun x hx=>hk x hx w' hw'⟩
end
class SzE (α:Type) [Lay α] (n:outParam Nat):Prop where
 eq:Enc.sz α=n
 pos:0 < n
instance:SzE Int 1:=⟨rfl,by decide⟩
instance:SzE UInt8 1:=⟨rfl,by decide⟩
class CellsOf {α:Type} [Lay α] (x:α) (cs:outParam (List Value)):Prop where eq:Enc.cells x=cs
instance {x:Int} : CellsOf x [.int .i64 x]:=⟨rfl⟩
instance {x:UInt8} : CellsOf x [.int .u8 x.toNat]:=⟨rfl⟩
section
variable {P:Program} {l:Cx} {bs:List Item} {fs:List (World→Prop)} {x y:Operand} {p:Option Addr} {n c k sz off:Nat} {kk:IntKind} {m:Int} {t ty e:TypeId} {z:Value} {by_:Nat} {α:Type} {i:Lay α} {xs:List α}
instance (priority:=880) opIdxG [Ev l x (.slice p n c)] [Ev l y (.int kk m)] [Und P t (.slice e)] [TI P e z sz by_] [hm:IsNat m k] [hl:HasG fs p α i xs] [hs:SzE α sz] [hk:KLt k n] [hk':KLt k xs.length] :
  OpQ P (.indexAddr t x y) ty l bs fs (.pointer (some (gAddr p k sz 0))):=⟨fun ρ w h mm=>by
 have hlt:=hk.lt
 obtain ⟨ad,rfl⟩:=gl_some (hl.of _ _ mm.facts).now hk'.lt (by rw[hs.eq];exact hs.pos)
 have h2:=hm.eq
 subst h2
 simp[xop,execOp,h.ev (x:=x) (v:=.slice (some ad) n c),h.ev (x:=y) (v:=.int kk (k:Int))]
 simp[run_indexAt (P:=P) (t:=t) (e:=e) (z:=z) (sz:=sz) (by_:=by_) (Int.natCast_nonneg k) (Int.ofNat_lt.2 hlt),gAddr]⟩
theorem gAddr_add (p:Option Addr) (k sz o j:Nat):(gAddr p k sz o).add j=gAddr p k sz (o+j):=by simp only[gAddr,add_add,Nat.add_assoc]
theorem gl_cells {cs:List Value} {w:World} [hs:SzE α sz] (h:GlF p xs w) (hk:k < xs.length) [hc:CellsOf (nthG xs k) cs] {j:Nat} {u:Value} (hj:cs[j]? = some u):w.cell? (gAddr p k sz j)=some u:=by
 rw[←hs.eq]
 exact gl_cell h hk (by rw[hc.eq];exact hj)
instance (priority:=780) opLoadG1 {v:Value} {cs:List Value} [Ev l x (.pointer (some (gAddr p k sz off)))] [ha:AggT P t false] [hl:HasG fs p α i xs] [hs:SzE α sz] [hk:KLt k xs.length] [hc:CellsOf (nthG xs k) cs] [hn:Nth cs off v] :
  OpQ P (.load t x) ty l bs fs v:=⟨fun ρ w h mm=>by
 have h1:=gl_cells (hl.of _ _ mm.facts).now hk.lt hn.eq
 simp[xop,execOp,Instr.loadAt,h.ev (x:=x) (v:=.pointer (some (gAddr p k sz off))),Instr.sureAddr,loadVar,Sem.run_bind,ha.run,load,Sem.run,h1]⟩
instance (priority:=780) opLoadGA {cs vs:List Value} [Ev l x (.pointer (some (gAddr p k sz off)))] [ha:AggT P t true] [TI P t z n by_] [hl:HasG fs p α i xs] [hs:SzE α sz] [hk:KLt k xs.length] [hc:CellsOf (nthG xs k) cs] [hn:Seg cs off n vs] :
  OpQ P (.load t x) ty l bs fs (.agg ⟨vs⟩):=⟨fun ρ w h mm=>by
 have hlc:=run_loadCells_list (P:=P) w (gAddr p k sz off) vs (fun j v hj=>by
  have hjn:j < n:=by rw[←hn.eq.1];exact (List.getElem?_eq_some_iff.1 hj).1
  rw[gAddr_add]
  exact gl_cells (hl.of _ _ mm.facts).now hk.lt ((hn.eq.2 j hjn).trans hj))
 rw[hn.eq.1]at hlc
 simp[xop,execOp,Instr.loadAt,h.ev (x:=x) (v:=.pointer (some (gAddr p k sz off))),Instr.sureAddr,loadVar,Sem.run_bind,ha.run,run_size,hlc]⟩
instance (priority:=860) srcG {tx:TypeId} [h:Und P tx (.slice e)] [hr:HasG fs p α i xs] [hs:SzE α sz] [hn:LenN xs n]:SrcV P tx (.slice p n c) bs fs sz n (encL xs):=⟨fun w mm=>
 src_sl h.eq (hr.of _ _ mm.facts).now.1 (by rw[encL_len,hn.eq,hs.eq]) (encL_one xs) hs.pos⟩
end
class Tro (P:Program) (T:TypeId) (α:Type) [Lay α]:Prop where
 of:∀ {H:Type} (enc:TypeId × Value→H) (w:World) (base:Nat) (spare:Nat→Bool) (held:Bool) (fuel:Nat) (cs:List Value) (x:DataW H × List MemPlace),DataW.trod enc P w base spare held fuel T cs=some x→∃ a:α,cs=Enc.cells a∧Lay.inn w a
 size:P.cellsOf T=Enc.sz α
theorem str_of (s:ByteArray):Value.string s=str s.data.toList:=by simp[str]
theorem troI {P:Program} {T:TypeId} (hu:P.underlying T=some (.int .i64)) (hs:P.cellsOf T=1):Tro P T Int:=⟨fun enc w base spare held fuel cs x h=>by
 obtain ⟨k,e0,_,_⟩:=DataW.trod_int hu h
 exact ⟨k,e0,trivial⟩,hs⟩
theorem troB {P:Program} {T:TypeId} (hu:P.underlying T=some (.int .u8)) (hs:P.cellsOf T=1):Tro P T UInt8:=⟨fun enc w base spare held fuel cs x h=>by
 obtain ⟨k,e0,_,hw⟩:=DataW.trod_int hu h
 have hr:0≤k∧k < 256:=by
  simp[Lit.wf,IntKind.min,IntKind.max,IntKind.bits,IntKind.signed]at hw
  omega
 refine ⟨UInt8.ofNat k.toNat,?_,trivial⟩
 rw[e0]
 show _=[Value.int .u8 ((UInt8.ofNat k.toNat).toNat:Int)]
 rw[UInt8.toNat_ofNat_of_lt' (by show k.toNat < 256;omega)]
 congr 2;omega,hs⟩
theorem troS {P:Program} {T:TypeId} (hu:P.underlying T=some .string) (hs:P.cellsOf T=1):Tro P T (List UInt8):=⟨fun enc w base spare held fuel cs x h=>by
 obtain ⟨s,e0,_⟩:=DataW.trod_string hu h
 exact ⟨s.data.toList,by rw[e0,str_of];rfl,trivial⟩,hs⟩
theorem troSl {P:Program} {T L:TypeId} {α:Type} [Lay α] [hT:Tro P T α] (hu:P.underlying L=some (.slice T)) (hs:P.cellsOf L=1):Tro P L (Sl α):=⟨fun enc w base spare held fuel cs x h=>by
 rcases DataW.trod_slice hu h with ⟨e4,_⟩ | ⟨ad,len,cap,elems,rest,n',rfl,e4,_,_,hlc,hcm,hel,hem,_,_⟩
 exact ⟨⟨none,0,[]⟩,e4,Nat.le_refl _,Nat.zero_le _,gl_nil⟩
 subst e4
 have:Inhabited α:=⟨Lay.dflt⟩
 obtain ⟨g,hg⟩:=choose_lt (α:=α) (p:=fun i t=>w.cells? base (ad.add (i*Enc.sz α)) (Enc.sz α)=some (Enc.cells t)∧Lay.inn w t) (n:=len) (fun i hi=>by
  have h1:=hem i hi
  rw[hT.size,List.getElem?_eq_getElem (by omega)]at h1
  obtain ⟨cs',h2,h3⟩:=Option.bind_eq_some_iff.1 h1
  obtain ⟨t,rfl,ht⟩:=hT.of _ _ _ _ _ _ _ _ h3
  exact ⟨t,h2,ht⟩)
 refine ⟨⟨some ad,cap,(List.range len).map g⟩,by simp[Enc.cells,Sl.v],by simpa using hlc,hcm,⟨fun h=>(by cases h),fun ad' hp j u hj=>?_⟩,fun t ht=>?_⟩
 obtain rfl:ad=ad':=by simpa using hp
 have hjl:j < len*Enc.sz α:=by
  have:=(List.getElem?_eq_some_iff.1 hj).1
  rw[encL_len]at this;simpa using this
 have hz:0 < Enc.sz α:=Nat.pos_of_ne_zero fun h0=>by rw[h0]at hjl;omega
 have hi:j / Enc.sz α < len:=(Nat.div_lt_iff_lt_mul hz).2 hjl
 have hm:j % Enc.sz α < Enc.sz α:=Nat.mod_lt _ hz
 have hdm:j / Enc.sz α*Enc.sz α+j % Enc.sz α=j:=Nat.div_add_mod' j _
 obtain ⟨hc,-⟩:=hg _ hi
 obtain ⟨_,_,h5⟩:=World.cells?_some hc
 have h6:=h5 _ hm
 have h7:=encL_get ((List.range len).map g) (j / Enc.sz α) (g (j / Enc.sz α)) (by simp[hi]) _ hm
 rw[hdm,hj]at h7
 rw[Go.Deep.add_add,hdm]at h6
 rw[h6,←h7]
 obtain ⟨i,hi,rfl⟩:=List.mem_map.1 ht
 exact (hg i (List.mem_range.1 hi)).2,hs⟩
theorem trod_flds {H:Type} {enc:TypeId × Value→H} {P:Program} {w:World} {base:Nat} {spare:Nat→Bool} {held:Bool} {T:TypeId} {fs:Array Field} (hu:P.underlying T=some (.struct fs)) {fuel:Nat} {cs:List Value} {x:DataW H × List MemPlace} (h:DataW.trod enc P w base spare held fuel T cs=some x) :
  cs.length=P.cellsOf T∧∀ (i t o:Nat),(fs.toList.map (fun f=>(f.type,f.offset)))[i]? = some (t,o)→∃ n y,DataW.trod enc P w base spare held n t ((cs.drop o).take (P.cellsOf t))=some y:=by
 obtain ⟨xs,n,rfl,rfl,hlen,hxl,hx⟩:=DataW.trod_struct hu h
 refine ⟨hlen,fun i t o hi=>?_⟩
 rw[List.getElem?_map]at hi
 obtain ⟨f,hf1,hf2⟩:=Option.map_eq_some_iff.1 hi
 simp only[Prod.mk.injEq]at hf2
 obtain ⟨rfl,rfl⟩:=hf2
 have hlt:i < fs.size:=by simpa using (List.getElem?_eq_some_iff.1 hf1).1
 have:=hx i f (by simpa using hf1)
 rw[List.getElem?_eq_getElem (by omega)]at this
 exact ⟨n,_,this⟩
theorem trod_fld {H:Type} {enc:TypeId × Value→H} {P:Program} {w:World} {base:Nat} {spare:Nat→Bool} {held:Bool} {T:TypeId} {α:Type} [Lay α] [hT:Tro P T α] {n:Nat} {cs:List Value} {y:DataW H × List MemPlace} {o s:Nat} (h:DataW.trod enc P w base spare held n T ((cs.drop o).take s)=some y) (hs:s=P.cellsOf T) :
  ∃ a:α,(cs.drop o).take (Enc.sz α)=Enc.cells a∧Lay.inn w a:=by
 subst hs
 obtain ⟨a,h1,h2⟩:=hT.of _ _ _ _ _ _ _ _ h
 exact ⟨a,by rw[←hT.size];exact h1,h2⟩
theorem troT {P:Program} {T:TypeId} [hT:TermTy P T]:Tro P T LTerm:=⟨fun enc w base spare held fuel cs x h=>term_of_trod fuel cs x h,by obtain ⟨fs,I,S,L,hu,hf,hI,hS,hL,c1,c2,c3,c4⟩:=hT.ex;exact c1⟩
theorem struct_of_Trod {P:Program} {T:TypeId} {α:Type} [Lay α] [hT:Tro P T α] {H:Type} {enc:TypeId × Value→H} {w:World} {base:Nat} {spare:Nat→Bool} {held:Bool} {fs:Array Field} (hu:P.underlying T=some (.struct fs)) {v:Value} {d:DataW H} {p:List MemPlace} {r:Reach} {W:World} {base':Nat} (h:DataW.Trod enc P w base spare held T v d p) (hv:Value.okWide P W r base' T v) :
  ∃ a:α,v=.agg ⟨Enc.cells a⟩∧Lay.inn w a:=by
 obtain ⟨cs,rfl,_⟩:=okWide_struct hu hv
 obtain ⟨fuel,hf⟩:=h
 obtain ⟨a,e,ha⟩:=hT.of _ _ _ _ _ _ _ _ hf
 refine ⟨a,?_,ha⟩
 have:cs.toList=Enc.cells a:=by simpa [Value.cells] using e
 rw[←this]
theorem slice_of_Trod {P:Program} {L T:TypeId} {α:Type} [Lay α] [hT:Tro P L (Sl α)] {H:Type} {enc:TypeId × Value→H} {w:World} {base:Nat} {spare:Nat→Bool} {held:Bool} (hu:P.underlying L=some (.slice T)) {v:Value} {d:DataW H} {p:List MemPlace} {r:Reach} {W:World} {base':Nat} (h:DataW.Trod enc P w base spare held L v d p) (hv:Value.okWide P W r base' L v) :
  ∃ s:Sl α,v=s.v∧s.xs.length≤s.cap∧s.cap≤maxLen∧GlF s.p s.xs w:=by
 obtain ⟨a,len,cap,rfl⟩:=okWide_slice hu hv
 obtain ⟨fuel,hf⟩:=h
 obtain ⟨s,e,hs⟩:=hT.of _ _ _ _ _ _ _ _ hf
 refine ⟨s,?_,hs⟩
 have:[Value.slice a len cap]=[s.v]:=by simpa [Value.cells,Enc.cells] using e
 simpa using this
open Go
class SetG (l:List Value) (ms:List (Nat × Value)) (l':outParam (List Value)):Prop where ok:True
instance setg0 {l:List Value} : SetG l [] l:=⟨trivial⟩
instance setg1 {u v:Value} {l l':List Value} {ms:List (Nat × Value)} [SetG l ms l']:SetG (u::l) ((0,v)::ms) (v::l'):=⟨trivial⟩
instance setg2 {u v:Value} {g:Nat} {l l':List Value} {ms:List (Nat × Value)} [SetG l ((g,v)::ms) l']:SetG (u::l) ((g+1,v)::ms) (u::l'):=⟨trivial⟩
section
variable {P:Program} {r:Option Nat} {Q:Exit→Act→World→Prop} {w0:World} {M0:Nat→Prop} {ds:List Deferred} {a:Act} {w:World} {l:List Value} {bs:List Item} {fs:List (World→Prop)}
theorem c_mrge0 {x y:Code}  (S:St w0 M0 ds a w l bs fs) (mods:(Nat→Value)→List (Nat × Value)) {l1:(Nat→Value)→List Value} [∀ uu,SetG l (mods uu) (l1 uu)] (bs1:List Item) (fs1:List (World→Prop)) (rel:Prop)
  (hx:Wp P r x (Exit.then (fun a w=>∃ vv,rel∧St w0 M0 ds a w (l1 vv) bs1 fs1) Q) a w) (hy:∀  uu a w,rel→St w0 M0 ds a w (l1 uu) bs1 fs1→Wp P r y Q a w):Wp P r (.seq x y) Q a w:=
 c_merge _ hx fun a w h=>by obtain ⟨vv,h1,h2⟩:=h;exact hy  vv a w h1 h2
theorem c_drwe0 {id:Nat} {lo:List Oper}  (t:Tr) (S:St w0 M0 ds a w l bs fs) (mods:(Nat→Value)→List (Nat × Value)) {l1:(Nat→Value)→List Value} [∀ uu,SetG l (mods uu) (l1 uu)] (bs0:List Item) (bs1:List Item) (fs1:List (World→Prop)) (rel:Prop)
  (h:∀ w,St w0 M0 ds a w l bs fs→AT P lo.toArray (fun w=>Wd w0 M0 w bs0 fs) (fun a w=>∃ vv,rel∧St w0 M0 ds a w (l1 vv) bs1 fs1) t a w) (hK:∀  uu a w,rel→St w0 M0 ds a w (l1 uu) bs1 fs1→Q .normal a w) (hm:P.follows .mixedOrders=true:=by kernel_rfl)
  (hd:((lo.all fun o=>!isDefer o.op)&&(Nat.beq t.len lo.length&&(Region.noSelect lo.toArray&&flowT lo.toArray t (Array.replicate lo.length false))))=true:=by kernel_rfl):Wp P r (.region id lo.toArray true) Q a w:=
 c_drawT t bs0 S _ h (fun a w h=>by obtain ⟨vv,h1,h2⟩:=h;exact hK  vv a w h1 h2) hm hd
theorem c_fore1 {c:Code} {ι1:Type} (_S:St w0 M0 ds a w l bs fs) (mods:ι1→(Nat→Value)→List (Nat × Value)) {l1:ι1→(Nat→Value)→List Value} [∀ x1 uu,SetG l (mods x1 uu) (l1 x1 uu)] (bs1:ι1→List Item) (fs1:ι1→List (World→Prop)) (rel:ι1→Prop) (μ:ι1→Nat) (z1:ι1) (h0:rel z1) (uu0:Nat→Value) (S0:St w0 M0 ds a w (l1 z1 uu0) (bs1 z1) (fs1 z1))
  (hr:∀ x1 uu a w,rel x1→St w0 M0 ds a w (l1 x1 uu) (bs1 x1) (fs1 x1)→Wp P r c (Exit.then (fun a w=>∃ y1 vv,rel y1∧St w0 M0 ds a w (l1 y1 vv) (bs1 y1) (fs1 y1)∧μ y1 < μ x1) Q) a w):Wp P r (.loop c) Q a w:=by
 refine c_loop (ι:=ι1) (fun p a w=>rel p∧∃ uu,St w0 M0 ds a w (l1 p uu) (bs1 p) (fs1 p)) (fun p=>μ p) (z1) ⟨h0,uu0,S0⟩ ?_
 rintro p a w ⟨h1,uu,S1⟩
 refine wpIn_mono (hr p uu a w h1 S1) fun e a1 w1 hq=>?_
 cases e <;> first | exact hq | skip
 obtain ⟨y1,vv,h2,S2,hm⟩:=hq
 exact ⟨y1,⟨h2,vv,S2⟩,hm⟩
theorem c_mrge1 {x y:Code} {ι1:Type} (_S:St w0 M0 ds a w l bs fs) (mods:ι1→(Nat→Value)→List (Nat × Value)) {l1:ι1→(Nat→Value)→List Value} [∀ x1 uu,SetG l (mods x1 uu) (l1 x1 uu)] (bs1:ι1→List Item) (fs1:ι1→List (World→Prop)) (rel:ι1→Prop)
  (hx:Wp P r x (Exit.then (fun a w=>∃ y1 vv,rel y1∧St w0 M0 ds a w (l1 y1 vv) (bs1 y1) (fs1 y1)) Q) a w) (hy:∀ x1 uu a w,rel x1→St w0 M0 ds a w (l1 x1 uu) (bs1 x1) (fs1 x1)→Wp P r y Q a w):Wp P r (.seq x y) Q a w:=
 c_merge _ hx fun a w h=>by obtain ⟨y1,vv,h1,h2⟩:=h;exact hy y1 vv a w h1 h2
theorem c_drwe1 {id:Nat} {lo:List Oper} {ι1:Type} (t:Tr) (S:St w0 M0 ds a w l bs fs) (mods:ι1→(Nat→Value)→List (Nat × Value)) {l1:ι1→(Nat→Value)→List Value} [∀ x1 uu,SetG l (mods x1 uu) (l1 x1 uu)] (bs0:List Item) (bs1:ι1→List Item) (fs1:ι1→List (World→Prop)) (rel:ι1→Prop)
  (h:∀ w,St w0 M0 ds a w l bs fs→AT P lo.toArray (fun w=>Wd w0 M0 w bs0 fs) (fun a w=>∃ y1 vv,rel y1∧St w0 M0 ds a w (l1 y1 vv) (bs1 y1) (fs1 y1)) t a w) (hK:∀ x1 uu a w,rel x1→St w0 M0 ds a w (l1 x1 uu) (bs1 x1) (fs1 x1)→Q .normal a w) (hm:P.follows .mixedOrders=true:=by kernel_rfl)
  (hd:((lo.all fun o=>!isDefer o.op)&&(Nat.beq t.len lo.length&&(Region.noSelect lo.toArray&&flowT lo.toArray t (Array.replicate lo.length false))))=true:=by kernel_rfl):Wp P r (.region id lo.toArray true) Q a w:=
 c_drawT t bs0 S _ h (fun a w h=>by obtain ⟨y1,vv,h1,h2⟩:=h;exact hK y1 vv a w h1 h2) hm hd
theorem c_forb1 {c:Code} {ι1:Type} (_S:St w0 M0 ds a w l bs fs) (mods:ι1→(Nat→Value)→List (Nat × Value)) {l1:ι1→(Nat→Value)→List Value} [∀ x1 uu,SetG l (mods x1 uu) (l1 x1 uu)]   (rel:ι1→Prop) (μ:ι1→Nat) (z1:ι1) (h0:rel z1) (uu0:Nat→Value) (S0:St w0 M0 ds a w (l1 z1 uu0) bs fs)
  (hr:∀ x1 uu a w,rel x1→St w0 M0 ds a w (l1 x1 uu) bs fs→Wp P r c (Exit.then (fun a w=>∃ y1 vv,rel y1∧St w0 M0 ds a w (l1 y1 vv) bs fs∧μ y1 < μ x1) Q) a w):Wp P r (.loop c) Q a w:=by
 refine c_loop (ι:=ι1) (fun p a w=>rel p∧∃ uu,St w0 M0 ds a w (l1 p uu) bs fs) (fun p=>μ p) (z1) ⟨h0,uu0,S0⟩ ?_
 rintro p a w ⟨h1,uu,S1⟩
 refine wpIn_mono (hr p uu a w h1 S1) fun e a1 w1 hq=>?_
 cases e <;> first | exact hq | skip
 obtain ⟨y1,vv,h2,S2,hm⟩:=hq
 exact ⟨y1,⟨h2,vv,S2⟩,hm⟩
theorem c_forf1 {c:Code} {ι1:Type} (_S:St w0 M0 ds a w l bs fs) (mods:ι1→(Nat→Value)→List (Nat × Value)) {l1:ι1→(Nat→Value)→List Value} [∀ x1 uu,SetG l (mods x1 uu) (l1 x1 uu)] (bs1:ι1→List Item)  (rel:ι1→Prop) (μ:ι1→Nat) (z1:ι1) (h0:rel z1) (uu0:Nat→Value) (S0:St w0 M0 ds a w (l1 z1 uu0) (bs1 z1) fs)
  (hr:∀ x1 uu a w,rel x1→St w0 M0 ds a w (l1 x1 uu) (bs1 x1) fs→Wp P r c (Exit.then (fun a w=>∃ y1 vv,rel y1∧St w0 M0 ds a w (l1 y1 vv) (bs1 y1) fs∧μ y1 < μ x1) Q) a w):Wp P r (.loop c) Q a w:=by
 refine c_loop (ι:=ι1) (fun p a w=>rel p∧∃ uu,St w0 M0 ds a w (l1 p uu) (bs1 p) fs) (fun p=>μ p) (z1) ⟨h0,uu0,S0⟩ ?_
 rintro p a w ⟨h1,uu,S1⟩
 refine wpIn_mono (hr p uu a w h1 S1) fun e a1 w1 hq=>?_
 cases e <;> first | exact hq | skip
 obtain ⟨y1,vv,h2,S2,hm⟩:=hq
 exact ⟨y1,⟨h2,vv,S2⟩,hm⟩
theorem c_fore2 {c:Code} {ι1:Type} {ι2:Type} (_S:St w0 M0 ds a w l bs fs) (mods:ι1→ι2→(Nat→Value)→List (Nat × Value)) {l1:ι1→ι2→(Nat→Value)→List Value} [∀ x1 x2 uu,SetG l (mods x1 x2 uu) (l1 x1 x2 uu)] (bs1:ι1→ι2→List Item) (fs1:ι1→ι2→List (World→Prop)) (rel:ι1→ι2→Prop) (μ:ι1→ι2→Nat) (z1:ι1) (z2:ι2) (h0:rel z1 z2) (uu0:Nat→Value) (S0:St w0 M0 ds a w (l1 z1 z2 uu0) (bs1 z1 z2) (fs1 z1 z2))
  (hr:∀ x1 x2 uu a w,rel x1 x2→St w0 M0 ds a w (l1 x1 x2 uu) (bs1 x1 x2) (fs1 x1 x2)→Wp P r c (Exit.then (fun a w=>∃ y1 y2 vv,rel y1 y2∧St w0 M0 ds a w (l1 y1 y2 vv) (bs1 y1 y2) (fs1 y1 y2)∧μ y1 y2 < μ x1 x2) Q) a w):Wp P r (.loop c) Q a w:=by
 refine c_loop (ι:=ι1 × ι2) (fun p a w=>rel (p.1) (p.2)∧∃ uu,St w0 M0 ds a w (l1 (p.1) (p.2) uu) (bs1 (p.1) (p.2)) (fs1 (p.1) (p.2))) (fun p=>μ (p.1) (p.2)) (z1,z2) ⟨h0,uu0,S0⟩ ?_
 rintro p a w ⟨h1,uu,S1⟩
 refine wpIn_mono (hr (p.1) (p.2) uu a w h1 S1) fun e a1 w1 hq=>?_
 cases e <;> first | exact hq | skip
 obtain ⟨y1,y2,vv,h2,S2,hm⟩:=hq
 exact ⟨(y1,y2),⟨h2,vv,S2⟩,hm⟩
theorem c_mrge2 {x y:Code} {ι1:Type} {ι2:Type} (_S:St w0 M0 ds a w l bs fs) (mods:ι1→ι2→(Nat→Value)→List (Nat × Value)) {l1:ι1→ι2→(Nat→Value)→List Value} [∀ x1 x2 uu,SetG l (mods x1 x2 uu) (l1 x1 x2 uu)] (bs1:ι1→ι2→List Item) (fs1:ι1→ι2→List (World→Prop)) (rel:ι1→ι2→Prop)
  (hx:Wp P r x (Exit.then (fun a w=>∃ y1 y2 vv,rel y1 y2∧St w0 M0 ds a w (l1 y1 y2 vv) (bs1 y1 y2) (fs1 y1 y2)) Q) a w) (hy:∀ x1 x2 uu a w,rel x1 x2→St w0 M0 ds a w (l1 x1 x2 uu) (bs1 x1 x2) (fs1 x1 x2)→Wp P r y Q a w):Wp P r (.seq x y) Q a w:=
 c_merge _ hx fun a w h=>by obtain ⟨y1,y2,vv,h1,h2⟩:=h;exact hy y1 y2 vv a w h1 h2
theorem c_drwe2 {id:Nat} {lo:List Oper} {ι1:Type} {ι2:Type} (t:Tr) (S:St w0 M0 ds a w l bs fs) (mods:ι1→ι2→(Nat→Value)→List (Nat × Value)) {l1:ι1→ι2→(Nat→Value)→List Value} [∀ x1 x2 uu,SetG l (mods x1 x2 uu) (l1 x1 x2 uu)] (bs0:List Item) (bs1:ι1→ι2→List Item) (fs1:ι1→ι2→List (World→Prop)) (rel:ι1→ι2→Prop)
  (h:∀ w,St w0 M0 ds a w l bs fs→AT P lo.toArray (fun w=>Wd w0 M0 w bs0 fs) (fun a w=>∃ y1 y2 vv,rel y1 y2∧St w0 M0 ds a w (l1 y1 y2 vv) (bs1 y1 y2) (fs1 y1 y2)) t a w) (hK:∀ x1 x2 uu a w,rel x1 x2→St w0 M0 ds a w (l1 x1 x2 uu) (bs1 x1 x2) (fs1 x1 x2)→Q .normal a w) (hm:P.follows .mixedOrders=true:=by kernel_rfl)
  (hd:((lo.all fun o=>!isDefer o.op)&&(Nat.beq t.len lo.length&&(Region.noSelect lo.toArray&&flowT lo.toArray t (Array.replicate lo.length false))))=true:=by kernel_rfl):Wp P r (.region id lo.toArray true) Q a w:=
 c_drawT t bs0 S _ h (fun a w h=>by obtain ⟨y1,y2,vv,h1,h2⟩:=h;exact hK y1 y2 vv a w h1 h2) hm hd
theorem c_forb2 {c:Code} {ι1:Type} {ι2:Type} (_S:St w0 M0 ds a w l bs fs) (mods:ι1→ι2→(Nat→Value)→List (Nat × Value)) {l1:ι1→ι2→(Nat→Value)→List Value} [∀ x1 x2 uu,SetG l (mods x1 x2 uu) (l1 x1 x2 uu)]   (rel:ι1→ι2→Prop) (μ:ι1→ι2→Nat) (z1:ι1) (z2:ι2) (h0:rel z1 z2) (uu0:Nat→Value) (S0:St w0 M0 ds a w (l1 z1 z2 uu0) bs fs)
  (hr:∀ x1 x2 uu a w,rel x1 x2→St w0 M0 ds a w (l1 x1 x2 uu) bs fs→Wp P r c (Exit.then (fun a w=>∃ y1 y2 vv,rel y1 y2∧St w0 M0 ds a w (l1 y1 y2 vv) bs fs∧μ y1 y2 < μ x1 x2) Q) a w):Wp P r (.loop c) Q a w:=by
 refine c_loop (ι:=ι1 × ι2) (fun p a w=>rel (p.1) (p.2)∧∃ uu,St w0 M0 ds a w (l1 (p.1) (p.2) uu) bs fs) (fun p=>μ (p.1) (p.2)) (z1,z2) ⟨h0,uu0,S0⟩ ?_
 rintro p a w ⟨h1,uu,S1⟩
 refine wpIn_mono (hr (p.1) (p.2) uu a w h1 S1) fun e a1 w1 hq=>?_
 cases e <;> first | exact hq | skip
 obtain ⟨y1,y2,vv,h2,S2,hm⟩:=hq
 exact ⟨(y1,y2),⟨h2,vv,S2⟩,hm⟩
theorem c_fore3 {c:Code} {ι1:Type} {ι2:Type} {ι3:Type} (_S:St w0 M0 ds a w l bs fs) (mods:ι1→ι2→ι3→(Nat→Value)→List (Nat × Value)) {l1:ι1→ι2→ι3→(Nat→Value)→List Value} [∀ x1 x2 x3 uu,SetG l (mods x1 x2 x3 uu) (l1 x1 x2 x3 uu)] (bs1:ι1→ι2→ι3→List Item) (fs1:ι1→ι2→ι3→List (World→Prop)) (rel:ι1→ι2→ι3→Prop) (μ:ι1→ι2→ι3→Nat) (z1:ι1) (z2:ι2) (z3:ι3) (h0:rel z1 z2 z3) (uu0:Nat→Value) (S0:St w0 M0 ds a w (l1 z1 z2 z3 uu0) (bs1 z1 z2 z3) (fs1 z1 z2 z3))
  (hr:∀ x1 x2 x3 uu a w,rel x1 x2 x3→St w0 M0 ds a w (l1 x1 x2 x3 uu) (bs1 x1 x2 x3) (fs1 x1 x2 x3)→Wp P r c (Exit.then (fun a w=>∃ y1 y2 y3 vv,rel y1 y2 y3∧St w0 M0 ds a w (l1 y1 y2 y3 vv) (bs1 y1 y2 y3) (fs1 y1 y2 y3)∧μ y1 y2 y3 < μ x1 x2 x3) Q) a w):Wp P r (.loop c) Q a w:=by
 refine c_loop (ι:=ι1 × ι2 × ι3) (fun p a w=>rel (p.1) (p.2.1) (p.2.2)∧∃ uu,St w0 M0 ds a w (l1 (p.1) (p.2.1) (p.2.2) uu) (bs1 (p.1) (p.2.1) (p.2.2)) (fs1 (p.1) (p.2.1) (p.2.2))) (fun p=>μ (p.1) (p.2.1) (p.2.2)) (z1,z2,z3) ⟨h0,uu0,S0⟩ ?_
 rintro p a w ⟨h1,uu,S1⟩
 refine wpIn_mono (hr (p.1) (p.2.1) (p.2.2) uu a w h1 S1) fun e a1 w1 hq=>?_
 cases e <;> first | exact hq | skip
 obtain ⟨y1,y2,y3,vv,h2,S2,hm⟩:=hq
 exact ⟨(y1,y2,y3),⟨h2,vv,S2⟩,hm⟩
theorem c_mrge3 {x y:Code} {ι1:Type} {ι2:Type} {ι3:Type} (_S:St w0 M0 ds a w l bs fs) (mods:ι1→ι2→ι3→(Nat→Value)→List (Nat × Value)) {l1:ι1→ι2→ι3→(Nat→Value)→List Value} [∀ x1 x2 x3 uu,SetG l (mods x1 x2 x3 uu) (l1 x1 x2 x3 uu)] (bs1:ι1→ι2→ι3→List Item) (fs1:ι1→ι2→ι3→List (World→Prop)) (rel:ι1→ι2→ι3→Prop)
  (hx:Wp P r x (Exit.then (fun a w=>∃ y1 y2 y3 vv,rel y1 y2 y3∧St w0 M0 ds a w (l1 y1 y2 y3 vv) (bs1 y1 y2 y3) (fs1 y1 y2 y3)) Q) a w) (hy:∀ x1 x2 x3 uu a w,rel x1 x2 x3→St w0 M0 ds a w (l1 x1 x2 x3 uu) (bs1 x1 x2 x3) (fs1 x1 x2 x3)→Wp P r y Q a w):Wp P r (.seq x y) Q a w:=
 c_merge _ hx fun a w h=>by obtain ⟨y1,y2,y3,vv,h1,h2⟩:=h;exact hy y1 y2 y3 vv a w h1 h2
theorem c_fore4 {c:Code} {ι1:Type} {ι2:Type} {ι3:Type} {ι4:Type} (_S:St w0 M0 ds a w l bs fs) (mods:ι1→ι2→ι3→ι4→(Nat→Value)→List (Nat × Value)) {l1:ι1→ι2→ι3→ι4→(Nat→Value)→List Value} [∀ x1 x2 x3 x4 uu,SetG l (mods x1 x2 x3 x4 uu) (l1 x1 x2 x3 x4 uu)] (bs1:ι1→ι2→ι3→ι4→List Item) (fs1:ι1→ι2→ι3→ι4→List (World→Prop)) (rel:ι1→ι2→ι3→ι4→Prop) (μ:ι1→ι2→ι3→ι4→Nat) (z1:ι1) (z2:ι2) (z3:ι3) (z4:ι4) (h0:rel z1 z2 z3 z4) (uu0:Nat→Value) (S0:St w0 M0 ds a w (l1 z1 z2 z3 z4 uu0) (bs1 z1 z2 z3 z4) (fs1 z1 z2 z3 z4))
  (hr:∀ x1 x2 x3 x4 uu a w,rel x1 x2 x3 x4→St w0 M0 ds a w (l1 x1 x2 x3 x4 uu) (bs1 x1 x2 x3 x4) (fs1 x1 x2 x3 x4)→Wp P r c (Exit.then (fun a w=>∃ y1 y2 y3 y4 vv,rel y1 y2 y3 y4∧St w0 M0 ds a w (l1 y1 y2 y3 y4 vv) (bs1 y1 y2 y3 y4) (fs1 y1 y2 y3 y4)∧μ y1 y2 y3 y4 < μ x1 x2 x3 x4) Q) a w):Wp P r (.loop c) Q a w:=by
 refine c_loop (ι:=ι1 × ι2 × ι3 × ι4) (fun p a w=>rel (p.1) (p.2.1) (p.2.2.1) (p.2.2.2)∧∃ uu,St w0 M0 ds a w (l1 (p.1) (p.2.1) (p.2.2.1) (p.2.2.2) uu) (bs1 (p.1) (p.2.1) (p.2.2.1) (p.2.2.2)) (fs1 (p.1) (p.2.1) (p.2.2.1) (p.2.2.2))) (fun p=>μ (p.1) (p.2.1) (p.2.2.1) (p.2.2.2)) (z1,z2,z3,z4) ⟨h0,uu0,S0⟩ ?_
 rintro p a w ⟨h1,uu,S1⟩
 refine wpIn_mono (hr (p.1) (p.2.1) (p.2.2.1) (p.2.2.2) uu a w h1 S1) fun e a1 w1 hq=>?_
 cases e <;> first | exact hq | skip
 obtain ⟨y1,y2,y3,y4,vv,h2,S2,hm⟩:=hq
 exact ⟨(y1,y2,y3,y4),⟨h2,vv,S2⟩,hm⟩
theorem c_fore5 {c:Code} {ι1:Type} {ι2:Type} {ι3:Type} {ι4:Type} {ι5:Type} (_S:St w0 M0 ds a w l bs fs) (mods:ι1→ι2→ι3→ι4→ι5→(Nat→Value)→List (Nat × Value)) {l1:ι1→ι2→ι3→ι4→ι5→(Nat→Value)→List Value} [∀ x1 x2 x3 x4 x5 uu,SetG l (mods x1 x2 x3 x4 x5 uu) (l1 x1 x2 x3 x4 x5 uu)] (bs1:ι1→ι2→ι3→ι4→ι5→List Item) (fs1:ι1→ι2→ι3→ι4→ι5→List (World→Prop)) (rel:ι1→ι2→ι3→ι4→ι5→Prop) (μ:ι1→ι2→ι3→ι4→ι5→Nat) (z1:ι1) (z2:ι2) (z3:ι3) (z4:ι4) (z5:ι5) (h0:rel z1 z2 z3 z4 z5) (uu0:Nat→Value) (S0:St w0 M0 ds a w (l1 z1 z2 z3 z4 z5 uu0) (bs1 z1 z2 z3 z4 z5) (fs1 z1 z2 z3 z4 z5))
  (hr:∀ x1 x2 x3 x4 x5 uu a w,rel x1 x2 x3 x4 x5→St w0 M0 ds a w (l1 x1 x2 x3 x4 x5 uu) (bs1 x1 x2 x3 x4 x5) (fs1 x1 x2 x3 x4 x5)→Wp P r c (Exit.then (fun a w=>∃ y1 y2 y3 y4 y5 vv,rel y1 y2 y3 y4 y5∧St w0 M0 ds a w (l1 y1 y2 y3 y4 y5 vv) (bs1 y1 y2 y3 y4 y5) (fs1 y1 y2 y3 y4 y5)∧μ y1 y2 y3 y4 y5 < μ x1 x2 x3 x4 x5) Q) a w):Wp P r (.loop c) Q a w:=by
 refine c_loop (ι:=ι1 × ι2 × ι3 × ι4 × ι5) (fun p a w=>rel (p.1) (p.2.1) (p.2.2.1) (p.2.2.2.1) (p.2.2.2.2)∧∃ uu,St w0 M0 ds a w (l1 (p.1) (p.2.1) (p.2.2.1) (p.2.2.2.1) (p.2.2.2.2) uu) (bs1 (p.1) (p.2.1) (p.2.2.1) (p.2.2.2.1) (p.2.2.2.2)) (fs1 (p.1) (p.2.1) (p.2.2.1) (p.2.2.2.1) (p.2.2.2.2))) (fun p=>μ (p.1) (p.2.1) (p.2.2.1) (p.2.2.2.1) (p.2.2.2.2)) (z1,z2,z3,z4,z5) ⟨h0,uu0,S0⟩ ?_
 rintro p a w ⟨h1,uu,S1⟩
 refine wpIn_mono (hr (p.1) (p.2.1) (p.2.2.1) (p.2.2.2.1) (p.2.2.2.2) uu a w h1 S1) fun e a1 w1 hq=>?_
 cases e <;> first | exact hq | skip
 obtain ⟨y1,y2,y3,y4,y5,vv,h2,S2,hm⟩:=hq
 exact ⟨(y1,y2,y3,y4,y5),⟨h2,vv,S2⟩,hm⟩
theorem c_forf5 {c:Code} {ι1:Type} {ι2:Type} {ι3:Type} {ι4:Type} {ι5:Type} (_S:St w0 M0 ds a w l bs fs) (mods:ι1→ι2→ι3→ι4→ι5→(Nat→Value)→List (Nat × Value)) {l1:ι1→ι2→ι3→ι4→ι5→(Nat→Value)→List Value} [∀ x1 x2 x3 x4 x5 uu,SetG l (mods x1 x2 x3 x4 x5 uu) (l1 x1 x2 x3 x4 x5 uu)] (bs1:ι1→ι2→ι3→ι4→ι5→List Item)  (rel:ι1→ι2→ι3→ι4→ι5→Prop) (μ:ι1→ι2→ι3→ι4→ι5→Nat) (z1:ι1) (z2:ι2) (z3:ι3) (z4:ι4) (z5:ι5) (h0:rel z1 z2 z3 z4 z5) (uu0:Nat→Value) (S0:St w0 M0 ds a w (l1 z1 z2 z3 z4 z5 uu0) (bs1 z1 z2 z3 z4 z5) fs)
  (hr:∀ x1 x2 x3 x4 x5 uu a w,rel x1 x2 x3 x4 x5→St w0 M0 ds a w (l1 x1 x2 x3 x4 x5 uu) (bs1 x1 x2 x3 x4 x5) fs→Wp P r c (Exit.then (fun a w=>∃ y1 y2 y3 y4 y5 vv,rel y1 y2 y3 y4 y5∧St w0 M0 ds a w (l1 y1 y2 y3 y4 y5 vv) (bs1 y1 y2 y3 y4 y5) fs∧μ y1 y2 y3 y4 y5 < μ x1 x2 x3 x4 x5) Q) a w):Wp P r (.loop c) Q a w:=by
 refine c_loop (ι:=ι1 × ι2 × ι3 × ι4 × ι5) (fun p a w=>rel (p.1) (p.2.1) (p.2.2.1) (p.2.2.2.1) (p.2.2.2.2)∧∃ uu,St w0 M0 ds a w (l1 (p.1) (p.2.1) (p.2.2.1) (p.2.2.2.1) (p.2.2.2.2) uu) (bs1 (p.1) (p.2.1) (p.2.2.1) (p.2.2.2.1) (p.2.2.2.2)) fs) (fun p=>μ (p.1) (p.2.1) (p.2.2.1) (p.2.2.2.1) (p.2.2.2.2)) (z1,z2,z3,z4,z5) ⟨h0,uu0,S0⟩ ?_
 rintro p a w ⟨h1,uu,S1⟩
 refine wpIn_mono (hr (p.1) (p.2.1) (p.2.2.1) (p.2.2.2.1) (p.2.2.2.2) uu a w h1 S1) fun e a1 w1 hq=>?_
 cases e <;> first | exact hq | skip
 obtain ⟨y1,y2,y3,y4,y5,vv,h2,S2,hm⟩:=hq
 exact ⟨(y1,y2,y3,y4,y5),⟨h2,vv,S2⟩,hm⟩
theorem c_fore6 {c:Code} {ι1:Type} {ι2:Type} {ι3:Type} {ι4:Type} {ι5:Type} {ι6:Type} (_S:St w0 M0 ds a w l bs fs) (mods:ι1→ι2→ι3→ι4→ι5→ι6→(Nat→Value)→List (Nat × Value)) {l1:ι1→ι2→ι3→ι4→ι5→ι6→(Nat→Value)→List Value} [∀ x1 x2 x3 x4 x5 x6 uu,SetG l (mods x1 x2 x3 x4 x5 x6 uu) (l1 x1 x2 x3 x4 x5 x6 uu)] (bs1:ι1→ι2→ι3→ι4→ι5→ι6→List Item) (fs1:ι1→ι2→ι3→ι4→ι5→ι6→List (World→Prop)) (rel:ι1→ι2→ι3→ι4→ι5→ι6→Prop) (μ:ι1→ι2→ι3→ι4→ι5→ι6→Nat) (z1:ι1) (z2:ι2) (z3:ι3) (z4:ι4) (z5:ι5) (z6:ι6) (h0:rel z1 z2 z3 z4 z5 z6) (uu0:Nat→Value) (S0:St w0 M0 ds a w (l1 z1 z2 z3 z4 z5 z6 uu0) (bs1 z1 z2 z3 z4 z5 z6) (fs1 z1 z2 z3 z4 z5 z6))
  (hr:∀ x1 x2 x3 x4 x5 x6 uu a w,rel x1 x2 x3 x4 x5 x6→St w0 M0 ds a w (l1 x1 x2 x3 x4 x5 x6 uu) (bs1 x1 x2 x3 x4 x5 x6) (fs1 x1 x2 x3 x4 x5 x6)→Wp P r c (Exit.then (fun a w=>∃ y1 y2 y3 y4 y5 y6 vv,rel y1 y2 y3 y4 y5 y6∧St w0 M0 ds a w (l1 y1 y2 y3 y4 y5 y6 vv) (bs1 y1 y2 y3 y4 y5 y6) (fs1 y1 y2 y3 y4 y5 y6)∧μ y1 y2 y3 y4 y5 y6 < μ x1 x2 x3 x4 x5 x6) Q) a w):Wp P r (.loop c) Q a w:=by
 refine c_loop (ι:=ι1 × ι2 × ι3 × ι4 × ι5 × ι6) (fun p a w=>rel (p.1) (p.2.1) (p.2.2.1) (p.2.2.2.1) (p.2.2.2.2.1) (p.2.2.2.2.2)∧∃ uu,St w0 M0 ds a w (l1 (p.1) (p.2.1) (p.2.2.1) (p.2.2.2.1) (p.2.2.2.2.1) (p.2.2.2.2.2) uu) (bs1 (p.1) (p.2.1) (p.2.2.1) (p.2.2.2.1) (p.2.2.2.2.1) (p.2.2.2.2.2)) (fs1 (p.1) (p.2.1) (p.2.2.1) (p.2.2.2.1) (p.2.2.2.2.1) (p.2.2.2.2.2))) (fun p=>μ (p.1) (p.2.1) (p.2.2.1) (p.2.2.2.1) (p.2.2.2.2.1) (p.2.2.2.2.2)) (z1,z2,z3,z4,z5,z6) ⟨h0,uu0,S0⟩ ?_
 rintro p a w ⟨h1,uu,S1⟩
 refine wpIn_mono (hr (p.1) (p.2.1) (p.2.2.1) (p.2.2.2.1) (p.2.2.2.2.1) (p.2.2.2.2.2) uu a w h1 S1) fun e a1 w1 hq=>?_
 cases e <;> first | exact hq | skip
 obtain ⟨y1,y2,y3,y4,y5,y6,vv,h2,S2,hm⟩:=hq
 exact ⟨(y1,y2,y3,y4,y5,y6),⟨h2,vv,S2⟩,hm⟩
end
class ItOk (x:Item):Prop where
 loc:∀ w1 w2:World,(∀ k,x.foot k→w2.heap[k]? = w1.heap[k]?)→x.holds w1→x.holds w2
 lt:∀ w:World,x.holds w→∀ k,x.foot k→k < w.heap.size
instance itBox {b:Nat} {t:TypeId} {cs:List Value} : ItOk (box b t cs):=⟨box_loc b t cs,fun w h k hk=>by simp only[box]at hk h;subst hk;exact (Array.getElem?_eq_some_iff.1 h).1⟩
instance itRow {e:TypeId} {sz:Nat} {p:Option Addr} {n c:Nat} {xs:List Value} : ItOk (row e sz p n c xs):=⟨row_loc e sz p n c xs,fun _ h=>row_foot_lt h⟩
def both (x y:Item):Item where
 foot:=fun k=>x.foot k∨y.foot k
 holds:=fun w=>x.holds w∧y.holds w∧∀ k,x.foot k→¬y.foot k
 own:=x.own&&y.own
instance itBoth {x y:Item} [hx:ItOk x] [hy:ItOk y]:ItOk (both x y):=⟨fun w1 w2 h h1=>⟨hx.loc w1 w2 (fun k hk=>h k (.inl hk)) h1.1,hy.loc w1 w2 (fun k hk=>h k (.inr hk)) h1.2.1,h1.2.2⟩,fun w h k hk=>hk.elim (hx.lt w h.1 k) (hy.lt w h.2.1 k)⟩
theorem foots_both {x y:Item} {bs:List Item} : foots (both x y::bs)=foots (x::y::bs):=by
 funext k
 simp only[foots,List.mem_cons,or_and_right,exists_or,exists_eq_left,both,or_assoc]
section
variable {w0:World} {M0:Nat→Prop} {ds:List Deferred} {a:Act} {w:World} {l:List Value} {bs bs':List Item} {fs:List (World→Prop)} {x y:Item}
theorem Wd.toBoth [ox:ItOk x] [oy:ItOk y] (h:Wd w0 M0 w (x::y::bs) fs) (hx:x.own=true) (hy:y.own=true):Wd w0 M0 w (both x y::bs) fs:=by
 have hp:=List.pairwise_cons.1 h.apart
 have hp2:=List.pairwise_cons.1 hp.2
 have hap:∀ k,x.foot k→¬y.foot k:=hp.1 y (by simp)
 refine ⟨h.agree,?_,?_,?_,?_,?_,?_⟩
 intro it hi
 rcases List.mem_cons.1 hi with rfl | hi
 exact ⟨h.held x (by simp),h.held y (by simp),hap⟩
 exact h.held it (by simp[hi])
 intro it hi k hk
 rcases List.mem_cons.1 hi with rfl | hi
 exact hk.elim (h.lt x (by simp) k) (h.lt y (by simp) k)
 exact h.lt it (by simp[hi]) k hk
 intro it hi ho k hk
 rcases List.mem_cons.1 hi with rfl | hi
 exact hk.elim (h.own x (by simp) hx k) (h.own y (by simp) hy k)
 exact h.own it (by simp[hi]) ho k hk
 exact List.pairwise_cons.2 ⟨fun it hi k hk=>hk.elim (hp.1 it (by simp[hi]) k) (hp2.1 it hi k),hp2.2⟩
 intro Φ hΦ;rw[foots_both];exact h.facts Φ hΦ
 intro it hi
 rcases List.mem_cons.1 hi with rfl | hi
 exact (itBoth (x:=x) (y:=y)).loc
 exact h.loc it (by simp[hi])
theorem Wd.ofBoth [ox:ItOk x] [oy:ItOk y] (h:Wd w0 M0 w (both x y::bs) fs) (hx:x.own=true) (hy:y.own=true):Wd w0 M0 w (x::y::bs) fs:=by
 have hb:=h.held (both x y) (by simp)
 have hp:=List.pairwise_cons.1 h.apart
 have hown:=h.own (both x y) (by simp) (by simp[both,hx,hy])
 refine ⟨h.agree,?_,?_,?_,?_,?_,?_⟩
 intro it hi
 rcases List.mem_cons.1 hi with rfl | hi
 exact hb.1
 rcases List.mem_cons.1 hi with rfl | hi
 exact hb.2.1
 exact h.held it (by simp[hi])
 intro it hi k hk
 rcases List.mem_cons.1 hi with rfl | hi
 exact h.lt (both it y) (by simp) k (.inl hk)
 rcases List.mem_cons.1 hi with rfl | hi
 exact h.lt (both x it) (by simp) k (.inr hk)
 exact h.lt it (by simp[hi]) k hk
 intro it hi ho k hk
 rcases List.mem_cons.1 hi with rfl | hi
 exact hown k (.inl hk)
 rcases List.mem_cons.1 hi with rfl | hi
 exact hown k (.inr hk)
 exact h.own it (by simp[hi]) ho k hk
 refine List.pairwise_cons.2 ⟨fun it hi k hk=>?_,List.pairwise_cons.2 ⟨fun it hi k hk=>hp.1 it hi k (.inr hk),hp.2⟩⟩
 rcases List.mem_cons.1 hi with rfl | hi
 exact hb.2.2 k hk
 exact hp.1 it hi k (.inl hk)
 intro Φ hΦ;rw[←foots_both];exact h.facts Φ hΦ
 intro it hi
 rcases List.mem_cons.1 hi with rfl | hi
 exact ox.loc
 rcases List.mem_cons.1 hi with rfl | hi
 exact oy.loc
 exact h.loc it (by simp[hi])
theorem St.perm (S:St w0 M0 ds a w l bs fs) (bs':List Item) (hp:bs'.Perm bs):St w0 M0 ds a w l bs' fs:=⟨S.slots,S.defers,S.wd.perm hp⟩
theorem St.front (S:St w0 M0 ds a w l bs fs) (x:Item) [hd:DropI bs x bs']:St w0 M0 ds a w l (x::bs') fs:=S.perm _ hd.perm
theorem St.toBoth [ItOk x] [ItOk y] (S:St w0 M0 ds a w l (x::y::bs) fs) (hx:x.own=true:=by rfl) (hy:y.own=true:=by rfl):St w0 M0 ds a w l (both x y::bs) fs:=⟨S.slots,S.defers,S.wd.toBoth hx hy⟩
theorem St.ofBoth [ItOk x] [ItOk y] (S:St w0 M0 ds a w l (both x y::bs) fs) (hx:x.own=true:=by rfl) (hy:y.own=true:=by rfl):St w0 M0 ds a w l (x::y::bs) fs:=⟨S.slots,S.defers,S.wd.ofBoth hx hy⟩
theorem Wd.itLent {x:Item} [ox:ItOk x] (h:x.holds w) (hf:∀ Φ∈fs,Stable x.foot w Φ):Wd w x.foot w [x] fs:=by
 refine ⟨Agree.refl _ _,?_,?_,?_,by simp,?_,?_⟩
 intro it hi;obtain rfl:=List.mem_singleton.1 hi;exact h
 intro it hi;obtain rfl:=List.mem_singleton.1 hi;exact ox.lt w h
 intro it hi _ k hk;obtain rfl:=List.mem_singleton.1 hi;exact .inl hk
 intro Φ hΦ
 refine (hf Φ hΦ).less fun k _ hk=>?_
 obtain ⟨it,hi,hk⟩:=hk
 obtain rfl:=List.mem_singleton.1 hi;exact hk
 intro it hi;obtain rfl:=List.mem_singleton.1 hi;exact ox.loc
theorem Wd.it2Lent {x y:Item} [ox:ItOk x] [oy:ItOk y] (h:(both x y).holds w) (hx:x.own=true) (hy:y.own=true) (hf:∀ Φ∈fs,Stable (both x y).foot w Φ):Wd w (both x y).foot w [x,y] fs:=(Wd.itLent h hf).ofBoth hx hy
class HasIt (bs:List Item) (x:Item):Prop where mem:x∈bs
instance hit0 {x:Item} {bs:List Item} : HasIt (x::bs) x:=⟨List.mem_cons_self ..⟩
instance (priority:=900) hit1 {x y:Item} {bs:List Item} [h:HasIt bs x]:HasIt (y::bs) x:=⟨List.mem_cons_of_mem _ h.mem⟩
theorem St.it (S:St w0 M0 ds a w l bs fs) (x:Item) [h:HasIt bs x]:x.holds w:=S.wd.held _ h.mem
theorem St.lend (_S:St w0 M0 ds a w l bs fs) (x:Item) [h:HasIt bs x] {Φ:World→Prop} (hΦ:Stable (foots bs) w Φ):Stable x.foot w Φ:=hΦ.less fun _ _ hk=>⟨_,h.mem,hk⟩
theorem St.itNew (S:St w0 M0 ds a w l bs fs) (x:Item) [h:HasIt bs x] (ho:x.own=true:=by rfl):∀ k,x.foot k→M0 k∨w0.heap.size≤k:=S.wd.own _ h.mem ho
end
section
variable {P:Program} {r:Option Nat} {ops:Array Oper} {Q:Exit→Act→World→Prop} {w0:World} {M0:Nat→Prop} {ds:List Deferred} {a:Act} {w:World} {l:List Value} {bs:List Item} {fs:List (World→Prop)}
 {d:Option Nat} {ty:TypeId} {pos:String} {af:Array Edge} {rest:List Oper} {f:Nat} {x:Operand} {ys:List Operand} {args:List Value} {ts:Array TypeId}
theorem sit {l':Value→List Value} (it:Item) [EntF P f] [CallTo ⟨[],l⟩ x ys f args] [hp:∀ v,PutO l d v (l' v)] (S:St w0 M0 ds a w l bs fs) {R:Value→World→Prop} (hc:Ret P f args w it.foot R) (ho:it.own=true)
  (K:∀ v a w',R v w'→(∀ (y:Item) {bs':List Item} [ReplI bs it y bs'] [ItOk y],y.holds w'→(∀ k,y.foot k→it.foot k∨w.heap.size≤k)→St w0 M0 ds a w' (l' v) bs' fs)→WL P r ops Q rest a w') :
  WL P r ops Q (⟨d,.call { callee:=.value x,args:=ys.toArray,argTypes:=ts },ty,pos,af,none⟩::rest) a w:=
 sri it S hc ho fun v a w' hR hS=>K v a w' hR fun y bs' hr oy h hf=>hS y bs' hr h hf (oy.lt w' h) oy.loc
theorem snew {l':Value→List Value} [EntF P f] [CallTo ⟨[],l⟩ x ys f args] [hp:∀ v,PutO l d v (l' v)] (S:St w0 M0 ds a w l bs fs) {R:Value→World→Prop} (hc:Ret P f args w (fun _=>False) R)
  (K:∀ v a w',w.heap.size≤w'.heap.size→R v w'→(∀ (y:Item) [ItOk y],y.holds w'→(∀ k,y.foot k→w.heap.size≤k)→St w0 M0 ds a w' (l' v) (y::bs) fs)→St w0 M0 ds a w' (l' v) bs fs→WL P r ops Q rest a w') :
  WL P r ops Q (⟨d,.call { callee:=.value x,args:=ys.toArray,argTypes:=ts },ty,pos,af,none⟩::rest) a w:=by
 refine cv_any S hc ?_
 rintro e w' ⟨v,rfl,ha,hR⟩
 have:=hp v
 have S':=S.put (d:=d) (v:=v)
 exact ⟨v,rfl,K v _ w' ha.size hR (fun y oy hy hf=>⟨S'.slots,S'.defers,S'.wd.addItem ha hy hf (oy.lt w' hy) oy.loc⟩) ⟨S'.slots,S'.defers,S'.wd.step ha⟩⟩
end
instance:IsNat 12 12:=⟨rfl⟩
instance:IsNat 16 16:=⟨rfl⟩
instance:IsNat 25 25:=⟨rfl⟩
instance:IsNat 28 28:=⟨rfl⟩
instance:IsNat 43 43:=⟨rfl⟩
instance:IsNat 48 48:=⟨rfl⟩
instance:IsNat 64 64:=⟨rfl⟩
instance:IsNat 65 65:=⟨rfl⟩
instance isnatMin {a b:Int} {n m:Nat} [h:IsNat a n] [h':IsNat b m]:IsNat (min a b) (min n m):=⟨by rw[h.eq,h'.eq];omega⟩
instance (priority:=900) lecZ {a:Nat} : LeC 0 a:=⟨Nat.zero_le _⟩
theorem str_cut (s:List UInt8) (lo hi:Nat):(⟨s.toArray⟩:ByteArray).extract lo hi=⟨((s.take hi).drop lo).toArray⟩:=by
 apply ByteArray.ext
 rw[ByteArray.data_extract]
 simp[List.extract_eq_take_drop,List.drop_take]
section
variable {P:Program} {l lc:Cx} {bs:List Item} {fs:List (World→Prop)} {x y:Operand} {p:Option Addr} {n c k:Nat} {t ty e:TypeId} {z:Value} {sz by_:Nat} {ol oh om:Option Operand} {lo hi mx:Nat} {s:List UInt8}
instance opSliceStr [Ev lc x (str s)] [hl:EvB lc ol 0 lo] [hh:EvB lc oh s.length hi] [Und P t .string] [h1:LeC hi s.length] [h2:LeC lo hi]:OpQ P (.slice t x ol oh none) ty lc bs fs (str ((s.take hi).drop lo)):=⟨fun ρ w hf _=>by
 have eX:ρ x=str s:=hf.ev
 have hb:(Instr.sliceBounds false s.length s.length (ol.map ρ) (oh.map ρ) none).run P w=.ok (lo,hi,s.length) w:=by
  rcases hh.eq with ⟨rfl,rfl⟩ | ⟨o2,kk2,rfl,h'⟩
  rcases hl.eq with ⟨rfl,rfl⟩ | ⟨o3,kk3,rfl,h''⟩
  simp[Instr.sliceBounds]
  have e3:=hf.ev (x:=o3) (v:=.int kk3 (lo:Int))
  simp[Instr.sliceBounds,e3,run_sliceBound h2.le]
  have e2:=hf.ev (x:=o2) (v:=.int kk2 (hi:Int))
  rcases hl.eq with ⟨rfl,rfl⟩ | ⟨o3,kk3,rfl,h''⟩
  simp[Instr.sliceBounds,e2,run_sliceBound h1.le]
  have e3:=hf.ev (x:=o3) (v:=.int kk3 (lo:Int))
  simp[Instr.sliceBounds,Sem.run_bind,e2,e3,run_sliceBound h1.le,run_sliceBound h2.le]
 have hsz:(⟨s.toArray⟩:ByteArray).size=s.length:=rfl
 simp[xop,execOp,eX,Instr.sliceAt,Instr.slice,Sem.run_bind,run_und,hsz,hb,str_cut]⟩
instance (priority:=710) opSliceQ0 [Ev lc x (.slice p n c)] [EvB lc oh n hi] [EvB lc om c mx] [Und P t (.slice e)] [TI P e z sz by_] [h1:LeC mx c] [h2:LeC hi mx] [h4:HiOk om oh] :
  OpQ P (.slice t x none oh om) ty lc bs fs (.slice p hi mx):=⟨fun ρ w h _=>by
 have:=run_cut (P:=P) (ρ:=ρ) (lc:=lc) (ol:=none) (oh:=oh) (om:=om) (lo:=0) (hi:=hi) (mx:=mx) (t:=t) (e:=e) (z:=z) (sz:=sz) (by_:=by_) (x:=x) (p:=p) (n:=n) (c:=c) (ty:=ty) h h1.le h2.le (Nat.zero_le _) h4.ok w
 rw[this]
 have e1:(if mx=0 then p else p.map (·.add (0*sz)))=p:=by
  split
  rfl
  cases p <;> simp[Addr.add]
 rw[e1];simp⟩
end
theorem Wd.itLentM {w:World} {fs:List (World→Prop)} {x:Item} {Mr:Nat→Prop} [ox:ItOk x] (h:x.holds w) (hM:∀ k,Mr k→k < w.heap.size∧¬x.foot k) (hf:∀ Φ∈fs,Stable (fun k=>x.foot k∨Mr k) w Φ):Wd w x.foot w [x,ext Mr] fs:=by
 refine ⟨Agree.refl _ _,?_,?_,?_,?_,?_,?_⟩
 intro it hi
 rcases List.mem_cons.1 hi with rfl | hi
 exact h
 obtain rfl:=List.mem_singleton.1 hi;trivial
 intro it hi k hk
 rcases List.mem_cons.1 hi with rfl | hi
 exact ox.lt w h k hk
 obtain rfl:=List.mem_singleton.1 hi;exact (hM k hk).1
 intro it hi ho k hk
 rcases List.mem_cons.1 hi with rfl | hi
 exact .inl hk
 obtain rfl:=List.mem_singleton.1 hi;cases ho
 refine List.pairwise_cons.2 ⟨fun it hi k hk hk'=>?_,by simp⟩
 obtain rfl:=List.mem_singleton.1 hi;exact (hM k hk').2 hk
 intro Φ hΦ
 refine (hf Φ hΦ).less fun k _ hk=>?_
 obtain ⟨it,hi,hk⟩:=hk
 rcases List.mem_cons.1 hi with rfl | hi
 exact .inl hk
 obtain rfl:=List.mem_singleton.1 hi;exact .inr hk
 intro it hi
 rcases List.mem_cons.1 hi with rfl | hi
 exact ox.loc
 obtain rfl:=List.mem_singleton.1 hi;exact fun _ _ _ _=>trivial
theorem Wd.it2LentM {w:World} {fs:List (World→Prop)} {x y:Item} {Mr:Nat→Prop} [ox:ItOk x] [oy:ItOk y] (h:(both x y).holds w) (hx:x.own=true) (hy:y.own=true) (hM:∀ k,Mr k→k < w.heap.size∧¬(both x y).foot k) (hf:∀ Φ∈fs,Stable (fun k=>(both x y).foot k∨Mr k) w Φ):Wd w (both x y).foot w [x,y,ext Mr] fs:=(Wd.itLentM h hM hf).ofBoth hx hy
def restOf (bs:List Item) (x:Item):Nat→Prop:=fun k=>foots bs k∧¬x.foot k
theorem St.restOk {w0:World} {M0:Nat→Prop} {ds:List Deferred} {a:Act} {w:World} {l:List Value} {bs:List Item} {fs:List (World→Prop)} (S:St w0 M0 ds a w l bs fs) (x:Item):∀ k,restOf bs x k→k < w.heap.size∧¬x.foot k:=fun k h=>⟨foots_lt S k h.1,h.2⟩
theorem Stable.split {bs:List Item} {w:World} {Φ:World→Prop} (x:Item) [hx:HasIt bs x] (h:Stable (foots bs) w Φ):Stable (fun k=>x.foot k∨restOf bs x k) w Φ:=h.less fun _ _ hk=>hk.elim (fun h=>⟨x,hx.mem,h⟩) (fun h=>h.1)
section
variable {P:Program} {r:Option Nat} {ops:Array Oper} {Q:Exit→Act→World→Prop} {w0:World} {M0:Nat→Prop} {ds:List Deferred} {a:Act} {w:World} {l:List Value} {bs bs':List Item} {fs:List (World→Prop)}
 {d:Option Nat} {ty:TypeId} {pos:String} {af:Array Edge} {rest:List Oper} {f:Nat} {x:Operand} {ys:List Operand} {args:List Value} {ts:Array TypeId}
theorem St.addAll (S:St w0 M0 ds a w l bs fs):∀ (fs2:List (World→Prop)),(∀ Φ∈fs2,Stable (foots bs) w Φ)→St w0 M0 ds a w l bs (fs2++fs)
 | [],_=>S
 | Φ::fs2,h=>(St.addAll S fs2 (fun Ψ hΨ=>h Ψ (by simp[hΨ]))).add (h Φ (by simp))
theorem sitM {l':Value→List Value} (it:Item) [EntF P f] [CallTo ⟨[],l⟩ x ys f args] [hp:∀ v,PutO l d v (l' v)] (S:St w0 M0 ds a w l bs fs) {R:Value→World→Prop} (hc:Ret P f args w it.foot R) (ho:it.own=true)
  (K:∀ v a w',R v w'→(∀ (y:Item) (fs2:List (World→Prop)) {fs3:List (World→Prop)} {bs':List Item} [AppL fs2 fs fs3] [ReplI bs it y bs'] [ItOk y],y.holds w'→(∀ k,y.foot k→it.foot k∨w.heap.size≤k)→(∀ Φ∈fs2,Stable (fun k=>y.foot k∨restOf bs it k) w' Φ)→St w0 M0 ds a w' (l' v) bs' fs3)→WL P r ops Q rest a w') :
  WL P r ops Q (⟨d,.call { callee:=.value x,args:=ys.toArray,argTypes:=ts },ty,pos,af,none⟩::rest) a w:=by
 have hap:=S.wd.apart
 refine sit it S hc ho fun v a w' hR hS=>K v a w' hR fun y fs2 fs3 bs' happ hr oy hy hf hfs=>?_
 rw[←happ.eq]
 refine (hS y hy hf).addAll fs2 fun Φ hΦ=>(hfs Φ hΦ).less fun k _ hk=>?_
 obtain ⟨pre,post,rfl,rfl⟩:=hr.ex
 obtain ⟨z,hz,hk⟩:=hk
 have hp:=List.pairwise_append.1 hap
 rcases List.mem_append.1 hz with hz | hz
 exact .inr ⟨⟨z,by simp[hz],hk⟩,hp.2.2 z hz it (by simp) k hk⟩
 rcases List.mem_cons.1 hz with rfl | hz
 exact .inl hk
 exact .inr ⟨⟨z,by simp[hz],hk⟩,fun hx=>(List.pairwise_cons.1 hp.2.1).1 z hz k hx hk⟩
theorem St.boxToF (S:St w0 M0 ds a w l bs fs) (b:Nat) {t:TypeId} {cs:List Value} [_hb:HasBox bs b t cs] [hd:DropI bs (Wk.box b t cs) bs']:St w0 M0 ds a w l bs' (BoxF b t cs::fs):=by
 have S1:=S.perm _ hd.perm
 have hap:=List.pairwise_cons.1 S1.wd.apart
 have hbx:BoxF b t cs w:=S1.wd.held (Wk.box b t cs) (by simp)
 have S2:St w0 M0 ds a w l bs' fs:=⟨S1.slots,S1.defers,S1.wd.sub (.cons _ (.refl _)) (.refl _)⟩
 exact S2.add (BoxF.stable hbx fun ⟨it,hi,hk⟩=>hap.1 it hi b rfl hk)
end
instance condsU {pol:Bool} : Conds undef pol [false]:=⟨by simp[undef]⟩
theorem gU {P:Program} {r:Option Nat} {ops:Array Oper} {Q:Exit→Act→World→Prop} {w0:World} {M0:Nat→Prop} {ds:List Deferred} {a:Act} {w:World} {l l':List Value} {bs:List Item} {fs:List (World→Prop)} {d:Option Nat} {op:Op} {ty:TypeId} {pos:String} {af:Array Edge} {rest:List Oper} {j g:Nat} {pol:Bool}
  (S:St w0 M0 ds a w l bs fs) [hp:PutO l d undef l'] [hg:GSlot ops j g] [hn:Nth l g undef] (h:∀ a,St w0 M0 ds a w l' bs fs→WL P r ops Q rest a w):WL P r ops Q (⟨d,op,ty,pos,af,some (j,pol)⟩::rest) a w:=
 wl_guard (fun ht=>by
  have:=(wanted_iff (ops:=ops) (d:=d) (op:=op) (ty:=ty) (pos:=pos) (af:=af) (pol:=pol) S hg.eq).1 ht
  simp at this) fun _=>h _ S.put
section
variable {P:Program} {l:Cx} {bs:List Item} {fs:List (World→Prop)} {x y:Operand} {k:Nat} {kk:IntKind} {m:Int} {t ty:TypeId} {s:List UInt8}
instance opIndexStr [Ev l x (str s)] [Ev l y (.int kk m)] [Und P t .string] [hm:IsNat m k] [hk:KLt k s.length]:OpQ P (.index t x y) ty l bs fs (.int .u8 ((nthG s k).toNat:Int)):=⟨fun ρ w h _=>by
 have h2:=hm.eq
 subst h2
 have hlt:=hk.lt
 have hsz:k < (⟨s.toArray⟩:ByteArray).size:=hlt
 have hb:(⟨s.toArray⟩:ByteArray)[k]? = some (nthG s k):=by
  rw[getElem?_pos (⟨s.toArray⟩:ByteArray) k hsz]
  have:(⟨s.toArray⟩:ByteArray)[k]=s[k]:=rfl
  rw[this]
  have:=nthG_get hlt
  rw[List.getElem?_eq_getElem hlt]at this
  exact this
 simp[xop,execOp,h.ev (x:=x) (v:=str s),h.ev (x:=y) (v:=.int kk (k:Int)),Instr.index,asIntOf,Sem.run_bind,run_und,hb]⟩
end
def idxG {α:Type} (q:α→Bool):List α→Int→Int
 | [],_=>-1
 | x::xs,i=>if q x then i else idxG q xs (i+1)
theorem idxG_any {α:Type} (q:α→Bool):∀ (xs:List α) (i:Int),0≤i→(decide (0≤idxG q xs i)=xs.any q)
 | [],i,h=>by simp[idxG]
 | x::xs,i,h=>by
  rw[idxG,List.any_cons]
  cases hq:q x with
  | true=>simp[h]
  | false=>simpa using idxG_any q xs (i+1) (by omega)
theorem encL_takeG {α:Type} [Enc α] (xs:List α) (m:Nat):encL (xs.take m)=(encL xs).take (m*Enc.sz α):=(encL_take xs m).symm
theorem GlF.take {α:Type} [Lay α] {p:Option Addr} {xs:List α} {w:World} (m:Nat) (h:GlF p xs w):GlF p (xs.take m) w:=by
 refine ⟨⟨fun hp=>by rw[encL_takeG,h.1.1 hp];simp,fun ad hp j u hj=>h.1.2 ad hp j u ?_⟩,fun x hx=>h.2 x (List.mem_of_mem_take hx)⟩
 rw[encL_takeG,List.getElem?_take]at hj
 split at hj
 exact hj
 cases hj
def AllI {α:Type} [Lay α] (L:List α):World→Prop:=fun w=>∀ x∈L,Lay.inn w x
theorem AllI.get {α:Type} [Lay α] {M:Nat→Prop} {w:World} {L:List α} (h:Stable M w (AllI L)) {x:α} (hx:x∈L):Stable M w (InF x):=fun w' hw=>h w' hw x hx
theorem AllI.snoc {α:Type} [Lay α] {M:Nat→Prop} {w:World} {L:List α} {r:α} (h:Stable M w (AllI L)) (hr:Stable M w (InF r)):Stable M w (AllI (L++[r])):=fun w' hw x hx=>by
 rcases List.mem_append.1 hx with hx | hx
 exact h w' hw x hx
 rw[List.mem_singleton.1 hx];exact hr w' hw
theorem gl_own {α:Type} [Lay α] {M:Nat→Prop} {w:World} {e:TypeId} {p:Option Addr} {n c sz:Nat} {xs:List α} (h:w.ownsRow 0 e sz (.slice p n c) n (encL xs)) (hk:Stable M w (AllI xs)) (hM:∀ ad,p=some ad→¬M ad.block):Stable M w (GlF p xs):=gl_of_own h (fun _ hx=>AllI.get hk hx) hM
end Go.Wk
namespace Go.Proofs.YtdakncgafdnjfaaGreat
open Go Go.Wk
set_option synthInstance.maxSize 100000
set_option synthInstance.maxHeartbeats 400000
set_option maxRecDepth 100000
theorem be_len (k:Nat) (v:Int):(be k v).length=k:=by simp[be]
theorem be_take (W k:Nat) (v:Int) (h:k < W):(be W v).take (k+1)=(be W v).take k++[Wk.u8 (v.fdiv (2 ^ (8*(W - 1 - k))))]:=by
 rw[List.take_add_one]
 congr 1
 simp[be,h]
theorem lay32_c (p:Option Addr) (n c:Nat) (b:List UInt8) (v:Int) (w0:World) (hn:b.length=n) (hb:n≤1073741824) (hv:0≤v) (hv':v≤4294967295) (hs:Stable (fun _=>False) w0 (SlF p (encL b))) :
  Ret Tryz.prog 196 [.slice p n c,.int .u32 v,.int .i64 4] w0 (fun _=>False) fun r w'=>∃ g,r=.slice (some ⟨g,0,none⟩) (n+4) (n+4)∧w0.heap.size≤g∧w'.ownsRow 0 5 1 (.slice (some ⟨g,0,none⟩) (n+4) (n+4)) (n+4) (encL (b++be 4 v)):=by
 have hln:LenN b n:=⟨hn⟩
 refine enter Tryz.func196 rfl rfl (Wd.begin (fs:=[SlF p (encL b)]) (by simpa using hs)) (fun a S=>?_)
 simp only[Tryz.ntmps196,qqA,qqB,Nat.reduceAdd,Nat.reduceSub,qqC,qqD,qqE,qqF]at S
 refine kS (kR (sq S ?_));clear S;intro a S;refine kN (xtn (kS (kR ?_)));(iterate 4 (refine sq S ?_;clear S;intro a S))
 rw[w64 ((n:Int)+4) (by omega) (by omega)]at S
 refine smk (n+4) S (by omega) (by omega) (by omega) (by simp only[maxLen];omega) ?_;clear S;intro g a w S
 refine sq S ?_;clear S;intro a S;refine kN (xtn (kS (kR ?_)));(iterate 2 (refine sq S ?_;clear S;intro a S))
 refine scp S (by omega) ?_;clear S;intro a w S
 rw[drop_rep]at S
 refine kN (xtn (kS (kS (kR ?_))));(iterate 2 (refine sq S ?_;clear S;intro a S));refine kN (xtn (kB ?_))
 rw[show encL b++List.replicate 4 (Value.int .u8 0)=encL (b++((be 4 v).take 0++List.replicate (4 - 0) 0)) from by rw[encL_append];rfl]at S
 refine c_fore1 S (fun(k:Nat) uu=>[(8,uu 8),(9,.int .i64 (k:Nat)),(0,uu 19),(0,uu 20),(0,uu 21),(0,uu 22),(0,uu 23),(0,uu 24),(0,uu 25),(0,uu 26),(0,uu 27),(0,uu 28),(0,uu 29),(0,uu 30),(0,uu 31),(0,uu 32),(0,uu 33),(0,uu 34),(0,uu 35),(0,uu 36)]) (fun(k:Nat)=>[Wk.row 5 1 (some ⟨g,0,none⟩) (n+4) (n+4) (encL (b++((be 4 v).take k++List.replicate (4 - k) 0)))]) (fun(k:Nat)=>[]) (fun(k:Nat)=>k≤4) (fun(k:Nat)=>4 - k) (0) ?_ S.uu ?_ ?_
 exact Nat.zero_le _
 first | exact S | exact S.sub _ _
 clear S;rintro k uu a w hk S;refine kS (kR (sq S ?_));clear S;intro a S;refine kN (xtn (kS ?_))
 refine kC S (fun h4=>?_) (fun h4=>?_)
 refine kK (xtn (kS (kB (kS (kR ?_)))));(iterate 2 (refine sq S ?_;clear S;intro a S));refine kN (xtn (kR ?_));(iterate 4 (refine sq S ?_;clear S;intro a S))
 have hk2:k < 4:=by simp at h4;omega
 refine sq S ?_;clear S;intro a S
 rw[w64 ((n:Int)+(k:Int)) (by omega) (by omega),show (n:Int)+(k:Int)=((n+k:Nat):Int) from by omega]at S
 (iterate 2 (refine sq S ?_;clear S;intro a S))
 rw[wu64 v (by omega) (by omega)]at S
 (iterate 2 (refine sq S ?_;clear S;intro a S))
 rw[show IntKind.i64.wrap (4 - 1)=(4 - 1:Int) from rfl]at S
 (iterate 2 (refine sq S ?_;clear S;intro a S))
 rw[w64 ((4 - 1:Int) - (k:Int)) (by omega) (by omega)]at S
 refine sq S ?_;clear S;intro a S
 rw[w64 (8*((4 - 1:Int) - (k:Int))) (by omega) (by omega),show 8*((4 - 1:Int) - (k:Int))=((8*(4 - 1 - k):Nat):Int) from by omega]at S
 refine sq S ?_;clear S;intro a S
 rw[show min (8*(4 - 1 - k)) IntKind.u64.bits=8*(4 - 1 - k) from Nat.min_eq_left (by simp only[IntKind.bits];omega)]at S
 refine sq S ?_;clear S;intro a S
 rw[u8_wrap]at S
 have hK:KLt (n+k) (n+4):=⟨by omega⟩
 refine sq S ?_;clear S;intro a S
 rw[show (⟨g,n+k,none⟩:Addr)=rAddr (some ⟨g,0,none⟩) (n+k) from by rw[rAddr,Option.getD_some,add_lit]]at S
 refine sws S (n+4) (by omega) (by omega) ?_;clear S;intro a w S
 refine kN (xbn (xtn (kR ?_)));(iterate 2 (refine sq S ?_;clear S;intro a S));refine kN (xtn ?_)
 rw[w64 ((k:Int)+1) (by omega) (by omega)]at S
 have e:encL (b++((be 4 v).take (k+1)++List.replicate (4 - (k+1)) 0))=(encL (b++((be 4 v).take k++List.replicate (4 - k) 0))).take (n+k)++[.int .u8 ((Wk.u8 (v.fdiv (2 ^ (8*(4 - 1 - k))))).toNat:Int)]++(encL (b++((be 4 v).take k++List.replicate (4 - k) 0))).drop (n+k+1):=by
  have h1:=enc_set1 (b++(be 4 v).take k) (List.replicate (4 - (k+1)) 0) 0 (Wk.u8 (v.fdiv (2 ^ (8*(4 - 1 - k)))))
  have h2:(b++(be 4 v).take k).length=n+k:=by rw[List.length_append,List.length_take,be_len,hn];omega
  have h3:List.replicate (4 - k) (0:UInt8)=0::List.replicate (4 - (k+1)) 0:=by rw[show 4 - k=(4 - (k+1))+1 from by omega,qqC]
  rw[h2]at h1
  rw[h3,be_take 4 k v hk2]
  simp only[List.append_assoc,qqE,qqF]at h1⊢
  exact h1.symm
 rw[List.length_singleton,←e]at S
 exact ⟨k+1,S.uu,by omega,S.sub _ _,by omega⟩
 refine kE (xte (xte (xbe (xtn (kS (kR ?_))))));(iterate 2 (refine sq S ?_;clear S;intro a S));refine kN (xtn (kT ?_))
 have hk2:k=4:=by simp at h4;omega
 subst hk2
 have hrow:=S.row (some ⟨g,0,none⟩) (n+4)
 have hnew:=S.rowNew (some ⟨g,0,none⟩) (n+4)
 refine end1 S (fun _=>⟨g,rfl,?_,?_⟩)
 exact (hnew _ rfl).elim (fun h=>h.elim) id
 rw[List.take_of_length_le (by rw[be_len];exact Nat.le_refl _),show List.replicate (4 - 4) (0:UInt8)=[] from rfl,List.append_nil]at hrow
 exact hrow
theorem put32_c (p:Option Addr) (n c:Nat) (b:List UInt8) (v:Int) (w0:World) (hn:b.length=n) (hb:n≤1073741824) (hv:0≤v) (hv':v≤4294967295) (hs:Stable (fun _=>False) w0 (SlF p (encL b))) :
  Ret Tryz.prog 112 [.slice p n c,.int .u32 v] w0 (fun _=>False) fun r w'=>∃ g,r=.slice (some ⟨g,0,none⟩) (n+4) (n+4)∧w0.heap.size≤g∧w'.ownsRow 0 5 1 (.slice (some ⟨g,0,none⟩) (n+4) (n+4)) (n+4) (encL (b++be 4 v)):=by
 refine enter Tryz.func112 rfl rfl (Wd.begin (fs:=[SlF p (encL b)]) (by simpa using hs)) (fun a S=>?_)
 simp only[Tryz.ntmps112,qqA,qqB,Nat.reduceAdd,Nat.reduceSub,qqC,qqD,qqE,qqF]at S
 refine kS (kR (sq S ?_));clear S;intro a S;refine kN (xtn (kS (kR ?_)));(iterate 2 (refine sq S ?_;clear S;intro a S))
 refine srn S (lay32_c p n c b v _ hn hb hv hv' ((S.fact (Φ:=SlF p (encL b)) (by simp)).less fun _ _ h=>h.elim)) ?_;clear S;rintro _ a w1 ⟨g,rfl,hg,hown⟩ - S
 refine sq S ?_;clear S;intro a S;refine kN (xtn (kT ?_))
 exact end1 S (fun _=>⟨g,rfl,hg,hown⟩)
theorem lay64_c (p:Option Addr) (n c:Nat) (b:List UInt8) (v:Int) (w0:World) (hn:b.length=n) (hb:n≤1073741824) (_hv:0≤v) (_hv':v≤18446744073709551615) (hs:Stable (fun _=>False) w0 (SlF p (encL b))) :
  Ret Tryz.prog 281 [.slice p n c,.int .u64 v,.int .i64 8] w0 (fun _=>False) fun r w'=>∃ g,r=.slice (some ⟨g,0,none⟩) (n+8) (n+8)∧w0.heap.size≤g∧w'.ownsRow 0 5 1 (.slice (some ⟨g,0,none⟩) (n+8) (n+8)) (n+8) (encL (b++be 8 v)):=by
 have hln:LenN b n:=⟨hn⟩
 refine enter Tryz.func281 rfl rfl (Wd.begin (fs:=[SlF p (encL b)]) (by simpa using hs)) (fun a S=>?_)
 simp only[Tryz.ntmps281,qqA,qqB,Nat.reduceAdd,Nat.reduceSub,qqC,qqD,qqE,qqF]at S
 refine kS (kR (sq S ?_));clear S;intro a S;refine kN (xtn (kS (kR ?_)));(iterate 4 (refine sq S ?_;clear S;intro a S))
 rw[w64 ((n:Int)+8) (by omega) (by omega)]at S
 refine smk (n+8) S (by omega) (by omega) (by omega) (by simp only[maxLen];omega) ?_;clear S;intro g a w S
 refine sq S ?_;clear S;intro a S;refine kN (xtn (kS (kR ?_)));(iterate 2 (refine sq S ?_;clear S;intro a S))
 refine scp S (by omega) ?_;clear S;intro a w S
 rw[drop_rep]at S
 refine kN (xtn (kS (kS (kR ?_))));(iterate 2 (refine sq S ?_;clear S;intro a S));refine kN (xtn (kB ?_))
 rw[show encL b++List.replicate 8 (Value.int .u8 0)=encL (b++((be 8 v).take 0++List.replicate (8 - 0) 0)) from by rw[encL_append];rfl]at S
 refine c_fore1 S (fun(k:Nat) uu=>[(8,uu 8),(9,.int .i64 (k:Nat)),(0,uu 19),(0,uu 20),(0,uu 21),(0,uu 22),(0,uu 23),(0,uu 24),(0,uu 25),(0,uu 26),(0,uu 27),(0,uu 28),(0,uu 29),(0,uu 30),(0,uu 31),(0,uu 32),(0,uu 33),(0,uu 34),(0,uu 35)]) (fun(k:Nat)=>[Wk.row 5 1 (some ⟨g,0,none⟩) (n+8) (n+8) (encL (b++((be 8 v).take k++List.replicate (8 - k) 0)))]) (fun(k:Nat)=>[]) (fun(k:Nat)=>k≤8) (fun(k:Nat)=>8 - k) (0) ?_ S.uu ?_ ?_
 exact Nat.zero_le _
 first | exact S | exact S.sub _ _
 clear S;rintro k uu a w hk S;refine kS (kR (sq S ?_));clear S;intro a S;refine kN (xtn (kS ?_))
 refine kC S (fun h4=>?_) (fun h4=>?_)
 refine kK (xtn (kS (kB (kS (kR ?_)))));(iterate 2 (refine sq S ?_;clear S;intro a S));refine kN (xtn (kR ?_));(iterate 4 (refine sq S ?_;clear S;intro a S))
 have hk2:k < 8:=by simp at h4;omega
 refine sq S ?_;clear S;intro a S
 rw[w64 ((n:Int)+(k:Int)) (by omega) (by omega),show (n:Int)+(k:Int)=((n+k:Nat):Int) from by omega]at S
 (iterate 3 (refine sq S ?_;clear S;intro a S))
 rw[show IntKind.i64.wrap (8 - 1)=(8 - 1:Int) from rfl]at S
 (iterate 2 (refine sq S ?_;clear S;intro a S))
 rw[w64 ((8 - 1:Int) - (k:Int)) (by omega) (by omega)]at S
 refine sq S ?_;clear S;intro a S
 rw[w64 (8*((8 - 1:Int) - (k:Int))) (by omega) (by omega),show 8*((8 - 1:Int) - (k:Int))=((8*(8 - 1 - k):Nat):Int) from by omega]at S
 refine sq S ?_;clear S;intro a S
 rw[show min (8*(8 - 1 - k)) IntKind.u64.bits=8*(8 - 1 - k) from Nat.min_eq_left (by simp only[IntKind.bits];omega)]at S
 refine sq S ?_;clear S;intro a S
 rw[u8_wrap]at S
 have hK:KLt (n+k) (n+8):=⟨by omega⟩
 refine sq S ?_;clear S;intro a S
 rw[show (⟨g,n+k,none⟩:Addr)=rAddr (some ⟨g,0,none⟩) (n+k) from by rw[rAddr,Option.getD_some,add_lit]]at S
 refine sws S (n+8) (by omega) (by omega) ?_;clear S;intro a w S
 refine kN (xbn (xtn (kR ?_)));(iterate 2 (refine sq S ?_;clear S;intro a S));refine kN (xtn ?_)
 rw[w64 ((k:Int)+1) (by omega) (by omega)]at S
 have e:encL (b++((be 8 v).take (k+1)++List.replicate (8 - (k+1)) 0))=(encL (b++((be 8 v).take k++List.replicate (8 - k) 0))).take (n+k)++[.int .u8 ((Wk.u8 (v.fdiv (2 ^ (8*(8 - 1 - k))))).toNat:Int)]++(encL (b++((be 8 v).take k++List.replicate (8 - k) 0))).drop (n+k+1):=by
  have h1:=enc_set1 (b++(be 8 v).take k) (List.replicate (8 - (k+1)) 0) 0 (Wk.u8 (v.fdiv (2 ^ (8*(8 - 1 - k)))))
  have h2:(b++(be 8 v).take k).length=n+k:=by rw[List.length_append,List.length_take,be_len,hn];omega
  have h3:List.replicate (8 - k) (0:UInt8)=0::List.replicate (8 - (k+1)) 0:=by rw[show 8 - k=(8 - (k+1))+1 from by omega,qqC]
  rw[h2]at h1
  rw[h3,be_take 8 k v hk2]
  simp only[List.append_assoc,qqE,qqF]at h1⊢
  exact h1.symm
 rw[List.length_singleton,←e]at S
 exact ⟨k+1,S.uu,by omega,S.sub _ _,by omega⟩
 refine kE (xte (xte (xbe (xtn (kS (kR ?_))))));(iterate 2 (refine sq S ?_;clear S;intro a S));refine kN (xtn (kT ?_))
 have hk2:k=8:=by simp at h4;omega
 subst hk2
 have hrow:=S.row (some ⟨g,0,none⟩) (n+8)
 have hnew:=S.rowNew (some ⟨g,0,none⟩) (n+8)
 refine end1 S (fun _=>⟨g,rfl,?_,?_⟩)
 exact (hnew _ rfl).elim (fun h=>h.elim) id
 rw[List.take_of_length_le (by rw[be_len];exact Nat.le_refl _),show List.replicate (8 - 8) (0:UInt8)=[] from rfl,List.append_nil]at hrow
 exact hrow
theorem put64_c (p:Option Addr) (n c:Nat) (b:List UInt8) (v:Int) (w0:World) (hn:b.length=n) (hb:n≤1073741824) (hv:0≤v) (hv':v≤18446744073709551615) (hs:Stable (fun _=>False) w0 (SlF p (encL b))) :
  Ret Tryz.prog 272 [.slice p n c,.int .u64 v] w0 (fun _=>False) fun r w'=>∃ g,r=.slice (some ⟨g,0,none⟩) (n+8) (n+8)∧w0.heap.size≤g∧w'.ownsRow 0 5 1 (.slice (some ⟨g,0,none⟩) (n+8) (n+8)) (n+8) (encL (b++be 8 v)):=by
 refine enter Tryz.func272 rfl rfl (Wd.begin (fs:=[SlF p (encL b)]) (by simpa using hs)) (fun a S=>?_)
 simp only[Tryz.ntmps272,qqA,qqB,Nat.reduceAdd,Nat.reduceSub,qqC,qqD,qqE,qqF]at S
 refine kS (kR (sq S ?_));clear S;intro a S;refine kN (xtn (kS (kR ?_)));(iterate 2 (refine sq S ?_;clear S;intro a S))
 refine srn S (lay64_c p n c b v _ hn hb hv hv' ((S.fact (Φ:=SlF p (encL b)) (by simp)).less fun _ _ h=>h.elim)) ?_;clear S;rintro _ a w1 ⟨g,rfl,hg,hown⟩ - S
 refine sq S ?_;clear S;intro a S;refine kN (xtn (kT ?_))
 exact end1 S (fun _=>⟨g,rfl,hg,hown⟩)
theorem lay16b_c (p:Option Addr) (n c:Nat) (b:List UInt8) (v:Int) (w0:World) (hn:b.length=n) (hb:n≤1073741824) (hv:0≤v) (hv':v≤65535) (hs:Stable (fun _=>False) w0 (SlF p (encL b))) :
  Ret Tryz.prog 164 [.slice p n c,.int .u16 v,.int .i64 2] w0 (fun _=>False) fun r w'=>∃ g,r=.slice (some ⟨g,0,none⟩) (n+2) (n+2)∧w0.heap.size≤g∧w'.ownsRow 0 5 1 (.slice (some ⟨g,0,none⟩) (n+2) (n+2)) (n+2) (encL (b++be 2 v)):=by
 have hln:LenN b n:=⟨hn⟩
 refine enter Tryz.func164 rfl rfl (Wd.begin (fs:=[SlF p (encL b)]) (by simpa using hs)) (fun a S=>?_)
 simp only[Tryz.ntmps164,qqA,qqB,Nat.reduceAdd,Nat.reduceSub,qqC,qqD,qqE,qqF]at S
 refine kS (kR (sq S ?_));clear S;intro a S;refine kN (xtn (kS (kR ?_)));(iterate 4 (refine sq S ?_;clear S;intro a S))
 rw[w64 ((n:Int)+2) (by omega) (by omega)]at S
 refine smk (n+2) S (by omega) (by omega) (by omega) (by simp only[maxLen];omega) ?_;clear S;intro g a w S
 refine sq S ?_;clear S;intro a S;refine kN (xtn (kS (kR ?_)));(iterate 2 (refine sq S ?_;clear S;intro a S))
 refine scp S (by omega) ?_;clear S;intro a w S
 rw[drop_rep]at S
 refine kN (xtn (kS (kS (kR ?_))));(iterate 2 (refine sq S ?_;clear S;intro a S));refine kN (xtn (kB ?_))
 rw[show encL b++List.replicate 2 (Value.int .u8 0)=encL (b++((be 2 v).take 0++List.replicate (2 - 0) 0)) from by rw[encL_append];rfl]at S
 refine c_fore1 S (fun(k:Nat) uu=>[(8,uu 8),(9,.int .i64 (k:Nat)),(0,uu 19),(0,uu 20),(0,uu 21),(0,uu 22),(0,uu 23),(0,uu 24),(0,uu 25),(0,uu 26),(0,uu 27),(0,uu 28),(0,uu 29),(0,uu 30),(0,uu 31),(0,uu 32),(0,uu 33),(0,uu 34),(0,uu 35),(0,uu 36)]) (fun(k:Nat)=>[Wk.row 5 1 (some ⟨g,0,none⟩) (n+2) (n+2) (encL (b++((be 2 v).take k++List.replicate (2 - k) 0)))]) (fun(k:Nat)=>[]) (fun(k:Nat)=>k≤2) (fun(k:Nat)=>2 - k) (0) ?_ S.uu ?_ ?_
 exact Nat.zero_le _
 first | exact S | exact S.sub _ _
 clear S;rintro k uu a w hk S;refine kS (kR (sq S ?_));clear S;intro a S;refine kN (xtn (kS ?_))
 refine kC S (fun h4=>?_) (fun h4=>?_)
 refine kK (xtn (kS (kB (kS (kR ?_)))));(iterate 2 (refine sq S ?_;clear S;intro a S));refine kN (xtn (kR ?_));(iterate 4 (refine sq S ?_;clear S;intro a S))
 have hk2:k < 2:=by simp at h4;omega
 refine sq S ?_;clear S;intro a S
 rw[w64 ((n:Int)+(k:Int)) (by omega) (by omega),show (n:Int)+(k:Int)=((n+k:Nat):Int) from by omega]at S
 (iterate 2 (refine sq S ?_;clear S;intro a S))
 rw[wu64 v (by omega) (by omega)]at S
 (iterate 2 (refine sq S ?_;clear S;intro a S))
 rw[show IntKind.i64.wrap (2 - 1)=(2 - 1:Int) from rfl]at S
 (iterate 2 (refine sq S ?_;clear S;intro a S))
 rw[w64 ((2 - 1:Int) - (k:Int)) (by omega) (by omega)]at S
 refine sq S ?_;clear S;intro a S
 rw[w64 (8*((2 - 1:Int) - (k:Int))) (by omega) (by omega),show 8*((2 - 1:Int) - (k:Int))=((8*(2 - 1 - k):Nat):Int) from by omega]at S
 refine sq S ?_;clear S;intro a S
 rw[show min (8*(2 - 1 - k)) IntKind.u64.bits=8*(2 - 1 - k) from Nat.min_eq_left (by simp only[IntKind.bits];omega)]at S
 refine sq S ?_;clear S;intro a S
 rw[u8_wrap]at S
 have hK:KLt (n+k) (n+2):=⟨by omega⟩
 refine sq S ?_;clear S;intro a S
 rw[show (⟨g,n+k,none⟩:Addr)=rAddr (some ⟨g,0,none⟩) (n+k) from by rw[rAddr,Option.getD_some,add_lit]]at S
 refine sws S (n+2) (by omega) (by omega) ?_;clear S;intro a w S
 refine kN (xbn (xtn (kR ?_)));(iterate 2 (refine sq S ?_;clear S;intro a S));refine kN (xtn ?_)
 rw[w64 ((k:Int)+1) (by omega) (by omega)]at S
 have e:encL (b++((be 2 v).take (k+1)++List.replicate (2 - (k+1)) 0))=(encL (b++((be 2 v).take k++List.replicate (2 - k) 0))).take (n+k)++[.int .u8 ((Wk.u8 (v.fdiv (2 ^ (8*(2 - 1 - k))))).toNat:Int)]++(encL (b++((be 2 v).take k++List.replicate (2 - k) 0))).drop (n+k+1):=by
  have h1:=enc_set1 (b++(be 2 v).take k) (List.replicate (2 - (k+1)) 0) 0 (Wk.u8 (v.fdiv (2 ^ (8*(2 - 1 - k)))))
  have h2:(b++(be 2 v).take k).length=n+k:=by rw[List.length_append,List.length_take,be_len,hn];omega
  have h3:List.replicate (2 - k) (0:UInt8)=0::List.replicate (2 - (k+1)) 0:=by rw[show 2 - k=(2 - (k+1))+1 from by omega,qqC]
  rw[h2]at h1
  rw[h3,be_take 2 k v hk2]
  simp only[List.append_assoc,qqE,qqF]at h1⊢
  exact h1.symm
 rw[List.length_singleton,←e]at S
 exact ⟨k+1,S.uu,by omega,S.sub _ _,by omega⟩
 refine kE (xte (xte (xbe (xtn (kS (kR ?_))))));(iterate 2 (refine sq S ?_;clear S;intro a S));refine kN (xtn (kT ?_))
 have hk2:k=2:=by simp at h4;omega
 subst hk2
 have hrow:=S.row (some ⟨g,0,none⟩) (n+2)
 have hnew:=S.rowNew (some ⟨g,0,none⟩) (n+2)
 refine end1 S (fun _=>⟨g,rfl,?_,?_⟩)
 exact (hnew _ rfl).elim (fun h=>h.elim) id
 rw[List.take_of_length_le (by rw[be_len];exact Nat.le_refl _),show List.replicate (2 - 2) (0:UInt8)=[] from rfl,List.append_nil]at hrow
 exact hrow
theorem put16b_c (p:Option Addr) (n c:Nat) (b:List UInt8) (v:Int) (w0:World) (hn:b.length=n) (hb:n≤1073741824) (hv:0≤v) (hv':v≤65535) (hs:Stable (fun _=>False) w0 (SlF p (encL b))) :
  Ret Tryz.prog 65 [.slice p n c,.int .u16 v] w0 (fun _=>False) fun r w'=>∃ g,r=.slice (some ⟨g,0,none⟩) (n+2) (n+2)∧w0.heap.size≤g∧w'.ownsRow 0 5 1 (.slice (some ⟨g,0,none⟩) (n+2) (n+2)) (n+2) (encL (b++be 2 v)):=by
 refine enter Tryz.func65 rfl rfl (Wd.begin (fs:=[SlF p (encL b)]) (by simpa using hs)) (fun a S=>?_)
 simp only[Tryz.ntmps65,qqA,qqB,Nat.reduceAdd,Nat.reduceSub,qqC,qqD,qqE,qqF]at S
 refine kS (kR (sq S ?_));clear S;intro a S;refine kN (xtn (kS (kR ?_)));(iterate 2 (refine sq S ?_;clear S;intro a S))
 refine srn S (lay16b_c p n c b v _ hn hb hv hv' ((S.fact (Φ:=SlF p (encL b)) (by simp)).less fun _ _ h=>h.elim)) ?_;clear S;rintro _ a w1 ⟨g,rfl,hg,hown⟩ - S
 refine sq S ?_;clear S;intro a S;refine kN (xtn (kT ?_))
 exact end1 S (fun _=>⟨g,rfl,hg,hown⟩)
open Go.ChangeShapes Go.WideShapes Go.ChangeAt Go.RowKit
theorem own:ownKnob Tryz.prog.godebug=none:=by kernel_rfl
theorem laidOut:laidOutB Tryz.prog=true:=by kernel_rfl
instance termTy:TermTy Tryz.prog 43:=⟨⟨_,3,9,41,rfl,rfl,rfl,rfl,rfl,by kernel_rfl,by kernel_rfl,by kernel_rfl,by kernel_rfl⟩⟩
instance troInt:Tro Tryz.prog 3 Int:=troI Tryz.underlying3 (by kernel_rfl)
instance troTerm:Tro Tryz.prog 43 LTerm:=troT
end Go.Proofs.YtdakncgafdnjfaaGreat
namespace Go.Wk
open Go
theorem bl_irrefl:∀ s:List UInt8,Op.bytesLess s s=false
 | []=>rfl
 | a::s=>by simp[Op.bytesLess,bl_irrefl s]
theorem bl_tri:∀ s u:List UInt8,Op.bytesLess s u=true∨s=u∨Op.bytesLess u s=true
 | [],[]=>.inr (.inl rfl)
 | [],_::_=>.inl rfl
 | _::_,[]=>.inr (.inr rfl)
 | a::s,b::u=>by
  simp only[Op.bytesLess,Bool.or_eq_true,Bool.and_eq_true,decide_eq_true_eq,beq_iff_eq,List.cons.injEq]
  rcases UInt8.lt_or_lt_of_ne (a:=a) (b:=b) |> fun h=>(Classical.em (a=b)).imp id h with rfl | h
  rcases bl_tri s u with h | h | h
  exact .inl (.inr ⟨rfl,h⟩)
  exact .inr (.inl ⟨rfl,h⟩)
  exact .inr (.inr (.inr ⟨rfl,h⟩))
  rcases h with h | h
  exact .inl (.inl h)
  exact .inr (.inr (.inl h))
theorem bl_asymm:∀ s u:List UInt8,Op.bytesLess s u=true→Op.bytesLess u s=false
 | [],[],h=>by cases h
 | [],_::_,_=>rfl
 | _::_,[],h=>by simp[Op.bytesLess]at h
 | a::s,b::u,h=>by
  simp only[Op.bytesLess,Bool.or_eq_true,Bool.and_eq_true,decide_eq_true_eq,beq_iff_eq]at h
  rcases h with h | ⟨rfl,h⟩
  have h1:¬b < a:=by intro h2;exact absurd (UInt8.lt_trans h h2) (UInt8.lt_irrefl _)
  have h2:b≠a:=by rintro rfl;exact absurd h (UInt8.lt_irrefl _)
  simp[Op.bytesLess,h1,h2]
  simp[Op.bytesLess,bl_asymm s u h]
theorem bl_gt (s u:List UInt8):(!(Op.bytesLess s u||(s == u)))=Op.bytesLess u s:=by
 rcases bl_tri s u with h | rfl | h
 rw[h,bl_asymm _ _ h];rfl
 rw[bl_irrefl];simp
 rw[bl_asymm _ _ h,h]
 have:s≠u:=by rintro rfl;rw[bl_irrefl]at h;cases h
 simp[this]
class Ascii (m:Int):Prop where
 lo:0≤m
 hi:m < 128
section
variable {P:Program} {l:Cx} {bs:List Item} {fs:List (World→Prop)} {x y:Operand} {t t' ty:TypeId} {s u:List UInt8} {m:Int} {k:IntKind}
instance opSGtr [Ev l x (str s)] [Ev l y (str u)]:OpQ P (.binOp .gtr t x y t') ty l bs fs (.bool (Op.bytesLess u s)):=⟨fun ρ w h _=>by
 have:=bl_gt s u
 simp[xop,execOp,h.ev (x:=x) (v:=str s),h.ev (x:=y) (v:=str u),eqGuard,binOp,Op.stringOp]
 rw[←this];simp⟩
end
open Go Go.Deep Go.ChangeShapes Go.WideShapes Go.ChangeAt Go.RowKit
section
variable {w0:World} {M0:Nat→Prop} {ds:List Deferred} {a:Act} {w:World} {l:List Value} {bs bs':List Item} {fs:List (World→Prop)}
theorem St.rowToGl {α:Type} [Lay α] (S:St w0 M0 ds a w l bs fs) (p:Option Addr) (xs:List α) {e:TypeId} {sz n c:Nat} [hd:DropI bs (Wk.row e sz p n c (encL xs)) bs'] (h:Stable (foots bs) w (AllI xs)):St w0 M0 ds a w l bs' (GlF p xs::fs):=by
 have S1:=S.perm _ hd.perm
 have hap:=List.pairwise_cons.1 S1.wd.apart
 have hr:(Wk.row e sz p n c (encL xs)).holds w:=S1.wd.held _ (by simp)
 have S2:St w0 M0 ds a w l bs' fs:=⟨S1.slots,S1.defers,S1.wd.sub (.cons _ (.refl _)) (.refl _)⟩
 refine S2.add fun w' hw'=>⟨SlF.stable (own_sl hr) (fun ad hp ⟨it,hi,hk⟩=>hap.1 it hi ad.block ⟨ad,hp,rfl⟩ hk) w' hw',?_⟩
 exact (h.less fun k _ ⟨it,hi,hk⟩=>⟨it,(hd.perm.mem_iff).1 (List.mem_cons_of_mem _ hi),hk⟩) w' hw'
end
section
variable {P:Program} {l:Cx} {bs:List Item} {fs:List (World→Prop)} {x y:Operand} {p:Option Addr} {n c k sz off:Nat} {kk:IntKind} {m:Int} {t ty e:TypeId} {z v:Value} {by_:Nat}
class CLt (cs:List Bool) (k n:Nat):Prop where lt:(∀ c∈cs,c=true)→k < n
instance (priority:=1100) cltD {cs:List Bool} {k n:Nat} : CLt (decide ((k:Int) < (n:Int))::cs) k n:=⟨fun h=>by have:=h (decide ((k:Int) < (n:Int))) (by simp);simp at this;omega⟩
section
variable {cs:List Bool} {ls:List Value} {α:Type} {i:Lay α} {xs:List α}
instance (priority:=820) opIdxGC [Ev ⟨cs,ls⟩ x (.slice p n c)] [Ev ⟨cs,ls⟩ y (.int kk m)] [Und P t (.slice e)] [TI P e z sz by_] [hm:IsNat m k] [hl:HasG fs p α i xs] [hs:SzE α sz] [hk:CLt cs k n] [hk':CLt cs k xs.length] :
  OpQ P (.indexAddr t x y) ty ⟨cs,ls⟩ bs fs (.pointer (some (gAddr p k sz 0))):=⟨fun ρ w h mm=>by
 have hlt:=hk.lt h.1
 obtain ⟨ad,rfl⟩:=gl_some (hl.of _ _ mm.facts).now (hk'.lt h.1) (by rw[hs.eq];exact hs.pos)
 have h2:=hm.eq
 subst h2
 simp[xop,execOp,h.ev (x:=x) (v:=.slice (some ad) n c),h.ev (x:=y) (v:=.int kk (k:Int))]
 simp[run_indexAt (P:=P) (t:=t) (e:=e) (z:=z) (sz:=sz) (by_:=by_) (Int.natCast_nonneg k) (Int.ofNat_lt.2 hlt),gAddr]⟩
instance (priority:=760) opLoadGAC {ds vs:List Value} [Ev ⟨cs,ls⟩ x (.pointer (some (gAddr p k sz off)))] [ha:AggT P t true] [TI P t z n by_] [hl:HasG fs p α i xs] [hs:SzE α sz] [hk:CLt cs k xs.length] [hc:CellsOf (nthG xs k) ds] [hn:Seg ds off n vs] :
  OpQ P (.load t x) ty ⟨cs,ls⟩ bs fs (.agg ⟨vs⟩):=⟨fun ρ w h mm=>by
 have hlc:=run_loadCells_list (P:=P) w (gAddr p k sz off) vs (fun j v hj=>by
  have hjn:j < n:=by rw[←hn.eq.1];exact (List.getElem?_eq_some_iff.1 hj).1
  rw[gAddr_add]
  exact gl_cells (hl.of _ _ mm.facts).now (hk.lt h.1) ((hn.eq.2 j hjn).trans hj))
 rw[hn.eq.1]at hlc
 simp[xop,execOp,Instr.loadAt,h.ev (x:=x) (v:=.pointer (some (gAddr p k sz off))),Instr.sureAddr,loadVar,Sem.run_bind,ha.run,run_size,hlc]⟩
end
end
section
variable {w0:World} {M0:Nat→Prop} {ds:List Deferred} {a:Act} {w:World} {l:List Value} {bs bs':List Item} {fs:List (World→Prop)}
end
theorem encL_dropG {α:Type} [Enc α] (xs:List α) (m:Nat):encL (xs.drop m)=(encL xs).drop (m*Enc.sz α):=by
 induction m generalizing xs with
 | zero=>simp
 | succ m ih=>
  cases xs with
  | nil=>simp[encL]
  | cons x xs=>
   rw[List.drop_succ_cons,ih,encL_cons,show (m+1)*Enc.sz α=(Enc.cells x).length+m*Enc.sz α from by rw[Enc.len,Nat.add_mul];omega,←List.drop_drop,List.drop_left]
theorem GlF.drop {α:Type} [Lay α] {sz:Nat} [hs:SzE α sz] {p:Option Addr} {xs:List α} {w:World} {c:Nat} (m:Nat) (h:GlF p xs w) (hc:xs.length≤c):GlF (if c=m then p else p.map (·.add (m*sz))) (xs.drop m) w:=by
 split
 rename_i he
 rw[List.drop_of_length_le (by omega)];exact gl_nil
 refine ⟨⟨fun hp=>?_,fun ad hp j u hj=>?_⟩,fun x hx=>h.2 x (List.drop_subset _ _ hx)⟩
 have:p=none:=by cases p with
  | none=>rfl
  | some a=>cases hp
 rw[encL_dropG,h.1.1 this,List.drop_nil]
 cases p with
 | none=>cases hp
 | some a=>
  obtain rfl:a.add (m*sz)=ad:=by simpa using hp
  rw[encL_dropG,List.getElem?_drop,hs.eq]at hj
  rw[Go.Deep.add_add]
  exact h.1.2 a rfl _ _ hj
class PS (p:Option Addr):Prop where ex:∃ ad,p=some ad
section
variable {P:Program} {lc:Cx} {bs:List Item} {fs:List (World→Prop)} {x y:Operand} {p:Option Addr} {n c k sz o:Nat} {kk:IntKind} {m:Int} {t ty e:TypeId} {z:Value} {by_:Nat}
end
class IfT (P:Program) (t:TypeId):Prop where eq:P.underlying t=some (.interface (P.methodsAt t))
end Go.Wk
namespace Go.Proofs.YtdakncgafdnjfaaGreat
open Go Go.Wk
set_option synthInstance.maxSize 100000
set_option synthInstance.maxHeartbeats 400000
set_option maxRecDepth 100000
structure PRow where
 name:List UInt8
 term:Term
def goneP (r:PRow):Bool:=sameF r.term zeroT
def charsP (s:List UInt8):Bool:=s.all fun c=>decide (33≤c.toNat)&&decide (c.toNat≤126)
def fitP (r:PRow):Bool:=decide (1≤r.name.length)&&decide (r.name.length≤32)&&(goneP r||(decide (checkF r.term=0)&&decide ((nameF r.term).length≤65535)))
def rightP (r:PRow):Bool:=charsP r.name&&fitP r
def SortedP (l:List PRow):Prop:=(l.map PRow.name).Pairwise fun a b=>Op.bytesLess a b=true
structure KeptP (l:List PRow):Prop where
 up:SortedP l
 right:∀ r∈l,rightP r=true
 there:∀ r∈l,goneP r=false
structure LMark where
 key:List UInt8
 ver:Int
instance encMark:Enc LMark:=⟨2,fun m=>[str m.key,.int .i64 m.ver],fun _=>rfl,fun x u hu=>by simp only[List.mem_cons,List.not_mem_nil,or_false]at hu;rcases hu with rfl | rfl <;> rfl⟩
instance layMark:Lay LMark:={ encMark with
 dflt:=⟨[],0⟩
 inn:=fun _ _=>True
 mono:=fun _ _ _ _ h=>h }
instance:SzE LMark 2:=⟨rfl,by decide⟩
instance {m:LMark} : CellsOf m [str m.key,.int .i64 m.ver]:=⟨rfl⟩
abbrev vMark (m:LMark):Value:=.agg ⟨[str m.key,.int .i64 m.ver]⟩
def markB (m:LMark):Bool:=!decide (m.key=[])&&decide ((m.key.length:Int)≤64)&&decide (0≤m.ver)&&decide (m.ver≤65535)
theorem marked_c (m:LMark) (w0:World):Ret Tryz.prog 200 [vMark m] w0 (fun _=>False) fun v _=>v=.bool (markB m):=by
 refine enter Tryz.func200 rfl rfl (Wd.start w0) (fun a S=>?_)
 simp only[Tryz.ntmps200,qqA,qqB,Nat.reduceAdd,Nat.reduceSub,qqC,qqD,qqE,qqF]at S
 refine kS (kR ?_);refine sa S ?_;clear S;intro b1 a w S;refine sq S ?_;clear S;intro a S;refine kN (xtn (kS (kR ?_)));(iterate 4 (refine sq S ?_;clear S;intro a S));(iterate 4 (refine gQ S ?_;clear S;intro a S));(iterate 2 (refine sq S ?_;clear S;intro a S));(iterate 3 (refine gQ S ?_;clear S;intro a S));(iterate 2 (refine sq S ?_;clear S;intro a S));(iterate 3 (refine gQ S ?_;clear S;intro a S));(iterate 2 (refine sq S ?_;clear S;intro a S));refine kN (xtn (kT ?_))
 refine end1 S (fun _=>rfl)
instance {m:LMark} {bs fs} : CallV Tryz.prog 200 [.agg ⟨[str m.key,.int .i64 m.ver]⟩] bs fs (.bool (markB m)):=⟨fun w _=>marked_c m w⟩
def riseM:List UInt8→List LMark→Bool
 | _,[]=>true
 | k,m::l=>markB m&&Op.bytesLess k m.key&&riseM m.key l
def lastM (l:List LMark):Nat→List UInt8
 | 0=>[]
 | j+1=>(nthG l j).key
def okM (l:List LMark):Bool:=decide ((l.length:Int)≤16)&&riseM [] l
def tchkF (l:List LMark):Int:=if okM l then 0 else 240
theorem tcheck_c (l:List LMark) (p:Option Addr) (n c:Nat) (w0:World) (hn:l.length=n) (hl:n≤9223372036854775807) (hx:Stable (fun _=>False) w0 (GlF p l)) :
  Ret Tryz.prog 115 [.slice p n c] w0 (fun _=>False) fun v _=>v=.int .i64 (tchkF l):=by
 subst hn
 refine enter Tryz.func115 rfl rfl (Wd.begin (fs:=[GlF p l]) (by simpa using hx)) (fun a S=>?_)
 simp only[Tryz.ntmps115,qqA,qqB,Nat.reduceAdd,Nat.reduceSub,qqC,qqD,qqE,qqF]at S
 refine kS (kR (sq S ?_));clear S;intro a S;refine kN (xtn (kS (kR ?_)));(iterate 4 (refine sq S ?_;clear S;intro a S));refine kN (xtn (kS (kR (sq S ?_))));clear S;intro a S;refine kN (xtn (kS (kS (kR ?_))));(iterate 3 (refine sq S ?_;clear S;intro a S));refine kN (xtn (kB ?_))
 refine c_forb2 S (fun(k:Nat) (ok:Bool) uu=>[(3,.bool ok),(0,str (lastM l k)),(1,uu 6),(5,.int .i64 (k:Nat)),(0,uu 13),(0,uu 14),(0,uu 15),(0,uu 16),(0,uu 17),(0,uu 18),(0,uu 19),(0,uu 20),(0,uu 21),(0,uu 22),(0,uu 23),(0,uu 24),(0,uu 25),(0,uu 26),(0,uu 27),(0,uu 28),(0,uu 29)]) (fun(k:Nat) (ok:Bool)=>k≤l.length∧(ok&&riseM (lastM l k) (l.drop k))=okM l) (fun(k:Nat) (ok:Bool)=>l.length - k) (0) (decide ((l.length:Int)≤16)) ?_ S.uu ?_ ?_
 exact ⟨Nat.zero_le _,rfl⟩
 first | exact S | exact S.sub _ _
 clear S;rintro k ok uu a w ⟨hk,hrel⟩ S
 refine kS (kR (sq S ?_));clear S;intro a S;refine kN (xtn (kS ?_))
 refine kC S (fun h4=>?_) (fun h4=>?_)
 refine kK (xtn (kS (kB (kS ?_))))
 have hkl:k < l.length:=by simp at h4;omega
 have hK:KLt k l.length:=⟨hkl⟩
 rw[nthG_drop hkl]at hrel
 refine kR ?_;(iterate 2 (refine sq S ?_;clear S;intro a S));refine sa S ?_;clear S;intro b6 a w S;refine sw S ?_;clear S;intro a w S;refine kN (xtn (kS (kR ?_)));(iterate 2 (refine sq S ?_;clear S;intro a S));refine gQ S ?_;clear S;intro a S;refine gC S ?_;clear S;intro a w S;(iterate 2 (refine sq S ?_;clear S;intro a S));(iterate 4 (refine gQ S ?_;clear S;intro a S));(iterate 2 (refine sq S ?_;clear S;intro a S));refine kN ?_;refine xtn (kR ?_);(iterate 3 (refine sq S ?_;clear S;intro a S));refine kN (xbn (xtn (kR ?_)));(iterate 2 (refine sq S ?_;clear S;intro a S));refine kN (xtn ?_)
 rw[w64 ((k:Int)+1) (by omega) (by omega)]at S
 refine ⟨k+1,_,S.uu,⟨hkl,?_⟩,S.sub _ _,by omega⟩
 rw[←hrel]
 show (ok&&markB (nthG l k)&&Op.bytesLess (lastM l k) (nthG l k).key&&riseM (nthG l k).key (l.drop (k+1)))=(ok&&(markB (nthG l k)&&Op.bytesLess (lastM l k) (nthG l k).key&&riseM (nthG l k).key (l.drop (k+1))))
 simp only[Bool.and_assoc]
 refine kE (xte (xte (xbe (xtn (kS (kS ?_))))))
 rw[List.drop_of_length_le (by simp at h4;omega)]at hrel
 rw[show riseM (lastM l k) []=true from rfl,Bool.and_true]at hrel
 refine kR ?_;(iterate 2 (refine sq S ?_;clear S;intro a S));refine kN (xtn ?_)
 refine kC S (fun h9=>?_) (fun h9=>?_)
 refine kS (kR (sq S ?_));clear S;intro a S;refine kN (xtn (kT (xtr ?_)))
 have h9':ok=false:=by simpa using h9
 refine end1 S (fun _=>?_)
 rw[tchkF,←hrel,h9'];rfl
 refine kK (xtn (kS (kR (sq S ?_))));clear S;intro a S;refine kN (xtn (kT ?_))
 have h9':ok=true:=by simpa using h9
 refine end1 S (fun _=>?_)
 rw[tchkF,←hrel,h9'];rfl
instance {l:List LMark} {p:Option Addr} {n c:Nat} {bs fs} [hg:HasG fs p LMark layMark l] [hn:LenN l n] [hk:LeC n 9223372036854775807]:CallV Tryz.prog 115 [.slice p n c] bs fs (.int .i64 (tchkF l)):=⟨fun w m=>tcheck_c l p n c w hn.eq hk.le ((hg.of _ _ m.facts).less fun _ _ h=>h.elim)⟩
theorem half_u (i j:Nat) (h:i+j≤1000000000):(IntKind.u64.wrap (IntKind.i64.wrap ((i:Int)+(j:Int)))).fdiv (2 ^ min 1 IntKind.u64.bits)=(((i+j) / 2:Nat):Int):=by
 have e1:IntKind.u64.wrap ((i:Int)+(j:Int))=(i:Int)+(j:Int):=by
  unfold IntKind.wrap
  simp only[IntKind.bits,IntKind.signed,Bool.false_and]
  simp
  omega
 rw[w64 _ (by omega) (by omega),e1]
 show ((i:Int)+(j:Int)).fdiv 2=_
 rw[Int.fdiv_eq_ediv_of_nonneg _ (by omega)]
 omega
end Go.Proofs.YtdakncgafdnjfaaGreat
namespace Go.Wk
open Go
def RetP (P:Program) (f:Nat) (args:List Value) (w:World) (M:Nat→Prop) (R:Value→World→Prop) (X:List PanicEntry→World→Prop):Prop:=
 Calls P f args.toArray w fun e w'=>(∃ v,e=.returned v∧Agree M w w'∧R v w')∨∃ ch,e=.panicked ch∧Agree M w w'∧X ch w'
def pch (v:Value):List PanicEntry:=[{ v:=v,recovered:=false }]
section
variable {P:Program} {r:Option Nat} {ops:Array Oper} {Q:Exit→Act→World→Prop} {w0:World} {M0:Nat→Prop} {ds:List Deferred} {a:Act} {w:World} {l l':List Value} {bs bs':List Item} {fs:List (World→Prop)}
 {d:Option Nat} {op:Op} {ty:TypeId} {pos:String} {af:Array Edge} {rest:List Oper} {v v' G:Value} {f:Nat} {x:Operand} {xs:List Operand} {args:List Value} {ts:Array TypeId} {j g:Nat} {pol:Bool} {cs:List Bool}
theorem cv_anyP [EntF P f] [CallTo ⟨[],l⟩ x xs f args] (S:St w0 M0 ds a w l bs fs) {R:Ending→World→Prop} (hc:Calls P f args.toArray w R)
  (K:∀ e w',R e w'→(∃ v,e=.returned v∧WL P r ops Q rest (a.put d v) w')∨∃ ch,e=.panicked ch∧Q (.panic ch) a w') :
  WL P r ops Q (⟨d,.call { callee:=.value x,args:=xs.toArray,argTypes:=ts },ty,pos,af,none⟩::rest) a w:=by
 refine wl_plain rfl ?_
 rw[semAt_nd rfl]
 simp only[run_callto (f:=f) (args:=args) S.fr,Oper.uponIn]
 refine ⟨fun h=>(by cases h),trivial,fun cs _=>?_⟩
 obtain ⟨e,w',fr,hR,hcm,h1,h2⟩:=hc cs
 rcases K e w' hR with ⟨v,rfl,hk⟩ | ⟨ch,rfl,hk⟩
 exact ⟨.returned v,w',fr,hk,(comesIn_wide (m:=lone (Frame.enter P f args.toArray .normal) cs w) (e:=.returned v)).2 hcm,h1,h2⟩
 exact ⟨.panicked ch,w',fr,hk,(comesIn_wide (m:=lone (Frame.enter P f args.toArray .normal) cs w) (e:=.panicked ch)).2 hcm,h1,h2⟩
theorem srP {l':Value→List Value} [EntF P f] [CallTo ⟨[],l⟩ x xs f args] [hp:∀ v,PutO l d v (l' v)] (S:St w0 M0 ds a w l bs fs) {R:Value→World→Prop} {X:List PanicEntry→World→Prop} (hc:RetP P f args w (fun _=>False) R X)
  (Kp:∀ ch w',X ch w'→St w0 M0 ds a w' l bs fs→Q (.panic ch) a w')
  (K:∀ v a w',R v w'→St w0 M0 ds a w' (l' v) bs fs→WL P r ops Q rest a w') :
  WL P r ops Q (⟨d,.call { callee:=.value x,args:=xs.toArray,argTypes:=ts },ty,pos,af,none⟩::rest) a w:=by
 refine cv_anyP S hc ?_
 rintro e w' (⟨v,rfl,ha,hR⟩ | ⟨ch,rfl,ha,hX⟩)
 have:=hp v
 have S':=S.put (d:=d) (v:=v)
 exact .inl ⟨v,rfl,K v _ w' hR ⟨S'.slots,S'.defers,S'.wd.step ha⟩⟩
 exact .inr ⟨ch,rfl,Kp ch w' hX ⟨S.slots,S.defers,S.wd.step ha⟩⟩
theorem sPan {tp:TypeId} [hx:Ev ⟨[],l⟩ x (.iface tp v)] (S:St w0 M0 ds a w l bs fs) (h:St w0 M0 ds a w l bs fs→Q (.panic (pch (.iface tp v))) a w):WL P r ops Q (⟨d,.panic x,ty,pos,af,none⟩::rest) a w:=by
 refine wl_plain rfl ?_
 rw[semAt_nd rfl]
 have hf:a.eval x=.iface tp v:=S.fr.ev
 have:(xop a.eval (.panic x) ty).run P w=.halt (.panic (.iface tp v)) w:=by
  simp[xop,execOp,hf,Instr.panic,goPanic,Sem.run]
 rw[this]
 exact h S
variable {fn:Func} {R:Value→World→Prop} {X:List PanicEntry→World→Prop} {e:Exit}
theorem endP (h:bodyPost P fn (fun e w'=>∃ v,e=.returned v∧Agree M0 w0 w'∧R v w') e a w) :
  bodyPost P fn (fun e w'=>(∃ v,e=.returned v∧Agree M0 w0 w'∧R v w')∨∃ ch,e=.panicked ch∧Agree M0 w0 w'∧X ch w') e a w:=by
 cases e <;> simp only[bodyPost]at h⊢<;> first | exact h | skip
 exact ⟨h.1,h.2.choose,h.2.choose_spec.1,.inl h.2.choose_spec.2⟩
 exact ⟨h.1,h.2.choose,h.2.choose_spec.1,.inl h.2.choose_spec.2⟩
 exact ⟨h.1,.inl h.2⟩
 exact .inl h
theorem endX {ch:List PanicEntry} (S:St w0 M0 [] a w l bs fs) (h:X ch w) :
  bodyPost P fn (fun e w'=>(∃ v,e=.returned v∧Agree M0 w0 w'∧R v w')∨∃ ch,e=.panicked ch∧Agree M0 w0 w'∧X ch w') (.panic ch) a w:=
 ⟨S.defers,.inr ⟨ch,rfl,S.wd.agree,h⟩⟩
theorem enterD {f:Nat} {fn:Func} {c:Code} {args:List Value} {l:List Value} {R:Ending→World→Prop} {M0:Nat→Prop} {bs:List Item} {fs:List (World→Prop)}
  (hf:P.funcs[f]? = some fn) (hb:fn.body=some c) (hl:args++List.replicate (fn.ntmps - args.length) undef=l) (hw:Wd w M0 w bs fs)
  (h:∀ a,St w M0 [] a w l bs fs→Wp P none c (bodyPostDIn (FW none) 0 P fn R) a w):Calls P f args.toArray w R:=by
 refine (callsIn_wide (n:=0)).1 (callsIn_of_wp_defers (F:=FW none) (n:=0) hf hb trivial (h _ ⟨?_,rfl,hw⟩))
 simp[←hl]
theorem sdef {fi ca:List Value} {l':List Value} [hx:Ev ⟨[],l⟩ x (.func (.func f) ⟨fi⟩ ⟨ca⟩)] [hp:PutO l d undef l'] (S:St w0 M0 ds a w l bs fs)
  (K:∀ a,St w0 M0 ({ target:=.fn (.func f) ⟨ca⟩,args:=⟨fi⟩ }::ds) a w l' bs fs→WL P none ops Q rest a w) :
  WL P none ops Q (⟨d,.defer { callee:=.value x,args:=#[],argTypes:=ts },ty,pos,af,none⟩::rest) a w:=by
 refine wl_plain rfl ?_
 have hf:a.eval x=.func (.func f) ⟨fi⟩ ⟨ca⟩:=S.fr.ev
 rw[Oper.semAt_none]
 have:(execOp a.eval ⟨d,.defer { callee:=.value x,args:=#[],argTypes:=ts },ty,pos,af,none⟩).run P w=.ok (.defer { target:=.fn (.func f) ⟨ca⟩,args:=⟨fi⟩ }) w:=by
  simp[execOp,resolve,hf,Deferred.ofValue]
 rw[this]
 obtain ⟨t,dd⟩:=a
 have:=S.slots;simp at this;subst this
 have hd:=S.defers;simp at hd;subst hd
 show WL P none ops Q rest _ w
 rw[hp.eq]
 exact K _ ⟨rfl,rfl,S.wd⟩
theorem leaveRet {g:Nat} {ca:List Value} {K:World→Prop} {Rr:Ending→World→Prop} [he:EntF P g] (hd:a.defers=[{ target:=.fn (.func g) ⟨ca⟩,args:=#[] }])
  (hc:CallsDIn (FW none) 0 P g ca.toArray .returning w fun e u' w'=>(∃ v,e=.returned v)∧u'=.returning∧K w')
  (hk:∀ w',K w'→∃ v,(results fn a.tmps).run P w'=.ok v w'∧Rr (.returned v) w') (hx:e=.ret∨e=.normal:=by simp):bodyPostDIn (FW none) 0 P fn Rr e a w:=by
 have key:LeavesIn (FW none) 0 P fn a.tmps Rr a.defers .returning w:=by
  rw[hd]
  refine leavesIn_cons (f:=g) (args:=ca.toArray) (by simp) (fun h=>by cases h) ?_ (fun _ _=>trivial) (hc.mono ?_)
  have:=he.run ca.toArray w
  simpa [invoke] using this
  rintro e u' w' ⟨⟨v,rfl⟩,rfl,hK⟩
  obtain ⟨v,h1,h2⟩:=hk w' hK
  exact ⟨v,h1,h2⟩
 rcases hx with rfl | rfl <;> exact key
theorem leavePan {g:Nat} {ca:List Value} {pv:Value} {K:World→Prop} {Rr:Ending→World→Prop} [he:EntF P g] (hd:a.defers=[{ target:=.fn (.func g) ⟨ca⟩,args:=#[] }])
  (hc:CallsDIn (FW none) 0 P g ca.toArray (.panicking (pch pv)) w fun e u' w'=>(∃ v,e=.returned v)∧u'=.panicking [{ v:=pv,recovered:=true }]∧K w')
  (hk:∀ w',K w'→∃ v,(results fn a.tmps).run P w'=.ok v w'∧Rr (.returned v) w'):bodyPostDIn (FW none) 0 P fn Rr (.panic (pch pv)) a w:=by
 show LeavesIn (FW none) 0 P fn a.tmps Rr a.defers (.panicking (pch pv)) w
 rw[hd]
 refine leavesIn_cons (f:=g) (args:=ca.toArray) (by simp) (fun h=>by cases h) ?_ (fun _ _=>trivial) (hc.mono ?_)
 have:=he.run ca.toArray w
 simpa [invoke] using this
 rintro e u' w' ⟨⟨v,rfl⟩,rfl,hK⟩
 obtain ⟨v,h1,h2⟩:=hk w' hK
 exact ⟨v,h1,h2⟩
theorem callsD_catch {f:Nat} {fn:Func} {rest:Code} {id t6 t3:Nat} {ty0 ty1:TypeId} {pos0 pos1:String} {af0 af1:Array Edge} {args l:List Value} {l1 l2:Value→List Value} {u:FrameMode} {w0:World} {M0:Nat→Prop} {bs:List Item} {fs:List (World→Prop)} {Rr:Ending→FrameMode→World→Prop}
  (hf:P.funcs[f]? = some fn) (hb:fn.body=some (.seq (.region id #[⟨some t6,.call { callee:=.builtin .recover,args:=#[],argTypes:=#[] },ty0,pos0,af0,none⟩,⟨some t3,.assign (.tmp t6),ty1,pos1,af1,none⟩] false) rest))
  (hl:args++List.replicate (fn.ntmps - args.length) undef=l) (hw:Wd w0 M0 w bs fs) [hp1:∀ x,PutAt l t6 x (l1 x)] [hn1:∀ x,Nth (l1 x) t6 x] [hp2:∀ x,PutAt (l1 x) t3 x (l2 x)]
  (hu:u=.returning∨∃ pv,u=.panicking (pch pv))
  (h:∀ (x:Value) (u':FrameMode),(u=.returning∧x=.nilIface∧u'=u∨∃ pv,u=.panicking (pch pv)∧x=pv∧u'=.panicking [{ v:=pv,recovered:=true }])→
   ∀ a,St w0 M0 [] a w (l2 x) bs fs→Wp P none rest (fun e a' w'=>(e=.normal∨e=.ret)∧a'.defers=[]∧∃ v,(results fn a'.tmps).run P w'=.ok v w'∧Rr (.returned v) u' w') a w) :
  CallsDIn (FW none) 0 P f args.toArray u w Rr:=by
 have main:∀ (c₀:Frame) (cs:List Frame) (x:Value) (u':FrameMode),c₀.mode=u→
   (u=.returning∧x=.nilIface∧u'=u∨∃ pv,u=.panicking (pch pv)∧x=pv∧u'=.panicking [{ v:=pv,recovered:=true }])→
   rest.wpSIn (FW none) 0 P (bodyPostS P fn c₀ cs Rr) ⟨(l2 x).toArray,[]⟩ ({ c₀ with mode:=u' }::cs) w:=by
  intro c₀ cs x u' _ hx
  refine wpSIn_of_wpIn rfl (wpIn_mono (h x u' hx ⟨(l2 x).toArray,[]⟩ ⟨rfl,rfl,hw⟩) fun e a' w' hq=>?_)
  obtain ⟨he,hd,v,h1,h2⟩:=hq
  rcases he with rfl | rfl <;> exact ⟨hd,u',rfl,v,h1,h2⟩
 refine callsDIn_of_wpSIn hf hb trivial fun c₀ cs hc₀=>wpSIn_seq (wpSIn_region ?_)
 have hl':args.toArray++Array.replicate (fn.ntmps - args.toArray.size) undef=l.toArray:=by rw[←hl];simp
 rw[hl']
 have step:∀ x,((⟨l.toArray,[]⟩:Act).put (some t6) x).put (some t3) (((⟨l.toArray,[]⟩:Act).put (some t6) x).eval (.tmp t6))=⟨(l2 x).toArray,[]⟩:=fun x=>by
  have e1:(⟨l.toArray,[]⟩:Act).put (some t6) x=⟨(l1 x).toArray,[]⟩:=(puto1 (l:=l) (l':=l1 x) (v:=x) (n:=t6)).eq []
  have e2:(⟨(l1 x).toArray,[]⟩:Act).eval (.tmp t6)=x:=by
   have:=(hn1 x).eq
   simp[Act.eval,Array.getD_eq_getD_getElem?,this]
  rw[e1,e2]
  exact (puto1 (l:=l1 x) (l':=l2 x) (v:=x) (n:=t3)).eq []
 have hr0:∀ (a:Act),(execOp a.eval ⟨some t6,.call { callee:=.builtin .recover,args:=#[],argTypes:=#[] },ty0,pos0,af0,none⟩).run P w=.ok .recover w:=fun a=>by
  simp[execOp,resolve,invoke,builtin]
 have hr1:∀ (a:Act),(execOp a.eval ⟨some t3,.assign (.tmp t6),ty1,pos1,af1,none⟩).run P w=.ok (.value (a.eval (.tmp t6))) w:=fun a=>by
  simp[execOp]
 have hcs:({ c₀ with mode:=u } : Frame)=c₀:=by subst hc₀;rfl
 rw[show List.range (#[(⟨some t6,.call { callee:=.builtin .recover,args:=#[],argTypes:=#[] },ty0,pos0,af0,none⟩:Oper),⟨some t3,.assign (.tmp t6),ty1,pos1,af1,none⟩]:Array Oper).size=[0,1] from rfl]
 simp only[wpOpsSIn,List.getElem?_toArray,List.getElem?_cons_zero,List.getElem?_cons_succ,hr0,hr1]
 refine ⟨fun _ _=>trivial,?_⟩
 rw[if_pos (by rfl)]
 rcases hu with rfl | ⟨pv,rfl⟩
 have:recoverD (c₀::cs)=none:=by simp[recoverD,hc₀]
 rw[this]
 refine ⟨fun _ _=>trivial,?_⟩
 rw[if_pos (by rfl)]
 have hm:=main c₀ cs .nilIface .returning hc₀ (.inl ⟨rfl,rfl,rfl⟩)
 rw[hcs]at hm
 rw[←step]at hm
 exact hm
 have:recoverD (c₀::cs)=some (pv,{ c₀ with mode:=.panicking [{ v:=pv,recovered:=true }] }::cs):=by simp[recoverD,hc₀,pch]
 rw[this]
 refine ⟨fun _ _=>trivial,?_⟩
 rw[if_pos (by rfl)]
 have hm:=main c₀ cs pv _ hc₀ (.inr ⟨pv,rfl,rfl,rfl⟩)
 rw[←step]at hm
 exact hm
end
theorem resC {P:Program} {fn:Func} {w0:World} {M0:Nat→Prop} {a:Act} {w:World} {l:List Value} {bs:List Item} {fs:List (World→Prop)} [hr:FnRes fn []] (S:St w0 M0 [] a w l bs fs):(results fn a.tmps).run P w=.ok (.tuple #[]) w:=by
 rw[S.slots,results_eq (rs:=[])];simp
theorem res3 {P:Program} {fn:Func} {t:Array Value} {w:World} {l:List Value} {bs:List Item} {r1 r2 r3:ResultVar} {v1 v2 v3:Value} [hr:FnRes fn [r1,r2,r3]] (hs:t=l.toArray) [h1:ResV P l bs r1 v1] [h2:ResV P l bs r2 v2] [h3:ResV P l bs r3 v3] (hh:∀ it∈bs,it.holds w):(results fn t).run P w=.ok (.tuple ⟨[v1,v2,v3]⟩) w:=by
 rw[hs,results_eq (rs:=[r1,r2,r3])]
 simp[run_res (P:=P) (l:=l) (bs:=bs) (rv:=r1) (v:=v1) w hh,run_res (P:=P) (l:=l) (bs:=bs) (rv:=r2) (v:=v2) w hh,run_res (P:=P) (l:=l) (bs:=bs) (rv:=r3) (v:=v3) w hh]
structure XP where
 keep:List (Nat × Value)
 dss:List Deferred
 XW:List PanicEntry→World→Prop
def XP.at (x:XP):Exit→Act→World→Prop
 | .panic ch,a,w=>(∀ p∈x.keep,a.tmps[p.1]? = some p.2)∧a.defers=x.dss∧x.XW ch w
 | _,_,_=>False
def XP.off (x:XP) (o:Oper):Prop:=∀ p∈x.keep,o.dst≠some p.1
theorem XP.put {x:XP} {o:Oper} (h:x.off o) {ch:List PanicEntry} {a:Act} {v:Value} {w:World} (hp:x.at (.panic ch) (a.put o.dst v) w):x.at (.panic ch) a w:=by
 obtain ⟨h1,h2,h3⟩:=hp
 refine ⟨fun p hpk=>?_,?_,h3⟩
 have h1:=h1 p hpk
 have h0:=h p hpk
 cases hd:o.dst with
 | none=>rw[hd]at h1;exact h1
 | some n=>
  rw[hd]at h1
  have hne:n≠p.1:=fun e=>h0 (by rw[hd,e])
  simpa [Act.put,Array.getElem?_setIfInBounds,hne] using h1
 cases hd:o.dst <;> rw[hd]at h2 <;> exact h2
section
variable {P:Program} {ops:Array Oper} {C:World→Prop} {X:XP}
abbrev WNX (P:Program) (ops:Array Oper) (X:XP) (i:Nat) (K:Act→World→Prop) (a:Act) (w:World):Prop:=wpOpIn (FW none) 0 P ops X.at i K a w
theorem YieldsC.wnx {i:Nat} {o:Oper} {v:Value} {a:Act} (hi:ops[i]? = some o) (hy:YieldsC P ops C o v a)
  {K:Act→World→Prop} {w:World} (hC:C w) (h:K (a.put o.dst v) w):WNX P ops X i K a w:=by
 unfold WNX wpOpIn
 simp only[hi]
 rcases hy with ⟨hw,hv⟩ | ⟨hw,rfl⟩
 simp only[hw,if_true,Oper.wpIn,Oper.semAt_none,hv w hC,Oper.uponIn];exact ⟨fun _ _=>trivial,h⟩
 simp only[hw,Bool.false_eq_true,if_false];exact ⟨fun _ _=>trivial,h⟩
theorem wnx_put {j:Nat} {oi oj:Oper} {v:Value} (hj:ops[j]? = some oj) (hap:oi.apart ops oj=true) (hoff:X.off oi)
  (hsi:∀ cs b,oi.op≠.select cs b) (hsj:∀ cs b,oj.op≠.select cs b) {K:Act→World→Prop} {a:Act} {w:World}
  (hy:YieldsC P ops C oi v a) (h:WNX P ops X j K (a.put oi.dst v) w) :
  WNX P ops X j (fun a' w'=>YieldsC P ops C oi v a'∧K (a'.put oi.dst v) w') a w:=by
 obtain ⟨h1,h2,h3⟩:=Oper.apart_spec hap
 have keep:∀ (a:Act),YieldsC P ops C oi v a→∀ u,YieldsC P ops C oi v (a.put oj.dst u):=fun a hy u=>
  hy.of_same (execOp_put oi hsi a oj.dst u h3) (wanted_put oi a oj.dst u h3)
 have keepD:∀ d,YieldsC P ops C oi v { a with defers:=d::a.defers }:=fun d=>hy.of_same rfl rfl
 have lets:LetsOut X.at→LetsOut X.at:=id
 unfold WNX wpOpIn at *
 simp only[hj]at *
 rw[wanted_put oj a oi.dst v h1]at h
 split
 ·rename_i hw
  simp only[hw,if_true]at h
  unfold Oper.wpIn at *
  refine ⟨fun _ _=>trivial,?_⟩
  have h:=h.2
  rw[Oper.semAt_none,execOp_put oj hsj a oi.dst v h1]at h
  rw[Oper.semAt_none]
  generalize (execOp a.eval oj).run P w=r at *
  cases r with
  | ok x w'=>
   cases x <;> simp only[Oper.uponIn]at h⊢
   case value u=>exact ⟨keep a hy u,by rw[←Act.put_comm a v u h2];exact h⟩
   case skip=>exact ⟨keep a hy _,by rw[←Act.put_comm a v undef h2];exact h⟩
   case defer d=>
    refine ⟨keep _ (keepD d) _,?_⟩
    rw[←Act.put_comm _ v undef h2,←Act.put_defers]
    exact h
   case enter f args=>
    refine ⟨h.1,CallsIn.mono h.2 fun e w'' he=>?_⟩
    cases e with
    | returned u=>exact ⟨keep a hy u,by rw[←Act.put_comm a v u h2];exact he⟩
    | panicked c=>exact XP.put hoff he
    | outgrown=>exact he
   case row row args=>exact ⟨h.1,RowsIn.mono h.2 fun u w'' he=>⟨keep a hy u,by rw[←Act.put_comm a v u h2];exact he⟩⟩
   case round l f tmps assign body=>
    refine ⟨h.1,RoundIn.mono h.2 fun e w'' he=>?_⟩
    cases e with
    | returned u=>exact ⟨keep a hy u,by rw[←Act.put_comm a v u h2];exact he⟩
    | panicked c=>exact XP.put hoff he
    | outgrown=>exact he
  | halt x w'=>
   cases x <;> simp only[Oper.uponIn]at h⊢
   case panic u=>exact XP.put hoff h
 ·rename_i hw
  simp only[hw]at h
  exact ⟨fun _ _=>trivial,keep a hy _,by rw[←Act.put_comm a v undef h2];exact h.2⟩
variable {R:Act→World→Prop}
variable {r:Option Nat} {Q:Exit→Act→World→Prop} {w0:World} {M0:Nat→Prop} {ds:List Deferred} {a:Act} {w:World} {l l':List Value} {bs bs' bs0:List Item} {fs fs0:List (World→Prop)}
 {d:Option Nat} {op:Op} {ty:TypeId} {pos:String} {af:Array Edge} {rest:List Oper} {v v' G:Value} {j g:Nat} {pol:Bool} {cs:List Bool} {n:Nat} {listed:Array Bool}
def XP.offB (x:XP) (ops:Array Oper):Bool:=ops.toList.all fun o=>x.keep.all fun p=>match o.dst with | some n=>!Nat.beq n p.1 | none=>true
theorem XP.offB_spec {x:XP} {ops:Array Oper} (h:x.offB ops=true) {i:Nat} {o:Oper} (hi:ops[i]? = some o):x.off o:=by
 intro p hp e
 have h1:=List.all_eq_true.1 (List.all_eq_true.1 h o (by rw[←Array.getElem?_toList]at hi;exact List.mem_of_getElem? hi)) p hp
 rw[e]at h1
 simp at h1
variable {ord:List (Nat × Bool)} {i:Nat}
theorem XP.of {ch:List PanicEntry} {K:Prop} (S:St w0 M0 ds a w l bs fs) (hk:∀ p∈X.keep,l[p.1]? = some p.2) (hd:ds=X.dss) (h:X.XW ch w):K∨X.at (.panic ch) a w:=
 .inr ⟨fun p hp=>by rw[S.slots];simpa using hk p hp,by rw[S.defers,hd],h⟩
theorem wnx_round {i:Nat} {K:Act→World→Prop} (hQ:∀ ch a w,X.at (.panic ch) a w→Q (.panic ch) a w) (hd:∀ (i:Nat) o,ops[i]? = some o→isDefer o.op=false) (h:WNX P ops X i K a w):wpOpIn (FW r) 0 P ops Q i K a w:=by
 unfold WNX wpOpIn at *
 cases ho:ops[i]? with
 | none=>simp only[ho]at h⊢;exact h
 | some o=>
  simp only[ho]at h⊢
  split
  ·rename_i hw
   rw[if_pos hw]at h
   refine ⟨fun _ _=>trivial,?_⟩
   have h:=h.2
   rw[show (FW none).round=none from rfl]at h
   rw[show (FW r).round=r from rfl,semAt_any (hd i o ho)]
   generalize (o.semAt none a.eval).run P w=q at *
   cases q with
   | ok x w'=>
    cases x <;> simp only[Oper.uponIn]at h⊢<;> first | exact h | skip
    case enter f args=>
     refine ⟨fun h=>(by cases h),trivial,fun cs _=>?_⟩
     obtain ⟨e,w',fr,hR,hcm,h1,h2⟩:=h.2.2 cs (room_wide _)
     refine ⟨e,w',fr,?_,hcm,h1,h2⟩
     cases e with
     | returned v=>exact hR
     | panicked c=>exact hQ _ _ _ hR
     | outgrown=>obtain ⟨_,_,hR⟩:=hR;exact hR.elim
    case round l f tmps assign body=>
     refine ⟨fun h=>(by cases h),trivial,fun c cs _=>?_⟩
     obtain ⟨e,w',hR,hcm⟩:=h.2.2 c cs (room_wide _)
     refine ⟨e,w',?_,hcm⟩
     cases e with
     | returned v=>exact hR
     | panicked c=>exact hQ _ _ _ hR
     | outgrown=>obtain ⟨_,_,hR⟩:=hR;exact hR.elim
   | halt x w'=>
    cases x <;> simp only[Oper.uponIn]at h⊢
    case panic u=>exact hQ _ _ _ h
  ·rename_i hw
   rw[if_neg hw]at h
   exact ⟨fun _ _=>trivial,h.2⟩
end
theorem decode_lo (s:ByteArray) (i:Nat) (h:(s.get! i).toNat < 128):Utf8.decode s i=((s.get! i).toNat,1):=by
 unfold Utf8.decode
 simp only[Nat.add_zero]
 rw[if_pos h]
theorem decode_hi (s:ByteArray) (i:Nat) (h:¬(s.get! i).toNat < 128):128≤(Utf8.decode s i).1∧1≤(Utf8.decode s i).2:=by
 unfold Utf8.decode
 simp only[Nat.add_zero]
 rw[if_neg h]
 repeat' split
 all_goals (try simp only[Bool.and_eq_true,decide_eq_true_eq,ge_iff_le]at *)
 all_goals (constructor <;> first | omega | (simp only[Utf8.runeError];omega))
def sti (r:Nat) (s:List UInt8) (i:Nat):Item where
 foot:=fun k=>k=r
 holds:=fun w=>w.heap[r]? = some (.stringIter ⟨s.toArray⟩ i)
theorem sti_loc (r:Nat) (s:List UInt8) (i:Nat) (w1 w2:World) (h:∀ k,(sti r s i).foot k→w2.heap[k]? = w1.heap[k]?) (h1:(sti r s i).holds w1):(sti r s i).holds w2:=(h r rfl).trans h1
class HasSti (bs:List Item) (r:Nat) (s:outParam (List UInt8)) (i:outParam Nat):Prop where mem:sti r s i∈bs
instance hsti0 {r:Nat} {s:List UInt8} {i:Nat} {bs:List Item} : HasSti (sti r s i::bs) r s i:=⟨List.mem_cons_self ..⟩
section
variable {P:Program} {r0:Option Nat} {ops:Array Oper} {Q:Exit→Act→World→Prop} {w0:World} {M0:Nat→Prop} {ds:List Deferred} {a:Act} {w:World} {l:List Value} {bs:List Item} {fs:List (World→Prop)}
 {d:Option Nat} {op:Op} {ty:TypeId} {pos:String} {af:Array Edge} {rest:List Oper} {t kt et:TypeId} {x:Operand} {b r i:Nat} {s:List UInt8}
theorem sstr0 {l':Nat→List Value} (S:St w0 M0 ds a w l bs fs) [Ev ⟨[],l⟩ x (str s)] [ht:Und P t .string] [hp:∀ r,PutO l d (.pointer (some ⟨r,0,none⟩)) (l' r)]
  (K:∀ r a w,St w0 M0 ds a w (l' r) (sti r s 0::bs) fs→WL P r0 ops Q rest a w):WL P r0 ops Q (⟨d,.range t x,ty,pos,af,none⟩::rest) a w:=by
 refine wl_plain rfl ?_
 rw[semAt_nd rfl]
 have e1:(xop a.eval (.range t x) ty).run P w=.ok (.value (.pointer (some ⟨w.heap.size,0,none⟩))) (w.alloc (.stringIter ⟨s.toArray⟩ 0)):=by
  have h2:(Instr.range t (str s)).run P w=.ok (.pointer (some ⟨w.heap.size,0,none⟩)) (w.alloc (.stringIter ⟨s.toArray⟩ 0)):=by
   simp[Instr.range,str,Sem.run_bind,run_und,newObj,Sem.run]
  simp[xop,execOp,S.fr.ev (x:=x) (v:=str s),h2]
 simp only[e1,Oper.uponIn]
 have:=hp w.heap.size
 have S':=S.put (d:=d) (v:=.pointer (some ⟨w.heap.size,0,none⟩))
 refine K _ _ _ ⟨S'.slots,S'.defers,(S.wd.step (Agree.alloc _ w _)).more (y:=sti w.heap.size s 0) (heap_alloc_new w _) (fun k hk=>by cases hk;exact S.wd.agree.size) (fun k hk=>by cases hk;simp) (fun it hi k hk hk'=>by cases hk;exact absurd (S.wd.lt it hi _ hk') (Nat.lt_irrefl _)) ?_ (sti_loc _ _ _)⟩
 intro Φ hΦ w' hw'
 refine S.wd.facts Φ hΦ w' ((Agree.alloc _ w _).trans' hw' fun i hi=>?_)
 rintro ⟨it,hm,hf⟩
 rcases List.mem_cons.1 hm with rfl | hm
 cases hf;omega
 exact ⟨it,hm,hf⟩
def nxS (more:Bool) (i c:Nat):Value:=bif more then .tuple ⟨[.bool true,.int .i64 (i:Int),.int .i32 (c:Int)]⟩ else .tuple ⟨[.bool false]⟩
instance (priority:=1100) opExtNxS {l:Cx} {more:Bool} {i c:Nat} [Ev l x (nxS more i c)]:OpQ P (.extract x 0) ty l bs fs (.bool more):=⟨fun ρ w h _=>by
 cases more <;> simp[xop,execOp,h.ev (x:=x) (v:=nxS _ i c),nxS,Instr.extract]⟩
instance (priority:=1100) opExtNxS2 {l:Cx} {i c:Nat} [Ev l x (nxS true i c)]:OpQ P (.extract x 2) ty l bs fs (.int .i32 (c:Int)):=⟨fun ρ w h _=>by
 simp[xop,execOp,h.ev (x:=x) (v:=nxS true i c),nxS,Instr.extract]⟩
theorem snxs {l':Bool→Nat→List Value} {bs':Nat→List Item} (S:St w0 M0 ds a w l bs fs) [Ev ⟨[],l⟩ x (.pointer (some ⟨r,0,none⟩))] [hm:HasSti bs r s i] [hrep:∀ j,ReplI bs (sti r s i) (sti r s j) (bs' j)] [hp:∀ m c,PutO l d (nxS m i c) (l' m c)]
  (K:∀ (more:Bool) (c wd:Nat) a w,(more=false→s.length≤i)→(more=true→i < s.length∧((s.getD i 0).toNat < 128→c=(s.getD i 0).toNat∧wd=1)∧(¬(s.getD i 0).toNat < 128→128≤c))→St w0 M0 ds a w (l' more c) (bs' (bif more then i+wd else i)) fs→WL P r0 ops Q rest a w) :
  WL P r0 ops Q (⟨d,.next x true,ty,pos,af,none⟩::rest) a w:=by
 refine wl_plain rfl ?_
 rw[semAt_nd rfl]
 have hold:w.heap[r]? = some (.stringIter ⟨s.toArray⟩ i):=S.wd.held _ hm.mem
 have hx:a.eval x=.pointer (some ⟨r,0,none⟩):=S.fr.ev
 have hlt:r < w.heap.size:=(Array.getElem?_eq_some_iff.1 hold).1
 have hobj:(getObj r).run P w=.ok (.stringIter ⟨s.toArray⟩ i) w:=by simp[getObj,Sem.run,hold]
 have hget:(⟨s.toArray⟩:ByteArray).get! i=s.getD i 0:=by
  show s.toArray[i]! = _
  simp[List.getD_eq_getElem?_getD]
  rfl
 have hsz:(⟨s.toArray⟩:ByteArray).size=s.length:=by simp[ByteArray.size]
 by_cases hi:i < s.length
 ·have e1:(xop a.eval (.next x true) ty).run P w=.ok (.value (nxS true i (Utf8.decode ⟨s.toArray⟩ i).1)) (w.putObj r (.stringIter ⟨s.toArray⟩ (i+(Utf8.decode ⟨s.toArray⟩ i).2))):=by
   simp only[xop,execOp,hx,Instr.next,Sem.run_bind,hobj,Result.andThen,hsz,hi,if_true]
   simp[setObj,Sem.run,hold,World.putObj,nxS,goInt]
  simp only[e1,Oper.uponIn]
  have:=hp true (Utf8.decode ⟨s.toArray⟩ i).1
  have S':=S.put (d:=d) (v:=nxS true i (Utf8.decode ⟨s.toArray⟩ i).1)
  refine K true _ _ _ _ (fun h=>by cases h) (fun _=>⟨hi,fun h=>?_,fun h=>?_⟩) (S.reput (x:=sti r s i) (y:=sti r s (i+(Utf8.decode ⟨s.toArray⟩ i).2)) S'.slots S'.defers (hr:=hrep _) rfl (Agree.putObj w r _ rfl) (World.putObj_heap_same hlt) (fun k hk=>.inl hk) (fun k hk=>by cases hk;simpa using hlt) (sti_loc _ _ _))
  ·rw[←hget]at h⊢
   rw[decode_lo _ _ h];exact ⟨rfl,rfl⟩
  ·rw[←hget]at h
   exact (decode_hi _ _ h).1
 ·have e1:(xop a.eval (.next x true) ty).run P w=.ok (.value (nxS false i 0)) w:=by
   simp only[xop,execOp,hx,Instr.next,Sem.run_bind,hobj,Result.andThen,hsz,hi,if_false]
   simp[nxS]
  simp only[e1,Oper.uponIn]
  have:=hp false 0
  have S':=S.put (d:=d) (v:=nxS false i 0)
  have hr0:=hrep i
  obtain ⟨pre,post,rfl,hb⟩:=hr0.ex
  refine K false 0 0 _ _ (fun _=>by omega) (fun h=>by cases h) ?_
  show St _ _ _ _ _ _ (bs' i) _
  rw[hb]
  exact S'
end
instance opNilN {P:Program} {l:Cx} {bs:List Item} {fs:List (World→Prop)} {x:Operand} {t t' ty:TypeId} [Ev l x .nilIface] [hi:IfT P t]:OpQ P (.binOp .neq t x (.const .nilIface) t') ty l bs fs (.bool false):=⟨fun ρ w h _=>by
 have e2:ρ (.const .nilIface)=.nilIface:=h.ev (x:=.const .nilIface) (v:=.nilIface)
 simp[xop,execOp,h.ev (x:=x) (v:=.nilIface),e2,eqGuard,binOp,run_equal_nil_nil w t hi.eq]⟩
instance opIfN {P:Program} {l:Cx} {bs:List Item} {fs:List (World→Prop)} {x:Operand} {t t' ty:TypeId} {te:TypeId} {pe:Value} [Ev l x (.iface te pe)] [hi:IfT P t]:OpQ P (.binOp .neq t x (.const .nilIface) t') ty l bs fs (.bool true):=⟨fun ρ w h _=>by
 have e2:ρ (.const .nilIface)=.nilIface:=h.ev (x:=.const .nilIface) (v:=.nilIface)
 simp[xop,execOp,h.ev (x:=x) (v:=.iface te pe),e2,eqGuard,binOp,run_equal_held_nil w t te pe hi.eq]⟩
class StT (P:Program) (t:TypeId):Prop where ex:∃ fs,P.underlying t=some (.struct fs)
instance opAssert {P:Program} {l:Cx} {bs:List Item} {fs:List (World→Prop)} {x:Operand} {tx t ty:TypeId} {pe:Value} [Ev l x (.iface t pe)] [hs:StT P t]:OpQ P (.typeAssert x tx t true) ty l bs fs (.tuple ⟨[pe,.bool true]⟩):=⟨fun ρ w h _=>by
 obtain ⟨fs,hf⟩:=hs.ex
 simp[xop,execOp,h.ev (x:=x) (v:=.iface t pe),Instr.typeAssert,Sem.run_bind,run_underlying hf w]⟩
instance opMkIf {P:Program} {l:Cx} {bs:List Item} {fs:List (World→Prop)} {x:Operand} {t ty:TypeId} {v:Value} [Ev l x v] [hs:StT P t]:OpQ P (.makeInterface t x) ty l bs fs (.iface t v):=⟨fun ρ w h _=>by
 obtain ⟨fs,hf⟩:=hs.ex
 simp[xop,execOp,h.ev (x:=x) (v:=v),Instr.makeInterface,Sem.run_bind,run_underlying hf w]⟩
section
variable {P:Program} {ls:Cx} {bs:List Item} {fs:List (World→Prop)} {x y:Operand} {b off k n sz o o':Nat} {kk:IntKind} {m:Int} {t ty e:TypeId} {z:Value} {by_:Nat}
instance (priority:=860) opIdxArr [Ev ls x (.pointer (some ⟨b,off,none⟩))] [Ev ls y (.int kk m)] [hm:IsNat m k] [ht:Und P t (.array n e)] [TI P e z sz by_] [hk:KLt k n] [ho:MulN k sz o] [ho':AddN off o o'] :
  OpQ P (.indexAddr t x y) ty ls bs fs (.pointer (some ⟨b,o',none⟩)):=⟨fun ρ w h mm=>by
 have e1:=hm.eq
 subst e1
 have h1:(k:Int) < n:=by have:=hk.lt;omega
 have e2:(⟨b,off,none⟩:Addr).add (k*sz)=⟨b,o',none⟩:=by rw[ho.eq,←ho'.eq];exact add_lit_off b off o
 simp[xop,execOp,h.ev (x:=x) (v:=.pointer (some ⟨b,off,none⟩)),h.ev (x:=y) (v:=.int kk (k:Int)),Instr.indexAt,asIntOf,Sem.run_bind,run_und,Instr.sureAddr,run_size,e2,Int.natCast_nonneg]
 intro hle
 have:=hk.lt
 omega⟩
end
open Go Go.Deep Go.ChangeShapes Go.WideShapes Go.ChangeAt Go.RowKit
structure A3 (α:Type) where
 a:α
 b:α
 c:α
def A3.l {α:Type} (x:A3 α):List α:=[x.a,x.b,x.c]
instance encA3 {α:Type} [i:Lay α]:Enc (A3 α):=⟨3*Enc.sz α,fun x=>Enc.cells x.a++(Enc.cells x.b++Enc.cells x.c),fun x=>by simp[Enc.len];omega,fun x u hu=>by
 simp only[List.mem_append]at hu
 rcases hu with h | h | h <;> exact Enc.one _ _ h⟩
instance layA3 {α:Type} [i:Lay α]:Lay (A3 α):={ encA3 with
 dflt:=⟨Lay.dflt,Lay.dflt,Lay.dflt⟩
 inn:=fun w x=>Lay.inn w x.a∧Lay.inn w x.b∧Lay.inn w x.c
 mono:=fun w w' _x h hx=>⟨Lay.mono w w' _ h hx.1,Lay.mono w w' _ h hx.2.1,Lay.mono w w' _ h hx.2.2⟩ }
end Go.Wk
namespace Go.Proofs.YtdakncgafdnjfaaGreat
open Go Go.Wk
set_option synthInstance.maxSize 100000
set_option synthInstance.maxHeartbeats 400000
set_option maxRecDepth 100000
structure LSeen where
 user:Int
 cnt:Int
 root:LTerm
structure PSeen where
 user:Int
 cnt:Int
 root:Term
def LSeen.s (x:LSeen):PSeen:=⟨x.user,x.cnt,x.root.t⟩
abbrev cSeen (s:LSeen):List Value:=[.int .i64 s.user,.int .i64 s.cnt,.int .i64 s.root.kind,.int .i64 s.root.user,.int .i64 s.root.num,str s.root.text,.slice s.root.p s.root.kids.length s.root.cap]
instance encSeen:Enc LSeen:=⟨7,cSeen,fun _=>rfl,fun x u hu=>by simp only[List.mem_cons,List.not_mem_nil,or_false]at hu;rcases hu with rfl | rfl | rfl | rfl | rfl | rfl | rfl <;> rfl⟩
instance laySeen:Lay LSeen:={ encSeen with
 dflt:=⟨0,0,zeroL⟩
 inn:=fun w s=>LtIn w s.root
 mono:=fun _w _w' s h hw=>LtIn.mono h s.root hw }
instance:SzE LSeen 7:=⟨rfl,by decide⟩
instance {s:LSeen} : CellsOf s (cSeen s):=⟨rfl⟩
def cntS (n:Int):Bool:=decide (1≤n)&&decide (n≤65535)
def seenB:Int→List PSeen→Bool
 | _,[]=>true
 | k,s::l=>decide (k < s.user)&&knownF s.user&&cntS s.cnt&&decide (checkF s.root=0)&&seenB s.user l
theorem seen_not (k u:Int) (x y z:Bool):(decide (u≤k)||!x||!y||!z) = !(decide (k < u)&&x&&y&&z):=by
 by_cases h:k < u
 rw[decide_eq_true h,decide_eq_false (show ¬u≤k by omega)];cases x <;> cases y <;> cases z <;> rfl
 rw[decide_eq_false h,decide_eq_true (show u≤k by omega)];cases x <;> cases y <;> cases z <;> rfl
theorem fuserK_c (n:Int) (w:World):Ret Tryz.prog 201 [.int .i64 n] w (fun _=>False) fun v _=>v=.bool (knownF n):=by
 refine enter Tryz.func201 rfl rfl (Wd.start w) (fun a S=>?_)
 simp only[Tryz.ntmps201,qqA,qqB,Nat.reduceAdd,Nat.reduceSub,qqC,qqD,qqE,qqF]at S
 refine kS (kR (sq S ?_));clear S;intro a S;refine kN (xtn (kS (kR ?_)));(iterate 3 (refine sq S ?_;clear S;intro a S));(iterate 2 (refine gQ S ?_;clear S;intro a S));(iterate 2 (refine sq S ?_;clear S;intro a S));refine kN (xtn (kT ?_))
 exact end1 S (fun _=>rfl)
instance {n:Int} {bs fs} : CallV Tryz.prog 201 [.int .i64 n] bs fs (.bool (knownF n)):=⟨fun w _=>fuserK_c n w⟩
theorem fcountedK_c (n:Int) (w:World):Ret Tryz.prog 202 [.int .i64 n] w (fun _=>False) fun v _=>v=.bool (cntS n):=by
 refine enter Tryz.func202 rfl rfl (Wd.start w) (fun a S=>?_)
 simp only[Tryz.ntmps202,qqA,qqB,Nat.reduceAdd,Nat.reduceSub,qqC,qqD,qqE,qqF]at S
 refine kS (kR (sq S ?_));clear S;intro a S;refine kN (xtn (kS (kR ?_)));(iterate 3 (refine sq S ?_;clear S;intro a S));(iterate 2 (refine gQ S ?_;clear S;intro a S));(iterate 2 (refine sq S ?_;clear S;intro a S));refine kN (xtn (kT ?_))
 exact end1 S (fun _=>rfl)
instance {n:Int} {bs fs} : CallV Tryz.prog 202 [.int .i64 n] bs fs (.bool (cntS n)):=⟨fun w _=>fcountedK_c n w⟩
def fchkF (l:List PSeen):Int:=if seenB 0 l then 0 else 262
abbrev ssP (l:List LSeen):List PSeen:=l.map LSeen.s
theorem fcheckK_c (l:List LSeen) (p:Option Addr) (n c:Nat) (w0:World) (hn:l.length=n) (hl:n≤1000000) (hx:Stable (fun _=>False) w0 (GlF p l)) :
  Ret Tryz.prog 116 [.slice p n c] w0 (fun _=>False) fun v _=>v=.int .i64 (fchkF (ssP l)):=by
 subst hn
 refine enter Tryz.func116 rfl rfl (Wd.begin (fs:=[GlF p l]) (by simpa using hx)) (fun a S=>?_)
 simp only[Tryz.ntmps116,qqA,qqB,Nat.reduceAdd,Nat.reduceSub,qqC,qqD,qqE,qqF]at S
 refine kS (kR (sq S ?_));clear S;intro a S;refine kN (xtn (kS (kR (sq S ?_))));clear S;intro a S;refine kN (xtn (kS (kS (kR ?_))));(iterate 3 (refine sq S ?_;clear S;intro a S));refine kN (xtn (kB ?_))
 refine c_fore2 S (fun(k:Nat) (last:Int) uu=>[(2,uu 2),(0,.int .i64 last),(1,uu 5),(2,.int .i64 (k:Nat)),(0,uu 9),(0,uu 10),(0,uu 11),(0,uu 12),(0,uu 13),(0,uu 14),(0,uu 15),(0,uu 16),(0,uu 17),(0,uu 18),(0,uu 19),(0,uu 20),(0,uu 21),(0,uu 22),(0,uu 23),(0,uu 24),(0,uu 25),(0,uu 26),(0,uu 27),(0,uu 28),(0,uu 29),(0,uu 30),(0,uu 31),(0,uu 32),(0,uu 33),(0,uu 34),(0,uu 35),(0,uu 36)]) (fun(k:Nat) (last:Int)=>[]) (fun(k:Nat) (last:Int)=>[GlF p l]) (fun(k:Nat) (last:Int)=>k≤l.length∧seenB last (ssP (l.drop k))=seenB 0 (ssP l)) (fun(k:Nat) (last:Int)=>l.length - k) (0) (0) ?_ S.uu ?_ ?_
 exact ⟨Nat.zero_le _,rfl⟩
 first | exact S | exact S.sub _ _
 clear S;rintro k last uu a w ⟨hk,hrel⟩ S
 refine kS (kR (sq S ?_));clear S;intro a S;refine kN (xtn (kS ?_))
 refine kC S (fun h3=>?_) (fun h3=>?_)
 refine kK (xtn (kS (kB (kS ?_))))
 have hkl:k < l.length:=by simp at h3;omega
 have hK:KLt k l.length:=⟨hkl⟩
 replace hrel:(decide (last < (nthG l k).user)&&knownF (nthG l k).user&&cntS (nthG l k).cnt&&decide (checkF (nthG l k).root.t=0)&&seenB (nthG l k).user (ssP (l.drop (k+1))))=seenB 0 (ssP l):=by
  rw[←hrel,nthG_drop hkl];rfl
 refine kR ?_;(iterate 2 (refine sq S ?_;clear S;intro a S));refine sa S ?_;clear S;intro b5 a w S;refine sw S ?_;clear S;intro a w S;refine kN (xtn (kS (kS ?_)))
 replace S:=S.add (Φ:=LtF (nthG l k).root) ((S.mem.fact (GlF p l)).imp fun _ h=>h.2 _ (nthG_mem hkl))
 refine kR ?_;(iterate 5 (refine sq S ?_;clear S;intro a S));(iterate 2 (refine gQ S ?_;clear S;intro a S));refine gC S ?_;clear S;intro a w S;refine gQ S ?_;clear S;intro a S;(iterate 2 (refine sq S ?_;clear S;intro a S));(iterate 2 (refine gQ S ?_;clear S;intro a S));refine gC S ?_;clear S;intro a w S;refine gQ S ?_;clear S;intro a S;(iterate 2 (refine sq S ?_;clear S;intro a S));(iterate 2 (refine gQ S ?_;clear S;intro a S));refine gC S ?_;clear S;intro a w S;refine gQ S ?_;clear S;intro a S;refine sq S ?_;clear S;intro a S;refine kN (xtn ?_)
 refine kC S (fun h5=>?_) (fun h5=>?_)
 refine kS (kR (sq S ?_));clear S;intro a S;refine kN (xtn (kT (xtr (xbr (xtr (xtr (xbr (xtr ?_))))))))
 refine end1 S (fun _=>?_)
 rw[seen_not]at h5
 rw[show (decide (last < (nthG l k).user)&&knownF (nthG l k).user&&cntS (nthG l k).cnt&&decide (checkF (nthG l k).root.t=0))=false from by simpa only[Bool.not_eq_true'] using h5,Bool.false_and]at hrel
 rw[fchkF,←hrel];rfl
 refine kK (xtn (kR ?_));(iterate 3 (refine sq S ?_;clear S;intro a S));refine kN (xbn (xtn (kR ?_)));(iterate 2 (refine sq S ?_;clear S;intro a S));refine kN (xtn ?_)
 rw[seen_not]at h5
 rw[show (decide (last < (nthG l k).user)&&knownF (nthG l k).user&&cntS (nthG l k).cnt&&decide (checkF (nthG l k).root.t=0))=true from by simpa only[Bool.not_eq_false'] using h5,Bool.true_and]at hrel
 rw[w64 ((k:Int)+1) (by omega) (by omega)]at S
 exact ⟨k+1,_,S.uu,⟨hkl,hrel⟩,S.sub _ _,by omega⟩
 refine kE (xte (xte (xbe (xtn (kS (kR (sq S ?_)))))));clear S;intro a S;refine kN (xtn (kT ?_))
 rw[List.drop_of_length_le (by simp at h3;omega)]at hrel
 refine end1 S (fun _=>?_)
 rw[fchkF,←hrel];rfl
instance {l:List LSeen} {p:Option Addr} {n c:Nat} {bs fs} [hg:HasG fs p LSeen laySeen l] [hn:LenN l n] [hk:LeC n 1000000]:CallV Tryz.prog 116 [.slice p n c] bs fs (.int .i64 (fchkF (ssP l))):=⟨fun w m=>fcheckK_c l p n c w hn.eq hk.le ((hg.of _ _ m.facts).less fun _ _ h=>h.elim)⟩
def chK (c:UInt8):Bool:=decide (33≤c.toNat)&&decide (c.toNat≤126)
def nameK (s:List UInt8):Bool:=s.all chK&&decide (1≤s.length)&&decide (s.length≤24)
theorem mnameK_c (s:List UInt8) (hl:s.length≤1000000) (w0:World):Ret Tryz.prog 267 [str s] w0 (fun _=>False) fun v _=>v=.bool (nameK s):=by
 refine enter Tryz.func267 rfl rfl (Wd.start w0) (fun a S=>?_)
 simp only[Tryz.ntmps267,qqA,qqB,Nat.reduceAdd,Nat.reduceSub,qqC,qqD,qqE,qqF]at S
 refine kS (kR (sq S ?_));clear S;intro a S;refine kN (xtn (kS (kS (kR (sq S ?_)))));clear S;intro a S;refine sstr0 S ?_;clear S;intro b6 a w S;refine kN (xtn (kB ?_))
 refine c_forf1 S (fun(i:Nat) uu=>[(2,uu 2),(1,uu 4),(2,uu 7),(0,uu 8),(0,uu 9),(0,uu 10),(0,uu 11),(0,uu 12),(0,uu 13),(0,uu 14),(0,uu 15)]) (fun(i:Nat)=>[Wk.sti b6 s i]) (fun(i:Nat)=>i≤s.length∧∀ j,j < i→chK (s.getD j 0)=true) (fun(i:Nat)=>s.length - i) (0) ?_ S.uu ?_ ?_
 exact ⟨Nat.zero_le _,fun j hj=>by omega⟩
 first | exact S | exact S.sub _ _
 clear S;rintro i uu a w ⟨hi,hrel⟩ S
 refine kS (kR ?_);refine snxs S ?_;clear S;intro more c wd a w hmf hmt S;refine sq S ?_;clear S;intro a S;refine kN (xtn (kS ?_))
 refine kC S (fun h2=>?_) (fun h2=>?_)
 refine kK (xtn (kB (kS ?_)))
 obtain rfl:more=true:=h2
 obtain ⟨hil,hlo,hhi⟩:=hmt rfl
 refine kR ?_;(iterate 2 (refine sq S ?_;clear S;intro a S));refine kN (xtn (kS (kR ?_)));(iterate 3 (refine sq S ?_;clear S;intro a S));(iterate 2 (refine gQ S ?_;clear S;intro a S));refine sq S ?_;clear S;intro a S;refine kN (xtn ?_)
 refine kC S (fun h4=>?_) (fun h4=>?_)
 refine kS (kR (sq S ?_));clear S;intro a S;refine kN (xtn (kT (xbr (xtr (xbr (xtr ?_))))))
 have hbad:chK (s.getD i 0)=false:=by
  simp only[Bool.or_eq_true,decide_eq_true_eq]at h4
  by_cases hc:(s.getD i 0).toNat < 128
  obtain ⟨rfl,-⟩:=hlo hc
  simp only[chK,Bool.and_eq_false_iff,decide_eq_false_iff_not]
  omega
  simp only[chK,Bool.and_eq_false_iff,decide_eq_false_iff_not]
  omega
 refine end1 S (fun _=>?_)
 have:nameK s=false:=by
  have hall:s.all chK=false:=List.all_eq_false.2 ⟨s.getD i 0,by rw[List.getD_eq_getElem?_getD,List.getElem?_eq_getElem hil];exact List.getElem_mem hil,by rw[hbad];simp⟩
  rw[nameK,hall];rfl
 rw[this]
 refine kK (xbn (xtn ?_))
 simp only[Bool.or_eq_false_iff,decide_eq_false_iff_not]at h4
 have hc:(s.getD i 0).toNat < 128:=Classical.byContradiction fun hc=>by have:=hhi hc;omega
 obtain ⟨rfl,rfl⟩:=hlo hc
 rw[show (bif true then i+1 else i)=i+1 from rfl]at S
 refine ⟨i+1,S.uu,⟨hil,fun j hj=>?_⟩,S.sub _ _,by omega⟩
 rcases Nat.lt_or_ge j i with h | h
 exact hrel j h
 obtain rfl:j=i:=by omega
 simp only[chK,Bool.and_eq_true,decide_eq_true_eq]
 omega
 refine kE (xte (xte (xbe (xtn (kS (kR ?_))))));(iterate 4 (refine sq S ?_;clear S;intro a S));(iterate 3 (refine gQ S ?_;clear S;intro a S));(iterate 2 (refine sq S ?_;clear S;intro a S));refine kN (xtn (kT ?_))
 have hall:s.all chK=true:=by
  have hle:=hmf h2
  refine List.all_eq_true.2 fun x hx=>?_
  obtain ⟨j,hj,rfl⟩:=List.getElem_of_mem hx
  have:=hrel j (by omega)
  rwa [List.getD_eq_getElem?_getD,List.getElem?_eq_getElem hj]at this
 refine end1 S (fun _=>?_)
 rw[nameK,hall,Bool.true_and]
 congr 1
 rw[Bool.eq_iff_iff]
 simp only[Bool.and_eq_true,decide_eq_true_eq]
 omega
instance {s:List UInt8} {bs fs} [h:LeC s.length 1000000]:CallV Tryz.prog 267 [str s] bs fs (.bool (nameK s)):=⟨fun w _=>mnameK_c s h.le w⟩
theorem iuser_c (n:Int) (w:World):Ret Tryz.prog 246 [.int .i64 n] w (fun _=>False) fun v _=>v=.bool (knownF n):=by
 refine enter Tryz.func246 rfl rfl (Wd.start w) (fun a S=>?_)
 simp only[Tryz.ntmps246,qqA,qqB,Nat.reduceAdd,Nat.reduceSub,qqC,qqD,qqE,qqF]at S
 refine kS (kR (sq S ?_));clear S;intro a S;refine kN (xtn (kS (kR ?_)));(iterate 3 (refine sq S ?_;clear S;intro a S));(iterate 2 (refine gQ S ?_;clear S;intro a S));(iterate 2 (refine sq S ?_;clear S;intro a S));refine kN (xtn (kT ?_))
 exact end1 S (fun _=>rfl)
instance {n:Int} {bs fs} : CallV Tryz.prog 246 [.int .i64 n] bs fs (.bool (knownF n)):=⟨fun w _=>iuser_c n w⟩
def ownN (s:List UInt8):Int:=if nameK s=true∧3≤s.length∧(nthG s 1).toNat=47∧knownF (((nthG s 0).toNat:Int) - 48)=true then ((nthG s 0).toNat:Int) - 48 else 0
theorem inamed_c (s:List UInt8) (hl:s.length≤1000000) (w0:World):Ret Tryz.prog 247 [str s] w0 (fun _=>False) fun v _=>v=.int .i64 (ownN s):=by
 have hL:LeC s.length 1000000:=⟨hl⟩
 refine enter Tryz.func247 rfl rfl (Wd.start w0) (fun a S=>?_)
 simp only[Tryz.ntmps247,qqA,qqB,Nat.reduceAdd,Nat.reduceSub,qqC,qqD,qqE,qqF]at S
 refine kS (kR (sq S ?_));clear S;intro a S;refine kN (xtn (kS (kS (kR (sq S ?_)))));clear S;intro a S;refine sc S ?_;clear S;intro a w S;(iterate 2 (refine sq S ?_;clear S;intro a S));(iterate 3 (refine gQ S ?_;clear S;intro a S));(iterate 2 (refine sq S ?_;clear S;intro a S))
 refine gS S (fun hs S=>?_) (fun hs S=>?_)
 refine gF' S ?_;clear S;intro a S;(iterate 2 (refine gF' S ?_;clear S;intro a S));refine sq S ?_;clear S;intro a S;refine kN (xtn ?_);refine c_condT S ?_;refine kS (kR (sq S ?_));clear S;intro a S;refine kN (xtn (kT (xtr ?_)))
 refine end1 S (fun _=>?_)
 rw[ownN,if_neg]
 rintro ⟨h1,h2,-⟩
 rw[h1]at hs;simp at hs;omega
 refine gT' S ?_;refine sq S ?_;clear S;intro a S;refine gT' S ?_
 have h3:nameK s=true∧3≤s.length:=by
  simp only[Bool.or_eq_false_iff,Bool.not_eq_false',decide_eq_false_iff_not]at hs
  exact ⟨hs.1,by have:=hs.2;omega⟩
 have hK1:KLt 1 s.length:=⟨by omega⟩
 have hK0:KLt 0 s.length:=⟨by omega⟩
 refine sq S ?_;clear S;intro a S;refine gT' S ?_;(iterate 2 (refine sq S ?_;clear S;intro a S));refine kN (xtn ?_)
 refine kC S (fun h1=>?_) (fun h1=>?_)
 refine kS (kR (sq S ?_));clear S;intro a S;refine kN (xtn (kT (xtr ?_)))
 refine end1 S (fun _=>?_)
 rw[ownN,if_neg]
 rintro ⟨-,-,h4,-⟩
 simp at h1
 omega
 refine kK (xtn (kS (kS (kR ?_))));(iterate 2 (refine sq S ?_;clear S;intro a S))
 have hb:=UInt8.toNat_lt (nthG s 0)
 refine sq S ?_;clear S;intro a S
 rw[w64 _ (by omega) (by omega)]at S
 refine sq S ?_;clear S;intro a S
 rw[w64 _ (by omega) (by omega)]at S
 refine sq S ?_;clear S;intro a S;refine kN (xtn (kS (kR (sq S ?_))));clear S;intro a S;refine sc S ?_;clear S;intro a w S;refine kN (xtn ?_)
 refine kC S (fun h4=>?_) (fun h4=>?_)
 refine kS (kR ?_);(iterate 2 (refine sq S ?_;clear S;intro a S));refine kN (xtn (kT (xtr ?_)))
 refine end1 S (fun _=>?_)
 rw[ownN,if_pos ⟨h3.1,h3.2,by simp at h1;omega,h4⟩]
 refine kK (xtn (kS (kR (sq S ?_))));clear S;intro a S;refine kN (xtn (kT ?_))
 refine end1 S (fun _=>?_)
 rw[ownN,if_neg]
 rintro ⟨-,-,-,h5⟩
 rw[h5]at h4;cases h4
instance {s:List UInt8} {bs fs} [h:LeC s.length 1000000]:CallV Tryz.prog 247 [str s] bs fs (.int .i64 (ownN s)):=⟨fun w _=>inamed_c s h.le w⟩
theorem ownN_known {s:List UInt8} (h:0 < ownN s):3≤s.length∧ownN s=((nthG s 0).toNat:Int) - 48:=by
 unfold ownN at h⊢
 split at h
 rename_i hc
 rw[if_pos hc];exact ⟨hc.2.1,rfl⟩
 omega
abbrev opV (u:Int) (s:List UInt8):Value:=.agg ⟨[.int .i64 3,.int .i64 u,str s,.int .i64 0,.int .i64 0,.bool false,.int .i64 0,.int .i64 0,.int .i64 0,.string ⟨#[]⟩,.slice none 0 0]⟩
theorem icheckop_c (u:Int) (s:List UInt8) (hl:s.length≤1000000) (w0:World):Ret Tryz.prog 199 [opV u s] w0 (fun _=>False) fun v _=>v=.int .i64 (if knownF u&&decide (0 < ownN s) then 0 else 281):=by
 have hL:LeC s.length 1000000:=⟨hl⟩
 refine enter Tryz.func199 rfl rfl (Wd.start w0) (fun a S=>?_)
 simp only[Tryz.ntmps199,qqA,qqB,Nat.reduceAdd,Nat.reduceSub,qqC,qqD,qqE,qqF]at S
 refine kS (kR ?_);refine sa S ?_;clear S;intro b1 a w S;refine sq S ?_;clear S;intro a S;refine kN (xtn (kS (kR ?_)));(iterate 4 (refine sq S ?_;clear S;intro a S));(iterate 3 (refine gQ S ?_;clear S;intro a S));(iterate 2 (refine sq S ?_;clear S;intro a S));(iterate 2 (refine gQ S ?_;clear S;intro a S));refine gC S ?_;clear S;intro a w S;(iterate 2 (refine sq S ?_;clear S;intro a S));refine kN ?_;refine xtn (kS (kR ?_));(iterate 2 (refine sq S ?_;clear S;intro a S));(iterate 6 (refine gQ S ?_;clear S;intro a S));refine gC S ?_;clear S;intro a w S;(iterate 2 (refine gQ S ?_;clear S;intro a S));(iterate 2 (refine sq S ?_;clear S;intro a S))
 refine gS S (fun hs S=>?_) (fun hs S=>?_)
 refine gT S ?_;refine sq S ?_;clear S;intro a S;refine gT S ?_;refine sq S ?_;clear S;intro a S;refine gT S ?_;refine sq S ?_;clear S;intro a S
 rw[show decide ((2:Int) < 3)=true from rfl]at S
 refine gT S ?_;refine sq S ?_;clear S;intro a S;(iterate 3 (refine gF' S ?_;clear S;intro a S));refine gT S ?_;(iterate 3 (refine sq S ?_;clear S;intro a S));refine kN (xtn (kS (kS (kR ?_))));(iterate 2 (refine sq S ?_;clear S;intro a S));refine kN (xtn ?_);refine c_condF S ?_;refine kK (xtn (kS ?_));refine kR (sq S ?_);clear S;intro a S;refine kN (xtn (kT ?_))
 refine end1 S (fun _=>?_)
 rw[show (decide ((1:Int)≤3)&&decide ((3:Int)≤10))=true from rfl,show decide ((7:Int) < 3)=false from rfl,Bool.true_and,Bool.false_or]at hs
 rw[hs];rfl
 refine gF S ?_;clear S;intro a S;(iterate 3 (refine gF S ?_;clear S;intro a S));(iterate 3 (refine gU S ?_;clear S;intro a S));refine gF S ?_;clear S;intro a S;(iterate 2 (refine sq S ?_;clear S;intro a S));refine kN (xtn (kS (kS (kR ?_))));(iterate 2 (refine sq S ?_;clear S;intro a S));refine kN (xtn ?_);refine c_condT S ?_;refine kS (kR (sq S ?_));clear S;intro a S;refine kN (xtn (kT (xtr ?_)))
 refine end1 S (fun _=>?_)
 rw[show (decide ((1:Int)≤3)&&decide ((3:Int)≤10))=true from rfl,show decide ((7:Int) < 3)=false from rfl,Bool.true_and,Bool.false_or]at hs
 rw[hs];rfl
def namedB (u:Int) (s:List UInt8):Bool:=knownF u&&decide (ownN s=u)
theorem namedB_eq (u:Int) (s:List UInt8):namedB u s=(knownF u&&decide (0 < ownN s)&&decide (ownN s=u)):=by
 rw[namedB]
 cases hu:knownF u with
 | false=>rfl
 | true=>
  have h1:1≤u:=by simp only[knownF,Bool.and_eq_true,decide_eq_true_eq]at hu;omega
  rw[Bool.true_and,Bool.true_and]
  by_cases h:ownN s=u
  rw[decide_eq_true h,decide_eq_true (show 0 < ownN s by omega)];rfl
  rw[decide_eq_false h,Bool.and_false]
theorem mnamed_c (u:Int) (s:List UInt8) (hl:s.length≤1000000) (w0:World):Ret Tryz.prog 114 [.int .i64 u,str s] w0 (fun _=>False) fun v _=>v=.bool (namedB u s):=by
 have hL:LeC s.length 1000000:=⟨hl⟩
 refine enter Tryz.func114 rfl rfl (Wd.start w0) (fun a S=>?_)
 simp only[Tryz.ntmps114,qqA,qqB,Nat.reduceAdd,Nat.reduceSub,qqC,qqD,qqE,qqF]at S
 refine kS (kR (sq S ?_));clear S;intro a S;refine kN (xtn (kS (kR ?_)));(iterate 3 (refine sq S ?_;clear S;intro a S));refine sa S ?_;clear S;intro b5 a w S;refine sw S ?_;clear S;intro a w S;refine kN (xtn (kS (kR (sq S ?_))));clear S;intro a S;refine sr S (icheckop_c u s hl _) ?_;clear S;rintro _ a w rfl S;refine sq S ?_;clear S;intro a S
 rw[show decide ((if (knownF u&&decide (0 < ownN s))=true then (0:Int) else 281)=0)=(knownF u&&decide (0 < ownN s)) from by cases knownF u&&decide (0 < ownN s) <;> rfl]at S
 refine sq S ?_;clear S;intro a S
 refine gS S (fun hs S=>?_) (fun hs S=>?_)
 refine gT S ?_;refine sq S ?_;clear S;intro a S;refine gT S ?_
 have hown:=ownN_known (s:=s) (by simp only[Bool.and_eq_true,decide_eq_true_eq]at hs;exact hs.2)
 have hK0:KLt 0 s.length:=⟨by omega⟩
 have hb:=UInt8.toNat_lt (nthG s 0)
 refine sq S ?_;clear S;intro a S;refine gT S ?_;refine sq S ?_;clear S;intro a S
 rw[w64 _ (by omega) (by omega)]at S
 refine gT S ?_;refine sq S ?_;clear S;intro a S
 rw[w64 _ (by omega) (by omega),←hown.2]at S
 refine gT S ?_;refine sq S ?_;clear S;intro a S;refine gT S ?_;(iterate 3 (refine sq S ?_;clear S;intro a S));refine kN (xtn (kT ?_))
 refine end1 S (fun _=>?_)
 rw[namedB_eq,hs,Bool.true_and]
 refine gF S ?_;clear S;intro a S;(iterate 5 (refine gF S ?_;clear S;intro a S));(iterate 2 (refine sq S ?_;clear S;intro a S));refine kN (xtn (kT ?_))
 refine end1 S (fun _=>?_)
 rw[namedB_eq,hs,Bool.false_and]
instance {u:Int} {s:List UInt8} {bs fs} [h:LeC s.length 1000000]:CallV Tryz.prog 114 [.int .i64 u,str s] bs fs (.bool (namedB u s)):=⟨fun w _=>mnamed_c u s h.le w⟩
def cntK (n:Int):Bool:=decide (0≤n)&&decide (n≤65535)
theorem indexIn_c (F:Nat) [EntF Tryz.prog F] (ca:List Value) (q:Int→Bool) (xs:List Int) (p:Option Addr) (n c:Nat) (w0:World) (hn:xs.length=n) (hl:n≤9223372036854775807) (hx:Stable (fun _=>False) w0 (GlF p xs))
  (hF:∀ x∈xs,∀ w,Agree (fun _=>False) w0 w→Ret Tryz.prog F (.int .i64 x::ca) w (fun _=>False) fun v _=>v=.bool (q x)) :
  Ret Tryz.prog 245 [.slice p n c,.func (.func F) #[] ⟨ca⟩] w0 (fun _=>False) fun v _=>v=.int .i64 (idxG q xs 0):=by
 refine enter Tryz.func245 rfl rfl (Wd.begin (fs:=[GlF p xs]) (by simpa using hx)) (fun a S=>?_)
 simp only[Tryz.ntmps245,qqA,qqB,Nat.reduceAdd,Nat.reduceSub,qqC,qqD,qqE,qqF]at S
 refine kS (kR (sq S ?_));clear S;intro a S;refine kN (xtn (kS (kS (kR ?_))));(iterate 3 (refine sq S ?_;clear S;intro a S));refine kN (xtn (kB ?_))
 refine c_forb1 S (fun(k:Nat) uu=>[(4,uu 4),(0,uu 5),(2,.int .i64 (k:Nat)),(0,uu 9),(0,uu 10),(0,uu 11),(0,uu 12),(0,uu 13),(0,uu 14),(0,uu 15),(0,uu 16),(0,uu 17),(0,uu 18)]) (fun(k:Nat)=>k≤n∧idxG q (xs.drop k) k=idxG q xs 0) (fun(k:Nat)=>n - k) (0) ?_ S.uu ?_ ?_
 exact ⟨Nat.zero_le _,rfl⟩
 first | exact S | exact S.sub _ _
 clear S;rintro k uu a w ⟨hk,hrel⟩ S
 refine kS (kR (sq S ?_));clear S;intro a S;refine kN (xtn (kS ?_))
 refine kC S (fun h2=>?_) (fun h2=>?_)
 refine kK (xtn (kS (kB (kS (kR ?_)))));(iterate 2 (refine sq S ?_;clear S;intro a S));refine kN (xtn (kS ?_))
 have hkl:k < n:=by simp at h2;omega
 have hK:KLt k n:=⟨hkl⟩
 have hK2:KLt k xs.length:=⟨by omega⟩
 rw[nthG_drop (show k < xs.length by omega),idxG]at hrel
 refine kR ?_;(iterate 5 (refine sq S ?_;clear S;intro a S))
 refine sr S (hF (nthG xs k) (nthG_mem (by omega)) w S.wd.agree) ?_;clear S;rintro _ a w rfl S
 refine kN (xtn ?_)
 refine kC S (fun h4=>?_) (fun h4=>?_)
 refine kS (kR ?_);(iterate 2 (refine sq S ?_;clear S;intro a S));refine kN (xtn (kT (xbr (xtr (xtr (xbr (xtr ?_)))))))
 rw[if_pos h4]at hrel
 refine end1 S (fun _=>?_)
 rw[hrel]
 refine kK (xbn (xtn (kR ?_)));(iterate 2 (refine sq S ?_;clear S;intro a S));refine kN (xtn ?_)
 rw[if_neg (by simpa using h4)]at hrel
 rw[w64 ((k:Int)+1) (by omega) (by omega)]at S
 exact ⟨k+1,S.uu,⟨hkl,by rw[←hrel];rfl⟩,S.sub _ _,by omega⟩
 refine kE (xte (xte (xbe (xtn (kS (kR (sq S ?_)))))));clear S;intro a S;refine kN (xtn (kT ?_))
 rw[List.drop_of_length_le (by simp at h2;omega)]at hrel
 refine end1 S (fun _=>?_)
 rw[←hrel];rfl
theorem containsIn_c (F:Nat) [EntF Tryz.prog F] (ca:List Value) (q:Int→Bool) (xs:List Int) (p:Option Addr) (n c:Nat) (w0:World) (hn:xs.length=n) (hl:n≤9223372036854775807) (hx:Stable (fun _=>False) w0 (GlF p xs))
  (hF:∀ x∈xs,∀ w,Agree (fun _=>False) w0 w→Ret Tryz.prog F (.int .i64 x::ca) w (fun _=>False) fun v _=>v=.bool (q x)) :
  Ret Tryz.prog 197 [.slice p n c,.func (.func F) #[] ⟨ca⟩] w0 (fun _=>False) fun v _=>v=.bool (xs.any q):=by
 refine enter Tryz.func197 rfl rfl (Wd.begin (fs:=[GlF p xs]) (by simpa using hx)) (fun a S=>?_)
 simp only[Tryz.ntmps197,qqA,qqB,Nat.reduceAdd,Nat.reduceSub,qqC,qqD,qqE,qqF]at S
 refine kS (kR (sq S ?_));clear S;intro a S;refine kN (xtn (kS (kR ?_)));(iterate 2 (refine sq S ?_;clear S;intro a S))
 refine sr S (indexIn_c F ca q xs p n c _ hn hl (S.gl0 p) fun x hx w' hw'=>hF x hx w' (S.wd.agree.trans hw')) ?_;clear S;rintro _ a w rfl S
 (iterate 2 (refine sq S ?_;clear S;intro a S));refine kN (xtn (kT ?_))
 refine end1 S (fun _=>?_)
 rw[idxG_any q xs 0 (by omega)]
theorem counted1_c (x:Int) (w0:World):Ret Tryz.prog 198 [.int .i64 x] w0 (fun _=>False) fun v _=>v=.bool (!cntK x):=by
 refine enter Tryz.func198 rfl rfl (Wd.start w0) (fun a S=>?_)
 simp only[Tryz.ntmps198,qqA,qqB,Nat.reduceAdd,Nat.reduceSub,qqC,qqD,qqE,qqF]at S
 refine kS (kR (sq S ?_));clear S;intro a S;refine kN (xtn (kS (kR ?_)));(iterate 3 (refine sq S ?_;clear S;intro a S));(iterate 2 (refine gQ S ?_;clear S;intro a S));(iterate 2 (refine sq S ?_;clear S;intro a S));refine kN (xtn (kT ?_))
 refine end1 S (fun _=>?_)
 congr 1
 rw[cntK]
 by_cases h1:x < 0
 rw[decide_eq_true h1,decide_eq_false (show ¬0≤x by omega)];rfl
 by_cases h2:65535 < x
 rw[decide_eq_true h2,decide_eq_false (show ¬x≤65535 by omega),Bool.or_true,Bool.and_false];rfl
 rw[decide_eq_false h1,decide_eq_false h2,decide_eq_true (show 0≤x by omega),decide_eq_true (show x≤65535 by omega)];rfl
theorem not_any_not {α:Type} (q:α→Bool):∀ xs:List α,(!xs.any fun x=>!q x)=xs.all q
 | []=>rfl
 | x::xs=>by rw[List.any_cons,List.all_cons,←not_any_not q xs];cases q x <;> simp
theorem counted_c (xs:List Int) (p:Option Addr) (n c:Nat) (w0:World) (hn:xs.length=n) (hl:n≤1000000) (hx:Stable (fun _=>False) w0 (GlF p xs)):Ret Tryz.prog 113 [.slice p n c] w0 (fun _=>False) fun v _=>v=.bool (xs.all cntK):=by
 refine enter Tryz.func113 rfl rfl (Wd.begin (fs:=[GlF p xs]) (by simpa using hx)) (fun a S=>?_)
 simp only[Tryz.ntmps113,qqA,qqB,Nat.reduceAdd,Nat.reduceSub,qqC,qqD,qqE,qqF]at S
 refine kS (kR (sq S ?_));clear S;intro a S;refine kN (xtn (kS (kR (sq S ?_))));clear S;intro a S
 refine sr S (containsIn_c 198 [] (fun x=>!cntK x) xs p n c _ hn (by omega) (S.gl0 p) (fun x _ w' _=>counted1_c x w')) ?_;clear S;rintro _ a w rfl S
 (iterate 2 (refine sq S ?_;clear S;intro a S));refine kN (xtn (kT ?_))
 refine end1 S (fun _=>?_)
 rw[not_any_not]
structure LMem where
 user:Int
 leaf:Int
 counter:Int
 num:Int
 sp:Option Addr
 sc:Nat
 seeds:List LMark
 vp:Option Addr
 vc:Nat
 vers:List LMark
 ep:Option Addr
 ec:Nat
 seen:List LSeen
abbrev cMem (m:LMem):List Value:=[.int .i64 m.user,.int .i64 m.leaf,.int .i64 m.counter,.int .i64 m.num,.slice m.sp m.seeds.length m.sc,.slice m.vp m.vers.length m.vc,.slice m.ep m.seen.length m.ec]
abbrev vMem (m:LMem):Value:=.agg ⟨[.int .i64 m.user,.int .i64 m.leaf,.int .i64 m.counter,.int .i64 m.num,.slice m.sp m.seeds.length m.sc,.slice m.vp m.vers.length m.vc,.slice m.ep m.seen.length m.ec]⟩
def MemF (m:LMem):World→Prop:=fun w=>GlF m.sp m.seeds w∧GlF m.vp m.vers w∧GlF m.ep m.seen w
structure PMem where
 user:Int
 leaf:Int
 counter:Int
 num:Int
 seeds:List LMark
 vers:List LMark
 seen:List PSeen
def LMem.m (x:LMem):PMem:=⟨x.user,x.leaf,x.counter,x.num,x.seeds,x.vers,ssP x.seen⟩
structure FitM (m:LMem):Prop where
 seeds:m.seeds.length≤1000
 vers:m.vers.length≤1000
 seen:m.seen.length≤1000
 names:∀ x∈m.seeds,x.key.length≤1000
 keys:∀ x∈m.vers,x.key.length≤1000
def riseS (u:Int):List UInt8→List LMark→Bool
 | _,[]=>true
 | k,s::l=>namedB u s.key&&Op.bytesLess k s.key&&decide (0 < s.ver)&&cntK s.ver&&riseS u s.key l
def headB (m:PMem):Bool:=decide (1≤m.user)&&decide (m.user≤6)&&(cntK m.leaf&&(cntK m.counter&&cntK m.num))&&decide ((m.seeds.length:Int)≤6)
def memB (m:PMem):Bool:=headB m&&riseS m.user [] m.seeds&&okM m.vers&&seenB 0 m.seen
def mchkF (m:PMem):Int:=if memB m then 0 else 300
theorem tchk_dec (l:List LMark):decide (tchkF l=0)=okM l:=by rw[tchkF];cases okM l <;> rfl
theorem fchk_dec (l:List PSeen):decide (fchkF l=0)=seenB 0 l:=by rw[fchkF];cases seenB 0 l <;> rfl
set_option maxHeartbeats 2000000 in
theorem mcheck_c (m:LMem) (hfit:FitM m) (w0:World) (hm:Stable (fun _=>False) w0 (MemF m)):Ret Tryz.prog 37 [vMem m] w0 (fun _=>False) fun v _=>v=.int .i64 (mchkF m.m):=by
 have hl1:=hfit.seeds
 have hl2:=hfit.vers
 have hl3:=hfit.seen
 have hL2:LeC m.vers.length 9223372036854775807:=⟨by omega⟩
 have hL3:LeC m.seen.length 1000000:=⟨by omega⟩
 refine enter Tryz.func37 rfl rfl (Wd.begin (fs:=[GlF m.sp m.seeds,GlF m.vp m.vers,GlF m.ep m.seen]) (by simp;exact ⟨hm.imp fun _ h=>h.1,hm.imp fun _ h=>h.2.1,hm.imp fun _ h=>h.2.2⟩)) (fun a S=>?_)
 simp only[Tryz.ntmps37,qqA,qqB,Nat.reduceAdd,Nat.reduceSub,qqC,qqD,qqE,qqF]at S
 refine kS (kR ?_);refine sa S ?_;clear S;intro b1 a w S;refine sq S ?_;clear S;intro a S;refine kN (xtn ?_)
 refine c_mrge1 S (fun(ok0:Bool) uu=>[(3,.bool ok0),(3,uu 7),(0,uu 8),(0,uu 9),(0,uu 10),(0,uu 11),(0,uu 12),(0,uu 13),(0,uu 14),(0,uu 15),(0,uu 16),(0,uu 17),(0,uu 18),(0,uu 19),(0,uu 20),(0,uu 21),(0,uu 22),(0,uu 23),(0,uu 24),(0,uu 25),(0,uu 26),(0,uu 27),(0,uu 28),(0,uu 29),(0,uu 30)]) (fun(ok0:Bool)=>[Wk.box b1 67 (cMem m)]) (fun(ok0:Bool)=>[GlF m.sp m.seeds,GlF m.vp m.vers,GlF m.ep m.seen]) (fun(ok0:Bool)=>ok0=headB m.m) ?_ ?_
 refine kR ?_;(iterate 4 (refine sq S ?_;clear S;intro a S));(iterate 3 (refine gQ S ?_;clear S;intro a S));(iterate 2 (refine sq S ?_;clear S;intro a S))
 refine gS S (fun hs1 S=>?_) (fun hs1 S=>?_)
 refine gT S ?_;refine sq S ?_;clear S;intro a S;refine gT S ?_;refine sq S ?_;clear S;intro a S;refine gT S ?_;refine sq S ?_;clear S;intro a S;refine gT S ?_;refine sq S ?_;clear S;intro a S;refine gT S ?_;refine sq S ?_;clear S;intro a S;refine gT S ?_;refine sq S ?_;clear S;intro a S;refine gT S ?_;refine sn S ?_;clear S;intro b22 a w S
 replace S:=S.boxRow b22 1 3 rfl (by decide)
 rw[show [Value.int .i64 m.leaf,.int .i64 m.counter,.int .i64 m.num]=encL [m.leaf,m.counter,m.num] from rfl]at S
 replace S:=S.rowToGl (some ⟨b22,0,none⟩) [m.leaf,m.counter,m.num] (e:=3) (sz:=1) (n:=3) (c:=3) (fun _ _ _ _=>trivial)
 refine gT S ?_
 refine sr S (counted_c [m.leaf,m.counter,m.num] (some ⟨b22,0,none⟩) 3 3 _ rfl (by decide) (S.gl0 _)) ?_;clear S;rintro _ a w rfl S
 (iterate 2 (refine sq S ?_;clear S;intro a S));(iterate 4 (refine gQ S ?_;clear S;intro a S));(iterate 2 (refine sq S ?_;clear S;intro a S));refine kN (xtn ?_)
 exact ⟨_,S.uu,by show _=(decide (1≤m.user)&&decide (m.user≤6)&&(cntK m.leaf&&(cntK m.counter&&cntK m.num))&&decide ((m.seeds.length:Int)≤6));rw[hs1];simp,S.sub _ _⟩
 refine gF S ?_;clear S;intro a S;(iterate 7 (refine gF S ?_;clear S;intro a S));(iterate 2 (refine sq S ?_;clear S;intro a S));(iterate 4 (refine gQ S ?_;clear S;intro a S));(iterate 2 (refine sq S ?_;clear S;intro a S));refine kN (xtn ?_)
 exact ⟨_,S.uu,by show _=(decide (1≤m.user)&&decide (m.user≤6)&&(cntK m.leaf&&(cntK m.counter&&cntK m.num))&&decide ((m.seeds.length:Int)≤6));rw[hs1];simp,S.sub _ _⟩
 clear S;rintro ok0 uu a w hok0 S;refine kS (kR (sq S ?_));clear S;intro a S;refine kN (xtn (kS (kS (kR ?_))));(iterate 4 (refine sq S ?_;clear S;intro a S));refine kN (xtn (kB ?_))
 refine c_fore2 S (fun(k:Nat) (ok:Bool) uu=>[(3,.bool ok),(0,str (lastM m.seeds k)),(1,uu 6),(27,.int .i64 (k:Nat)),(0,uu 35),(0,uu 36),(0,uu 37),(0,uu 38),(0,uu 39),(0,uu 40),(0,uu 41),(0,uu 42),(0,uu 43),(0,uu 44),(0,uu 45),(0,uu 46),(0,uu 47),(0,uu 48),(0,uu 49),(0,uu 50),(0,uu 51),(0,uu 52),(0,uu 53),(0,uu 54),(0,uu 55),(0,uu 56),(0,uu 57),(0,uu 58),(0,uu 59),(0,uu 60),(0,uu 61),(0,uu 62),(0,uu 63),(0,uu 64),(0,uu 65)]) (fun(k:Nat) (ok:Bool)=>[Wk.box b1 67 (cMem m)]) (fun(k:Nat) (ok:Bool)=>[GlF m.sp m.seeds,GlF m.vp m.vers,GlF m.ep m.seen]) (fun(k:Nat) (ok:Bool)=>k≤m.seeds.length∧(ok&&riseS m.user (lastM m.seeds k) (m.seeds.drop k))=(headB m.m&&riseS m.user [] m.seeds)) (fun(k:Nat) (ok:Bool)=>m.seeds.length - k) (0) (ok0) ?_ S.uu ?_ ?_
 exact ⟨Nat.zero_le _,by rw[hok0];rfl⟩
 first | exact S | exact S.sub _ _
 clear S;rintro k ok uu a w ⟨hk,hrel⟩ S
 refine kS (kR (sq S ?_));clear S;intro a S;refine kN (xtn (kS ?_))
 refine kC S (fun h4=>?_) (fun h4=>?_)
 refine kK (xtn (kS (kB (kS ?_))))
 have hkl:k < m.seeds.length:=by have:=of_decide_eq_true h4;omega
 have hK:KLt k m.seeds.length:=⟨hkl⟩
 have hLn:LeC (nthG m.seeds k).key.length 1000000:=⟨by have:=hfit.names _ (nthG_mem hkl);omega⟩
 replace hrel:(ok&&(namedB m.user (nthG m.seeds k).key&&Op.bytesLess (lastM m.seeds k) (nthG m.seeds k).key&&decide (0 < (nthG m.seeds k).ver)&&cntK (nthG m.seeds k).ver&&riseS m.user (nthG m.seeds k).key (m.seeds.drop (k+1))))=(headB m.m&&riseS m.user [] m.seeds):=by
  rw[←hrel,nthG_drop hkl];rfl
 refine kR ?_;(iterate 2 (refine sq S ?_;clear S;intro a S));refine sa S ?_;clear S;intro b6 a w S;refine sw S ?_;clear S;intro a w S;refine kN (xtn ?_)
 refine c_mrge1 S (fun(ok1:Bool) uu=>[(3,.bool ok1),(34,uu 38),(0,uu 39),(0,uu 40),(0,uu 41),(0,uu 42),(0,uu 43),(0,uu 44),(0,uu 45),(0,uu 46),(0,uu 47),(0,uu 48),(0,uu 49),(0,uu 50),(0,uu 51),(0,uu 52),(0,uu 53),(0,uu 54),(0,uu 55),(0,uu 56),(0,uu 57),(0,uu 58),(0,uu 59),(0,uu 60),(0,uu 61),(0,uu 62)]) (fun(ok1:Bool)=>[Wk.box b6 175 [str (nthG m.seeds k).key,.int .i64 (nthG m.seeds k).ver],Wk.box b1 67 (cMem m)]) (fun(ok1:Bool)=>[GlF m.sp m.seeds,GlF m.vp m.vers,GlF m.ep m.seen]) (fun(ok1:Bool)=>ok1=(ok&&namedB m.user (nthG m.seeds k).key&&Op.bytesLess (lastM m.seeds k) (nthG m.seeds k).key&&decide (0 < (nthG m.seeds k).ver)&&cntK (nthG m.seeds k).ver)) ?_ ?_
 refine kR ?_;(iterate 2 (refine sq S ?_;clear S;intro a S));(iterate 4 (refine gQ S ?_;clear S;intro a S));refine gC S ?_;clear S;intro a w S;(iterate 2 (refine sq S ?_;clear S;intro a S));(iterate 4 (refine gQ S ?_;clear S;intro a S));(iterate 2 (refine sq S ?_;clear S;intro a S));(iterate 3 (refine gQ S ?_;clear S;intro a S));(iterate 2 (refine sq S ?_;clear S;intro a S))
 refine gS S (fun hs6 S=>?_) (fun hs6 S=>?_)
 refine gT S ?_;refine sq S ?_;clear S;intro a S;refine gT S ?_;refine sq S ?_;clear S;intro a S;refine gT S ?_;refine sn S ?_;clear S;intro b60 a w S
 replace S:=S.boxRow b60 1 1 rfl (by decide)
 rw[show [Value.int .i64 (nthG m.seeds k).ver]=encL [(nthG m.seeds k).ver] from rfl]at S
 replace S:=S.rowToGl (some ⟨b60,0,none⟩) [(nthG m.seeds k).ver] (e:=3) (sz:=1) (n:=1) (c:=1) (fun _ _ _ _=>trivial)
 rw[show (str (nthG m.seeds k).key::encL [(nthG m.seeds k).ver])=[str (nthG m.seeds k).key,.int .i64 (nthG m.seeds k).ver] from rfl]at S
 refine gT S ?_
 refine sr S (counted_c [(nthG m.seeds k).ver] (some ⟨b60,0,none⟩) 1 1 _ rfl (by decide) (S.gl0 _)) ?_;clear S;rintro _ a w rfl S
 (iterate 2 (refine sq S ?_;clear S;intro a S));refine kN (xtn ?_)
 exact ⟨_,S.uu,by rw[hs6];simp,S.sub _ _⟩
 refine gF S ?_;clear S;intro a S;(iterate 3 (refine gF S ?_;clear S;intro a S));(iterate 2 (refine sq S ?_;clear S;intro a S));refine kN (xtn ?_)
 exact ⟨_,S.uu,by rw[hs6];simp,S.sub _ _⟩
 clear S;rintro ok1 uu a w hok1 S;refine kR ?_;(iterate 3 (refine sq S ?_;clear S;intro a S));refine kN (xbn (xtn (kR ?_)));(iterate 2 (refine sq S ?_;clear S;intro a S));refine kN (xtn ?_)
 rw[w64 ((k:Int)+1) (by omega) (by omega)]at S
 refine ⟨k+1,ok1,S.uu,⟨hkl,?_⟩,S.sub _ _,by omega⟩
 rw[←hrel,hok1]
 show (_&&riseS m.user (nthG m.seeds k).key (m.seeds.drop (k+1)))=_
 simp only[Bool.and_assoc]
 refine kE (xte (xte (xbe (xtn (kS (kS ?_))))))
 have hkl:m.seeds.length≤k:=by have:=of_decide_eq_false h4;omega
 replace hrel:ok=(headB m.m&&riseS m.user [] m.seeds):=by
  rw[←hrel,List.drop_of_length_le hkl,riseS,Bool.and_true]
 have he:memB m.m=(ok&&okM m.vers&&seenB 0 (ssP m.seen)):=by rw[hrel];rfl
 refine kR ?_;(iterate 3 (refine sq S ?_;clear S;intro a S));(iterate 2 (refine gQ S ?_;clear S;intro a S));refine gC S ?_;clear S;intro a w S;refine gQ S ?_;clear S;intro a S;(iterate 2 (refine sq S ?_;clear S;intro a S));(iterate 2 (refine gQ S ?_;clear S;intro a S));refine gC S ?_;clear S;intro a w S;refine gQ S ?_;clear S;intro a S;refine sq S ?_;clear S;intro a S;refine kN (xtn ?_)
 refine kC S (fun h9=>?_) (fun h9=>?_)
 refine kS (kR (sq S ?_));clear S;intro a S;refine kN (xtn (kT (xtr ?_)))
 refine end1 S (fun _=>?_)
 rw[mchkF,he,if_neg]
 rw[tchk_dec,fchk_dec]at h9
 rw[Bool.and_eq_true,Bool.and_eq_true]
 rintro ⟨⟨h1,h2⟩,h3⟩
 rw[h1,h2,h3]at h9;cases h9
 refine kK (xtn (kS (kR (sq S ?_))));clear S;intro a S;refine kN (xtn (kT ?_))
 refine end1 S (fun _=>?_)
 rw[tchk_dec,fchk_dec]at h9
 simp only[Bool.or_eq_false_iff,Bool.not_eq_false']at h9
 rw[mchkF,he,h9.1.1,h9.1.2,h9.2];rfl
end Go.Proofs.YtdakncgafdnjfaaGreat