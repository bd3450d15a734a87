/- 3: a part of this claim's texts, joined: W5 RefSame RowRegress RowBase TermG PlainList W6 TermH TreeA TreeB PlainTree TreeC TreeD TreeE TreeF LaidA PlainTreeB TreeG TreeH LaidB W7 W8 Reader ReaderB ReaderC PlainDec W9 W10 W11 W12 W13 TermI PlainDecB. -/
import Derived.Test.YtlgnhhebeandkaaGreatDoorPm2
import Derived.Test.YtlgnhhebeandkaaGreatDoorRows
import Derived.LaidLaws
import Derived.LaidHandle
import Derived.Stop.LaidErr
import Derived.Deep.DeepLaidRun
import Derived.Lib.ItoaLen
import Derived.Laws.StructEq
import Derived.Lib.LaidTab
import Derived.SizedLaws
import Derived.ChangeVars
import Derived.JoinedOf
import Derived.JoinedAt
import Derived.RecoverIn
import Derived.OpenShut
import Derived.Lib.AppendZerosOnto
import Derived.Lib.Overlaps
import Derived.ChangeKeysEq
namespace Go.Wk
open Go Go.Deep Go.ChangeShapes Go.WideShapes Go.ChangeAt Go.RowKit
section
variable {H:Type}{enc:TypeId × Value→H}{P:Program}{w:World}{base:Nat}{spare:Nat→Bool}{held:Bool}{L:TypeId}
end
section
variable {w0:World}{M0:Nat→Prop}{ds:List Deferred}{a:Act}{w:World}{l:List Value}{bs:List Item}{fs:List (World→Prop)}
theorem own_le {w:World}{e:TypeId}{sz:Nat}{p:Option Addr}{n c:Nat}{xs:List Value}(h:w.ownsRow 0 e sz (.slice p n c) n xs):n≤c:=by
 rcases h.2 with ⟨hv,h0⟩ | ⟨g,cap,cur,hv,hb,hg,hnc,hcm,hcs,ht⟩
 omega;cases hv;exact hnc
end
def AllL (L:List LTerm):World→Prop:=fun w=>∀ x∈L,LtIn w x
theorem AllL.stable {M:Nat→Prop}{w:World}{L:List LTerm}(h:∀ x∈L,Stable M w (LtF x)):Stable M w (AllL L):=fun w' hw x hx=>h x hx w' hw
theorem AllL.get {M:Nat→Prop}{w:World}{L:List LTerm}(h:Stable M w (AllL L)){x:LTerm}(hx:x∈L):Stable M w (LtF x):=fun w' hw=>h w' hw x hx
theorem SlF.nil {p:Option Addr}{w:World} : SlF p [] w:=⟨fun _=>rfl,fun _ _ j u hj=>by simp at hj⟩
section
variable {P:Program}{l lc:Cx}{bs:List Item}{fs:List (World→Prop)}{x y:Operand}{p:Option Addr}{n c k:Nat}{kk:IntKind}{m:Int}{ys:List Int}{t ty e:TypeId}{z:Value}{by_:Nat}
end
class Lay (α:Type) extends Enc α where
 dflt:α
 inn:World→α→Prop
 mono:∀ (w w':World) (x:α),(∀ ad v,w.cell? ad=some v→w'.cell? ad=some v)→inn w x→inn w' x
instance layI:Lay Int:={ encI with dflt:=0,inn:=fun _ _=>True,mono:=fun _ _ _ _ h=>h }
instance layS:Lay (List UInt8):={ encS with dflt:=[],inn:=fun _ _=>True,mono:=fun _ _ _ _ h=>h }
instance layT:Lay LTerm:={ encT with dflt:=zeroL,inn:=LtIn,mono:=fun _ _ x h hx=>LtIn.mono h x hx }
instance encBo:Enc Bool:=⟨1,fun b=>[.bool b],fun _=>rfl,fun x u hu=>by obtain rfl:=List.mem_singleton.1 hu;rfl⟩
instance layBo:Lay Bool:={ encBo with dflt:=false,inn:=fun _ _=>True,mono:=fun _ _ _ _ h=>h }
instance layB:Lay UInt8:={ encB with dflt:=0,inn:=fun _ _=>True,mono:=fun _ _ _ _ h=>h }
def InF {α:Type}[Lay α](x:α):World→Prop:=fun w=>Lay.inn w x
def GlF {α:Type}[Lay α](p:Option Addr)(xs:List α):World→Prop:=fun w=>SlF p (encL xs) w∧∀ x∈xs,Lay.inn w x
def nthG {α:Type}[Lay α](xs:List α)(k:Nat):α:=xs.getD k Lay.dflt
theorem nthG_get {α:Type}[Lay α]{xs:List α}{k:Nat}(h:k < xs.length):xs[k]? = some (nthG xs k):=by simp[nthG,h]
theorem nthG_mem {α:Type}[Lay α]{xs:List α}{k:Nat}(h:k < xs.length):nthG xs k∈xs:=List.mem_of_getElem? (nthG_get h)
theorem nthG_drop {α:Type}[Lay α]{xs:List α}{k:Nat}(h:k < xs.length):xs.drop k=nthG xs k::xs.drop (k+1):=by
 rw[List.drop_eq_getElem_cons h]
 congr 1
 simp[nthG,h]
theorem nthG_take {α:Type}[Lay α]{xs:List α}{k:Nat}(h:k < xs.length):xs.take (k+1)=xs.take k++[nthG xs k]:=by
 rw[List.take_add_one,nthG_get h];rfl
def gAddr (p:Option Addr)(k sz off:Nat):Addr:=(p.getD ⟨0,0,none⟩).add (k*sz+off)
structure Sl (α:Type) where
 p:Option Addr
 cap:Nat
 xs:List α
abbrev Sl.v {α:Type}(s:Sl α):Value:=.slice s.p s.xs.length s.cap
instance encSl {α:Type} : Enc (Sl α):=⟨1,fun s=>[s.v],fun _=>rfl,fun x u hu=>by obtain rfl:=List.mem_singleton.1 hu;rfl⟩
theorem SlF.mono {p:Option Addr}{xs:List Value}{w w':World}(h:∀ ad v,w.cell? ad=some v→w'.cell? ad=some v)(hs:SlF p xs w):SlF p xs w':=⟨hs.1,fun ad hp j u hj=>h _ _ (hs.2 ad hp j u hj)⟩
theorem GlF.mono {α:Type}[Lay α]{p:Option Addr}{xs:List α}{w w':World}(h:∀ ad v,w.cell? ad=some v→w'.cell? ad=some v)(hs:GlF p xs w):GlF p xs w':=⟨hs.1.mono h,fun x hx=>Lay.mono w w' x h (hs.2 x hx)⟩
instance laySl {α:Type}[Lay α]:Lay (Sl α):={ encSl with
 dflt:=⟨none,0,[]⟩
 inn:=fun w s=>s.xs.length≤s.cap∧s.cap≤maxLen∧GlF s.p s.xs w
 mono:=fun _ _ _ h hx=>⟨hx.1,hx.2.1,hx.2.2.mono h⟩ }
theorem InF.stable {α:Type}[Lay α]{w:World}{x:α}(h:Lay.inn w x):Fx w (InF x):=fun w' hw'=>Lay.mono w w' x (fun _ _ hc=>cell_agree hw' hc) h
theorem gl_nil {α:Type}[Lay α]{w:World}{p:Option Addr} : GlF (α:=α) p [] w:=⟨SlF.nil,fun _ h=>by cases h⟩
theorem gl_some {α:Type}[Lay α]{w:World}{p:Option Addr}{xs:List α}(h:GlF p xs w){k:Nat}(hk:k < xs.length)(hz:0 < Enc.sz α):∃ ad,p=some ad:=by
 cases hp:p with
 | some ad=>exact ⟨ad,rfl⟩
 | none=>
  have h1:=congrArg List.length (h.1.1 hp);rw[encL_len]at h1;have h2:xs.length*Enc.sz α=0:=h1;rcases Nat.mul_eq_zero.1 h2 with h3 | h3 <;> omega
theorem gl_cell {α:Type}[Lay α]{w:World}{p:Option Addr}{xs:List α}(h:GlF p xs w){k:Nat}(hk:k < xs.length){j:Nat}{u:Value}(hj:(Enc.cells (nthG xs k))[j]? = some u):w.cell? (gAddr p k (Enc.sz α) j)=some u:=by
 have hjs:j < Enc.sz α:=by
  have:=(List.getElem?_eq_some_iff.1 hj).1
  rwa [Enc.len]at this
 obtain ⟨ad,rfl⟩:=gl_some h hk (by omega);exact h.1.2 ad rfl _ _ ((encL_get xs k _ (nthG_get hk) j hjs).trans hj)
theorem ls_gl {w:World}{p:Option Addr}{xs:List LTerm}(h:LsF p 0 xs w):GlF p xs w:=by
 refine ⟨⟨fun hp=>?_,fun ad hp j u hj=>lsIn_cells h hp j u hj⟩,fun x hx=>?_⟩;subst hp;rw[LsIn.nil_of h];rfl;obtain ⟨k,hk⟩:=List.getElem?_of_mem hx;exact (LsIn.get h hk).2
class HasG (fs:List (World→Prop))(p:Option Addr)(α:outParam Type)(i:outParam (Lay α))(xs:outParam (List α)):Prop where
 of:∀ (M:Nat→Prop) (w:World),(∀ Φ∈fs,Stable M w Φ)→Stable M w (GlF p xs)
instance hasg0 {α:Type}[i:Lay α]{fs:List (World→Prop)}{p:Option Addr}{xs:List α} : HasG (GlF p xs::fs) p α i xs:=⟨fun _ _ h=>h _ (by simp)⟩
instance (priority:=900) hasgS {α:Type}{i:Lay α}{fs:List (World→Prop)}{Φ:World→Prop}{p:Option Addr}{xs:List α}[h:HasG fs p α i xs]:HasG (Φ::fs) p α i xs:=⟨fun M w hf=>h.of M w fun Ψ hΨ=>hf Ψ (by simp[hΨ])⟩
class HasGx (fs:List (World→Prop)){α:Type}[Lay α](xs:List α):Prop where
 of:∀ (M:Nat→Prop) (w:World),(∀ Φ∈fs,Stable M w Φ)→∃ p,Stable M w (GlF p xs)
instance hasgx0 {α:Type}[i:Lay α]{fs:List (World→Prop)}{p:Option Addr}{xs:List α} : HasGx (GlF p xs::fs) xs:=⟨fun _ _ h=>⟨p,h _ (by simp)⟩⟩
instance (priority:=900) hasgxS {α:Type}[i:Lay α]{fs:List (World→Prop)}{Φ:World→Prop}{xs:List α}[h:HasGx fs xs]:HasGx (Φ::fs) xs:=⟨fun M w hf=>h.of M w fun Ψ hΨ=>hf Ψ (by simp[hΨ])⟩
class HasI (fs:List (World→Prop)){α:Type}[Lay α](x:α):Prop where
 of:∀ (M:Nat→Prop) (w:World),(∀ Φ∈fs,Stable M w Φ)→Stable M w (InF x)
instance hasi0 {α:Type}[Lay α]{fs:List (World→Prop)}{x:α}[h:HasFact fs (InF x)]:HasI fs x:=⟨fun _ _ hf=>hf _ h.mem⟩
instance (priority:=900) hasi1 {α:Type}[Lay α]{fs:List (World→Prop)}{xs:List α}{k:Nat}[h:HasGx fs xs][hk:KLt k xs.length]:HasI fs (nthG xs k):=⟨fun M w hf=>by
 obtain ⟨p,hp⟩:=h.of M w hf;exact hp.imp fun w' hw'=>hw'.2 _ (nthG_mem hk.lt)⟩
instance (priority:=850) hasgI {α:Type}[i:Lay α]{fs:List (World→Prop)}{s:Sl α}[h:HasI fs s]:HasG fs s.p α i s.xs:=⟨fun M w hf=>(h.of M w hf).imp fun _ h=>h.2.2⟩
instance (priority:=850) hasgxI {α:Type}[i:Lay α]{fs:List (World→Prop)}{s:Sl α}[h:HasI fs s]:HasGx fs s.xs:=⟨fun M w hf=>⟨s.p,(h.of M w hf).imp fun _ h=>h.2.2⟩⟩
section
variable {α:Type}[Lay α]{w0:World}{M0:Nat→Prop}{ds:List Deferred}{a:Act}{w:World}{l:List Value}{bs:List Item}{fs:List (World→Prop)}
theorem Mem.i (m:Mem w bs fs)(x:α)[h:HasI fs x]:Stable (foots bs) w (InF x):=h.of _ _ m.facts
theorem Mem.i0 (m:Mem w bs fs)(x:α)[h:HasI fs x]:Fx w (InF x):=(m.i x).less fun _ _ h=>h.elim
theorem St.i (S:St w0 M0 ds a w l bs fs)(x:α)[h:HasI fs x]:Stable (foots bs) w (InF x):=S.mem.i x
theorem St.i0 (S:St w0 M0 ds a w l bs fs)(x:α)[h:HasI fs x]:Fx w (InF x):=S.mem.i0 x
theorem St.gl {α:Type}{i:Lay α}(S:St w0 M0 ds a w l bs fs)(p:Option Addr){xs:List α}[h:HasG fs p α i xs]:Stable (foots bs) w (GlF p xs):=h.of _ _ S.wd.facts
theorem St.gl0 {α:Type}{i:Lay α}(S:St w0 M0 ds a w l bs fs)(p:Option Addr){xs:List α}[h:HasG fs p α i xs]:Fx w (GlF p xs):=(S.gl p).less fun _ _ h=>h.elim
end
class SzE (α:Type)[Lay α](n:outParam Nat):Prop where
 eq:Enc.sz α=n
 pos:0 < n
instance:SzE Int 1:=⟨rfl,by decide⟩
instance:SzE Bool 1:=⟨rfl,by decide⟩
instance:SzE UInt8 1:=⟨rfl,by decide⟩
instance:SzE (List UInt8) 1:=⟨rfl,by decide⟩
instance:SzE LTerm 5:=⟨rfl,by decide⟩
class CellsOf {α:Type}[Lay α](x:α)(cs:outParam (List Value)):Prop where eq:Enc.cells x=cs
instance {x:Int} : CellsOf x [.int .i64 x]:=⟨rfl⟩
instance {x:Bool} : CellsOf x [.bool x]:=⟨rfl⟩
instance {x:UInt8} : CellsOf x [.int .u8 x.toNat]:=⟨rfl⟩
instance {x:List UInt8} : CellsOf x [str x]:=⟨rfl⟩
section
variable {P:Program}{l:Cx}{bs:List Item}{fs:List (World→Prop)}{x y:Operand}{p:Option Addr}{n c k sz off:Nat}{kk:IntKind}{m:Int}{t ty e:TypeId}{z:Value}{by_:Nat}{α:Type}{i:Lay α}{xs:List α}
instance (priority:=880) opIdxG [Ev l x (.slice p n c)][Ev l y (.int kk m)][Und P t (.slice e)][TI P e z sz by_][hm:IsNat m k][hl:HasG fs p α i xs][hs:SzE α sz][hk:KLt k n][hk':KLt k xs.length] :
  OpQ P (.indexAddr t x y) ty l bs fs (.pointer (some (gAddr p k sz 0))):=⟨fun ρ w h mm=>by
 have hlt:=hk.lt;obtain ⟨ad,rfl⟩:=gl_some (hl.of _ _ mm.facts).now hk'.lt (by rw[hs.eq];exact hs.pos);have h2:=hm.eq;subst h2;simp[xop,execOp,h.ev (x:=x) (v:=.slice (some ad) n c),h.ev (x:=y) (v:=.int kk (k:Int))];simp[run_indexAt (P:=P) (t:=t) (e:=e) (z:=z) (sz:=sz) (by_:=by_) (Int.natCast_nonneg k) (Int.ofNat_lt.2 hlt),gAddr]⟩
theorem gAddr_add (p:Option Addr)(k sz o j:Nat):(gAddr p k sz o).add j=gAddr p k sz (o+j):=by simp only[gAddr,add_add,Nat.add_assoc]
theorem gl_cells {cs:List Value}{w:World}[hs:SzE α sz](h:GlF p xs w)(hk:k < xs.length)[hc:CellsOf (nthG xs k) cs]{j:Nat}{u:Value}(hj:cs[j]? = some u):w.cell? (gAddr p k sz j)=some u:=by
 rw[←hs.eq];exact gl_cell h hk (by rw[hc.eq];exact hj)
instance (priority:=780) opLoadG1 {v:Value}{cs:List Value}[Ev l x (.pointer (some (gAddr p k sz off)))][ha:AggT P t false][hl:HasG fs p α i xs][hs:SzE α sz][hk:KLt k xs.length][hc:CellsOf (nthG xs k) cs][hn:Nth cs off v] :
  OpQ P (.load t x) ty l bs fs v:=⟨fun ρ w h mm=>by
 have h1:=gl_cells (hl.of _ _ mm.facts).now hk.lt hn.eq;simp[xop,execOp,Instr.loadAt,h.ev (x:=x) (v:=.pointer (some (gAddr p k sz off))),Instr.sureAddr,loadVar,Sem.run_bind,ha.run,load,Sem.run,h1]⟩
instance (priority:=780) opLoadGA {cs vs:List Value}[Ev l x (.pointer (some (gAddr p k sz off)))][ha:AggT P t true][TI P t z n by_][hl:HasG fs p α i xs][hs:SzE α sz][hk:KLt k xs.length][hc:CellsOf (nthG xs k) cs][hn:Seg cs off n vs] :
  OpQ P (.load t x) ty l bs fs (.agg ⟨vs⟩):=⟨fun ρ w h mm=>by
 have hlc:=run_loadCells_list (P:=P) w (gAddr p k sz off) vs (fun j v hj=>by
  have hjn:j < n:=by rw[←hn.eq.1];exact (List.getElem?_eq_some_iff.1 hj).1
  rw[gAddr_add];exact gl_cells (hl.of _ _ mm.facts).now hk.lt ((hn.eq.2 j hjn).trans hj))
 rw[hn.eq.1]at hlc;simp[xop,execOp,Instr.loadAt,h.ev (x:=x) (v:=.pointer (some (gAddr p k sz off))),Instr.sureAddr,loadVar,Sem.run_bind,ha.run,run_size,hlc]⟩
instance (priority:=860) srcG {tx:TypeId}[h:Und P tx (.slice e)][hr:HasG fs p α i xs][hs:SzE α sz][hn:LenN xs n]:SrcV P tx (.slice p n c) bs fs sz n (encL xs):=⟨fun w mm=>
 src_sl h.eq (hr.of _ _ mm.facts).now.1 (by rw[encL_len,hn.eq,hs.eq]) (encL_one xs) hs.pos⟩
end
class Tro (P:Program)(T:TypeId)(α:Type)[Lay α]:Prop where
 of:∀ {H:Type} (enc:TypeId × Value→H) (w:World) (base:Nat) (spare:Nat→Bool) (held:Bool) (fuel:Nat) (cs:List Value) (x:DataW H × List MemPlace),DataW.trod enc P w base spare held fuel T cs=some x→∃ a:α,cs=Enc.cells a∧Lay.inn w a
 size:P.cellsOf T=Enc.sz α
theorem str_of (s:ByteArray):Value.string s=str s.data.toList:=by simp[str]
theorem troBo {P:Program}{T:TypeId}(hu:P.underlying T=some .bool)(hs:P.cellsOf T=1):Tro P T Bool:=⟨fun enc w base spare held fuel cs x h=>by
 obtain ⟨k,e0,_⟩:=DataW.trod_bool hu h;exact ⟨k,e0,trivial⟩,hs⟩
theorem troS {P:Program}{T:TypeId}(hu:P.underlying T=some .string)(hs:P.cellsOf T=1):Tro P T (List UInt8):=⟨fun enc w base spare held fuel cs x h=>by
 obtain ⟨s,e0,_⟩:=DataW.trod_string hu h;exact ⟨s.data.toList,by rw[e0,str_of];rfl,trivial⟩,hs⟩
theorem troSl {P:Program}{T L:TypeId}{α:Type}[Lay α][hT:Tro P T α](hu:P.underlying L=some (.slice T))(hs:P.cellsOf L=1):Tro P L (Sl α):=⟨fun enc w base spare held fuel cs x h=>by
 rcases DataW.trod_slice hu h with ⟨e4,_⟩ | ⟨ad,len,cap,elems,rest,n',rfl,e4,_,_,hlc,hcm,hel,hem,_,_⟩
 exact ⟨⟨none,0,[]⟩,e4,Nat.le_refl _,Nat.zero_le _,gl_nil⟩;subst e4;have:Inhabited α:=⟨Lay.dflt⟩;obtain ⟨g,hg⟩:=choose_lt (α:=α) (p:=fun i t=>w.cells? base (ad.add (i*Enc.sz α)) (Enc.sz α)=some (Enc.cells t)∧Lay.inn w t) (n:=len) (fun i hi=>by
  have h1:=hem i hi;rw[hT.size,List.getElem?_eq_getElem (by omega)]at h1;obtain ⟨cs',h2,h3⟩:=Option.bind_eq_some_iff.1 h1;obtain ⟨t,rfl,ht⟩:=hT.of _ _ _ _ _ _ _ _ h3;exact ⟨t,h2,ht⟩)
 refine ⟨⟨some ad,cap,(List.range len).map g⟩,by simp[Enc.cells,Sl.v],by simpa using hlc,hcm,⟨fun h=>(by cases h),fun ad' hp j u hj=>?_⟩,fun t ht=>?_⟩;obtain rfl:ad=ad':=by simpa using hp
 have hjl:j < len*Enc.sz α:=by
  have:=(List.getElem?_eq_some_iff.1 hj).1;rw[encL_len]at this;simpa using this
 have hz:0 < Enc.sz α:=Nat.pos_of_ne_zero fun h0=>by rw[h0]at hjl;omega
 have hi:j / Enc.sz α < len:=(Nat.div_lt_iff_lt_mul hz).2 hjl;have hm:j % Enc.sz α < Enc.sz α:=Nat.mod_lt _ hz;have hdm:j / Enc.sz α*Enc.sz α+j % Enc.sz α=j:=Nat.div_add_mod' j _;obtain ⟨hc,-⟩:=hg _ hi;obtain ⟨_,_,h5⟩:=World.cells?_some hc;have h6:=h5 _ hm;have h7:=encL_get ((List.range len).map g) (j / Enc.sz α) (g (j / Enc.sz α)) (by simp[hi]) _ hm;rw[hdm,hj]at h7;rw[Go.Deep.add_add,hdm]at h6;rw[h6,←h7];obtain ⟨i,hi,rfl⟩:=List.mem_map.1 ht;exact (hg i (List.mem_range.1 hi)).2,hs⟩
theorem trod_flds {H:Type}{enc:TypeId × Value→H}{P:Program}{w:World}{base:Nat}{spare:Nat→Bool}{held:Bool}{T:TypeId}{fs:Array Field}(hu:P.underlying T=some (.struct fs)){fuel:Nat}{cs:List Value}{x:DataW H × List MemPlace}(h:DataW.trod enc P w base spare held fuel T cs=some x) :
  cs.length=P.cellsOf T∧∀ (i t o:Nat),(fs.toList.map (fun f=>(f.type,f.offset)))[i]? = some (t,o)→∃ n y,DataW.trod enc P w base spare held n t ((cs.drop o).take (P.cellsOf t))=some y:=by
 obtain ⟨xs,n,rfl,rfl,hlen,hxl,hx⟩:=DataW.trod_struct hu h;refine ⟨hlen,fun i t o hi=>?_⟩;rw[List.getElem?_map]at hi;obtain ⟨f,hf1,hf2⟩:=Option.map_eq_some_iff.1 hi;simp only[Prod.mk.injEq]at hf2;obtain ⟨rfl,rfl⟩:=hf2;have hlt:i < fs.size:=by simpa using (List.getElem?_eq_some_iff.1 hf1).1
 have:=hx i f (by simpa using hf1);rw[List.getElem?_eq_getElem (by omega)]at this;exact ⟨n,_,this⟩
theorem trod_fld {H:Type}{enc:TypeId × Value→H}{P:Program}{w:World}{base:Nat}{spare:Nat→Bool}{held:Bool}{T:TypeId}{α:Type}[Lay α][hT:Tro P T α]{n:Nat}{cs:List Value}{y:DataW H × List MemPlace}{o s:Nat}(h:DataW.trod enc P w base spare held n T ((cs.drop o).take s)=some y)(hs:s=P.cellsOf T) :
  ∃ a:α,(cs.drop o).take (Enc.sz α)=Enc.cells a∧Lay.inn w a:=by
 subst hs;obtain ⟨a,h1,h2⟩:=hT.of _ _ _ _ _ _ _ _ h;exact ⟨a,by rw[←hT.size];exact h1,h2⟩
theorem troT {P:Program}{T:TypeId}[hT:TermTy P T]:Tro P T LTerm:=⟨fun enc w base spare held fuel cs x h=>term_of_trod fuel cs x h,by obtain ⟨fs,I,S,L,hu,hf,hI,hS,hL,c1,c2,c3,c4⟩:=hT.ex;exact c1⟩
theorem struct_of_Trod {P:Program}{T:TypeId}{α:Type}[Lay α][hT:Tro P T α]{H:Type}{enc:TypeId × Value→H}{w:World}{base:Nat}{spare:Nat→Bool}{held:Bool}{fs:Array Field}(hu:P.underlying T=some (.struct fs)){v:Value}{d:DataW H}{p:List MemPlace}{r:Reach}{W:World}{base':Nat}(h:DataW.Trod enc P w base spare held T v d p)(hv:Value.okWide P W r base' T v) :
  ∃ a:α,v=.agg ⟨Enc.cells a⟩∧Lay.inn w a:=by
 obtain ⟨cs,rfl,_⟩:=okWide_struct hu hv;obtain ⟨fuel,hf⟩:=h;obtain ⟨a,e,ha⟩:=hT.of _ _ _ _ _ _ _ _ hf;refine ⟨a,?_,ha⟩;have:cs.toList=Enc.cells a:=by simpa [Value.cells] using e
 rw[←this]
open Go
class SetG (l:List Value)(ms:List (Nat × Value))(l':outParam (List Value)):Prop where ok:True
instance setg0 {l:List Value} : SetG l [] l:=⟨trivial⟩
instance setg1 {u v:Value}{l l':List Value}{ms:List (Nat × Value)}[SetG l ms l']:SetG (u::l) ((0,v)::ms) (v::l'):=⟨trivial⟩
instance setg2 {u v:Value}{g:Nat}{l l':List Value}{ms:List (Nat × Value)}[SetG l ((g,v)::ms) l']:SetG (u::l) ((g+1,v)::ms) (u::l'):=⟨trivial⟩
section
variable {P:Program}{r:Option Nat}{Q:Exit→Act→World→Prop}{w0:World}{M0:Nat→Prop}{ds:List Deferred}{a:Act}{w:World}{l:List Value}{bs:List Item}{fs:List (World→Prop)}
theorem c_drwe0 {id:Nat}{lo:List Oper}  (t:Tr)(S:St w0 M0 ds a w l bs fs)(mods:(Nat→Value)→List (Nat × Value)){l1:(Nat→Value)→List Value}[∀ uu,SetG l (mods uu) (l1 uu)](bs0:List Item)(bs1:List Item)(fs1:List (World→Prop))(rel:Prop)
  (h:∀ w,St w0 M0 ds a w l bs fs→AT P lo.toArray (fun w=>Wd w0 M0 w bs0 fs) (fun a w=>∃ vv,rel∧St w0 M0 ds a w (l1 vv) bs1 fs1) t a w) (hK:∀  uu a w,rel→St w0 M0 ds a w (l1 uu) bs1 fs1→Q .normal a w) (hm:P.follows .mixedOrders=true:=by kernel_rfl)
  (hd:((lo.all fun o=>!isDefer o.op)&&(Nat.beq t.len lo.length&&(Region.noSelect lo.toArray&&flowT lo.toArray t (Array.replicate lo.length false))))=true:=by kernel_rfl):Wp P r (.region id lo.toArray true) Q a w:=
 c_drawT t bs0 S _ h (fun a w h=>by obtain ⟨vv,h1,h2⟩:=h;exact hK  vv a w h1 h2) hm hd
theorem c_fore1 {c:Code}{ι1:Type}(_S:St w0 M0 ds a w l bs fs)(mods:ι1→(Nat→Value)→List (Nat × Value)){l1:ι1→(Nat→Value)→List Value}[∀ x1 uu,SetG l (mods x1 uu) (l1 x1 uu)](bs1:ι1→List Item)(fs1:ι1→List (World→Prop))(rel:ι1→Prop)(μ:ι1→Nat)(z1:ι1)(h0:rel z1)(uu0:Nat→Value)(S0:St w0 M0 ds a w (l1 z1 uu0) (bs1 z1) (fs1 z1))
  (hr:∀ x1 uu a w,rel x1→St w0 M0 ds a w (l1 x1 uu) (bs1 x1) (fs1 x1)→Wp P r c (Exit.then (fun a w=>∃ y1 vv,rel y1∧St w0 M0 ds a w (l1 y1 vv) (bs1 y1) (fs1 y1)∧μ y1 < μ x1) Q) a w):Wp P r (.loop c) Q a w:=by
 refine c_loop (ι:=ι1) (fun p a w=>rel p∧∃ uu,St w0 M0 ds a w (l1 p uu) (bs1 p) (fs1 p)) (fun p=>μ p) (z1) ⟨h0,uu0,S0⟩ ?_;rintro p a w ⟨h1,uu,S1⟩;refine wpIn_mono (hr p uu a w h1 S1) fun e a1 w1 hq=>?_
 cases e <;> first | exact hq | skip
 obtain ⟨y1,vv,h2,S2,hm⟩:=hq;exact ⟨y1,⟨h2,vv,S2⟩,hm⟩
theorem c_mrge1 {x y:Code}{ι1:Type}(_S:St w0 M0 ds a w l bs fs)(mods:ι1→(Nat→Value)→List (Nat × Value)){l1:ι1→(Nat→Value)→List Value}[∀ x1 uu,SetG l (mods x1 uu) (l1 x1 uu)](bs1:ι1→List Item)(fs1:ι1→List (World→Prop))(rel:ι1→Prop)
  (hx:Wp P r x (Exit.then (fun a w=>∃ y1 vv,rel y1∧St w0 M0 ds a w (l1 y1 vv) (bs1 y1) (fs1 y1)) Q) a w) (hy:∀ x1 uu a w,rel x1→St w0 M0 ds a w (l1 x1 uu) (bs1 x1) (fs1 x1)→Wp P r y Q a w):Wp P r (.seq x y) Q a w:=
 c_merge _ hx fun a w h=>by obtain ⟨y1,vv,h1,h2⟩:=h;exact hy y1 vv a w h1 h2
theorem c_drwe1 {id:Nat}{lo:List Oper}{ι1:Type}(t:Tr)(S:St w0 M0 ds a w l bs fs)(mods:ι1→(Nat→Value)→List (Nat × Value)){l1:ι1→(Nat→Value)→List Value}[∀ x1 uu,SetG l (mods x1 uu) (l1 x1 uu)](bs0:List Item)(bs1:ι1→List Item)(fs1:ι1→List (World→Prop))(rel:ι1→Prop)
  (h:∀ w,St w0 M0 ds a w l bs fs→AT P lo.toArray (fun w=>Wd w0 M0 w bs0 fs) (fun a w=>∃ y1 vv,rel y1∧St w0 M0 ds a w (l1 y1 vv) (bs1 y1) (fs1 y1)) t a w) (hK:∀ x1 uu a w,rel x1→St w0 M0 ds a w (l1 x1 uu) (bs1 x1) (fs1 x1)→Q .normal a w) (hm:P.follows .mixedOrders=true:=by kernel_rfl)
  (hd:((lo.all fun o=>!isDefer o.op)&&(Nat.beq t.len lo.length&&(Region.noSelect lo.toArray&&flowT lo.toArray t (Array.replicate lo.length false))))=true:=by kernel_rfl):Wp P r (.region id lo.toArray true) Q a w:=
 c_drawT t bs0 S _ h (fun a w h=>by obtain ⟨y1,vv,h1,h2⟩:=h;exact hK y1 vv a w h1 h2) hm hd
theorem c_forb1 {c:Code}{ι1:Type}(_S:St w0 M0 ds a w l bs fs)(mods:ι1→(Nat→Value)→List (Nat × Value)){l1:ι1→(Nat→Value)→List Value}[∀ x1 uu,SetG l (mods x1 uu) (l1 x1 uu)]   (rel:ι1→Prop)(μ:ι1→Nat)(z1:ι1)(h0:rel z1)(uu0:Nat→Value)(S0:St w0 M0 ds a w (l1 z1 uu0) bs fs)
  (hr:∀ x1 uu a w,rel x1→St w0 M0 ds a w (l1 x1 uu) bs fs→Wp P r c (Exit.then (fun a w=>∃ y1 vv,rel y1∧St w0 M0 ds a w (l1 y1 vv) bs fs∧μ y1 < μ x1) Q) a w):Wp P r (.loop c) Q a w:=by
 refine c_loop (ι:=ι1) (fun p a w=>rel p∧∃ uu,St w0 M0 ds a w (l1 p uu) bs fs) (fun p=>μ p) (z1) ⟨h0,uu0,S0⟩ ?_;rintro p a w ⟨h1,uu,S1⟩;refine wpIn_mono (hr p uu a w h1 S1) fun e a1 w1 hq=>?_
 cases e <;> first | exact hq | skip
 obtain ⟨y1,vv,h2,S2,hm⟩:=hq;exact ⟨y1,⟨h2,vv,S2⟩,hm⟩
theorem c_fore2 {c:Code}{ι1:Type}{ι2:Type}(_S:St w0 M0 ds a w l bs fs)(mods:ι1→ι2→(Nat→Value)→List (Nat × Value)){l1:ι1→ι2→(Nat→Value)→List Value}[∀ x1 x2 uu,SetG l (mods x1 x2 uu) (l1 x1 x2 uu)](bs1:ι1→ι2→List Item)(fs1:ι1→ι2→List (World→Prop))(rel:ι1→ι2→Prop)(μ:ι1→ι2→Nat)(z1:ι1)(z2:ι2)(h0:rel z1 z2)(uu0:Nat→Value)(S0:St w0 M0 ds a w (l1 z1 z2 uu0) (bs1 z1 z2) (fs1 z1 z2))
  (hr:∀ x1 x2 uu a w,rel x1 x2→St w0 M0 ds a w (l1 x1 x2 uu) (bs1 x1 x2) (fs1 x1 x2)→Wp P r c (Exit.then (fun a w=>∃ y1 y2 vv,rel y1 y2∧St w0 M0 ds a w (l1 y1 y2 vv) (bs1 y1 y2) (fs1 y1 y2)∧μ y1 y2 < μ x1 x2) Q) a w):Wp P r (.loop c) Q a w:=by
 refine c_loop (ι:=ι1 × ι2) (fun p a w=>rel (p.1) (p.2)∧∃ uu,St w0 M0 ds a w (l1 (p.1) (p.2) uu) (bs1 (p.1) (p.2)) (fs1 (p.1) (p.2))) (fun p=>μ (p.1) (p.2)) (z1,z2) ⟨h0,uu0,S0⟩ ?_;rintro p a w ⟨h1,uu,S1⟩;refine wpIn_mono (hr (p.1) (p.2) uu a w h1 S1) fun e a1 w1 hq=>?_
 cases e <;> first | exact hq | skip
 obtain ⟨y1,y2,vv,h2,S2,hm⟩:=hq;exact ⟨(y1,y2),⟨h2,vv,S2⟩,hm⟩
theorem c_mrge2 {x y:Code}{ι1:Type}{ι2:Type}(_S:St w0 M0 ds a w l bs fs)(mods:ι1→ι2→(Nat→Value)→List (Nat × Value)){l1:ι1→ι2→(Nat→Value)→List Value}[∀ x1 x2 uu,SetG l (mods x1 x2 uu) (l1 x1 x2 uu)](bs1:ι1→ι2→List Item)(fs1:ι1→ι2→List (World→Prop))(rel:ι1→ι2→Prop)
  (hx:Wp P r x (Exit.then (fun a w=>∃ y1 y2 vv,rel y1 y2∧St w0 M0 ds a w (l1 y1 y2 vv) (bs1 y1 y2) (fs1 y1 y2)) Q) a w) (hy:∀ x1 x2 uu a w,rel x1 x2→St w0 M0 ds a w (l1 x1 x2 uu) (bs1 x1 x2) (fs1 x1 x2)→Wp P r y Q a w):Wp P r (.seq x y) Q a w:=
 c_merge _ hx fun a w h=>by obtain ⟨y1,y2,vv,h1,h2⟩:=h;exact hy y1 y2 vv a w h1 h2
theorem c_drwe2 {id:Nat}{lo:List Oper}{ι1:Type}{ι2:Type}(t:Tr)(S:St w0 M0 ds a w l bs fs)(mods:ι1→ι2→(Nat→Value)→List (Nat × Value)){l1:ι1→ι2→(Nat→Value)→List Value}[∀ x1 x2 uu,SetG l (mods x1 x2 uu) (l1 x1 x2 uu)](bs0:List Item)(bs1:ι1→ι2→List Item)(fs1:ι1→ι2→List (World→Prop))(rel:ι1→ι2→Prop)
  (h:∀ w,St w0 M0 ds a w l bs fs→AT P lo.toArray (fun w=>Wd w0 M0 w bs0 fs) (fun a w=>∃ y1 y2 vv,rel y1 y2∧St w0 M0 ds a w (l1 y1 y2 vv) (bs1 y1 y2) (fs1 y1 y2)) t a w) (hK:∀ x1 x2 uu a w,rel x1 x2→St w0 M0 ds a w (l1 x1 x2 uu) (bs1 x1 x2) (fs1 x1 x2)→Q .normal a w) (hm:P.follows .mixedOrders=true:=by kernel_rfl)
  (hd:((lo.all fun o=>!isDefer o.op)&&(Nat.beq t.len lo.length&&(Region.noSelect lo.toArray&&flowT lo.toArray t (Array.replicate lo.length false))))=true:=by kernel_rfl):Wp P r (.region id lo.toArray true) Q a w:=
 c_drawT t bs0 S _ h (fun a w h=>by obtain ⟨y1,y2,vv,h1,h2⟩:=h;exact hK y1 y2 vv a w h1 h2) hm hd
theorem c_mrge3 {x y:Code}{ι1:Type}{ι2:Type}{ι3:Type}(_S:St w0 M0 ds a w l bs fs)(mods:ι1→ι2→ι3→(Nat→Value)→List (Nat × Value)){l1:ι1→ι2→ι3→(Nat→Value)→List Value}[∀ x1 x2 x3 uu,SetG l (mods x1 x2 x3 uu) (l1 x1 x2 x3 uu)](bs1:ι1→ι2→ι3→List Item)(fs1:ι1→ι2→ι3→List (World→Prop))(rel:ι1→ι2→ι3→Prop)
  (hx:Wp P r x (Exit.then (fun a w=>∃ y1 y2 y3 vv,rel y1 y2 y3∧St w0 M0 ds a w (l1 y1 y2 y3 vv) (bs1 y1 y2 y3) (fs1 y1 y2 y3)) Q) a w) (hy:∀ x1 x2 x3 uu a w,rel x1 x2 x3→St w0 M0 ds a w (l1 x1 x2 x3 uu) (bs1 x1 x2 x3) (fs1 x1 x2 x3)→Wp P r y Q a w):Wp P r (.seq x y) Q a w:=
 c_merge _ hx fun a w h=>by obtain ⟨y1,y2,y3,vv,h1,h2⟩:=h;exact hy y1 y2 y3 vv a w h1 h2
theorem c_drwe3 {id:Nat}{lo:List Oper}{ι1:Type}{ι2:Type}{ι3:Type}(t:Tr)(S:St w0 M0 ds a w l bs fs)(mods:ι1→ι2→ι3→(Nat→Value)→List (Nat × Value)){l1:ι1→ι2→ι3→(Nat→Value)→List Value}[∀ x1 x2 x3 uu,SetG l (mods x1 x2 x3 uu) (l1 x1 x2 x3 uu)](bs0:List Item)(bs1:ι1→ι2→ι3→List Item)(fs1:ι1→ι2→ι3→List (World→Prop))(rel:ι1→ι2→ι3→Prop)
  (h:∀ w,St w0 M0 ds a w l bs fs→AT P lo.toArray (fun w=>Wd w0 M0 w bs0 fs) (fun a w=>∃ y1 y2 y3 vv,rel y1 y2 y3∧St w0 M0 ds a w (l1 y1 y2 y3 vv) (bs1 y1 y2 y3) (fs1 y1 y2 y3)) t a w) (hK:∀ x1 x2 x3 uu a w,rel x1 x2 x3→St w0 M0 ds a w (l1 x1 x2 x3 uu) (bs1 x1 x2 x3) (fs1 x1 x2 x3)→Q .normal a w) (hm:P.follows .mixedOrders=true:=by kernel_rfl)
  (hd:((lo.all fun o=>!isDefer o.op)&&(Nat.beq t.len lo.length&&(Region.noSelect lo.toArray&&flowT lo.toArray t (Array.replicate lo.length false))))=true:=by kernel_rfl):Wp P r (.region id lo.toArray true) Q a w:=
 c_drawT t bs0 S _ h (fun a w h=>by obtain ⟨y1,y2,y3,vv,h1,h2⟩:=h;exact hK y1 y2 y3 vv a w h1 h2) hm hd
theorem c_fore4 {c:Code}{ι1:Type}{ι2:Type}{ι3:Type}{ι4:Type}(_S:St w0 M0 ds a w l bs fs)(mods:ι1→ι2→ι3→ι4→(Nat→Value)→List (Nat × Value)){l1:ι1→ι2→ι3→ι4→(Nat→Value)→List Value}[∀ x1 x2 x3 x4 uu,SetG l (mods x1 x2 x3 x4 uu) (l1 x1 x2 x3 x4 uu)](bs1:ι1→ι2→ι3→ι4→List Item)(fs1:ι1→ι2→ι3→ι4→List (World→Prop))(rel:ι1→ι2→ι3→ι4→Prop)(μ:ι1→ι2→ι3→ι4→Nat)(z1:ι1)(z2:ι2)(z3:ι3)(z4:ι4)(h0:rel z1 z2 z3 z4)(uu0:Nat→Value)(S0:St w0 M0 ds a w (l1 z1 z2 z3 z4 uu0) (bs1 z1 z2 z3 z4) (fs1 z1 z2 z3 z4))
  (hr:∀ x1 x2 x3 x4 uu a w,rel x1 x2 x3 x4→St w0 M0 ds a w (l1 x1 x2 x3 x4 uu) (bs1 x1 x2 x3 x4) (fs1 x1 x2 x3 x4)→Wp P r c (Exit.then (fun a w=>∃ y1 y2 y3 y4 vv,rel y1 y2 y3 y4∧St w0 M0 ds a w (l1 y1 y2 y3 y4 vv) (bs1 y1 y2 y3 y4) (fs1 y1 y2 y3 y4)∧μ y1 y2 y3 y4 < μ x1 x2 x3 x4) Q) a w):Wp P r (.loop c) Q a w:=by
 refine c_loop (ι:=ι1 × ι2 × ι3 × ι4) (fun p a w=>rel (p.1) (p.2.1) (p.2.2.1) (p.2.2.2)∧∃ uu,St w0 M0 ds a w (l1 (p.1) (p.2.1) (p.2.2.1) (p.2.2.2) uu) (bs1 (p.1) (p.2.1) (p.2.2.1) (p.2.2.2)) (fs1 (p.1) (p.2.1) (p.2.2.1) (p.2.2.2))) (fun p=>μ (p.1) (p.2.1) (p.2.2.1) (p.2.2.2)) (z1,z2,z3,z4) ⟨h0,uu0,S0⟩ ?_;rintro p a w ⟨h1,uu,S1⟩;refine wpIn_mono (hr (p.1) (p.2.1) (p.2.2.1) (p.2.2.2) uu a w h1 S1) fun e a1 w1 hq=>?_
 cases e <;> first | exact hq | skip
 obtain ⟨y1,y2,y3,y4,vv,h2,S2,hm⟩:=hq;exact ⟨(y1,y2,y3,y4),⟨h2,vv,S2⟩,hm⟩
theorem c_mrge4 {x y:Code}{ι1:Type}{ι2:Type}{ι3:Type}{ι4:Type}(_S:St w0 M0 ds a w l bs fs)(mods:ι1→ι2→ι3→ι4→(Nat→Value)→List (Nat × Value)){l1:ι1→ι2→ι3→ι4→(Nat→Value)→List Value}[∀ x1 x2 x3 x4 uu,SetG l (mods x1 x2 x3 x4 uu) (l1 x1 x2 x3 x4 uu)](bs1:ι1→ι2→ι3→ι4→List Item)(fs1:ι1→ι2→ι3→ι4→List (World→Prop))(rel:ι1→ι2→ι3→ι4→Prop)
  (hx:Wp P r x (Exit.then (fun a w=>∃ y1 y2 y3 y4 vv,rel y1 y2 y3 y4∧St w0 M0 ds a w (l1 y1 y2 y3 y4 vv) (bs1 y1 y2 y3 y4) (fs1 y1 y2 y3 y4)) Q) a w) (hy:∀ x1 x2 x3 x4 uu a w,rel x1 x2 x3 x4→St w0 M0 ds a w (l1 x1 x2 x3 x4 uu) (bs1 x1 x2 x3 x4) (fs1 x1 x2 x3 x4)→Wp P r y Q a w):Wp P r (.seq x y) Q a w:=
 c_merge _ hx fun a w h=>by obtain ⟨y1,y2,y3,y4,vv,h1,h2⟩:=h;exact hy y1 y2 y3 y4 vv a w h1 h2
theorem c_drwe4 {id:Nat}{lo:List Oper}{ι1:Type}{ι2:Type}{ι3:Type}{ι4:Type}(t:Tr)(S:St w0 M0 ds a w l bs fs)(mods:ι1→ι2→ι3→ι4→(Nat→Value)→List (Nat × Value)){l1:ι1→ι2→ι3→ι4→(Nat→Value)→List Value}[∀ x1 x2 x3 x4 uu,SetG l (mods x1 x2 x3 x4 uu) (l1 x1 x2 x3 x4 uu)](bs0:List Item)(bs1:ι1→ι2→ι3→ι4→List Item)(fs1:ι1→ι2→ι3→ι4→List (World→Prop))(rel:ι1→ι2→ι3→ι4→Prop)
  (h:∀ w,St w0 M0 ds a w l bs fs→AT P lo.toArray (fun w=>Wd w0 M0 w bs0 fs) (fun a w=>∃ y1 y2 y3 y4 vv,rel y1 y2 y3 y4∧St w0 M0 ds a w (l1 y1 y2 y3 y4 vv) (bs1 y1 y2 y3 y4) (fs1 y1 y2 y3 y4)) t a w) (hK:∀ x1 x2 x3 x4 uu a w,rel x1 x2 x3 x4→St w0 M0 ds a w (l1 x1 x2 x3 x4 uu) (bs1 x1 x2 x3 x4) (fs1 x1 x2 x3 x4)→Q .normal a w) (hm:P.follows .mixedOrders=true:=by kernel_rfl)
  (hd:((lo.all fun o=>!isDefer o.op)&&(Nat.beq t.len lo.length&&(Region.noSelect lo.toArray&&flowT lo.toArray t (Array.replicate lo.length false))))=true:=by kernel_rfl):Wp P r (.region id lo.toArray true) Q a w:=
 c_drawT t bs0 S _ h (fun a w h=>by obtain ⟨y1,y2,y3,y4,vv,h1,h2⟩:=h;exact hK y1 y2 y3 y4 vv a w h1 h2) hm hd
theorem c_fore5 {c:Code}{ι1:Type}{ι2:Type}{ι3:Type}{ι4:Type}{ι5:Type}(_S:St w0 M0 ds a w l bs fs)(mods:ι1→ι2→ι3→ι4→ι5→(Nat→Value)→List (Nat × Value)){l1:ι1→ι2→ι3→ι4→ι5→(Nat→Value)→List Value}[∀ x1 x2 x3 x4 x5 uu,SetG l (mods x1 x2 x3 x4 x5 uu) (l1 x1 x2 x3 x4 x5 uu)](bs1:ι1→ι2→ι3→ι4→ι5→List Item)(fs1:ι1→ι2→ι3→ι4→ι5→List (World→Prop))(rel:ι1→ι2→ι3→ι4→ι5→Prop)(μ:ι1→ι2→ι3→ι4→ι5→Nat)(z1:ι1)(z2:ι2)(z3:ι3)(z4:ι4)(z5:ι5)(h0:rel z1 z2 z3 z4 z5)(uu0:Nat→Value)(S0:St w0 M0 ds a w (l1 z1 z2 z3 z4 z5 uu0) (bs1 z1 z2 z3 z4 z5) (fs1 z1 z2 z3 z4 z5))
  (hr:∀ x1 x2 x3 x4 x5 uu a w,rel x1 x2 x3 x4 x5→St w0 M0 ds a w (l1 x1 x2 x3 x4 x5 uu) (bs1 x1 x2 x3 x4 x5) (fs1 x1 x2 x3 x4 x5)→Wp P r c (Exit.then (fun a w=>∃ y1 y2 y3 y4 y5 vv,rel y1 y2 y3 y4 y5∧St w0 M0 ds a w (l1 y1 y2 y3 y4 y5 vv) (bs1 y1 y2 y3 y4 y5) (fs1 y1 y2 y3 y4 y5)∧μ y1 y2 y3 y4 y5 < μ x1 x2 x3 x4 x5) Q) a w):Wp P r (.loop c) Q a w:=by
 refine c_loop (ι:=ι1 × ι2 × ι3 × ι4 × ι5) (fun p a w=>rel (p.1) (p.2.1) (p.2.2.1) (p.2.2.2.1) (p.2.2.2.2)∧∃ uu,St w0 M0 ds a w (l1 (p.1) (p.2.1) (p.2.2.1) (p.2.2.2.1) (p.2.2.2.2) uu) (bs1 (p.1) (p.2.1) (p.2.2.1) (p.2.2.2.1) (p.2.2.2.2)) (fs1 (p.1) (p.2.1) (p.2.2.1) (p.2.2.2.1) (p.2.2.2.2))) (fun p=>μ (p.1) (p.2.1) (p.2.2.1) (p.2.2.2.1) (p.2.2.2.2)) (z1,z2,z3,z4,z5) ⟨h0,uu0,S0⟩ ?_;rintro p a w ⟨h1,uu,S1⟩;refine wpIn_mono (hr (p.1) (p.2.1) (p.2.2.1) (p.2.2.2.1) (p.2.2.2.2) uu a w h1 S1) fun e a1 w1 hq=>?_
 cases e <;> first | exact hq | skip
 obtain ⟨y1,y2,y3,y4,y5,vv,h2,S2,hm⟩:=hq;exact ⟨(y1,y2,y3,y4,y5),⟨h2,vv,S2⟩,hm⟩
theorem c_drwe5 {id:Nat}{lo:List Oper}{ι1:Type}{ι2:Type}{ι3:Type}{ι4:Type}{ι5:Type}(t:Tr)(S:St w0 M0 ds a w l bs fs)(mods:ι1→ι2→ι3→ι4→ι5→(Nat→Value)→List (Nat × Value)){l1:ι1→ι2→ι3→ι4→ι5→(Nat→Value)→List Value}[∀ x1 x2 x3 x4 x5 uu,SetG l (mods x1 x2 x3 x4 x5 uu) (l1 x1 x2 x3 x4 x5 uu)](bs0:List Item)(bs1:ι1→ι2→ι3→ι4→ι5→List Item)(fs1:ι1→ι2→ι3→ι4→ι5→List (World→Prop))(rel:ι1→ι2→ι3→ι4→ι5→Prop)
  (h:∀ w,St w0 M0 ds a w l bs fs→AT P lo.toArray (fun w=>Wd w0 M0 w bs0 fs) (fun a w=>∃ y1 y2 y3 y4 y5 vv,rel y1 y2 y3 y4 y5∧St w0 M0 ds a w (l1 y1 y2 y3 y4 y5 vv) (bs1 y1 y2 y3 y4 y5) (fs1 y1 y2 y3 y4 y5)) t a w) (hK:∀ x1 x2 x3 x4 x5 uu a w,rel x1 x2 x3 x4 x5→St w0 M0 ds a w (l1 x1 x2 x3 x4 x5 uu) (bs1 x1 x2 x3 x4 x5) (fs1 x1 x2 x3 x4 x5)→Q .normal a w) (hm:P.follows .mixedOrders=true:=by kernel_rfl)
  (hd:((lo.all fun o=>!isDefer o.op)&&(Nat.beq t.len lo.length&&(Region.noSelect lo.toArray&&flowT lo.toArray t (Array.replicate lo.length false))))=true:=by kernel_rfl):Wp P r (.region id lo.toArray true) Q a w:=
 c_drawT t bs0 S _ h (fun a w h=>by obtain ⟨y1,y2,y3,y4,y5,vv,h1,h2⟩:=h;exact hK y1 y2 y3 y4 y5 vv a w h1 h2) hm hd
theorem c_mrgf5 {x y:Code}{ι1:Type}{ι2:Type}{ι3:Type}{ι4:Type}{ι5:Type}(_S:St w0 M0 ds a w l bs fs)(mods:ι1→ι2→ι3→ι4→ι5→(Nat→Value)→List (Nat × Value)){l1:ι1→ι2→ι3→ι4→ι5→(Nat→Value)→List Value}[∀ x1 x2 x3 x4 x5 uu,SetG l (mods x1 x2 x3 x4 x5 uu) (l1 x1 x2 x3 x4 x5 uu)](bs1:ι1→ι2→ι3→ι4→ι5→List Item)  (rel:ι1→ι2→ι3→ι4→ι5→Prop)
  (hx:Wp P r x (Exit.then (fun a w=>∃ y1 y2 y3 y4 y5 vv,rel y1 y2 y3 y4 y5∧St w0 M0 ds a w (l1 y1 y2 y3 y4 y5 vv) (bs1 y1 y2 y3 y4 y5) fs) Q) a w) (hy:∀ x1 x2 x3 x4 x5 uu a w,rel x1 x2 x3 x4 x5→St w0 M0 ds a w (l1 x1 x2 x3 x4 x5 uu) (bs1 x1 x2 x3 x4 x5) fs→Wp P r y Q a w):Wp P r (.seq x y) Q a w:=
 c_merge _ hx fun a w h=>by obtain ⟨y1,y2,y3,y4,y5,vv,h1,h2⟩:=h;exact hy y1 y2 y3 y4 y5 vv a w h1 h2
theorem c_fore6 {c:Code}{ι1:Type}{ι2:Type}{ι3:Type}{ι4:Type}{ι5:Type}{ι6:Type}(_S:St w0 M0 ds a w l bs fs)(mods:ι1→ι2→ι3→ι4→ι5→ι6→(Nat→Value)→List (Nat × Value)){l1:ι1→ι2→ι3→ι4→ι5→ι6→(Nat→Value)→List Value}[∀ x1 x2 x3 x4 x5 x6 uu,SetG l (mods x1 x2 x3 x4 x5 x6 uu) (l1 x1 x2 x3 x4 x5 x6 uu)](bs1:ι1→ι2→ι3→ι4→ι5→ι6→List Item)(fs1:ι1→ι2→ι3→ι4→ι5→ι6→List (World→Prop))(rel:ι1→ι2→ι3→ι4→ι5→ι6→Prop)(μ:ι1→ι2→ι3→ι4→ι5→ι6→Nat)(z1:ι1)(z2:ι2)(z3:ι3)(z4:ι4)(z5:ι5)(z6:ι6)(h0:rel z1 z2 z3 z4 z5 z6)(uu0:Nat→Value)(S0:St w0 M0 ds a w (l1 z1 z2 z3 z4 z5 z6 uu0) (bs1 z1 z2 z3 z4 z5 z6) (fs1 z1 z2 z3 z4 z5 z6))
  (hr:∀ x1 x2 x3 x4 x5 x6 uu a w,rel x1 x2 x3 x4 x5 x6→St w0 M0 ds a w (l1 x1 x2 x3 x4 x5 x6 uu) (bs1 x1 x2 x3 x4 x5 x6) (fs1 x1 x2 x3 x4 x5 x6)→Wp P r c (Exit.then (fun a w=>∃ y1 y2 y3 y4 y5 y6 vv,rel y1 y2 y3 y4 y5 y6∧St w0 M0 ds a w (l1 y1 y2 y3 y4 y5 y6 vv) (bs1 y1 y2 y3 y4 y5 y6) (fs1 y1 y2 y3 y4 y5 y6)∧μ y1 y2 y3 y4 y5 y6 < μ x1 x2 x3 x4 x5 x6) Q) a w):Wp P r (.loop c) Q a w:=by
 refine c_loop (ι:=ι1 × ι2 × ι3 × ι4 × ι5 × ι6) (fun p a w=>rel (p.1) (p.2.1) (p.2.2.1) (p.2.2.2.1) (p.2.2.2.2.1) (p.2.2.2.2.2)∧∃ uu,St w0 M0 ds a w (l1 (p.1) (p.2.1) (p.2.2.1) (p.2.2.2.1) (p.2.2.2.2.1) (p.2.2.2.2.2) uu) (bs1 (p.1) (p.2.1) (p.2.2.1) (p.2.2.2.1) (p.2.2.2.2.1) (p.2.2.2.2.2)) (fs1 (p.1) (p.2.1) (p.2.2.1) (p.2.2.2.1) (p.2.2.2.2.1) (p.2.2.2.2.2))) (fun p=>μ (p.1) (p.2.1) (p.2.2.1) (p.2.2.2.1) (p.2.2.2.2.1) (p.2.2.2.2.2)) (z1,z2,z3,z4,z5,z6) ⟨h0,uu0,S0⟩ ?_;rintro p a w ⟨h1,uu,S1⟩;refine wpIn_mono (hr (p.1) (p.2.1) (p.2.2.1) (p.2.2.2.1) (p.2.2.2.2.1) (p.2.2.2.2.2) uu a w h1 S1) fun e a1 w1 hq=>?_
 cases e <;> first | exact hq | skip
 obtain ⟨y1,y2,y3,y4,y5,y6,vv,h2,S2,hm⟩:=hq;exact ⟨(y1,y2,y3,y4,y5,y6),⟨h2,vv,S2⟩,hm⟩
end
class ItOk (x:Item):Prop where
 loc:∀ w1 w2:World,(∀ k,x.foot k→w2.heap[k]? = w1.heap[k]?)→x.holds w1→x.holds w2
 lt:∀ w:World,x.holds w→∀ k,x.foot k→k < w.heap.size
instance itBox {b:Nat}{t:TypeId}{cs:List Value} : ItOk (box b t cs):=⟨box_loc b t cs,fun w h k hk=>by simp only[box]at hk h;subst hk;exact (Array.getElem?_eq_some_iff.1 h).1⟩
instance itRow {e:TypeId}{sz:Nat}{p:Option Addr}{n c:Nat}{xs:List Value} : ItOk (row e sz p n c xs):=⟨row_loc e sz p n c xs,fun _ h=>row_foot_lt h⟩
def both (x y:Item):Item where
 foot:=fun k=>x.foot k∨y.foot k
 holds:=fun w=>x.holds w∧y.holds w∧∀ k,x.foot k→¬y.foot k
 own:=x.own&&y.own
instance itBoth {x y:Item}[hx:ItOk x][hy:ItOk y]:ItOk (both x y):=⟨fun w1 w2 h h1=>⟨hx.loc w1 w2 (fun k hk=>h k (.inl hk)) h1.1,hy.loc w1 w2 (fun k hk=>h k (.inr hk)) h1.2.1,h1.2.2⟩,fun w h k hk=>hk.elim (hx.lt w h.1 k) (hy.lt w h.2.1 k)⟩
theorem foots_both {x y:Item}{bs:List Item} : foots (both x y::bs)=foots (x::y::bs):=by
 funext k
 simp only[foots,List.mem_cons,or_and_right,exists_or,exists_eq_left,both,or_assoc]
section
variable {w0:World}{M0:Nat→Prop}{ds:List Deferred}{a:Act}{w:World}{l:List Value}{bs bs':List Item}{fs:List (World→Prop)}{x y:Item}
theorem Wd.toBoth [ox:ItOk x][oy:ItOk y](h:Wd w0 M0 w (x::y::bs) fs)(hx:x.own=true)(hy:y.own=true):Wd w0 M0 w (both x y::bs) fs:=by
 have hp:=List.pairwise_cons.1 h.apart;have hp2:=List.pairwise_cons.1 hp.2;have hap:∀ k,x.foot k→¬y.foot k:=hp.1 y (by simp);refine ⟨h.agree,?_,?_,?_,?_,?_,?_⟩;intro it hi;rcases List.mem_cons.1 hi with rfl | hi
 exact ⟨h.held x (by simp),h.held y (by simp),hap⟩;exact h.held it (by simp[hi]);intro it hi k hk;rcases List.mem_cons.1 hi with rfl | hi
 exact hk.elim (h.lt x (by simp) k) (h.lt y (by simp) k);exact h.lt it (by simp[hi]) k hk;intro it hi ho k hk;rcases List.mem_cons.1 hi with rfl | hi
 exact hk.elim (h.own x (by simp) hx k) (h.own y (by simp) hy k);exact h.own it (by simp[hi]) ho k hk;exact List.pairwise_cons.2 ⟨fun it hi k hk=>hk.elim (hp.1 it (by simp[hi]) k) (hp2.1 it hi k),hp2.2⟩;intro Φ hΦ;rw[foots_both];exact h.facts Φ hΦ;intro it hi;rcases List.mem_cons.1 hi with rfl | hi
 exact (itBoth (x:=x) (y:=y)).loc;exact h.loc it (by simp[hi])
theorem Wd.ofBoth [ox:ItOk x][oy:ItOk y](h:Wd w0 M0 w (both x y::bs) fs)(hx:x.own=true)(hy:y.own=true):Wd w0 M0 w (x::y::bs) fs:=by
 have hb:=h.held (both x y) (by simp);have hp:=List.pairwise_cons.1 h.apart;have hown:=h.own (both x y) (by simp) (by simp[both,hx,hy]);refine ⟨h.agree,?_,?_,?_,?_,?_,?_⟩;intro it hi;rcases List.mem_cons.1 hi with rfl | hi
 exact hb.1;rcases List.mem_cons.1 hi with rfl | hi
 exact hb.2.1;exact h.held it (by simp[hi]);intro it hi k hk;rcases List.mem_cons.1 hi with rfl | hi
 exact h.lt (both it y) (by simp) k (.inl hk);rcases List.mem_cons.1 hi with rfl | hi
 exact h.lt (both x it) (by simp) k (.inr hk);exact h.lt it (by simp[hi]) k hk;intro it hi ho k hk;rcases List.mem_cons.1 hi with rfl | hi
 exact hown k (.inl hk);rcases List.mem_cons.1 hi with rfl | hi
 exact hown k (.inr hk);exact h.own it (by simp[hi]) ho k hk;refine List.pairwise_cons.2 ⟨fun it hi k hk=>?_,List.pairwise_cons.2 ⟨fun it hi k hk=>hp.1 it hi k (.inr hk),hp.2⟩⟩;rcases List.mem_cons.1 hi with rfl | hi
 exact hb.2.2 k hk;exact hp.1 it hi k (.inl hk);intro Φ hΦ;rw[←foots_both];exact h.facts Φ hΦ;intro it hi;rcases List.mem_cons.1 hi with rfl | hi
 exact ox.loc;rcases List.mem_cons.1 hi with rfl | hi
 exact oy.loc;exact h.loc it (by simp[hi])
theorem St.perm (S:St w0 M0 ds a w l bs fs)(bs':List Item)(hp:bs'.Perm bs):St w0 M0 ds a w l bs' fs:=⟨S.slots,S.defers,S.wd.perm hp⟩
theorem St.front (S:St w0 M0 ds a w l bs fs)(x:Item)[hd:DropI bs x bs']:St w0 M0 ds a w l (x::bs') fs:=S.perm _ hd.perm
theorem St.toBoth [ItOk x][ItOk y](S:St w0 M0 ds a w l (x::y::bs) fs)(hx:x.own=true:=by rfl)(hy:y.own=true:=by rfl):St w0 M0 ds a w l (both x y::bs) fs:=⟨S.slots,S.defers,S.wd.toBoth hx hy⟩
theorem St.ofBoth [ItOk x][ItOk y](S:St w0 M0 ds a w l (both x y::bs) fs)(hx:x.own=true:=by rfl)(hy:y.own=true:=by rfl):St w0 M0 ds a w l (x::y::bs) fs:=⟨S.slots,S.defers,S.wd.ofBoth hx hy⟩
theorem Wd.itLent {x:Item}[ox:ItOk x](h:x.holds w)(hf:∀ Φ∈fs,Stable x.foot w Φ):Wd w x.foot w [x] fs:=by
 refine ⟨Agree.refl _ _,?_,?_,?_,by simp,?_,?_⟩;intro it hi;obtain rfl:=List.mem_singleton.1 hi;exact h;intro it hi;obtain rfl:=List.mem_singleton.1 hi;exact ox.lt w h;intro it hi _ k hk;obtain rfl:=List.mem_singleton.1 hi;exact .inl hk;intro Φ hΦ;refine (hf Φ hΦ).less fun k _ hk=>?_
 obtain ⟨it,hi,hk⟩:=hk;obtain rfl:=List.mem_singleton.1 hi;exact hk;intro it hi;obtain rfl:=List.mem_singleton.1 hi;exact ox.loc
theorem Wd.it2Lent {x y:Item}[ox:ItOk x][oy:ItOk y](h:(both x y).holds w)(hx:x.own=true)(hy:y.own=true)(hf:∀ Φ∈fs,Stable (both x y).foot w Φ):Wd w (both x y).foot w [x,y] fs:=(Wd.itLent h hf).ofBoth hx hy
class HasIt (bs:List Item)(x:Item):Prop where mem:x∈bs
instance hit0 {x:Item}{bs:List Item} : HasIt (x::bs) x:=⟨List.mem_cons_self ..⟩
instance (priority:=900) hit1 {x y:Item}{bs:List Item}[h:HasIt bs x]:HasIt (y::bs) x:=⟨List.mem_cons_of_mem _ h.mem⟩
theorem St.it (S:St w0 M0 ds a w l bs fs)(x:Item)[h:HasIt bs x]:x.holds w:=S.wd.held _ h.mem
theorem St.lend (_S:St w0 M0 ds a w l bs fs)(x:Item)[h:HasIt bs x]{Φ:World→Prop}(hΦ:Stable (foots bs) w Φ):Stable x.foot w Φ:=hΦ.less fun _ _ hk=>⟨_,h.mem,hk⟩
theorem St.itNew (S:St w0 M0 ds a w l bs fs)(x:Item)[h:HasIt bs x](ho:x.own=true:=by rfl):∀ k,x.foot k→M0 k∨w0.heap.size≤k:=S.wd.own _ h.mem ho
end
section
variable {P:Program}{r:Option Nat}{ops:Array Oper}{Q:Exit→Act→World→Prop}{w0:World}{M0:Nat→Prop}{ds:List Deferred}{a:Act}{w:World}{l:List Value}{bs:List Item}{fs:List (World→Prop)}
 {d:Option Nat} {ty:TypeId} {pos:String} {af:Array Edge} {rest:List Oper} {f:Nat} {x:Operand} {ys:List Operand} {args:List Value} {ts:Array TypeId}
theorem sit {l':Value→List Value}(it:Item)[EntF P f][CallTo ⟨[],l⟩ x ys f args][hp:∀ v,PutO l d v (l' v)](S:St w0 M0 ds a w l bs fs){R:Value→World→Prop}(hc:Ret P f args w it.foot R)(ho:it.own=true)
  (K:∀ v a w',R v w'→(∀ (y:Item) {bs':List Item} [ReplI bs it y bs'] [ItOk y],y.holds w'→(∀ k,y.foot k→it.foot k∨w.heap.size≤k)→St w0 M0 ds a w' (l' v) bs' fs)→WL P r ops Q rest a w') :
  WL P r ops Q (⟨d,.call { callee:=.value x,args:=ys.toArray,argTypes:=ts },ty,pos,af,none⟩::rest) a w:=
 sri it S hc ho fun v a w' hR hS=>K v a w' hR fun y bs' hr oy h hf=>hS y bs' hr h hf (oy.lt w' h) oy.loc
theorem snew {l':Value→List Value}[EntF P f][CallTo ⟨[],l⟩ x ys f args][hp:∀ v,PutO l d v (l' v)](S:St w0 M0 ds a w l bs fs){R:Value→World→Prop}(hc:Ret P f args w (fun _=>False) R)
  (K:∀ v a w',w.heap.size≤w'.heap.size→R v w'→(∀ (y:Item) [ItOk y],y.holds w'→(∀ k,y.foot k→w.heap.size≤k)→St w0 M0 ds a w' (l' v) (y::bs) fs)→St w0 M0 ds a w' (l' v) bs fs→WL P r ops Q rest a w') :
  WL P r ops Q (⟨d,.call { callee:=.value x,args:=ys.toArray,argTypes:=ts },ty,pos,af,none⟩::rest) a w:=by
 refine cv_any S hc ?_;rintro e w' ⟨v,rfl,ha,hR⟩;have:=hp v;have S':=S.put (d:=d) (v:=v);exact ⟨v,rfl,K v _ w' ha.size hR (fun y oy hy hf=>⟨S'.slots,S'.defers,S'.wd.addItem ha hy hf (oy.lt w' hy) oy.loc⟩) ⟨S'.slots,S'.defers,S'.wd.step ha⟩⟩
end
instance (priority:=900) lecZ {a:Nat} : LeC 0 a:=⟨Nat.zero_le _⟩
theorem str_cut (s:List UInt8)(lo hi:Nat):(⟨s.toArray⟩:ByteArray).extract lo hi=⟨((s.take hi).drop lo).toArray⟩:=by
 apply ByteArray.ext;rw[ByteArray.data_extract];simp[List.extract_eq_take_drop,List.drop_take]
section
variable {P:Program}{l lc:Cx}{bs:List Item}{fs:List (World→Prop)}{x y:Operand}{p:Option Addr}{n c k:Nat}{t ty e:TypeId}{z:Value}{sz by_:Nat}{ol oh om:Option Operand}{lo hi mx:Nat}{s:List UInt8}
instance opSliceStr [Ev lc x (str s)][hl:EvB lc ol 0 lo][hh:EvB lc oh s.length hi][Und P t .string][h1:LeC hi s.length][h2:LeC lo hi]:OpQ P (.slice t x ol oh none) ty lc bs fs (str ((s.take hi).drop lo)):=⟨fun ρ w hf _=>by
 have eX:ρ x=str s:=hf.ev;have hb:(Instr.sliceBounds false s.length s.length (ol.map ρ) (oh.map ρ) none).run P w=.ok (lo,hi,s.length) w:=by
  rcases hh.eq with ⟨rfl,rfl⟩ | ⟨o2,kk2,rfl,h'⟩
  rcases hl.eq with ⟨rfl,rfl⟩ | ⟨o3,kk3,rfl,h''⟩
  simp[Instr.sliceBounds];have e3:=hf.ev (x:=o3) (v:=.int kk3 (lo:Int));simp[Instr.sliceBounds,e3,run_sliceBound h2.le];have e2:=hf.ev (x:=o2) (v:=.int kk2 (hi:Int));rcases hl.eq with ⟨rfl,rfl⟩ | ⟨o3,kk3,rfl,h''⟩
  simp[Instr.sliceBounds,e2,run_sliceBound h1.le];have e3:=hf.ev (x:=o3) (v:=.int kk3 (lo:Int));simp[Instr.sliceBounds,Sem.run_bind,e2,e3,run_sliceBound h1.le,run_sliceBound h2.le]
 have hsz:(⟨s.toArray⟩:ByteArray).size=s.length:=rfl;simp[xop,execOp,eX,Instr.sliceAt,Instr.slice,Sem.run_bind,run_und,hsz,hb,str_cut]⟩
instance (priority:=710) opSliceQ0 [Ev lc x (.slice p n c)][EvB lc oh n hi][EvB lc om c mx][Und P t (.slice e)][TI P e z sz by_][h1:LeC mx c][h2:LeC hi mx][h4:HiOk om oh] :
  OpQ P (.slice t x none oh om) ty lc bs fs (.slice p hi mx):=⟨fun ρ w h _=>by
 have:=run_cut (P:=P) (ρ:=ρ) (lc:=lc) (ol:=none) (oh:=oh) (om:=om) (lo:=0) (hi:=hi) (mx:=mx) (t:=t) (e:=e) (z:=z) (sz:=sz) (by_:=by_) (x:=x) (p:=p) (n:=n) (c:=c) (ty:=ty) h h1.le h2.le (Nat.zero_le _) h4.ok w;rw[this];have e1:(if mx=0 then p else p.map (·.add (0*sz)))=p:=by
  split;rfl;cases p <;> simp[Addr.add]
 rw[e1];simp⟩
end
theorem Wd.itLentM {w:World}{fs:List (World→Prop)}{x:Item}{Mr:Nat→Prop}[ox:ItOk x](h:x.holds w)(hM:∀ k,Mr k→k < w.heap.size∧¬x.foot k)(hf:∀ Φ∈fs,Stable (fun k=>x.foot k∨Mr k) w Φ):Wd w x.foot w [x,ext Mr] fs:=by
 refine ⟨Agree.refl _ _,?_,?_,?_,?_,?_,?_⟩;intro it hi;rcases List.mem_cons.1 hi with rfl | hi
 exact h;obtain rfl:=List.mem_singleton.1 hi;trivial;intro it hi k hk;rcases List.mem_cons.1 hi with rfl | hi
 exact ox.lt w h k hk;obtain rfl:=List.mem_singleton.1 hi;exact (hM k hk).1;intro it hi ho k hk;rcases List.mem_cons.1 hi with rfl | hi
 exact .inl hk;obtain rfl:=List.mem_singleton.1 hi;cases ho;refine List.pairwise_cons.2 ⟨fun it hi k hk hk'=>?_,by simp⟩;obtain rfl:=List.mem_singleton.1 hi;exact (hM k hk').2 hk;intro Φ hΦ;refine (hf Φ hΦ).less fun k _ hk=>?_
 obtain ⟨it,hi,hk⟩:=hk;rcases List.mem_cons.1 hi with rfl | hi
 exact .inl hk;obtain rfl:=List.mem_singleton.1 hi;exact .inr hk;intro it hi;rcases List.mem_cons.1 hi with rfl | hi
 exact ox.loc;obtain rfl:=List.mem_singleton.1 hi;exact fun _ _ _ _=>trivial
theorem Wd.it2LentM {w:World}{fs:List (World→Prop)}{x y:Item}{Mr:Nat→Prop}[ox:ItOk x][oy:ItOk y](h:(both x y).holds w)(hx:x.own=true)(hy:y.own=true)(hM:∀ k,Mr k→k < w.heap.size∧¬(both x y).foot k)(hf:∀ Φ∈fs,Stable (fun k=>(both x y).foot k∨Mr k) w Φ):Wd w (both x y).foot w [x,y,ext Mr] fs:=(Wd.itLentM h hM hf).ofBoth hx hy
def restOf (bs:List Item)(x:Item):Nat→Prop:=fun k=>foots bs k∧¬x.foot k
theorem St.restOk {w0:World}{M0:Nat→Prop}{ds:List Deferred}{a:Act}{w:World}{l:List Value}{bs:List Item}{fs:List (World→Prop)}(S:St w0 M0 ds a w l bs fs)(x:Item):∀ k,restOf bs x k→k < w.heap.size∧¬x.foot k:=fun k h=>⟨foots_lt S k h.1,h.2⟩
theorem Stable.split {bs:List Item}{w:World}{Φ:World→Prop}(x:Item)[hx:HasIt bs x](h:Stable (foots bs) w Φ):Stable (fun k=>x.foot k∨restOf bs x k) w Φ:=h.less fun _ _ hk=>hk.elim (fun h=>⟨x,hx.mem,h⟩) (fun h=>h.1)
section
variable {P:Program}{r:Option Nat}{ops:Array Oper}{Q:Exit→Act→World→Prop}{w0:World}{M0:Nat→Prop}{ds:List Deferred}{a:Act}{w:World}{l:List Value}{bs bs':List Item}{fs:List (World→Prop)}
 {d:Option Nat} {ty:TypeId} {pos:String} {af:Array Edge} {rest:List Oper} {f:Nat} {x:Operand} {ys:List Operand} {args:List Value} {ts:Array TypeId}
theorem St.addAll (S:St w0 M0 ds a w l bs fs):∀ (fs2:List (World→Prop)),(∀ Φ∈fs2,Stable (foots bs) w Φ)→St w0 M0 ds a w l bs (fs2++fs)
 | [],_=>S
 | Φ::fs2,h=>(St.addAll S fs2 (fun Ψ hΨ=>h Ψ (by simp[hΨ]))).add (h Φ (by simp))
theorem sitM {l':Value→List Value}(it:Item)[EntF P f][CallTo ⟨[],l⟩ x ys f args][hp:∀ v,PutO l d v (l' v)](S:St w0 M0 ds a w l bs fs){R:Value→World→Prop}(hc:Ret P f args w it.foot R)(ho:it.own=true)
  (K:∀ v a w',R v w'→(∀ (y:Item) (fs2:List (World→Prop)) {fs3:List (World→Prop)} {bs':List Item} [AppL fs2 fs fs3] [ReplI bs it y bs'] [ItOk y],y.holds w'→(∀ k,y.foot k→it.foot k∨w.heap.size≤k)→(∀ Φ∈fs2,Stable (fun k=>y.foot k∨restOf bs it k) w' Φ)→St w0 M0 ds a w' (l' v) bs' fs3)→WL P r ops Q rest a w') :
  WL P r ops Q (⟨d,.call { callee:=.value x,args:=ys.toArray,argTypes:=ts },ty,pos,af,none⟩::rest) a w:=by
 have hap:=S.wd.apart;refine sit it S hc ho fun v a w' hR hS=>K v a w' hR fun y fs2 fs3 bs' happ hr oy hy hf hfs=>?_
 rw[←happ.eq];refine (hS y hy hf).addAll fs2 fun Φ hΦ=>(hfs Φ hΦ).less fun k _ hk=>?_
 obtain ⟨pre,post,rfl,rfl⟩:=hr.ex;obtain ⟨z,hz,hk⟩:=hk;have hp:=List.pairwise_append.1 hap;rcases List.mem_append.1 hz with hz | hz
 exact .inr ⟨⟨z,by simp[hz],hk⟩,hp.2.2 z hz it (by simp) k hk⟩;rcases List.mem_cons.1 hz with rfl | hz
 exact .inl hk;exact .inr ⟨⟨z,by simp[hz],hk⟩,fun hx=>(List.pairwise_cons.1 hp.2.1).1 z hz k hx hk⟩
theorem St.boxToF (S:St w0 M0 ds a w l bs fs)(b:Nat){t:TypeId}{cs:List Value}[_hb:HasBox bs b t cs][hd:DropI bs (Wk.box b t cs) bs']:St w0 M0 ds a w l bs' (BoxF b t cs::fs):=by
 have S1:=S.perm _ hd.perm;have hap:=List.pairwise_cons.1 S1.wd.apart;have hbx:BoxF b t cs w:=S1.wd.held (Wk.box b t cs) (by simp);have S2:St w0 M0 ds a w l bs' fs:=⟨S1.slots,S1.defers,S1.wd.sub (.cons _ (.refl _)) (.refl _)⟩;exact S2.add (BoxF.stable hbx fun ⟨it,hi,hk⟩=>hap.1 it hi b rfl hk)
end
section
variable {P:Program}{l:Cx}{bs:List Item}{fs:List (World→Prop)}{x y:Operand}{k:Nat}{kk:IntKind}{m:Int}{t ty:TypeId}{s:List UInt8}
instance opIndexStr [Ev l x (str s)][Ev l y (.int kk m)][Und P t .string][hm:IsNat m k][hk:KLt k s.length]:OpQ P (.index t x y) ty l bs fs (.int .u8 ((nthG s k).toNat:Int)):=⟨fun ρ w h _=>by
 have h2:=hm.eq;subst h2;have hlt:=hk.lt;have hsz:k < (⟨s.toArray⟩:ByteArray).size:=hlt;have hb:(⟨s.toArray⟩:ByteArray)[k]? = some (nthG s k):=by
  rw[getElem?_pos (⟨s.toArray⟩:ByteArray) k hsz];have:(⟨s.toArray⟩:ByteArray)[k]=s[k]:=rfl;rw[this];have:=nthG_get hlt;rw[List.getElem?_eq_getElem hlt]at this;exact this
 simp[xop,execOp,h.ev (x:=x) (v:=str s),h.ev (x:=y) (v:=.int kk (k:Int)),Instr.index,asIntOf,Sem.run_bind,run_und,hb]⟩
end
def idxG {α:Type}(q:α→Bool):List α→Int→Int
 | [],_=>-1
 | x::xs,i=>if q x then i else idxG q xs (i+1)
theorem idxG_any {α:Type}(q:α→Bool):∀ (xs:List α) (i:Int),0≤i→(decide (0≤idxG q xs i)=xs.any q)
 | [],i,h=>by simp[idxG]
 | x::xs,i,h=>by
  rw[idxG,List.any_cons];cases hq:q x with
  | true=>simp[h]
  | false=>simpa using idxG_any q xs (i+1) (by omega)
theorem encL_takeG {α:Type}[Enc α](xs:List α)(m:Nat):encL (xs.take m)=(encL xs).take (m*Enc.sz α):=(encL_take xs m).symm
theorem GlF.take {α:Type}[Lay α]{p:Option Addr}{xs:List α}{w:World}(m:Nat)(h:GlF p xs w):GlF p (xs.take m) w:=by
 refine ⟨⟨fun hp=>by rw[encL_takeG,h.1.1 hp];simp,fun ad hp j u hj=>h.1.2 ad hp j u ?_⟩,fun x hx=>h.2 x (List.mem_of_mem_take hx)⟩;rw[encL_takeG,List.getElem?_take]at hj;split at hj;exact hj;cases hj
def AllI {α:Type}[Lay α](L:List α):World→Prop:=fun w=>∀ x∈L,Lay.inn w x
theorem AllI.nil {α:Type}[Lay α]{M:Nat→Prop}{w:World} : Stable M w (AllI (α:=α) []):=fun _ _ _ h=>by cases h
theorem AllI.snoc {α:Type}[Lay α]{M:Nat→Prop}{w:World}{L:List α}{r:α}(h:Stable M w (AllI L))(hr:Stable M w (InF r)):Stable M w (AllI (L++[r])):=fun w' hw x hx=>by
 rcases List.mem_append.1 hx with hx | hx
 exact h w' hw x hx;rw[List.mem_singleton.1 hx];exact hr w' hw
end Go.Wk
namespace Go.Proofs.YtlgnhhebeandkaaGreatDoor
open Go Go.Wk
set_option synthInstance.maxSize 100000
set_option synthInstance.maxHeartbeats 400000
set_option maxRecDepth 100000
theorem sameF_mk (x y:LTerm):sameF x.t y.t=(decide (x.kind=y.kind)&&decide (x.user=y.user)&&decide (x.num=y.num)&&decide (x.text=y.text)&&sameLF (x.kids.map LTerm.t) (y.kids.map LTerm.t)):=by
 rw[x.t_eq,y.t_eq,sameF]
theorem rsame_all (N:Nat):∀ (x y:LTerm) (w0:World),SizeOf.sizeOf x≤N→Fx w0 (LtF x)→Fx w0 (LtF y)→
  Ret Tryz.prog 39 [vL x,vL y] w0 (fun _=>False) fun v _=>v=.bool (sameF x.t y.t):=by
 induction N with
 | zero=>intro x _ _ h;cases x;simp at h
 | succ N ih=>
 intro x y w0 hN hx hy;have e0:=sameF_mk x y;have hlen:=LTerm.len_le hx;refine E1 Tryz.func39 rfl Tryz.ntmps39 (Wd.begin (fs:=[LtF x,LtF y]) (by simp;exact ⟨hx,hy⟩)) ?_;intro a S;refine kS (kR ?_);refine sa S ?_;intro b2 a w S;refine sa S ?_;intro b3 a w S;refine J20 ?_;intro a S;refine J20 ?_;intro a S;refine J3 ?_;intro a S;refine kC S (fun h1=>?_) (fun h1=>?_)
 ·refine J7 ?_;intro a S
  refine end1 S (fun _=>?_);have h3:¬(x.kind=y.kind∧x.user=y.user∧x.num=y.num∧x.text=y.text∧x.kids.length=y.kids.length):=by
   rintro ⟨q1,q2,q3,q4,q5⟩;simp[q1,q2,q3,q4,q5]at h1
  rw[e0]
  congr 1
  cases hs:(decide (x.kind=y.kind)&&decide (x.user=y.user)&&decide (x.num=y.num)&&decide (x.text=y.text)&&sameLF (x.kids.map LTerm.t) (y.kids.map LTerm.t)) with
  | false=>rfl
  | true=>
   simp at hs;obtain ⟨⟨⟨⟨q1,q2⟩,q3⟩,q4⟩,q5⟩:=hs;have:=congrArg List.length ((sameLF_iff _ _).1 q5);exact absurd ⟨q1,q2,q3,q4,by simpa using this⟩ h3
 ·refine J9 ?_;intro a S
  have h3:(x.kind=y.kind∧x.user=y.user∧x.num=y.num∧x.text=y.text)∧x.kids.length=y.kids.length:=by simp[and_assoc]at h1;simpa [and_assoc,Int.ofNat_inj] using h1
  obtain ⟨⟨q1,q2,q3,q4⟩,q5⟩:=h3;have e1:sameF x.t y.t=sameLF (x.kids.map LTerm.t) (y.kids.map LTerm.t):=by rw[e0];simp[q1,q2,q3,q4]
  refine c_loop (ι:=Nat) (fun k a w=>k≤x.kids.length∧sameLF ((x.kids.drop k).map LTerm.t) ((y.kids.drop k).map LTerm.t)=sameF x.t y.t∧∃ uu:Nat→Value,St w0 (fun _=>False) [] a w ((vL x)::(vL y)::(.pointer (some ⟨b2,0,none⟩))::(.pointer (some ⟨b3,0,none⟩))::(.bool false)::(.int .i64 (k:Nat))::uu 6::uu 7::uu 8::uu 9::uu 10::uu 11::uu 12::uu 13::uu 14::uu 15::uu 16::uu 17::uu 18::uu 19::uu 20::uu 21::uu 22::uu 23::uu 24::uu 25::uu 26::uu 27::uu 28::uu 29::uu 30::uu 31::uu 32::uu 33::uu 34::uu 35::uu 36::uu 37::uu 38::uu 39::uu 40::uu 41::uu 42::uu 43::uu 44::uu 45::uu 46::uu 47::uu 48::uu 49::uu 50::uu 51::uu 52::uu 53::uu 54::uu 55::uu 56::uu 57::uu 58::uu 59::[]) [box b3 42 y.cells,box b2 42 x.cells] [LtF x,LtF y]) (fun k=>x.kids.length - k) 0 ?_ ?_
  ·exact ⟨Nat.zero_le _,e1.symm,S.uu,S⟩
  ·clear S
   rintro k a w ⟨hk,hrel,uu,S⟩;have hK:k < x.kids.length→KLt k x.kids.length∧KLt k y.kids.length:=fun h=>⟨⟨h⟩,⟨by omega⟩⟩
   refine J10 ?_;intro a S;refine kC S (fun h4=>?_) (fun h4=>?_)
   ·refine kK (xtn (kS (kB ?_)))
    have hkl:k < x.kids.length:=by simpa using h4
    obtain ⟨hK1,hK2⟩:=hK hkl;refine kS ?_;refine c_drawD [T9 0,T9 1,T9 2,T9 3,T9 4,T9 5,T9 6,T9 7,T9 8,T9 9,F9 10,T9 11] [] S ?_;intro w S;(iterate 10 (refine dq S ?_;intro a S));refine dl ?_;rw[nth_drop hkl,nth_drop (show k < y.kids.length by omega),List.map_cons,List.map_cons,sameLF]at hrel;refine sr S (ih (nthL x.kids k) (nthL y.kids k) w (by have:=LTerm.kid_lt (nth_mem hkl);omega) (S.t0 _) (S.t0 _)) ?_;rintro _ a w rfl S;refine de S ?_;refine dq S ?_;intro a S;refine dn (xtn ?_);refine kC S (fun h6=>?_) (fun h6=>?_)
    ·refine J11 ?_;intro a S
     refine end1 S (fun _=>?_);have h9:sameF (nthL x.kids k).t (nthL y.kids k).t=false:=by simpa using h6
     simp[←hrel,h9]
    ·refine J9 ?_;intro a S
     have h9:sameF (nthL x.kids k).t (nthL y.kids k).t=true:=by simpa using h6
     rw[h9,Bool.true_and]at hrel;rw[w6 ((k:Int)+1)]at S;exact ⟨k+1,⟨hkl,hrel,S.uu,S⟩,by omega⟩
   ·refine J11 ?_;intro a S
    refine end1 S (fun _=>?_);have h9:x.kids.length≤k:=by simpa using h4
    rw[List.drop_of_length_le h9,List.drop_of_length_le (by omega)]at hrel;simp[←hrel,sameLF]
theorem rsame_c (x y:LTerm)(w:World)(hx:Fx w (LtF x))(hy:Fx w (LtF y)):Ret Tryz.prog 39 [vL x,vL y] w (fun _=>False) fun v _=>v=.bool (sameF x.t y.t):=rsame_all _ x y w (Nat.le_refl _) hx hy
instance {x y:LTerm}{bs fs}[HasT fs x][HasT fs y]:CallV Tryz.prog 39 [vL x,vL y] bs fs (.bool (sameF x.t y.t)):=⟨fun w m=>rsame_c x y w (m.t0 _) (m.t0 _)⟩
open Go.ChangeShapes Go.WideShapes Go.ChangeAt Go.RowKit
theorem own:ownKnob Tryz.prog.godebug=none:=by kernel_rfl
theorem laidOut:laidOutB Tryz.prog=true:=by kernel_rfl
instance termTy:TermTy Tryz.prog 42:=⟨⟨_,3,9,40,rfl,rfl,rfl,rfl,rfl,by kernel_rfl,by kernel_rfl,by kernel_rfl,by kernel_rfl⟩⟩
instance troTerm:Tro Tryz.prog 42 LTerm:=troT
end Go.Proofs.YtlgnhhebeandkaaGreatDoor
namespace Go.Wk
open Go
class Ascii (m:Int):Prop where
 lo:0≤m
 hi:m < 128
section
variable {P:Program}{l:Cx}{bs:List Item}{fs:List (World→Prop)}{x y:Operand}{t t' ty:TypeId}{s u:List UInt8}{m:Int}{k:IntKind}
instance opSAdd [Ev l x (str s)][Ev l y (str u)][hb:LeC (s.length+u.length) 4611686018427387904]:OpQ P (.binOp .add t x y t') ty l bs fs (str (s++u)):=⟨fun ρ w h _=>by
 have h1:¬(((⟨s.toArray⟩:ByteArray).size+(⟨u.toArray⟩:ByteArray).size:Nat):Int) > IntKind.i64.max:=by
  have:=hb.le;have e1:(⟨s.toArray⟩:ByteArray).size=s.length:=rfl;have e2:(⟨u.toArray⟩:ByteArray).size=u.length:=rfl;rw[e1,e2];simp only[IntKind.max,IntKind.bits,IntKind.signed];simp;omega
 have h2:(⟨s.toArray⟩:ByteArray)++⟨u.toArray⟩=⟨(s++u).toArray⟩:=by
  apply ByteArray.ext;simp
 simp only[xop,execOp,h.ev (x:=x) (v:=str s),h.ev (x:=y) (v:=str u),eqGuard,binOp,Op.stringOp];rw[if_neg h1,h2];simp⟩
end
open Go Go.Deep Go.ChangeShapes Go.WideShapes Go.ChangeAt Go.RowKit
section
variable {w0:World}{M0:Nat→Prop}{ds:List Deferred}{a:Act}{w:World}{l:List Value}{bs bs':List Item}{fs:List (World→Prop)}
theorem St.rowToGl {α:Type}[Lay α](S:St w0 M0 ds a w l bs fs)(p:Option Addr)(xs:List α){e:TypeId}{sz n c:Nat}[hd:DropI bs (Wk.row e sz p n c (encL xs)) bs'](h:Stable (foots bs) w (AllI xs)):St w0 M0 ds a w l bs' (GlF p xs::fs):=by
 have S1:=S.perm _ hd.perm;have hap:=List.pairwise_cons.1 S1.wd.apart;have hr:(Wk.row e sz p n c (encL xs)).holds w:=S1.wd.held _ (by simp);have S2:St w0 M0 ds a w l bs' fs:=⟨S1.slots,S1.defers,S1.wd.sub (.cons _ (.refl _)) (.refl _)⟩;refine S2.add fun w' hw'=>⟨SlF.stable (own_sl hr) (fun ad hp ⟨it,hi,hk⟩=>hap.1 it hi ad.block ⟨ad,hp,rfl⟩ hk) w' hw',?_⟩
 exact (h.less fun k _ ⟨it,hi,hk⟩=>⟨it,(hd.perm.mem_iff).1 (List.mem_cons_of_mem _ hi),hk⟩) w' hw'
end
section
variable {P:Program}{l:Cx}{bs:List Item}{fs:List (World→Prop)}{x y:Operand}{p:Option Addr}{n c k sz off:Nat}{kk:IntKind}{m:Int}{t ty e:TypeId}{z v:Value}{by_:Nat}
class CLt (cs:List Bool)(k n:Nat):Prop where lt:(∀ c∈cs,c=true)→k < n
section
variable {cs:List Bool}{ls:List Value}{α:Type}{i:Lay α}{xs:List α}
end
end
section
variable {w0:World}{M0:Nat→Prop}{ds:List Deferred}{a:Act}{w:World}{l:List Value}{bs bs':List Item}{fs:List (World→Prop)}
end
theorem encL_dropG {α:Type}[Enc α](xs:List α)(m:Nat):encL (xs.drop m)=(encL xs).drop (m*Enc.sz α):=by
 induction m generalizing xs with
 | zero=>simp
 | succ m ih=>
  cases xs with
  | nil=>simp[encL]
  | cons x xs=>
   rw[List.drop_succ_cons,ih,encL_cons,show (m+1)*Enc.sz α=(Enc.cells x).length+m*Enc.sz α from by rw[Enc.len,Nat.add_mul];omega,←List.drop_drop,List.drop_left]
theorem GlF.drop {α:Type}[Lay α]{sz:Nat}[hs:SzE α sz]{p:Option Addr}{xs:List α}{w:World}{c:Nat}(m:Nat)(h:GlF p xs w)(hc:xs.length≤c):GlF (if c=m then p else p.map (·.add (m*sz))) (xs.drop m) w:=by
 split
 rename_i he
 rw[List.drop_of_length_le (by omega)];exact gl_nil;refine ⟨⟨fun hp=>?_,fun ad hp j u hj=>?_⟩,fun x hx=>h.2 x (List.drop_subset _ _ hx)⟩;have:p=none:=by cases p with
  | none=>rfl
  | some a=>cases hp
 rw[encL_dropG,h.1.1 this,List.drop_nil];cases p with
 | none=>cases hp
 | some a=>
  obtain rfl:a.add (m*sz)=ad:=by simpa using hp
  rw[encL_dropG,List.getElem?_drop,hs.eq]at hj;rw[Go.Deep.add_add];exact h.1.2 a rfl _ _ hj
class PS (p:Option Addr):Prop where ex:∃ ad,p=some ad
section
variable {P:Program}{lc:Cx}{bs:List Item}{fs:List (World→Prop)}{x y:Operand}{p:Option Addr}{n c k sz o:Nat}{kk:IntKind}{m:Int}{t ty e:TypeId}{z:Value}{by_:Nat}
end
class IfT (P:Program)(t:TypeId):Prop where eq:P.underlying t=some (.interface (P.methodsAt t))
def errV (b:Bool)(te:TypeId)(pe:Value):Value:=if b then .nilIface else .iface te pe
theorem Agree.ofBelow {w w':World}(h:Below w.heap.size w w'):Agree (fun _=>False) w w':=⟨h.os,h.tape,h.output,h.size,fun k hk _=>h.block k hk⟩
end Go.Wk
namespace Go.Proofs.YtlgnhhebeandkaaGreatDoor
open Go Go.Wk
set_option synthInstance.maxSize 100000
set_option synthInstance.maxHeartbeats 400000
set_option maxRecDepth 100000
structure LMark where
 key:List UInt8
 ver:Int
instance encMark:Enc LMark:=⟨2,fun m=>[str m.key,.int .i64 m.ver],fun _=>rfl,fun x u hu=>by simp only[List.mem_cons,List.not_mem_nil,or_false]at hu;rcases hu with rfl | rfl <;> rfl⟩
instance layMark:Lay LMark:={ encMark with
 dflt:=⟨[],0⟩
 inn:=fun _ _=>True
 mono:=fun _ _ _ _ h=>h }
def TabF : World → Prop := fun w => Lib.TabIs Tryz.prog w "internal/strconv.uint64pow10" .u64 Lib.pow10Tab
theorem var_agree {P:Program}{w w':World}{name:String}{cs:Array Value}(h:w.var? P name=some cs)(hw:Agree (fun _=>False) w w'):w'.var? P name=some cs:=by
 unfold World.var? at *;cases hg:P.globalNamed name with
 | none=>rw[hg]at h;cases h
 | some g=>
  rw[hg]at h;simp only[Option.bind_some]at h⊢;cases hb:w.heap[g]? with
  | none=>rw[hb]at h;cases h
  | some o=>rw[hw.blk (Array.getElem?_eq_some_iff.1 hb).1 (fun h=>h),hb];rw[hb]at h;exact h
theorem TabF.stable {w:World}(h:TabF w):Fx w TabF:=fun _w' hw'=>var_agree h hw'
theorem itoa_c (n:Int)(h0 : -9223372036854775808≤n∧n≤9223372036854775807)(w0:World)(ht:TabF w0):Ret Tryz.prog 96 [.int .i64 n] w0 (fun _=>False) fun v _=>v=str (Lib.itoa n):=by
 refine Calls.mono (Any.strconv_Itoa Tryz.laysM171 n h0.1 h0.2 w0 ht) ?_;rintro e w' ⟨rfl,k,os,rfl⟩;refine ⟨_,rfl,⟨rfl,rfl,rfl,?_,fun k' hk _=>?_⟩,rfl⟩
 show w0.heap.size≤(w0.heap++os).size
 simp
 show (w0.heap++os)[k']? = w0.heap[k']?
 rw[Array.getElem?_append_left hk]
class I64 (n:Int):Prop where
 lo : -9223372036854775808≤n
 hi:n≤9223372036854775807
instance {n:Int}{bs fs}[h:I64 n][hf:HasFact fs TabF]:CallV Tryz.prog 96 [.int .i64 n] bs fs (str (Lib.itoa n)):=⟨fun w m=>itoa_c n ⟨h.lo,h.hi⟩ w (m.fact0 TabF).now⟩
def joinT (a b:Term):Term:=.hash (.pair a b)
def stepT (x:Option Term)(p:Term):Option Term:=
 match x,p with
 | some x,.mk 4 _ _ _ [.mk 1 _ _ s _,y]=>if s=[108] then some (joinT y x) else if s=[114] then some (joinT x y) else none
 | _,_=>none
noncomputable def stepG (x:Option Term)(p:Term):Option Term:=@ite _ (Good p) (Classical.propDecidable _) (stepT x p) none
instance ift_treeF:IfT Tryz.prog 108:=⟨by kernel_rfl⟩
def VarF (name:String):World→Prop:=fun w=>∃ tp p,w.var? Tryz.prog name=some #[.iface tp p]
theorem atoiL_c (s : List UInt8)(hs : s.length ≤ 1000000)(w0 : World)(h1 : VarF "strconv.ErrSyntax" w0)(h2 : VarF "strconv.ErrRange" w0) : Ret Tryz.prog 136 [str s] w0 (fun _ => False) fun v _ => ∃ (n : Int) (b : Bool) (te : TypeId) (pe : Value), v = .tuple ⟨[.int .i64 n, errV b te pe]⟩ ∧ (-9223372036854775808 ≤ n ∧ n ≤ 9223372036854775807) ∧ (b = true ↔ ∃ m, Lib.atoiAll s = .ok m) ∧ (∀ m, Lib.atoiAll s = .ok m → n = m) := by
 obtain ⟨tp1,p1,hv1⟩:=h1;obtain ⟨tp2,p2,hv2⟩:=h2;have hsz:(⟨s.toArray⟩:ByteArray).size=s.length:=rfl;rcases h:Lib.atoiAll s with m | _ | _
 refine Calls.mono (Any.strconv_Atoi_ok Tryz.laysC172 ⟨s.toArray⟩ (by rw[hsz];omega) m h w0) ?_;rintro e w' ⟨rfl,hw⟩;refine ⟨_,rfl,?_,m,true,0,.nilIface,rfl,Lib.atoiAll_bounds h,⟨fun _=>⟨m,rfl⟩,fun _=>rfl⟩,fun m' e=>by injection e⟩;rcases hw with rfl | ⟨t,rfl⟩
 exact Agree.refl _ _;exact ⟨rfl,rfl,rfl,by rw[Lib.bytesWorld_size];omega,fun k hk _=>Lib.bytesWorld_at_old _ _ _ k hk⟩;refine Calls.mono (Any.strconv_Atoi_syntax_var Tryz.laysC172 ⟨s.toArray⟩ (by rw[hsz];omega) h tp1 p1 w0 hv1) ?_;rintro e w' ⟨N,rfl,hN,-,hb⟩;refine ⟨_,rfl,?_,0,false,_,_,rfl,⟨by omega,by omega⟩,⟨nofun,fun ⟨m,e⟩=>by cases e⟩,fun m e=>by cases e⟩;exact Agree.ofBelow hb;refine Calls.mono (Any.strconv_Atoi_range_var Tryz.laysC172 ⟨s.toArray⟩ (by rw[hsz];omega) h tp2 p2 w0 hv2) ?_;rintro e w' ⟨N,rfl,hN,-,hb⟩;refine ⟨_,rfl,?_,Lib.atoiSat s,false,_,_,rfl,Lib.atoiSat_bounds s,⟨nofun,fun ⟨m,e⟩=>by cases e⟩,fun m e=>by cases e⟩;exact Agree.ofBelow hb
theorem VarF.stable {name:String}{w:World}(h:VarF name w):Fx w (VarF name):=fun w' hw'=>by
 obtain ⟨tp,p,hv⟩:=h;exact ⟨tp,p,var_agree hv hw'⟩
def LibF : World → Prop := fun w => TabF w ∧ VarF "strconv.ErrSyntax" w ∧ VarF "strconv.ErrRange" w
theorem LibF.stable {w:World}(h:LibF w):Fx w LibF:=fun w' hw'=>⟨h.1.stable w' hw',h.2.1.stable w' hw',h.2.2.stable w' hw'⟩
open Go.ChangeShapes Go.WideShapes Go.ChangeAt Go.RowKit
def laidL {H : Type} : List (String × DataW H) := [("math/bits.deBruijn32tab", Rows.laid_math_bits_deBruijn32tab), ("math/bits.deBruijn64tab", Rows.laid_math_bits_deBruijn64tab), ("internal/strconv.uint64pow10", Rows.laid_internal_strconv_uint64pow10), ("strconv.ErrRange", Rows.laid_strconv_ErrRange), ("strconv.ErrSyntax", Rows.laid_strconv_ErrSyntax)]
abbrev synS:ByteArray:={ data:=#[105,110,118,97,108,105,100,32,115,121,110,116,97,120] }
abbrev rngS:ByteArray:={ data:=#[118,97,108,117,101,32,111,117,116,32,111,102,32,114,97,110,103,101] }
noncomputable def low:Nat:=(World.holding Tryz.prog default ⟨#[],#[],[]⟩).heap.size
def setCells (cs:Array Value):Obj→Obj
 | .cells _ t frozen=>.cells cs t frozen
 | o=>o
noncomputable def laidWorld (os:Os):World:=
 let w0:=World.holding Tryz.prog os ⟨#[.cells #[.string synS] 308,.cells #[.string rngS] 308],#[],[]⟩
 { w0 with heap:=((((w0.heap.modify 1 (setCells #[.iface 306 (.pointer (some ⟨low,0,none⟩))])).modify 2 (setCells #[.iface 306 (.pointer (some ⟨low+1,0,none⟩))])).modify 3 (setCells #[.int .u64 1,.int .u64 10,.int .u64 100,.int .u64 1000,.int .u64 10000,.int .u64 100000,.int .u64 1000000,.int .u64 10000000,.int .u64 100000000,.int .u64 1000000000,.int .u64 10000000000,.int .u64 100000000000,.int .u64 1000000000000,.int .u64 10000000000000,.int .u64 100000000000000,.int .u64 1000000000000000,.int .u64 10000000000000000,.int .u64 100000000000000000,.int .u64 1000000000000000000,.int .u64 10000000000000000000])).modify 4 (setCells #[.int .u8 0,.int .u8 1,.int .u8 28,.int .u8 2,.int .u8 29,.int .u8 14,.int .u8 24,.int .u8 3,.int .u8 30,.int .u8 22,.int .u8 20,.int .u8 15,.int .u8 25,.int .u8 17,.int .u8 4,.int .u8 8,.int .u8 31,.int .u8 27,.int .u8 13,.int .u8 23,.int .u8 21,.int .u8 19,.int .u8 16,.int .u8 7,.int .u8 26,.int .u8 12,.int .u8 18,.int .u8 6,.int .u8 11,.int .u8 5,.int .u8 10,.int .u8 9])).modify 5 (setCells #[.int .u8 0,.int .u8 1,.int .u8 56,.int .u8 2,.int .u8 57,.int .u8 49,.int .u8 28,.int .u8 3,.int .u8 61,.int .u8 58,.int .u8 42,.int .u8 50,.int .u8 38,.int .u8 29,.int .u8 17,.int .u8 4,.int .u8 62,.int .u8 47,.int .u8 59,.int .u8 36,.int .u8 45,.int .u8 43,.int .u8 51,.int .u8 22,.int .u8 53,.int .u8 39,.int .u8 33,.int .u8 30,.int .u8 24,.int .u8 18,.int .u8 12,.int .u8 5,.int .u8 63,.int .u8 55,.int .u8 48,.int .u8 27,.int .u8 60,.int .u8 41,.int .u8 37,.int .u8 16,.int .u8 46,.int .u8 35,.int .u8 44,.int .u8 21,.int .u8 52,.int .u8 32,.int .u8 23,.int .u8 11,.int .u8 54,.int .u8 26,.int .u8 40,.int .u8 15,.int .u8 34,.int .u8 20,.int .u8 31,.int .u8 10,.int .u8 25,.int .u8 14,.int .u8 19,.int .u8 9,.int .u8 13,.int .u8 8,.int .u8 7,.int .u8 6]) }
theorem laidWorld_met (os:Os)(args:Array Value):laidMet Tryz.prog laidL ((laidWorld os).forCall (fun _ _=>0) ⟨#[],args,[]⟩).memory:=
 laidMet_of_run' 8 (by kernel_rfl) (by kernel_rfl)
deriving instance DecidableEq for LMark
section
variable {l:Cx}{bs:List Wk.Item}{fs:List (World→Prop)}{x y:Operand}{m n:LMark}{t' ty:TypeId}
end
theorem starE : "*" ++ "errors.errorString" = "*errors.errorString" := by decide
theorem rowE (u : TypeId)(h : Tryz.prog.typeName? 3 u = some "*errors.errorString") : u = 306 :=
 typeName_ptr_named (nm := "errors.errorString") (by rw [starE]; kernel_rfl) (by kernel_rfl) (by decide) u (by rw [starE]; exact h)
theorem pow10_data:(Rows.laid_internal_strconv_uint64pow10:DataW Unit)=Lib.tabData .u64 Lib.pow10Tab:=by kernel_rfl
theorem lib_of_laid {W:World}(h:laidMet Tryz.prog laidL W):LibF W:=by
 have h3:=h.tail.tail;have h4:=h3.tail;have h5:=h4.tail;refine ⟨?_,?_,?_⟩;refine Lib.tabIs_of_head (rest := [("strconv.ErrRange", Rows.laid_strconv_ErrRange), ("strconv.ErrSyntax", Rows.laid_strconv_ErrSyntax)]) (g := 3) (t := 300) (e := 133) (n := 20) (by kernel_rfl) (by kernel_rfl) (by kernel_rfl) (by kernel_rfl) (by kernel_rfl) (by kernel_rfl) ?_
 rw[←pow10_data];exact h3;obtain ⟨a,s,hv,-⟩:=laid_sentinel h5 (g:=1) (ti:=108) (by kernel_rfl) (by kernel_rfl) Tryz.underlying108 rowE Tryz.underlying306 Tryz.underlying308 rfl rfl Tryz.underlying9 (by kernel_rfl) (by kernel_rfl);exact ⟨_,_,hv⟩;obtain ⟨a,s,hv,-⟩:=laid_sentinel h4 (g:=2) (ti:=108) (by kernel_rfl) (by kernel_rfl) Tryz.underlying108 rowE Tryz.underlying306 Tryz.underlying308 rfl rfl Tryz.underlying9 (by kernel_rfl) (by kernel_rfl);exact ⟨_,_,hv⟩
end Go.Proofs.YtlgnhhebeandkaaGreatDoor
namespace Go.Wk
open Go
def RetP (P:Program)(f:Nat)(args:List Value)(w:World)(M:Nat→Prop)(R:Value→World→Prop)(X:List PanicEntry→World→Prop):Prop:=
 Calls P f args.toArray w fun e w'=>(∃ v,e=.returned v∧Agree M w w'∧R v w')∨∃ ch,e=.panicked ch∧Agree M w w'∧X ch w'
def pch (v:Value):List PanicEntry:=[{ v:=v,recovered:=false }]
section
variable {P:Program}{r:Option Nat}{ops:Array Oper}{Q:Exit→Act→World→Prop}{w0:World}{M0:Nat→Prop}{ds:List Deferred}{a:Act}{w:World}{l l':List Value}{bs bs':List Item}{fs:List (World→Prop)}
 {d:Option Nat} {op:Op} {ty:TypeId} {pos:String} {af:Array Edge} {rest:List Oper} {v v' G:Value} {f:Nat} {x:Operand} {xs:List Operand} {args:List Value} {ts:Array TypeId} {j g:Nat} {pol:Bool} {cs:List Bool}
theorem cv_anyP [EntF P f][CallTo ⟨[],l⟩ x xs f args](S:St w0 M0 ds a w l bs fs){R:Ending→World→Prop}(hc:Calls P f args.toArray w R)
  (K:∀ e w',R e w'→(∃ v,e=.returned v∧WL P r ops Q rest (a.put d v) w')∨∃ ch,e=.panicked ch∧Q (.panic ch) a w') :
  WL P r ops Q (⟨d,.call { callee:=.value x,args:=xs.toArray,argTypes:=ts },ty,pos,af,none⟩::rest) a w:=by
 refine wl_plain rfl ?_;rw[semAt_nd rfl];simp only[run_callto (f:=f) (args:=args) S.fr,Oper.uponIn];refine ⟨fun h=>(by cases h),trivial,fun cs _=>?_⟩;obtain ⟨e,w',fr,hR,hcm,h1,h2⟩:=hc cs;rcases K e w' hR with ⟨v,rfl,hk⟩ | ⟨ch,rfl,hk⟩
 exact ⟨.returned v,w',fr,hk,(comesIn_wide (m:=lone (Frame.enter P f args.toArray .normal) cs w) (e:=.returned v)).2 hcm,h1,h2⟩;exact ⟨.panicked ch,w',fr,hk,(comesIn_wide (m:=lone (Frame.enter P f args.toArray .normal) cs w) (e:=.panicked ch)).2 hcm,h1,h2⟩
theorem srP {l':Value→List Value}[EntF P f][CallTo ⟨[],l⟩ x xs f args][hp:∀ v,PutO l d v (l' v)](S:St w0 M0 ds a w l bs fs){R:Value→World→Prop}{X:List PanicEntry→World→Prop}(hc:RetP P f args w (fun _=>False) R X)
  (Kp:∀ ch w',X ch w'→St w0 M0 ds a w' l bs fs→Q (.panic ch) a w')
  (K:∀ v a w',R v w'→St w0 M0 ds a w' (l' v) bs fs→WL P r ops Q rest a w') :
  WL P r ops Q (⟨d,.call { callee:=.value x,args:=xs.toArray,argTypes:=ts },ty,pos,af,none⟩::rest) a w:=by
 refine cv_anyP S hc ?_;rintro e w' (⟨v,rfl,ha,hR⟩ | ⟨ch,rfl,ha,hX⟩);have:=hp v;have S':=S.put (d:=d) (v:=v);exact .inl ⟨v,rfl,K v _ w' hR ⟨S'.slots,S'.defers,S'.wd.step ha⟩⟩;exact .inr ⟨ch,rfl,Kp ch w' hX ⟨S.slots,S.defers,S.wd.step ha⟩⟩
theorem sPan {tp:TypeId}[hx:Ev ⟨[],l⟩ x (.iface tp v)](S:St w0 M0 ds a w l bs fs)(h:St w0 M0 ds a w l bs fs→Q (.panic (pch (.iface tp v))) a w):WL P r ops Q (⟨d,.panic x,ty,pos,af,none⟩::rest) a w:=by
 refine wl_plain rfl ?_;rw[semAt_nd rfl];have hf:a.eval x=.iface tp v:=S.fr.ev;have:(xop a.eval (.panic x) ty).run P w=.halt (.panic (.iface tp v)) w:=by
  simp[xop,execOp,hf,Instr.panic,goPanic,Sem.run]
 rw[this];exact h S
variable {fn:Func}{R:Value→World→Prop}{X:List PanicEntry→World→Prop}{e:Exit}
theorem endP (h:bodyPost P fn (fun e w'=>∃ v,e=.returned v∧Agree M0 w0 w'∧R v w') e a w) :
  bodyPost P fn (fun e w'=>(∃ v,e=.returned v∧Agree M0 w0 w'∧R v w')∨∃ ch,e=.panicked ch∧Agree M0 w0 w'∧X ch w') e a w:=by
 cases e <;> simp only[bodyPost]at h⊢<;> first | exact h | skip
 exact ⟨h.1,h.2.choose,h.2.choose_spec.1,.inl h.2.choose_spec.2⟩;exact ⟨h.1,h.2.choose,h.2.choose_spec.1,.inl h.2.choose_spec.2⟩;exact ⟨h.1,.inl h.2⟩;exact .inl h
theorem endX {ch:List PanicEntry}(S:St w0 M0 [] a w l bs fs)(h:X ch w) :
  bodyPost P fn (fun e w'=>(∃ v,e=.returned v∧Agree M0 w0 w'∧R v w')∨∃ ch,e=.panicked ch∧Agree M0 w0 w'∧X ch w') (.panic ch) a w:=
 ⟨S.defers,.inr ⟨ch,rfl,S.wd.agree,h⟩⟩
theorem enterD {f:Nat}{fn:Func}{c:Code}{args:List Value}{l:List Value}{R:Ending→World→Prop}{M0:Nat→Prop}{bs:List Item}{fs:List (World→Prop)}
  (hf:P.funcs[f]? = some fn) (hb:fn.body=some c) (hl:args++List.replicate (fn.ntmps - args.length) undef=l) (hw:Wd w M0 w bs fs)
  (h:∀ a,St w M0 [] a w l bs fs→Wp P none c (bodyPostDIn (FW none) 0 P fn R) a w):Calls P f args.toArray w R:=by
 refine (callsIn_wide (n:=0)).1 (callsIn_of_wp_defers (F:=FW none) (n:=0) hf hb trivial (h _ ⟨?_,rfl,hw⟩));simp[←hl]
theorem sdef {fi ca:List Value}{l':List Value}[hx:Ev ⟨[],l⟩ x (.func (.func f) ⟨fi⟩ ⟨ca⟩)][hp:PutO l d undef l'](S:St w0 M0 ds a w l bs fs)
  (K:∀ a,St w0 M0 ({ target:=.fn (.func f) ⟨ca⟩,args:=⟨fi⟩ }::ds) a w l' bs fs→WL P none ops Q rest a w) :
  WL P none ops Q (⟨d,.defer { callee:=.value x,args:=#[],argTypes:=ts },ty,pos,af,none⟩::rest) a w:=by
 refine wl_plain rfl ?_;have hf:a.eval x=.func (.func f) ⟨fi⟩ ⟨ca⟩:=S.fr.ev;rw[Oper.semAt_none];have:(execOp a.eval ⟨d,.defer { callee:=.value x,args:=#[],argTypes:=ts },ty,pos,af,none⟩).run P w=.ok (.defer { target:=.fn (.func f) ⟨ca⟩,args:=⟨fi⟩ }) w:=by
  simp[execOp,resolve,hf,Deferred.ofValue]
 rw[this];obtain ⟨t,dd⟩:=a;have:=S.slots;simp at this;subst this;have hd:=S.defers;simp at hd;subst hd
 show WL P none ops Q rest _ w
 rw[hp.eq];exact K _ ⟨rfl,rfl,S.wd⟩
theorem leaveRet {g:Nat}{ca:List Value}{K:World→Prop}{Rr:Ending→World→Prop}[he:EntF P g](hd:a.defers=[{ target:=.fn (.func g) ⟨ca⟩,args:=#[] }])
  (hc:CallsDIn (FW none) 0 P g ca.toArray .returning w fun e u' w'=>(∃ v,e=.returned v)∧u'=.returning∧K w')
  (hk:∀ w',K w'→∃ v,(results fn a.tmps).run P w'=.ok v w'∧Rr (.returned v) w') (hx:e=.ret∨e=.normal:=by simp):bodyPostDIn (FW none) 0 P fn Rr e a w:=by
 have key:LeavesIn (FW none) 0 P fn a.tmps Rr a.defers .returning w:=by
  rw[hd];refine leavesIn_cons (f:=g) (args:=ca.toArray) (by simp) (fun h=>by cases h) ?_ (fun _ _=>trivial) (hc.mono ?_);have:=he.run ca.toArray w;simpa [invoke] using this;rintro e u' w' ⟨⟨v,rfl⟩,rfl,hK⟩;obtain ⟨v,h1,h2⟩:=hk w' hK;exact ⟨v,h1,h2⟩
 rcases hx with rfl | rfl <;> exact key
theorem leavePan {g:Nat}{ca:List Value}{pv:Value}{K:World→Prop}{Rr:Ending→World→Prop}[he:EntF P g](hd:a.defers=[{ target:=.fn (.func g) ⟨ca⟩,args:=#[] }])
  (hc:CallsDIn (FW none) 0 P g ca.toArray (.panicking (pch pv)) w fun e u' w'=>(∃ v,e=.returned v)∧u'=.panicking [{ v:=pv,recovered:=true }]∧K w')
  (hk:∀ w',K w'→∃ v,(results fn a.tmps).run P w'=.ok v w'∧Rr (.returned v) w'):bodyPostDIn (FW none) 0 P fn Rr (.panic (pch pv)) a w:=by
 show LeavesIn (FW none) 0 P fn a.tmps Rr a.defers (.panicking (pch pv)) w
 rw[hd];refine leavesIn_cons (f:=g) (args:=ca.toArray) (by simp) (fun h=>by cases h) ?_ (fun _ _=>trivial) (hc.mono ?_);have:=he.run ca.toArray w;simpa [invoke] using this;rintro e u' w' ⟨⟨v,rfl⟩,rfl,hK⟩;obtain ⟨v,h1,h2⟩:=hk w' hK;exact ⟨v,h1,h2⟩
theorem callsD_catch {f:Nat}{fn:Func}{rest:Code}{id t6 t3:Nat}{ty0 ty1:TypeId}{pos0 pos1:String}{af0 af1:Array Edge}{args l:List Value}{l1 l2:Value→List Value}{u:FrameMode}{w0:World}{M0:Nat→Prop}{bs:List Item}{fs:List (World→Prop)}{Rr:Ending→FrameMode→World→Prop}
  (hf:P.funcs[f]? = some fn) (hb:fn.body=some (.seq (.region id #[⟨some t6,.call { callee:=.builtin .recover,args:=#[],argTypes:=#[] },ty0,pos0,af0,none⟩,⟨some t3,.assign (.tmp t6),ty1,pos1,af1,none⟩] false) rest))
  (hl:args++List.replicate (fn.ntmps - args.length) undef=l) (hw:Wd w0 M0 w bs fs) [hp1:∀ x,PutAt l t6 x (l1 x)] [hn1:∀ x,Nth (l1 x) t6 x] [hp2:∀ x,PutAt (l1 x) t3 x (l2 x)]
  (hu:u=.returning∨∃ pv,u=.panicking (pch pv))
  (h:∀ (x:Value) (u':FrameMode),(u=.returning∧x=.nilIface∧u'=u∨∃ pv,u=.panicking (pch pv)∧x=pv∧u'=.panicking [{ v:=pv,recovered:=true }])→
   ∀ a,St w0 M0 [] a w (l2 x) bs fs→Wp P none rest (fun e a' w'=>(e=.normal∨e=.ret)∧a'.defers=[]∧∃ v,(results fn a'.tmps).run P w'=.ok v w'∧Rr (.returned v) u' w') a w) :
  CallsDIn (FW none) 0 P f args.toArray u w Rr:=by
 have main:∀ (c₀:Frame) (cs:List Frame) (x:Value) (u':FrameMode),c₀.mode=u→
   (u=.returning∧x=.nilIface∧u'=u∨∃ pv,u=.panicking (pch pv)∧x=pv∧u'=.panicking [{ v:=pv,recovered:=true }])→
   rest.wpSIn (FW none) 0 P (bodyPostS P fn c₀ cs Rr) ⟨(l2 x).toArray,[]⟩ ({ c₀ with mode:=u' }::cs) w:=by
  intro c₀ cs x u' _ hx;refine wpSIn_of_wpIn rfl (wpIn_mono (h x u' hx ⟨(l2 x).toArray,[]⟩ ⟨rfl,rfl,hw⟩) fun e a' w' hq=>?_);obtain ⟨he,hd,v,h1,h2⟩:=hq;rcases he with rfl | rfl <;> exact ⟨hd,u',rfl,v,h1,h2⟩
 refine callsDIn_of_wpSIn hf hb trivial fun c₀ cs hc₀=>wpSIn_seq (wpSIn_region ?_)
 have hl':args.toArray++Array.replicate (fn.ntmps - args.toArray.size) undef=l.toArray:=by rw[←hl];simp
 rw[hl'];have step:∀ x,((⟨l.toArray,[]⟩:Act).put (some t6) x).put (some t3) (((⟨l.toArray,[]⟩:Act).put (some t6) x).eval (.tmp t6))=⟨(l2 x).toArray,[]⟩:=fun x=>by
  have e1:(⟨l.toArray,[]⟩:Act).put (some t6) x=⟨(l1 x).toArray,[]⟩:=(puto1 (l:=l) (l':=l1 x) (v:=x) (n:=t6)).eq [];have e2:(⟨(l1 x).toArray,[]⟩:Act).eval (.tmp t6)=x:=by
   have:=(hn1 x).eq;simp[Act.eval,Array.getD_eq_getD_getElem?,this]
  rw[e1,e2];exact (puto1 (l:=l1 x) (l':=l2 x) (v:=x) (n:=t3)).eq []
 have hr0:∀ (a:Act),(execOp a.eval ⟨some t6,.call { callee:=.builtin .recover,args:=#[],argTypes:=#[] },ty0,pos0,af0,none⟩).run P w=.ok .recover w:=fun a=>by
  simp[execOp,resolve,invoke,builtin]
 have hr1:∀ (a:Act),(execOp a.eval ⟨some t3,.assign (.tmp t6),ty1,pos1,af1,none⟩).run P w=.ok (.value (a.eval (.tmp t6))) w:=fun a=>by
  simp[execOp]
 have hcs:({ c₀ with mode:=u } : Frame)=c₀:=by subst hc₀;rfl
 rw[show List.range (#[(⟨some t6,.call { callee:=.builtin .recover,args:=#[],argTypes:=#[] },ty0,pos0,af0,none⟩:Oper),⟨some t3,.assign (.tmp t6),ty1,pos1,af1,none⟩]:Array Oper).size=[0,1] from rfl];simp only[wpOpsSIn,List.getElem?_toArray,List.getElem?_cons_zero,List.getElem?_cons_succ,hr0,hr1];refine ⟨fun _ _=>trivial,?_⟩;rw[if_pos (by rfl)];rcases hu with rfl | ⟨pv,rfl⟩
 have:recoverD (c₀::cs)=none:=by simp[recoverD,hc₀]
 rw[this];refine ⟨fun _ _=>trivial,?_⟩;rw[if_pos (by rfl)];have hm:=main c₀ cs .nilIface .returning hc₀ (.inl ⟨rfl,rfl,rfl⟩);rw[hcs]at hm;rw[←step]at hm;exact hm;have:recoverD (c₀::cs)=some (pv,{ c₀ with mode:=.panicking [{ v:=pv,recovered:=true }] }::cs):=by simp[recoverD,hc₀,pch]
 rw[this];refine ⟨fun _ _=>trivial,?_⟩;rw[if_pos (by rfl)];have hm:=main c₀ cs pv _ hc₀ (.inr ⟨pv,rfl,rfl,rfl⟩);rw[←step]at hm;exact hm
end
theorem resC {P:Program}{fn:Func}{w0:World}{M0:Nat→Prop}{a:Act}{w:World}{l:List Value}{bs:List Item}{fs:List (World→Prop)}[hr:FnRes fn []](S:St w0 M0 [] a w l bs fs):(results fn a.tmps).run P w=.ok (.tuple #[]) w:=by
 rw[S.slots,results_eq (rs:=[])];simp
theorem res3 {P:Program}{fn:Func}{t:Array Value}{w:World}{l:List Value}{bs:List Item}{r1 r2 r3:ResultVar}{v1 v2 v3:Value}[hr:FnRes fn [r1,r2,r3]](hs:t=l.toArray)[h1:ResV P l bs r1 v1][h2:ResV P l bs r2 v2][h3:ResV P l bs r3 v3](hh:∀ it∈bs,it.holds w):(results fn t).run P w=.ok (.tuple ⟨[v1,v2,v3]⟩) w:=by
 rw[hs,results_eq (rs:=[r1,r2,r3])];simp[run_res (P:=P) (l:=l) (bs:=bs) (rv:=r1) (v:=v1) w hh,run_res (P:=P) (l:=l) (bs:=bs) (rv:=r2) (v:=v2) w hh,run_res (P:=P) (l:=l) (bs:=bs) (rv:=r3) (v:=v3) w hh]
structure XP where
 keep:List (Nat × Value)
 dss:List Deferred
 XW:List PanicEntry→World→Prop
def XP.at (x:XP):Exit→Act→World→Prop
 | .panic ch,a,w=>(∀ p∈x.keep,a.tmps[p.1]? = some p.2)∧a.defers=x.dss∧x.XW ch w
 | _,_,_=>False
def XP.off (x:XP)(o:Oper):Prop:=∀ p∈x.keep,o.dst≠some p.1
theorem XP.put {x:XP}{o:Oper}(h:x.off o){ch:List PanicEntry}{a:Act}{v:Value}{w:World}(hp:x.at (.panic ch) (a.put o.dst v) w):x.at (.panic ch) a w:=by
 obtain ⟨h1,h2,h3⟩:=hp;refine ⟨fun p hpk=>?_,?_,h3⟩;have h1:=h1 p hpk;have h0:=h p hpk;cases hd:o.dst with
 | none=>rw[hd]at h1;exact h1
 | some n=>
  rw[hd]at h1;have hne:n≠p.1:=fun e=>h0 (by rw[hd,e])
  simpa [Act.put,Array.getElem?_setIfInBounds,hne] using h1
 cases hd:o.dst <;> rw[hd]at h2 <;> exact h2
section
variable {P:Program}{ops:Array Oper}{C:World→Prop}{X:XP}
abbrev WNX (P:Program)(ops:Array Oper)(X:XP)(i:Nat)(K:Act→World→Prop)(a:Act)(w:World):Prop:=wpOpIn (FW none) 0 P ops X.at i K a w
theorem YieldsC.wnx {i:Nat}{o:Oper}{v:Value}{a:Act}(hi:ops[i]? = some o)(hy:YieldsC P ops C o v a)
  {K:Act→World→Prop} {w:World} (hC:C w) (h:K (a.put o.dst v) w):WNX P ops X i K a w:=by
 unfold WNX wpOpIn;simp only[hi];rcases hy with ⟨hw,hv⟩ | ⟨hw,rfl⟩
 simp only[hw,if_true,Oper.wpIn,Oper.semAt_none,hv w hC,Oper.uponIn];exact ⟨fun _ _=>trivial,h⟩;simp only[hw,Bool.false_eq_true,if_false];exact ⟨fun _ _=>trivial,h⟩
theorem wnx_put {j:Nat}{oi oj:Oper}{v:Value}(hj:ops[j]? = some oj)(hap:oi.apart ops oj=true)(hoff:X.off oi)
  (hsi:∀ cs b,oi.op≠.select cs b) (hsj:∀ cs b,oj.op≠.select cs b) {K:Act→World→Prop} {a:Act} {w:World}
  (hy:YieldsC P ops C oi v a) (h:WNX P ops X j K (a.put oi.dst v) w) :
  WNX P ops X j (fun a' w'=>YieldsC P ops C oi v a'∧K (a'.put oi.dst v) w') a w:=by
 obtain ⟨h1,h2,h3⟩:=Oper.apart_spec hap;have keep:∀ (a:Act),YieldsC P ops C oi v a→∀ u,YieldsC P ops C oi v (a.put oj.dst u):=fun a hy u=>
  hy.of_same (execOp_put oi hsi a oj.dst u h3) (wanted_put oi a oj.dst u h3)
 have keepD:∀ d,YieldsC P ops C oi v { a with defers:=d::a.defers }:=fun d=>hy.of_same rfl rfl
 have lets:LetsOut X.at→LetsOut X.at:=id;unfold WNX wpOpIn at *;simp only[hj]at *;rw[wanted_put oj a oi.dst v h1]at h;split
 ·rename_i hw
  simp only[hw,if_true]at h;unfold Oper.wpIn at *;refine ⟨fun _ _=>trivial,?_⟩;have h:=h.2;rw[Oper.semAt_none,execOp_put oj hsj a oi.dst v h1]at h;rw[Oper.semAt_none]
  generalize (execOp a.eval oj).run P w=r at *
  cases r with
  | ok x w'=>
   cases x <;> simp only[Oper.uponIn]at h⊢
   case value u=>exact ⟨keep a hy u,by rw[←Act.put_comm a v u h2];exact h⟩
   case skip=>exact ⟨keep a hy _,by rw[←Act.put_comm a v undef h2];exact h⟩
   case defer d=>
    refine ⟨keep _ (keepD d) _,?_⟩;rw[←Act.put_comm _ v undef h2,←Act.put_defers];exact h
   case enter f args=>
    refine ⟨h.1,CallsIn.mono h.2 fun e w'' he=>?_⟩;cases e with
    | returned u=>exact ⟨keep a hy u,by rw[←Act.put_comm a v u h2];exact he⟩
    | panicked c=>exact XP.put hoff he
    | outgrown=>exact he
   case row row args=>exact ⟨h.1,RowsIn.mono h.2 fun u w'' he=>⟨keep a hy u,by rw[←Act.put_comm a v u h2];exact he⟩⟩
   case round l f tmps assign body=>
    refine ⟨h.1,RoundIn.mono h.2 fun e w'' he=>?_⟩;cases e with
    | returned u=>exact ⟨keep a hy u,by rw[←Act.put_comm a v u h2];exact he⟩
    | panicked c=>exact XP.put hoff he
    | outgrown=>exact he
  | halt x w'=>
   cases x <;> simp only[Oper.uponIn]at h⊢
   case panic u=>exact XP.put hoff h
 ·rename_i hw
  simp only[hw]at h;exact ⟨fun _ _=>trivial,keep a hy _,by rw[←Act.put_comm a v undef h2];exact h.2⟩
variable {R:Act→World→Prop}
variable {r:Option Nat}{Q:Exit→Act→World→Prop}{w0:World}{M0:Nat→Prop}{ds:List Deferred}{a:Act}{w:World}{l l':List Value}{bs bs' bs0:List Item}{fs fs0:List (World→Prop)}
 {d:Option Nat} {op:Op} {ty:TypeId} {pos:String} {af:Array Edge} {rest:List Oper} {v v' G:Value} {j g:Nat} {pol:Bool} {cs:List Bool} {n:Nat} {listed:Array Bool}
def XP.offB (x:XP)(ops:Array Oper):Bool:=ops.toList.all fun o=>x.keep.all fun p=>match o.dst with | some n=>!Nat.beq n p.1 | none=>true
theorem XP.offB_spec {x:XP}{ops:Array Oper}(h:x.offB ops=true){i:Nat}{o:Oper}(hi:ops[i]? = some o):x.off o:=by
 intro p hp e;have h1:=List.all_eq_true.1 (List.all_eq_true.1 h o (by rw[←Array.getElem?_toList]at hi;exact List.mem_of_getElem? hi)) p hp;rw[e]at h1;simp at h1
variable {ord:List (Nat × Bool)}{i:Nat}
theorem XP.of {ch:List PanicEntry}{K:Prop}(S:St w0 M0 ds a w l bs fs)(hk:∀ p∈X.keep,l[p.1]? = some p.2)(hd:ds=X.dss)(h:X.XW ch w):K∨X.at (.panic ch) a w:=
 .inr ⟨fun p hp=>by rw[S.slots];simpa using hk p hp,by rw[S.defers,hd],h⟩
theorem wnx_round {i:Nat}{K:Act→World→Prop}(hQ:∀ ch a w,X.at (.panic ch) a w→Q (.panic ch) a w)(hd:∀ (i:Nat) o,ops[i]? = some o→isDefer o.op=false)(h:WNX P ops X i K a w):wpOpIn (FW r) 0 P ops Q i K a w:=by
 unfold WNX wpOpIn at *;cases ho:ops[i]? with
 | none=>simp only[ho]at h⊢;exact h
 | some o=>
  simp only[ho]at h⊢;split
  ·rename_i hw
   rw[if_pos hw]at h;refine ⟨fun _ _=>trivial,?_⟩;have h:=h.2;rw[show (FW none).round=none from rfl]at h;rw[show (FW r).round=r from rfl,semAt_any (hd i o ho)]
   generalize (o.semAt none a.eval).run P w=q at *
   cases q with
   | ok x w'=>
    cases x <;> simp only[Oper.uponIn]at h⊢<;> first | exact h | skip
    case enter f args=>
     refine ⟨fun h=>(by cases h),trivial,fun cs _=>?_⟩;obtain ⟨e,w',fr,hR,hcm,h1,h2⟩:=h.2.2 cs (room_wide _);refine ⟨e,w',fr,?_,hcm,h1,h2⟩;cases e with
     | returned v=>exact hR
     | panicked c=>exact hQ _ _ _ hR
     | outgrown=>obtain ⟨_,_,hR⟩:=hR;exact hR.elim
    case round l f tmps assign body=>
     refine ⟨fun h=>(by cases h),trivial,fun c cs _=>?_⟩;obtain ⟨e,w',hR,hcm⟩:=h.2.2 c cs (room_wide _);refine ⟨e,w',?_,hcm⟩;cases e with
     | returned v=>exact hR
     | panicked c=>exact hQ _ _ _ hR
     | outgrown=>obtain ⟨_,_,hR⟩:=hR;exact hR.elim
   | halt x w'=>
    cases x <;> simp only[Oper.uponIn]at h⊢
    case panic u=>exact hQ _ _ _ h
  ·rename_i hw
   rw[if_neg hw]at h;exact ⟨fun _ _=>trivial,h.2⟩
end
def sti (r:Nat)(s:List UInt8)(i:Nat):Item where
 foot:=fun k=>k=r
 holds:=fun w=>w.heap[r]? = some (.stringIter ⟨s.toArray⟩ i)
class HasSti (bs:List Item)(r:Nat)(s:outParam (List UInt8))(i:outParam Nat):Prop where mem:sti r s i∈bs
section
variable {P:Program}{r0:Option Nat}{ops:Array Oper}{Q:Exit→Act→World→Prop}{w0:World}{M0:Nat→Prop}{ds:List Deferred}{a:Act}{w:World}{l:List Value}{bs:List Item}{fs:List (World→Prop)}
 {d:Option Nat} {op:Op} {ty:TypeId} {pos:String} {af:Array Edge} {rest:List Oper} {t kt et:TypeId} {x:Operand} {b r i:Nat} {s:List UInt8}
end
instance opErrN {P:Program}{l:Cx}{bs:List Item}{fs:List (World→Prop)}{x:Operand}{t t' ty:TypeId}{b:Bool}{te:TypeId}{pe:Value}[Ev l x (errV b te pe)][hi:IfT P t]:OpQ P (.binOp .neq t x (.const .nilIface) t') ty l bs fs (.bool (!b)):=⟨fun ρ w h _=>by
 have e2:ρ (.const .nilIface)=.nilIface:=h.ev (x:=.const .nilIface) (v:=.nilIface);cases b <;> simp[xop,execOp,h.ev (x:=x) (v:=errV _ te pe),e2,errV,eqGuard,binOp,run_equal_held_nil w t te pe hi.eq,run_equal_nil_nil w t hi.eq]⟩
instance opNilN {P:Program}{l:Cx}{bs:List Item}{fs:List (World→Prop)}{x:Operand}{t t' ty:TypeId}[Ev l x .nilIface][hi:IfT P t]:OpQ P (.binOp .neq t x (.const .nilIface) t') ty l bs fs (.bool false):=⟨fun ρ w h _=>by
 have e2:ρ (.const .nilIface)=.nilIface:=h.ev (x:=.const .nilIface) (v:=.nilIface);simp[xop,execOp,h.ev (x:=x) (v:=.nilIface),e2,eqGuard,binOp,run_equal_nil_nil w t hi.eq]⟩
instance opIfN {P:Program}{l:Cx}{bs:List Item}{fs:List (World→Prop)}{x:Operand}{t t' ty:TypeId}{te:TypeId}{pe:Value}[Ev l x (.iface te pe)][hi:IfT P t]:OpQ P (.binOp .neq t x (.const .nilIface) t') ty l bs fs (.bool true):=⟨fun ρ w h _=>by
 have e2:ρ (.const .nilIface)=.nilIface:=h.ev (x:=.const .nilIface) (v:=.nilIface);simp[xop,execOp,h.ev (x:=x) (v:=.iface te pe),e2,eqGuard,binOp,run_equal_held_nil w t te pe hi.eq]⟩
class StT (P:Program)(t:TypeId):Prop where ex:∃ fs,P.underlying t=some (.struct fs)
instance opAssert {P:Program}{l:Cx}{bs:List Item}{fs:List (World→Prop)}{x:Operand}{tx t ty:TypeId}{pe:Value}[Ev l x (.iface t pe)][hs:StT P t]:OpQ P (.typeAssert x tx t true) ty l bs fs (.tuple ⟨[pe,.bool true]⟩):=⟨fun ρ w h _=>by
 obtain ⟨fs,hf⟩:=hs.ex;simp[xop,execOp,h.ev (x:=x) (v:=.iface t pe),Instr.typeAssert,Sem.run_bind,run_underlying hf w]⟩
instance opMkIf {P:Program}{l:Cx}{bs:List Item}{fs:List (World→Prop)}{x:Operand}{t ty:TypeId}{v:Value}[Ev l x v][hs:StT P t]:OpQ P (.makeInterface t x) ty l bs fs (.iface t v):=⟨fun ρ w h _=>by
 obtain ⟨fs,hf⟩:=hs.ex;simp[xop,execOp,h.ev (x:=x) (v:=v),Instr.makeInterface,Sem.run_bind,run_underlying hf w]⟩
section
variable {P:Program}{ls:Cx}{bs:List Item}{fs:List (World→Prop)}{x y:Operand}{b off k n sz o o':Nat}{kk:IntKind}{m:Int}{t ty e:TypeId}{z:Value}{by_:Nat}
end
open Go Go.Deep Go.ChangeShapes Go.WideShapes Go.ChangeAt Go.RowKit
structure A3 (α:Type) where
 a:α
 b:α
 c:α
def A3.l {α:Type}(x:A3 α):List α:=[x.a,x.b,x.c]
instance encA3 {α:Type}[i:Lay α]:Enc (A3 α):=⟨3*Enc.sz α,fun x=>Enc.cells x.a++(Enc.cells x.b++Enc.cells x.c),fun x=>by simp[Enc.len];omega,fun x u hu=>by
 simp only[List.mem_append]at hu;rcases hu with h | h | h <;> exact Enc.one _ _ h⟩
instance layA3 {α:Type}[i:Lay α]:Lay (A3 α):={ encA3 with
 dflt:=⟨Lay.dflt,Lay.dflt,Lay.dflt⟩
 inn:=fun w x=>Lay.inn w x.a∧Lay.inn w x.b∧Lay.inn w x.c
 mono:=fun w w' _x h hx=>⟨Lay.mono w w' _ h hx.1,Lay.mono w w' _ h hx.2.1,Lay.mono w w' _ h hx.2.2⟩ }
section
variable {P:Program}{r:Option Nat}{ops:Array Oper}{Q:Exit→Act→World→Prop}{w0:World}{M0:Nat→Prop}{ds:List Deferred}{a:Act}{w:World}{l:List Value}{bs bs':List Item}{fs:List (World→Prop)}
 {d:Option Nat} {op:Op} {ty:TypeId} {pos:String} {af:Array Edge} {rest:List Oper} {v:Value} {t e:TypeId} {sz by_ c:Nat} {z:Value} {xs:List Value} {x y:Operand}
theorem sext {f:FuncId}{ys:List Operand}{vs:List Value}{ts:Array TypeId}{l':List Value}(S:St w0 M0 ds a w l bs fs)[EvL ⟨[],l⟩ ys vs][hp:PutO l d v l'](hrun:(callFunc f vs.toArray).run P w=.ok (.value v) w)
  (K:∀ a,St w0 M0 ds a w l' bs fs→WL P r ops Q rest a w) :
  WL P r ops Q (⟨d,.call { callee:=.value (.func f),args:=ys.toArray,argTypes:=ts },ty,pos,af,none⟩::rest) a w:=by
 refine wl_plain rfl ?_;rw[semAt_nd rfl];have S':=S.put (d:=d) (v:=v) (l':=l');have hev:ys.map a.eval=vs:=S.fr.evl;have e1:(xop a.eval (.call { callee:=.value (.func f),args:=ys.toArray,argTypes:=ts }) ty).run P w=.ok (.value v) w:=by
  simp[xop,execOp,resolve,invoke,Deferred.ofValue,hev,S.fr.ev (x:=.func f) (v:=.func (.func f) #[] #[]),hrun]
 simp only[e1,Oper.uponIn];exact K _ S'
end
def mpn (b:Nat)(kv:List (Int × Value)):Item where
 foot:=fun k=>k=b
 holds:=fun w=>∃ es clock,w.heap[b]? = some (.map es clock)∧ents es=(kv.map fun x=>((.int .i64 x.1),x.2))∧(∀ e∈es.toList,e.born < clock)∧(es.toList.map (·.born)).Nodup
class HasMpn (bs:List Item)(b:Nat)(kv:outParam (List (Int × Value))):Prop where mem:mpn b kv∈bs
def MpnF (b:Nat)(kv:List (Int × Value)):World→Prop:=(mpn b kv).holds
class HasMpnF (fs:List (World→Prop))(b:Nat)(kv:outParam (List (Int × Value))):Prop where mem:MpnF b kv∈fs
class KiOf (bs:List Item)(fs:List (World→Prop))(b:Nat)(kv:outParam (List (Int × Value))):Prop where of:∀ w,Mem w bs fs→(mpn b kv).holds w
section
variable {P:Program}{r:Option Nat}{ops:Array Oper}{Q:Exit→Act→World→Prop}{w0:World}{M0:Nat→Prop}{ds:List Deferred}{a:Act}{w:World}{l l':List Value}{bs bs':List Item}{fs:List (World→Prop)}
 {d:Option Nat} {op:Op} {t ty:TypeId} {pos:String} {af:Array Edge} {rest:List Oper} {v z:Value} {e kt et:TypeId} {sz by_ b:Nat} {x y u:Operand} {lc:Cx} {k:Int} {kv:List (Int × Value)}
end
section
variable {P:Program}{ty t t':TypeId}{l:Cx}{bs:List Item}{fs:List (World→Prop)}{x y:Operand}{e:TypeId}
instance opPnE [Ev l x (.pointer none)][Ev l y (.pointer none)][Und P t (.pointer e)]:OpQ P (.binOp .eql t x y t') ty l bs fs (.bool true):=⟨fun ρ w h _=>by
 simp[xop,execOp,h.ev (x:=x) (v:=.pointer none),h.ev (x:=y) (v:=.pointer none),eqGuard,binOp,run_equal (P:=P) (t:=t) (u:=.pointer none) (v:=.pointer none) (d:=.pointer e) (b:=true) w rfl]⟩
instance opPsE {a:Addr}[Ev l x (.pointer (some a))][Ev l y (.pointer none)][Und P t (.pointer e)]:OpQ P (.binOp .eql t x y t') ty l bs fs (.bool false):=⟨fun ρ w h _=>by
 simp[xop,execOp,h.ev (x:=x) (v:=.pointer (some a)),h.ev (x:=y) (v:=.pointer none),eqGuard,binOp,run_equal (P:=P) (t:=t) (u:=.pointer (some a)) (v:=.pointer none) (d:=.pointer e) (b:=false) w rfl]⟩
instance opPsN {a:Addr}[Ev l x (.pointer (some a))][Ev l y (.pointer none)][Und P t (.pointer e)]:OpQ P (.binOp .neq t x y t') ty l bs fs (.bool true):=⟨fun ρ w h _=>by
 simp[xop,execOp,h.ev (x:=x) (v:=.pointer (some a)),h.ev (x:=y) (v:=.pointer none),eqGuard,binOp,run_equal (P:=P) (t:=t) (u:=.pointer (some a)) (v:=.pointer none) (d:=.pointer e) (b:=false) w rfl]⟩
end
structure Blk where
 l:List UInt8
 h:l.length=64
deriving DecidableEq
abbrev Blk.cells (b:Blk):List Value:=encL b.l
theorem Blk.len (b:Blk):(encL b.l).length=64:=by rw[encL_len,b.h];rfl
instance encBlk:Enc Blk:=⟨64,fun b=>encL b.l,Blk.len,fun b u hu=>encL_one b.l u hu⟩
def u32s (l:List Int):List Value:=l.map (Value.int .u32)
instance (priority:=1100) addnZ {b:Nat} : AddN 0 b b:=⟨Nat.zero_add b⟩
section
variable {P:Program}{ty t t':TypeId}{l:Cx}{bs:List Item}{fs:List (World→Prop)}{x y:Operand}{e n k j:Nat}{kk kl:IntKind}{m i:Int}{xs:List Int}{z:Value}{by_:Nat}
instance opShl [Ev l x (.int kk m)][Ev l y (.int kl i)][hj:IsNat i j]:OpQ P (.binOp .shl t x y t') ty l bs fs (.int kk (kk.wrap (m*2 ^ (min j kk.bits)))):=⟨fun ρ w h _=>by
 have h2:=hj.eq;subst h2;have h3:¬((j:Int) < 0):=by omega
 simp[xop,execOp,h.ev (x:=x) (v:=.int kk m),h.ev (x:=y) (v:=.int kl (j:Int)),eqGuard,binOp,Op.shift,h3]⟩
end
def bxk (b:Nat)(T:TypeId)(l:List Int)(k:Nat):Item where
 foot:=fun i=>i=b
 holds:=fun w=>∃ v,w.heap[b]? = some (.cells (u32s (l.set k v)).toArray T (0,0))
class HasBxk (bs:List Item)(b:Nat)(T:outParam TypeId)(l:outParam (List Int))(k:outParam Nat):Prop where mem:bxk b T l k∈bs
class NeK (j k:Nat):Prop where ne:j≠k
section
variable {P:Program}{r:Option Nat}{ops:Array Oper}{Q:Exit→Act→World→Prop}{w0:World}{M0:Nat→Prop}{ds:List Deferred}{a:Act}{w:World}{l l':List Value}{bs bs':List Item}{fs:List (World→Prop)}
 {d:Option Nat} {ty t:TypeId} {pos:String} {af:Array Edge} {rest:List Oper} {x y:Operand} {z:Value} {by_ b k j:Nat} {T:TypeId} {xs:List Int}
end
section
variable {P:Program}{r:Option Nat}{Q:Exit→Act→World→Prop}{w0:World}{M0:Nat→Prop}{ds:List Deferred}{a:Act}{w:World}{l:List Value}{bs:List Item}{fs:List (World→Prop)}
end
section
variable {P:Program}{r:Option Nat}{ops:Array Oper}{Q:Exit→Act→World→Prop}{w0:World}{M0:Nat→Prop}{ds:List Deferred}{a:Act}{w:World}{l:List Value}{bs:List Item}{fs:List (World→Prop)}
 {d:Option Nat} {ty t e:TypeId} {pos:String} {af:Array Edge} {rest:List Oper} {x y:Operand} {by_ c:Nat} {xs:List Value}
end
def BlkF (ad:Addr)(b:Blk):World→Prop:=fun w=>∀ j v,(encL b.l)[j]? = some v→w.cell? (ad.add j)=some v
class HasBlkF (fs:List (World→Prop))(ad:Addr)(b:outParam Blk):Prop where mem:BlkF ad b∈fs
section
variable {P:Program}{ty t:TypeId}{lc:Cx}{bs:List Item}{fs:List (World→Prop)}{x:Operand}{ad:Addr}{z:Value}{by_:Nat}{b:Blk}
end
instance (priority:=1100) repl1 {zs:List Value} : RepL 1 zs zs:=⟨by simp⟩
end Go.Wk
namespace Go.Proofs.YtlgnhhebeandkaaGreatDoor
open Go Go.Wk
set_option synthInstance.maxSize 100000
set_option synthInstance.maxHeartbeats 400000
set_option maxRecDepth 100000
def numB (bs:List UInt8)(x:Int):Int:=bs.foldl (fun x c=>IntKind.u64.wrap (IntKind.u64.wrap (256*x)+(c.toNat:Int))) x
theorem numB_snoc (bs:List UInt8)(c:UInt8)(x:Int):numB (bs++[c]) x=IntKind.u64.wrap (IntKind.u64.wrap (256*numB bs x)+(c.toNat:Int)):=by simp[numB]
theorem take_snocG {α:Type}[Lay α]{xs:List α}{k:Nat}(h:k < xs.length):xs.take (k+1)=xs.take k++[nthG xs k]:=by
 rw[List.take_add_one,nthG_get h];rfl
theorem u8_u64 (c:UInt8):IntKind.u64.wrap (c.toNat:Int)=(c.toNat:Int):=wu64 _ (by omega) (by have:=c.toNat_lt;omega)
theorem weigh1_c (b:Nat)(bs:List UInt8)(p:Option Addr)(n c:Nat)(x0:Int)(w0:World)(hn:bs.length=n)(hl:n≤10000000)(hb:(Wk.box b 133 [.int .u64 x0]).holds w0)(hx:Stable (fun k=>k=b) w0 (GlF p bs)) :
  Ret Tryz.prog 161 [.slice p n c,.pointer (some ⟨b,0,none⟩)] w0 (fun k=>k=b) fun _ w'=>(Wk.box b 133 [.int .u64 (numB bs x0)]).holds w':=by
 subst hn;refine E1 Tryz.func161 rfl Tryz.ntmps161 (Wd.itLent (x:=Wk.box b 133 [.int .u64 x0]) (fs:=[GlF p bs]) hb (by intro Φ hΦ;obtain rfl:=List.mem_singleton.1 hΦ;exact hx)) ?_;intro a S;refine J8 ?_;intro a S;refine c_fore1 S (fun(k:Nat) uu=>[(4,uu 4),(2,.int .i64 (k:Nat)),(0,uu 8),(0,uu 9),(0,uu 10),(0,uu 11),(0,uu 12),(0,uu 13),(0,uu 14),(0,uu 15),(0,uu 16)]) (fun(k:Nat)=>[Wk.box b 133 [.int .u64 (numB (bs.take k) x0)]]) (fun(k:Nat)=>[GlF p bs]) (fun(k:Nat)=>k≤bs.length) (fun(k:Nat)=>bs.length - k) (0) ?_ S.uu ?_ ?_;exact Nat.zero_le _
 first | exact S | exact S.sub _ _
 clear S;rintro k uu a w hk S;refine J6 ?_;intro a S;refine kC S (fun h1=>?_) (fun h1=>?_);refine kK (xtn (kS (kB (kS ?_))));have hkl:k < bs.length:=by simp at h1;omega
 have hK:KLt k bs.length:=⟨hkl⟩;refine J11 ?_;intro a S;rw[u8_u64]at S;refine Y10 ?_;intro a w S;rw[w6 ((k:Int)+1)]at S;rw[←numB_snoc,←take_snocG hkl]at S;exact ⟨k+1,S.uu,hkl,S.sub _ _,by omega⟩;refine kE (xte (xte (xbe ?_)));have hk2:k=bs.length:=by simp at h1;omega
 subst hk2;rw[List.take_length]at S;have hh:=S.box b;refine end0 S (fun _=>hh)
structure RS where
 p:Option Addr
 c:Nat
 bs:List UInt8
 why:Int
abbrev cRS (r:RS):List Value:=[.slice r.p r.bs.length r.c,.int .i64 r.why]
def okR (r:RS)(k:Nat):Prop:=r.why=0∧k≤r.bs.length
instance (r:RS)(k:Nat):Decidable (okR r k):=by unfold okR;exact inferInstance
def takeR (r:RS)(k:Nat):RS:=if okR r k then ⟨if r.c=k then r.p else r.p.map (·.add (k*1)),r.c - k,r.bs.drop k,0⟩ else ⟨r.p,r.c,r.bs,if r.why=0 then 7 else r.why⟩
def tookR (r:RS)(k:Nat):List UInt8:=if okR r k then r.bs.take k else []
theorem takeR_yes {r:RS}{k:Nat}(h:okR r k):takeR r k=⟨if r.c=k then r.p else r.p.map (·.add (k*1)),r.c - k,r.bs.drop k,0⟩:=if_pos h
theorem takeR_no {r:RS}{k:Nat}(h:¬okR r k):takeR r k=⟨r.p,r.c,r.bs,if r.why=0 then 7 else r.why⟩:=if_neg h
theorem tookR_yes {r:RS}{k:Nat}(h:okR r k):tookR r k=r.bs.take k:=if_pos h
theorem tookR_no {r:RS}{k:Nat}(h:¬okR r k):tookR r k=[]:=if_neg h
theorem tookR_len (r:RS)(k:Nat):(tookR r k).length≤k∧(tookR r k).length≤r.bs.length:=by
 unfold tookR;split;rw[List.length_take];omega;simp
theorem takeR_len (r:RS)(k:Nat):(takeR r k).bs.length≤r.bs.length:=by
 unfold takeR;split;simp;simp
theorem takeR_cap {r:RS}{k:Nat}(h:r.bs.length≤r.c):(takeR r k).bs.length≤(takeR r k).c:=by
 unfold takeR;split;simp;omega;exact h
theorem takeR_gl {r:RS}{k:Nat}{M:Nat→Prop}{w:World}(hc:r.bs.length≤r.c)(h:Stable M w (GlF r.p r.bs)):Stable M w (GlF (takeR r k).p (takeR r k).bs):=by
 unfold takeR;split;exact h.imp fun _ h=>h.drop (sz:=1) k hc
 exact h
abbrev rdI (b:Nat)(r:RS):Wk.Item:=Wk.box b 193 [.slice r.p r.bs.length r.c,.int .i64 r.why]
theorem offW_c (b bx:Nat)(r:RS)(k:Nat)(x0:Int)(w0:World)(hk:k≤1000000000)(hc:r.bs.length≤r.c)(hl:r.bs.length≤10000000)(hb:(both (Wk.box bx 133 [.int .u64 x0]) (rdI b r)).holds w0)(hx:Stable (both (Wk.box bx 133 [.int .u64 x0]) (rdI b r)).foot w0 (GlF r.p r.bs)) :
  Ret Tryz.prog 160 [.pointer (some ⟨b,0,none⟩),.int .i64 (k:Int),.func (.func 161) #[] ⟨[.pointer (some ⟨bx,0,none⟩)]⟩] w0 (both (Wk.box bx 133 [.int .u64 x0]) (rdI b r)).foot fun _ w'=>
   (both (Wk.box bx 133 [.int .u64 (numB (tookR r k) x0)]) (rdI b (takeR r k))).holds w':=by
 refine E1 Tryz.func160 rfl Tryz.ntmps160 (Wd.it2Lent (x:=Wk.box bx 133 [.int .u64 x0]) (y:=rdI b r) (fs:=[GlF r.p r.bs]) hb rfl rfl (by simpa using hx)) ?_;intro a S;refine J11 ?_;intro a S;refine kC S (fun h3=>?_) (fun h3=>?_);refine kK (xbn ?_);have hw:¬r.why=0:=by simpa using h3
 have hno:¬okR r k:=fun h=>hw h.1
 have e1:takeR r k=r:=by rw[takeR_no hno,if_neg hw]
 have e2:numB (tookR r k) x0=x0:=by rw[tookR_no hno];rfl
 replace S:=S.toBoth;have hh:=S.it (both (Wk.box bx 133 [.int .u64 x0]) (rdI b r));refine end0 S (fun _=>by rw[e1,e2];exact hh);refine J4 ?_;intro a S;rw[show decide ((k:Int) < 0)=false from decide_eq_false (by omega)]at S;refine J16 ?_;intro a S;refine kC S (fun h6=>?_) (fun h6=>?_);refine Y7 ?_;intro a w S;have hw:r.why=0:=by simpa using h3
 have hno:¬okR r k:=fun h=>by have:=of_decide_eq_true h6;have:=h.2;omega
 have e1:takeR r k=⟨r.p,r.c,r.bs,7⟩:=by rw[takeR_no hno,if_pos hw]
 have e2:numB (tookR r k) x0=x0:=by rw[tookR_no hno];rfl
 replace S:=S.toBoth;have hh:=S.it (both (Wk.box bx 133 [.int .u64 x0]) (rdI b ⟨r.p,r.c,r.bs,7⟩));refine end0 S (fun _=>by rw[e1,e2];exact hh);refine kS ?_;have hL1:LeC k r.bs.length:=⟨by simp at h6;omega⟩;have hL2:LeC r.bs.length r.c:=⟨hc⟩;have hL3:LeC k r.c:=⟨by have:=hL1.le;omega⟩;refine J20 ?_;intro a S;refine Y7 ?_;intro a w S;have hok:okR r k:=⟨by simpa using h3,hL1.le⟩;refine sit (Wk.box bx 133 [.int .u64 x0]) S (weigh1_c bx (r.bs.take k) r.p k r.c x0 w (by rw[List.length_take];have:=hL1.le;omega) (by have:=hL1.le;omega) (S.box bx) (S.lend (Wk.box bx 133 [.int .u64 x0]) ((S.mem.fact (GlF r.p r.bs)).imp fun _ h=>h.take k))) rfl ?_;rintro _ a w hbx hS;have S:=hS (Wk.box bx 133 [.int .u64 (numB (r.bs.take k) x0)]) hbx (fun k h=>.inl h);clear hS;refine kN (xbn ?_);rw[←tookR_yes hok,show r.bs.length - k=(r.bs.drop k).length from (List.length_drop ..).symm,show r.why=0 from hok.1]at S;replace S:=S.toBoth;have hh:=S.it (both (Wk.box bx 133 [.int .u64 (numB (tookR r k) x0)]) (rdI b ⟨if r.c=k then r.p else r.p.map (·.add (k*1)),r.c - k,r.bs.drop k,0⟩));refine end0 S (fun _=>by rw[takeR_yes hok];exact hh)
theorem weighR_c (b:Nat)(r:RS)(k:Nat)(w0:World)(hk:k≤1000000000)(hc:r.bs.length≤r.c)(hl:r.bs.length≤10000000)(hb:(rdI b r).holds w0)(hx:Stable (fun k=>k=b) w0 (GlF r.p r.bs)) :
  Ret Tryz.prog 119 [.pointer (some ⟨b,0,none⟩),.int .i64 (k:Int)] w0 (fun k=>k=b) fun v w'=>v=.int .u64 (numB (tookR r k) 0)∧(rdI b (takeR r k)).holds w':=by
 refine E1 Tryz.func119 rfl Tryz.ntmps119 (Wd.itLent (x:=rdI b r) (fs:=[GlF r.p r.bs]) hb (by intro Φ hΦ;obtain rfl:=List.mem_singleton.1 hΦ;exact hx)) ?_;intro a S;refine kS (kR ?_);refine sa S ?_;intro b4 a w S;refine J19 ?_;intro a S;replace S:=S.toBoth;refine sit (both (Wk.box b4 133 [.int .u64 0]) (rdI b r)) S (offW_c b b4 r k 0 w hk hc hl (S.it (both (Wk.box b4 133 [.int .u64 0]) (rdI b r))) (S.lend (both (Wk.box b4 133 [.int .u64 0]) (rdI b r)) (S.mem.fact (GlF r.p r.bs)))) rfl ?_;rintro _ a w hbx hS;have S:=hS (both (Wk.box b4 133 [.int .u64 (numB (tookR r k) 0)]) (rdI b (takeR r k))) hbx (fun k h=>.inl h);clear hS;replace S:=S.ofBoth;refine Y9 ?_;intro a w S;have hh:=S.it (rdI b (takeR r k));refine end1 S (fun _=>?_);exact ⟨rfl,hh⟩
theorem raw1_c (bo:Nat)(bs:List UInt8)(p:Option Addr)(n c:Nat)(w0:World)(hn:bs.length=n)(hl:n≤10000000)(hb:(Wk.box bo 61 [.slice none 0 0]).holds w0)(hx:Stable (fun k=>k=bo) w0 (GlF p bs)) :
  Ret Tryz.prog 248 [.slice p n c,.pointer (some ⟨bo,0,none⟩)] w0 (fun k=>k=bo) fun _ w'=>∃ p' c',(both (Wk.box bo 61 [.slice p' n c']) (Wk.row 5 1 p' n c' (encL bs))).holds w'∧∀ k,(both (Wk.box bo 61 [.slice p' n c']) (Wk.row 5 1 p' n c' (encL bs))).foot k→k=bo∨w0.heap.size≤k:=by
 have hN:LenN bs n:=⟨hn⟩;refine E1 Tryz.func248 rfl Tryz.ntmps248 (Wd.itLent (x:=Wk.box bo 61 [.slice none 0 0]) (fs:=[GlF p bs]) hb (by intro Φ hΦ;obtain rfl:=List.mem_singleton.1 hΦ;exact hx)) ?_;intro a S;refine J3 ?_;intro a S;replace S:=S.addNil 5 1;refine sap S (by simp[maxLen];omega) (by omega) ?_;rintro p2 c2 a w - S;rw[qqF,Nat.zero_add]at S;refine Y2 ?_;intro a w S;replace S:=((S.front (Wk.row 5 1 p2 n c2 (encL bs))).front (Wk.box bo 61 [.slice p2 n c2])).toBoth;have h1:=S.it (both (Wk.box bo 61 [.slice p2 n c2]) (Wk.row 5 1 p2 n c2 (encL bs)));have h2:=S.itNew (both (Wk.box bo 61 [.slice p2 n c2]) (Wk.row 5 1 p2 n c2 (encL bs))) rfl;exact end0 S (fun _=>⟨p2,c2,h1,h2⟩)
abbrev outI (bo:Nat)(p:Option Addr)(c:Nat)(bs:List UInt8):Wk.Item:=both (Wk.box bo 61 [.slice p bs.length c]) (Wk.row 5 1 p bs.length c (encL bs))
theorem offR_c (b bo:Nat)(r:RS)(k:Nat)(w0:World)(hk:k≤10000000000)(hc:r.bs.length≤r.c)(hl:r.bs.length≤10000000)(hb:(both (Wk.box bo 61 [.slice none 0 0]) (rdI b r)).holds w0)(hx:Stable (both (Wk.box bo 61 [.slice none 0 0]) (rdI b r)).foot w0 (GlF r.p r.bs)) :
  Ret Tryz.prog 160 [.pointer (some ⟨b,0,none⟩),.int .i64 (k:Int),.func (.func 248) #[] ⟨[.pointer (some ⟨bo,0,none⟩)]⟩] w0 (both (Wk.box bo 61 [.slice none 0 0]) (rdI b r)).foot fun _ w'=>
   ∃ p' c',(both (outI bo p' c' (tookR r k)) (rdI b (takeR r k))).holds w'∧∀ j,(both (outI bo p' c' (tookR r k)) (rdI b (takeR r k))).foot j→(both (Wk.box bo 61 [.slice none 0 0]) (rdI b r)).foot j∨w0.heap.size≤j:=by
 refine E1 Tryz.func160 rfl Tryz.ntmps160 (Wd.it2Lent (x:=Wk.box bo 61 [.slice none 0 0]) (y:=rdI b r) (fs:=[GlF r.p r.bs]) hb rfl rfl (by simpa using hx)) ?_;intro a S;refine J11 ?_;intro a S;refine kC S (fun h3=>?_) (fun h3=>?_);refine kK (xbn ?_);have hw:¬r.why=0:=by simpa using h3
 have hno:¬okR r k:=fun h=>hw h.1
 have e1:takeR r k=r:=by rw[takeR_no hno,if_neg hw]
 have e2:tookR r k=[]:=tookR_no hno;replace S:=S.addNil 5 1;replace S:=(((S.front (rdI b r)).front (Wk.row 5 1 none 0 0 [])).front (Wk.box bo 61 [.slice none 0 0])).toBoth.toBoth;have h1:=S.it (both (both (Wk.box bo 61 [.slice none 0 0]) (Wk.row 5 1 none 0 0 [])) (rdI b r));have h2:=S.itNew (both (both (Wk.box bo 61 [.slice none 0 0]) (Wk.row 5 1 none 0 0 [])) (rdI b r)) rfl;refine end0 S (fun _=>?_);rw[e1,e2];exact ⟨none,0,h1,h2⟩;refine J4 ?_;intro a S;rw[show decide ((k:Int) < 0)=false from decide_eq_false (by omega)]at S;refine J16 ?_;intro a S;refine kC S (fun h6=>?_) (fun h6=>?_);refine Y7 ?_;intro a w S;have hw:r.why=0:=by simpa using h3
 have hno:¬okR r k:=fun h=>by have:=of_decide_eq_true h6;have:=h.2;omega
 have e1:takeR r k=⟨r.p,r.c,r.bs,7⟩:=by rw[takeR_no hno,if_pos hw]
 have e2:tookR r k=[]:=tookR_no hno;replace S:=S.addNil 5 1;rw[show Wk.box b 193 [.slice r.p r.bs.length r.c,.int .i64 7]=rdI b ⟨r.p,r.c,r.bs,7⟩ from rfl]at S;replace S:=(((S.front (rdI b ⟨r.p,r.c,r.bs,7⟩)).front (Wk.row 5 1 none 0 0 [])).front (Wk.box bo 61 [.slice none 0 0])).toBoth.toBoth;have h1:=S.it (both (both (Wk.box bo 61 [.slice none 0 0]) (Wk.row 5 1 none 0 0 [])) (rdI b ⟨r.p,r.c,r.bs,7⟩));have h2:=S.itNew (both (both (Wk.box bo 61 [.slice none 0 0]) (Wk.row 5 1 none 0 0 [])) (rdI b ⟨r.p,r.c,r.bs,7⟩)) rfl;refine end0 S (fun _=>?_);rw[e1,e2];exact ⟨none,0,h1,h2⟩;refine kS ?_;have hL1:LeC k r.bs.length:=⟨by simp at h6;omega⟩;have hL2:LeC r.bs.length r.c:=⟨hc⟩;have hL3:LeC k r.c:=⟨by have:=hL1.le;omega⟩;refine J20 ?_;intro a S;refine Y7 ?_;intro a w S;have hok:okR r k:=⟨by simpa using h3,hL1.le⟩;have hkl:(r.bs.take k).length=k:=by rw[List.length_take];have:=hL1.le;omega
 refine sit (Wk.box bo 61 [.slice none 0 0]) S (raw1_c bo (r.bs.take k) r.p k r.c w hkl (by have:=hL1.le;omega) (S.box bo) (S.lend (Wk.box bo 61 [.slice none 0 0]) ((S.mem.fact (GlF r.p r.bs)).imp fun _ h=>h.take k))) rfl ?_;rintro _ a w ⟨p2,c2,hbx,hf2⟩ hS;have S:=hS (both (Wk.box bo 61 [.slice p2 k c2]) (Wk.row 5 1 p2 k c2 (encL (r.bs.take k)))) hbx hf2;clear hS;refine kN (xbn ?_);have e1:tookR r k=r.bs.take k:=tookR_yes hok;rw[show r.bs.length - k=(r.bs.drop k).length from (List.length_drop ..).symm,show r.why=0 from hok.1]at S;rw[show Wk.box b 193 [.slice (if r.c=k then r.p else r.p.map (·.add (k*1))) (r.bs.drop k).length (r.c - k),.int .i64 0]=rdI b (takeR r k) from by rw[takeR_yes hok]]at S;replace S:=((S.front (rdI b (takeR r k))).front (both (Wk.box bo 61 [.slice p2 k c2]) (Wk.row 5 1 p2 k c2 (encL (r.bs.take k))))).toBoth;have h1:=S.it (both (both (Wk.box bo 61 [.slice p2 k c2]) (Wk.row 5 1 p2 k c2 (encL (r.bs.take k)))) (rdI b (takeR r k)));have h2:=S.itNew (both (both (Wk.box bo 61 [.slice p2 k c2]) (Wk.row 5 1 p2 k c2 (encL (r.bs.take k)))) (rdI b (takeR r k))) rfl;have e3:outI bo p2 c2 (tookR r k)=both (Wk.box bo 61 [.slice p2 k c2]) (Wk.row 5 1 p2 k c2 (encL (r.bs.take k))):=by rw[e1,outI,hkl]
 refine end0 S (fun _=>⟨p2,c2,?_,?_⟩);rw[e3];exact h1;rw[e3];exact h2
theorem rawR_c (b:Nat)(r:RS)(k:Nat)(w0:World)(hk:k≤10000000000)(hc:r.bs.length≤r.c)(hl:r.bs.length≤10000000)(hb:(rdI b r).holds w0)(hx:Stable (fun k=>k=b) w0 (GlF r.p r.bs)) :
  Ret Tryz.prog 242 [.pointer (some ⟨b,0,none⟩),.int .i64 (k:Int)] w0 (fun k=>k=b) fun v w'=>∃ p' c',v=.slice p' (tookR r k).length c'∧(both (Wk.row 5 1 p' (tookR r k).length c' (encL (tookR r k))) (rdI b (takeR r k))).holds w'∧∀ j,(both (Wk.row 5 1 p' (tookR r k).length c' (encL (tookR r k))) (rdI b (takeR r k))).foot j→j=b∨w0.heap.size≤j:=by
 refine E1 Tryz.func242 rfl Tryz.ntmps242 (Wd.itLent (x:=rdI b r) (fs:=[GlF r.p r.bs]) hb (by intro Φ hΦ;obtain rfl:=List.mem_singleton.1 hΦ;exact hx)) ?_;intro a S;refine kS (kR ?_);refine sa S ?_;intro b4 a w S;refine J16 ?_;intro a S;replace S:=S.toBoth;refine sit (both (Wk.box b4 61 [.slice none 0 0]) (rdI b r)) S (offR_c b b4 r k w hk hc hl (S.it (both (Wk.box b4 61 [.slice none 0 0]) (rdI b r))) (S.lend (both (Wk.box b4 61 [.slice none 0 0]) (rdI b r)) (S.mem.fact (GlF r.p r.bs)))) rfl ?_;rintro _ a w ⟨p2,c2,hbx,hf2⟩ hS;have S:=hS (both (outI b4 p2 c2 (tookR r k)) (rdI b (takeR r k))) hbx hf2;clear hS;replace S:=S.ofBoth.ofBoth;refine Y9 ?_;intro a w S;replace S:=((S.front (rdI b (takeR r k))).front (Wk.row 5 1 p2 (tookR r k).length c2 (encL (tookR r k)))).toBoth;have h1:=S.it (both (Wk.row 5 1 p2 (tookR r k).length c2 (encL (tookR r k))) (rdI b (takeR r k)));have h2:=S.itNew (both (Wk.row 5 1 p2 (tookR r k).length c2 (encL (tookR r k))) (rdI b (takeR r k))) rfl;exact end1 S (fun _=>⟨p2,c2,rfl,h1,h2⟩)
def numN (bs:List UInt8)(x:Nat):Nat:=bs.foldl (fun x c=>256*x+c.toNat) x
theorem numN_cons (c:UInt8)(bs:List UInt8)(x:Nat):numN (c::bs) x=numN bs (256*x+c.toNat):=rfl
theorem numN_lt (bs:List UInt8):∀ x:Nat,numN bs x < (x+1)*256 ^ bs.length:=by
 induction bs with
 | nil=>intro x;simp[numN]
 | cons c bs ih=>
  intro x;rw[numN_cons];have h1:=ih (256*x+c.toNat);have h2:=c.toNat_lt;have h3:(256*x+c.toNat+1)*256 ^ bs.length≤(256*(x+1))*256 ^ bs.length:=Nat.mul_le_mul_right _ (by omega);have h4:(256*(x+1))*256 ^ bs.length=(x+1)*256 ^ (c::bs).length:=by
   rw[qqA,Nat.pow_succ,Nat.mul_comm 256 (x+1),Nat.mul_assoc,Nat.mul_comm 256]
  omega
theorem numB_nat (bs:List UInt8):∀ x:Nat,(x+1)*256 ^ bs.length≤18446744073709551616→numB bs (x:Int)=(numN bs x:Int):=by
 induction bs with
 | nil=>intro x _;rfl
 | cons c bs ih=>
  intro x hx;have h2:=c.toNat_lt;have h5:1≤256 ^ bs.length:=Nat.one_le_pow _ _ (by decide);have h4:(256*(x+1))*256 ^ bs.length=(x+1)*256 ^ (c::bs).length:=by
   rw[qqA,Nat.pow_succ,Nat.mul_comm 256 (x+1),Nat.mul_assoc,Nat.mul_comm 256]
  have h6:256*(x+1)≤18446744073709551616:=by
   have:=Nat.mul_le_mul_left (256*(x+1)) h5;omega
  have h3:(256*x+c.toNat+1)*256 ^ bs.length≤(256*(x+1))*256 ^ bs.length:=Nat.mul_le_mul_right _ (by omega);rw[numN_cons,←ih _ (by omega)]
  show numB bs (IntKind.u64.wrap (IntKind.u64.wrap (256*(x:Int))+(c.toNat:Int)))=_
  rw[wu64 (256*(x:Int)) (by omega) (by omega),wu64 _ (by omega) (by omega)]
  norm_cast
theorem took_num (r:RS)(k:Nat)(hk:k≤7):numB (tookR r k) 0=(numN (tookR r k) 0:Int)∧numN (tookR r k) 0 < 256 ^ k:=by
 have h1:=(tookR_len r k).1;have h2:256 ^ (tookR r k).length≤256 ^ k:=Nat.pow_le_pow_right (by decide) h1;have h3:256 ^ k≤256 ^ 7:=Nat.pow_le_pow_right (by decide) hk;have h4:(256:Nat) ^ 7≤18446744073709551616:=by decide
 have h5:=numN_lt (tookR r k) 0;exact ⟨numB_nat _ 0 (by omega),by omega⟩
theorem u8R_c (b:Nat)(r:RS)(w0:World)(hc:r.bs.length≤r.c)(hl:r.bs.length≤10000000)(hb:(rdI b r).holds w0)(hx:Stable (fun k=>k=b) w0 (GlF r.p r.bs)) :
  Ret Tryz.prog 74 [.pointer (some ⟨b,0,none⟩)] w0 (fun k=>k=b) fun v w'=>v=.int .u8 (numN (tookR r 1) 0:Nat)∧(rdI b (takeR r 1)).holds w':=by
 have hn:=took_num r 1 (by decide);refine E1 Tryz.func74 rfl Tryz.ntmps74 (Wd.itLent (x:=rdI b r) (fs:=[GlF r.p r.bs]) hb (by intro Φ hΦ;obtain rfl:=List.mem_singleton.1 hΦ;exact hx)) ?_;intro a S;refine J8 ?_;intro a S;refine sit (rdI b r) S (weighR_c b r 1 _ (by decide) hc hl (S.it (rdI b r)) (S.lend (rdI b r) (S.mem.fact (GlF r.p r.bs)))) rfl ?_;rintro _ a w ⟨rfl,hh⟩ hS;have S:=hS (rdI b (takeR r 1)) hh (fun k h=>.inl h);clear hS;rw[hn.1]at S;refine J1 ?_;intro a S;rw[show IntKind.u8.wrap ((numN (tookR r 1) 0:Nat):Int)=((numN (tookR r 1) 0:Nat):Int) from by
  unfold IntKind.wrap;simp only[IntKind.bits,IntKind.signed,Bool.false_and];simp;omega]at S
 refine J4 ?_;intro a S;have hh:=S.it (rdI b (takeR r 1));exact end1 S (fun _=>⟨rfl,hh⟩)
theorem u16R_c (b:Nat)(r:RS)(w0:World)(hc:r.bs.length≤r.c)(hl:r.bs.length≤10000000)(hb:(rdI b r).holds w0)(hx:Stable (fun k=>k=b) w0 (GlF r.p r.bs)) :
  Ret Tryz.prog 75 [.pointer (some ⟨b,0,none⟩)] w0 (fun k=>k=b) fun v w'=>v=.int .u16 (numN (tookR r 2) 0:Nat)∧(rdI b (takeR r 2)).holds w':=by
 have hn:=took_num r 2 (by decide);refine E1 Tryz.func75 rfl Tryz.ntmps75 (Wd.itLent (x:=rdI b r) (fs:=[GlF r.p r.bs]) hb (by intro Φ hΦ;obtain rfl:=List.mem_singleton.1 hΦ;exact hx)) ?_;intro a S;refine J8 ?_;intro a S;refine sit (rdI b r) S (weighR_c b r 2 _ (by decide) hc hl (S.it (rdI b r)) (S.lend (rdI b r) (S.mem.fact (GlF r.p r.bs)))) rfl ?_;rintro _ a w ⟨rfl,hh⟩ hS;have S:=hS (rdI b (takeR r 2)) hh (fun k h=>.inl h);clear hS;rw[hn.1]at S;refine J1 ?_;intro a S;rw[show IntKind.u16.wrap ((numN (tookR r 2) 0:Nat):Int)=((numN (tookR r 2) 0:Nat):Int) from by
  unfold IntKind.wrap;simp only[IntKind.bits,IntKind.signed,Bool.false_and];simp;omega]at S
 refine J4 ?_;intro a S;have hh:=S.it (rdI b (takeR r 2));exact end1 S (fun _=>⟨rfl,hh⟩)
theorem errR_c (b:Nat)(r:RS)(w0:World)(hb:Fx w0 (BoxF b 193 (cRS r))):Ret Tryz.prog 247 [.pointer (some ⟨b,0,none⟩)] w0 (fun _=>False) fun v _=>v=.int .i64 r.why:=by
 refine E1 Tryz.func247 rfl Tryz.ntmps247 (Wd.begin (fs:=[BoxF b 193 (cRS r)]) (by simpa using hb)) ?_;intro a S;refine J20 ?_;intro a S;refine J6 ?_;intro a S;exact end1 S (fun _=>rfl)
theorem readR_c (bs:List UInt8)(p:Option Addr)(n c:Nat)(w0:World)(hn:bs.length=n)(hl:n≤10000000)(hx:Fx w0 (GlF p bs)) :
  Ret Tryz.prog 73 [.slice p n c] w0 (fun _=>False) fun v w'=>∃ b p' c',v=.pointer (some ⟨b,0,none⟩)∧(both (rdI b ⟨p',c',bs,0⟩) (Wk.row 5 1 p' bs.length c' (encL bs))).holds w'∧∀ k,(both (rdI b ⟨p',c',bs,0⟩) (Wk.row 5 1 p' bs.length c' (encL bs))).foot k→w0.heap.size≤k:=by
 subst hn;refine E1 Tryz.func73 rfl Tryz.ntmps73 (Wd.begin (fs:=[GlF p bs]) (by simpa using hx)) ?_;intro a S;refine J8 ?_;intro a S;replace S:=S.addNil 5 1;refine sap S (by simp[maxLen];omega) (by omega) ?_;rintro p2 c2 a w - S;rw[qqF,Nat.zero_add]at S;refine J2 ?_;intro a S;refine sa S ?_;intro b7 a w S;refine J4 ?_;intro a S;replace S:=((S.front (Wk.row 5 1 p2 bs.length c2 (encL bs))).front (rdI b7 ⟨p2,c2,bs,0⟩)).toBoth;have h1:=S.it (both (rdI b7 ⟨p2,c2,bs,0⟩) (Wk.row 5 1 p2 bs.length c2 (encL bs)));have h2:=S.itNew (both (rdI b7 ⟨p2,c2,bs,0⟩) (Wk.row 5 1 p2 bs.length c2 (encL bs))) rfl;exact end1 S (fun _=>⟨b7,p2,c2,rfl,h1,fun k hk=>(h2 k hk).elim (fun h=>h.elim) id⟩)
abbrev DecE (α:Type):=Except Int α
def textD (k:Int)(bs:List UInt8):DecE (List UInt8 × List UInt8):=
 if hasF (fieldsOf k) 1 then
  match bs with
  | []=>.error 7
  | n::bs=>if 64 < n.toNat then .error 150 else if bs.length < n.toNat then .error 7 else .ok (bs.take n.toNat,bs.drop n.toNat)
 else .ok ([],bs)
def userD (k:Int)(bs:List UInt8):DecE (Int × List UInt8):=
 if hasF (fieldsOf k) 2 then
  match bs with
  | []=>.error 7
  | u::bs=>if 1≤u.toNat∧u.toNat≤6 then .ok ((u.toNat:Int),bs) else .error 150
 else .ok (0,bs)
def numD (k:Int)(bs:List UInt8):DecE (Int × List UInt8):=
 if hasF (fieldsOf k) 4 then (if bs.length < 2 then .error 7 else .ok ((numN (bs.take 2) 0:Int),bs.drop 2)) else .ok (0,bs)
def kidsD (f:Nat→List UInt8→DecE (Term × Nat × List UInt8)):Nat→Nat→List UInt8→DecE (List Term × Nat × List UInt8)
 | 0,left,bs=>.ok ([],left,bs)
 | k+1,left,bs=>match f left bs with
  | .error e=>.error e
  | .ok (t,left,bs)=>match kidsD f k left bs with
   | .error e=>.error e
   | .ok (ts,left,bs)=>.ok (t::ts,left,bs)
def kidsN (k:Int):Nat:=(kidsF (fieldsOf k)).toNat
def decT:Nat→Nat→List UInt8→DecE (Term × Nat × List UInt8)
 | _,_,[]=>.error 7
 | 0,_,_::_=>.error 150
 | m+1,left,c::bs=>
  if fieldsOf (c.toNat:Int)=0∨left=0 then .error 150 else
  match textD (c.toNat:Int) bs with
  | .error e=>.error e
  | .ok (s,bs)=>match userD (c.toNat:Int) bs with
   | .error e=>.error e
   | .ok (u,bs)=>match numD (c.toNat:Int) bs with
    | .error e=>.error e
    | .ok (n,bs)=>match kidsD (decT m) (kidsN (c.toNat:Int)) (left - 1) bs with
     | .error e=>.error e
     | .ok (ks,left,bs)=>.ok (.mk (c.toNat:Int) u n s ks,left,bs)
def decB (f:Nat→List UInt8→DecE (Term × Nat × List UInt8))(left:Nat)(k:Int)(bs:List UInt8):DecE (Term × Nat × List UInt8):=
 match textD k bs with
 | .error e=>.error e
 | .ok (s,bs)=>match userD k bs with
  | .error e=>.error e
  | .ok (u,bs)=>match numD k bs with
   | .error e=>.error e
   | .ok (n,bs)=>match kidsD f (kidsN k) (left - 1) bs with
    | .error e=>.error e
    | .ok (ks,left,bs)=>.ok (.mk k u n s ks,left,bs)
theorem decT_nil (m left:Nat):decT m left []=.error 7:=by cases m <;> rfl
theorem decT_cons (m left:Nat)(c:UInt8)(bs:List UInt8):decT m left (c::bs)=if m=0∨fieldsOf (c.toNat:Int)=0∨left=0 then .error 150 else decB (decT (m - 1)) left (c.toNat:Int) bs:=by
 cases m with
 | zero=>rw[if_pos (.inl rfl)];rfl
 | succ m=>
  rw[decT]
  by_cases h:fieldsOf (c.toNat:Int)=0∨left=0
  rw[if_pos h,if_pos (.inr h)];rw[if_neg h,if_neg (fun h2=>h2.elim (fun h=>by cases h) h)];rfl
end Go.Proofs.YtlgnhhebeandkaaGreatDoor
namespace Go.Wk
open Go
section
variable {P:Program}{r:Option Nat}{ops:Array Oper}{Q:Exit→Act→World→Prop}{w0:World}{M0:Nat→Prop}{ds:List Deferred}{a:Act}{w:World}{l:List Value}{bs:List Item}{fs:List (World→Prop)}
 {d:Option Nat} {ty t tx e:TypeId} {pos:String} {af:Array Edge} {rest:List Oper} {x y:Operand} {by_ c sz m:Nat} {z:Value}
end
class EqG (P:Program)(t:TypeId):Prop where eq:P.eqGuardType P.depth t=false
section
variable {P:Program}{r:Option Nat}{ops:Array Oper}{Q:Exit→Act→World→Prop}{w0:World}{M0:Nat→Prop}{ds:List Deferred}{a:Act}{w:World}{l:List Value}{bs bs':List Item}{fs:List (World→Prop)}
 {d:Option Nat} {ty:TypeId} {pos:String} {af:Array Edge} {rest:List Oper} {f:Nat} {x:Operand} {ts:Array TypeId} {e:Exit}
variable {fn:Func}{R:Value→World→Prop}
end
section
variable {P:Program}{ops:Array Oper}{md:Region.Mode}{C:World→Prop}
variable {R:Act→World→Prop}
variable {r:Option Nat}{Q:Exit→Act→World→Prop}{w0:World}{M0:Nat→Prop}{ds:List Deferred}{a:Act}{w:World}{l l':List Value}{bs bs' bs0:List Item}{fs fs0:List (World→Prop)}
 {d:Option Nat} {op:Op} {ty:TypeId} {pos:String} {af:Array Edge} {rest:List Oper} {v v' G:Value} {j g:Nat} {pol:Bool} {cs:List Bool} {n:Nat} {listed:Array Bool}
def feeds (ops:Array Oper)(last i:Nat):Bool:=(!Nat.beq i last)&&(match ops[last]? with | some o=>o.after.toList.any fun e=>Region.binds .any e&&Nat.beq e.on i | none=>false)
theorem feeds_spec {ops:Array Oper}{last i:Nat}(h:feeds ops last i=true):i≠last∧∀ o,ops[last]? = some o→∃ e∈o.after,Region.binds .any e=true∧e.on=i:=by
 simp only[feeds,Bool.and_eq_true,Bool.not_eq_true']at h;refine ⟨fun e=>(by rw[e,Nat.beq_refl]at h;cases h.1),fun o ho=>?_⟩;rw[ho]at h;obtain ⟨e,he,h2⟩:=List.any_eq_true.1 h.2;simp only[Bool.and_eq_true]at h2;exact ⟨e,by simpa using he,h2.1,Nat.eq_of_beq_eq_true h2.2⟩
def flowFromL (last:Nat)(ops:Array Oper):List (Nat × Bool)→Array Bool→Bool
 | [],listed=>(Region.ready .any ops listed).isEmpty
 | (i,true)::ord,listed=>(((Region.ready .any ops listed).contains i&&Region.free .any ops listed i)&&feeds ops last i)&&flowFromL last ops ord (listed.setIfInBounds i true)
 | (i,false)::ord,listed=>(match Region.ready .any ops listed with | [j]=>Nat.beq j i | _=>false)&&flowFromL last ops ord (listed.setIfInBounds i true)
variable {ord:List (Nat × Bool)}{i last:Nat}
end
open Go Go.Deep Go.ChangeShapes Go.WideShapes Go.ChangeAt Go.RowKit
class TroZ (P:Program)(T:TypeId)(α:Type)[Lay α](Z:outParam (α→Prop)):Prop where
 of:∀ {H:Type} (enc:TypeId × Value→H) (w:World) (base:Nat) (spare:Nat→Bool) (held:Bool) (fuel:Nat) (cs:List Value) (x:DataW H × List MemPlace),DataW.trod enc P w base spare held fuel T cs=some x→∃ a:α,cs=Enc.cells a∧Lay.inn w a∧((∀ n∈x.1.weights P T,n≤reachBytes)→Z a)
 size:P.cellsOf T=Enc.sz α
def kvI (x:Int × Value):Value × Value:=(.int .i64 x.1,x.2)
def mpin (b r:Nat)(kv done:List (Int × Value)):Item where
 foot:=fun k=>k=b∨k=r
 holds:=fun w=>∃ (es:Array MapEntry) (clock:Nat) (ds:List MapEntry),w.heap[b]? = some (.map es clock)∧es.toList.map enKV=kv.map kvI∧(∀ e∈es.toList,e.born < clock)∧(es.toList.map (·.born)).Nodup∧
  w.heap[r]? = some (.mapIter (some b) clock (ds.map (·.born)).toArray clock)∧(∀ e∈ds,e∈es.toList)∧(ds.map (·.born)).Nodup∧ds.map enKV=done.map kvI
class HasMpin (bs:List Item)(r:Nat)(b:outParam Nat)(kv done:outParam (List (Int × Value))):Prop where mem:mpin b r kv done∈bs
class HasMpinnB (bs:List Item)(b:Nat)(kv:outParam (List (Int × Value))):Prop where mem:∃ r done,mpin b r kv done∈bs
section
variable {P:Program}{r0:Option Nat}{ops:Array Oper}{Q:Exit→Act→World→Prop}{w0:World}{M0:Nat→Prop}{ds:List Deferred}{a:Act}{w:World}{l:List Value}{bs:List Item}{fs:List (World→Prop)}
 {d:Option Nat} {op:Op} {ty:TypeId} {pos:String} {af:Array Edge} {rest:List Oper} {t kt et:TypeId} {x:Operand} {b:Nat} {kv:List (Int × Value)}
end
section
variable {P:Program}{ops:Array Oper}{C:World→Prop}{X:XP}
def ACXL (last:Nat)(P:Program)(ops:Array Oper)(X:XP)(C:World→Prop)(R:Act→World→Prop):Nat→Array Bool→Act→World→Prop
 | 0,listed,a,w=>Region.ready .any ops listed=[]∧R a w
 | fuel+1,listed,a,w=>
  (Region.ready .any ops listed=[]→R a w)∧
  ∀ i∈Region.ready .any ops listed,WNX P ops X i (fun a' w'=>(i≠last→C w')∧ACXL last P ops X C R fuel (listed.setIfInBounds i true) a' w') a w
variable {R:Act→World→Prop}
theorem acxl_first {last i:Nat}{oi:Oper}{v:Value}(hi:ops[i]? = some oi)(hoff:X.off oi)(hsel:∀ (j:Nat) (o:Oper) cs b,ops[j]? = some o→o.op≠.select cs b) :
  (i≠last∧∀ o,ops[last]? = some o→∃ e∈o.after,Region.binds .any e=true∧e.on=i)→∀ (fuel:Nat) (listed:Array Bool) (a:Act) (w:World),
   (∀ j oj,ops[j]? = some oj→j≠i→listed.getD j true=false→(∀ e∈oj.after,Region.binds .any e=true→e.on≠i)→oi.apart ops oj=true)→
   i∈Region.ready .any ops listed→YieldsC P ops C oi v a→C w→
   ACXL last P ops X C R fuel (listed.setIfInBounds i true) (a.put oi.dst v) w→ACXL last P ops X C R (fuel+1) listed a w:=by
 intro hlast fuel
 induction fuel with
 | zero=>
  intro listed a w _ hr hy hS H;refine ⟨fun h=>(by rw[h]at hr;cases hr),fun j hj=>?_⟩
  by_cases hji:j=i
  ·subst hji;exact hy.wnx hi hS ⟨fun _=>hS,H⟩
  ·have:=ready_mono hj hji
   rw[H.1]at this;cases this
 | succ fuel ih=>
  intro listed a w hfree hr hy hS H;refine ⟨fun h=>(by rw[h]at hr;cases hr),fun j hj=>?_⟩
  by_cases hji:j=i
  ·subst hji;exact hy.wnx hi hS ⟨fun _=>hS,H⟩
  ·have h1:=H.2 j (ready_mono hj hji)
   obtain ⟨hjun,oj,hoj,hall⟩:=mem_ready.1 hj;have hnot:∀ e∈oj.after,Region.binds .any e=true→e.on≠i:=fun e he hb heq=>by
    have h1:=hall e he hb;have h0:=(mem_ready.1 hr).1;rw[heq]at h1;rcases Nat.lt_or_ge i listed.size with h' | h'
    ·simp[h']at h0 h1;rw[h0]at h1;cases h1
    ·simp[Array.getElem?_eq_none h']at h1
   have hjl:j≠last:=fun e=>by
    obtain ⟨e',he',hb',ho'⟩:=hlast.2 oj (e▸hoj);exact hnot e' he' hb' ho'
   have h2:=wnx_put hoj (hfree j oj hoj hji hjun hnot) hoff (fun cs b=>hsel i oi cs b hi) (fun cs b=>hsel j oj cs b hoj) hy h1;have hfree':∀ k ok,ops[k]? = some ok→k≠i→(listed.setIfInBounds j true).getD k true=false→
     (∀ e∈ok.after,Region.binds .any e=true→e.on≠i)→oi.apart ops ok=true:=fun k ok hk hki hun hno=>by
    refine hfree k ok hk hki ?_ hno
    by_cases hjk:j=k
    ·subst hjk;exact hjun
    ·rw[getD_set_ne true hjk]at hun;exact hun
   refine wpOpIn_mono (fun a' w' h3=>⟨h3.2.1,ih (listed.setIfInBounds j true) a' w' hfree' (ready_mono hr (Ne.symm hji)) h3.1 (h3.2.1 hjl) ?_⟩) h2;rw[Array.setIfInBounds_comm _ _ hji];exact h3.2.2
variable {r:Option Nat}{Q:Exit→Act→World→Prop}{w0:World}{M0:Nat→Prop}{ds:List Deferred}{a:Act}{w:World}{l l':List Value}{bs bs' bs0:List Item}{fs fs0:List (World→Prop)}
 {d:Option Nat} {op:Op} {ty:TypeId} {pos:String} {af:Array Edge} {rest:List Oper} {v v' G:Value} {j g:Nat} {pol:Bool} {cs:List Bool} {n last:Nat} {listed:Array Bool}
def AQXL (last:Nat)(P:Program)(ops:Array Oper)(X:XP)(C:World→Prop)(R:Act→World→Prop)(ord:List (Nat × Bool))(a:Act)(w:World):Prop:=
 ∀ listed,Region.noSelect ops=true→X.offB ops=true→flowFromL last ops ord listed=true→ACXL last P ops X C R ord.length listed a w
variable {ord:List (Nat × Bool)}{i:Nat}
theorem dqXL (S:St w0 M0 ds a w l bs fs)[hb:SubL bs0 bs][hf:SubL fs0 fs][ho:OpAt ops i ⟨d,op,ty,pos,af,none⟩][hq:OpQ P op ty ⟨[],l⟩ bs0 fs0 v][hp:PutO l d v l']
  (K:∀ a,St w0 M0 ds a w l' bs fs→AQXL last P ops X (fun w=>Wd w0 M0 w bs0 fs0) R ord a w) :
  AQXL last P ops X (fun w=>Wd w0 M0 w bs0 fs0) R ((i,true)::ord) a w:=by
 intro listed hs hx hflow;simp only[flowFromL,Bool.and_eq_true]at hflow;refine acxl_first ho.eq (XP.offB_spec hx ho.eq) (Region.noSelect_spec hs) (feeds_spec hflow.1.2) _ listed a w (Region.free_spec ho.eq hflow.1.1.2) (by simpa using hflow.1.1.1) (v:=v) (.inl ⟨rfl,fun w' hw'=>?_⟩) (S.wd.sub hb.sub hf.sub) (K _ S.put _ hs hx hflow.2);rw[execOp_eq];exact hq.run a.eval w' S.fr hw'.mem
theorem dlXL {o:Oper}{C:World→Prop}[ho:OpAt ops i o](h:WL P none ops (fun e a' w'=>(e=.normal∧(i≠last→C w')∧AQXL last P ops X C R ord a' w')∨X.at e a' w') [o] a w):AQXL last P ops X C R ((i,false)::ord) a w:=by
 intro listed hs hx hflow;simp only[flowFromL,Bool.and_eq_true]at hflow;have hr:Region.ready .any ops listed=[i]:=by
  have:=hflow.1;split at this
  ·rename_i k hk;rw[hk,Nat.eq_of_beq_eq_true this]
  ·cases this
 refine ⟨fun h0=>(by rw[h0]at hr;cases hr),fun k hk=>?_⟩;rw[hr]at hk;obtain rfl:k=i:=by simpa using hk
 have nor:∀ {p:Prop} {a':Act} {w':World},((p∧(k≠last→C w')∧AQXL last P ops X C R ord a' w')∨X.at .normal a' w')→(k≠last→C w')∧ACXL last P ops X C R ord.length (listed.setIfInBounds k true) a' w':=by
  rintro p a' w' (⟨-,h1,h2⟩ | h)
  ·exact ⟨h1,h2 _ hs hx hflow.2⟩
  ·exact h.elim
 have pan:∀ {c:List PanicEntry} {a':Act} {w':World},((Exit.panic c=Exit.normal∧(k≠last→C w')∧AQXL last P ops X C R ord a' w')∨X.at (.panic c) a' w')→X.at (.panic c) a' w':=by
  rintro c a' w' (⟨h,-⟩ | h)
  ·cases h
  ·exact h
 unfold WNX wpOpIn;simp only[ho.eq];simp only[WL,wpListIn]at h;split
 ·rename_i hw
  rw[if_pos hw]at h;refine ⟨fun _ _=>trivial,?_⟩;have h:=h.2
  generalize (o.semAt (FW none).round a.eval).run P w=q at *
  cases q with
  | ok x w'=>
   cases x <;> simp only[Oper.uponIn]at h⊢
   case value u=>exact nor h
   case skip=>exact nor h
   case defer d=>exact nor h
   case enter f args=>
    refine ⟨h.1,CallsIn.mono h.2 fun e w'' he=>?_⟩;cases e with
    | returned u=>simp only[true_and]at he;exact nor (p:=True) (by simpa using he)
    | panicked c=>exact pan he
    | outgrown=>obtain ⟨_,_,he⟩:=he;rcases he with ⟨he,_⟩ | he <;> first | cases he | exact he.elim
   case row row args=>exact ⟨h.1,RowsIn.mono h.2 fun u w'' he=>nor he⟩
   case round l f tmps assign body=>
    refine ⟨h.1,RoundIn.mono h.2 fun e w'' he=>?_⟩;cases e with
    | returned u=>simp only[true_and]at he;exact nor (p:=True) (by simpa using he)
    | panicked c=>exact pan he
    | outgrown=>obtain ⟨_,_,he⟩:=he;rcases he with ⟨he,_⟩ | he <;> first | cases he | exact he.elim
  | halt x w'=>
   cases x <;> simp only[Oper.uponIn]at h⊢
   case panic u=>exact pan h
 ·rename_i hw
  rw[if_neg hw]at h;exact ⟨fun _ _=>trivial,nor h.2⟩
theorem deXL [hb:SubL bs0 bs][hf:SubL fs0 fs](S:St w0 M0 ds a w l bs fs)(h:AQXL last P ops X (fun w=>Wd w0 M0 w bs0 fs0) R ord a w):WL P none ops (fun e a' w'=>(e=.normal∧(i≠last→Wd w0 M0 w' bs0 fs0)∧AQXL last P ops X (fun w=>Wd w0 M0 w bs0 fs0) R ord a' w')∨X.at e a' w') [] a w:=
 kN (.inl ⟨rfl,fun _=>S.wd.sub hb.sub hf.sub,h⟩)
theorem dzXL {C:World→Prop}(h:R a w)(hr:∀ listed,Region.noSelect ops=true→flowFromL last ops [] listed=true→Region.ready .any ops listed=[]:=by intro listed _ h;simpa [flowFromL] using h):WL P none ops (fun e a' w'=>(e=.normal∧(last≠last→C w')∧AQXL last P ops X C R [] a' w')∨X.at e a' w') [] a w:=
 kN (.inl ⟨rfl,fun h=>absurd rfl h,fun listed hs _ hf=>⟨hr listed hs hf,h⟩⟩)
theorem any_of_acxl (hQ:∀ ch a w,X.at (.panic ch) a w→Q (.panic ch) a w)(hd:∀ (i:Nat) o,ops[i]? = some o→isDefer o.op=false):∀ (fuel:Nat) (listed:Array Bool) (a:Act) (w:World),ACXL last P ops X C (fun a w=>Q .normal a w) fuel listed a w→wpAnyIn (FW r) 0 P .any ops Q fuel listed a w
 | 0,_,_,_,h=>h
 | fuel+1,_,_,_,h=>⟨h.1,fun i hi=>wnx_round hQ hd (wpOpIn_mono (fun a' w' h'=>any_of_acxl hQ hd fuel _ a' w' h'.2) (h.2 i hi))⟩
theorem c_drawXL {id:Nat}{lo:List Oper}(last:Nat)(ord:List (Nat × Bool))(bs0:List Item)(X:XP)(S:St w0 M0 ds a w l bs fs)(hQ:∀ ch a w,X.at (.panic ch) a w→Q (.panic ch) a w)
  (h:∀ w,St w0 M0 ds a w l bs fs→AQXL last P lo.toArray X (fun w=>Wd w0 M0 w bs0 fs) (fun a w=>Q .normal a w) ord a w)
  (hm:P.follows .mixedOrders=true:=by kernel_rfl) (hx:X.offB lo.toArray=true:=by kernel_rfl) (hd:((lo.all fun o=>!isDefer o.op)&&(Nat.beq ord.length lo.length&&(Region.noSelect lo.toArray&&flowFromL last lo.toArray ord (Array.replicate lo.length false))))=true:=by kernel_rfl):Wp P r (.region id lo.toArray true) Q a w:=by
 simp only[Bool.and_eq_true]at hd;refine wpIn_region_any hm (any_of_acxl (last:=last) (C:=fun w=>Wd w0 M0 w bs0 fs) hQ (fun i o ho=>?_) _ _ _ _ ?_);have:=List.all_eq_true.1 hd.1 o (by
  rw[List.getElem?_toArray]at ho;exact List.mem_of_getElem? ho)
 simpa using this;have:=h { w with drawn:=w.drawn+1 } ⟨S.slots,S.defers,S.wd.step (Agree.drawn _ w _)⟩ _ hd.2.2.1 hx hd.2.2.2;rw[Nat.eq_of_beq_eq_true hd.2.1]at this;simpa using this
end
section
variable {P:Program}{r:Option Nat}{ops:Array Oper}{Q:Exit→Act→World→Prop}{w0:World}{M0:Nat→Prop}{ds:List Deferred}{a:Act}{w:World}{l:List Value}{bs bs':List Item}{fs:List (World→Prop)}
 {d:Option Nat} {ty:TypeId} {pos:String} {af:Array Edge} {rest:List Oper} {f:Nat} {x:Operand} {ys:List Operand} {args:List Value} {ts:Array TypeId}
theorem xtp {next:Act→World→Prop}{ch:List PanicEntry}(h:Q (.panic ch) a w):Exit.then next Q (.panic ch) a w:=h
theorem xbp {id:Nat}{ch:List PanicEntry}(h:Q (.panic ch) a w):Exit.inBlock id Q (.panic ch) a w:=h
abbrev noI:Item:=ext fun _=>False
theorem sitMP {l':Value→List Value}(it:Item)[EntF P f][CallTo ⟨[],l⟩ x ys f args][hp:∀ v,PutO l d v (l' v)](S:St w0 M0 ds a w l bs fs){R:Value→World→Prop}{X:List PanicEntry→World→Prop}(hc:RetP P f args w it.foot R X)(ho:it.own=true)
  (Kp:∀ ch w',X ch w'→(∀ {bs':List Item} [ReplI bs it noI bs'],St w0 M0 ds a w' l bs' fs)→Q (.panic ch) a w')
  (K:∀ v a w',R v w'→(∀ (y:Item) (fs2:List (World→Prop)) {fs3:List (World→Prop)} {bs':List Item} [AppL fs2 fs fs3] [ReplI bs it y bs'] [ItOk y],y.holds w'→(∀ k,y.foot k→it.foot k∨w.heap.size≤k)→(∀ Φ∈fs2,Stable (fun k=>y.foot k∨restOf bs it k) w' Φ)→St w0 M0 ds a w' (l' v) bs' fs3)→WL P r ops Q rest a w') :
  WL P r ops Q (⟨d,.call { callee:=.value x,args:=ys.toArray,argTypes:=ts },ty,pos,af,none⟩::rest) a w:=by
 have hap:=S.wd.apart;refine cv_anyP S hc ?_;rintro e w' (⟨v,rfl,ha,hR⟩ | ⟨ch,rfl,ha,hX⟩)
 ·have:=hp v
  have S':=S.put (d:=d) (v:=v);refine .inl ⟨v,rfl,K v _ w' hR fun y fs2 fs3 bs' happ hr oy hy hf hfs=>?_⟩;have hS:St w0 M0 ds (a.put d v) w' (l' v) bs' fs:=⟨S'.slots,S'.defers,by
   obtain ⟨pre,post,q1,q2⟩:=hr.ex;have hwd:=S'.wd;rw[q1]at hwd;rw[q2];exact hwd.swap ho ha hy hf (oy.lt w' hy) oy.loc⟩
  rw[←happ.eq];refine hS.addAll fs2 fun Φ hΦ=>(hfs Φ hΦ).less fun k _ hk=>?_
  obtain ⟨pre,post,rfl,rfl⟩:=hr.ex;obtain ⟨z,hz,hk⟩:=hk;have hp:=List.pairwise_append.1 hap;rcases List.mem_append.1 hz with hz | hz
  ·exact .inr ⟨⟨z,by simp[hz],hk⟩,hp.2.2 z hz it (by simp) k hk⟩
  ·rcases List.mem_cons.1 hz with rfl | hz
   ·exact .inl hk
   ·exact .inr ⟨⟨z,by simp[hz],hk⟩,fun hx=>(List.pairwise_cons.1 hp.2.1).1 z hz k hx hk⟩
 ·refine .inr ⟨ch,rfl,Kp ch w' hX fun {bs'} hr=>⟨S.slots,S.defers,?_⟩⟩
  obtain ⟨pre,post,q1,q2⟩:=hr.ex;have hwd:=S.wd;rw[q1]at hwd;rw[q2];exact hwd.swap ho ha trivial (fun _ h=>h.elim) (fun _ h=>h.elim) (fun _ _ _ _=>trivial)
end
end Go.Wk
namespace Go.Proofs.YtlgnhhebeandkaaGreatDoor
open Go Go.Wk
set_option synthInstance.maxSize 100000
set_option synthInstance.maxHeartbeats 400000
set_option maxRecDepth 100000
instance:StT Tryz.prog 288:=⟨⟨_,Tryz.underlying288⟩⟩
instance:IfT Tryz.prog 20:=⟨by kernel_rfl⟩
abbrev wrongE (e:Int):Value:=.iface 288 (.agg ⟨[.int .i64 e]⟩)
abbrev tmI (h rd:Nat)(left:Int):Wk.Item:=Wk.box h 286 [.pointer (some ⟨rd,0,none⟩),.int .i64 left]
abbrev rtI (h rd:Nat)(left:Int)(r:RS):Wk.Item:=both (tmI h rd left) (rdI rd r)
theorem needR_c (h rd:Nat)(left:Int)(r:RS)(b:Bool)(w0:World)(f1:Fx w0 (BoxF h 286 [.pointer (some ⟨rd,0,none⟩),.int .i64 left]))(f2:Fx w0 (BoxF rd 193 (cRS r))) :
  RetP Tryz.prog 241 [.pointer (some ⟨h,0,none⟩),.bool b] w0 (fun _=>False) (fun _ _=>r.why=0∧b=true) (fun ch _=>∃ e,ch=pch (wrongE e)∧((r.why≠0∧e=7)∨(r.why=0∧b=false∧e=150))):=by
 refine E1 Tryz.func241 rfl Tryz.ntmps241 (Wd.begin (fs:=[BoxF h 286 [.pointer (some ⟨rd,0,none⟩),.int .i64 left],BoxF rd 193 (cRS r)]) (by simp;exact ⟨f1,f2⟩)) ?_;intro a S;refine J7 ?_;intro a S;refine sr S (errR_c rd r _ (S.mem.fact0 (BoxF rd 193 (cRS r)))) ?_;rintro _ a w rfl S;refine J4 ?_;intro a S;refine kC S (fun h0=>?_) (fun h0=>?_);refine J3 ?_;intro a S;refine sPan S (fun S=>?_);refine xbp ?_;refine endX S ?_;exact ⟨7,rfl,.inl ⟨by simpa using h0,rfl⟩⟩;refine J7 ?_;intro a S;refine kC S (fun h2=>?_) (fun h2=>?_);refine J3 ?_;intro a S;refine sPan S (fun S=>?_);refine xbp ?_;refine endX S ?_;exact ⟨150,rfl,.inr ⟨by simpa using h0,by simpa using h2,rfl⟩⟩;refine kK (xbn ?_);refine endP (end0 S (fun _=>?_));exact ⟨by simpa using h0,by simpa using h2⟩
structure SubR (r r':RS):Prop where
 gl:r.bs.length≤r.c→∀ w,GlF r.p r.bs w→GlF r'.p r'.bs w
 len:r'.bs.length≤r.bs.length
 cap:r.bs.length≤r.c→r'.bs.length≤r'.c
theorem SubR.refl (r:RS):SubR r r:=⟨fun _ _ h=>h,Nat.le_refl _,id⟩
theorem SubR.trans {a b c:RS}(h:SubR a b)(k:SubR b c):SubR a c:=⟨fun hc w hw=>k.gl (h.cap hc) w (h.gl hc w hw),Nat.le_trans k.len h.len,fun hc=>k.cap (h.cap hc)⟩
theorem SubR.take (r:RS)(k:Nat):SubR r (takeR r k):=by
 refine ⟨fun hc w hw=>?_,takeR_len r k,fun hc=>takeR_cap hc⟩;unfold takeR;split;exact hw.drop (sz:=1) k hc;exact hw
theorem take1_ok {r:RS}(h:r.why=0)(hk:(takeR r 1).why=0):∃ c t,r.bs=c::t∧numN (tookR r 1) 0=c.toNat∧(takeR r 1).bs=t:=by
 by_cases ho:okR r 1
 have hl:=ho.2
 match hb:r.bs with
 | []=>rw[hb]at hl;simp at hl
 | c::t=>exact ⟨c,t,rfl,by rw[tookR_yes ho,hb];simp[numN],by rw[takeR_yes ho,hb];rfl⟩
 rw[takeR_no ho,if_pos h]at hk;cases hk
theorem take1_bad {r:RS}(h:r.why=0)(hk:(takeR r 1).why≠0):r.bs=[]:=by
 by_cases ho:okR r 1
 rw[takeR_yes ho]at hk;exact absurd rfl hk
 match hb:r.bs with
 | []=>rfl
 | c::t=>exact absurd ⟨h,by rw[hb];simp⟩ ho
theorem take_ok {r:RS}{k:Nat}(h:r.why=0)(hk:(takeR r k).why=0):k≤r.bs.length∧tookR r k=r.bs.take k∧(takeR r k).bs=r.bs.drop k:=by
 by_cases ho:okR r k
 exact ⟨ho.2,tookR_yes ho,by rw[takeR_yes ho]⟩;rw[takeR_no ho,if_pos h]at hk;cases hk
theorem take_bad {r:RS}{k:Nat}(h:r.why=0)(hk:(takeR r k).why≠0):r.bs.length < k:=by
 by_cases ho:okR r k
 rw[takeR_yes ho]at hk;exact absurd rfl hk;rcases Nat.lt_or_ge r.bs.length k with h1 | h1
 exact h1;exact absurd ⟨h,h1⟩ ho
def preD (ts:List Term):DecE (List Term × Nat × List UInt8)→DecE (List Term × Nat × List UInt8)
 | .error e=>.error e
 | .ok (us,left,bs)=>.ok (ts++us,left,bs)
theorem preD_nil (x:DecE (List Term × Nat × List UInt8)):preD [] x=x:=by
 cases x <;> rfl
theorem kidsD_step (f:Nat→List UInt8→DecE (Term × Nat × List UInt8))(ts:List Term)(j left:Nat)(bs:List UInt8)(t:Term)(left':Nat)(bs':List UInt8)(h:f left bs=.ok (t,left',bs')) :
  preD ts (kidsD f (j+1) left bs)=preD (ts++[t]) (kidsD f j left' bs'):=by
 rw[kidsD,h]
 show preD ts (match kidsD f j left' bs' with | .error e=>.error e | .ok (us,l,b)=>.ok (t::us,l,b))=_
 cases kidsD f j left' bs' with
 | error e=>rfl
 | ok x=>obtain ⟨us,l,b⟩:=x;simp[preD]
theorem kidsD_bad (f:Nat→List UInt8→DecE (Term × Nat × List UInt8))(ts:List Term)(j left:Nat)(bs:List UInt8)(e:Int)(h:f left bs=.error e):preD ts (kidsD f (j+1) left bs)=.error e:=by
 rw[kidsD,h];rfl
variable {f:Nat→List UInt8→DecE (Term × Nat × List UInt8)}{left:Nat}{k e:Int}{bs b2 b3 b4:List UInt8}{s:List UInt8}{u n:Int}
theorem decB_text (h:textD k bs=.error e):decB f left k bs=.error e:=by rw[decB,h]
theorem decB_user (h:textD k bs=.ok (s,b2))(h2:userD k b2=.error e):decB f left k bs=.error e:=by rw[decB,h];simp only[h2]
theorem decB_num (h:textD k bs=.ok (s,b2))(h2:userD k b2=.ok (u,b3))(h3:numD k b3=.error e):decB f left k bs=.error e:=by rw[decB,h];simp only[h2,h3]
theorem decB_kids (h:textD k bs=.ok (s,b2))(h2:userD k b2=.ok (u,b3))(h3:numD k b3=.ok (n,b4))(h4:kidsD f (kidsN k) (left - 1) b4=.error e):decB f left k bs=.error e:=by rw[decB,h];simp only[h2,h3,h4]
theorem decB_ok {ks:List Term}{l:Nat}{b5:List UInt8}(h:textD k bs=.ok (s,b2))(h2:userD k b2=.ok (u,b3))(h3:numD k b3=.ok (n,b4))(h4:kidsD f (kidsN k) (left - 1) b4=.ok (ks,l,b5)):decB f left k bs=.ok (.mk k u n s ks,l,b5):=by rw[decB,h];simp only[h2,h3,h4]
theorem textD_none (h:hasF (fieldsOf k) 1=false):textD k bs=.ok ([],bs):=by unfold textD;rw[if_neg (by rw[h];simp)]
theorem textD_nil (h:hasF (fieldsOf k) 1=true):textD k []=.error 7:=by rw[textD,if_pos h]
theorem textD_long (h:hasF (fieldsOf k) 1=true){c:UInt8}(hc:64 < c.toNat):textD k (c::bs)=.error 150:=by rw[textD,if_pos h];simp[hc]
theorem textD_short (h:hasF (fieldsOf k) 1=true){c:UInt8}(hc:¬64 < c.toNat)(hl:bs.length < c.toNat):textD k (c::bs)=.error 7:=by rw[textD,if_pos h];simp[hc,hl]
theorem textD_ok (h:hasF (fieldsOf k) 1=true){c:UInt8}(hc:¬64 < c.toNat)(hl:¬bs.length < c.toNat):textD k (c::bs)=.ok (bs.take c.toNat,bs.drop c.toNat):=by rw[textD,if_pos h];simp[hc,hl]
theorem userD_none (h:hasF (fieldsOf k) 2=false):userD k bs=.ok (0,bs):=by unfold userD;rw[if_neg (by rw[h];simp)]
theorem userD_nil (h:hasF (fieldsOf k) 2=true):userD k []=.error 7:=by rw[userD,if_pos h]
theorem userD_ok (h:hasF (fieldsOf k) 2=true){c:UInt8}(hc:1≤c.toNat∧c.toNat≤6):userD k (c::bs)=.ok ((c.toNat:Int),bs):=by rw[userD,if_pos h];simp[hc]
theorem userD_bad (h:hasF (fieldsOf k) 2=true){c:UInt8}(hc:¬(1≤c.toNat∧c.toNat≤6)):userD k (c::bs)=.error 150:=by rw[userD,if_pos h];simp only[if_neg hc]
theorem numD_none (h:hasF (fieldsOf k) 4=false):numD k bs=.ok (0,bs):=by rw[numD,if_neg (by rw[h];simp)]
theorem numD_bad (h:hasF (fieldsOf k) 4=true)(hl:bs.length < 2):numD k bs=.error 7:=by rw[numD,if_pos h,if_pos hl]
theorem numD_ok (h:hasF (fieldsOf k) 4=true)(hl:¬bs.length < 2):numD k bs=.ok ((numN (bs.take 2) 0:Int),bs.drop 2):=by rw[numD,if_pos h,if_neg hl]
theorem kidsN_int (k:Int):kidsF (fieldsOf k)=((kidsN k:Nat):Int)∧kidsN k≤2:=by
 unfold kidsN kidsF;split;exact ⟨rfl,by decide⟩;split;exact ⟨rfl,by decide⟩;exact ⟨rfl,by decide⟩
end Go.Proofs.YtlgnhhebeandkaaGreatDoor