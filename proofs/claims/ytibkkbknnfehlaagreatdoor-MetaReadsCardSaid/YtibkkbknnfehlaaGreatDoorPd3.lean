/- 3: a part of this claim's texts, joined: W5 PermA RefSame RowRegress RowBase SortI TermG PlainList W6 CapA CapB PlainCap. -/
import Derived.Test.YtibkkbknnfehlaaGreatDoorPd2
import Derived.Test.YtibkkbknnfehlaaGreatDoorRows
namespace Go.Wk
open Go Go.Deep Go.ChangeShapes Go.WideShapes Go.ChangeAt Go.RowKit
section
variable {H:Type}{enc:TypeId × Value→H}{P:Program}{w:World}{base:Nat}{spare:Nat→Bool}{held:Bool}{L:TypeId}
end
section
variable {w0:World}{M0:Nat→Prop}{ds:List Deferred}{a:Act}{w:World}{l:List Value}{bs:List Item}{fs:List (World→Prop)}
theorem St.boxLs {b:Nat}{T:TypeId}(ts:List LTerm){cs:List Value}(S:St w0 M0 ds a w l (Wk.box b T cs::bs) fs)(hc:cs=ts.flatMap LTerm.cells)(h:∀ t∈ts,Stable (foots (Wk.box b T cs::bs)) w (LtF t)):St w0 M0 ds a w l bs (LsF (some ⟨b,0,none⟩) 0 ts::fs):=by
 subst hc;have hb:w.heap[b]? = some (.cells (ts.flatMap LTerm.cells).toArray T (0,0)):=S.wd.held _ (List.mem_cons_self ..);have hap:=(List.pairwise_cons.1 S.wd.apart).1;have S':St w0 M0 ds a w l bs fs:=⟨S.slots,S.defers,S.wd.sub (List.sublist_cons_self ..) (List.Sublist.refl _)⟩;refine S'.add fun w' hw'=>LsIn.of_block (t:=T) ts ?_ fun x hx=>(h x hx).less (fun k _ ⟨it,hi,hk⟩=>⟨it,List.mem_cons_of_mem _ hi,hk⟩) w' hw'
 rw[hw'.blk (Array.getElem?_eq_some_iff.1 hb).1 (fun⟨it,hi,hk⟩=>hap it hi b rfl hk)];exact hb
theorem own_le {w:World}{e:TypeId}{sz:Nat}{p:Option Addr}{n c:Nat}{xs:List Value}(h:w.ownsRow 0 e sz (.slice p n c) n xs):n≤c:=by
 rcases h.2 with ⟨hv,h0⟩ | ⟨g,cap,cur,hv,hb,hg,hnc,hcm,hcs,ht⟩
 omega;cases hv;exact hnc
end
theorem SlF.nil {p:Option Addr}{w:World} : SlF p [] w:=⟨fun _=>rfl,fun _ _ j u hj=>by simp at hj⟩
section
variable {P:Program}{l lc:Cx}{bs:List Item}{fs:List (World→Prop)}{x y:Operand}{p:Option Addr}{n c k:Nat}{kk:IntKind}{m:Int}{ys:List Int}{t ty e:TypeId}{z:Value}{by_:Nat}
end
class Lay (α:Type) extends Enc α where
 dflt:α
 inn:World→α→Prop
 mono:∀ (w w':World) (x:α),(∀ ad v,w.cell? ad=some v→w'.cell? ad=some v)→inn w x→inn w' x
instance layI:Lay Int:={ encI with dflt:=0,inn:=fun _ _=>True,mono:=fun _ _ _ _ h=>h }
instance layS:Lay (List UInt8):={ encS with dflt:=[],inn:=fun _ _=>True,mono:=fun _ _ _ _ h=>h }
instance layT:Lay LTerm:={ encT with dflt:=zeroL,inn:=LtIn,mono:=fun _ _ x h hx=>LtIn.mono h x hx }
instance encBo:Enc Bool:=⟨1,fun b=>[.bool b],fun _=>rfl,fun x u hu=>by obtain rfl:=List.mem_singleton.1 hu;rfl⟩
instance layBo:Lay Bool:={ encBo with dflt:=false,inn:=fun _ _=>True,mono:=fun _ _ _ _ h=>h }
instance layB:Lay UInt8:={ encB with dflt:=0,inn:=fun _ _=>True,mono:=fun _ _ _ _ h=>h }
def InF {α:Type}[Lay α](x:α):World→Prop:=fun w=>Lay.inn w x
def GlF {α:Type}[Lay α](p:Option Addr)(xs:List α):World→Prop:=fun w=>SlF p (encL xs) w∧∀ x∈xs,Lay.inn w x
def nthG {α:Type}[Lay α](xs:List α)(k:Nat):α:=xs.getD k Lay.dflt
theorem nthG_get {α:Type}[Lay α]{xs:List α}{k:Nat}(h:k < xs.length):xs[k]? = some (nthG xs k):=by simp[nthG,h]
theorem nthG_mem {α:Type}[Lay α]{xs:List α}{k:Nat}(h:k < xs.length):nthG xs k∈xs:=List.mem_of_getElem? (nthG_get h)
theorem nthG_drop {α:Type}[Lay α]{xs:List α}{k:Nat}(h:k < xs.length):xs.drop k=nthG xs k::xs.drop (k+1):=by
 rw[List.drop_eq_getElem_cons h]
 congr 1
 simp[nthG,h]
theorem nthG_take {α:Type}[Lay α]{xs:List α}{k:Nat}(h:k < xs.length):xs.take (k+1)=xs.take k++[nthG xs k]:=by
 rw[List.take_add_one,nthG_get h];rfl
def gAddr (p:Option Addr)(k sz off:Nat):Addr:=(p.getD ⟨0,0,none⟩).add (k*sz+off)
structure Sl (α:Type) where
 p:Option Addr
 cap:Nat
 xs:List α
abbrev Sl.v {α:Type}(s:Sl α):Value:=.slice s.p s.xs.length s.cap
instance encSl {α:Type} : Enc (Sl α):=⟨1,fun s=>[s.v],fun _=>rfl,fun x u hu=>by obtain rfl:=List.mem_singleton.1 hu;rfl⟩
theorem SlF.mono {p:Option Addr}{xs:List Value}{w w':World}(h:∀ ad v,w.cell? ad=some v→w'.cell? ad=some v)(hs:SlF p xs w):SlF p xs w':=⟨hs.1,fun ad hp j u hj=>h _ _ (hs.2 ad hp j u hj)⟩
theorem GlF.mono {α:Type}[Lay α]{p:Option Addr}{xs:List α}{w w':World}(h:∀ ad v,w.cell? ad=some v→w'.cell? ad=some v)(hs:GlF p xs w):GlF p xs w':=⟨hs.1.mono h,fun x hx=>Lay.mono w w' x h (hs.2 x hx)⟩
instance laySl {α:Type}[Lay α]:Lay (Sl α):={ encSl with
 dflt:=⟨none,0,[]⟩
 inn:=fun w s=>s.xs.length≤s.cap∧s.cap≤maxLen∧GlF s.p s.xs w
 mono:=fun _ _ _ h hx=>⟨hx.1,hx.2.1,hx.2.2.mono h⟩ }
theorem gl_nil {α:Type}[Lay α]{w:World}{p:Option Addr} : GlF (α:=α) p [] w:=⟨SlF.nil,fun _ h=>by cases h⟩
theorem gl_some {α:Type}[Lay α]{w:World}{p:Option Addr}{xs:List α}(h:GlF p xs w){k:Nat}(hk:k < xs.length)(hz:0 < Enc.sz α):∃ ad,p=some ad:=by
 cases hp:p with
 | some ad=>exact ⟨ad,rfl⟩
 | none=>
  have h1:=congrArg List.length (h.1.1 hp);rw[encL_len]at h1;have h2:xs.length*Enc.sz α=0:=h1;rcases Nat.mul_eq_zero.1 h2 with h3 | h3 <;> omega
theorem gl_cell {α:Type}[Lay α]{w:World}{p:Option Addr}{xs:List α}(h:GlF p xs w){k:Nat}(hk:k < xs.length){j:Nat}{u:Value}(hj:(Enc.cells (nthG xs k))[j]? = some u):w.cell? (gAddr p k (Enc.sz α) j)=some u:=by
 have hjs:j < Enc.sz α:=by
  have:=(List.getElem?_eq_some_iff.1 hj).1
  rwa [Enc.len]at this
 obtain ⟨ad,rfl⟩:=gl_some h hk (by omega);exact h.1.2 ad rfl _ _ ((encL_get xs k _ (nthG_get hk) j hjs).trans hj)
theorem gl_ls {w:World}{p:Option Addr}{xs:List LTerm}(h:GlF p xs w):LsF p 0 xs w:=by
 cases hp:p with
 | none=>
  have:=h.1.1 hp;cases xs with
  | nil=>trivial
  | cons x xs=>simp[encL,Enc.cells]at this
 | some ad=>
  subst hp;refine LsIn.of_all fun k t hk=>⟨fun j v hj=>?_,h.2 t (List.mem_of_getElem? hk)⟩
  have hj5:j < 5:=by
   have:=(List.getElem?_eq_some_iff.1 hj).1;simpa [LTerm.cells] using this
  have:=h.1.2 ad rfl (k*5+j) v ((encL_get xs k t hk j hj5).trans hj);simpa using this
theorem ls_gl {w:World}{p:Option Addr}{xs:List LTerm}(h:LsF p 0 xs w):GlF p xs w:=by
 refine ⟨⟨fun hp=>?_,fun ad hp j u hj=>lsIn_cells h hp j u hj⟩,fun x hx=>?_⟩;subst hp;rw[LsIn.nil_of h];rfl;obtain ⟨k,hk⟩:=List.getElem?_of_mem hx;exact (LsIn.get h hk).2
class HasG (fs:List (World→Prop))(p:Option Addr)(α:outParam Type)(i:outParam (Lay α))(xs:outParam (List α)):Prop where
 of:∀ (M:Nat→Prop) (w:World),(∀ Φ∈fs,Stable M w Φ)→Stable M w (GlF p xs)
instance hasg0 {α:Type}[i:Lay α]{fs:List (World→Prop)}{p:Option Addr}{xs:List α} : HasG (GlF p xs::fs) p α i xs:=⟨fun _ _ h=>h _ (by simp)⟩
instance (priority:=900) hasgS {α:Type}{i:Lay α}{fs:List (World→Prop)}{Φ:World→Prop}{p:Option Addr}{xs:List α}[h:HasG fs p α i xs]:HasG (Φ::fs) p α i xs:=⟨fun M w hf=>h.of M w fun Ψ hΨ=>hf Ψ (by simp[hΨ])⟩
class HasGx (fs:List (World→Prop)){α:Type}[Lay α](xs:List α):Prop where
 of:∀ (M:Nat→Prop) (w:World),(∀ Φ∈fs,Stable M w Φ)→∃ p,Stable M w (GlF p xs)
instance hasgx0 {α:Type}[i:Lay α]{fs:List (World→Prop)}{p:Option Addr}{xs:List α} : HasGx (GlF p xs::fs) xs:=⟨fun _ _ h=>⟨p,h _ (by simp)⟩⟩
instance (priority:=900) hasgxS {α:Type}[i:Lay α]{fs:List (World→Prop)}{Φ:World→Prop}{xs:List α}[h:HasGx fs xs]:HasGx (Φ::fs) xs:=⟨fun M w hf=>h.of M w fun Ψ hΨ=>hf Ψ (by simp[hΨ])⟩
class HasI (fs:List (World→Prop)){α:Type}[Lay α](x:α):Prop where
 of:∀ (M:Nat→Prop) (w:World),(∀ Φ∈fs,Stable M w Φ)→Stable M w (InF x)
instance hasi0 {α:Type}[Lay α]{fs:List (World→Prop)}{x:α}[h:HasFact fs (InF x)]:HasI fs x:=⟨fun _ _ hf=>hf _ h.mem⟩
instance (priority:=900) hasi1 {α:Type}[Lay α]{fs:List (World→Prop)}{xs:List α}{k:Nat}[h:HasGx fs xs][hk:KLt k xs.length]:HasI fs (nthG xs k):=⟨fun M w hf=>by
 obtain ⟨p,hp⟩:=h.of M w hf;exact hp.imp fun w' hw'=>hw'.2 _ (nthG_mem hk.lt)⟩
instance (priority:=850) hasgI {α:Type}[i:Lay α]{fs:List (World→Prop)}{s:Sl α}[h:HasI fs s]:HasG fs s.p α i s.xs:=⟨fun M w hf=>(h.of M w hf).imp fun _ h=>h.2.2⟩
instance (priority:=850) hasgxI {α:Type}[i:Lay α]{fs:List (World→Prop)}{s:Sl α}[h:HasI fs s]:HasGx fs s.xs:=⟨fun M w hf=>⟨s.p,(h.of M w hf).imp fun _ h=>h.2.2⟩⟩
section
variable {α:Type}[Lay α]{w0:World}{M0:Nat→Prop}{ds:List Deferred}{a:Act}{w:World}{l:List Value}{bs:List Item}{fs:List (World→Prop)}
theorem Mem.i (m:Mem w bs fs)(x:α)[h:HasI fs x]:Stable (foots bs) w (InF x):=h.of _ _ m.facts
theorem Mem.i0 (m:Mem w bs fs)(x:α)[h:HasI fs x]:Fx w (InF x):=(m.i x).less fun _ _ h=>h.elim
theorem St.i (S:St w0 M0 ds a w l bs fs)(x:α)[h:HasI fs x]:Stable (foots bs) w (InF x):=S.mem.i x
theorem St.gl {α:Type}{i:Lay α}(S:St w0 M0 ds a w l bs fs)(p:Option Addr){xs:List α}[h:HasG fs p α i xs]:Stable (foots bs) w (GlF p xs):=h.of _ _ S.wd.facts
theorem St.gl0 {α:Type}{i:Lay α}(S:St w0 M0 ds a w l bs fs)(p:Option Addr){xs:List α}[h:HasG fs p α i xs]:Fx w (GlF p xs):=(S.gl p).less fun _ _ h=>h.elim
theorem gl_of_own {M:Nat→Prop}{e:TypeId}{p:Option Addr}{n c sz:Nat}{xs:List α}(h:w.ownsRow 0 e sz (.slice p n c) n (encL xs))(hk:∀ x∈xs,Stable M w (InF x))(hM:∀ ad,p=some ad→¬M ad.block):Stable M w (GlF p xs):=fun w' hw'=>
 ⟨SlF.stable (own_sl h) hM w' hw',fun x hx=>hk x hx w' hw'⟩
end
class SzE (α:Type)[Lay α](n:outParam Nat):Prop where
 eq:Enc.sz α=n
 pos:0 < n
instance:SzE Int 1:=⟨rfl,by decide⟩
instance:SzE LTerm 5:=⟨rfl,by decide⟩
instance {α:Type}[Lay α]:SzE (Sl α) 1:=⟨rfl,by decide⟩
class CellsOf {α:Type}[Lay α](x:α)(cs:outParam (List Value)):Prop where eq:Enc.cells x=cs
instance {x:Int} : CellsOf x [.int .i64 x]:=⟨rfl⟩
instance {α:Type}[Lay α]{x:Sl α} : CellsOf x [.slice x.p x.xs.length x.cap]:=⟨rfl⟩
section
variable {P:Program}{l:Cx}{bs:List Item}{fs:List (World→Prop)}{x y:Operand}{p:Option Addr}{n c k sz off:Nat}{kk:IntKind}{m:Int}{t ty e:TypeId}{z:Value}{by_:Nat}{α:Type}{i:Lay α}{xs:List α}
instance (priority:=880) opIdxG [Ev l x (.slice p n c)][Ev l y (.int kk m)][Und P t (.slice e)][TI P e z sz by_][hm:IsNat m k][hl:HasG fs p α i xs][hs:SzE α sz][hk:KLt k n][hk':KLt k xs.length] :
  OpQ P (.indexAddr t x y) ty l bs fs (.pointer (some (gAddr p k sz 0))):=⟨fun ρ w h mm=>by
 have hlt:=hk.lt;obtain ⟨ad,rfl⟩:=gl_some (hl.of _ _ mm.facts).now hk'.lt (by rw[hs.eq];exact hs.pos);have h2:=hm.eq;subst h2;simp[xop,execOp,h.ev (x:=x) (v:=.slice (some ad) n c),h.ev (x:=y) (v:=.int kk (k:Int))];simp[run_indexAt (P:=P) (t:=t) (e:=e) (z:=z) (sz:=sz) (by_:=by_) (Int.natCast_nonneg k) (Int.ofNat_lt.2 hlt),gAddr]⟩
theorem gAddr_add (p:Option Addr)(k sz o j:Nat):(gAddr p k sz o).add j=gAddr p k sz (o+j):=by simp only[gAddr,add_add,Nat.add_assoc]
theorem gl_cells {cs:List Value}{w:World}[hs:SzE α sz](h:GlF p xs w)(hk:k < xs.length)[hc:CellsOf (nthG xs k) cs]{j:Nat}{u:Value}(hj:cs[j]? = some u):w.cell? (gAddr p k sz j)=some u:=by
 rw[←hs.eq];exact gl_cell h hk (by rw[hc.eq];exact hj)
instance (priority:=780) opLoadG1 {v:Value}{cs:List Value}[Ev l x (.pointer (some (gAddr p k sz off)))][ha:AggT P t false][hl:HasG fs p α i xs][hs:SzE α sz][hk:KLt k xs.length][hc:CellsOf (nthG xs k) cs][hn:Nth cs off v] :
  OpQ P (.load t x) ty l bs fs v:=⟨fun ρ w h mm=>by
 have h1:=gl_cells (hl.of _ _ mm.facts).now hk.lt hn.eq;simp[xop,execOp,Instr.loadAt,h.ev (x:=x) (v:=.pointer (some (gAddr p k sz off))),Instr.sureAddr,loadVar,Sem.run_bind,ha.run,load,Sem.run,h1]⟩
instance (priority:=780) opLoadGA {cs vs:List Value}[Ev l x (.pointer (some (gAddr p k sz off)))][ha:AggT P t true][TI P t z n by_][hl:HasG fs p α i xs][hs:SzE α sz][hk:KLt k xs.length][hc:CellsOf (nthG xs k) cs][hn:Seg cs off n vs] :
  OpQ P (.load t x) ty l bs fs (.agg ⟨vs⟩):=⟨fun ρ w h mm=>by
 have hlc:=run_loadCells_list (P:=P) w (gAddr p k sz off) vs (fun j v hj=>by
  have hjn:j < n:=by rw[←hn.eq.1];exact (List.getElem?_eq_some_iff.1 hj).1
  rw[gAddr_add];exact gl_cells (hl.of _ _ mm.facts).now hk.lt ((hn.eq.2 j hjn).trans hj))
 rw[hn.eq.1]at hlc;simp[xop,execOp,Instr.loadAt,h.ev (x:=x) (v:=.pointer (some (gAddr p k sz off))),Instr.sureAddr,loadVar,Sem.run_bind,ha.run,run_size,hlc]⟩
instance (priority:=860) srcG {tx:TypeId}[h:Und P tx (.slice e)][hr:HasG fs p α i xs][hs:SzE α sz][hn:LenN xs n]:SrcV P tx (.slice p n c) bs fs sz n (encL xs):=⟨fun w mm=>
 src_sl h.eq (hr.of _ _ mm.facts).now.1 (by rw[encL_len,hn.eq,hs.eq]) (encL_one xs) hs.pos⟩
end
class Tro (P:Program)(T:TypeId)(α:Type)[Lay α]:Prop where
 of:∀ {H:Type} (enc:TypeId × Value→H) (w:World) (base:Nat) (spare:Nat→Bool) (held:Bool) (fuel:Nat) (cs:List Value) (x:DataW H × List MemPlace),DataW.trod enc P w base spare held fuel T cs=some x→∃ a:α,cs=Enc.cells a∧Lay.inn w a
 size:P.cellsOf T=Enc.sz α
open Go
class SetG (l:List Value)(ms:List (Nat × Value))(l':outParam (List Value)):Prop where ok:True
instance setg0 {l:List Value} : SetG l [] l:=⟨trivial⟩
instance setg1 {u v:Value}{l l':List Value}{ms:List (Nat × Value)}[SetG l ms l']:SetG (u::l) ((0,v)::ms) (v::l'):=⟨trivial⟩
instance setg2 {u v:Value}{g:Nat}{l l':List Value}{ms:List (Nat × Value)}[SetG l ((g,v)::ms) l']:SetG (u::l) ((g+1,v)::ms) (u::l'):=⟨trivial⟩
section
variable {P:Program}{r:Option Nat}{Q:Exit→Act→World→Prop}{w0:World}{M0:Nat→Prop}{ds:List Deferred}{a:Act}{w:World}{l:List Value}{bs:List Item}{fs:List (World→Prop)}
theorem c_fore1 {c:Code}{ι1:Type}(_S:St w0 M0 ds a w l bs fs)(mods:ι1→(Nat→Value)→List (Nat × Value)){l1:ι1→(Nat→Value)→List Value}[∀ x1 uu,SetG l (mods x1 uu) (l1 x1 uu)](bs1:ι1→List Item)(fs1:ι1→List (World→Prop))(rel:ι1→Prop)(μ:ι1→Nat)(z1:ι1)(h0:rel z1)(uu0:Nat→Value)(S0:St w0 M0 ds a w (l1 z1 uu0) (bs1 z1) (fs1 z1))
  (hr:∀ x1 uu a w,rel x1→St w0 M0 ds a w (l1 x1 uu) (bs1 x1) (fs1 x1)→Wp P r c (Exit.then (fun a w=>∃ y1 vv,rel y1∧St w0 M0 ds a w (l1 y1 vv) (bs1 y1) (fs1 y1)∧μ y1 < μ x1) Q) a w):Wp P r (.loop c) Q a w:=by
 refine c_loop (ι:=ι1) (fun p a w=>rel p∧∃ uu,St w0 M0 ds a w (l1 p uu) (bs1 p) (fs1 p)) (fun p=>μ p) (z1) ⟨h0,uu0,S0⟩ ?_;rintro p a w ⟨h1,uu,S1⟩;refine wpIn_mono (hr p uu a w h1 S1) fun e a1 w1 hq=>?_
 cases e <;> first | exact hq | skip
 obtain ⟨y1,vv,h2,S2,hm⟩:=hq;exact ⟨y1,⟨h2,vv,S2⟩,hm⟩
theorem c_mrge1 {x y:Code}{ι1:Type}(_S:St w0 M0 ds a w l bs fs)(mods:ι1→(Nat→Value)→List (Nat × Value)){l1:ι1→(Nat→Value)→List Value}[∀ x1 uu,SetG l (mods x1 uu) (l1 x1 uu)](bs1:ι1→List Item)(fs1:ι1→List (World→Prop))(rel:ι1→Prop)
  (hx:Wp P r x (Exit.then (fun a w=>∃ y1 vv,rel y1∧St w0 M0 ds a w (l1 y1 vv) (bs1 y1) (fs1 y1)) Q) a w) (hy:∀ x1 uu a w,rel x1→St w0 M0 ds a w (l1 x1 uu) (bs1 x1) (fs1 x1)→Wp P r y Q a w):Wp P r (.seq x y) Q a w:=
 c_merge _ hx fun a w h=>by obtain ⟨y1,vv,h1,h2⟩:=h;exact hy y1 vv a w h1 h2
theorem c_drwe1 {id:Nat}{lo:List Oper}{ι1:Type}(t:Tr)(S:St w0 M0 ds a w l bs fs)(mods:ι1→(Nat→Value)→List (Nat × Value)){l1:ι1→(Nat→Value)→List Value}[∀ x1 uu,SetG l (mods x1 uu) (l1 x1 uu)](bs0:List Item)(bs1:ι1→List Item)(fs1:ι1→List (World→Prop))(rel:ι1→Prop)
  (h:∀ w,St w0 M0 ds a w l bs fs→AT P lo.toArray (fun w=>Wd w0 M0 w bs0 fs) (fun a w=>∃ y1 vv,rel y1∧St w0 M0 ds a w (l1 y1 vv) (bs1 y1) (fs1 y1)) t a w) (hK:∀ x1 uu a w,rel x1→St w0 M0 ds a w (l1 x1 uu) (bs1 x1) (fs1 x1)→Q .normal a w) (hm:P.follows .mixedOrders=true:=by kernel_rfl)
  (hd:((lo.all fun o=>!isDefer o.op)&&(Nat.beq t.len lo.length&&(Region.noSelect lo.toArray&&flowT lo.toArray t (Array.replicate lo.length false))))=true:=by kernel_rfl):Wp P r (.region id lo.toArray true) Q a w:=
 c_drawT t bs0 S _ h (fun a w h=>by obtain ⟨y1,vv,h1,h2⟩:=h;exact hK y1 vv a w h1 h2) hm hd
theorem c_forb1 {c:Code}{ι1:Type}(_S:St w0 M0 ds a w l bs fs)(mods:ι1→(Nat→Value)→List (Nat × Value)){l1:ι1→(Nat→Value)→List Value}[∀ x1 uu,SetG l (mods x1 uu) (l1 x1 uu)]   (rel:ι1→Prop)(μ:ι1→Nat)(z1:ι1)(h0:rel z1)(uu0:Nat→Value)(S0:St w0 M0 ds a w (l1 z1 uu0) bs fs)
  (hr:∀ x1 uu a w,rel x1→St w0 M0 ds a w (l1 x1 uu) bs fs→Wp P r c (Exit.then (fun a w=>∃ y1 vv,rel y1∧St w0 M0 ds a w (l1 y1 vv) bs fs∧μ y1 < μ x1) Q) a w):Wp P r (.loop c) Q a w:=by
 refine c_loop (ι:=ι1) (fun p a w=>rel p∧∃ uu,St w0 M0 ds a w (l1 p uu) bs fs) (fun p=>μ p) (z1) ⟨h0,uu0,S0⟩ ?_;rintro p a w ⟨h1,uu,S1⟩;refine wpIn_mono (hr p uu a w h1 S1) fun e a1 w1 hq=>?_
 cases e <;> first | exact hq | skip
 obtain ⟨y1,vv,h2,S2,hm⟩:=hq;exact ⟨y1,⟨h2,vv,S2⟩,hm⟩
theorem c_forf1 {c:Code}{ι1:Type}(_S:St w0 M0 ds a w l bs fs)(mods:ι1→(Nat→Value)→List (Nat × Value)){l1:ι1→(Nat→Value)→List Value}[∀ x1 uu,SetG l (mods x1 uu) (l1 x1 uu)](bs1:ι1→List Item)  (rel:ι1→Prop)(μ:ι1→Nat)(z1:ι1)(h0:rel z1)(uu0:Nat→Value)(S0:St w0 M0 ds a w (l1 z1 uu0) (bs1 z1) fs)
  (hr:∀ x1 uu a w,rel x1→St w0 M0 ds a w (l1 x1 uu) (bs1 x1) fs→Wp P r c (Exit.then (fun a w=>∃ y1 vv,rel y1∧St w0 M0 ds a w (l1 y1 vv) (bs1 y1) fs∧μ y1 < μ x1) Q) a w):Wp P r (.loop c) Q a w:=by
 refine c_loop (ι:=ι1) (fun p a w=>rel p∧∃ uu,St w0 M0 ds a w (l1 p uu) (bs1 p) fs) (fun p=>μ p) (z1) ⟨h0,uu0,S0⟩ ?_;rintro p a w ⟨h1,uu,S1⟩;refine wpIn_mono (hr p uu a w h1 S1) fun e a1 w1 hq=>?_
 cases e <;> first | exact hq | skip
 obtain ⟨y1,vv,h2,S2,hm⟩:=hq;exact ⟨y1,⟨h2,vv,S2⟩,hm⟩
theorem c_mrgf1 {x y:Code}{ι1:Type}(S:St w0 M0 ds a w l bs fs)(mods:ι1→(Nat→Value)→List (Nat × Value)){l1:ι1→(Nat→Value)→List Value}[∀ x1 uu,SetG l (mods x1 uu) (l1 x1 uu)](bs1:ι1→List Item)  (rel:ι1→Prop)
  (hx:Wp P r x (Exit.then (fun a w=>∃ y1 vv,rel y1∧St w0 M0 ds a w (l1 y1 vv) (bs1 y1) fs) Q) a w) (hy:∀ x1 uu a w,rel x1→St w0 M0 ds a w (l1 x1 uu) (bs1 x1) fs→Wp P r y Q a w):Wp P r (.seq x y) Q a w:=
 c_merge _ hx fun a w h=>by obtain ⟨y1,vv,h1,h2⟩:=h;exact hy y1 vv a w h1 h2
theorem c_fore2 {c:Code}{ι1:Type}{ι2:Type}(_S:St w0 M0 ds a w l bs fs)(mods:ι1→ι2→(Nat→Value)→List (Nat × Value)){l1:ι1→ι2→(Nat→Value)→List Value}[∀ x1 x2 uu,SetG l (mods x1 x2 uu) (l1 x1 x2 uu)](bs1:ι1→ι2→List Item)(fs1:ι1→ι2→List (World→Prop))(rel:ι1→ι2→Prop)(μ:ι1→ι2→Nat)(z1:ι1)(z2:ι2)(h0:rel z1 z2)(uu0:Nat→Value)(S0:St w0 M0 ds a w (l1 z1 z2 uu0) (bs1 z1 z2) (fs1 z1 z2))
  (hr:∀ x1 x2 uu a w,rel x1 x2→St w0 M0 ds a w (l1 x1 x2 uu) (bs1 x1 x2) (fs1 x1 x2)→Wp P r c (Exit.then (fun a w=>∃ y1 y2 vv,rel y1 y2∧St w0 M0 ds a w (l1 y1 y2 vv) (bs1 y1 y2) (fs1 y1 y2)∧μ y1 y2 < μ x1 x2) Q) a w):Wp P r (.loop c) Q a w:=by
 refine c_loop (ι:=ι1 × ι2) (fun p a w=>rel (p.1) (p.2)∧∃ uu,St w0 M0 ds a w (l1 (p.1) (p.2) uu) (bs1 (p.1) (p.2)) (fs1 (p.1) (p.2))) (fun p=>μ (p.1) (p.2)) (z1,z2) ⟨h0,uu0,S0⟩ ?_;rintro p a w ⟨h1,uu,S1⟩;refine wpIn_mono (hr (p.1) (p.2) uu a w h1 S1) fun e a1 w1 hq=>?_
 cases e <;> first | exact hq | skip
 obtain ⟨y1,y2,vv,h2,S2,hm⟩:=hq;exact ⟨(y1,y2),⟨h2,vv,S2⟩,hm⟩
theorem c_drwe2 {id:Nat}{lo:List Oper}{ι1:Type}{ι2:Type}(t:Tr)(S:St w0 M0 ds a w l bs fs)(mods:ι1→ι2→(Nat→Value)→List (Nat × Value)){l1:ι1→ι2→(Nat→Value)→List Value}[∀ x1 x2 uu,SetG l (mods x1 x2 uu) (l1 x1 x2 uu)](bs0:List Item)(bs1:ι1→ι2→List Item)(fs1:ι1→ι2→List (World→Prop))(rel:ι1→ι2→Prop)
  (h:∀ w,St w0 M0 ds a w l bs fs→AT P lo.toArray (fun w=>Wd w0 M0 w bs0 fs) (fun a w=>∃ y1 y2 vv,rel y1 y2∧St w0 M0 ds a w (l1 y1 y2 vv) (bs1 y1 y2) (fs1 y1 y2)) t a w) (hK:∀ x1 x2 uu a w,rel x1 x2→St w0 M0 ds a w (l1 x1 x2 uu) (bs1 x1 x2) (fs1 x1 x2)→Q .normal a w) (hm:P.follows .mixedOrders=true:=by kernel_rfl)
  (hd:((lo.all fun o=>!isDefer o.op)&&(Nat.beq t.len lo.length&&(Region.noSelect lo.toArray&&flowT lo.toArray t (Array.replicate lo.length false))))=true:=by kernel_rfl):Wp P r (.region id lo.toArray true) Q a w:=
 c_drawT t bs0 S _ h (fun a w h=>by obtain ⟨y1,y2,vv,h1,h2⟩:=h;exact hK y1 y2 vv a w h1 h2) hm hd
theorem c_forb2 {c:Code}{ι1:Type}{ι2:Type}(_S:St w0 M0 ds a w l bs fs)(mods:ι1→ι2→(Nat→Value)→List (Nat × Value)){l1:ι1→ι2→(Nat→Value)→List Value}[∀ x1 x2 uu,SetG l (mods x1 x2 uu) (l1 x1 x2 uu)]   (rel:ι1→ι2→Prop)(μ:ι1→ι2→Nat)(z1:ι1)(z2:ι2)(h0:rel z1 z2)(uu0:Nat→Value)(S0:St w0 M0 ds a w (l1 z1 z2 uu0) bs fs)
  (hr:∀ x1 x2 uu a w,rel x1 x2→St w0 M0 ds a w (l1 x1 x2 uu) bs fs→Wp P r c (Exit.then (fun a w=>∃ y1 y2 vv,rel y1 y2∧St w0 M0 ds a w (l1 y1 y2 vv) bs fs∧μ y1 y2 < μ x1 x2) Q) a w):Wp P r (.loop c) Q a w:=by
 refine c_loop (ι:=ι1 × ι2) (fun p a w=>rel (p.1) (p.2)∧∃ uu,St w0 M0 ds a w (l1 (p.1) (p.2) uu) bs fs) (fun p=>μ (p.1) (p.2)) (z1,z2) ⟨h0,uu0,S0⟩ ?_;rintro p a w ⟨h1,uu,S1⟩;refine wpIn_mono (hr (p.1) (p.2) uu a w h1 S1) fun e a1 w1 hq=>?_
 cases e <;> first | exact hq | skip
 obtain ⟨y1,y2,vv,h2,S2,hm⟩:=hq;exact ⟨(y1,y2),⟨h2,vv,S2⟩,hm⟩
theorem c_drwe3 {id:Nat}{lo:List Oper}{ι1:Type}{ι2:Type}{ι3:Type}(t:Tr)(S:St w0 M0 ds a w l bs fs)(mods:ι1→ι2→ι3→(Nat→Value)→List (Nat × Value)){l1:ι1→ι2→ι3→(Nat→Value)→List Value}[∀ x1 x2 x3 uu,SetG l (mods x1 x2 x3 uu) (l1 x1 x2 x3 uu)](bs0:List Item)(bs1:ι1→ι2→ι3→List Item)(fs1:ι1→ι2→ι3→List (World→Prop))(rel:ι1→ι2→ι3→Prop)
  (h:∀ w,St w0 M0 ds a w l bs fs→AT P lo.toArray (fun w=>Wd w0 M0 w bs0 fs) (fun a w=>∃ y1 y2 y3 vv,rel y1 y2 y3∧St w0 M0 ds a w (l1 y1 y2 y3 vv) (bs1 y1 y2 y3) (fs1 y1 y2 y3)) t a w) (hK:∀ x1 x2 x3 uu a w,rel x1 x2 x3→St w0 M0 ds a w (l1 x1 x2 x3 uu) (bs1 x1 x2 x3) (fs1 x1 x2 x3)→Q .normal a w) (hm:P.follows .mixedOrders=true:=by kernel_rfl)
  (hd:((lo.all fun o=>!isDefer o.op)&&(Nat.beq t.len lo.length&&(Region.noSelect lo.toArray&&flowT lo.toArray t (Array.replicate lo.length false))))=true:=by kernel_rfl):Wp P r (.region id lo.toArray true) Q a w:=
 c_drawT t bs0 S _ h (fun a w h=>by obtain ⟨y1,y2,y3,vv,h1,h2⟩:=h;exact hK y1 y2 y3 vv a w h1 h2) hm hd
theorem c_fore4 {c:Code}{ι1:Type}{ι2:Type}{ι3:Type}{ι4:Type}(_S:St w0 M0 ds a w l bs fs)(mods:ι1→ι2→ι3→ι4→(Nat→Value)→List (Nat × Value)){l1:ι1→ι2→ι3→ι4→(Nat→Value)→List Value}[∀ x1 x2 x3 x4 uu,SetG l (mods x1 x2 x3 x4 uu) (l1 x1 x2 x3 x4 uu)](bs1:ι1→ι2→ι3→ι4→List Item)(fs1:ι1→ι2→ι3→ι4→List (World→Prop))(rel:ι1→ι2→ι3→ι4→Prop)(μ:ι1→ι2→ι3→ι4→Nat)(z1:ι1)(z2:ι2)(z3:ι3)(z4:ι4)(h0:rel z1 z2 z3 z4)(uu0:Nat→Value)(S0:St w0 M0 ds a w (l1 z1 z2 z3 z4 uu0) (bs1 z1 z2 z3 z4) (fs1 z1 z2 z3 z4))
  (hr:∀ x1 x2 x3 x4 uu a w,rel x1 x2 x3 x4→St w0 M0 ds a w (l1 x1 x2 x3 x4 uu) (bs1 x1 x2 x3 x4) (fs1 x1 x2 x3 x4)→Wp P r c (Exit.then (fun a w=>∃ y1 y2 y3 y4 vv,rel y1 y2 y3 y4∧St w0 M0 ds a w (l1 y1 y2 y3 y4 vv) (bs1 y1 y2 y3 y4) (fs1 y1 y2 y3 y4)∧μ y1 y2 y3 y4 < μ x1 x2 x3 x4) Q) a w):Wp P r (.loop c) Q a w:=by
 refine c_loop (ι:=ι1 × ι2 × ι3 × ι4) (fun p a w=>rel (p.1) (p.2.1) (p.2.2.1) (p.2.2.2)∧∃ uu,St w0 M0 ds a w (l1 (p.1) (p.2.1) (p.2.2.1) (p.2.2.2) uu) (bs1 (p.1) (p.2.1) (p.2.2.1) (p.2.2.2)) (fs1 (p.1) (p.2.1) (p.2.2.1) (p.2.2.2))) (fun p=>μ (p.1) (p.2.1) (p.2.2.1) (p.2.2.2)) (z1,z2,z3,z4) ⟨h0,uu0,S0⟩ ?_;rintro p a w ⟨h1,uu,S1⟩;refine wpIn_mono (hr (p.1) (p.2.1) (p.2.2.1) (p.2.2.2) uu a w h1 S1) fun e a1 w1 hq=>?_
 cases e <;> first | exact hq | skip
 obtain ⟨y1,y2,y3,y4,vv,h2,S2,hm⟩:=hq;exact ⟨(y1,y2,y3,y4),⟨h2,vv,S2⟩,hm⟩
theorem c_fore5 {c:Code}{ι1:Type}{ι2:Type}{ι3:Type}{ι4:Type}{ι5:Type}(_S:St w0 M0 ds a w l bs fs)(mods:ι1→ι2→ι3→ι4→ι5→(Nat→Value)→List (Nat × Value)){l1:ι1→ι2→ι3→ι4→ι5→(Nat→Value)→List Value}[∀ x1 x2 x3 x4 x5 uu,SetG l (mods x1 x2 x3 x4 x5 uu) (l1 x1 x2 x3 x4 x5 uu)](bs1:ι1→ι2→ι3→ι4→ι5→List Item)(fs1:ι1→ι2→ι3→ι4→ι5→List (World→Prop))(rel:ι1→ι2→ι3→ι4→ι5→Prop)(μ:ι1→ι2→ι3→ι4→ι5→Nat)(z1:ι1)(z2:ι2)(z3:ι3)(z4:ι4)(z5:ι5)(h0:rel z1 z2 z3 z4 z5)(uu0:Nat→Value)(S0:St w0 M0 ds a w (l1 z1 z2 z3 z4 z5 uu0) (bs1 z1 z2 z3 z4 z5) (fs1 z1 z2 z3 z4 z5))
  (hr:∀ x1 x2 x3 x4 x5 uu a w,rel x1 x2 x3 x4 x5→St w0 M0 ds a w (l1 x1 x2 x3 x4 x5 uu) (bs1 x1 x2 x3 x4 x5) (fs1 x1 x2 x3 x4 x5)→Wp P r c (Exit.then (fun a w=>∃ y1 y2 y3 y4 y5 vv,rel y1 y2 y3 y4 y5∧St w0 M0 ds a w (l1 y1 y2 y3 y4 y5 vv) (bs1 y1 y2 y3 y4 y5) (fs1 y1 y2 y3 y4 y5)∧μ y1 y2 y3 y4 y5 < μ x1 x2 x3 x4 x5) Q) a w):Wp P r (.loop c) Q a w:=by
 refine c_loop (ι:=ι1 × ι2 × ι3 × ι4 × ι5) (fun p a w=>rel (p.1) (p.2.1) (p.2.2.1) (p.2.2.2.1) (p.2.2.2.2)∧∃ uu,St w0 M0 ds a w (l1 (p.1) (p.2.1) (p.2.2.1) (p.2.2.2.1) (p.2.2.2.2) uu) (bs1 (p.1) (p.2.1) (p.2.2.1) (p.2.2.2.1) (p.2.2.2.2)) (fs1 (p.1) (p.2.1) (p.2.2.1) (p.2.2.2.1) (p.2.2.2.2))) (fun p=>μ (p.1) (p.2.1) (p.2.2.1) (p.2.2.2.1) (p.2.2.2.2)) (z1,z2,z3,z4,z5) ⟨h0,uu0,S0⟩ ?_;rintro p a w ⟨h1,uu,S1⟩;refine wpIn_mono (hr (p.1) (p.2.1) (p.2.2.1) (p.2.2.2.1) (p.2.2.2.2) uu a w h1 S1) fun e a1 w1 hq=>?_
 cases e <;> first | exact hq | skip
 obtain ⟨y1,y2,y3,y4,y5,vv,h2,S2,hm⟩:=hq;exact ⟨(y1,y2,y3,y4,y5),⟨h2,vv,S2⟩,hm⟩
theorem c_fore6 {c:Code}{ι1:Type}{ι2:Type}{ι3:Type}{ι4:Type}{ι5:Type}{ι6:Type}(_S:St w0 M0 ds a w l bs fs)(mods:ι1→ι2→ι3→ι4→ι5→ι6→(Nat→Value)→List (Nat × Value)){l1:ι1→ι2→ι3→ι4→ι5→ι6→(Nat→Value)→List Value}[∀ x1 x2 x3 x4 x5 x6 uu,SetG l (mods x1 x2 x3 x4 x5 x6 uu) (l1 x1 x2 x3 x4 x5 x6 uu)](bs1:ι1→ι2→ι3→ι4→ι5→ι6→List Item)(fs1:ι1→ι2→ι3→ι4→ι5→ι6→List (World→Prop))(rel:ι1→ι2→ι3→ι4→ι5→ι6→Prop)(μ:ι1→ι2→ι3→ι4→ι5→ι6→Nat)(z1:ι1)(z2:ι2)(z3:ι3)(z4:ι4)(z5:ι5)(z6:ι6)(h0:rel z1 z2 z3 z4 z5 z6)(uu0:Nat→Value)(S0:St w0 M0 ds a w (l1 z1 z2 z3 z4 z5 z6 uu0) (bs1 z1 z2 z3 z4 z5 z6) (fs1 z1 z2 z3 z4 z5 z6))
  (hr:∀ x1 x2 x3 x4 x5 x6 uu a w,rel x1 x2 x3 x4 x5 x6→St w0 M0 ds a w (l1 x1 x2 x3 x4 x5 x6 uu) (bs1 x1 x2 x3 x4 x5 x6) (fs1 x1 x2 x3 x4 x5 x6)→Wp P r c (Exit.then (fun a w=>∃ y1 y2 y3 y4 y5 y6 vv,rel y1 y2 y3 y4 y5 y6∧St w0 M0 ds a w (l1 y1 y2 y3 y4 y5 y6 vv) (bs1 y1 y2 y3 y4 y5 y6) (fs1 y1 y2 y3 y4 y5 y6)∧μ y1 y2 y3 y4 y5 y6 < μ x1 x2 x3 x4 x5 x6) Q) a w):Wp P r (.loop c) Q a w:=by
 refine c_loop (ι:=ι1 × ι2 × ι3 × ι4 × ι5 × ι6) (fun p a w=>rel (p.1) (p.2.1) (p.2.2.1) (p.2.2.2.1) (p.2.2.2.2.1) (p.2.2.2.2.2)∧∃ uu,St w0 M0 ds a w (l1 (p.1) (p.2.1) (p.2.2.1) (p.2.2.2.1) (p.2.2.2.2.1) (p.2.2.2.2.2) uu) (bs1 (p.1) (p.2.1) (p.2.2.1) (p.2.2.2.1) (p.2.2.2.2.1) (p.2.2.2.2.2)) (fs1 (p.1) (p.2.1) (p.2.2.1) (p.2.2.2.1) (p.2.2.2.2.1) (p.2.2.2.2.2))) (fun p=>μ (p.1) (p.2.1) (p.2.2.1) (p.2.2.2.1) (p.2.2.2.2.1) (p.2.2.2.2.2)) (z1,z2,z3,z4,z5,z6) ⟨h0,uu0,S0⟩ ?_;rintro p a w ⟨h1,uu,S1⟩;refine wpIn_mono (hr (p.1) (p.2.1) (p.2.2.1) (p.2.2.2.1) (p.2.2.2.2.1) (p.2.2.2.2.2) uu a w h1 S1) fun e a1 w1 hq=>?_
 cases e <;> first | exact hq | skip
 obtain ⟨y1,y2,y3,y4,y5,y6,vv,h2,S2,hm⟩:=hq;exact ⟨(y1,y2,y3,y4,y5,y6),⟨h2,vv,S2⟩,hm⟩
end
class ItOk (x:Item):Prop where
 loc:∀ w1 w2:World,(∀ k,x.foot k→w2.heap[k]? = w1.heap[k]?)→x.holds w1→x.holds w2
 lt:∀ w:World,x.holds w→∀ k,x.foot k→k < w.heap.size
instance itBox {b:Nat}{t:TypeId}{cs:List Value} : ItOk (box b t cs):=⟨box_loc b t cs,fun w h k hk=>by simp only[box]at hk h;subst hk;exact (Array.getElem?_eq_some_iff.1 h).1⟩
instance itRow {e:TypeId}{sz:Nat}{p:Option Addr}{n c:Nat}{xs:List Value} : ItOk (row e sz p n c xs):=⟨row_loc e sz p n c xs,fun _ h=>row_foot_lt h⟩
def both (x y:Item):Item where
 foot:=fun k=>x.foot k∨y.foot k
 holds:=fun w=>x.holds w∧y.holds w∧∀ k,x.foot k→¬y.foot k
 own:=x.own&&y.own
instance itBoth {x y:Item}[hx:ItOk x][hy:ItOk y]:ItOk (both x y):=⟨fun w1 w2 h h1=>⟨hx.loc w1 w2 (fun k hk=>h k (.inl hk)) h1.1,hy.loc w1 w2 (fun k hk=>h k (.inr hk)) h1.2.1,h1.2.2⟩,fun w h k hk=>hk.elim (hx.lt w h.1 k) (hy.lt w h.2.1 k)⟩
theorem foots_both {x y:Item}{bs:List Item} : foots (both x y::bs)=foots (x::y::bs):=by
 funext k
 simp only[foots,List.mem_cons,or_and_right,exists_or,exists_eq_left,both,or_assoc]
section
variable {w0:World}{M0:Nat→Prop}{ds:List Deferred}{a:Act}{w:World}{l:List Value}{bs bs':List Item}{fs:List (World→Prop)}{x y:Item}
theorem Wd.toBoth [ox:ItOk x][oy:ItOk y](h:Wd w0 M0 w (x::y::bs) fs)(hx:x.own=true)(hy:y.own=true):Wd w0 M0 w (both x y::bs) fs:=by
 have hp:=List.pairwise_cons.1 h.apart;have hp2:=List.pairwise_cons.1 hp.2;have hap:∀ k,x.foot k→¬y.foot k:=hp.1 y (by simp);refine ⟨h.agree,?_,?_,?_,?_,?_,?_⟩;intro it hi;rcases List.mem_cons.1 hi with rfl | hi
 exact ⟨h.held x (by simp),h.held y (by simp),hap⟩;exact h.held it (by simp[hi]);intro it hi k hk;rcases List.mem_cons.1 hi with rfl | hi
 exact hk.elim (h.lt x (by simp) k) (h.lt y (by simp) k);exact h.lt it (by simp[hi]) k hk;intro it hi ho k hk;rcases List.mem_cons.1 hi with rfl | hi
 exact hk.elim (h.own x (by simp) hx k) (h.own y (by simp) hy k);exact h.own it (by simp[hi]) ho k hk;exact List.pairwise_cons.2 ⟨fun it hi k hk=>hk.elim (hp.1 it (by simp[hi]) k) (hp2.1 it hi k),hp2.2⟩;intro Φ hΦ;rw[foots_both];exact h.facts Φ hΦ;intro it hi;rcases List.mem_cons.1 hi with rfl | hi
 exact (itBoth (x:=x) (y:=y)).loc;exact h.loc it (by simp[hi])
theorem Wd.ofBoth [ox:ItOk x][oy:ItOk y](h:Wd w0 M0 w (both x y::bs) fs)(hx:x.own=true)(hy:y.own=true):Wd w0 M0 w (x::y::bs) fs:=by
 have hb:=h.held (both x y) (by simp);have hp:=List.pairwise_cons.1 h.apart;have hown:=h.own (both x y) (by simp) (by simp[both,hx,hy]);refine ⟨h.agree,?_,?_,?_,?_,?_,?_⟩;intro it hi;rcases List.mem_cons.1 hi with rfl | hi
 exact hb.1;rcases List.mem_cons.1 hi with rfl | hi
 exact hb.2.1;exact h.held it (by simp[hi]);intro it hi k hk;rcases List.mem_cons.1 hi with rfl | hi
 exact h.lt (both it y) (by simp) k (.inl hk);rcases List.mem_cons.1 hi with rfl | hi
 exact h.lt (both x it) (by simp) k (.inr hk);exact h.lt it (by simp[hi]) k hk;intro it hi ho k hk;rcases List.mem_cons.1 hi with rfl | hi
 exact hown k (.inl hk);rcases List.mem_cons.1 hi with rfl | hi
 exact hown k (.inr hk);exact h.own it (by simp[hi]) ho k hk;refine List.pairwise_cons.2 ⟨fun it hi k hk=>?_,List.pairwise_cons.2 ⟨fun it hi k hk=>hp.1 it hi k (.inr hk),hp.2⟩⟩;rcases List.mem_cons.1 hi with rfl | hi
 exact hb.2.2 k hk;exact hp.1 it hi k (.inl hk);intro Φ hΦ;rw[←foots_both];exact h.facts Φ hΦ;intro it hi;rcases List.mem_cons.1 hi with rfl | hi
 exact ox.loc;rcases List.mem_cons.1 hi with rfl | hi
 exact oy.loc;exact h.loc it (by simp[hi])
theorem St.perm (S:St w0 M0 ds a w l bs fs)(bs':List Item)(hp:bs'.Perm bs):St w0 M0 ds a w l bs' fs:=⟨S.slots,S.defers,S.wd.perm hp⟩
theorem St.toBoth [ItOk x][ItOk y](S:St w0 M0 ds a w l (x::y::bs) fs)(hx:x.own=true:=by rfl)(hy:y.own=true:=by rfl):St w0 M0 ds a w l (both x y::bs) fs:=⟨S.slots,S.defers,S.wd.toBoth hx hy⟩
theorem St.ofBoth [ItOk x][ItOk y](S:St w0 M0 ds a w l (both x y::bs) fs)(hx:x.own=true:=by rfl)(hy:y.own=true:=by rfl):St w0 M0 ds a w l (x::y::bs) fs:=⟨S.slots,S.defers,S.wd.ofBoth hx hy⟩
theorem Wd.itLent {x:Item}[ox:ItOk x](h:x.holds w)(hf:∀ Φ∈fs,Stable x.foot w Φ):Wd w x.foot w [x] fs:=by
 refine ⟨Agree.refl _ _,?_,?_,?_,by simp,?_,?_⟩;intro it hi;obtain rfl:=List.mem_singleton.1 hi;exact h;intro it hi;obtain rfl:=List.mem_singleton.1 hi;exact ox.lt w h;intro it hi _ k hk;obtain rfl:=List.mem_singleton.1 hi;exact .inl hk;intro Φ hΦ;refine (hf Φ hΦ).less fun k _ hk=>?_
 obtain ⟨it,hi,hk⟩:=hk;obtain rfl:=List.mem_singleton.1 hi;exact hk;intro it hi;obtain rfl:=List.mem_singleton.1 hi;exact ox.loc
class HasIt (bs:List Item)(x:Item):Prop where mem:x∈bs
instance hit0 {x:Item}{bs:List Item} : HasIt (x::bs) x:=⟨List.mem_cons_self ..⟩
instance (priority:=900) hit1 {x y:Item}{bs:List Item}[h:HasIt bs x]:HasIt (y::bs) x:=⟨List.mem_cons_of_mem _ h.mem⟩
theorem St.it (S:St w0 M0 ds a w l bs fs)(x:Item)[h:HasIt bs x]:x.holds w:=S.wd.held _ h.mem
theorem St.lend (_S:St w0 M0 ds a w l bs fs)(x:Item)[h:HasIt bs x]{Φ:World→Prop}(hΦ:Stable (foots bs) w Φ):Stable x.foot w Φ:=hΦ.less fun _ _ hk=>⟨_,h.mem,hk⟩
theorem St.itNew (S:St w0 M0 ds a w l bs fs)(x:Item)[h:HasIt bs x](ho:x.own=true:=by rfl):∀ k,x.foot k→M0 k∨w0.heap.size≤k:=S.wd.own _ h.mem ho
end
section
variable {P:Program}{r:Option Nat}{ops:Array Oper}{Q:Exit→Act→World→Prop}{w0:World}{M0:Nat→Prop}{ds:List Deferred}{a:Act}{w:World}{l:List Value}{bs:List Item}{fs:List (World→Prop)}
 {d:Option Nat} {ty:TypeId} {pos:String} {af:Array Edge} {rest:List Oper} {f:Nat} {x:Operand} {ys:List Operand} {args:List Value} {ts:Array TypeId}
theorem sit {l':Value→List Value}(it:Item)[EntF P f][CallTo ⟨[],l⟩ x ys f args][hp:∀ v,PutO l d v (l' v)](S:St w0 M0 ds a w l bs fs){R:Value→World→Prop}(hc:Ret P f args w it.foot R)(ho:it.own=true)
  (K:∀ v a w',R v w'→(∀ (y:Item) {bs':List Item} [ReplI bs it y bs'] [ItOk y],y.holds w'→(∀ k,y.foot k→it.foot k∨w.heap.size≤k)→St w0 M0 ds a w' (l' v) bs' fs)→WL P r ops Q rest a w') :
  WL P r ops Q (⟨d,.call { callee:=.value x,args:=ys.toArray,argTypes:=ts },ty,pos,af,none⟩::rest) a w:=
 sri it S hc ho fun v a w' hR hS=>K v a w' hR fun y bs' hr oy h hf=>hS y bs' hr h hf (oy.lt w' h) oy.loc
end
instance:IsNat 6 6:=⟨rfl⟩
instance:IsNat 7 7:=⟨rfl⟩
instance:IsNat 8 8:=⟨rfl⟩
instance:IsNat 9 9:=⟨rfl⟩
theorem str_cut (s:List UInt8)(lo hi:Nat):(⟨s.toArray⟩:ByteArray).extract lo hi=⟨((s.take hi).drop lo).toArray⟩:=by
 apply ByteArray.ext;rw[ByteArray.data_extract];simp[List.extract_eq_take_drop,List.drop_take]
section
variable {P:Program}{l lc:Cx}{bs:List Item}{fs:List (World→Prop)}{x y:Operand}{p:Option Addr}{n c k:Nat}{t ty e:TypeId}{z:Value}{sz by_:Nat}{ol oh om:Option Operand}{lo hi mx:Nat}{s:List UInt8}
instance opSliceStr [Ev lc x (str s)][hl:EvB lc ol 0 lo][hh:EvB lc oh s.length hi][Und P t .string][h1:LeC hi s.length][h2:LeC lo hi]:OpQ P (.slice t x ol oh none) ty lc bs fs (str ((s.take hi).drop lo)):=⟨fun ρ w hf _=>by
 have eX:ρ x=str s:=hf.ev;have hb:(Instr.sliceBounds false s.length s.length (ol.map ρ) (oh.map ρ) none).run P w=.ok (lo,hi,s.length) w:=by
  rcases hh.eq with ⟨rfl,rfl⟩ | ⟨o2,kk2,rfl,h'⟩
  rcases hl.eq with ⟨rfl,rfl⟩ | ⟨o3,kk3,rfl,h''⟩
  simp[Instr.sliceBounds];have e3:=hf.ev (x:=o3) (v:=.int kk3 (lo:Int));simp[Instr.sliceBounds,e3,run_sliceBound h2.le];have e2:=hf.ev (x:=o2) (v:=.int kk2 (hi:Int));rcases hl.eq with ⟨rfl,rfl⟩ | ⟨o3,kk3,rfl,h''⟩
  simp[Instr.sliceBounds,e2,run_sliceBound h1.le];have e3:=hf.ev (x:=o3) (v:=.int kk3 (lo:Int));simp[Instr.sliceBounds,Sem.run_bind,e2,e3,run_sliceBound h1.le,run_sliceBound h2.le]
 have hsz:(⟨s.toArray⟩:ByteArray).size=s.length:=rfl;simp[xop,execOp,eX,Instr.sliceAt,Instr.slice,Sem.run_bind,run_und,hsz,hb,str_cut]⟩
end
theorem Wd.itLentM {w:World}{fs:List (World→Prop)}{x:Item}{Mr:Nat→Prop}[ox:ItOk x](h:x.holds w)(hM:∀ k,Mr k→k < w.heap.size∧¬x.foot k)(hf:∀ Φ∈fs,Stable (fun k=>x.foot k∨Mr k) w Φ):Wd w x.foot w [x,ext Mr] fs:=by
 refine ⟨Agree.refl _ _,?_,?_,?_,?_,?_,?_⟩;intro it hi;rcases List.mem_cons.1 hi with rfl | hi
 exact h;obtain rfl:=List.mem_singleton.1 hi;trivial;intro it hi k hk;rcases List.mem_cons.1 hi with rfl | hi
 exact ox.lt w h k hk;obtain rfl:=List.mem_singleton.1 hi;exact (hM k hk).1;intro it hi ho k hk;rcases List.mem_cons.1 hi with rfl | hi
 exact .inl hk;obtain rfl:=List.mem_singleton.1 hi;cases ho;refine List.pairwise_cons.2 ⟨fun it hi k hk hk'=>?_,by simp⟩;obtain rfl:=List.mem_singleton.1 hi;exact (hM k hk').2 hk;intro Φ hΦ;refine (hf Φ hΦ).less fun k _ hk=>?_
 obtain ⟨it,hi,hk⟩:=hk;rcases List.mem_cons.1 hi with rfl | hi
 exact .inl hk;obtain rfl:=List.mem_singleton.1 hi;exact .inr hk;intro it hi;rcases List.mem_cons.1 hi with rfl | hi
 exact ox.loc;obtain rfl:=List.mem_singleton.1 hi;exact fun _ _ _ _=>trivial
theorem Wd.it2LentM {w:World}{fs:List (World→Prop)}{x y:Item}{Mr:Nat→Prop}[ox:ItOk x][oy:ItOk y](h:(both x y).holds w)(hx:x.own=true)(hy:y.own=true)(hM:∀ k,Mr k→k < w.heap.size∧¬(both x y).foot k)(hf:∀ Φ∈fs,Stable (fun k=>(both x y).foot k∨Mr k) w Φ):Wd w (both x y).foot w [x,y,ext Mr] fs:=(Wd.itLentM h hM hf).ofBoth hx hy
def restOf (bs:List Item)(x:Item):Nat→Prop:=fun k=>foots bs k∧¬x.foot k
theorem St.restOk {w0:World}{M0:Nat→Prop}{ds:List Deferred}{a:Act}{w:World}{l:List Value}{bs:List Item}{fs:List (World→Prop)}(S:St w0 M0 ds a w l bs fs)(x:Item):∀ k,restOf bs x k→k < w.heap.size∧¬x.foot k:=fun k h=>⟨foots_lt S k h.1,h.2⟩
theorem Stable.split {bs:List Item}{w:World}{Φ:World→Prop}(x:Item)[hx:HasIt bs x](h:Stable (foots bs) w Φ):Stable (fun k=>x.foot k∨restOf bs x k) w Φ:=h.less fun _ _ hk=>hk.elim (fun h=>⟨x,hx.mem,h⟩) (fun h=>h.1)
section
variable {P:Program}{r:Option Nat}{ops:Array Oper}{Q:Exit→Act→World→Prop}{w0:World}{M0:Nat→Prop}{ds:List Deferred}{a:Act}{w:World}{l:List Value}{bs bs':List Item}{fs:List (World→Prop)}
 {d:Option Nat} {ty:TypeId} {pos:String} {af:Array Edge} {rest:List Oper} {f:Nat} {x:Operand} {ys:List Operand} {args:List Value} {ts:Array TypeId}
theorem St.addAll (S:St w0 M0 ds a w l bs fs):∀ (fs2:List (World→Prop)),(∀ Φ∈fs2,Stable (foots bs) w Φ)→St w0 M0 ds a w l bs (fs2++fs)
 | [],_=>S
 | Φ::fs2,h=>(St.addAll S fs2 (fun Ψ hΨ=>h Ψ (by simp[hΨ]))).add (h Φ (by simp))
theorem sitM {l':Value→List Value}(it:Item)[EntF P f][CallTo ⟨[],l⟩ x ys f args][hp:∀ v,PutO l d v (l' v)](S:St w0 M0 ds a w l bs fs){R:Value→World→Prop}(hc:Ret P f args w it.foot R)(ho:it.own=true)
  (K:∀ v a w',R v w'→(∀ (y:Item) (fs2:List (World→Prop)) {fs3:List (World→Prop)} {bs':List Item} [AppL fs2 fs fs3] [ReplI bs it y bs'] [ItOk y],y.holds w'→(∀ k,y.foot k→it.foot k∨w.heap.size≤k)→(∀ Φ∈fs2,Stable (fun k=>y.foot k∨restOf bs it k) w' Φ)→St w0 M0 ds a w' (l' v) bs' fs3)→WL P r ops Q rest a w') :
  WL P r ops Q (⟨d,.call { callee:=.value x,args:=ys.toArray,argTypes:=ts },ty,pos,af,none⟩::rest) a w:=by
 have hap:=S.wd.apart;refine sit it S hc ho fun v a w' hR hS=>K v a w' hR fun y fs2 fs3 bs' happ hr oy hy hf hfs=>?_
 rw[←happ.eq];refine (hS y hy hf).addAll fs2 fun Φ hΦ=>(hfs Φ hΦ).less fun k _ hk=>?_
 obtain ⟨pre,post,rfl,rfl⟩:=hr.ex;obtain ⟨z,hz,hk⟩:=hk;have hp:=List.pairwise_append.1 hap;rcases List.mem_append.1 hz with hz | hz
 exact .inr ⟨⟨z,by simp[hz],hk⟩,hp.2.2 z hz it (by simp) k hk⟩;rcases List.mem_cons.1 hz with rfl | hz
 exact .inl hk;exact .inr ⟨⟨z,by simp[hz],hk⟩,fun hx=>(List.pairwise_cons.1 hp.2.1).1 z hz k hx hk⟩
theorem St.boxToF (S:St w0 M0 ds a w l bs fs)(b:Nat){t:TypeId}{cs:List Value}[_hb:HasBox bs b t cs][hd:DropI bs (Wk.box b t cs) bs']:St w0 M0 ds a w l bs' (BoxF b t cs::fs):=by
 have S1:=S.perm _ hd.perm;have hap:=List.pairwise_cons.1 S1.wd.apart;have hbx:BoxF b t cs w:=S1.wd.held (Wk.box b t cs) (by simp);have S2:St w0 M0 ds a w l bs' fs:=⟨S1.slots,S1.defers,S1.wd.sub (.cons _ (.refl _)) (.refl _)⟩;exact S2.add (BoxF.stable hbx fun ⟨it,hi,hk⟩=>hap.1 it hi b rfl hk)
end
theorem St.frontLs {w0:World}{M0:Nat→Prop}{ds:List Deferred}{a:Act}{w:World}{l:List Value}{bs bs':List Item}{fs:List (World→Prop)}(S:St w0 M0 ds a w l bs fs)(b:Nat)(ts:List LTerm){T:TypeId}{cs:List Value}[hb:HasBox bs b T cs][hd:DropI bs (Wk.box b T cs) bs'](hc:cs=ts.flatMap LTerm.cells)(h:∀ t∈ts,Stable (foots bs) w (LtF t)):St w0 M0 ds a w l bs' (LsF (some ⟨b,0,none⟩) 0 ts::fs):=by
 have S1:St w0 M0 ds a w l (Wk.box b T cs::bs') fs:=S.perm _ hd.perm;refine S1.boxLs ts hc fun t ht=>(h t ht).less fun k _ ⟨it,hi,hk⟩=>⟨it,(hd.perm.mem_iff).1 hi,hk⟩
instance condsU {pol:Bool} : Conds undef pol [false]:=⟨by simp[undef]⟩
theorem gU {P:Program}{r:Option Nat}{ops:Array Oper}{Q:Exit→Act→World→Prop}{w0:World}{M0:Nat→Prop}{ds:List Deferred}{a:Act}{w:World}{l l':List Value}{bs:List Item}{fs:List (World→Prop)}{d:Option Nat}{op:Op}{ty:TypeId}{pos:String}{af:Array Edge}{rest:List Oper}{j g:Nat}{pol:Bool}
  (S:St w0 M0 ds a w l bs fs) [hp:PutO l d undef l'] [hg:GSlot ops j g] [hn:Nth l g undef] (h:∀ a,St w0 M0 ds a w l' bs fs→WL P r ops Q rest a w):WL P r ops Q (⟨d,op,ty,pos,af,some (j,pol)⟩::rest) a w:=
 wl_guard (fun ht=>by
  have:=(wanted_iff (ops:=ops) (d:=d) (op:=op) (ty:=ty) (pos:=pos) (af:=af) (pol:=pol) S hg.eq).1 ht;simp at this) fun _=>h _ S.put
section
variable {P:Program}{l:Cx}{bs:List Item}{fs:List (World→Prop)}{x y:Operand}{k:Nat}{kk:IntKind}{m:Int}{t ty:TypeId}{s:List UInt8}
instance opIndexStr [Ev l x (str s)][Ev l y (.int kk m)][Und P t .string][hm:IsNat m k][hk:KLt k s.length]:OpQ P (.index t x y) ty l bs fs (.int .u8 ((nthG s k).toNat:Int)):=⟨fun ρ w h _=>by
 have h2:=hm.eq;subst h2;have hlt:=hk.lt;have hsz:k < (⟨s.toArray⟩:ByteArray).size:=hlt;have hb:(⟨s.toArray⟩:ByteArray)[k]? = some (nthG s k):=by
  rw[getElem?_pos (⟨s.toArray⟩:ByteArray) k hsz];have:(⟨s.toArray⟩:ByteArray)[k]=s[k]:=rfl;rw[this];have:=nthG_get hlt;rw[List.getElem?_eq_getElem hlt]at this;exact this
 simp[xop,execOp,h.ev (x:=x) (v:=str s),h.ev (x:=y) (v:=.int kk (k:Int)),Instr.index,asIntOf,Sem.run_bind,run_und,hb]⟩
end
def idxG {α:Type}(q:α→Bool):List α→Int→Int
 | [],_=>-1
 | x::xs,i=>if q x then i else idxG q xs (i+1)
theorem idxG_any {α:Type}(q:α→Bool):∀ (xs:List α) (i:Int),0≤i→(decide (0≤idxG q xs i)=xs.any q)
 | [],i,h=>by simp[idxG]
 | x::xs,i,h=>by
  rw[idxG,List.any_cons];cases hq:q x with
  | true=>simp[h]
  | false=>simpa using idxG_any q xs (i+1) (by omega)
def AllI {α:Type}[Lay α](L:List α):World→Prop:=fun w=>∀ x∈L,Lay.inn w x
theorem AllI.nil {α:Type}[Lay α]{M:Nat→Prop}{w:World} : Stable M w (AllI (α:=α) []):=fun _ _ _ h=>by cases h
theorem AllI.get {α:Type}[Lay α]{M:Nat→Prop}{w:World}{L:List α}(h:Stable M w (AllI L)){x:α}(hx:x∈L):Stable M w (InF x):=fun w' hw=>h w' hw x hx
theorem AllI.snoc {α:Type}[Lay α]{M:Nat→Prop}{w:World}{L:List α}{r:α}(h:Stable M w (AllI L))(hr:Stable M w (InF r)):Stable M w (AllI (L++[r])):=fun w' hw x hx=>by
 rcases List.mem_append.1 hx with hx | hx
 exact h w' hw x hx;rw[List.mem_singleton.1 hx];exact hr w' hw
theorem gl_own {α:Type}[Lay α]{M:Nat→Prop}{w:World}{e:TypeId}{p:Option Addr}{n c sz:Nat}{xs:List α}(h:w.ownsRow 0 e sz (.slice p n c) n (encL xs))(hk:Stable M w (AllI xs))(hM:∀ ad,p=some ad→¬M ad.block):Stable M w (GlF p xs):=gl_of_own h (fun _ hx=>AllI.get hk hx) hM
end Go.Wk
namespace Go.Proofs.YtibkkbknnfehlaaGreatDoor
open Go Go.Wk
set_option synthInstance.maxSize 100000
set_option synthInstance.maxHeartbeats 400000
set_option maxRecDepth 100000
structure LPerm where
 owner:Int
 epoch:Int
 rd:Sl Int
 wr:Sl Int
 gr:Sl Int
instance encPerm:Enc LPerm:=⟨5,fun p=>[.int .i64 p.owner,.int .i64 p.epoch,p.rd.v,p.wr.v,p.gr.v],fun _=>rfl,fun x u hu=>by simp only[List.mem_cons,List.not_mem_nil,or_false]at hu;rcases hu with rfl | rfl | rfl | rfl | rfl <;> rfl⟩
instance layPerm:Lay LPerm:={ encPerm with
 dflt:=⟨0,0,⟨none,0,[]⟩,⟨none,0,[]⟩,⟨none,0,[]⟩⟩
 inn:=fun w p=>Lay.inn w p.rd∧Lay.inn w p.wr∧Lay.inn w p.gr
 mono:=fun w w' _x h hx=>⟨Lay.mono w w' _ h hx.1,Lay.mono w w' _ h hx.2.1,Lay.mono w w' _ h hx.2.2⟩ }
abbrev cPerm (p:LPerm):List Value:=[.int .i64 p.owner,.int .i64 p.epoch,.slice p.rd.p p.rd.xs.length p.rd.cap,.slice p.wr.p p.wr.xs.length p.wr.cap,.slice p.gr.p p.gr.xs.length p.gr.cap]
abbrev vPerm (p:LPerm):Value:=.agg ⟨[.int .i64 p.owner,.int .i64 p.epoch,.slice p.rd.p p.rd.xs.length p.rd.cap,.slice p.wr.p p.wr.xs.length p.wr.cap,.slice p.gr.p p.gr.xs.length p.gr.cap]⟩
instance (priority:=850) hasi_prd {fs:List (World→Prop)}{p:LPerm}[h:HasI fs p]:HasI fs p.rd:=⟨fun M w hf=>(h.of M w hf).imp fun _ h=>h.1⟩
instance (priority:=850) hasi_pwr {fs:List (World→Prop)}{p:LPerm}[h:HasI fs p]:HasI fs p.wr:=⟨fun M w hf=>(h.of M w hf).imp fun _ h=>h.2.1⟩
instance (priority:=850) hasi_pgr {fs:List (World→Prop)}{p:LPerm}[h:HasI fs p]:HasI fs p.gr:=⟨fun M w hf=>(h.of M w hf).imp fun _ h=>h.2.2⟩
def okU (u:Int):Bool:=decide (1≤u)&&decide (u≤6)
def okG (u:Int):Bool:=decide (1≤u)&&decide (u≤3)
theorem puser_c (u:Int)(w0:World):Ret Tryz.prog 78 [.int .i64 u] w0 (fun _=>False) fun v _=>v=.bool (okU u):=by
 refine E1 Tryz.func78 rfl Tryz.ntmps78 (Wd.start w0) ?_;intro a S;refine J17 ?_;intro a S;refine end1 S (fun _=>rfl)
instance {u:Int}{bs fs} : CallV Tryz.prog 78 [.int .i64 u] bs fs (.bool (okU u)):=⟨fun w _=>puser_c u w⟩
theorem pgroup_c (u:Int)(w0:World):Ret Tryz.prog 80 [.int .i64 u] w0 (fun _=>False) fun v _=>v=.bool (okG u):=by
 refine E1 Tryz.func80 rfl Tryz.ntmps80 (Wd.start w0) ?_;intro a S;refine J17 ?_;intro a S;refine end1 S (fun _=>rfl)
def risF (q:Int→Bool):Option Int→List Int→Bool
 | _,[]=>true
 | o,x::xs=>(q x&&(match o with | none=>true | some y=>decide (y < x)))&&risF q (some x) xs
theorem risF_cons (q:Int→Bool)(o:Option Int)(x:Int)(xs:List Int):risF q o (x::xs)=((q x&&(match o with | none=>true | some y=>decide (y < x)))&&risF q (some x) xs):=rfl
def lastG (xs:List Int):Nat→Option Int
 | 0=>none
 | j+1=>some (nthG xs j)
theorem rising_c (F:Nat)[EntF Tryz.prog F](ca:List Value)(q:Int→Bool)(xs:List Int)(p:Option Addr)(n c:Nat)(w0:World)(hn:xs.length=n)(hl:n≤9223372036854775807)(hx:Fx w0 (GlF p xs))
  (hF:∀ x∈xs,∀ w,Agree (fun _=>False) w0 w→Ret Tryz.prog F (.int .i64 x::ca) w (fun _=>False) fun v _=>v=.bool (q x)) :
  Ret Tryz.prog 79 [.slice p n c,.func (.func F) #[] ⟨ca⟩] w0 (fun _=>False) fun v _=>v=.bool (risF q none xs):=by
 subst hn;refine E1 Tryz.func79 rfl Tryz.ntmps79 (Wd.begin (fs:=[GlF p xs]) (by simpa using hx)) ?_;intro a S;refine J14 ?_;intro a S;refine c_forb1 S (fun(k:Nat) uu=>[(4,uu 4),(0,uu 5),(0,uu 6),(2,.int .i64 (k:Nat)),(0,uu 10),(0,uu 11),(0,uu 12),(0,uu 13),(0,uu 14),(0,uu 15),(0,uu 16),(0,uu 17),(0,uu 18),(0,uu 19),(0,uu 20),(0,uu 21),(0,uu 22),(0,uu 23),(0,uu 24),(0,uu 25),(0,uu 26),(0,uu 27),(0,uu 28),(0,uu 29),(0,uu 30),(0,uu 31)]) (fun(k:Nat)=>k≤xs.length∧risF q (lastG xs k) (xs.drop k)=risF q none xs) (fun(k:Nat)=>xs.length - k) (0) ?_ S.uu ?_ ?_;exact ⟨Nat.zero_le _,rfl⟩
 first | exact S | exact S.sub _ _
 clear S;rintro k uu a w ⟨hk,hrel⟩ S;refine J6 ?_;intro a S;refine kC S (fun h2=>?_) (fun h2=>?_);refine kK (xtn (kS (kB (kS ?_))));have hkl:k < xs.length:=by simp at h2;omega
 have hK:KLt k xs.length:=⟨hkl⟩;rw[nthG_drop hkl,risF_cons]at hrel;refine J12 ?_;intro a S;refine sr S (hF (nthG xs k) (nthG_mem hkl) w S.wd.agree) ?_;rintro _ a w rfl S;refine J2 ?_;intro a S;refine gS S (fun hb1 S=>?_) (fun hb1 S=>?_);refine gF' S ?_;intro a S;(iterate 2 (refine gF' S ?_;intro a S));(iterate 7 (refine gU S ?_;intro a S));refine gF' S ?_;intro a S;refine sq S ?_;intro a S;refine kN (xtn ?_);refine c_condT S ?_;refine kS (kR (sq S ?_));intro a S;refine kN (xtn (kT (xbr ?_)));refine xtr (xtr (xbr (xtr ?_)));have e:q (nthG xs k)=false:=by simpa using hb1
 refine end1 S (fun _=>?_);rw[←hrel,e];rfl;refine gT' S ?_;refine sq S ?_;intro a S;refine gT' S ?_;refine sq S ?_;intro a S;refine gT' S ?_;refine sq S ?_;intro a S;refine gS S (fun hb2 S=>?_) (fun hb2 S=>?_);refine gT S ?_;refine sq S ?_;intro a S;refine gT S ?_;refine sq S ?_;intro a S;refine gT S ?_;have hk0:0 < k:=by simp at hb2;omega
 have hK1:KLt (k - 1) xs.length:=⟨by omega⟩;have hlast:lastG xs k=some (nthG xs (k - 1)):=by obtain ⟨j,rfl⟩:∃ j,k=j+1:=⟨k - 1,by omega⟩;rfl
 refine J1 ?_;intro a S;rw[w6 _,show (k:Int) - 1=((k - 1:Nat):Int) from by omega]at S;refine gT S ?_;refine sq S ?_;intro a S;refine gT S ?_;refine sq S ?_;intro a S;refine gT S ?_;refine sq S ?_;intro a S;refine gT S ?_;refine sq S ?_;intro a S;refine gT' S ?_;(iterate 2 (refine sq S ?_;intro a S));refine kN (xtn ?_);refine kC S (fun h4=>?_) (fun h4=>?_);refine J11 ?_;intro a S;have e:¬nthG xs (k - 1) < nthG xs k:=by simpa using h4
 refine end1 S (fun _=>?_);rw[←hrel,hlast];simp[e];refine J8 ?_;intro a S;have e1:q (nthG xs k)=true:=by simpa using hb1
 have e:nthG xs (k - 1) < nthG xs k:=by simpa using h4
 rw[w6 ((k:Int)+1)]at S;exact ⟨k+1,S.uu,⟨hkl,by rw[←hrel,hlast];simp[e,e1,lastG]⟩,S.sub _ _,by omega⟩;refine gF S ?_;intro a S;(iterate 6 (refine gF S ?_;intro a S));refine gT' S ?_;(iterate 2 (refine sq S ?_;intro a S));refine kN (xtn ?_);refine c_condF S ?_;refine kK (xbn (xtn (kR ?_)));(iterate 2 (refine sq S ?_;intro a S));refine kN (xtn ?_);have e1:q (nthG xs k)=true:=by simpa using hb1
 have hk0:k=0:=by simp at hb2;omega
 rw[w6 ((k:Int)+1)]at S;exact ⟨k+1,S.uu,⟨hkl,by rw[←hrel,hk0];subst hk0;simp[e1,lastG]⟩,S.sub _ _,by omega⟩;refine J11 ?_;intro a S;rw[List.drop_of_length_le (by simp at h2;omega)]at hrel;refine end1 S (fun _=>?_);rw[←hrel];rfl
theorem pcheck1_c (b:Nat)(x:Int)(P0:LPerm)(w0:World)(hb:Fx w0 (BoxF b 29 (cPerm P0))):Ret Tryz.prog 77 [.int .i64 x,.pointer (some ⟨b,0,none⟩)] w0 (fun _=>False) fun v _=>v=.bool (okU x&&decide (x≠P0.owner)):=by
 refine E1 Tryz.func77 rfl Tryz.ntmps77 (Wd.begin (fs:=[BoxF b 29 (cPerm P0)]) (by simpa using hb)) ?_;intro a S;refine Y19 ?_;intro a w S;refine end1 S (fun _=>?_);simp
instance {b:Nat}{P0:LPerm}{p:Option Addr}{n c:Nat}{xs:List Int}{bs fs}[hg:HasG fs p Int layI xs][hn:LenN xs n][hk:LeC n 9223372036854775807][hb:HasBox bs b 29 (cPerm P0)]:CallV Tryz.prog 79 [.slice p n c,.func (.func 77) #[] ⟨[.pointer (some ⟨b,0,none⟩)]⟩] bs fs (.bool (risF (fun x=>okU x&&decide (x≠P0.owner)) none xs)):=⟨fun w m=>
 rising_c 77 [.pointer (some ⟨b,0,none⟩)] (fun x=>okU x&&decide (x≠P0.owner)) xs p n c w hn.eq hk.le ((hg.of _ _ m.facts).less fun _ _ h=>h.elim) fun x _ w' hw'=>pcheck1_c b x P0 w' ((BoxF.stable m.box (fun h=>h)).later hw')⟩
instance {p:Option Addr}{n c:Nat}{xs:List Int}{bs fs}[hg:HasG fs p Int layI xs][hn:LenN xs n][hk:LeC n 9223372036854775807]:CallV Tryz.prog 79 [.slice p n c,.func (.func 80) #[] #[]] bs fs (.bool (risF okG none xs)):=⟨fun w m=>
 rising_c 80 [] okG xs p n c w hn.eq hk.le ((hg.of _ _ m.facts).less fun _ _ h=>h.elim) fun x _ w' _=>pgroup_c x w'⟩
theorem indexI_c (x:Int)(xs:List Int)(p:Option Addr)(n c:Nat)(w0:World)(hn:xs.length=n)(hl:n≤9223372036854775807)(hx:Fx w0 (GlF p xs)) :
  Ret Tryz.prog 98 [.slice p n c,.int .i64 x] w0 (fun _=>False) fun v _=>v=.int .i64 (idxG (fun y=>decide (x=y)) xs 0):=by
 subst hn;refine E1 Tryz.func98 rfl Tryz.ntmps98 (Wd.begin (fs:=[GlF p xs]) (by simpa using hx)) ?_;intro a S;refine J14 ?_;intro a S;refine c_forb1 S (fun(k:Nat) uu=>[(4,uu 4),(0,uu 5),(2,.int .i64 (k:Nat)),(0,uu 9),(0,uu 10),(0,uu 11),(0,uu 12),(0,uu 13),(0,uu 14),(0,uu 15),(0,uu 16),(0,uu 17),(0,uu 18)]) (fun(k:Nat)=>k≤xs.length∧idxG (fun y=>decide (x=y)) (xs.drop k) k=idxG (fun y=>decide (x=y)) xs 0) (fun(k:Nat)=>xs.length - k) (0) ?_ S.uu ?_ ?_;exact ⟨Nat.zero_le _,rfl⟩
 first | exact S | exact S.sub _ _
 clear S;rintro k uu a w ⟨hk,hrel⟩ S;refine J6 ?_;intro a S;refine kC S (fun h2=>?_) (fun h2=>?_);refine J11 ?_;intro a S;have hkl:k < xs.length:=by simp at h2;omega
 have hK:KLt k xs.length:=⟨hkl⟩;rw[nthG_drop hkl,idxG]at hrel;refine J9 ?_;intro a S;refine kC S (fun h4=>?_) (fun h4=>?_);refine J12 ?_;intro a S;rw[if_pos h4]at hrel;refine end1 S (fun _=>?_);rw[hrel];refine J8 ?_;intro a S;rw[if_neg (by simpa using h4)]at hrel;rw[w6 ((k:Int)+1)]at S;exact ⟨k+1,S.uu,⟨hkl,by rw[←hrel];rfl⟩,S.sub _ _,by omega⟩;refine J11 ?_;intro a S;rw[List.drop_of_length_le (by simp at h2;omega)]at hrel;refine end1 S (fun _=>?_);rw[←hrel];rfl
theorem containsI_c (x:Int)(xs:List Int)(p:Option Addr)(n c:Nat)(w0:World)(hn:xs.length=n)(hl:n≤9223372036854775807)(hx:Fx w0 (GlF p xs)) :
  Ret Tryz.prog 83 [.slice p n c,.int .i64 x] w0 (fun _=>False) fun v _=>v=.bool (decide (x∈xs)):=by
 refine E1 Tryz.func83 rfl Tryz.ntmps83 (Wd.begin (fs:=[GlF p xs]) (by simpa using hx)) ?_;intro a S;refine J9 ?_;intro a S;refine sr S (indexI_c x xs p n c _ hn hl (S.gl0 p)) ?_;rintro _ a w rfl S;refine J5 ?_;intro a S;refine end1 S (fun _=>?_);rw[idxG_any _ xs 0 (by omega)]
 congr 1
 rw[Bool.eq_iff_iff];simp
instance {x:Int}{p:Option Addr}{n c:Nat}{xs:List Int}{bs fs}[hg:HasG fs p Int layI xs][hn:LenN xs n][hk:LeC n 9223372036854775807]:CallV Tryz.prog 83 [.slice p n c,.int .i64 x] bs fs (.bool (decide (x∈xs))):=⟨fun w m=>
 containsI_c x xs p n c w hn.eq hk.le ((hg.of _ _ m.facts).less fun _ _ h=>h.elim)⟩
theorem indexFI_c (F:Nat)[EntF Tryz.prog F](ca:List Value)(q:Int→Bool)(xs:List Int)(p:Option Addr)(n c:Nat)(w0:World)(hn:xs.length=n)(hl:n≤9223372036854775807)(hx:Fx w0 (GlF p xs))
  (hF:∀ x∈xs,∀ w,Agree (fun _=>False) w0 w→Ret Tryz.prog F (.int .i64 x::ca) w (fun _=>False) fun v _=>v=.bool (q x)) :
  Ret Tryz.prog 97 [.slice p n c,.func (.func F) #[] ⟨ca⟩] w0 (fun _=>False) fun v _=>v=.int .i64 (idxG q xs 0):=by
 refine E1 Tryz.func97 rfl Tryz.ntmps97 (Wd.begin (fs:=[GlF p xs]) (by simpa using hx)) ?_;intro a S;refine J14 ?_;intro a S;refine c_forb1 S (fun(k:Nat) uu=>[(4,uu 4),(0,uu 5),(2,.int .i64 (k:Nat)),(0,uu 9),(0,uu 10),(0,uu 11),(0,uu 12),(0,uu 13),(0,uu 14),(0,uu 15),(0,uu 16),(0,uu 17),(0,uu 18)]) (fun(k:Nat)=>k≤n∧idxG q (xs.drop k) k=idxG q xs 0) (fun(k:Nat)=>n - k) (0) ?_ S.uu ?_ ?_;exact ⟨Nat.zero_le _,rfl⟩
 first | exact S | exact S.sub _ _
 clear S;rintro k uu a w ⟨hk,hrel⟩ S;refine J6 ?_;intro a S;refine kC S (fun h2=>?_) (fun h2=>?_);refine J11 ?_;intro a S;have hkl:k < n:=by simp at h2;omega
 have hK:KLt k n:=⟨hkl⟩;have hK2:KLt k xs.length:=⟨by omega⟩;rw[nthG_drop (show k < xs.length by omega),idxG]at hrel;refine J6 ?_;intro a S;refine sr S (hF (nthG xs k) (nthG_mem (by omega)) w S.wd.agree) ?_;rintro _ a w rfl S;refine kN (xtn ?_);refine kC S (fun h4=>?_) (fun h4=>?_);refine J12 ?_;intro a S;rw[if_pos h4]at hrel;refine end1 S (fun _=>?_);rw[hrel];refine J8 ?_;intro a S;rw[if_neg (by simpa using h4)]at hrel;rw[w6 ((k:Int)+1)]at S;exact ⟨k+1,S.uu,⟨hkl,by rw[←hrel];rfl⟩,S.sub _ _,by omega⟩;refine J11 ?_;intro a S;rw[List.drop_of_length_le (by simp at h2;omega)]at hrel;refine end1 S (fun _=>?_);rw[←hrel];rfl
theorem containsFI_c (F:Nat)[EntF Tryz.prog F](ca:List Value)(q:Int→Bool)(xs:List Int)(p:Option Addr)(n c:Nat)(w0:World)(hn:xs.length=n)(hl:n≤9223372036854775807)(hx:Fx w0 (GlF p xs))
  (hF:∀ x∈xs,∀ w,Agree (fun _=>False) w0 w→Ret Tryz.prog F (.int .i64 x::ca) w (fun _=>False) fun v _=>v=.bool (q x)) :
  Ret Tryz.prog 81 [.slice p n c,.func (.func F) #[] ⟨ca⟩] w0 (fun _=>False) fun v _=>v=.bool (xs.any q):=by
 refine E1 Tryz.func81 rfl Tryz.ntmps81 (Wd.begin (fs:=[GlF p xs]) (by simpa using hx)) ?_;intro a S;refine J9 ?_;intro a S;refine sr S (indexFI_c F ca q xs p n c _ hn hl (S.gl0 p) fun x hx w' hw'=>hF x hx w' (S.wd.agree.trans hw')) ?_;rintro _ a w rfl S;refine J5 ?_;intro a S;refine end1 S (fun _=>?_);rw[idxG_any q xs 0 (by omega)]
theorem pcheck2_c (b:Nat)(x:Int)(P0:LPerm)(w0:World)(hl:P0.rd.xs.length≤9223372036854775807)(hb:Fx w0 (BoxF b 29 (cPerm P0)))(hp:Fx w0 (InF P0)):Ret Tryz.prog 82 [.int .i64 x,.pointer (some ⟨b,0,none⟩)] w0 (fun _=>False) fun v _=>v=.bool (!decide (x∈P0.rd.xs)):=by
 have hLe:LeC P0.rd.xs.length 9223372036854775807:=⟨hl⟩;refine E1 Tryz.func82 rfl Tryz.ntmps82 (Wd.begin (fs:=[BoxF b 29 (cPerm P0),InF P0]) (by simp;exact ⟨hb,hp⟩)) ?_;intro a S;refine Y16 ?_;intro a w S;refine end1 S (fun _=>rfl)
instance {b:Nat}{P0:LPerm}{p:Option Addr}{n c:Nat}{xs:List Int}{bs fs}[hg:HasG fs p Int layI xs][hn:LenN xs n][hk:LeC n 9223372036854775807][hr:LeC P0.rd.xs.length 9223372036854775807][hb:HasBox bs b 29 (cPerm P0)][hi:HasI fs P0]:CallV Tryz.prog 81 [.slice p n c,.func (.func 82) #[] ⟨[.pointer (some ⟨b,0,none⟩)]⟩] bs fs (.bool (xs.any fun x=>!decide (x∈P0.rd.xs))):=⟨fun w m=>
 containsFI_c 82 [.pointer (some ⟨b,0,none⟩)] (fun x=>!decide (x∈P0.rd.xs)) xs p n c w hn.eq hk.le ((hg.of _ _ m.facts).less fun _ _ h=>h.elim) fun x _ w' hw'=>pcheck2_c b x P0 w' hr.le ((BoxF.stable m.box (fun h=>h)).later hw') ((m.i0 P0).later hw')⟩
def permB (p:LPerm):Bool:=okU p.owner&&decide (1≤p.epoch)&&decide (p.epoch≤8)&&risF (fun x=>okU x&&decide (x≠p.owner)) none p.rd.xs&&risF (fun x=>okU x&&decide (x≠p.owner)) none p.wr.xs&&risF okG none p.gr.xs&&!(p.wr.xs.any fun x=>!decide (x∈p.rd.xs))
def permF (p:LPerm):Int:=if permB p then 0 else 210
theorem pcheck_c (p:LPerm)(w0:World)(hf:Fx w0 (InF p)):Ret Tryz.prog 45 [vPerm p] w0 (fun _=>False) fun v _=>v=.int .i64 (permF p):=by
 have h0:=hf.now;have hm:(maxLen:Nat)≤9223372036854775807:=by decide
 have h1:LeC p.rd.xs.length 9223372036854775807:=⟨Nat.le_trans (Nat.le_trans h0.1.1 h0.1.2.1) hm⟩;have h2:LeC p.wr.xs.length 9223372036854775807:=⟨Nat.le_trans (Nat.le_trans h0.2.1.1 h0.2.1.2.1) hm⟩;have h3:LeC p.gr.xs.length 9223372036854775807:=⟨Nat.le_trans (Nat.le_trans h0.2.2.1 h0.2.2.2.1) hm⟩;refine E1 Tryz.func45 rfl Tryz.ntmps45 (Wd.begin (fs:=[InF p]) (by simpa using hf)) ?_;intro a S;refine kS (kR ?_);refine sa S ?_;intro b1 a w S;refine Y20 ?_;intro a w S;refine Y20 ?_;intro a w S;refine Y17 ?_;intro a w S;refine kC S (fun h3=>?_) (fun h3=>?_);refine J7 ?_;intro a S;have key:∀ A B:Bool,(!A||B)=true→(A&&!B)=false:=by decide
 have e:permB p=false:=key _ _ h3;refine end1 S (fun _=>?_);rw[permF,e];rfl;refine J8 ?_;intro a S;have key:∀ A B:Bool,(!A||B)=false→(A&&!B)=true:=by decide
 have e:permB p=true:=key _ _ h3;refine end1 S (fun _=>?_);rw[permF,e];rfl
instance {p:LPerm}{bs fs}[h:HasI fs p]:CallV Tryz.prog 45 [.agg ⟨[.int .i64 p.owner,.int .i64 p.epoch,.slice p.rd.p p.rd.xs.length p.rd.cap,.slice p.wr.p p.wr.xs.length p.wr.cap,.slice p.gr.p p.gr.xs.length p.gr.cap]⟩] bs fs (.int .i64 (permF p)):=⟨fun w m=>pcheck_c p w (m.i0 p)⟩
structure LBel where
 group:Int
 user:Int
instance encBel:Enc LBel:=⟨2,fun m=>[.int .i64 m.group,.int .i64 m.user],fun _=>rfl,fun x u hu=>by simp only[List.mem_cons,List.not_mem_nil,or_false]at hu;rcases hu with rfl | rfl <;> rfl⟩
instance layBel:Lay LBel:={ encBel with
 dflt:=⟨0,0⟩
 inn:=fun _ _=>True
 mono:=fun _ _ _ _ h=>h }
theorem sameF_mk (x y:LTerm):sameF x.t y.t=(decide (x.kind=y.kind)&&decide (x.user=y.user)&&decide (x.num=y.num)&&decide (x.text=y.text)&&sameLF (x.kids.map LTerm.t) (y.kids.map LTerm.t)):=by
 rw[x.t_eq,y.t_eq,sameF]
theorem rsame_all (N:Nat):∀ (x y:LTerm) (w0:World),SizeOf.sizeOf x≤N→Fx w0 (LtF x)→Fx w0 (LtF y)→
  Ret Tryz.prog 33 [vL x,vL y] w0 (fun _=>False) fun v _=>v=.bool (sameF x.t y.t):=by
 induction N with
 | zero=>intro x _ _ h;cases x;simp at h
 | succ N ih=>
 intro x y w0 hN hx hy;have e0:=sameF_mk x y;have hlen:=LTerm.len_le hx;refine E1 Tryz.func33 rfl Tryz.ntmps33 (Wd.begin (fs:=[LtF x,LtF y]) (by simp;exact ⟨hx,hy⟩)) ?_;intro a S;refine kS (kR ?_);refine sa S ?_;intro b2 a w S;refine sa S ?_;intro b3 a w S;refine J20 ?_;intro a S;refine J20 ?_;intro a S;refine J3 ?_;intro a S;refine kC S (fun h1=>?_) (fun h1=>?_)
 ·refine J7 ?_;intro a S
  refine end1 S (fun _=>?_);have h3:¬(x.kind=y.kind∧x.user=y.user∧x.num=y.num∧x.text=y.text∧x.kids.length=y.kids.length):=by
   rintro ⟨q1,q2,q3,q4,q5⟩;simp[q1,q2,q3,q4,q5]at h1
  rw[e0]
  congr 1
  cases hs:(decide (x.kind=y.kind)&&decide (x.user=y.user)&&decide (x.num=y.num)&&decide (x.text=y.text)&&sameLF (x.kids.map LTerm.t) (y.kids.map LTerm.t)) with
  | false=>rfl
  | true=>
   simp at hs;obtain ⟨⟨⟨⟨q1,q2⟩,q3⟩,q4⟩,q5⟩:=hs;have:=congrArg List.length ((sameLF_iff _ _).1 q5);exact absurd ⟨q1,q2,q3,q4,by simpa using this⟩ h3
 ·refine J9 ?_;intro a S
  have h3:(x.kind=y.kind∧x.user=y.user∧x.num=y.num∧x.text=y.text)∧x.kids.length=y.kids.length:=by simp[and_assoc]at h1;simpa [and_assoc,Int.ofNat_inj] using h1
  obtain ⟨⟨q1,q2,q3,q4⟩,q5⟩:=h3;have e1:sameF x.t y.t=sameLF (x.kids.map LTerm.t) (y.kids.map LTerm.t):=by rw[e0];simp[q1,q2,q3,q4]
  refine c_loop (ι:=Nat) (fun k a w=>k≤x.kids.length∧sameLF ((x.kids.drop k).map LTerm.t) ((y.kids.drop k).map LTerm.t)=sameF x.t y.t∧∃ uu:Nat→Value,St w0 (fun _=>False) [] a w ((vL x)::(vL y)::(.pointer (some ⟨b2,0,none⟩))::(.pointer (some ⟨b3,0,none⟩))::(.bool false)::(.int .i64 (k:Nat))::uu 6::uu 7::uu 8::uu 9::uu 10::uu 11::uu 12::uu 13::uu 14::uu 15::uu 16::uu 17::uu 18::uu 19::uu 20::uu 21::uu 22::uu 23::uu 24::uu 25::uu 26::uu 27::uu 28::uu 29::uu 30::uu 31::uu 32::uu 33::uu 34::uu 35::uu 36::uu 37::uu 38::uu 39::uu 40::uu 41::uu 42::uu 43::uu 44::uu 45::uu 46::uu 47::uu 48::uu 49::uu 50::uu 51::uu 52::uu 53::uu 54::uu 55::uu 56::uu 57::uu 58::uu 59::[]) [box b3 24 y.cells,box b2 24 x.cells] [LtF x,LtF y]) (fun k=>x.kids.length - k) 0 ?_ ?_
  ·exact ⟨Nat.zero_le _,e1.symm,S.uu,S⟩
  ·clear S
   rintro k a w ⟨hk,hrel,uu,S⟩;have hK:k < x.kids.length→KLt k x.kids.length∧KLt k y.kids.length:=fun h=>⟨⟨h⟩,⟨by omega⟩⟩
   refine J10 ?_;intro a S;refine kC S (fun h4=>?_) (fun h4=>?_)
   ·refine kK (xtn (kS (kB ?_)))
    have hkl:k < x.kids.length:=by simpa using h4
    obtain ⟨hK1,hK2⟩:=hK hkl;refine kS ?_;refine c_drawD [T9 0,T9 1,T9 2,T9 3,T9 4,T9 5,T9 6,T9 7,T9 8,T9 9,F9 10,T9 11] [] S ?_;intro w S;(iterate 10 (refine dq S ?_;intro a S));refine dl ?_;rw[nth_drop hkl,nth_drop (show k < y.kids.length by omega),List.map_cons,List.map_cons,sameLF]at hrel;refine sr S (ih (nthL x.kids k) (nthL y.kids k) w (by have:=LTerm.kid_lt (nth_mem hkl);omega) (S.t0 _) (S.t0 _)) ?_;rintro _ a w rfl S;refine de S ?_;refine dq S ?_;intro a S;refine dn (xtn ?_);refine kC S (fun h6=>?_) (fun h6=>?_)
    ·refine J11 ?_;intro a S
     refine end1 S (fun _=>?_);have h9:sameF (nthL x.kids k).t (nthL y.kids k).t=false:=by simpa using h6
     simp[←hrel,h9]
    ·refine J9 ?_;intro a S
     have h9:sameF (nthL x.kids k).t (nthL y.kids k).t=true:=by simpa using h6
     rw[h9,Bool.true_and]at hrel;rw[w6 ((k:Int)+1)]at S;exact ⟨k+1,⟨hkl,hrel,S.uu,S⟩,by omega⟩
   ·refine J11 ?_;intro a S
    refine end1 S (fun _=>?_);have h9:x.kids.length≤k:=by simpa using h4
    rw[List.drop_of_length_le h9,List.drop_of_length_le (by omega)]at hrel;simp[←hrel,sameLF]
theorem rsame_c (x y:LTerm)(w:World)(hx:Fx w (LtF x))(hy:Fx w (LtF y)):Ret Tryz.prog 33 [vL x,vL y] w (fun _=>False) fun v _=>v=.bool (sameF x.t y.t):=rsame_all _ x y w (Nat.le_refl _) hx hy
instance {x y:LTerm}{bs fs}[HasT fs x][HasT fs y]:CallV Tryz.prog 33 [vL x,vL y] bs fs (.bool (sameF x.t y.t)):=⟨fun w m=>rsame_c x y w (m.t0 _) (m.t0 _)⟩
theorem rtext_c (s:List UInt8)(w0:World):Ret Tryz.prog 64 [str s] w0 (fun _=>False) fun v _=>v=vL (textL s):=by
 refine E1 Tryz.func64 rfl Tryz.ntmps64 (Wd.start w0) ?_;intro a S;refine kS (kR ?_);refine sa S ?_;intro b2 a w S;refine Y10 ?_;intro a w S;refine end1 S (fun _=>?_);rfl
instance {s:List UInt8}{bs fs} : CallV Tryz.prog 64 [str s] bs fs (vL (textL s)):=⟨fun w _=>rtext_c s w⟩
theorem rpair_c (x y:LTerm)(M:Nat→Prop)(w0:World)(hM:∀ k,M k→k < w0.heap.size)(hx:Stable M w0 (LtF x))(hy:Stable M w0 (LtF y)):Ret Tryz.prog 93 [vL x,vL y] w0 (fun _=>False) fun v w'=>IsT M w' v (.pair x.t y.t):=by
 refine E1 Tryz.func93 rfl Tryz.ntmps93 (Wd.beginM (M:=M) (fs:=[LtF x,LtF y]) hM (by simp;exact ⟨hx,hy⟩)) ?_;intro a S;refine kS (kR ?_);refine sa S ?_;intro b2 a w S;refine sa S ?_;intro b3 a w S;refine sa S ?_;intro b4 a w S;refine J6 ?_;intro a S;refine sn S ?_;intro b7 a w S;refine Y5 ?_;intro a w S;refine end1 S (fun _=>?_);refine ⟨pairL (some ⟨b7,0,none⟩) x y,rfl,rfl,fun w' hw'=>?_⟩;have h1:=S.laterFact (Φ:=LtF x) (by simp) w' hw';have h2:=S.laterFact (Φ:=LtF y) (by simp) w' hw';exact ⟨by simp,by simp[maxLen],LsIn.of_block [x,y] (S.laterBox hw' b7) (by simpa using ⟨h1,h2⟩)⟩
open Go.ChangeShapes Go.WideShapes Go.ChangeAt Go.RowKit
theorem own:ownKnob Tryz.prog.godebug=none:=by kernel_rfl
theorem laidOut:laidOutB Tryz.prog=true:=by kernel_rfl
instance termTy:TermTy Tryz.prog 24:=⟨⟨_,3,9,22,rfl,rfl,rfl,rfl,rfl,by kernel_rfl,by kernel_rfl,by kernel_rfl,by kernel_rfl⟩⟩
open Go Go.Wk Go.Sort
theorem encI_map (ns:List Int):encL ns=ns.map (Value.int .i64):=by
 induction ns with
 | nil=>rfl
 | cons x xs ih=>rw[encL_cons,ih];rfl
theorem sortI_c (ns:List Int)(p:Option Addr)(c:Nat)(w0:World)(hpos:0 < ns.length)(hlen:ns.length≤1000000)(hown:w0.ownsRow 0 3 1 (.slice p ns.length c) ns.length (encL ns)) :
  Ret Tryz.prog 50 [.slice p ns.length c] w0 (fun k=>∃ ad,p=some ad∧k=ad.block) fun v w'=>v=.tuple #[]∧∃ ms:List Int,ms.Perm ns∧ms.Pairwise (·≤·)∧w'.ownsRow 0 3 1 (.slice p ns.length c) ns.length (encL ms):=by
 obtain ⟨g,cur,rfl,hg,hnc,hcs,htk,hcm⟩:=own_cells hown hpos;have hglt:=(Array.getElem?_eq_some_iff.1 hg).1;rw[Nat.mul_one]at htk hcs;have hH:Holds (Value.int .i64) w0 g 0 ns.toArray:=fun j hj=>by
  have hj':j < ns.length:=by simpa using hj
  refine ⟨?_,by simp[World.frozen?,hg]⟩;rw[cell_of_row w0 g (0+j) cur 3 (0,0) hg,Nat.zero_add,←Array.getElem?_toList];have h1:(cur.toList.take ns.length)[j]? = some (.int .i64 ns[j]):=by rw[htk,encI_map,List.getElem?_map,List.getElem?_eq_getElem hj'];rfl
  rw[List.getElem?_take,if_pos hj']at h1;rw[h1,getElem!_pos ns.toArray j hj];simp
 have hc:=Any.slices_Sort_int Tryz.lays189 g 0 c ns w0 hH hglt (by omega);obtain ⟨ms,hms⟩:∃ ms,ms=ns.mergeSort fun x y=>decide (x≤y):=⟨_,rfl⟩
 have hperm:ms.Perm ns:=by rw[hms];exact List.mergeSort_perm _ _
 have hsort:ms.Pairwise (·≤·):=by
  have h:=List.pairwise_mergeSort (le:=fun x y:Int=>decide (x≤y)) (fun a b c h1 h2=>by simp at *;omega) (fun a b=>by simp;omega) ns;rw[←hms]at h;exact h.imp fun h=>by simpa using h
 have hml:ms.length=ns.length:=hperm.length_eq;rw[←hms]at hc;refine Calls.mono hc ?_;rintro e w' ⟨rfl,n,os,rfl⟩;have hgrow:∀ k,k < w0.heap.size→(grow (putRow (Value.int .i64) (Go.Sort.ahead w0 n) g 0 ms.toArray) os).heap[k]? = (w0.heap.modify g (onCells (putCells (Value.int .i64) 0 ms.toArray)))[k]?:=fun k hk=>
  heap_grow_old _ _ (by simp[putRow,mapBlock,Go.Sort.ahead];exact hk)
 have hgg:(grow (putRow (Value.int .i64) (Go.Sort.ahead w0 n) g 0 ms.toArray) os).heap[g]? = some (.cells (putCells (Value.int .i64) 0 ms.toArray cur) 3 (0,0)):=by
  rw[hgrow g hglt,Array.getElem?_modify,if_pos rfl,hg];rfl
 refine ⟨_,rfl,⟨rfl,rfl,rfl,by simp[putRow,mapBlock,Go.Sort.ahead],fun k hk hm=>?_⟩,rfl,ms,hperm,hsort,?_⟩;have hkg:g≠k:=fun e=>hm ⟨_,rfl,e.symm⟩
 rw[hgrow k hk,Array.getElem?_modify,if_neg hkg];refine ⟨by rw[encI_map,List.length_map,hml,Nat.mul_one],.inr ⟨g,c,_,rfl,Nat.zero_le _,hgg,hnc,hcm,by simp[putCells,hcs],?_⟩⟩;rw[Nat.mul_one,encI_map];apply List.ext_getElem?;intro j;rw[List.getElem?_take];split
 rename_i hj
 have hjc:j < cur.size:=by omega
 have hjm:j < ms.length:=by omega
 simp only[Array.getElem?_toList,putCells,Array.getElem?_mapIdx,Array.getElem?_eq_getElem hjc,Option.map_some,List.getElem?_map,List.getElem?_eq_getElem hjm];rw[if_pos ⟨Nat.zero_le _,by simpa using hjm⟩];simp[hjm]
 rename_i hj
 rw[List.getElem?_eq_none (by simp;omega)]
def lockT (a b:Term):Term:=.mk 6 0 0 [] [a,b]
def sealT (u:Int)(a:Term):Term:=.mk 7 u 0 [] [a]
def textT (s:List UInt8):Term:=.mk 1 0 0 s []
def listT:List Term→Term
 | []=>textT []
 | t::ts=>.pair t (listT ts)
theorem lock_c (x y:LTerm)(M:Nat→Prop)(w0:World)(hM:∀ k,M k→k < w0.heap.size)(hx:Stable M w0 (LtF x))(hy:Stable M w0 (LtF y)):Ret Tryz.prog 55 [vL x,vL y] w0 (fun _=>False) fun v w'=>IsT M w' v (lockT x.t y.t):=by
 refine E1 Tryz.func55 rfl Tryz.ntmps55 (Wd.beginM (M:=M) (fs:=[LtF x,LtF y]) hM (by simp;exact ⟨hx,hy⟩)) ?_;intro a S;refine kS (kR ?_);refine sa S ?_;intro b2 a w S;refine sa S ?_;intro b3 a w S;refine sa S ?_;intro b4 a w S;refine J6 ?_;intro a S;refine sn S ?_;intro b7 a w S;refine Y5 ?_;intro a w S;refine end1 S (fun _=>?_);refine ⟨.mk 6 0 0 [] (some ⟨b7,0,none⟩) 2 [x,y],rfl,rfl,fun w' hw'=>?_⟩;have h1:=S.laterFact (Φ:=LtF x) (by simp) w' hw';have h2:=S.laterFact (Φ:=LtF y) (by simp) w' hw';exact ⟨by simp,by simp[maxLen],LsIn.of_block [x,y] (S.laterBox hw' b7) (by simpa using ⟨h1,h2⟩)⟩
theorem seal_c (u:Int)(x:LTerm)(M:Nat→Prop)(w0:World)(hM:∀ k,M k→k < w0.heap.size)(hx:Stable M w0 (LtF x)):Ret Tryz.prog 52 [.int .i64 u,vL x] w0 (fun _=>False) fun v w'=>IsT M w' v (sealT u x.t):=by
 refine E1 Tryz.func52 rfl Tryz.ntmps52 (Wd.beginM (M:=M) (fs:=[LtF x]) hM (by simpa using hx)) ?_;intro a S;refine kS (kR ?_);refine sa S ?_;intro b3 a w S;refine sa S ?_;intro b4 a w S;refine J5 ?_;intro a S;refine sn S ?_;intro b7 a w S;refine Y1 ?_;intro a w S;refine sa S ?_;intro b5 a w S;refine Y17 ?_;intro a w S;refine end1 S (fun _=>?_);refine ⟨.mk 7 u 0 [] (some ⟨b7,0,none⟩) 1 [x],rfl,rfl,fun w' hw'=>?_⟩;have h1:=S.laterFact (Φ:=LtF x) (by simp) w' hw';exact ⟨by simp,by simp[maxLen],LsIn.of_block [x] (S.laterBox hw' b7) (fun x hx=>by obtain rfl:=List.mem_singleton.1 hx;exact h1)⟩
def backV (b:Nat):Value:=.func (.func 94) #[] ⟨[.pointer (some ⟨b,0,none⟩)]⟩
theorem back_f (p:Option Addr)(n c:Nat)(w0:World):Ret Tryz.prog 73 [.slice p n c] w0 (fun _=>False) fun v w'=>∃ b,v=backV b∧w0.heap.size≤b∧BoxF b 22 [.slice p n c] w':=by
 refine E1 Tryz.func73 rfl Tryz.ntmps73 (Wd.start w0) ?_;intro a S;refine kS (kR ?_);refine sa S ?_;intro b1 a w S;refine J10 ?_;intro a S;have h1:=S.boxF b1;have n1:=S.boxNew b1;refine end1 S (fun _=>?_);exact ⟨b1,rfl,n1.elim (fun h=>h.elim) id,h1⟩
theorem back_get {n i:Nat}(h:i < n):(List.range n).reverse[i]? = some (n - 1 - i):=by
 rw[List.getElem?_reverse (by simpa using h),List.length_range,List.getElem?_range (by omega)]
theorem back_it (b:Nat)(xs:List LTerm)(p:Option Addr)(n c:Nat)(hn:xs.length=n)(hl:n≤1000000)(w0:World)(M:Nat→Prop)(hM:∀ k,M k→k < w0.heap.size)(f1:Stable M w0 (BoxF b 22 [.slice p n c]))(f2:Stable M w0 (LsF p 0 xs)) :
  IterRet Tryz.prog 94 [.pointer (some ⟨b,0,none⟩)] w0 M (fun(i:Nat) vs _ _=>vs=[.int .i64 (i:Nat),vL (nthL xs i)]) (List.range n).reverse:=by
 intro L J Jx hy hJ;subst hn;have hF:∀ Φ∈[BoxF b 22 [.slice p xs.length c],LsF p 0 xs],Stable M w0 Φ:=by simp;exact ⟨f1,f2⟩
 obtain ⟨n,hn⟩:∃ n,n=xs.length:=⟨_,rfl⟩;refine (callsIn_wide (n:=0)).2 ?_;refine E1 Tryz.func94 rfl Tryz.ntmps94 (Wd.beginM (M:=M) (fs:=[BoxF b 22 [.slice p xs.length c],LsF p 0 xs]) hM hF) ?_;intro a S;refine J5 ?_;intro a S;rw[w6 _,show (xs.length:Int) - 1=(n:Int) - 1 - ((0:Nat):Int) from by omega]at S;refine J4 ?_;intro a S;refine c_loop (ι:=Nat) (fun k a w=>k≤n∧∃ N w1,J k w1∧∃ uu:Nat→Value,St w1 (fun _=>False) [] a w ((.func (.yield L) #[] #[])::(.pointer (some ⟨b,0,none⟩))::uu 2::(.int .i64 ((n:Int) - 1 - (k:Nat)))::uu 4::uu 5::uu 6::uu 7::uu 8::uu 9::uu 10::uu 11::uu 12::uu 13::uu 14::uu 15::uu 16::uu 17::uu 18::[]) [ext N] [BoxF b 22 [.slice p xs.length c],LsF p 0 xs]) (fun k=>n - k) 0 ?_ ?_;exact ⟨Nat.zero_le _,M,w0,hJ,S.uu,S⟩;clear S;rintro k a w ⟨hk,N,w1,hJk,uu,S⟩;refine J7 ?_;intro a S;refine kC S (fun h1=>?_) (fun h1=>?_);refine kK (xtn (kS (kB (kS ?_))));have hkl:k < n:=by simp at h1;omega
 have hK:KLt (n - 1 - k) xs.length:=⟨by omega⟩;have hg:=back_get hkl;rw[show (n:Int) - 1 - (k:Nat)=((n - 1 - k:Nat):Int) from by omega]at S;refine J7 ?_;intro a S;refine sy S (M:=M) (wI:=w0) (fs0:=[BoxF b 22 [.slice p xs.length c],LsF p 0 xs]) hF (hy k _ _ w1 w (by rw[←hn];exact hg) hJk S.wd.agree rfl) ?_;intro ok N' a w2 hT hX S;refine J3 ?_;intro a S;refine kC S (fun h3=>?_) (fun h3=>?_);refine kT (xbr (xtr (xtr (xbr ?_))));exact endI S ⟨w2,S.wd.agree,.inr (hX (by simpa using h3))⟩;refine J6 ?_;intro a S;rw[w6 _,show ((n - 1 - k:Nat):Int) - 1=(n:Int) - 1 - ((k+1:Nat):Int) from by omega]at S;refine J3 ?_;intro a S;exact ⟨k+1,⟨hkl,N',w2,hT (by simpa using h3),S.uu,S⟩,by omega⟩;refine kE (xte (xte (xbe ?_)));refine endI S ⟨w1,S.wd.agree,.inl ?_⟩;have h9:k=n:=by simp at h1;omega
 rw[List.length_reverse,List.length_range,←hn,←h9];exact hJk
theorem list_c (xs:List LTerm)(p:Option Addr)(c:Nat)(M:Nat→Prop)(w0:World)(hl:xs.length≤1000000)(hM:∀ k,M k→k < w0.heap.size)(hx:Stable M w0 (LsF p 0 xs)):Ret Tryz.prog 37 [.slice p xs.length c] w0 (fun _=>False) fun v w'=>IsT M w' v (listT (xs.map LTerm.t)):=by
 refine enterM Tryz.func37 rfl rfl (Wd.beginM (M:=M) (fs:=[LsF p 0 xs]) hM (by simpa using hx)) (fun a S=>?_);refine E0 Tryz.ntmps37 ?_;clear S;intro S;refine kS (kR ?_);refine sa S ?_;clear S;intro b2 a w S;refine Y5 ?_;clear S;intro a w S;refine sa S ?_;clear S;intro b3 a w S;refine Y7 ?_;clear S;intro a w S;have hlt:=foots_lt S;refine sr S (back_f p xs.length c w) ?_;clear S;rintro _ a w ⟨g,rfl,n1,f1⟩ S;replace S:=S.add (Φ:=BoxF g 22 [.slice p xs.length c]) (BoxF.stable f1 (fun hm=>by have:=hlt _ hm;omega));clear hlt n1 f1;refine kN (xtn (kB ?_));replace S:=S.add (Φ:=LtF (textL [])) (fun _ _=>by simp[LtIn,textL,LsIn,LtF]);refine c_range (κ:=LTerm) (κx:=Empty) (Ds:=[]) (List.range xs.length).reverse
  (fun _ t=>[Wk.box b3 24 t.cells,Wk.box b2 24 zeroL.cells,marks [],ext M]) (fun _ t=>[LtF t,BoxF g 22 [.slice p xs.length c],LsF p 0 xs]) (fun i t=>t.t=listT ((xs.map LTerm.t).drop (xs.length - i))) (fun k=>k.elim) (fun k=>k.elim) (fun _ k=>k.elim) (textL []) S
  (fun M w1 hM hF _=>back_it g xs p xs.length c rfl hl w1 M hM (hF _ (by simp)) (hF _ (by simp))) ⟨by rw[Nat.sub_zero,List.drop_of_length_le (by simp)];rfl,rfl,rfl⟩ ?_ ?_ ?_ ?_
 clear S;rintro L D bL M' w1 i x vs t W0 w hx hrel hW0 hgr rfl;have hi:i < xs.length:=by have:=(List.getElem?_eq_some_iff.1 hx).1;simpa using this
 rw[back_get hi]at hx;obtain rfl:xs.length - 1 - i=x:=by simpa using hx
 have hK:KLt (xs.length - 1 - i) xs.length:=⟨by omega⟩;refine ⟨_,inferInstance,fun a S=>?_⟩;refine kR (sa S ?_);clear S;intro b5 a w S;refine Y3 ?_;clear S;intro a w S;refine rbegin (D:=D) (b:=bL) S ?_;clear S;intro a w S;refine J4 ?_;clear S;intro a S;refine sr S (pair_c (nthL xs (xs.length - 1 - i)) t _ w (foots_lt S) (S.t _) (S.t _)) ?_;clear S;rintro _ a w ⟨r,rfl,hr,hrf⟩ S;replace S:=S.add hrf;refine Y3 ?_;clear S;intro a w S;replace S:=S.sub [lpI L D (lpR bL .busy none),Wk.box b3 24 r.cells,Wk.box b2 24 zeroL.cells,marks [],ext M] [LtF r,BoxF g 22 [.slice p xs.length c],LsF p 0 xs];refine rnext (D:=D) (b:=bL) S fun W hW=>⟨r,?_,?_⟩
 rw[hr,hrel,show xs.length - i=xs.length - (i+1)+1 from by omega];have h5:xs.length - (i+1) < (xs.map LTerm.t).length:=by simp;omega
 rw[List.drop_eq_getElem_cons h5,listT];simp[nthL,show xs.length - 1 - i=xs.length - (i+1) from by omega,show xs.length - (i+1) < xs.length from by omega];exact hW;clear S;rintro D t a w hrel S;refine Y9 ?_;clear S;intro a w S;rw[List.length_reverse,List.length_range,Nat.sub_self,List.drop_zero]at hrel;replace S:=S.join (Ds:=[]);refine endM1 S (fun w hw=>?_);exact ⟨t,rfl,hrel,(hw.facts (LtF t) (by simp)).less fun k _ hk=>⟨ext M,by simp,hk⟩⟩;intro D k;exact k.elim;intro id D k;exact k.elim
theorem good_text {s:List UInt8}(h:s.length≤64):Good (textT s):=by
 refine good_walk.2 ?_;rw[textT,walkF];have hp:plainF 1 0 0 s 0=true:=by
  unfold plainF;simp[fieldsOf,hasF,kidsF,h,show iand .i64 1 16=0 from rfl,show iand .i64 1 8=0 from rfl,show iand .i64 1 2=0 from rfl,show iand .i64 1 1=1 from rfl];omega
 simp[hp,walkLF]
theorem good_pair {a b:Term}(ha:Good a)(hb:Good b)(hc:cnt a+cnt b≤1199)(h1:dpt a≤59)(h2:dpt b≤59):Good (.pair a b):=
 good_mk rfl (by simp;exact ⟨ha,hb⟩) (by simp[cntL];omega) (by simp[dptL];omega)
theorem cnt_pair (a b:Term):cnt (.pair a b)=1+(cnt a+cnt b):=by simp[Term.pair,cnt,cntL]
theorem dpt_pair (a b:Term):dpt (.pair a b)=1+max (dpt a) (dpt b):=by simp[Term.pair,dpt,dptL]
theorem listT_good:∀ (ts:List Term),(∀ t∈ts,Good t∧cnt t≤20∧dpt t≤20)→ts.length≤30→Good (listT ts)∧cnt (listT ts)≤1+21*ts.length∧dpt (listT ts)≤21+ts.length
 | [],_,_=>⟨good_text (by simp),by simp[listT,textT,cnt,cntL],by simp[listT,textT,dpt,dptL]⟩
 | t::ts,h,hl=>by
  simp only[qqA]at hl;obtain ⟨i1,i2,i3⟩:=listT_good ts (fun x hx=>h x (by simp[hx])) (by omega);obtain ⟨g1,g2,g3⟩:=h t (by simp);rw[listT,cnt_pair,dpt_pair,qqA];exact ⟨good_pair g1 i1 (by omega) (by omega) (by omega),by omega,by omega⟩
end Go.Proofs.YtibkkbknnfehlaaGreatDoor
namespace Go.Wk
open Go
class Ascii (m:Int):Prop where
 lo:0≤m
 hi:m < 128
section
variable {P:Program}{l:Cx}{bs:List Item}{fs:List (World→Prop)}{x y:Operand}{t t' ty:TypeId}{s u:List UInt8}{m:Int}{k:IntKind}
instance opSAdd [Ev l x (str s)][Ev l y (str u)][hb:LeC (s.length+u.length) 4611686018427387904]:OpQ P (.binOp .add t x y t') ty l bs fs (str (s++u)):=⟨fun ρ w h _=>by
 have h1:¬(((⟨s.toArray⟩:ByteArray).size+(⟨u.toArray⟩:ByteArray).size:Nat):Int) > IntKind.i64.max:=by
  have:=hb.le;have e1:(⟨s.toArray⟩:ByteArray).size=s.length:=rfl;have e2:(⟨u.toArray⟩:ByteArray).size=u.length:=rfl;rw[e1,e2];simp only[IntKind.max,IntKind.bits,IntKind.signed];simp;omega
 have h2:(⟨s.toArray⟩:ByteArray)++⟨u.toArray⟩=⟨(s++u).toArray⟩:=by
  apply ByteArray.ext;simp
 simp only[xop,execOp,h.ev (x:=x) (v:=str s),h.ev (x:=y) (v:=str u),eqGuard,binOp,Op.stringOp];rw[if_neg h1,h2];simp⟩
theorem utf8_ascii {m:Int}(h0:0≤m)(h1:m < 128):Utf8.encode m=⟨[u8 m].toArray⟩:=by
 obtain ⟨n,rfl⟩:=Int.eq_ofNat_of_zero_le h0;have hn:n < 128:=by omega
 have:∀ n:Nat,n < 128→Utf8.encode (n:Int)=⟨[u8 (n:Int)].toArray⟩:=by decide +kernel
 exact this n hn
instance opConvRune [Ev l x (.int k m)][Und P t (.int k)][Und P t' .string][ha:Ascii m]:OpQ P (.convert t t' x) ty l bs fs (str [u8 m]):=⟨fun ρ w h _=>by
 have:=utf8_ascii ha.lo ha.hi;simp[xop,execOp,h.ev (x:=x) (v:=.int k m),convert,Sem.run_bind,run_und,Conv.intToString,this]⟩
end
open Go Go.Deep Go.ChangeShapes Go.WideShapes Go.ChangeAt Go.RowKit
section
variable {w0:World}{M0:Nat→Prop}{ds:List Deferred}{a:Act}{w:World}{l:List Value}{bs bs':List Item}{fs:List (World→Prop)}
theorem St.rowToGl {α:Type}[Lay α](S:St w0 M0 ds a w l bs fs)(p:Option Addr)(xs:List α){e:TypeId}{sz n c:Nat}[hd:DropI bs (Wk.row e sz p n c (encL xs)) bs'](h:Stable (foots bs) w (AllI xs)):St w0 M0 ds a w l bs' (GlF p xs::fs):=by
 have S1:=S.perm _ hd.perm;have hap:=List.pairwise_cons.1 S1.wd.apart;have hr:(Wk.row e sz p n c (encL xs)).holds w:=S1.wd.held _ (by simp);have S2:St w0 M0 ds a w l bs' fs:=⟨S1.slots,S1.defers,S1.wd.sub (.cons _ (.refl _)) (.refl _)⟩;refine S2.add fun w' hw'=>⟨SlF.stable (own_sl hr) (fun ad hp ⟨it,hi,hk⟩=>hap.1 it hi ad.block ⟨ad,hp,rfl⟩ hk) w' hw',?_⟩
 exact (h.less fun k _ ⟨it,hi,hk⟩=>⟨it,(hd.perm.mem_iff).1 (List.mem_cons_of_mem _ hi),hk⟩) w' hw'
end
instance (priority:=650) hasls_t {fs:List (World→Prop)}{t:LTerm}[h:HasT fs t]:HasLs fs t.p t.kids:=⟨fun M w hf=>ls_of_lt (h.of M w hf)⟩
instance (priority:=650) haslx_t {fs:List (World→Prop)}{t:LTerm}[h:HasT fs t]:HasLx fs t.kids:=⟨fun M w hf=>⟨t.p,ls_of_lt (h.of M w hf)⟩⟩
section
variable {P:Program}{l:Cx}{bs:List Item}{fs:List (World→Prop)}{x y:Operand}{p:Option Addr}{n c k sz off:Nat}{kk:IntKind}{m:Int}{t ty e:TypeId}{z v:Value}{by_:Nat}
instance (priority:=875) opFieldEl [Ev l x (.pointer (some (elAddr p k)))]{s f ft:Nat}[hf:Fld P s f off ft]:OpQ P (.fieldAddr s x f) ty l bs fs (.pointer (some (gAddr p k 5 off))):=⟨fun ρ w h _=>by
 have e:elAddr p k=gAddr p k 5 0:=rfl;simp[xop,execOp,h.ev (x:=x) (v:=.pointer (some (elAddr p k))),run_fieldAt (P:=P) (s:=s) (f:=f) (off:=off) (ft:=ft),e,gAddr_add]⟩
instance (priority:=770) opLoadL1 {xs:List LTerm}[Ev l x (.pointer (some (gAddr p k 5 off)))][ha:AggT P t false][hl:HasLs fs p xs][hk:KLt k xs.length][hn:Nth (nthL xs k).cells off v] :
  OpQ P (.load t x) ty l bs fs v:=⟨fun ρ w h mm=>by
 have h1:=gl_cells (xs:=xs) (k:=k) (sz:=5) (ls_gl (hl.of _ _ mm.facts).now) hk.lt (hc:=⟨rfl⟩) hn.eq;simp[xop,execOp,Instr.loadAt,h.ev (x:=x) (v:=.pointer (some (gAddr p k 5 off))),Instr.sureAddr,loadVar,Sem.run_bind,ha.run,load,Sem.run,h1]⟩
class CLt (cs:List Bool)(k n:Nat):Prop where lt:(∀ c∈cs,c=true)→k < n
section
variable {cs:List Bool}{ls:List Value}{α:Type}{i:Lay α}{xs:List α}
instance (priority:=820) opIdxGC [Ev ⟨cs,ls⟩ x (.slice p n c)][Ev ⟨cs,ls⟩ y (.int kk m)][Und P t (.slice e)][TI P e z sz by_][hm:IsNat m k][hl:HasG fs p α i xs][hs:SzE α sz][hk:CLt cs k n][hk':CLt cs k xs.length] :
  OpQ P (.indexAddr t x y) ty ⟨cs,ls⟩ bs fs (.pointer (some (gAddr p k sz 0))):=⟨fun ρ w h mm=>by
 have hlt:=hk.lt h.1;obtain ⟨ad,rfl⟩:=gl_some (hl.of _ _ mm.facts).now (hk'.lt h.1) (by rw[hs.eq];exact hs.pos);have h2:=hm.eq;subst h2;simp[xop,execOp,h.ev (x:=x) (v:=.slice (some ad) n c),h.ev (x:=y) (v:=.int kk (k:Int))];simp[run_indexAt (P:=P) (t:=t) (e:=e) (z:=z) (sz:=sz) (by_:=by_) (Int.natCast_nonneg k) (Int.ofNat_lt.2 hlt),gAddr]⟩
instance (priority:=760) opLoadG1C {ds:List Value}[Ev ⟨cs,ls⟩ x (.pointer (some (gAddr p k sz off)))][ha:AggT P t false][hl:HasG fs p α i xs][hs:SzE α sz][hk:CLt cs k xs.length][hc:CellsOf (nthG xs k) ds][hn:Nth ds off v] :
  OpQ P (.load t x) ty ⟨cs,ls⟩ bs fs v:=⟨fun ρ w h mm=>by
 have h1:=gl_cells (hl.of _ _ mm.facts).now (hk.lt h.1) hn.eq;simp[xop,execOp,Instr.loadAt,h.ev (x:=x) (v:=.pointer (some (gAddr p k sz off))),Instr.sureAddr,loadVar,Sem.run_bind,ha.run,load,Sem.run,h1]⟩
instance (priority:=760) opLoadGAC {ds vs:List Value}[Ev ⟨cs,ls⟩ x (.pointer (some (gAddr p k sz off)))][ha:AggT P t true][TI P t z n by_][hl:HasG fs p α i xs][hs:SzE α sz][hk:CLt cs k xs.length][hc:CellsOf (nthG xs k) ds][hn:Seg ds off n vs] :
  OpQ P (.load t x) ty ⟨cs,ls⟩ bs fs (.agg ⟨vs⟩):=⟨fun ρ w h mm=>by
 have hlc:=run_loadCells_list (P:=P) w (gAddr p k sz off) vs (fun j v hj=>by
  have hjn:j < n:=by rw[←hn.eq.1];exact (List.getElem?_eq_some_iff.1 hj).1
  rw[gAddr_add];exact gl_cells (hl.of _ _ mm.facts).now (hk.lt h.1) ((hn.eq.2 j hjn).trans hj))
 rw[hn.eq.1]at hlc;simp[xop,execOp,Instr.loadAt,h.ev (x:=x) (v:=.pointer (some (gAddr p k sz off))),Instr.sureAddr,loadVar,Sem.run_bind,ha.run,run_size,hlc]⟩
end
end
def AgF (M:Nat→Prop)(w:World):World→Prop:=fun w'=>Agree M w w'
theorem AgF.stable {M:Nat→Prop}{w:World} : Stable M w (AgF M w):=fun _ h=>h
section
variable {w0:World}{M0:Nat→Prop}{ds:List Deferred}{a:Act}{w:World}{l:List Value}{bs bs':List Item}{fs:List (World→Prop)}
theorem St.borrow {α:Type}[Lay α](S:St w0 M0 ds a w l bs fs)(p:Option Addr)(xs:List α){e:TypeId}{sz n c:Nat}[hd:DropI bs (Wk.row e sz p n c (encL xs)) bs'](h:Stable (foots bs) w (AllI xs)) :
  St w0 M0 ds a w l bs' (GlF p xs::AgF (foots bs') w::fs)∧∀ a' w' l' fs',St w0 M0 ds a' w' l' bs' fs'→AgF (foots bs') w∈fs'→St w0 M0 ds a' w' l' bs fs:=by
 have S1:=S.perm _ hd.perm;have hap:=List.pairwise_cons.1 S1.wd.apart;have hr:(Wk.row e sz p n c (encL xs)).holds w:=S1.wd.held _ (by simp);have hsub:∀ k,foots bs' k→foots bs k:=fun k ⟨it,hi,hk⟩=>⟨it,(hd.perm.mem_iff).1 (List.mem_cons_of_mem _ hi),hk⟩
 have hfr:∀ k,(Wk.row e sz p n c (encL xs)).foot k→¬foots bs' k:=fun k hk ⟨it,hi,hk'⟩=>hap.1 it hi k hk hk'
 constructor;have S2:St w0 M0 ds a w l bs' fs:=⟨S1.slots,S1.defers,S1.wd.sub (.cons _ (.refl _)) (.refl _)⟩;refine (S2.add (Φ:=AgF (foots bs') w) AgF.stable).add fun w' hw'=>⟨SlF.stable (own_sl hr) (fun ad hp=>hfr _ ⟨ad,hp,rfl⟩) w' hw',?_⟩
 exact (h.less fun k _ hk=>hsub k hk) w' hw';intro a' w' l' fs' S' hm;have hag:Agree (foots bs') w w':=(S'.wd.facts _ hm).now;refine St.perm ?_ _ hd.perm.symm;have hlt:=row_foot_lt hr;refine ⟨S'.slots,S'.defers,?_⟩;refine ⟨S'.wd.agree,fun it hi=>?_,fun it hi=>?_,fun it hi=>?_,?_,fun Φ hΦ=>?_,fun it hi=>?_⟩;rcases List.mem_cons.1 hi with rfl | hi
 exact row_loc _ _ _ _ _ _ w w' (fun k hk=>hag.blk (hlt k hk) (hfr k hk)) hr;exact S'.wd.held it hi;rcases List.mem_cons.1 hi with rfl | hi
 exact fun k hk=>Nat.lt_of_lt_of_le (hlt k hk) hag.size
 exact S'.wd.lt it hi;rcases List.mem_cons.1 hi with rfl | hi
 exact S1.wd.own _ (by simp);exact S'.wd.own it hi;exact S1.wd.apart;have h1:=S1.wd.facts Φ hΦ;exact fun w2 hw2=>h1 w2 ((hag.mono fun k _ ⟨it,hi,hk⟩=>⟨it,List.mem_cons_of_mem _ hi,hk⟩).trans hw2)
 rcases List.mem_cons.1 hi with rfl | hi
 exact row_loc _ _ _ _ _ _;exact S'.wd.loc it hi
end
class PS (p:Option Addr):Prop where ex:∃ ad,p=some ad
section
variable {P:Program}{lc:Cx}{bs:List Item}{fs:List (World→Prop)}{x y:Operand}{p:Option Addr}{n c k sz o:Nat}{kk:IntKind}{m:Int}{t ty e:TypeId}{z:Value}{by_:Nat}
end
class IfT (P:Program)(t:TypeId):Prop where eq:P.underlying t=some (.interface (P.methodsAt t))
def errV (b:Bool)(te:TypeId)(pe:Value):Value:=if b then .nilIface else .iface te pe
theorem Agree.ofBelow {w w':World}(h:Below w.heap.size w w'):Agree (fun _=>False) w w':=⟨h.os,h.tape,h.output,h.size,fun k hk _=>h.block k hk⟩
end Go.Wk
namespace Go.Proofs.YtibkkbknnfehlaaGreatDoor
open Go Go.Wk
set_option synthInstance.maxSize 100000
set_option synthInstance.maxHeartbeats 400000
set_option maxRecDepth 100000
def rowS (s:List UInt8)(n:Int):List UInt8:=s++[u8 (48+n)]
theorem crow_c (s:List UInt8)(n:Int)(hn:0≤n∧n≤9)(hs:s.length≤1000)(w0:World):Ret Tryz.prog 51 [str s,.int .i64 n] w0 (fun _=>False) fun v _=>v=.string ⟨(rowS s n).toArray⟩:=by
 have ha:Ascii (48+n):=⟨by omega,by omega⟩;have hb:LeC (s.length + [u8 (48+n)].length) 4611686018427387904:=⟨by simp;omega⟩;have h32:IntKind.i32.wrap (48+n)=48+n:=by
  have:n=0∨n=1∨n=2∨n=3∨n=4∨n=5∨n=6∨n=7∨n=8∨n=9:=by omega
  rcases this with rfl | rfl | rfl | rfl | rfl | rfl | rfl | rfl | rfl | rfl <;> rfl
 refine E1 Tryz.func51 rfl Tryz.ntmps51 (Wd.start w0) ?_;intro a S;refine J10 ?_;intro a S;rw[w6 _]at S;refine J1 ?_;intro a S;rw[h32]at S;refine J6 ?_;intro a S;refine end1 S (fun _=>?_);rfl
class Dig (n:Int):Prop where
 lo:0≤n
 hi:n≤9
instance {s:List UInt8}{n:Int}{bs fs}[hs:LeC s.length 1000][hn:Dig n]:CallV Tryz.prog 51 [str s,.int .i64 n] bs fs (str (rowS s n)):=⟨fun w _=>crow_c s n ⟨hn.lo,hn.hi⟩ hs.le w⟩
structure LKey where
 group:Int
 key:LTerm
instance encKey:Enc LKey:=⟨6,fun k=>.int .i64 k.group::k.key.cells,fun _=>rfl,fun x u hu=>by
 rcases List.mem_cons.1 hu with rfl | hu
 rfl;exact encT.one x.key u hu⟩
instance layKey:Lay LKey:={ encKey with
 dflt:=⟨0,zeroL⟩
 inn:=fun w k=>LtIn w k.key
 mono:=fun w w' x h hx=>LtIn.mono h x.key hx }
instance:SzE LKey 6:=⟨rfl,by decide⟩
abbrev cKey (k:LKey):List Value:=[.int .i64 k.group,.int .i64 k.key.kind,.int .i64 k.key.user,.int .i64 k.key.num,str k.key.text,.slice k.key.p k.key.kids.length k.key.cap]
instance {k:LKey} : CellsOf k [.int .i64 k.group,.int .i64 k.key.kind,.int .i64 k.key.user,.int .i64 k.key.num,str k.key.text,.slice k.key.p k.key.kids.length k.key.cap]:=⟨rfl⟩
abbrev vKey (k:LKey):Value:=.agg ⟨[.int .i64 k.group,.int .i64 k.key.kind,.int .i64 k.key.user,.int .i64 k.key.num,str k.key.text,.slice k.key.p k.key.kids.length k.key.cap]⟩
instance (priority:=850) hast_key {fs:List (World→Prop)}{k:LKey}[h:HasI fs k]:HasT fs k.key:=⟨fun M w hf=>h.of M w hf⟩
def findG {α:Type}[Lay α](q:α→Bool)(xs:List α):α × Bool:=match xs.find? q with | some x=>(x,true) | none=>(Lay.dflt,false)
theorem findG_idx {α:Type}[Lay α](q:α→Bool):∀ (xs:List α) (o:Nat),(idxG q xs o = -1∧findG q xs=(Lay.dflt,false))∨∃ i,idxG q xs o=((o+i:Nat):Int)∧i < xs.length∧findG q xs=(nthG xs i,true)
 | [],o=>.inl ⟨rfl,rfl⟩
 | x::xs,o=>by
  rw[idxG,findG,List.find?];cases h:q x with
  | true=>exact .inr ⟨0,by simp,by simp,by simp[nthG]⟩
  | false=>
   rcases findG_idx q xs (o+1) with ⟨h1,h2⟩ | ⟨i,h1,h2,h3⟩
   exact .inl ⟨by simpa using h1,h2⟩;refine .inr ⟨i+1,?_,by simp;omega,?_⟩;rw[if_neg (by simp),show ((o:Int)+1)=((o+1:Nat):Int) from rfl,h1];omega;exact h3
theorem indexKey_c (F:Nat)[EntF Tryz.prog F](ca:List Value)(q:LKey→Bool)(xs:List LKey)(p:Option Addr)(n c:Nat)(w0:World)(hn:xs.length=n)(hl:n≤9223372036854775807)(hx:Fx w0 (GlF p xs))
  (hF:∀ x∈xs,∀ w,Agree (fun _=>False) w0 w→Ret Tryz.prog F (vKey x::ca) w (fun _=>False) fun v _=>v=.bool (q x)) :
  Ret Tryz.prog 84 [.slice p n c,.func (.func F) #[] ⟨ca⟩] w0 (fun _=>False) fun v _=>v=.int .i64 (idxG q xs 0):=by
 refine E1 Tryz.func84 rfl Tryz.ntmps84 (Wd.begin (fs:=[GlF p xs]) (by simpa using hx)) ?_;intro a S;refine J14 ?_;intro a S;refine c_forb1 S (fun(k:Nat) uu=>[(4,uu 4),(0,uu 5),(2,.int .i64 (k:Nat)),(0,uu 9),(0,uu 10),(0,uu 11),(0,uu 12),(0,uu 13),(0,uu 14),(0,uu 15),(0,uu 16),(0,uu 17),(0,uu 18)]) (fun(k:Nat)=>k≤n∧idxG q (xs.drop k) k=idxG q xs 0) (fun(k:Nat)=>n - k) (0) ?_ S.uu ?_ ?_;exact ⟨Nat.zero_le _,rfl⟩
 first | exact S | exact S.sub _ _
 clear S;rintro k uu a w ⟨hk,hrel⟩ S;refine J6 ?_;intro a S;refine kC S (fun h2=>?_) (fun h2=>?_);refine J11 ?_;intro a S;have hkl:k < n:=by simp at h2;omega
 have hK:KLt k n:=⟨hkl⟩;have hK2:KLt k xs.length:=⟨by omega⟩;rw[nthG_drop (show k < xs.length by omega),idxG]at hrel;refine J6 ?_;intro a S;refine sr S (hF (nthG xs k) (nthG_mem (by omega)) w S.wd.agree) ?_;rintro _ a w rfl S;refine kN (xtn ?_);refine kC S (fun h4=>?_) (fun h4=>?_);refine J12 ?_;intro a S;rw[if_pos h4]at hrel;refine end1 S (fun _=>?_);rw[hrel];refine J8 ?_;intro a S;rw[if_neg (by simpa using h4)]at hrel;rw[w6 ((k:Int)+1)]at S;exact ⟨k+1,S.uu,⟨hkl,by rw[←hrel];rfl⟩,S.sub _ _,by omega⟩;refine J11 ?_;intro a S;rw[List.drop_of_length_le (by simp at h2;omega)]at hrel;refine end1 S (fun _=>?_);rw[←hrel];rfl
theorem containsKey_c (F:Nat)[EntF Tryz.prog F](ca:List Value)(q:LKey→Bool)(xs:List LKey)(p:Option Addr)(n c:Nat)(w0:World)(hn:xs.length=n)(hl:n≤9223372036854775807)(hx:Fx w0 (GlF p xs))
  (hF:∀ x∈xs,∀ w,Agree (fun _=>False) w0 w→Ret Tryz.prog F (vKey x::ca) w (fun _=>False) fun v _=>v=.bool (q x)) :
  Ret Tryz.prog 46 [.slice p n c,.func (.func F) #[] ⟨ca⟩] w0 (fun _=>False) fun v _=>v=.bool (xs.any q):=by
 refine E1 Tryz.func46 rfl Tryz.ntmps46 (Wd.begin (fs:=[GlF p xs]) (by simpa using hx)) ?_;intro a S;refine J9 ?_;intro a S;refine sr S (indexKey_c F ca q xs p n c _ hn hl (S.gl0 p) fun x hx w' hw'=>hF x hx w' (S.wd.agree.trans hw')) ?_;rintro _ a w rfl S;refine J5 ?_;intro a S;refine end1 S (fun _=>?_);rw[idxG_any q xs 0 (by omega)]
theorem findKey_c (F:Nat)[EntF Tryz.prog F](ca:List Value)(q:LKey→Bool)(xs:List LKey)(p:Option Addr)(n c:Nat)(w0:World)(hn:xs.length=n)(hl:n≤9223372036854775807)(hx:Fx w0 (GlF p xs))
  (hF:∀ x∈xs,∀ w,Agree (fun _=>False) w0 w→Ret Tryz.prog F (vKey x::ca) w (fun _=>False) fun v _=>v=.bool (q x)) :
  Ret Tryz.prog 53 [.slice p n c,.func (.func F) #[] ⟨ca⟩] w0 (fun _=>False) fun v _=>v=.tuple ⟨[.agg ⟨cKey (findG q xs).1⟩,.bool (findG q xs).2]⟩:=by
 subst hn;refine E1 Tryz.func53 rfl Tryz.ntmps53 (Wd.begin (fs:=[GlF p xs]) (by simpa using hx)) ?_;intro a S;refine kS (kR ?_);refine sa S ?_;intro b4 a w S;refine J8 ?_;intro a S;refine sr S (indexKey_c F ca q xs p xs.length c _ rfl hl (S.gl0 p) fun x hx w' hw'=>hF x hx w' (S.wd.agree.trans hw')) ?_;rintro _ a w rfl S;refine J9 ?_;intro a S;refine kC S (fun h2=>?_) (fun h2=>?_);refine kS ?_;obtain ⟨i,hi,hil,hfi⟩:∃ i:Nat,idxG q xs 0=(i:Int)∧i < xs.length∧findG q xs=(nthG xs i,true):=by
  rcases findG_idx q xs 0 with ⟨h3,-⟩ | ⟨i,h3,h4,h5⟩
  rw[show ((0:Nat):Int)=0 from rfl]at h3;rw[h3]at h2;simp at h2;exact ⟨i,by simpa using h3,h4,h5⟩
 have hK:KLt i xs.length:=⟨hil⟩;rw[hi]at S;refine Y11 ?_;intro a w S;refine end2 S (fun _=>?_);rw[hfi];refine kK (xtn (kS (kR ?_)));refine sa S ?_;intro b7 a w S;refine Y10 ?_;intro a w S;have hfi:findG q xs=(Lay.dflt,false):=by
  rcases findG_idx q xs 0 with ⟨-,h4⟩ | ⟨i,h3,h4,h5⟩
  exact h4;rw[show ((0:Nat):Int)=0 from rfl]at h3;rw[h3]at h2;simp at h2
 refine end2 S (fun _=>?_);rw[hfi];rfl
theorem make1_c (k:LKey)(w0:World)(hf:Fx w0 (InF k)):Ret Tryz.prog 47 [vKey k] w0 (fun _=>False) fun v _=>v=.bool (!decide (checkF k.key.t=0)):=by
 refine E1 Tryz.func47 rfl Tryz.ntmps47 (Wd.begin (fs:=[InF k]) (by simpa using hf)) ?_;intro a S;refine kS (kR ?_);refine sa S ?_;intro b1 a w S;refine Y13 ?_;intro a w S;refine end1 S (fun _=>rfl)
theorem make3_c (b:Nat)(g:Int)(k:LKey)(w0:World)(hb:Fx w0 (BoxF b 3 [.int .i64 g])):Ret Tryz.prog 54 [vKey k,.pointer (some ⟨b,0,none⟩)] w0 (fun _=>False) fun v _=>v=.bool (decide (k.group=g)):=by
 refine E1 Tryz.func54 rfl Tryz.ntmps54 (Wd.begin (fs:=[BoxF b 3 [.int .i64 g]]) (by simpa using hb)) ?_;intro a S;refine kS (kR ?_);refine sa S ?_;intro b2 a w S;refine J13 ?_;intro a S;refine end1 S (fun _=>rfl)
abbrev lsI (b:Nat)(p:Option Addr)(c:Nat)(os:List LTerm):Wk.Item:=both (Wk.box b 22 [.slice p os.length c]) (Wk.row 24 5 p os.length c (encL os))
def rowT (s:List UInt8)(t:Term):Term:=.pair (textT s) t
theorem make2_c (b9:Nat)(os:List LTerm)(s:List UInt8)(t:LTerm)(p:Option Addr)(c:Nat)(Mr:Nat→Prop)(w0:World)(hol:os.length≤1000)
  (hout:(lsI b9 p c os).holds w0) (hMr:∀ k,Mr k→k < w0.heap.size∧¬(lsI b9 p c os).foot k)
  (ht:Stable (fun k=>(lsI b9 p c os).foot k∨Mr k) w0 (LtF t)) (ho:Stable (fun k=>(lsI b9 p c os).foot k∨Mr k) w0 (AllI os)) :
  Ret Tryz.prog 48 [str s,vL t,.pointer (some ⟨b9,0,none⟩)] w0 (lsI b9 p c os).foot fun v w'=>v=.tuple #[]∧∃ (p':Option Addr) (c':Nat) (r:LTerm),r.t=rowT s t.t∧(lsI b9 p' c' (os++[r])).holds w'∧
   (∀ k,(lsI b9 p' c' (os++[r])).foot k→(lsI b9 p c os).foot k∨w0.heap.size≤k)∧Stable (fun k=>(lsI b9 p' c' (os++[r])).foot k∨Mr k) w' (AllI (os++[r])):=by
 have hF:∀ Φ∈[LtF t,AllI os],Stable (fun k=>(lsI b9 p c os).foot k∨Mr k) w0 Φ:=by simp;exact ⟨ht,ho⟩
 refine E1 Tryz.func48 rfl Tryz.ntmps48 (Wd.it2LentM (fs:=[LtF t,AllI os]) hout rfl rfl hMr hF) ?_;intro a S;refine kS (kR ?_);refine sa S ?_;intro b4 a w S;refine kN (xtn ?_);refine c_drwe3 (.q 1 (.q 3 (.b3 0 2 6 (.q 5 (.b2 2 6 (.b2 4 6 (.l 6 (.l 7 (.b2 8 10 (.b2 9 10 (.l 10 (.e)) (.l 9 (.e))) (.l 8 (.l 9 (.e)))))) (.l 4 (.l 7 (.b2 8 10 (.b2 9 10 (.l 10 (.e)) (.l 9 (.e))) (.l 8 (.l 9 (.e))))))) (.l 2 (.l 4 (.l 7 (.b2 8 10 (.b2 9 10 (.l 10 (.e)) (.l 9 (.e))) (.l 8 (.l 9 (.e))))))))) (.b3 0 4 6 (.q 5 (.b2 4 6 (.l 6 (.l 7 (.b2 8 10 (.b2 9 10 (.l 10 (.e)) (.l 9 (.e))) (.l 8 (.l 9 (.e)))))) (.l 4 (.l 7 (.b2 8 10 (.b2 9 10 (.l 10 (.e)) (.l 9 (.e))) (.l 8 (.l 9 (.e)))))))) (.b2 0 6 (.q 5 (.l 6 (.l 7 (.b2 8 10 (.b2 9 10 (.l 10 (.e)) (.l 9 (.e))) (.l 8 (.l 9 (.e))))))) (.l 0 (.q 5 (.l 7 (.b2 8 10 (.b2 9 10 (.l 10 (.e)) (.l 9 (.e))) (.l 8 (.l 9 (.e)))))))) (.b2 0 4 (.q 5 (.l 4 (.l 7 (.b2 8 10 (.b2 9 10 (.l 10 (.e)) (.l 9 (.e))) (.l 8 (.l 9 (.e))))))) (.l 0 (.q 5 (.l 7 (.b2 8 10 (.b2 9 10 (.l 10 (.e)) (.l 9 (.e))) (.l 8 (.l 9 (.e))))))))) (.b2 0 2 (.q 5 (.l 2 (.l 4 (.l 7 (.b2 8 10 (.b2 9 10 (.l 10 (.e)) (.l 9 (.e))) (.l 8 (.l 9 (.e)))))))) (.b2 0 4 (.q 5 (.l 4 (.l 7 (.b2 8 10 (.b2 9 10 (.l 10 (.e)) (.l 9 (.e))) (.l 8 (.l 9 (.e))))))) (.l 0 (.q 5 (.l 7 (.b2 8 10 (.b2 9 10 (.l 10 (.e)) (.l 9 (.e))) (.l 8 (.l 9 (.e)))))))))))) S (fun(p':Option Addr) (c':Nat) (r:LTerm) uu=>[(5,uu 5),(0,uu 6),(0,uu 7),(0,uu 8),(0,uu 9),(0,uu 10),(0,uu 11),(0,uu 12),(0,uu 13)]) [Wk.box b4 24 t.cells,ext Mr] (fun(p':Option Addr) (c':Nat) (r:LTerm)=>[Wk.box b9 22 [.slice p' (os.length+1) c'],Wk.row 24 5 p' (os.length+1) c' (encL (os++[r])),ext Mr]) (fun(p':Option Addr) (c':Nat) (r:LTerm)=>[AllI (os++[r])]) (fun(p':Option Addr) (c':Nat) (r:LTerm)=>r.t=rowT s t.t) ?_ ?_
 intro w S;(iterate 2 (refine tq S ?_;intro a S));refine tb3 ?_ ?_ ?_;refine sq S ?_;intro a S;refine te S ?_;refine tq S ?_;intro a S;refine tb2 ?_ ?_;refine sc S ?_;intro a w S;refine te S ?_;refine tb2 ?_ ?_;replace S:=S.add (Φ:=LtF (textL s)) (fun _ _=>by simp[LtIn,textL,LsIn,LtF]);refine sr S (pair_c (textL s) t _ w (foots_lt S) (S.t _) (S.t t)) ?_;rintro _ a w ⟨r,rfl,hr,hrf⟩ S;replace S:=S.add hrf;refine te S ?_;refine tl (sn S ?_);intro b11 a w S;refine te S ?_;refine tl ?_;refine sap S (by simp[maxLen];omega) (by omega) ?_;rintro p3 c3 a w - S;refine te S ?_;refine tb2 ?_ ?_;have hKL:KLt os.length (os.length+1):=⟨by omega⟩;refine sq S ?_;intro a S;refine te S ?_;refine tb2 ?_ ?_;refine sws S (os.length+1) (by omega) (by omega) ?_;intro a w S;refine te S ?_;refine tl (sw S ?_);intro a w S;refine te S ?_;refine tn ?_;have e:=own_put (A:=encL os) (Z:=[.int .i64 0,.int .i64 0,.int .i64 0,.string ⟨#[]⟩,.slice none 0 0]) (vs:=r.cells) _ _ (show (encL os).length=os.length*5 from encL_len os) rfl rfl;rw[e,←encT_cells,←encL_append]at S;have h1:Stable _ _ (AllI os):=S.wd.facts (AllI os) (by simp);have h2:Stable _ _ (LtF r):=S.wd.facts (LtF r) (by simp);replace S:=S.add (AllI.snoc h1 h2);exact ⟨p3,c3,r,S.uu,hr,S.sub _ _⟩;refine sw S ?_;intro a w S;refine te S ?_;refine tl ?_;refine sws S (os.length+1) (by omega) (by omega) ?_;intro a w S;refine te S ?_;refine tn ?_;have e:=own_put (A:=encL os) (Z:=[.int .i64 0,.int .i64 0,.int .i64 0,.string ⟨#[]⟩,.slice none 0 0]) (vs:=r.cells) _ _ (show (encL os).length=os.length*5 from encL_len os) rfl rfl
 rw[e,←encT_cells,←encL_append]at S;have h1:Stable _ _ (AllI os):=S.wd.facts (AllI os) (by simp);have h2:Stable _ _ (LtF r):=S.wd.facts (LtF r) (by simp);replace S:=S.add (AllI.snoc h1 h2);exact ⟨p3,c3,r,S.uu,hr,S.sub _ _⟩;refine sw S ?_;intro a w S;refine te S ?_;refine tl ?_;have hKL:KLt os.length (os.length+1):=⟨by omega⟩;refine sq S ?_;intro a S;refine te S ?_;refine tl ?_;refine sws S (os.length+1) (by omega) (by omega) ?_;intro a w S;refine te S ?_;refine tn ?_;have e:=own_put (A:=encL os) (Z:=[.int .i64 0,.int .i64 0,.int .i64 0,.string ⟨#[]⟩,.slice none 0 0]) (vs:=r.cells) _ _ (show (encL os).length=os.length*5 from encL_len os) rfl rfl;rw[e,←encT_cells,←encL_append]at S;have h1:Stable _ _ (AllI os):=S.wd.facts (AllI os) (by simp);have h2:Stable _ _ (LtF r):=S.wd.facts (LtF r) (by simp);replace S:=S.add (AllI.snoc h1 h2);exact ⟨p3,c3,r,S.uu,hr,S.sub _ _⟩;refine sn S ?_;intro b11 a w S;refine te S ?_;refine tl ?_;replace S:=S.add (Φ:=LtF (textL s)) (fun _ _=>by simp[LtIn,textL,LsIn,LtF]);refine sr S (pair_c (textL s) t _ w (foots_lt S) (S.t _) (S.t t)) ?_;rintro _ a w ⟨r,rfl,hr,hrf⟩ S;replace S:=S.add hrf;refine te S ?_;refine tl ?_;refine sap S (by simp[maxLen];omega) (by omega) ?_;rintro p3 c3 a w - S;refine te S ?_;refine tb2 ?_ ?_;have hKL:KLt os.length (os.length+1):=⟨by omega⟩;refine sq S ?_;intro a S;refine te S ?_;refine tb2 ?_ ?_;refine sws S (os.length+1) (by omega) (by omega) ?_;intro a w S;refine te S ?_;refine tl (sw S ?_);intro a w S;refine te S ?_;refine tn ?_
 have e:=own_put (A:=encL os) (Z:=[.int .i64 0,.int .i64 0,.int .i64 0,.string ⟨#[]⟩,.slice none 0 0]) (vs:=r.cells) _ _ (show (encL os).length=os.length*5 from encL_len os) rfl rfl;rw[e,←encT_cells,←encL_append]at S;have h1:Stable _ _ (AllI os):=S.wd.facts (AllI os) (by simp);have h2:Stable _ _ (LtF r):=S.wd.facts (LtF r) (by simp);replace S:=S.add (AllI.snoc h1 h2);exact ⟨p3,c3,r,S.uu,hr,S.sub _ _⟩;refine sw S ?_;intro a w S;refine te S ?_;refine tl ?_;refine sws S (os.length+1) (by omega) (by omega) ?_;intro a w S;refine te S ?_;refine tn ?_;have e:=own_put (A:=encL os) (Z:=[.int .i64 0,.int .i64 0,.int .i64 0,.string ⟨#[]⟩,.slice none 0 0]) (vs:=r.cells) _ _ (show (encL os).length=os.length*5 from encL_len os) rfl rfl;rw[e,←encT_cells,←encL_append]at S;have h1:Stable _ _ (AllI os):=S.wd.facts (AllI os) (by simp);have h2:Stable _ _ (LtF r):=S.wd.facts (LtF r) (by simp);replace S:=S.add (AllI.snoc h1 h2);exact ⟨p3,c3,r,S.uu,hr,S.sub _ _⟩;refine sw S ?_;intro a w S;refine te S ?_;refine tl ?_;have hKL:KLt os.length (os.length+1):=⟨by omega⟩;refine sq S ?_;intro a S;refine te S ?_;refine tl ?_;refine sws S (os.length+1) (by omega) (by omega) ?_;intro a w S;refine te S ?_;refine tn ?_;have e:=own_put (A:=encL os) (Z:=[.int .i64 0,.int .i64 0,.int .i64 0,.string ⟨#[]⟩,.slice none 0 0]) (vs:=r.cells) _ _ (show (encL os).length=os.length*5 from encL_len os) rfl rfl;rw[e,←encT_cells,←encL_append]at S;have h1:Stable _ _ (AllI os):=S.wd.facts (AllI os) (by simp);have h2:Stable _ _ (LtF r):=S.wd.facts (LtF r) (by simp)
 replace S:=S.add (AllI.snoc h1 h2);exact ⟨p3,c3,r,S.uu,hr,S.sub _ _⟩;refine sn S ?_;intro b11 a w S;refine te S ?_;refine tl (sc S ?_);intro a w S;refine te S ?_;refine tl ?_;replace S:=S.add (Φ:=LtF (textL s)) (fun _ _=>by simp[LtIn,textL,LsIn,LtF]);refine sr S (pair_c (textL s) t _ w (foots_lt S) (S.t _) (S.t t)) ?_;rintro _ a w ⟨r,rfl,hr,hrf⟩ S;replace S:=S.add hrf;refine te S ?_;refine tl ?_;refine sap S (by simp[maxLen];omega) (by omega) ?_;rintro p3 c3 a w - S;refine te S ?_;refine tb2 ?_ ?_;have hKL:KLt os.length (os.length+1):=⟨by omega⟩;refine sq S ?_;intro a S;refine te S ?_;refine tb2 ?_ ?_;refine sws S (os.length+1) (by omega) (by omega) ?_;intro a w S;refine te S ?_;refine tl (sw S ?_);intro a w S;refine te S ?_;refine tn ?_;have e:=own_put (A:=encL os) (Z:=[.int .i64 0,.int .i64 0,.int .i64 0,.string ⟨#[]⟩,.slice none 0 0]) (vs:=r.cells) _ _ (show (encL os).length=os.length*5 from encL_len os) rfl rfl;rw[e,←encT_cells,←encL_append]at S;have h1:Stable _ _ (AllI os):=S.wd.facts (AllI os) (by simp);have h2:Stable _ _ (LtF r):=S.wd.facts (LtF r) (by simp);replace S:=S.add (AllI.snoc h1 h2);exact ⟨p3,c3,r,S.uu,hr,S.sub _ _⟩;refine sw S ?_;intro a w S;refine te S ?_;refine tl ?_;refine sws S (os.length+1) (by omega) (by omega) ?_;intro a w S;refine te S ?_;refine tn ?_;have e:=own_put (A:=encL os) (Z:=[.int .i64 0,.int .i64 0,.int .i64 0,.string ⟨#[]⟩,.slice none 0 0]) (vs:=r.cells) _ _ (show (encL os).length=os.length*5 from encL_len os) rfl rfl;rw[e,←encT_cells,←encL_append]at S
 have h1:Stable _ _ (AllI os):=S.wd.facts (AllI os) (by simp);have h2:Stable _ _ (LtF r):=S.wd.facts (LtF r) (by simp);replace S:=S.add (AllI.snoc h1 h2);exact ⟨p3,c3,r,S.uu,hr,S.sub _ _⟩;refine sw S ?_;intro a w S;refine te S ?_;refine tl ?_;have hKL:KLt os.length (os.length+1):=⟨by omega⟩;refine sq S ?_;intro a S;refine te S ?_;refine tl ?_;refine sws S (os.length+1) (by omega) (by omega) ?_;intro a w S;refine te S ?_;refine tn ?_;have e:=own_put (A:=encL os) (Z:=[.int .i64 0,.int .i64 0,.int .i64 0,.string ⟨#[]⟩,.slice none 0 0]) (vs:=r.cells) _ _ (show (encL os).length=os.length*5 from encL_len os) rfl rfl;rw[e,←encT_cells,←encL_append]at S;have h1:Stable _ _ (AllI os):=S.wd.facts (AllI os) (by simp);have h2:Stable _ _ (LtF r):=S.wd.facts (LtF r) (by simp);replace S:=S.add (AllI.snoc h1 h2);exact ⟨p3,c3,r,S.uu,hr,S.sub _ _⟩;refine sc S ?_;intro a w S;refine te S ?_;refine tb3 ?_ ?_ ?_;refine sq S ?_;intro a S;refine te S ?_;refine tq S ?_;intro a S;refine tb2 ?_ ?_;replace S:=S.add (Φ:=LtF (textL s)) (fun _ _=>by simp[LtIn,textL,LsIn,LtF]);refine sr S (pair_c (textL s) t _ w (foots_lt S) (S.t _) (S.t t)) ?_;rintro _ a w ⟨r,rfl,hr,hrf⟩ S;replace S:=S.add hrf;refine te S ?_;refine tl (sn S ?_);intro b11 a w S;refine te S ?_;refine tl ?_;refine sap S (by simp[maxLen];omega) (by omega) ?_;rintro p3 c3 a w - S;refine te S ?_;refine tb2 ?_ ?_;have hKL:KLt os.length (os.length+1):=⟨by omega⟩;refine sq S ?_;intro a S;refine te S ?_;refine tb2 ?_ ?_;refine sws S (os.length+1) (by omega) (by omega) ?_;intro a w S
 refine te S ?_;refine tl (sw S ?_);intro a w S;refine te S ?_;refine tn ?_;have e:=own_put (A:=encL os) (Z:=[.int .i64 0,.int .i64 0,.int .i64 0,.string ⟨#[]⟩,.slice none 0 0]) (vs:=r.cells) _ _ (show (encL os).length=os.length*5 from encL_len os) rfl rfl;rw[e,←encT_cells,←encL_append]at S;have h1:Stable _ _ (AllI os):=S.wd.facts (AllI os) (by simp);have h2:Stable _ _ (LtF r):=S.wd.facts (LtF r) (by simp);replace S:=S.add (AllI.snoc h1 h2);exact ⟨p3,c3,r,S.uu,hr,S.sub _ _⟩;refine sw S ?_;intro a w S;refine te S ?_;refine tl ?_;refine sws S (os.length+1) (by omega) (by omega) ?_;intro a w S;refine te S ?_;refine tn ?_;have e:=own_put (A:=encL os) (Z:=[.int .i64 0,.int .i64 0,.int .i64 0,.string ⟨#[]⟩,.slice none 0 0]) (vs:=r.cells) _ _ (show (encL os).length=os.length*5 from encL_len os) rfl rfl;rw[e,←encT_cells,←encL_append]at S;have h1:Stable _ _ (AllI os):=S.wd.facts (AllI os) (by simp);have h2:Stable _ _ (LtF r):=S.wd.facts (LtF r) (by simp);replace S:=S.add (AllI.snoc h1 h2);exact ⟨p3,c3,r,S.uu,hr,S.sub _ _⟩;refine sw S ?_;intro a w S;refine te S ?_;refine tl ?_;have hKL:KLt os.length (os.length+1):=⟨by omega⟩;refine sq S ?_;intro a S;refine te S ?_;refine tl ?_;refine sws S (os.length+1) (by omega) (by omega) ?_;intro a w S;refine te S ?_;refine tn ?_;have e:=own_put (A:=encL os) (Z:=[.int .i64 0,.int .i64 0,.int .i64 0,.string ⟨#[]⟩,.slice none 0 0]) (vs:=r.cells) _ _ (show (encL os).length=os.length*5 from encL_len os) rfl rfl;rw[e,←encT_cells,←encL_append]at S;have h1:Stable _ _ (AllI os):=S.wd.facts (AllI os) (by simp)
 have h2:Stable _ _ (LtF r):=S.wd.facts (LtF r) (by simp);replace S:=S.add (AllI.snoc h1 h2);exact ⟨p3,c3,r,S.uu,hr,S.sub _ _⟩;refine sn S ?_;intro b11 a w S;refine te S ?_;refine tl ?_;replace S:=S.add (Φ:=LtF (textL s)) (fun _ _=>by simp[LtIn,textL,LsIn,LtF]);refine sr S (pair_c (textL s) t _ w (foots_lt S) (S.t _) (S.t t)) ?_;rintro _ a w ⟨r,rfl,hr,hrf⟩ S;replace S:=S.add hrf;refine te S ?_;refine tl ?_;refine sap S (by simp[maxLen];omega) (by omega) ?_;rintro p3 c3 a w - S;refine te S ?_;refine tb2 ?_ ?_;have hKL:KLt os.length (os.length+1):=⟨by omega⟩;refine sq S ?_;intro a S;refine te S ?_;refine tb2 ?_ ?_;refine sws S (os.length+1) (by omega) (by omega) ?_;intro a w S;refine te S ?_;refine tl (sw S ?_);intro a w S;refine te S ?_;refine tn ?_;have e:=own_put (A:=encL os) (Z:=[.int .i64 0,.int .i64 0,.int .i64 0,.string ⟨#[]⟩,.slice none 0 0]) (vs:=r.cells) _ _ (show (encL os).length=os.length*5 from encL_len os) rfl rfl;rw[e,←encT_cells,←encL_append]at S;have h1:Stable _ _ (AllI os):=S.wd.facts (AllI os) (by simp);have h2:Stable _ _ (LtF r):=S.wd.facts (LtF r) (by simp);replace S:=S.add (AllI.snoc h1 h2);exact ⟨p3,c3,r,S.uu,hr,S.sub _ _⟩;refine sw S ?_;intro a w S;refine te S ?_;refine tl ?_;refine sws S (os.length+1) (by omega) (by omega) ?_;intro a w S;refine te S ?_;refine tn ?_;have e:=own_put (A:=encL os) (Z:=[.int .i64 0,.int .i64 0,.int .i64 0,.string ⟨#[]⟩,.slice none 0 0]) (vs:=r.cells) _ _ (show (encL os).length=os.length*5 from encL_len os) rfl rfl;rw[e,←encT_cells,←encL_append]at S
 have h1:Stable _ _ (AllI os):=S.wd.facts (AllI os) (by simp);have h2:Stable _ _ (LtF r):=S.wd.facts (LtF r) (by simp);replace S:=S.add (AllI.snoc h1 h2);exact ⟨p3,c3,r,S.uu,hr,S.sub _ _⟩;refine sw S ?_;intro a w S;refine te S ?_;refine tl ?_;have hKL:KLt os.length (os.length+1):=⟨by omega⟩;refine sq S ?_;intro a S;refine te S ?_;refine tl ?_;refine sws S (os.length+1) (by omega) (by omega) ?_;intro a w S;refine te S ?_;refine tn ?_;have e:=own_put (A:=encL os) (Z:=[.int .i64 0,.int .i64 0,.int .i64 0,.string ⟨#[]⟩,.slice none 0 0]) (vs:=r.cells) _ _ (show (encL os).length=os.length*5 from encL_len os) rfl rfl;rw[e,←encT_cells,←encL_append]at S;have h1:Stable _ _ (AllI os):=S.wd.facts (AllI os) (by simp);have h2:Stable _ _ (LtF r):=S.wd.facts (LtF r) (by simp);replace S:=S.add (AllI.snoc h1 h2);exact ⟨p3,c3,r,S.uu,hr,S.sub _ _⟩;replace S:=S.add (Φ:=LtF (textL s)) (fun _ _=>by simp[LtIn,textL,LsIn,LtF]);refine sr S (pair_c (textL s) t _ w (foots_lt S) (S.t _) (S.t t)) ?_;rintro _ a w ⟨r,rfl,hr,hrf⟩ S;replace S:=S.add hrf;refine te S ?_;refine tb2 ?_ ?_;refine sq S ?_;intro a S;refine te S ?_;refine tq S ?_;intro a S;refine tl (sn S ?_);intro b11 a w S;refine te S ?_;refine tl ?_;refine sap S (by simp[maxLen];omega) (by omega) ?_;rintro p3 c3 a w - S;refine te S ?_;refine tb2 ?_ ?_;have hKL:KLt os.length (os.length+1):=⟨by omega⟩;refine sq S ?_;intro a S;refine te S ?_;refine tb2 ?_ ?_;refine sws S (os.length+1) (by omega) (by omega) ?_;intro a w S;refine te S ?_;refine tl (sw S ?_);intro a w S;refine te S ?_;refine tn ?_
 have e:=own_put (A:=encL os) (Z:=[.int .i64 0,.int .i64 0,.int .i64 0,.string ⟨#[]⟩,.slice none 0 0]) (vs:=r.cells) _ _ (show (encL os).length=os.length*5 from encL_len os) rfl rfl;rw[e,←encT_cells,←encL_append]at S;have h1:Stable _ _ (AllI os):=S.wd.facts (AllI os) (by simp);have h2:Stable _ _ (LtF r):=S.wd.facts (LtF r) (by simp);replace S:=S.add (AllI.snoc h1 h2);exact ⟨p3,c3,r,S.uu,hr,S.sub _ _⟩;refine sw S ?_;intro a w S;refine te S ?_;refine tl ?_;refine sws S (os.length+1) (by omega) (by omega) ?_;intro a w S;refine te S ?_;refine tn ?_;have e:=own_put (A:=encL os) (Z:=[.int .i64 0,.int .i64 0,.int .i64 0,.string ⟨#[]⟩,.slice none 0 0]) (vs:=r.cells) _ _ (show (encL os).length=os.length*5 from encL_len os) rfl rfl;rw[e,←encT_cells,←encL_append]at S;have h1:Stable _ _ (AllI os):=S.wd.facts (AllI os) (by simp);have h2:Stable _ _ (LtF r):=S.wd.facts (LtF r) (by simp);replace S:=S.add (AllI.snoc h1 h2);exact ⟨p3,c3,r,S.uu,hr,S.sub _ _⟩;refine sw S ?_;intro a w S;refine te S ?_;refine tl ?_;have hKL:KLt os.length (os.length+1):=⟨by omega⟩;refine sq S ?_;intro a S;refine te S ?_;refine tl ?_;refine sws S (os.length+1) (by omega) (by omega) ?_;intro a w S;refine te S ?_;refine tn ?_;have e:=own_put (A:=encL os) (Z:=[.int .i64 0,.int .i64 0,.int .i64 0,.string ⟨#[]⟩,.slice none 0 0]) (vs:=r.cells) _ _ (show (encL os).length=os.length*5 from encL_len os) rfl rfl;rw[e,←encT_cells,←encL_append]at S;have h1:Stable _ _ (AllI os):=S.wd.facts (AllI os) (by simp);have h2:Stable _ _ (LtF r):=S.wd.facts (LtF r) (by simp)
 replace S:=S.add (AllI.snoc h1 h2);exact ⟨p3,c3,r,S.uu,hr,S.sub _ _⟩;refine sn S ?_;intro b11 a w S;refine te S ?_;refine tl (sq S ?_);intro a S;refine te S ?_;refine tq S ?_;intro a S;refine tl ?_;refine sap S (by simp[maxLen];omega) (by omega) ?_;rintro p3 c3 a w - S;refine te S ?_;refine tb2 ?_ ?_;have hKL:KLt os.length (os.length+1):=⟨by omega⟩;refine sq S ?_;intro a S;refine te S ?_;refine tb2 ?_ ?_;refine sws S (os.length+1) (by omega) (by omega) ?_;intro a w S;refine te S ?_;refine tl (sw S ?_);intro a w S;refine te S ?_;refine tn ?_;have e:=own_put (A:=encL os) (Z:=[.int .i64 0,.int .i64 0,.int .i64 0,.string ⟨#[]⟩,.slice none 0 0]) (vs:=r.cells) _ _ (show (encL os).length=os.length*5 from encL_len os) rfl rfl;rw[e,←encT_cells,←encL_append]at S;have h1:Stable _ _ (AllI os):=S.wd.facts (AllI os) (by simp);have h2:Stable _ _ (LtF r):=S.wd.facts (LtF r) (by simp);replace S:=S.add (AllI.snoc h1 h2);exact ⟨p3,c3,r,S.uu,hr,S.sub _ _⟩;refine sw S ?_;intro a w S;refine te S ?_;refine tl ?_;refine sws S (os.length+1) (by omega) (by omega) ?_;intro a w S;refine te S ?_;refine tn ?_;have e:=own_put (A:=encL os) (Z:=[.int .i64 0,.int .i64 0,.int .i64 0,.string ⟨#[]⟩,.slice none 0 0]) (vs:=r.cells) _ _ (show (encL os).length=os.length*5 from encL_len os) rfl rfl;rw[e,←encT_cells,←encL_append]at S;have h1:Stable _ _ (AllI os):=S.wd.facts (AllI os) (by simp);have h2:Stable _ _ (LtF r):=S.wd.facts (LtF r) (by simp);replace S:=S.add (AllI.snoc h1 h2);exact ⟨p3,c3,r,S.uu,hr,S.sub _ _⟩;refine sw S ?_;intro a w S;refine te S ?_;refine tl ?_
 have hKL:KLt os.length (os.length+1):=⟨by omega⟩;refine sq S ?_;intro a S;refine te S ?_;refine tl ?_;refine sws S (os.length+1) (by omega) (by omega) ?_;intro a w S;refine te S ?_;refine tn ?_;have e:=own_put (A:=encL os) (Z:=[.int .i64 0,.int .i64 0,.int .i64 0,.string ⟨#[]⟩,.slice none 0 0]) (vs:=r.cells) _ _ (show (encL os).length=os.length*5 from encL_len os) rfl rfl;rw[e,←encT_cells,←encL_append]at S;have h1:Stable _ _ (AllI os):=S.wd.facts (AllI os) (by simp);have h2:Stable _ _ (LtF r):=S.wd.facts (LtF r) (by simp);replace S:=S.add (AllI.snoc h1 h2);exact ⟨p3,c3,r,S.uu,hr,S.sub _ _⟩;refine sn S ?_;intro b11 a w S;refine te S ?_;refine tb2 ?_ ?_;refine sq S ?_;intro a S;refine te S ?_;refine tq S ?_;intro a S;refine tl ?_;replace S:=S.add (Φ:=LtF (textL s)) (fun _ _=>by simp[LtIn,textL,LsIn,LtF]);refine sr S (pair_c (textL s) t _ w (foots_lt S) (S.t _) (S.t t)) ?_;rintro _ a w ⟨r,rfl,hr,hrf⟩ S;replace S:=S.add hrf;refine te S ?_;refine tl ?_;refine sap S (by simp[maxLen];omega) (by omega) ?_;rintro p3 c3 a w - S;refine te S ?_;refine tb2 ?_ ?_;have hKL:KLt os.length (os.length+1):=⟨by omega⟩;refine sq S ?_;intro a S;refine te S ?_;refine tb2 ?_ ?_;refine sws S (os.length+1) (by omega) (by omega) ?_;intro a w S;refine te S ?_;refine tl (sw S ?_);intro a w S;refine te S ?_;refine tn ?_;have e:=own_put (A:=encL os) (Z:=[.int .i64 0,.int .i64 0,.int .i64 0,.string ⟨#[]⟩,.slice none 0 0]) (vs:=r.cells) _ _ (show (encL os).length=os.length*5 from encL_len os) rfl rfl;rw[e,←encT_cells,←encL_append]at S
 have h1:Stable _ _ (AllI os):=S.wd.facts (AllI os) (by simp);have h2:Stable _ _ (LtF r):=S.wd.facts (LtF r) (by simp);replace S:=S.add (AllI.snoc h1 h2);exact ⟨p3,c3,r,S.uu,hr,S.sub _ _⟩;refine sw S ?_;intro a w S;refine te S ?_;refine tl ?_;refine sws S (os.length+1) (by omega) (by omega) ?_;intro a w S;refine te S ?_;refine tn ?_;have e:=own_put (A:=encL os) (Z:=[.int .i64 0,.int .i64 0,.int .i64 0,.string ⟨#[]⟩,.slice none 0 0]) (vs:=r.cells) _ _ (show (encL os).length=os.length*5 from encL_len os) rfl rfl;rw[e,←encT_cells,←encL_append]at S;have h1:Stable _ _ (AllI os):=S.wd.facts (AllI os) (by simp);have h2:Stable _ _ (LtF r):=S.wd.facts (LtF r) (by simp);replace S:=S.add (AllI.snoc h1 h2);exact ⟨p3,c3,r,S.uu,hr,S.sub _ _⟩;refine sw S ?_;intro a w S;refine te S ?_;refine tl ?_;have hKL:KLt os.length (os.length+1):=⟨by omega⟩;refine sq S ?_;intro a S;refine te S ?_;refine tl ?_;refine sws S (os.length+1) (by omega) (by omega) ?_;intro a w S;refine te S ?_;refine tn ?_;have e:=own_put (A:=encL os) (Z:=[.int .i64 0,.int .i64 0,.int .i64 0,.string ⟨#[]⟩,.slice none 0 0]) (vs:=r.cells) _ _ (show (encL os).length=os.length*5 from encL_len os) rfl rfl;rw[e,←encT_cells,←encL_append]at S;have h1:Stable _ _ (AllI os):=S.wd.facts (AllI os) (by simp);have h2:Stable _ _ (LtF r):=S.wd.facts (LtF r) (by simp);replace S:=S.add (AllI.snoc h1 h2);exact ⟨p3,c3,r,S.uu,hr,S.sub _ _⟩;replace S:=S.add (Φ:=LtF (textL s)) (fun _ _=>by simp[LtIn,textL,LsIn,LtF]);refine sr S (pair_c (textL s) t _ w (foots_lt S) (S.t _) (S.t t)) ?_;rintro _ a w ⟨r,rfl,hr,hrf⟩ S
 replace S:=S.add hrf;refine te S ?_;refine tl (sq S ?_);intro a S;refine te S ?_;refine tq S ?_;intro a S;refine tl ?_;refine sap S (by simp[maxLen];omega) (by omega) ?_;rintro p3 c3 a w - S;refine te S ?_;refine tb2 ?_ ?_;have hKL:KLt os.length (os.length+1):=⟨by omega⟩;refine sq S ?_;intro a S;refine te S ?_;refine tb2 ?_ ?_;refine sws S (os.length+1) (by omega) (by omega) ?_;intro a w S;refine te S ?_;refine tl (sw S ?_);intro a w S;refine te S ?_;refine tn ?_;have e:=own_put (A:=encL os) (Z:=[.int .i64 0,.int .i64 0,.int .i64 0,.string ⟨#[]⟩,.slice none 0 0]) (vs:=r.cells) _ _ (show (encL os).length=os.length*5 from encL_len os) rfl rfl;rw[e,←encT_cells,←encL_append]at S;have h1:Stable _ _ (AllI os):=S.wd.facts (AllI os) (by simp);have h2:Stable _ _ (LtF r):=S.wd.facts (LtF r) (by simp);replace S:=S.add (AllI.snoc h1 h2);exact ⟨p3,c3,r,S.uu,hr,S.sub _ _⟩;refine sw S ?_;intro a w S;refine te S ?_;refine tl ?_;refine sws S (os.length+1) (by omega) (by omega) ?_;intro a w S;refine te S ?_;refine tn ?_;have e:=own_put (A:=encL os) (Z:=[.int .i64 0,.int .i64 0,.int .i64 0,.string ⟨#[]⟩,.slice none 0 0]) (vs:=r.cells) _ _ (show (encL os).length=os.length*5 from encL_len os) rfl rfl;rw[e,←encT_cells,←encL_append]at S;have h1:Stable _ _ (AllI os):=S.wd.facts (AllI os) (by simp);have h2:Stable _ _ (LtF r):=S.wd.facts (LtF r) (by simp);replace S:=S.add (AllI.snoc h1 h2);exact ⟨p3,c3,r,S.uu,hr,S.sub _ _⟩;refine sw S ?_;intro a w S;refine te S ?_;refine tl ?_;have hKL:KLt os.length (os.length+1):=⟨by omega⟩
 refine sq S ?_;intro a S;refine te S ?_;refine tl ?_;refine sws S (os.length+1) (by omega) (by omega) ?_;intro a w S;refine te S ?_;refine tn ?_;have e:=own_put (A:=encL os) (Z:=[.int .i64 0,.int .i64 0,.int .i64 0,.string ⟨#[]⟩,.slice none 0 0]) (vs:=r.cells) _ _ (show (encL os).length=os.length*5 from encL_len os) rfl rfl;rw[e,←encT_cells,←encL_append]at S;have h1:Stable _ _ (AllI os):=S.wd.facts (AllI os) (by simp);have h2:Stable _ _ (LtF r):=S.wd.facts (LtF r) (by simp);replace S:=S.add (AllI.snoc h1 h2);exact ⟨p3,c3,r,S.uu,hr,S.sub _ _⟩;refine sn S ?_;intro b11 a w S;refine te S ?_;refine tb2 ?_ ?_;refine sq S ?_;intro a S;refine te S ?_;refine tq S ?_;intro a S;refine tl (sc S ?_);intro a w S;refine te S ?_;refine tl ?_;replace S:=S.add (Φ:=LtF (textL s)) (fun _ _=>by simp[LtIn,textL,LsIn,LtF]);refine sr S (pair_c (textL s) t _ w (foots_lt S) (S.t _) (S.t t)) ?_;rintro _ a w ⟨r,rfl,hr,hrf⟩ S;replace S:=S.add hrf;refine te S ?_;refine tl ?_;refine sap S (by simp[maxLen];omega) (by omega) ?_;rintro p3 c3 a w - S;refine te S ?_;refine tb2 ?_ ?_;have hKL:KLt os.length (os.length+1):=⟨by omega⟩;refine sq S ?_;intro a S;refine te S ?_;refine tb2 ?_ ?_;refine sws S (os.length+1) (by omega) (by omega) ?_;intro a w S;refine te S ?_;refine tl (sw S ?_);intro a w S;refine te S ?_;refine tn ?_;have e:=own_put (A:=encL os) (Z:=[.int .i64 0,.int .i64 0,.int .i64 0,.string ⟨#[]⟩,.slice none 0 0]) (vs:=r.cells) _ _ (show (encL os).length=os.length*5 from encL_len os) rfl rfl;rw[e,←encT_cells,←encL_append]at S
 have h1:Stable _ _ (AllI os):=S.wd.facts (AllI os) (by simp);have h2:Stable _ _ (LtF r):=S.wd.facts (LtF r) (by simp);replace S:=S.add (AllI.snoc h1 h2);exact ⟨p3,c3,r,S.uu,hr,S.sub _ _⟩;refine sw S ?_;intro a w S;refine te S ?_;refine tl ?_;refine sws S (os.length+1) (by omega) (by omega) ?_;intro a w S;refine te S ?_;refine tn ?_;have e:=own_put (A:=encL os) (Z:=[.int .i64 0,.int .i64 0,.int .i64 0,.string ⟨#[]⟩,.slice none 0 0]) (vs:=r.cells) _ _ (show (encL os).length=os.length*5 from encL_len os) rfl rfl;rw[e,←encT_cells,←encL_append]at S;have h1:Stable _ _ (AllI os):=S.wd.facts (AllI os) (by simp);have h2:Stable _ _ (LtF r):=S.wd.facts (LtF r) (by simp);replace S:=S.add (AllI.snoc h1 h2);exact ⟨p3,c3,r,S.uu,hr,S.sub _ _⟩;refine sw S ?_;intro a w S;refine te S ?_;refine tl ?_;have hKL:KLt os.length (os.length+1):=⟨by omega⟩;refine sq S ?_;intro a S;refine te S ?_;refine tl ?_;refine sws S (os.length+1) (by omega) (by omega) ?_;intro a w S;refine te S ?_;refine tn ?_;have e:=own_put (A:=encL os) (Z:=[.int .i64 0,.int .i64 0,.int .i64 0,.string ⟨#[]⟩,.slice none 0 0]) (vs:=r.cells) _ _ (show (encL os).length=os.length*5 from encL_len os) rfl rfl;rw[e,←encT_cells,←encL_append]at S;have h1:Stable _ _ (AllI os):=S.wd.facts (AllI os) (by simp);have h2:Stable _ _ (LtF r):=S.wd.facts (LtF r) (by simp);replace S:=S.add (AllI.snoc h1 h2);exact ⟨p3,c3,r,S.uu,hr,S.sub _ _⟩;refine sc S ?_;intro a w S;refine te S ?_;refine tb2 ?_ ?_;refine sq S ?_;intro a S;refine te S ?_;refine tq S ?_;intro a S;refine tl ?_
 replace S:=S.add (Φ:=LtF (textL s)) (fun _ _=>by simp[LtIn,textL,LsIn,LtF]);refine sr S (pair_c (textL s) t _ w (foots_lt S) (S.t _) (S.t t)) ?_;rintro _ a w ⟨r,rfl,hr,hrf⟩ S;replace S:=S.add hrf;refine te S ?_;refine tl ?_;refine sap S (by simp[maxLen];omega) (by omega) ?_;rintro p3 c3 a w - S;refine te S ?_;refine tb2 ?_ ?_;have hKL:KLt os.length (os.length+1):=⟨by omega⟩;refine sq S ?_;intro a S;refine te S ?_;refine tb2 ?_ ?_;refine sws S (os.length+1) (by omega) (by omega) ?_;intro a w S;refine te S ?_;refine tl (sw S ?_);intro a w S;refine te S ?_;refine tn ?_;have e:=own_put (A:=encL os) (Z:=[.int .i64 0,.int .i64 0,.int .i64 0,.string ⟨#[]⟩,.slice none 0 0]) (vs:=r.cells) _ _ (show (encL os).length=os.length*5 from encL_len os) rfl rfl;rw[e,←encT_cells,←encL_append]at S;have h1:Stable _ _ (AllI os):=S.wd.facts (AllI os) (by simp);have h2:Stable _ _ (LtF r):=S.wd.facts (LtF r) (by simp);replace S:=S.add (AllI.snoc h1 h2);exact ⟨p3,c3,r,S.uu,hr,S.sub _ _⟩;refine sw S ?_;intro a w S;refine te S ?_;refine tl ?_;refine sws S (os.length+1) (by omega) (by omega) ?_;intro a w S;refine te S ?_;refine tn ?_;have e:=own_put (A:=encL os) (Z:=[.int .i64 0,.int .i64 0,.int .i64 0,.string ⟨#[]⟩,.slice none 0 0]) (vs:=r.cells) _ _ (show (encL os).length=os.length*5 from encL_len os) rfl rfl;rw[e,←encT_cells,←encL_append]at S;have h1:Stable _ _ (AllI os):=S.wd.facts (AllI os) (by simp);have h2:Stable _ _ (LtF r):=S.wd.facts (LtF r) (by simp);replace S:=S.add (AllI.snoc h1 h2);exact ⟨p3,c3,r,S.uu,hr,S.sub _ _⟩
 refine sw S ?_;intro a w S;refine te S ?_;refine tl ?_;have hKL:KLt os.length (os.length+1):=⟨by omega⟩;refine sq S ?_;intro a S;refine te S ?_;refine tl ?_;refine sws S (os.length+1) (by omega) (by omega) ?_;intro a w S;refine te S ?_;refine tn ?_;have e:=own_put (A:=encL os) (Z:=[.int .i64 0,.int .i64 0,.int .i64 0,.string ⟨#[]⟩,.slice none 0 0]) (vs:=r.cells) _ _ (show (encL os).length=os.length*5 from encL_len os) rfl rfl;rw[e,←encT_cells,←encL_append]at S;have h1:Stable _ _ (AllI os):=S.wd.facts (AllI os) (by simp);have h2:Stable _ _ (LtF r):=S.wd.facts (LtF r) (by simp);replace S:=S.add (AllI.snoc h1 h2);exact ⟨p3,c3,r,S.uu,hr,S.sub _ _⟩;replace S:=S.add (Φ:=LtF (textL s)) (fun _ _=>by simp[LtIn,textL,LsIn,LtF]);refine sr S (pair_c (textL s) t _ w (foots_lt S) (S.t _) (S.t t)) ?_;rintro _ a w ⟨r,rfl,hr,hrf⟩ S;replace S:=S.add hrf;refine te S ?_;refine tl (sq S ?_);intro a S;refine te S ?_;refine tq S ?_;intro a S;refine tl ?_;refine sap S (by simp[maxLen];omega) (by omega) ?_;rintro p3 c3 a w - S;refine te S ?_;refine tb2 ?_ ?_;have hKL:KLt os.length (os.length+1):=⟨by omega⟩;refine sq S ?_;intro a S;refine te S ?_;refine tb2 ?_ ?_;refine sws S (os.length+1) (by omega) (by omega) ?_;intro a w S;refine te S ?_;refine tl (sw S ?_);intro a w S;refine te S ?_;refine tn ?_;have e:=own_put (A:=encL os) (Z:=[.int .i64 0,.int .i64 0,.int .i64 0,.string ⟨#[]⟩,.slice none 0 0]) (vs:=r.cells) _ _ (show (encL os).length=os.length*5 from encL_len os) rfl rfl;rw[e,←encT_cells,←encL_append]at S
 have h1:Stable _ _ (AllI os):=S.wd.facts (AllI os) (by simp);have h2:Stable _ _ (LtF r):=S.wd.facts (LtF r) (by simp);replace S:=S.add (AllI.snoc h1 h2);exact ⟨p3,c3,r,S.uu,hr,S.sub _ _⟩;refine sw S ?_;intro a w S;refine te S ?_;refine tl ?_;refine sws S (os.length+1) (by omega) (by omega) ?_;intro a w S;refine te S ?_;refine tn ?_;have e:=own_put (A:=encL os) (Z:=[.int .i64 0,.int .i64 0,.int .i64 0,.string ⟨#[]⟩,.slice none 0 0]) (vs:=r.cells) _ _ (show (encL os).length=os.length*5 from encL_len os) rfl rfl;rw[e,←encT_cells,←encL_append]at S;have h1:Stable _ _ (AllI os):=S.wd.facts (AllI os) (by simp);have h2:Stable _ _ (LtF r):=S.wd.facts (LtF r) (by simp);replace S:=S.add (AllI.snoc h1 h2);exact ⟨p3,c3,r,S.uu,hr,S.sub _ _⟩;refine sw S ?_;intro a w S;refine te S ?_;refine tl ?_;have hKL:KLt os.length (os.length+1):=⟨by omega⟩;refine sq S ?_;intro a S;refine te S ?_;refine tl ?_;refine sws S (os.length+1) (by omega) (by omega) ?_;intro a w S;refine te S ?_;refine tn ?_;have e:=own_put (A:=encL os) (Z:=[.int .i64 0,.int .i64 0,.int .i64 0,.string ⟨#[]⟩,.slice none 0 0]) (vs:=r.cells) _ _ (show (encL os).length=os.length*5 from encL_len os) rfl rfl;rw[e,←encT_cells,←encL_append]at S;have h1:Stable _ _ (AllI os):=S.wd.facts (AllI os) (by simp);have h2:Stable _ _ (LtF r):=S.wd.facts (LtF r) (by simp);replace S:=S.add (AllI.snoc h1 h2);exact ⟨p3,c3,r,S.uu,hr,S.sub _ _⟩;clear S;rintro p' c' r uu a w hr S;have hf:=S.wd.facts (AllI (os++[r])) (by simp);have hn8:=S.itNew (Wk.box b9 22 [.slice p' (os.length+1) c'])
 have hnr:=S.itNew (Wk.row 24 5 p' (os.length+1) c' (encL (os++[r])));have hb:=(S.toBoth).it (both (Wk.box b9 22 [.slice p' (os.length+1) c']) (Wk.row 24 5 p' (os.length+1) c' (encL (os++[r]))));rw[show os.length+1=(os++[r]).length from by simp]at hb hnr hn8 hf;refine end0 S (fun _=>⟨rfl,p',c',r,hr,hb,fun k hk=>hk.elim (hn8 k) (hnr k),hf.less fun k _ hk=>?_⟩);rcases hk with (hk | hk) | hk
 exact ⟨_,by simp,hk⟩;exact ⟨_,List.mem_cons_of_mem _ (List.mem_cons_self ..),hk⟩;exact ⟨ext Mr,by simp,hk⟩
theorem risF_all (q:Int→Bool):∀ (xs:List Int) (o:Option Int),risF q o xs=true→(∀ x∈xs,q x=true)∧xs.Pairwise (· < ·)∧∀ y,o=some y→∀ x∈xs,y < x
 | [],o,_=>⟨nofun,.nil,nofun⟩
 | x::xs,o,h=>by
  rw[risF_cons,Bool.and_eq_true,Bool.and_eq_true]at h;obtain ⟨⟨h1,h2⟩,h3⟩:=h;obtain ⟨i1,i2,i3⟩:=risF_all q xs (some x) h3;refine ⟨fun y hy=>?_,List.pairwise_cons.2 ⟨fun y hy=>i3 x rfl y hy,i2⟩,fun y hy z hz=>?_⟩;rcases List.mem_cons.1 hy with rfl | hy
  exact h1;exact i1 y hy;subst hy;have h4:y < x:=by simpa using h2
  rcases List.mem_cons.1 hz with rfl | hz
  exact h4;have:=i3 x rfl z hz;omega
structure PermOk (p:LPerm):Prop where
 owner:1≤p.owner∧p.owner≤6
 rdU:∀ x∈p.rd.xs,1≤x∧x≤6
 rdO:p.owner ∉ p.rd.xs
 rd:p.rd.xs.Pairwise (· < ·)
 grU:∀ x∈p.gr.xs,1≤x∧x≤3
 gr:p.gr.xs.Pairwise (· < ·)
theorem permOk {p:LPerm}(h:permB p=true):PermOk p:=by
 unfold permB at h;simp only[Bool.and_eq_true]at h;obtain ⟨⟨⟨⟨⟨⟨h1,-⟩,-⟩,h2⟩,-⟩,h3⟩,-⟩:=h;obtain ⟨a1,a2,-⟩:=risF_all _ _ _ h2;obtain ⟨b1,b2,-⟩:=risF_all _ _ _ h3;refine ⟨by simpa [okU] using h1,fun x hx=>?_,fun hx=>?_,a2,fun x hx=>by simpa [okG] using b1 x hx,b2⟩;have:=a1 x hx;simp[okU]at this;omega;have:=a1 _ hx;simp at this
theorem rising_len {lo hi:Int} : ∀ {xs:List Int},xs.Pairwise (· < ·)→(∀ x∈xs,lo≤x∧x≤hi)→(xs.length:Int)≤max 0 (hi - lo+1)
 | [],_,_=>by simp;omega
 | x::xs,h,hx=>by
  have h1:=List.pairwise_cons.1 h;have h2:=hx x (by simp);have ih:=rising_len (lo:=x+1) (hi:=hi) h1.2 fun y hy=>by have:=h1.1 y hy;have:=hx y (by simp[hy]);omega
  simp only[qqA];omega
end Go.Proofs.YtibkkbknnfehlaaGreatDoor