/- 7: a part of this claim's texts, joined: WalQ WalR PlainDisk PlainWalB PlainWalC PlainWalD WalLawE WalLawF WalLawG WalLawH WalLawI WalLawJ WalLawK WalLawL WalLawM WalLawN WalLawP WalV PlainFail PlainVaultB PlainVaultC VaultG VaultH W11 W12 W13 TermI PlainDecB PlainDecC PlainVaultD PlainVaultJ RefBytes. -/
import Derived.Test.YtdakncgafdnjfaaGreatPk6
import Derived.SizedLaws
import Derived.OpenShut
import Derived.Lib.ConvBytes
namespace Go.Proofs.YtdakncgafdnjfaaGreat
open Go Go.Wk
set_option synthInstance.maxSize 100000
set_option synthInstance.maxHeartbeats 400000
set_option maxRecDepth 100000
theorem breaks_d (g r b:Nat) (q:Option Addr) (e:Nat) (x:WS) (v:Int) (u:FrameMode) (w0:World) (hb:(Wk.box g 134 (cWal b q e x)).holds w0) (hr:Stable (fun k=>k=g) w0 (BoxF r 26 [.int .i64 v])) :
  CallsDIn (FW none) 0 Tryz.prog 79 [.pointer (some ⟨g,0,none⟩),.pointer (some ⟨r,0,none⟩)].toArray u w0 fun e' u' w'=>u'=u∧∃ v',e'=.returned v'∧Agree (fun k=>k=g) w0 w'∧(Wk.box g 134 (cWal b q e (brkF x v))).holds w':=by
 refine enterDI Tryz.func79 rfl rfl (Wd.itLent (x:=Wk.box g 134 (cWal b q e x)) (fs:=[BoxF r 26 [.int .i64 v]]) hb (by intro Φ hΦ;obtain rfl:=List.mem_singleton.1 hΦ;exact hr)) (fun a S=>?_)
 simp only[Tryz.ntmps79,qqA,qqB,Nat.reduceAdd,Nat.reduceSub,qqC,qqD,qqE,qqF]at S
 refine kS (kR ?_);(iterate 4 (refine sq S ?_;clear S;intro a S));refine kN (xtn ?_)
 refine kC S (fun h0=>?_) (fun h0=>?_)
 refine kR ?_;(iterate 3 (refine sq S ?_;clear S;intro a S));refine sw S ?_;clear S;intro a w S;refine kN ?_
 have h:v≠0:=by simpa using h0
 have hh:=S.box g
 refine end0 (R:=fun _ w'=>(Wk.box g 134 (cWal b q e (brkF x v))).holds w') S (fun _=>?_)
 rw[show brkF x v = { x with broken:=true } from by simp[brkF,h]]
 exact hh
 refine kK ?_
 have h:v=0:=by simpa using h0
 have hh:=S.box g
 refine end0 (R:=fun _ w'=>(Wk.box g 134 (cWal b q e (brkF x v))).holds w') S (fun _=>?_)
 rw[show brkF x v=x from by simp[brkF,h]]
 exact hh
section
variable {w0:World} {M0:Nat→Prop} {ds:List Deferred} {a:Act} {w:World} {l:List Value} {bs bs':List Wk.Item} {fs:List (World→Prop)}
theorem St.entGl {x:Wk.Item} {ys:List LBy} (S:St w0 M0 ds a w l bs fs) (hap:∀ k,(entI ys).foot k→¬x.foot k) [HasIt bs (entI ys)] {y:LBy} (hy:y∈ys):Stable x.foot w (GlF y.p y.bs):=by
 have h:=(S.it (entI ys)) y hy
 exact fun w' ha=>gl_loc (fun ad hp=>ha.blk (h.1 ad hp) (hap ad.block ⟨y,hy,ad,hp,rfl⟩)) h.2
theorem ent_row {y:LBy} {e:TypeId} (h:(Wk.row e 1 y.p y.bs.length y.c (encL y.bs)).holds w):(entI [y]).holds w:=fun x hx=>by
 obtain rfl:=List.mem_singleton.1 hx
 exact ⟨fun ad hp=>row_foot_lt h ad.block ⟨ad,hp,rfl⟩,(gl_own (M:=fun _=>False) h (fun _ _ _ _=>trivial) (fun _ _ h=>h)).now⟩
theorem St.rowEnt (S:St w0 M0 ds a w l bs fs) (y:LBy) {e:TypeId} [hr:ReplI bs (Wk.row e 1 y.p y.bs.length y.c (encL y.bs)) (entI [y]) bs'] (h:(Wk.row e 1 y.p y.bs.length y.c (encL y.bs)).holds w):St w0 M0 ds a w l bs' fs:=
 St.become S (Wk.row e 1 y.p y.bs.length y.c (encL y.bs)) (entI [y]) h ent_row (fun k ⟨x,hx,ad,hp,hk⟩=>by obtain rfl:=List.mem_singleton.1 hx;exact ⟨ad,hp,hk.symm⟩)
theorem St.ofWd {w0:World} {M0:Nat→Prop} {w:World} {bs:List Wk.Item} {fs:List (World→Prop)} (h:Wd w0 M0 w bs fs):St w0 M0 [] ⟨#[],[]⟩ w [] bs fs:=⟨rfl,rfl,h⟩
end
def roomF (x:WS) (bs:List UInt8):Int:=if refF x bs=0 then (if x.n - x.fin < secN bs.length then 6 else 0) else refF x bs
theorem refF_zero {x:WS} {bs:List UInt8} (h:refF x bs=0):bs.length≤40000∧x.broken=false:=by
 unfold refF at h
 split at h
 cases h
 split at h
 cases h
 exact ⟨by omega,by rename_i h2;simpa using h2⟩
def appS (x:WS) (y:LBy) (r:Int):WS:=if r=0 then { x with said:=x.said++[y],fin:=x.fin+secN y.bs.length } else { x with broken:=true }
theorem append_c (g b m:Nat) (p:Option Addr) (c:Nat) (s:DS) (q:Option Addr) (e:Nat) (x:WS) (y:LBy) (w0:World) (hn:x.n≤1000) (hfi:x.fin≤x.n) (hsl:x.said.length≤1000000∧x.said.length≤e) (hs0:0 < x.said.length) (ht:0≤x.turn∧x.turn≤4294967295) (hyl:y.bs.length≤10000000) (hl:s.loose.length≤980000)
  (hd:(both (dkI b m p c s) (walI g b q e x)).holds w0) (f0:Stable (both (dkI b m p c s) (walI g b q e x)).foot w0 (GlF y.p y.bs)) :
  Ret Tryz.prog 20 [.pointer (some ⟨g,0,none⟩),.slice y.p y.bs.length y.c] w0 (both (dkI b m p c s) (walI g b q e x)).foot fun v w'=>
   (roomF x y.bs≠0∧v=.int .i64 (roomF x y.bs)∧(both (dkI b m p c s) (walI g b q e x)).holds w')∨
   (roomF x y.bs=0∧v=.int .i64 (layF s ((fromN x.n x.turn+x.fin:Nat):Int) (leavesF x.turn (x.said.length:Int) y.bs)).2∧∃ p' c' q' e',∃ y':LBy,y'.bs=y.bs∧(x.said.length≤e')∧
    (both (dkI b m p' c' (layF s ((fromN x.n x.turn+x.fin:Nat):Int) (leavesF x.turn (x.said.length:Int) y.bs)).1) (walI g b q' e' (appS x y' (layF s ((fromN x.n x.turn+x.fin:Nat):Int) (leavesF x.turn (x.said.length:Int) y.bs)).2))).holds w'∧
    ∀ k,(both (dkI b m p' c' (layF s ((fromN x.n x.turn+x.fin:Nat):Int) (leavesF x.turn (x.said.length:Int) y.bs)).1) (walI g b q' e' (appS x y' (layF s ((fromN x.n x.turn+x.fin:Nat):Int) (leavesF x.turn (x.said.length:Int) y.bs)).2))).foot k→(both (dkI b m p c s) (walI g b q e x)).foot k∨w0.heap.size≤k):=by
 have hfr:fromN x.n x.turn≤1002:=by
  unfold fromN
  rcases (show (x.turn % 2).toNat=0∨(x.turn % 2).toNat=1 by omega) with h | h <;> rw[h] <;> omega
 refine enterD Tryz.func20 rfl rfl (Wd.it2Lent (x:=dkI b m p c s) (y:=walI g b q e x) (fs:=[GlF y.p y.bs]) hd rfl rfl (by intro Φ hΦ;obtain rfl:=List.mem_singleton.1 hΦ;exact f0)) (fun a S=>?_)
 simp only[Tryz.ntmps20,qqA,qqB,Nat.reduceAdd,Nat.reduceSub,qqC,qqD,qqE,qqF]at S
 replace S:=S.front (walI g b q e x)
 replace S:=St.open3 S
 refine kS (kR ?_);refine sa S ?_;clear S;intro b4 a w S;refine kN (xtn (kS (kS (kR ?_))));(iterate 2 (refine sq S ?_;clear S;intro a S))
 refine sr S (refuses_c g b q e x y _ (BoxF.stable (S.boxF g) (fun h=>h))) ?_;clear S;rintro _ a w rfl S
 refine sq S ?_;clear S;intro a S;refine kN (xtn (kS (kR ?_)));(iterate 2 (refine sq S ?_;clear S;intro a S));refine kN (xtn ?_)
 refine kC S (fun h2=>?_) (fun h2=>?_)
 ·refine kS (kR (sq S ?_));clear S;intro a S;refine sw S ?_;clear S;intro a w S;refine kN (xtn (kT (xtr ?_)))
  have he:refF x y.bs≠0:=by simpa using h2
  have hR:roomF x y.bs=refF x y.bs:=by rw[roomF,if_neg he]
  have hh:=St.hold4 (S.sub [Wk.box g 134 (cWal b q e x),Wk.row 25 1 q x.said.length e (encL x.said),entI x.said,dkI b m p c s] []) rfl rfl rfl rfl
  refine endD1 S (.inl ?_)
  rw[hR]
  exact ⟨he,rfl,hh⟩
 ·refine kK (xtn (kS ?_))
  have he:refF x y.bs=0:=by simpa using h2
  obtain ⟨hy4,hbk⟩:=refF_zero he
  refine kR ?_;(iterate 2 (refine sq S ?_;clear S;intro a S));refine sr S (sectors_c (y.bs.length:Int) _) ?_;clear S;rintro _ a w rfl S
  rw[secF_nat _ hy4]at S
  refine sq S ?_;clear S;intro a S;refine kN (xtn (kS (kS ?_)));refine c_drawD [(0,true),(1,true),(2,true),(3,true),(4,true),(5,true),(6,true),(7,true),(8,true),(9,true),(10,true),(11,true)] [] S ?_;clear S;intro w S;(iterate 12 (refine dq S ?_;clear S;intro a S));refine dn (xtn ?_)
  refine kC S (fun h5=>?_) (fun h5=>?_)
  ·refine kS (kR (sw S ?_));clear S;intro a w S;refine kN (xtn (kT (xtr ?_)))
   have hro:x.n - x.fin < secN y.bs.length:=by
    have:=of_decide_eq_true h5
    rw[w64 _ (by omega) (by omega)]at this;omega
   have hR:roomF x y.bs=6:=by rw[roomF,if_pos he,if_pos hro]
   have hh:=St.hold4 (S.sub [Wk.box g 134 (cWal b q e x),Wk.row 25 1 q x.said.length e (encL x.said),entI x.said,dkI b m p c s] []) rfl rfl rfl rfl
   refine endD1 S (.inl ?_)
   rw[hR]
   exact ⟨by decide,rfl,hh⟩
  ·refine kK (xtn (kS ?_))
   have hro:¬x.n - x.fin < secN y.bs.length:=by
    have:=of_decide_eq_false h5
    rw[w64 _ (by omega) (by omega)]at this;omega
   refine kR (sq S ?_);clear S;intro a S;refine sdefc S ?_;clear S;intro a S;refine kN (xtn (kS (kR (sq S ?_))));clear S;intro a S
   replace S:=S.addNil 5 1
   refine sap S (by simp only[maxLen];omega) (by omega) ?_;clear S;rintro p8 c8 a w - S
   rw[show ([]:List Value)++encL y.bs=encL y.bs from rfl,Nat.zero_add]at S
   have hc8:=own_le (S.row p8 y.bs.length)
   replace S:=St.rowEnt S ⟨p8,c8,y.bs⟩ (S.row p8 y.bs.length)
   obtain ⟨y',hy'⟩:∃ y':LBy,y'=⟨p8,c8,y.bs⟩:=⟨_,rfl⟩
   rw[←hy']at S
   obtain ⟨R,hR⟩:∃ R,R=layF s ((fromN x.n x.turn+x.fin:Nat):Int) (leavesF x.turn (x.said.length:Int) y.bs):=⟨_,rfl⟩
   have hro0:roomF x y.bs=0:=by rw[roomF,if_pos he,if_neg hro]
   have hll:(leavesF x.turn (x.said.length:Int) y.bs).length≤834:=by rw[leavesF_len];exact secN_le _ hy4
   refine sq S ?_;clear S;intro a S;refine kN (xtn (kS (kS ?_)));refine c_drawL 29 [(0,true),(1,true),(2,true),(3,true),(4,true),(5,true),(6,true),(7,true),(8,true),(10,true),(11,true),(12,true),(13,true),(15,true),(16,true),(17,true),(18,true),(19,true),(20,true),(21,true),(22,true),(23,true),(24,true),(25,true),(26,true),(9,false),(14,true),(27,false),(28,false),(29,false)] [Wk.box g 134 (cWal b q e x)] S ?_;clear S;intro w S;(iterate 24 (refine dqL S ?_;clear S;intro a S))
   rw[wu32 (x.said.length:Int) (by omega) (by omega)]at S
   refine dqL S ?_;clear S;intro a S;refine dlL ?_;refine sr S (from_c b x.n x.turn hn ht _) ?_;clear S;rintro _ a w rfl S;refine deL S ?_;refine dqL S ?_;clear S;intro a S
   rw[show IntKind.i64.wrap ((fromN x.n x.turn:Int)+(x.fin:Int))=((fromN x.n x.turn+x.fin:Nat):Int) from by rw[w64 _ (by omega) (by omega)];rfl]at S
   refine dlL ?_
   have hlt:=foots_lt S
   refine sr S (leaves_f x.turn (x.said.length:Int) p8 y.bs.length c8 _) ?_;clear S;rintro _ a w ⟨h0,h1,h2',rfl,⟨n0,n1,n2⟩,e0,e1,e2⟩ S
   replace S:=S.add (Φ:=BoxF h0 25 [.slice p8 y.bs.length c8]) (BoxF.stable e0 (fun hm=>by have:=hlt _ hm;omega))
   replace S:=S.add (Φ:=BoxF h1 130 [.int .u32 x.turn]) (BoxF.stable e1 (fun hm=>by have:=hlt _ hm;omega))
   replace S:=S.add (Φ:=BoxF h2' 130 [.int .u32 (x.said.length:Int)]) (BoxF.stable e2 (fun hm=>by have:=hlt _ hm;omega))
   refine deL S ?_;refine dlL ?_
   have hgl:Stable (dkI b m p c s).foot w (GlF y'.p y'.bs):=St.entGl S (fun k hk hk2=>St.apart2 S (entI [y']) (dkI b m p c s) k hk hk2) (by simp)
   rw[hy']at hgl
   refine sit (dkI b m p c s) S (lay_c 177 [.pointer (some ⟨h0,0,none⟩),.pointer (some ⟨h1,0,none⟩),.pointer (some ⟨h2',0,none⟩)] (leavesF x.turn (x.said.length:Int) y.bs) b m p c s (fromN x.n x.turn+x.fin) [GlF p8 y.bs,BoxF h2' 130 [.int .u32 (x.said.length:Int)],BoxF h1 130 [.int .u32 x.turn],BoxF h0 25 [.slice p8 y.bs.length c8]] _ (by omega) (by omega) (S.it (dkI b m p c s)) (fun Φ hΦ=>by
    rcases List.mem_cons.1 hΦ with rfl | hΦ
    ·exact hgl
    ·exact S.lend (dkI b m p c s) (S.wd.facts Φ (List.mem_append_left _ hΦ))) (fun M w1 hM hF=>leaves_it x.turn (x.said.length:Int) ht (by omega) h0 h1 h2' y.bs p8 c8 hy4 hc8 w1 M hM (hF _ (by simp)) (hF _ (by simp)) (hF _ (by simp)) (hF _ (by simp)))) rfl ?_;clear S hgl;rintro _ a w ⟨rfl,p2,c2,hh,hn2⟩ hS
   have S:=hS (dkI b m p2 c2 (layF s ((fromN x.n x.turn+x.fin:Nat):Int) (leavesF x.turn (x.said.length:Int) y.bs)).1) hh hn2
   clear hS
   rw[←hR]at S
   refine deL S ?_;refine dlL (sw S ?_);clear S;intro a w S;refine dzL (xtn (kS (kR ?_)));(iterate 2 (refine sq S ?_;clear S;intro a S));refine kN (xtn ?_)
   refine kC S (fun h10=>?_) (fun h10=>?_)
   ·refine kS ?_
    have hR2:R.2=0:=of_decide_eq_true h10
    obtain ⟨gq,cur,hq,-⟩:=own_cells (S.row q x.said.length) hs0
    have hLe:LeC x.said.length e:=⟨hsl.2⟩
    have hLl:LeC x.said.length x.said.length:=⟨Nat.le_refl _⟩
    have hL0:LeC 0 x.said.length:=⟨Nat.zero_le _⟩
    subst hq
    refine c_drawL 21 [(0,true),(1,true),(2,true),(3,true),(4,true),(5,true),(6,true),(7,true),(8,true),(9,true),(10,true),(11,true),(12,true),(13,true),(14,true),(15,true),(16,true),(17,false),(18,false),(19,false),(20,true),(21,false)] [Wk.box g 134 (cWal b (some ⟨gq,0,none⟩) e x)] S ?_;clear S;intro w S
    (iterate 17 (refine dqL S ?_;clear S;intro a S));refine dlL (sn S ?_);clear S;intro b80 a w S;refine deL S ?_;refine dlL ?_
    have hrow:=S.row (some ⟨gq,0,none⟩) x.said.length
    refine sapG ⟨gq,0,none⟩ x.said.length (encL x.said) S (by rw[encL_len];rfl) (fun j u hj=>(own_sl hrow).2 _ rfl j u hj) (by omega) (by simp only[maxLen];omega) (by omega) ?_
    clear S;intro g2 c2' a w S
    rw[show encL x.said++[.slice p8 y.bs.length c8]=encL (x.said++[y']) from by rw[hy',encL_append];rfl]at S
    refine deL S ?_;refine dlL (sq S ?_);clear S;intro a S;refine deL S ?_;refine dqL S ?_;clear S;intro a S;refine dlL (sw S ?_);clear S;intro a w S;refine dzL (xtn (kR ?_));(iterate 6 (refine sq S ?_;clear S;intro a S))
    rw[show IntKind.i64.wrap ((x.fin:Int)+(secN y.bs.length:Int))=((x.fin+secN y.bs.length:Nat):Int) from by rw[w64 _ (by omega) (by omega)];rfl]at S
    (iterate 2 (refine sq S ?_;clear S;intro a S));refine sw S ?_;clear S;intro a w S;refine kN (xtn (kS (kR (sq S ?_))));clear S;intro a S;refine sw S ?_;clear S;intro a w S;refine kN (xtn (kT ?_))
    obtain ⟨x',hx'⟩:∃ x':WS,x' = { x with said:=x.said++[y'],fin:=x.fin+secN y.bs.length }:=⟨_,rfl⟩
    have hya:y'.bs=y.bs:=by rw[hy']
    have hap:appS x y' R.2=x':=by rw[appS,if_pos hR2,hx',hya]
    have hbr:brkF x' R.2=x':=by rw[brkF,hR2];simp
    replace S:=S.sub [Wk.row 25 1 (some ⟨g2,0,none⟩) (x.said.length+1) c2' (encL (x.said++[y'])),entI [y'],Wk.box b4 26 [.int .i64 R.2],Wk.box g 134 [.pointer (some ⟨b,0,none⟩),.int .i64 (x.n:Int),.int .u32 x.turn,.slice (some ⟨g2,0,none⟩) (x.said.length+1) c2',.int .i64 ((x.fin+secN y.bs.length:Nat):Int),.bool x.broken],entI x.said,dkI b m p2 c2 R.1] []
    replace S:=S.front (entI x.said)
    replace S:=S.front (entI [y'])
    replace S:=St.entAdd S
    rw[show x.said.length+1=x'.said.length from by rw[hx'];simp]at S
    replace S:=St.items S (bs':=[entI x'.said,Wk.row 25 1 (some ⟨g2,0,none⟩) x'.said.length c2' (encL x'.said),Wk.box b4 26 [.int .i64 R.2],Wk.box g 134 (cWal b (some ⟨g2,0,none⟩) c2' x'),dkI b m p2 c2 R.1]) (by rw[hx'])
    have hc2:=own_le (S.row (some ⟨g2,0,none⟩) x'.said.length)
    have hne:¬b4=g:=St.apart2 S (Wk.box b4 26 [.int .i64 R.2]) (Wk.box g 134 (cWal b (some ⟨g2,0,none⟩) c2' x')) b4 rfl
    refine endDef1 (Wk.box g 134 (cWal b (some ⟨g2,0,none⟩) c2' x')) (Wk.box g 134 (cWal b (some ⟨g2,0,none⟩) c2' (brkF x' R.2))) S rfl ((breaks_d g b4 b (some ⟨g2,0,none⟩) c2' x' R.2 .returning w (S.box g) (BoxF.stable (S.boxF b4) hne)).mono fun _ _ _ h=>h) (fun _ h=>h) (fun w' hwd=>?_)
    rw[hbr]at hwd
    have S2:=(St.ofWd hwd).sub [entI x'.said,Wk.row 25 1 (some ⟨g2,0,none⟩) x'.said.length c2' (encL x'.said),Wk.box g 134 (cWal b (some ⟨g2,0,none⟩) c2' x'),dkI b m p2 c2 R.1] []
    have S3:=S2.perm [Wk.box g 134 (cWal b (some ⟨g2,0,none⟩) c2' x'),Wk.row 25 1 (some ⟨g2,0,none⟩) x'.said.length c2' (encL x'.said),entI x'.said,dkI b m p2 c2 R.1] (((List.Perm.swap _ _ _).trans ((List.Perm.cons _ (List.Perm.swap _ _ _)))).trans (List.Perm.swap _ _ _))
    have hh:=St.hold4 S3 rfl rfl rfl rfl
    have h1:=St.new4 S3 rfl rfl rfl rfl
    refine .inr ⟨hro0,by rw[hR],p2,c2,some ⟨g2,0,none⟩,c2',y',hya,by rw[hx']at hc2;simp at hc2;omega,?_⟩
    rw[←hR,hap]
    exact ⟨hh,h1⟩
   ·refine kK (xtn (kS (kR (sq S ?_))));clear S;intro a S;refine sw S ?_;clear S;intro a w S;refine kN (xtn (kT ?_))
    have hR2:R.2≠0:=of_decide_eq_false h10
    have hap:appS x y' R.2 = { x with broken:=true }:=by rw[appS,if_neg hR2]
    have hbr:brkF x R.2 = { x with broken:=true }:=by simp[brkF,hR2]
    have S:=S.sub [Wk.box b4 26 [.int .i64 R.2],Wk.box g 134 (cWal b q e x),Wk.row 25 1 q x.said.length e (encL x.said),entI x.said,dkI b m p2 c2 R.1] []
    have hne:¬b4=g:=St.apart2 S (Wk.box b4 26 [.int .i64 R.2]) (Wk.box g 134 (cWal b q e x)) b4 rfl
    refine endDef1 (Wk.box g 134 (cWal b q e x)) (Wk.box g 134 (cWal b q e (brkF x R.2))) S rfl ((breaks_d g b4 b q e x R.2 .returning w (S.box g) (BoxF.stable (S.boxF b4) hne)).mono fun _ _ _ h=>h) (fun _ h=>h) (fun w' hwd=>?_)
    rw[hbr]at hwd
    have S3:=(St.ofWd hwd).sub [Wk.box g 134 (cWal b q e { x with broken:=true }),Wk.row 25 1 q x.said.length e (encL x.said),entI x.said,dkI b m p2 c2 R.1] []
    have hh:=St.hold4 S3 rfl rfl rfl rfl
    have h1:=St.new4 S3 rfl rfl rfl rfl
    refine .inr ⟨hro0,by rw[hR],p2,c2,q,e,y',by rw[hy'],hsl.2,?_⟩
    rw[←hR,hap]
    exact ⟨hh,h1⟩
theorem upT_range (t:Int):0≤upT t∧upT t≤4294967295:=by
 unfold upT IntKind.wrap
 simp only[IntKind.bits,IntKind.signed,Bool.false_and]
 simp;omega
def roomC (x:WS) (bs:List UInt8):Int:=if refF x bs=0 then (if x.n < secN bs.length∨upT x.turn=0 then 6 else 0) else refF x bs
def chkS (x:WS) (y:LBy) (r:Int):WS:=if r=0 then { x with turn:=upT x.turn,said:=[y],fin:=secN y.bs.length } else { x with broken:=true }
theorem chk_c (g b m:Nat) (p:Option Addr) (c:Nat) (s:DS) (q:Option Addr) (e:Nat) (x:WS) (y:LBy) (w0:World) (hn:x.n≤1000) (_ht:0≤x.turn∧x.turn≤4294967295) (hyl:y.bs.length≤10000000) (hl:s.loose.length≤980000)
  (hd:(both (dkI b m p c s) (walI g b q e x)).holds w0) (f0:Stable (both (dkI b m p c s) (walI g b q e x)).foot w0 (GlF y.p y.bs)) :
  Ret Tryz.prog 19 [.pointer (some ⟨g,0,none⟩),.slice y.p y.bs.length y.c] w0 (both (dkI b m p c s) (walI g b q e x)).foot fun v w'=>
   (roomC x y.bs≠0∧v=.int .i64 (roomC x y.bs)∧(both (dkI b m p c s) (walI g b q e x)).holds w')∨
   (roomC x y.bs=0∧v=.int .i64 (begF x.n (upT x.turn) y.bs s).2∧∃ p' c' q' e',∃ y':LBy,y'.bs=y.bs∧((begF x.n (upT x.turn) y.bs s).2≠0→q'=q∧e'=e)∧((begF x.n (upT x.turn) y.bs s).2=0→1≤e')∧
    (both (dkI b m p' c' (begF x.n (upT x.turn) y.bs s).1) (walI g b q' e' (chkS x y' (begF x.n (upT x.turn) y.bs s).2))).holds w'∧
    ∀ k,(both (dkI b m p' c' (begF x.n (upT x.turn) y.bs s).1) (walI g b q' e' (chkS x y' (begF x.n (upT x.turn) y.bs s).2))).foot k→(both (dkI b m p c s) (walI g b q e x)).foot k∨w0.heap.size≤k):=by
 have hut:=upT_range x.turn
 refine enterD Tryz.func19 rfl rfl (Wd.it2Lent (x:=dkI b m p c s) (y:=walI g b q e x) (fs:=[GlF y.p y.bs]) hd rfl rfl (by intro Φ hΦ;obtain rfl:=List.mem_singleton.1 hΦ;exact f0)) (fun a S=>?_)
 simp only[Tryz.ntmps19,qqA,qqB,Nat.reduceAdd,Nat.reduceSub,qqC,qqD,qqE,qqF]at S
 replace S:=S.front (walI g b q e x)
 replace S:=St.open3 S
 refine kS (kR ?_);refine sa S ?_;clear S;intro b4 a w S;refine kN (xtn (kS (kS (kR ?_))));(iterate 2 (refine sq S ?_;clear S;intro a S))
 refine sr S (refuses_c g b q e x y _ (BoxF.stable (S.boxF g) (fun h=>h))) ?_;clear S;rintro _ a w rfl S
 refine sq S ?_;clear S;intro a S;refine kN (xtn (kS (kR ?_)));(iterate 2 (refine sq S ?_;clear S;intro a S));refine kN (xtn ?_)
 refine kC S (fun h2=>?_) (fun h2=>?_)
 ·refine kS (kR (sq S ?_));clear S;intro a S;refine sw S ?_;clear S;intro a w S;refine kN (xtn (kT (xtr ?_)))
  have he:refF x y.bs≠0:=by simpa using h2
  have hR:roomC x y.bs=refF x y.bs:=by rw[roomC,if_neg he]
  have hh:=St.hold4 (S.sub [Wk.box g 134 (cWal b q e x),Wk.row 25 1 q x.said.length e (encL x.said),entI x.said,dkI b m p c s] []) rfl rfl rfl rfl
  refine endD1 S (.inl ?_)
  rw[hR]
  exact ⟨he,rfl,hh⟩
 ·refine kK (xtn (kS ?_))
  have he:refF x y.bs=0:=by simpa using h2
  obtain ⟨hy4,hbk⟩:=refF_zero he
  refine kR ?_;(iterate 2 (refine sq S ?_;clear S;intro a S));refine sr S (sectors_c (y.bs.length:Int) _) ?_;clear S;rintro _ a w rfl S
  rw[secF_nat _ hy4]at S
  refine sq S ?_;clear S;intro a S;refine kN (xtn (kS (kS (kR ?_))));(iterate 8 (refine sq S ?_;clear S;intro a S));(iterate 7 (refine gQ S ?_;clear S;intro a S));refine sq S ?_;clear S;intro a S;refine kN (xtn ?_)
  refine kC S (fun h5=>?_) (fun h5=>?_)
  ·refine kS (kR (sw S ?_));clear S;intro a w S;refine kN (xtn (kT (xtr ?_)))
   have hro:x.n < secN y.bs.length∨upT x.turn=0:=by
    rw[show IntKind.u32.wrap (x.turn+1)=upT x.turn from rfl]at h5
    simp at h5;omega
   have hR:roomC x y.bs=6:=by rw[roomC,if_pos he,if_pos hro]
   have hh:=St.hold4 (S.sub [Wk.box g 134 (cWal b q e x),Wk.row 25 1 q x.said.length e (encL x.said),entI x.said,dkI b m p c s] []) rfl rfl rfl rfl
   refine endD1 S (.inl ?_)
   rw[hR]
   exact ⟨by decide,rfl,hh⟩
  ·refine kK (xtn (kS ?_))
   have hro:¬(x.n < secN y.bs.length∨upT x.turn=0):=by
    rw[show IntKind.u32.wrap (x.turn+1)=upT x.turn from rfl]at h5
    simp at h5;omega
   refine kR (sq S ?_);clear S;intro a S;refine sdefc S ?_;clear S;intro a S;refine kN (xtn (kS (kR (sq S ?_))));clear S;intro a S
   replace S:=S.addNil 5 1
   refine sap S (by simp only[maxLen];omega) (by omega) ?_;clear S;rintro p8 c8 a w - S
   rw[show ([]:List Value)++encL y.bs=encL y.bs from rfl,Nat.zero_add]at S
   have hc8:=own_le (S.row p8 y.bs.length)
   replace S:=St.rowEnt S ⟨p8,c8,y.bs⟩ (S.row p8 y.bs.length)
   obtain ⟨y',hy'⟩:∃ y':LBy,y'=⟨p8,c8,y.bs⟩:=⟨_,rfl⟩
   rw[←hy']at S
   obtain ⟨R,hR⟩:∃ R,R=begF x.n (upT x.turn) y.bs s:=⟨_,rfl⟩
   have hro0:roomC x y.bs=0:=by rw[roomC,if_pos he,if_neg hro]
   refine sq S ?_;clear S;intro a S;refine kN (xtn (kS (kR ?_)));(iterate 4 (refine sq S ?_;clear S;intro a S));refine sr S (next_c b x.n x.turn _) ?_;clear S;rintro _ a w rfl S;refine sa S ?_;clear S;intro b8 a w S;refine sw S ?_;clear S;intro a w S;refine kN (xtn (kS (kS (kR ?_))));(iterate 2 (refine sq S ?_;clear S;intro a S))
   have hgl:Stable (dkI b m p c s).foot w (GlF y'.p y'.bs):=St.entGl S (fun k hk hk2=>St.apart2 S (entI [y']) (dkI b m p c s) k hk hk2) (by simp)
   rw[hy']at hgl
   refine sit (dkI b m p c s) S (begin_c b m x.n p c s (upT x.turn) y.bs p8 c8 _ hn hut hy4 hc8 (by omega) (S.it (dkI b m p c s)) hgl) rfl ?_;clear S hgl;rintro _ a w ⟨rfl,p2,c2,hh,hn2⟩ hS
   have S:=hS (dkI b m p2 c2 (begF x.n (upT x.turn) y.bs s).1) hh hn2
   clear hS
   rw[←hR]at S
   refine sw S ?_;clear S;intro a w S;refine kN (xtn (kS (kR ?_)));(iterate 2 (refine sq S ?_;clear S;intro a S));refine kN (xtn ?_)
   refine kC S (fun h11=>?_) (fun h11=>?_)
   ·refine kR ?_;(iterate 5 (refine sq S ?_;clear S;intro a S));refine sn S ?_;clear S;intro b52 a w S;(iterate 3 (refine sq S ?_;clear S;intro a S));refine sw S ?_;clear S;intro a w S;(iterate 2 (refine sq S ?_;clear S;intro a S));refine sw S ?_;clear S;intro a w S;(iterate 2 (refine sq S ?_;clear S;intro a S));refine sw S ?_;clear S;intro a w S;refine kN (xtn (kS (kR (sq S ?_))));clear S;intro a S;refine sw S ?_;clear S;intro a w S;refine kN (xtn (kT ?_))
    have hR2:R.2=0:=of_decide_eq_true h11
    obtain ⟨x',hx'⟩:∃ x':WS,x' = { x with turn:=upT x.turn,said:=[y'],fin:=secN y.bs.length }:=⟨_,rfl⟩
    have hya:y'.bs=y.bs:=by rw[hy']
    have hap:chkS x y' R.2=x':=by rw[chkS,if_pos hR2,hx',hya]
    have hbr:brkF x' R.2=x':=by rw[brkF,hR2];simp
    replace S:=S.boxRow b52 1 1 rfl (by decide)
    replace S:=S.sub [Wk.row 25 1 (some ⟨b52,0,none⟩) 1 1 [.slice p8 y.bs.length c8],entI [y'],Wk.box b4 26 [.int .i64 R.2],Wk.box g 134 [.pointer (some ⟨b,0,none⟩),.int .i64 (x.n:Int),.int .u32 (upT x.turn),.slice (some ⟨b52,0,none⟩) 1 1,.int .i64 (secN y.bs.length:Int),.bool x.broken],dkI b m p2 c2 R.1] []
    replace S:=St.items S (bs':=[Wk.row 25 1 (some ⟨b52,0,none⟩) x'.said.length 1 (encL x'.said),entI x'.said,Wk.box b4 26 [.int .i64 R.2],Wk.box g 134 (cWal b (some ⟨b52,0,none⟩) 1 x'),dkI b m p2 c2 R.1]) (by rw[hx',hy'];rfl)
    have hne:¬b4=g:=St.apart2 S (Wk.box b4 26 [.int .i64 R.2]) (Wk.box g 134 (cWal b (some ⟨b52,0,none⟩) 1 x')) b4 rfl
    refine endDef1 (Wk.box g 134 (cWal b (some ⟨b52,0,none⟩) 1 x')) (Wk.box g 134 (cWal b (some ⟨b52,0,none⟩) 1 (brkF x' R.2))) S rfl ((breaks_d g b4 b (some ⟨b52,0,none⟩) 1 x' R.2 .returning w (S.box g) (BoxF.stable (S.boxF b4) hne)).mono fun _ _ _ h=>h) (fun _ h=>h) (fun w' hwd=>?_)
    rw[hbr]at hwd
    have S2:=(St.ofWd hwd).sub [Wk.row 25 1 (some ⟨b52,0,none⟩) x'.said.length 1 (encL x'.said),entI x'.said,Wk.box g 134 (cWal b (some ⟨b52,0,none⟩) 1 x'),dkI b m p2 c2 R.1] []
    have S3:=S2.perm [Wk.box g 134 (cWal b (some ⟨b52,0,none⟩) 1 x'),Wk.row 25 1 (some ⟨b52,0,none⟩) x'.said.length 1 (encL x'.said),entI x'.said,dkI b m p2 c2 R.1] ((List.Perm.swap _ _ _).trans (List.Perm.cons _ (List.Perm.swap _ _ _)))
    have hh:=St.hold4 S3 rfl rfl rfl rfl
    have h1:=St.new4 S3 rfl rfl rfl rfl
    refine .inr ⟨hro0,by rw[hR],p2,c2,some ⟨b52,0,none⟩,1,y',hya,fun h=>absurd (hR▸hR2) h,fun _=>Nat.le_refl _,?_⟩
    rw[←hR,hap]
    exact ⟨hh,h1⟩
   ·refine kK (xtn (kS (kR (sq S ?_))));clear S;intro a S;refine sw S ?_;clear S;intro a w S;refine kN (xtn (kT ?_))
    have hR2:R.2≠0:=of_decide_eq_false h11
    have hap:chkS x y' R.2 = { x with broken:=true }:=by rw[chkS,if_neg hR2]
    have hbr:brkF x R.2 = { x with broken:=true }:=by simp[brkF,hR2]
    have S:=S.sub [Wk.box b4 26 [.int .i64 R.2],Wk.box g 134 (cWal b q e x),Wk.row 25 1 q x.said.length e (encL x.said),entI x.said,dkI b m p2 c2 R.1] []
    have hne:¬b4=g:=St.apart2 S (Wk.box b4 26 [.int .i64 R.2]) (Wk.box g 134 (cWal b q e x)) b4 rfl
    refine endDef1 (Wk.box g 134 (cWal b q e x)) (Wk.box g 134 (cWal b q e (brkF x R.2))) S rfl ((breaks_d g b4 b q e x R.2 .returning w (S.box g) (BoxF.stable (S.boxF b4) hne)).mono fun _ _ _ h=>h) (fun _ h=>h) (fun w' hwd=>?_)
    rw[hbr]at hwd
    have S3:=(St.ofWd hwd).sub [Wk.box g 134 (cWal b q e { x with broken:=true }),Wk.row 25 1 q x.said.length e (encL x.said),entI x.said,dkI b m p2 c2 R.1] []
    have hh:=St.hold4 S3 rfl rfl rfl rfl
    have h1:=St.new4 S3 rfl rfl rfl rfl
    refine .inr ⟨hro0,by rw[hR],p2,c2,q,e,y',by rw[hy'],fun _=>⟨rfl,rfl⟩,fun h=>absurd h (by rw[←hR];exact hR2),?_⟩
    rw[←hR,hap]
    exact ⟨hh,h1⟩
theorem getB_put (k u:Int) (v:Blk):∀ f,getB k (putB u v f)=if k=u then some v else getB k f
 | []=>by simp[putB,getB]
 | (w,x)::f=>by
  rw[putB]
  split
  rename_i h
  subst h
  rw[getB,getB]
  split <;> rfl
  rename_i h
  rw[getB,getB,getB_put k u v f]
  by_cases hw:k=w
  subst hw;rw[if_pos rfl,if_pos rfl,if_neg (fun e=>h e.symm)]
  rw[if_neg hw,if_neg hw]
theorem findB_snoc (k:Int) (x:LWr):∀ l,findB k (l++[x])=(if x.at_=k then some x.b else none).or (findB k l)
 | []=>by simp[findB]
 | y::l=>by rw[qqE,findB,findB_snoc k x l,findB,Option.or_assoc]
theorem settle_all (j:Int) (l:List LWr) (f:List (Int × Blk)):∀ k,k≤l.length→getB j (settleK (fun _=>true) l f k)=(findB j (l.take k)).or (getB j f)
 | 0,_=>by rw[settleK,List.take_zero,findB,Option.none_or]
 | k+1,h=>by
  rw[settleK,if_pos rfl,getB_put,take_snocW (by omega),findB_snoc,settle_all j l f k (by omega)]
  by_cases e:j=(nthG l k).at_
  rw[if_pos e,if_pos e.symm];rfl
  rw[if_neg e,if_neg (fun h=>e h.symm)];rfl
theorem settle_any (j:Int) (st:Nat→Bool) (l:List LWr) (f:List (Int × Blk)):∀ k,k≤l.length→getB j (settleK st l f k)=getB j f∨∃ x∈l,x.at_=j∧getB j (settleK st l f k)=some x.b
 | 0,_=>.inl rfl
 | k+1,h=>by
  rw[settleK]
  split
  rw[getB_put]
  by_cases e:j=(nthG l k).at_
  rw[if_pos e];exact .inr ⟨nthG l k,nthG_mem (by omega),e.symm,rfl⟩
  rw[if_neg e];exact settle_any j st l f k (by omega)
  exact settle_any j st l f k (by omega)
theorem holds_firm {s:DS} (h:s.loose=[]) (k:Int):holdsF s k=(getB k s.firm).getD zB:=by rw[holdsF,h,findB,Option.none_or]
structure Up (s:DS):Prop where
 on:s.out=false
 fit:s.fails.on=false
def hit (s:DS):Bool:=(metF s.arms).1
theorem met_off {c:Cnt} (h:c.on=false):metF c=(false,c):=by rw[metF,if_neg (by rw[h];exact Bool.false_ne_true)]
theorem hit_off {s:DS} (h:s.arms.on=false):hit s=false:=by rw[hit,met_off h]
theorem ask_up {s:DS} (h:Up s) {k:Int} (hk:0≤k∧k < s.size) (b:Bool):askE s k b=if b&&hit s then 9 else 0:=by
 rw[askE,if_neg (by rw[h.on];exact Bool.false_ne_true),if_neg (by omega),met_off h.fit,if_neg (by exact Bool.false_ne_true)];rfl
theorem rd_up {s:DS} (h:Up s) {k:Int} (hk:0≤k∧k < s.size):askE s k false=0∧rdB s k=holdsF s k∧rdD s k=opD s:=by
 have h1:askE s k false=0:=by rw[ask_up h hk];rfl
 refine ⟨h1,by rw[rdB,if_pos h1],?_⟩
 rw[rdD,if_pos h1,askD,if_neg (by rw[h.on];exact Bool.false_ne_true),if_neg (by omega),met_off h.fit,if_neg (by exact Bool.false_ne_true),if_neg (by exact Bool.false_ne_true)]
theorem askD_up {s:DS} (h:Up s) {k:Int} (hk:0≤k∧k < s.size):askD s k true=if hit s then { s with arms:=(metF s.arms).2,out:=true } else { s with arms:=(metF s.arms).2 }:=by
 rw[askD,if_neg (by rw[h.on];exact Bool.false_ne_true),if_neg (by omega),met_off h.fit,if_neg (by exact Bool.false_ne_true),if_pos rfl]
 rfl
theorem asked_up {s:DS} (h:Up s) {k:Int} (hk:0≤k∧k < s.size) (g:DS→DS):(hit s=false∧askE s k true=0∧askedD g s k=opD (g { s with arms:=(metF s.arms).2 }))∨(hit s=true∧askE s k true=9∧askedD g s k = { s with arms:=(metF s.arms).2,out:=true }):=by
 have h1:=ask_up h hk true
 have h2:=askD_up h hk
 cases hh:hit s with
 | false=>
  rw[hh]at h1 h2
  replace h1:askE s k true=0:=h1
  refine .inl ⟨rfl,h1,?_⟩
  rw[askedD,if_pos h1,h2];rfl
 | true=>
  rw[hh]at h1 h2
  replace h1:askE s k true=9:=h1
  refine .inr ⟨rfl,h1,?_⟩
  rw[askedD,if_neg (by rw[h1];decide),h2];rfl
theorem met_stays {c:Cnt} (h:c.on=false):(metF c).2.on=false:=by rw[met_off h];exact h
structure Alike (s s':DS):Prop where
 size:s'.size=s.size
 fails:s'.fails=s.fails
 firm:s'.firm=s.firm
def wrs:Nat→List Blk→List LWr
 | _,[]=>[]
 | k,x::xs=>⟨(k:Int),x⟩::wrs (k+1) xs
theorem wrs_mem:∀ {xs:List Blk} {k:Nat} {y:LWr},y∈wrs k xs→∃ i,y.at_=((k+i:Nat):Int)∧xs[i]? = some y.b
 | [],_,_,h=>by cases h
 | x::xs,k,y,h=>by
  rw[wrs]at h
  rcases List.mem_cons.1 h with rfl | h
  exact ⟨0,rfl,rfl⟩
  obtain ⟨i,h1,h2⟩:=wrs_mem h
  exact ⟨i+1,by rw[h1];congr 1;omega,by simpa using h2⟩
theorem wrs_find:∀ (xs:List Blk) (k:Nat) (j:Int),findB j (wrs k xs)=if (k:Int)≤j∧j < ((k+xs.length:Nat):Int) then xs[(j - k).toNat]? else none
 | [],k,j=>by rw[wrs,findB,if_neg (by simp only[qqB];omega)]
 | x::xs,k,j=>by
  rw[wrs,findB,wrs_find xs (k+1) j]
  by_cases h1:j=(k:Int)
  subst h1
  rw[if_neg (by omega),if_pos rfl,if_pos (by simp only[qqA];omega),Int.sub_self];rfl
  rw[if_neg (show ¬((⟨(k:Int),x⟩:LWr).at_=j) from fun e=>h1 e.symm),Option.or_none]
  by_cases h2:(k:Int)≤j∧j < ((k+(x::xs).length:Nat):Int)
  rw[if_pos h2,if_pos (by simp only[qqA]at h2;omega)]
  have:(j - (k:Int)).toNat=(j - ((k+1:Nat):Int)).toNat+1:=by omega
  rw[this,List.getElem?_cons_succ]
  rw[if_neg h2,if_neg (by simp only[qqA]at h2;omega)]
theorem lay_w:∀ (xs:List Blk) (s:DS) (k:Nat),Up s→((k+xs.length:Nat):Int)≤s.size→
  Alike s (layW s k xs).1∧(((layW s k xs).2=0∧(layW s k xs).1.out=false∧(layW s k xs).1.loose=s.loose++wrs k xs∧(s.arms.on=false→(layW s k xs).1.arms.on=false))∨
   (s.arms.on=true∧(layW s k xs).2=9∧(layW s k xs).1.out=true∧∃ i,(layW s k xs).1.loose=s.loose++wrs k (xs.take i)))
 | [],s,k,hu,_=>by
  rw[layW]
  exact ⟨⟨rfl,rfl,rfl⟩,.inl ⟨rfl,hu.on,by rw[wrs,List.append_nil],id⟩⟩
 | x::xs,s,k,hu,hk=>by
  simp only[qqA]at hk
  rcases asked_up hu (k:=(k:Int)) (by omega) (fun s=>writeD s k x) with ⟨h1,h2,h3⟩ | ⟨h1,h2,h3⟩
  rw[layW,if_pos h2,show ((k:Int)+1)=((k+1:Nat):Int) from rfl]
  have e:wrD s k x=opD (writeD { s with arms:=(metF s.arms).2 } k x):=h3
  have hu1:Up (wrD s k x):=by rw[e];exact ⟨hu.on,hu.fit⟩
  have hs1:(wrD s k x).size=s.size:=by rw[e];rfl
  obtain ⟨ha,hc⟩:=lay_w xs (wrD s k x) (k+1) hu1 (by rw[hs1];omega)
  refine ⟨⟨ha.size.trans hs1,ha.fails.trans (by rw[e];rfl),ha.firm.trans (by rw[e];rfl)⟩,?_⟩
  have hl:(wrD s k x).loose=s.loose++[⟨(k:Int),x⟩]:=by rw[e];rfl
  have harm:s.arms.on=false→(wrD s k x).arms.on=false:=fun h=>by rw[e];exact met_stays h
  rcases hc with ⟨c1,c2,c3,c4⟩ | ⟨c0,c1,c2,i,c3⟩
  exact .inl ⟨c1,c2,by rw[c3,hl,wrs,List.append_assoc];rfl,fun h=>c4 (harm h)⟩
  refine .inr ⟨?_,c1,c2,i+1,by rw[c3,hl,List.take_succ_cons,wrs,List.append_assoc];rfl⟩
  cases hx:s.arms.on with
  | true=>rfl
  | false=>rw[harm hx]at c0;cases c0
  rw[layW,if_neg (by rw[h2];decide)]
  have e:wrD s k x = { s with arms:=(metF s.arms).2,out:=true }:=h3
  refine ⟨by rw[e];exact ⟨rfl,rfl,rfl⟩,.inr ⟨?_,h2,by rw[e],0,by rw[e,List.take_zero,wrs,List.append_nil]⟩⟩
  cases hx:s.arms.on with
  | true=>rfl
  | false=>rw[hit_off hx]at h1;cases h1
theorem sy_up {s:DS} (hu:Up s) (h0:0 < s.size):((askE s 0 true=0∧(syD s).out=false∧(syD s).loose=[]∧(∀ j,holdsF (syD s) j=holdsF s j)∧(syD s).size=s.size∧(syD s).fails=s.fails∧(s.arms.on=false→(syD s).arms.on=false))∨
  (s.arms.on=true∧askE s 0 true=9∧(syD s).out=true∧(syD s).loose=s.loose∧Alike s (syD s))):=by
 rcases asked_up hu (k:=0) (by omega) (settleD fun _=>true) with ⟨h1,h2,h3⟩ | ⟨h1,h2,h3⟩
 have e:syD s=opD (settleD (fun _=>true) { s with arms:=(metF s.arms).2 }):=h3
 refine .inl ⟨h2,by rw[e];exact hu.on,by rw[e];rfl,fun j=>?_,by rw[e];rfl,by rw[e];rfl,fun h=>by rw[e];exact met_stays h⟩
 rw[holds_firm (by rw[e];rfl),holdsF,e]
 show (getB j (settleK (fun _=>true) s.loose s.firm s.loose.length)).getD zB=_
 rw[settle_all j s.loose s.firm s.loose.length (Nat.le_refl _),List.take_length]
 have e:syD s = { s with arms:=(metF s.arms).2,out:=true }:=h3
 refine .inr ⟨?_,h2,by rw[e],by rw[e],by rw[e];exact ⟨rfl,rfl,rfl⟩⟩
 cases hx:s.arms.on with
 | true=>rfl
 | false=>rw[hit_off hx]at h1;cases h1
theorem lay_f (xs:List Blk) (s:DS) (k:Nat) (hu:Up s) (hl:s.loose=[]) (h0:0 < s.size) (hk:((k+xs.length:Nat):Int)≤s.size) :
  ((layF s k xs).2=0∧Up (layF s k xs).1∧(layF s k xs).1.loose=[]∧(layF s k xs).1.size=s.size∧(s.arms.on=false→(layF s k xs).1.arms.on=false)∧∀ j,holdsF (layF s k xs).1 j=(findB j (wrs k xs)).getD (holdsF s j))∨
  (s.arms.on=true∧(layF s k xs).2=9∧(layF s k xs).1.out=true∧Alike s (layF s k xs).1∧∃ i,(layF s k xs).1.loose=wrs k (xs.take i)):=by
 obtain ⟨ha,hc⟩:=lay_w xs s k hu hk
 rw[hl]at hc
 simp only[qqF]at hc
 rcases hc with ⟨c1,c2,c3,c4⟩ | ⟨c0,c1,c2,i,c3⟩
 have e:layF s k xs=(syD (layW s k xs).1,askE (layW s k xs).1 0 true):=by rw[layF,if_pos c1]
 have hu1:Up (layW s k xs).1:=⟨c2,by rw[ha.fails];exact hu.fit⟩
 rw[e]
 rcases sy_up hu1 (by rw[ha.size];exact h0) with ⟨d1,d2,d3,d4,d5,d6,d7⟩ | ⟨d0,d1,d2,d3,d4⟩
 refine .inl ⟨d1,⟨d2,by rw[d6];exact hu1.fit⟩,d3,d5.trans ha.size,fun h=>d7 (c4 h),fun j=>?_⟩
 show holdsF (syD (layW s k xs).1) j=_
 rw[d4,holdsF,c3,ha.firm,holds_firm hl]
 cases findB j (wrs k xs) <;> rfl
 refine .inr ⟨?_,d1,d2,⟨d4.size.trans ha.size,d4.fails.trans ha.fails,d4.firm.trans ha.firm⟩,xs.length,by rw[List.take_length];exact d3.trans c3⟩
 cases hx:s.arms.on with
 | true=>rfl
 | false=>rw[c4 hx]at d0;cases d0
 have e:layF s k xs=layW s k xs:=by rw[layF,if_neg (by rw[c1];decide)]
 rw[e]
 exact .inr ⟨c0,c1,c2,ha,i,c3⟩
theorem crash_any (l:List Bool) (s:DS):Up (crashD l s)∧(crashD l s).loose=[]∧(crashD l s).size=s.size∧(crashD l s).arms.on=false∧∀ j,holdsF (crashD l s) j=(getB j s.firm).getD zB∨∃ x∈s.loose,x.at_=j∧holdsF (crashD l s) j=x.b:=by
 refine ⟨⟨rfl,rfl⟩,rfl,rfl,rfl,fun j=>?_⟩
 rw[holds_firm (s:=crashD l s) rfl]
 show (getB j (settleK (keepF l) s.loose s.firm s.loose.length)).getD zB=_∨_
 rcases settle_any j (keepF l) s.loose s.firm s.loose.length (Nat.le_refl _) with h | ⟨x,h1,h2,h3⟩
 rw[h];exact .inl rfl
 exact .inr ⟨x,h1,h2,by show (getB j (settleK (keepF l) s.loose s.firm s.loose.length)).getD zB=_;rw[h3];rfl⟩
theorem crash_lay (l:List Bool) {s:DS} {xs:List Blk} {k:Nat} (hl:s.loose=[]) {r:DS} (ha:Alike s r) {i:Nat} (hr:r.loose=wrs k (xs.take i)) (j:Int) :
  holdsF (crashD l r) j=holdsF s j∨∃ m,j=((k+m:Nat):Int)∧xs[m]? = some (holdsF (crashD l r) j):=by
 obtain ⟨_,_,_,_,h1⟩:=crash_any l r
 rcases h1 j with e | ⟨x,hx,h2,h3⟩
 rw[e,ha.firm,holds_firm hl];exact .inl rfl
 rw[hr]at hx
 obtain ⟨m,e1,e2⟩:=wrs_mem hx
 rw[List.getElem?_take]at e2
 split at e2
 exact .inr ⟨m,h2.symm.trans e1,by rw[h3];exact e2⟩
 cases e2
def fieldOf (s:DS) (fr n:Nat):List Blk:=(List.range n).map fun i=>holdsF s ((fr+i:Nat):Int)
theorem fieldOf_len (s:DS) (fr n:Nat):(fieldOf s fr n).length=n:=by simp[fieldOf]
theorem fieldOf_get (s:DS) (fr n i:Nat) (h:i < n):(fieldOf s fr n)[i]? = some (holdsF s ((fr+i:Nat):Int)):=by
 rw[fieldOf,List.getElem?_map,List.getElem?_range h];rfl
theorem fieldOf_eq {s s':DS} {fr n:Nat} (h:∀ i,i < n→holdsF s' ((fr+i:Nat):Int)=holdsF s ((fr+i:Nat):Int)):fieldOf s' fr n=fieldOf s fr n:=
 List.map_congr_left fun i hi=>h i (List.mem_range.1 hi)
def Below (s:DS) (t:Int) (i:Nat) (y:Blk):Prop:=(mayF s (tellN y)&&decide (tellT y % 2=(i:Int))&&decide (y.l=(titleF (tellT y) (tellN y)).l))=true→tellT y < t
structure LogOn (s:DS) (n:Nat) (t:Int) (said:List (List UInt8)) (tail:List Blk):Prop where
 up:Up s
 loose:s.loose=[]
 hn:4≤n∧n≤1000
 size:((2*n+2:Nat):Int)≤s.size
 ht:0≤t∧t≤4294967295
 title:holdsF s ((t % 2).toNat:Int)=titleF t n
 other:Below s t (1 - (t % 2).toNat) (holdsF s ((1 - (t % 2).toNat:Nat):Int))
 some_:said≠[]
 short:∀ b∈said,b.length≤40000
 cur:fieldOf s (fromN n t) n=laidF t said 0++tail
 oth:∀ i,i < n→Fresh (t+1) (holdsF s ((fromN n (t+1)+i:Nat):Int))
def Live (s:DS) (n:Nat) (t:Int) (said:List (List UInt8)):Prop:=∃ tail,LogOn s n t said tail∧∀ x∈tail,Fresh t x
def Able (s:DS) (n:Nat) (t:Int) (said:List (List UInt8)):Prop:=∃ tail,LogOn s n t said tail∧NoEntry t (said.length:Nat) tail∧∀ x∈tail,Fresh (t+1) x
def Clean (s:DS) (n:Nat) (t:Int) (said:List (List UInt8)):Prop:=∃ k,LogOn s n t said (List.replicate k zB)
def endF (t:Int) (said:List (List UInt8)):Nat:=(laidF t said 0).length
theorem LogOn.len {s:DS} {n:Nat} {t:Int} {said:List (List UInt8)} {tail:List Blk} (h:LogOn s n t said tail):endF t said+tail.length=n:=by
 have:=congrArg List.length h.cur
 rw[fieldOf_len,List.length_append]at this
 exact this.symm
theorem laid_len (t:Int):∀ (said:List (List UInt8)) (j:Nat),said.length≤(laidF t said j).length
 | [],_=>Nat.le_refl _
 | b::l,j=>by
  have:=laid_len t l (j+1)
  have:=secN_pos b.length
  rw[laidF,List.length_append,leavesF_len,qqA];omega
theorem LogOn.few {s:DS} {n:Nat} {t:Int} {said:List (List UInt8)} {tail:List Blk} (h:LogOn s n t said tail):said.length≤n∧0 < said.length:=
 ⟨by have:=laid_len t said 0;have:=h.len;unfold endF at this;omega,List.length_pos_iff.2 h.some_⟩
theorem Live.able {s:DS} {n:Nat} {t:Int} {said:List (List UInt8)} (h:Live s n t said):Able s n t said:=by
 obtain ⟨tail,h,hf⟩:=h
 have h1:=h.few
 have h2:=h.hn
 exact ⟨tail,h,noEntry_fresh h.ht.2 (by omega) hf,fun x hx=>(hf x hx).mono (by omega)⟩
theorem from_bound {n:Nat} (t:Int) (hn:n≤1000):2≤fromN n t∧fromN n t≤2+n:=by
 unfold fromN
 rcases (show (t % 2).toNat=0∨(t % 2).toNat=1 by omega) with h | h <;> rw[h] <;> omega
theorem from_apart {n:Nat} (t:Int) {i j:Nat} (hi:i < n) (hj:j < n):fromN n t+i≠fromN n (t+1)+j:=by
 unfold fromN
 rcases (show t % 2=0∨t % 2=1 by omega) with h | h
 rw[show (t+1) % 2=1 from by omega,h];simp;omega
 rw[show (t+1) % 2=0 from by omega,h];simp;omega
theorem from_two {n:Nat} (t:Int):fromN n (t+1+1)=fromN n t:=by
 unfold fromN
 rw[show (t+1+1) % 2=t % 2 from by omega]
theorem LogOn.same {s s':DS} {n:Nat} {t:Int} {said:List (List UInt8)} {tail:List Blk} (h:LogOn s n t said tail) (hu:Up s') (hl:s'.loose=[]) (hz:s'.size=s.size) (hh:∀ j,holdsF s' j=holdsF s j):LogOn s' n t said tail where
 up:=hu
 loose:=hl
 hn:=h.hn
 size:=by rw[hz];exact h.size
 ht:=h.ht
 title:=by rw[hh];exact h.title
 other:=by
  have:=h.other
  unfold Below mayF at this⊢
  rw[hz,hh];exact this
 some_:=h.some_
 short:=h.short
 cur:=by rw[fieldOf_eq fun i _=>hh _];exact h.cur
 oth:=fun i hi=>by rw[hh];exact h.oth i hi
theorem over_in {xs:List Blk} {k i:Nat} (hi:i < xs.length) (u:Blk):(findB ((k+i:Nat):Int) (wrs k xs)).getD u=(xs[i]?).getD u:=by
 rw[wrs_find,if_pos (by omega)]
 congr 2;omega
theorem over_out {xs:List Blk} {k:Nat} {j:Int} (h:j < (k:Int)∨((k+xs.length:Nat):Int)≤j) (u:Blk):(findB j (wrs k xs)).getD u=u:=by
 rw[wrs_find,if_neg (by omega)];rfl
theorem field_over {s s':DS} {fr n k:Nat} {xs:List Blk} (hk:k+xs.length≤n) (h:∀ j,holdsF s' j=(findB j (wrs (fr+k) xs)).getD (holdsF s j)):fieldOf s' fr n=(fieldOf s fr n).take k++xs++(fieldOf s fr n).drop (k+xs.length):=by
 have hl:((fieldOf s fr n).take k).length=k:=by rw[List.length_take,fieldOf_len];omega
 apply List.ext_getElem?
 intro i
 by_cases hi:i < n
 rw[fieldOf_get s' fr n i hi,h]
 by_cases h1:i < k
 rw[over_out (.inl (by omega)),List.append_assoc,List.getElem?_append_left (by omega),List.getElem?_take,if_pos h1,fieldOf_get s fr n i hi]
 by_cases h2:i < k+xs.length
 rw[show (fr+i:Nat)=fr+k+(i - k) from by omega,over_in (by omega),List.append_assoc,List.getElem?_append_right (by omega),hl,List.getElem?_append_left (by omega),List.getElem?_eq_getElem (by omega)];rfl
 rw[over_out (.inr (by omega)),List.getElem?_append_right (by rw[List.length_append,hl];omega),List.length_append,hl,List.getElem?_drop,show k+xs.length+(i - (k+xs.length))=i from by omega,fieldOf_get s fr n i hi]
 rw[List.getElem?_eq_none (by rw[fieldOf_len];omega),List.getElem?_eq_none (by rw[List.length_append,List.length_append,hl,List.length_drop,fieldOf_len];omega)]
def Mix (tail xs tail':List Blk):Prop:=tail'.length=tail.length∧∀ (i:Nat) (x:Blk),tail'[i]? = some x→tail[i]? = some x∨xs[i]? = some x
theorem mix_entry {t j:Int} {bs:List UInt8} {tail tail':List Blk} (ht:t≤4294967295) (hj:1≤j∧j≤4294967295) (hb:bs.length≤40000) (hf:∀ x∈tail,Fresh t x) (hm:Mix tail (leavesF t j bs) tail') (_hn:(leavesF t j bs).length≤tail.length) :
  (∃ rest,tail'=leavesF t j bs++rest∧∀ x∈rest,Fresh t x)∨NoEntry t j tail':=by
 by_cases hp:leavesF t j bs <+: tail'
 obtain ⟨rest,hr⟩:=hp
 refine .inl ⟨rest,hr.symm,fun x hx=>?_⟩
 obtain ⟨i,hi⟩:=List.getElem?_of_mem hx
 have h1:tail'[(leavesF t j bs).length+i]? = some x:=by rw[←hr,List.getElem?_append_right (by omega),show (leavesF t j bs).length+i - (leavesF t j bs).length=i from by omega];exact hi
 rcases hm.2 _ _ h1 with h2 | h2
 exact hf x (List.mem_of_getElem? h2)
 rw[List.getElem?_eq_none (by omega)]at h2;cases h2
 refine .inr fun bs' hb' ⟨rest,hr⟩=>hp ?_
 have key:∀ i,i < secN bs'.length→(leavesF t j bs)[i]? = some (leafF t j bs' i):=fun i hi=>by
  have h1:tail'[i]? = some (leafF t j bs' i):=by rw[←hr,List.getElem?_append_left (by rw[leavesF_len];exact hi)];exact leaves_get t j bs' i hi
  rcases hm.2 _ _ h1 with h2 | h2
  exact absurd rfl (hf _ (List.mem_of_getElem? h2) t j bs' i (Int.le_refl _) ht hj.1 hj.2)
  exact h2
 have h0:=key 0 (secN_pos _)
 rw[leaves_get t j bs 0 (secN_pos _)]at h0
 have hlen:(bs.length:Int)=(bs'.length:Int):=wbe2_inj (by omega) (by omega) (leaf_parts (Option.some.inj h0)).2.2.1
 have hll:bs.length=bs'.length:=by omega
 have he:leavesF t j bs=leavesF t j bs':=by
  apply List.ext_getElem?
  intro i
  by_cases hi:i < secN bs'.length
  rw[key i hi,leaves_get t j bs' i hi]
  rw[List.getElem?_eq_none (by rw[leavesF_len,hll];omega),List.getElem?_eq_none (by rw[leavesF_len];omega)]
 rw[he];exact ⟨rest,hr⟩
theorem zero_entry {t j:Int} {tail tail':List Blk} (ht:t≤4294967295) (hj:1≤j∧j≤4294967295) (hn:NoEntry t j tail) (hm:∀ (i:Nat) (x:Blk),tail'[i]? = some x→tail[i]? = some x∨x=zB):NoEntry t j tail':=by
 refine fun bs hb ⟨rest,hr⟩=>hn bs hb ?_
 have key:∀ i,i < secN bs.length→tail[i]? = some (leafF t j bs i):=fun i hi=>by
  have h1:tail'[i]? = some (leafF t j bs i):=by rw[←hr,List.getElem?_append_left (by rw[leavesF_len];exact hi)];exact leaves_get t j bs i hi
  rcases hm _ _ h1 with h2 | h2
  exact h2
  exact absurd h2.symm (fresh_zero t t j bs i (Int.le_refl _) ht hj.1 hj.2)
 refine ⟨tail.drop (secN bs.length),?_⟩
 have e:leavesF t j bs=tail.take (secN bs.length):=by
  apply List.ext_getElem?
  intro i
  rw[List.getElem?_take]
  by_cases hi:i < secN bs.length
  rw[if_pos hi,key i hi,leaves_get t j bs i hi]
  rw[if_neg hi,List.getElem?_eq_none (by rw[leavesF_len];omega)]
 rw[e,List.take_append_drop]
theorem title_tells (t:Int) (n:Nat) (ht:0≤t∧t≤4294967295) (hn:n≤1000):tellN (titleF t n)=n∧tellT (titleF t n)=t:=by
 have h1:(titleF t n).l.drop 4=be 4 n++(be 4 t++(safeS++List.replicate 43 0)):=by
  rw[titleF,seal_drop (titleB_len _ _),titleB];simp only[List.append_assoc]
 refine ⟨by rw[tellN,h1,u32B_be _ (by omega)],?_⟩
 rw[tellT,h1,List.drop_left' (be_len _ _),u32B_be _ ht]
theorem title_cand {s:DS} {t:Int} {n:Nat} (ht:0≤t∧t≤4294967295) (hn:4≤n∧n≤1000) (hs:((2*n+2:Nat):Int)≤s.size) {B:Bst} (hB:B.has=true→B.t < t):candF s (t % 2).toNat (titleF t n) B=true:=by
 obtain ⟨h1,h2⟩:=title_tells t n ht hn.2
 rw[candF,h1,h2,mayF]
 have h3:(B.has=true→B.t < t):=hB
 cases hb:B.has with
 | false=>simp;omega
 | true=>have:=h3 hb;simp[this];omega
theorem cntR_up (s:DS) (hu:Up s) (h2:1 < s.size):cntF s=(if (cntStep s 1 (holdsF s 1) (cntStep s 0 (holdsF s 0) ⟨false,0,0⟩)).has then (opD (opD s),0,cntStep s 1 (holdsF s 1) (cntStep s 0 (holdsF s 0) ⟨false,0,0⟩)) else (opD (opD s),140,⟨false,0,0⟩)):=by
 have hu1:Up (opD s):=⟨hu.on,hu.fit⟩
 obtain ⟨a1,a2,a3⟩:=rd_up hu (k:=((0:Nat):Int)) (by omega)
 obtain ⟨b1,b2,b3⟩:=rd_up hu1 (k:=((1:Nat):Int)) (by show (0:Int)≤1∧(1:Int) < s.size;omega)
 rw[cntF,cntR,if_pos a1,a2,a3,cntR,if_pos b1,b2,b3,cntR]
 rfl
theorem cnt_able {s:DS} {n:Nat} {t:Int} {said:List (List UInt8)} {tail:List Blk} (h:LogOn s n t said tail):cntF s=(opD (opD s),0,⟨true,n,t⟩):=by
 have hn:=h.hn
 have hs:=h.size
 obtain ⟨h1,h2⟩:=title_tells t n h.ht hn.2
 rw[cntR_up s h.up (by omega)]
 have hti:=h.title
 have hot:=h.other
 rcases (show (t % 2).toNat=0∨(t % 2).toNat=1 by omega) with h0 | h0
 rw[h0]at hti hot
 have e0:cntStep s 0 (holdsF s 0) ⟨false,0,0⟩=⟨true,n,t⟩:=by
  have:=title_cand (s:=s) h.ht hn hs (B:=⟨false,0,0⟩) (fun h=>by cases h)
  rw[h0]at this
  rw[cntStep,show holdsF s 0=titleF t n from hti,if_pos this,h1,h2]
 have e1:cntStep s 1 (holdsF s 1) ⟨true,n,t⟩=⟨true,n,t⟩:=by
  rw[cntStep,if_neg]
  intro hc
  rw[candF,Bool.and_eq_true]at hc
  have h3:=hot hc.1
  have h4:t < tellT (holdsF s 1):=by simpa using hc.2
  have h5:tellT (holdsF s ((1 - 0:Nat):Int))=tellT (holdsF s 1):=rfl
  omega
 rw[e0,e1];rfl
 rw[h0]at hti hot
 obtain ⟨B,hB⟩:∃ B,B=cntStep s 0 (holdsF s 0) ⟨false,0,0⟩:=⟨_,rfl⟩
 rw[←hB]
 have hBt:B.has=true→B.t < t:=by
  rw[hB,cntStep]
  split
  rename_i hc
  intro _
  rw[candF,Bool.and_eq_true]at hc
  exact hot hc.1
  intro h;cases h
 have e1:cntStep s 1 (holdsF s 1) B=⟨true,n,t⟩:=by
  have:=title_cand (s:=s) h.ht hn hs (B:=B) hBt
  rw[h0]at this
  rw[cntStep,show holdsF s 1=titleF t n from hti,if_pos this,h1,h2]
 rw[e1];rfl
theorem field_up (fr:Nat):∀ (k i:Nat) (s:DS),Up s→((fr+i+k:Nat):Int)≤s.size→(fieldW fr k i s).2.1=0∧(fieldW fr k i s).2.2=(List.range k).map (fun a=>holdsF s ((fr+(i+a):Nat):Int))∧Up (fieldW fr k i s).1∧(fieldW fr k i s).1.loose=s.loose∧(fieldW fr k i s).1.size=s.size∧(fieldW fr k i s).1.arms=s.arms∧∀ j,holdsF (fieldW fr k i s).1 j=holdsF s j
 | 0,i,s,hu,_=>⟨rfl,rfl,hu,rfl,rfl,rfl,fun _=>rfl⟩
 | k+1,i,s,hu,hs=>by
  obtain ⟨a1,a2,a3⟩:=rd_up hu (k:=((fr+i:Nat):Int)) (by omega)
  obtain ⟨b1,b2,b3,b4,b5,b6,b7⟩:=field_up fr k (i+1) (opD s) ⟨hu.on,hu.fit⟩ (by show ((fr+(i+1)+k:Nat):Int)≤s.size;omega)
  rw[fieldW,if_pos a1,a2,a3]
  refine ⟨b1,?_,b3,b4,b5,b6,b7⟩
  show holdsF s _::_=_
  rw[b2,List.range_succ_eq_map,List.map_cons,List.map_map]
  congr 1
  apply List.map_congr_left
  intro a _
  show holdsF s _=holdsF s _
  congr 2;omega
theorem over_ne {xs:List Blk} {k:Nat} {j:Int} (h:∀ i,i < xs.length→j≠((k+i:Nat):Int)) (u:Blk):(findB j (wrs k xs)).getD u=u:=by
 refine over_out ?_ u
 by_cases h1:j < (k:Int)
 exact .inl h1
 refine .inr ?_
 by_cases h2:((k+xs.length:Nat):Int)≤j
 exact h2
 exact absurd (show j=((k+(j - k).toNat:Nat):Int) by omega) (h _ (by omega))
theorem LogOn.inner {s s':DS} {n:Nat} {t:Int} {said:List (List UInt8)} {tail:List Blk} (h:LogOn s n t said tail) (hu:Up s') (hl:s'.loose=[]) (hz:s'.size=s.size)
  (hh:∀ j:Int,(∀ i,i < n→endF t said≤i→j≠((fromN n t+i:Nat):Int))→holdsF s' j=holdsF s j):LogOn s' n t said ((fieldOf s' (fromN n t) n).drop (endF t said)):=by
 have hb:=from_bound t h.hn.2
 have hm:=Int.emod_lt_of_pos t (show (0:Int) < 2 by decide)
 have hm0:=Int.emod_nonneg t (show (2:Int)≠0 by decide)
 have hlen:=h.len
 refine ⟨hu,hl,h.hn,by rw[hz];exact h.size,h.ht,?_,?_,h.some_,h.short,?_,?_⟩
 rw[hh _ (fun i _ _=>by omega)];exact h.title
 have:=h.other
 unfold Below mayF at this⊢
 rw[hz,hh _ (fun i _ _=>by omega)];exact this
 have e:(fieldOf s' (fromN n t) n).take (endF t said)=laidF t said 0:=by
  have h2:(fieldOf s (fromN n t) n).take (endF t said)=laidF t said 0:=by rw[h.cur];exact List.take_left' rfl
  rw[←h2]
  apply List.ext_getElem?
  intro i
  rw[List.getElem?_take,List.getElem?_take]
  by_cases hi:i < endF t said
  rw[if_pos hi,if_pos hi,fieldOf_get _ _ _ _ (by omega),fieldOf_get _ _ _ _ (by omega),hh _ (fun a _ ha=>by omega)]
  rw[if_neg hi,if_neg hi]
 rw[←e,List.take_append_drop]
 intro i hi
 rw[hh _ (fun a ha _=>by have:=from_apart t ha hi;omega)];exact h.oth i hi
theorem LogOn.snoc {s:DS} {n:Nat} {t:Int} {said:List (List UInt8)} {rest:List Blk} {bs:List UInt8} (h:LogOn s n t said (leavesF t (said.length:Nat) bs++rest)) (hb:bs.length≤40000):LogOn s n t (said++[bs]) rest where
 up:=h.up
 loose:=h.loose
 hn:=h.hn
 size:=h.size
 ht:=h.ht
 title:=h.title
 other:=h.other
 some_:=by simp
 short:=fun b hm=>by
  rcases List.mem_append.1 hm with hm | hm
  exact h.short b hm
  obtain rfl:=List.mem_singleton.1 hm;exact hb
 cur:=by rw[laidF_snoc,List.append_assoc,Nat.zero_add];exact h.cur
 oth:=h.oth
theorem append_live {s:DS} {n:Nat} {t:Int} {said:List (List UInt8)} (h:Live s n t said) (bs:List UInt8) (hb:bs.length≤40000) (hr:endF t said+secN bs.length≤n) :
  ((layF s ((fromN n t+endF t said:Nat):Int) (leavesF t (said.length:Nat) bs)).2=0∧Live (layF s ((fromN n t+endF t said:Nat):Int) (leavesF t (said.length:Nat) bs)).1 n t (said++[bs])∧(s.arms.on=false→(layF s ((fromN n t+endF t said:Nat):Int) (leavesF t (said.length:Nat) bs)).1.arms.on=false))∨
  (s.arms.on=true∧(layF s ((fromN n t+endF t said:Nat):Int) (leavesF t (said.length:Nat) bs)).2=9∧(layF s ((fromN n t+endF t said:Nat):Int) (leavesF t (said.length:Nat) bs)).1.out=true∧∀ keep,Able (crashD keep (layF s ((fromN n t+endF t said:Nat):Int) (leavesF t (said.length:Nat) bs)).1) n t said∨Able (crashD keep (layF s ((fromN n t+endF t said:Nat):Int) (leavesF t (said.length:Nat) bs)).1) n t (said++[bs])):=by
 obtain ⟨tail,hL,hf⟩:=h
 have hfb:=from_bound t hL.hn.2
 have hlen:=hL.len
 have hsz:=hL.size
 have hn:=hL.hn
 have hfew:=hL.few
 obtain ⟨xs,hxs⟩:∃ xs,xs=leavesF t (said.length:Nat) bs:=⟨_,rfl⟩
 have hxl:xs.length=secN bs.length:=by rw[hxs,leavesF_len]
 rw[←hxs]
 have htl:∀ i,i < tail.length→tail[i]? = some (holdsF s ((fromN n t+endF t said+i:Nat):Int)):=fun i hi=>by
  have h1:=fieldOf_get s (fromN n t) n (endF t said+i) (by omega)
  rw[hL.cur,List.getElem?_append_right (by unfold endF;omega),show endF t said+i - (laidF t said 0).length=i from by unfold endF;omega]at h1
  rw[h1];congr 3;omega
 rcases lay_f xs s (fromN n t+endF t said) hL.up hL.loose (by omega) (by omega) with ⟨c1,c2,c3,c4,c5,c6⟩ | ⟨c0,c1,c2,c3,i,c4⟩
 refine .inl ⟨c1,?_,c5⟩
 have h1:=hL.inner c2 c3 c4 (fun j hj=>by rw[c6,over_ne (fun i hi=>by have:=hj (endF t said+i) (by omega) (by omega);omega)])
 have h2:=field_over (n:=n) (xs:=xs) (k:=endF t said) (by omega) c6
 have hk:((fieldOf s (fromN n t) n).take (endF t said)).length=endF t said:=by rw[List.length_take,fieldOf_len];omega
 rw[h2,List.append_assoc,List.drop_left' hk,hL.cur]at h1
 subst hxs
 refine ⟨_,h1.snoc hb,fun x hx=>hf x ?_⟩
 rw[List.drop_append,List.drop_of_length_le (by unfold endF;omega),qqF]at hx
 exact List.mem_of_mem_drop hx
 refine .inr ⟨c0,c1,c2,fun keep=>?_⟩
 obtain ⟨d1,d2,d3,d4,_⟩:=crash_any keep (layF s ((fromN n t+endF t said:Nat):Int) xs).1
 have hcl:=fun j=>crash_lay keep hL.loose c3 c4 j
 have h1:=hL.inner d1 d2 (d3.trans c3.size) (fun j hj=>by
  rcases hcl j with e | ⟨m,e1,e2⟩
  exact e
  have hm:=(List.getElem?_eq_some_iff.1 e2).1
  exact absurd (e1.trans (by congr 1;omega)) (hj (endF t said+m) (by omega) (by omega)))
 obtain ⟨tail',ht'⟩:∃ tail',tail'=(fieldOf (crashD keep (layF s ((fromN n t+endF t said:Nat):Int) xs).1) (fromN n t) n).drop (endF t said):=⟨_,rfl⟩
 rw[←ht']at h1
 have hlen':=h1.len
 have hmix:Mix tail xs tail':=by
  refine ⟨by omega,fun a x hx=>?_⟩
  have ha:a < tail'.length:=(List.getElem?_eq_some_iff.1 hx).1
  rw[ht',List.getElem?_drop,fieldOf_get _ _ _ _ (by omega)]at hx
  obtain rfl:=Option.some.inj hx
  rcases hcl ((fromN n t+(endF t said+a):Nat):Int) with e | ⟨m,e1,e2⟩
  rw[e,htl a (by omega)];left;congr 3;omega
  right;rw[←e2];congr 1;omega
 rw[hxs]at hmix
 rcases mix_entry hL.ht.2 (by omega) hb hf hmix (by rw[←hxs];omega) with ⟨rest,e,hr'⟩ | hne
 rw[e]at h1
 exact .inr (Live.able ⟨rest,h1.snoc hb,hr'⟩)
 refine .inl ⟨tail',h1,hne,fun x hx=>?_⟩
 obtain ⟨a,ha⟩:=List.getElem?_of_mem hx
 rcases hmix.2 a x ha with h2 | h2
 exact (hf x (List.mem_of_getElem? h2)).mono (by omega)
 have hm:a < secN bs.length:=by have:=(List.getElem?_eq_some_iff.1 h2).1;rw[leavesF_len]at this;exact this
 rw[leaves_get t _ bs a hm]at h2
 rw[←Option.some.inj h2]
 exact fresh_old _ t _ bs a hL.ht (by omega)
theorem LogOn.outer {s s':DS} {n:Nat} {t:Int} {said:List (List UInt8)} {tail:List Blk} (h:LogOn s n t said tail) (hu:Up s') (hl:s'.loose=[]) (hz:s'.size=s.size)
  (hh:∀ j:Int,(∀ i,i < n→j≠((fromN n (t+1)+i:Nat):Int))→holdsF s' j=holdsF s j) (ho:∀ i,i < n→Fresh (t+1) (holdsF s' ((fromN n (t+1)+i:Nat):Int))):LogOn s' n t said tail:=by
 have hb:=from_bound (t+1) h.hn.2
 have hm:=Int.emod_lt_of_pos t (show (0:Int) < 2 by decide)
 have hm0:=Int.emod_nonneg t (show (2:Int)≠0 by decide)
 refine ⟨hu,hl,h.hn,by rw[hz];exact h.size,h.ht,?_,?_,h.some_,h.short,?_,ho⟩
 rw[hh _ (fun i _=>by omega)];exact h.title
 have:=h.other
 unfold Below mayF at this⊢
 rw[hz,hh _ (fun i _=>by omega)];exact this
 rw[fieldOf_eq fun i hi=>hh _ (fun a ha=>by have:=from_apart t hi ha;omega)];exact h.cur
theorem laid_mem {t:Int} {x:Blk} : ∀ {said:List (List UInt8)} {j:Nat},x∈laidF t said j→∃ j' b k,x=leafF t j' b k
 | [],_,h=>by cases h
 | b::l,j,h=>by
  rw[laidF]at h
  rcases List.mem_append.1 h with h | h
  rw[leavesF]at h
  obtain ⟨k,_,hk⟩:=List.mem_map.1 h
  exact ⟨_,b,k,hk.symm⟩
  exact laid_mem h
theorem LogOn.turned {s s':DS} {n:Nat} {t:Int} {said:List (List UInt8)} {tail rest:List Blk} {bs:List UInt8} (h:LogOn s n t said tail) (hf:∀ x∈tail,Fresh (t+2) x) (hb:bs.length≤40000) (ht:t+1≤4294967295)
  (hcur:fieldOf s (fromN n (t+1)) n=leavesF (t+1) 0 bs++rest) (hu:Up s') (hl:s'.loose=[]) (hz:s'.size=s.size) (hti:holdsF s' (((t+1) % 2).toNat:Int)=titleF (t+1) n) (hh:∀ j:Int,j≠(((t+1) % 2).toNat:Int)→holdsF s' j=holdsF s j):LogOn s' n (t+1) [bs] rest:=by
 have hfb:=from_bound (t+1) h.hn.2
 have hfa:=from_bound t h.hn.2
 have h0:=h.ht
 have hm:((t+1) % 2).toNat=1 - (t % 2).toNat∧1 - ((t+1) % 2).toNat=(t % 2).toNat:=by omega
 refine ⟨hu,hl,h.hn,by rw[hz];exact h.size,by omega,hti,?_,by simp,fun b hm=>by obtain rfl:=List.mem_singleton.1 hm;exact hb,?_,fun i hi=>?_⟩
 rw[hm.2,hh _ (by omega),h.title]
 intro _
 rw[(title_tells t n h.ht h.hn.2).2];omega
 rw[fieldOf_eq fun i hi=>hh _ (by omega),hcur,laidF,laidF,List.append_nil];rfl
 rw[from_two,hh _ (by omega)]
 have hmem:holdsF s ((fromN n t+i:Nat):Int)∈laidF t said 0++tail:=by rw[←h.cur];exact List.mem_of_getElem? (fieldOf_get s (fromN n t) n i hi)
 rw[show t+1+1=t+2 from by omega]
 rcases List.mem_append.1 hmem with hm | hm
 obtain ⟨j',b,k,e⟩:=laid_mem hm
 rw[e];exact fresh_old _ t _ b k h.ht (by omega)
 exact hf _ hm
theorem chk_live {s : DS} {n : Nat} {t : Int} {said : List (List UInt8)} (h : Live s n t said) (bs : List UInt8) (hb : bs.length ≤ 40000) (hr : secN bs.length ≤ n) (ht : t + 1 ≤ 4294967295) :
    ((begF n (t + 1) bs s).2 = 0 ∧ Live (begF n (t + 1) bs s).1 n (t + 1) [bs] ∧ (s.arms.on = false → (begF n (t + 1) bs s).1.arms.on = false)) ∨
    (s.arms.on = true ∧ (begF n (t + 1) bs s).2 = 9 ∧ (begF n (t + 1) bs s).1.out = true ∧ ∀ keep, Able (crashD keep (begF n (t + 1) bs s).1) n t said ∨ Able (crashD keep (begF n (t + 1) bs s).1) n (t + 1) [bs]) := by
  obtain ⟨tail, hL, hf⟩ := h
  have hfb := from_bound (t + 1) hL.hn.2
  have hsz := hL.size
  have hn := hL.hn
  obtain ⟨xs, hxs⟩ : ∃ xs, xs = leavesF (t + 1) 0 bs := ⟨_, rfl⟩
  have hxl : xs.length = secN bs.length := by rw [hxs, leavesF_len]
  have hfx : ∀ m x, xs[m]? = some x → Fresh (t + 1) x := fun m x hx => by
    have hm : m < secN bs.length := by have := (List.getElem?_eq_some_iff.1 hx).1; omega
    rw [hxs, leaves_get _ _ bs m hm] at hx
    rw [← Option.some.inj hx]; exact fresh_zeroth _ _ bs m
  have hft : ∀ x ∈ tail, Fresh (t + 2) x := fun x hx => (hf x hx).mono (by omega)
  have hbeg : begF n (t + 1) bs s = if (layF s (fromN n (t + 1) : Nat) xs).2 = 0 then layF (layF s (fromN n (t + 1) : Nat) xs).1 (((t + 1) % 2).toNat : Nat) [titleF (t + 1) n] else layF s (fromN n (t + 1) : Nat) xs := by rw [hxs]; rfl
  rcases lay_f xs s (fromN n (t + 1)) hL.up hL.loose (by omega) (by omega) with ⟨c1, c2, c3, c4, c5, c6⟩ | ⟨c0, c1, c2, c3, i, c4⟩
  · rw [hbeg, if_pos c1]
    obtain ⟨s1, hs1⟩ : ∃ s1, s1 = (layF s (fromN n (t + 1) : Nat) xs).1 := ⟨_, rfl⟩
    rw [← hs1] at c2 c3 c4 c5 c6 ⊢
    have hL1 : LogOn s1 n t said tail := hL.outer c2 c3 c4 (fun j hj => by rw [c6, over_ne (fun i hi => hj i (by omega))]) (fun i hi => by
      rw [c6]
      by_cases h1 : i < xs.length
      · rw [over_in h1, List.getElem?_eq_getElem h1]; exact hfx i _ (List.getElem?_eq_getElem h1)
      · rw [over_out (.inr (by omega))]; exact hL.oth i hi)
    have hcur : fieldOf s1 (fromN n (t + 1)) n = xs ++ (fieldOf s (fromN n (t + 1)) n).drop xs.length := by
      have := field_over (s := s) (s' := s1) (fr := fromN n (t + 1)) (n := n) (k := 0) (xs := xs) (by omega) (fun j => by rw [c6]; rfl)
      rw [this, List.take_zero, qqF, Nat.zero_add]
    have hrest : ∀ x ∈ (fieldOf s (fromN n (t + 1)) n).drop xs.length, Fresh (t + 1) x := fun x hx => by
      obtain ⟨i, hi⟩ := List.getElem?_of_mem (List.mem_of_mem_drop hx)
      have hi2 : i < n := by have := (List.getElem?_eq_some_iff.1 hi).1; rw [fieldOf_len] at this; exact this
      rw [fieldOf_get _ _ _ _ hi2] at hi
      rw [← Option.some.inj hi]; exact hL.oth i hi2
    have hm2 : ((t + 1) % 2).toNat < 2 := by omega
    rcases lay_f [titleF (t + 1) n] s1 ((t + 1) % 2).toNat c2 c3 (by omega) (by simp only [List.length_singleton]; omega) with ⟨e1, e2, e3, e4, e5, e6⟩ | ⟨e0, e1, e2, e3, i, e4⟩
    · refine .inl ⟨e1, ⟨_, hL1.turned hft hb ht (by rw [← hxs]; exact hcur) e2 e3 e4 ?_ ?_, hrest⟩, fun h => e5 (c5 h)⟩
      · have := over_in (xs := [titleF (t + 1) n]) (k := ((t + 1) % 2).toNat) (i := 0) (by simp) (holdsF s1 ((((t + 1) % 2).toNat : Nat) : Int))
        rw [e6]; exact this
      · intro j hj
        rw [e6, over_ne (fun i hi => by have : i = 0 := by simpa using hi
                                        subst this; exact hj)]
    · refine .inr ⟨?_, e1, e2, fun keep => ?_⟩
      · cases hx : s.arms.on with
        | true => rfl
        | false => rw [c5 hx] at e0; cases e0
      · obtain ⟨d1, d2, d3, d4, _⟩ := crash_any keep (layF s1 (((t + 1) % 2).toNat : Nat) [titleF (t + 1) n]).1
        have hcl := fun j => crash_lay keep c3 e3 e4 j
        have hne : ∀ j : Int, j ≠ (((t + 1) % 2).toNat : Int) → holdsF (crashD keep (layF s1 (((t + 1) % 2).toNat : Nat) [titleF (t + 1) n]).1) j = holdsF s1 j := fun j hj => by
          rcases hcl j with e | ⟨m, q1, q2⟩
          · exact e
          · have hm : m = 0 := by have := (List.getElem?_eq_some_iff.1 q2).1; simpa using this
            subst hm; exact absurd q1 hj
        rcases hcl (((t + 1) % 2).toNat : Int) with e | ⟨m, q1, q2⟩
        · refine .inl (Live.able ⟨tail, hL1.same d1 d2 (d3.trans e3.size) (fun j => ?_), hf⟩)
          by_cases hj : j = (((t + 1) % 2).toNat : Int)
          · rw [hj]; exact e
          · exact hne j hj
        · have hm : m = 0 := by have := (List.getElem?_eq_some_iff.1 q2).1; simpa using this
          subst hm
          exact .inr (Live.able ⟨_, hL1.turned hft hb ht (by rw [← hxs]; exact hcur) d1 d2 (d3.trans e3.size) (Option.some.inj q2).symm hne, hrest⟩)
  · rw [hbeg, if_neg (by rw [c1]; decide)]
    refine .inr ⟨c0, c1, c2, fun keep => .inl ?_⟩
    obtain ⟨d1, d2, d3, d4, _⟩ := crash_any keep (layF s (fromN n (t + 1) : Nat) xs).1
    have hcl := fun j => crash_lay keep hL.loose c3 c4 j
    refine Live.able ⟨tail, hL.outer d1 d2 (d3.trans c3.size) (fun j hj => ?_) (fun i hi => ?_), hf⟩
    · rcases hcl j with e | ⟨m, q1, q2⟩
      · exact e
      · have hm := (List.getElem?_eq_some_iff.1 q2).1
        exact absurd q1 (hj m (by omega))
    · rcases hcl ((fromN n (t + 1) + i : Nat) : Int) with e | ⟨m, q1, q2⟩
      · rw [e]; exact hL.oth i hi
      · exact hfx m _ q2
theorem find_zero {j:Int} : ∀ {ws:List LWr},(∀ y∈ws,y.b=zB)→(findB j ws).getD zB=zB∧((∃ y∈ws,y.at_=j)→findB j ws=some zB)∧((∀ y∈ws,y.at_≠j)→findB j ws=none)
 | [],_=>⟨rfl,fun ⟨_,h,_⟩=>by (cases h),fun _=>rfl⟩
 | x::l,h=>by
  obtain ⟨h1,h2,h3⟩:=find_zero (j:=j) (ws:=l) (fun y hy=>h y (by simp[hy]))
  have hx:=h x (by simp)
  rw[findB]
  by_cases e:x.at_=j
  rw[if_pos e,hx]
  refine ⟨?_,fun _=>?_,fun hn=>absurd e (hn x (by simp))⟩
  cases hf:findB j l with
  | none=>rfl
  | some u=>rw[hf]at h1;exact h1
  cases hf:findB j l with
  | none=>rfl
  | some u=>rw[hf]at h1;show some u=some zB;rw[show u=zB from h1]
  rw[if_neg e,Option.or_none]
  refine ⟨h1,fun ⟨y,hy,he⟩=>?_,fun hn=>h3 fun y hy=>hn y (by simp[hy])⟩
  rcases List.mem_cons.1 hy with rfl | hy
  exact absurd he e
  exact h2 ⟨y,hy,he⟩
theorem blk_zero {x:Blk} (h:x.l=zB.l):x=zB:=Blk.ext' h
theorem clr_w (fr : Nat) : ∀ (xs : List Blk) (i : Nat) (sy : Bool) (s : DS), Up s → ((fr + i + xs.length : Nat) : Int) ≤ s.size →
    Alike s (clrW fr xs i sy s).1 ∧ ∃ ws : List LWr, (clrW fr xs i sy s).1.loose = s.loose ++ ws ∧ (∀ y ∈ ws, y.b = zB ∧ ∃ m, m < xs.length ∧ y.at_ = ((fr + i + m : Nat) : Int)) ∧
      (((clrW fr xs i sy s).2.1 = 0 ∧ (clrW fr xs i sy s).1.out = false ∧ (s.arms.on = false → (clrW fr xs i sy s).1.arms.on = false) ∧ (∀ (m : Nat) (x : Blk), xs[m]? = some x → x = zB ∨ ∃ y ∈ ws, y.at_ = ((fr + i + m : Nat) : Int)) ∧ (clrW fr xs i sy s).2.2 = (sy || !ws.isEmpty)) ∨
       (s.arms.on = true ∧ (clrW fr xs i sy s).2.1 = 9 ∧ (clrW fr xs i sy s).1.out = true))
  | [], i, sy, s, hu, _ => by
    rw [clrW]
    exact ⟨⟨rfl, rfl, rfl⟩, [], by simp, fun y hy => by (cases hy), .inl ⟨rfl, hu.on, id, fun m x h => by (simp at h), by simp⟩⟩
  | x :: xs, i, sy, s, hu, hs => by
    simp only [qqA] at hs
    rw [clrW]
    by_cases hz : x.l = zB.l
    · rw [if_pos hz]
      obtain ⟨ha, ws, hw, hy, hc⟩ := clr_w fr xs (i + 1) sy s hu (by omega)
      refine ⟨ha, ws, hw, fun y h => ⟨(hy y h).1, ?_⟩, ?_⟩
      · obtain ⟨m, h1, h2⟩ := (hy y h).2
        exact ⟨m + 1, by simp only [qqA]; omega, by rw [h2]; congr 1; omega⟩
      · rcases hc with ⟨c1, c2, c3, c4, c5⟩ | hc
        · refine .inl ⟨c1, c2, c3, fun m u h => ?_, c5⟩
          cases m with
          | zero => obtain rfl : x = u := by simpa using h
                    exact .inl (blk_zero hz)
          | succ m =>
            rcases c4 m u (by simpa using h) with h1 | ⟨y, h1, h2⟩
            · exact .inl h1
            · exact .inr ⟨y, h1, by rw [h2]; congr 1; omega⟩
        · exact .inr hc
    · rw [if_neg hz]
      rcases asked_up hu (k := ((fr + i : Nat) : Int)) (by omega) (fun s => writeD s ((fr + i : Nat) : Int) zB) with ⟨h1, h2, h3⟩ | ⟨h1, h2, h3⟩
      · rw [if_pos h2]
        have e : wrD s ((fr + i : Nat) : Int) zB = opD (writeD { s with arms := (metF s.arms).2 } ((fr + i : Nat) : Int) zB) := h3
        have hu1 : Up (wrD s ((fr + i : Nat) : Int) zB) := by rw [e]; exact ⟨hu.on, hu.fit⟩
        have hs1 : (wrD s ((fr + i : Nat) : Int) zB).size = s.size := by rw [e]; rfl
        have hl : (wrD s ((fr + i : Nat) : Int) zB).loose = s.loose ++ [⟨((fr + i : Nat) : Int), zB⟩] := by rw [e]; rfl
        have harm : s.arms.on = false → (wrD s ((fr + i : Nat) : Int) zB).arms.on = false := fun h => by rw [e]; exact met_stays h
        obtain ⟨ha, ws, hw, hy, hc⟩ := clr_w fr xs (i + 1) true (wrD s ((fr + i : Nat) : Int) zB) hu1 (by rw [hs1]; omega)
        refine ⟨⟨ha.size.trans hs1, ha.fails.trans (by rw [e]; rfl), ha.firm.trans (by rw [e]; rfl)⟩, ⟨((fr + i : Nat) : Int), zB⟩ :: ws, by rw [hw, hl, List.append_assoc]; rfl, fun y h => ?_, ?_⟩
        · rcases List.mem_cons.1 h with rfl | h
          · exact ⟨rfl, 0, by simp, rfl⟩
          · obtain ⟨m, q1, q2⟩ := (hy y h).2
            exact ⟨(hy y h).1, m + 1, by simp only [qqA]; omega, by rw [q2]; congr 1; omega⟩
        · rcases hc with ⟨c1, c2, c3, c4, c5⟩ | ⟨c0, c1, c2⟩
          · refine .inl ⟨c1, c2, fun h => c3 (harm h), fun m u h => ?_, by rw [c5]; simp⟩
            cases m with
            | zero => exact .inr ⟨_, List.mem_cons_self .., rfl⟩
            | succ m =>
              rcases c4 m u (by simpa using h) with h1 | ⟨y, h1, h2⟩
              · exact .inl h1
              · exact .inr ⟨y, List.mem_cons_of_mem _ h1, by rw [h2]; congr 1; omega⟩
          · refine .inr ⟨?_, c1, c2⟩
            cases hx : s.arms.on with
            | true => rfl
            | false => rw [harm hx] at c0; cases c0
      · rw [if_neg (by rw [h2]; decide)]
        have e : wrD s ((fr + i : Nat) : Int) zB = { s with arms := (metF s.arms).2, out := true } := h3
        refine ⟨by rw [e]; exact ⟨rfl, rfl, rfl⟩, [], by rw [e]; simp, fun y hy => by (cases hy), .inr ⟨?_, h2, by rw [e]⟩⟩
        cases hx : s.arms.on with
        | true => rfl
        | false => rw [hit_off hx] at h1; cases h1
theorem open_reads {s:DS} {n:Nat} {t:Int} {said:List (List UInt8)} {tail:List Blk} (h:LogOn s n t said tail) (hn:NoEntry t (said.length:Nat) tail) :
  ∃ s3,Up s3∧s3.loose=[]∧s3.size=s.size∧s3.arms=s.arms∧(∀ j,holdsF s3 j=holdsF s j)∧LogOn s3 n t said tail∧openF s=if (clrR (clrW (fromN n t) tail (endF t said) false s3)).2=0 then ((clrR (clrW (fromN n t) tail (endF t said) false s3)).1,0,⟨n,t,said,endF t said⟩) else ((clrR (clrW (fromN n t) tail (endF t said) false s3)).1,(clrR (clrW (fromN n t) tail (endF t said) false s3)).2,noOW):=by
 have hb:=from_bound t h.hn.2
 have hsz:=h.size
 obtain ⟨b1,b2,b3,b4,b5,b6,b7⟩:=field_up (fromN n t) n 0 (opD (opD s)) ⟨h.up.on,h.up.fit⟩ (by show ((fromN n t+0+n:Nat):Int)≤s.size;omega)
 have hf:(fieldW (fromN n t) n 0 (opD (opD s))).2.2=laidF t said 0++tail:=by
  rw[b2,←h.cur,fieldOf]
  apply List.map_congr_left
  intro a _
  show holdsF s _=_
  rw[Nat.zero_add]
 have hrd:readF t (laidF t said 0++tail) (laidF t said 0++tail).length 0 0=(said,endF t said):=by
  have:=readF_laid tail said [] 0 (laidF t said 0++tail).length h.short (by rw[List.length_append];exact Nat.le_refl _) (by rw[Nat.zero_add];exact hn)
  simpa [endF] using this
 refine ⟨(fieldW (fromN n t) n 0 (opD (opD s))).1,b3,b4.trans h.loose,b5,b6,b7,h.same b3 (b4.trans h.loose) b5 b7,?_⟩
 have hl0:(fieldW (fromN n t) n 0 (opD (opD s))).1.loose=[]:=b4.trans h.loose
 rw[openF,cnt_able h]
 show (if (0:Int)=0 then openB ((n:Int).toNat) t (opD (opD s)) else _)=_
 rw[if_pos rfl,Int.toNat_natCast,openB,if_pos b1,hf,openC,hrd]
 simp only[]
 rw[if_neg h.some_,clrF,hl0,show (laidF t said 0++tail).drop (endF t said)=tail from List.drop_left' rfl]
 rfl
theorem open_able {s:DS} {n:Nat} {t:Int} {said:List (List UInt8)} (h:Able s n t said) :
  ((openF s).2.1=0∧Clean (openF s).1 n t said∧(openF s).2.2=⟨n,t,said,endF t said⟩∧(s.arms.on=false→(openF s).1.arms.on=false))∨
  (s.arms.on=true∧(openF s).2.1=9∧(openF s).1.out=true∧∀ keep,Able (crashD keep (openF s).1) n t said):=by
 obtain ⟨tail,hL,hno,hfr⟩:=h
 obtain ⟨s3,u3,l3,z3,a3,h3,hL3,ho⟩:=open_reads hL hno
 have hb:=from_bound t hL.hn.2
 have hsz:=hL3.size
 have hlen:=hL.len
 have hfew:=hL.few
 have hn:=hL.hn
 have htl:∀ i,i < tail.length→tail[i]? = some (holdsF s3 ((fromN n t+endF t said+i:Nat):Int)):=fun i hi=>by
  have h1:=fieldOf_get s3 (fromN n t) n (endF t said+i) (by omega)
  rw[hL3.cur,List.getElem?_append_right (by unfold endF;omega),show endF t said+i - (laidF t said 0).length=i from by unfold endF;omega]at h1
  rw[h1];congr 3;omega
 obtain ⟨ha,ws,hw,hy,hc⟩:=clr_w (fromN n t) tail (endF t said) false s3 u3 (by omega)
 rw[l3,qqF]at hw
 -- what is cut on the way
 have cut:∀ (r:DS) (keep:List Bool),Alike s3 r→r.loose=ws→Able (crashD keep r) n t said:=fun r keep har hrl=>by
  obtain ⟨d1,d2,d3,d4,d5⟩:=crash_any keep r
  have hj:∀ j,holdsF (crashD keep r) j=holdsF s3 j∨∃ m,m < tail.length∧j=((fromN n t+endF t said+m:Nat):Int)∧holdsF (crashD keep r) j=zB:=fun j=>by
   rcases d5 j with e | ⟨y,q1,q2,q3⟩
   ·rw[e,har.firm,holds_firm l3];exact .inl rfl
   ·rw[hrl]at q1
    obtain ⟨p1,m,p2,p3⟩:=hy y q1
    exact .inr ⟨m,p2,q2.symm.trans p3,by rw[q3,p1]⟩
  have h1:=hL3.inner d1 d2 (d3.trans har.size) (fun j hj2=>by
   rcases hj j with e | ⟨m,q1,q2,_⟩
   ·exact e
   ·exact absurd (q2.trans (by congr 1;omega)) (hj2 (endF t said+m) (by omega) (by omega)))
  have hmix:∀ (i:Nat) (x:Blk),((fieldOf (crashD keep r) (fromN n t) n).drop (endF t said))[i]? = some x→tail[i]? = some x∨x=zB:=fun i x hx=>by
   have hi:i < tail.length:=by
    have:=(List.getElem?_eq_some_iff.1 hx).1
    rw[List.length_drop,fieldOf_len]at this;omega
   rw[List.getElem?_drop,fieldOf_get _ _ _ _ (by omega)]at hx
   obtain rfl:=Option.some.inj hx
   rcases hj ((fromN n t+(endF t said+i):Nat):Int) with e | ⟨_,_,_,e⟩
   ·rw[e,htl i hi];left;congr 3;omega
   ·exact .inr e
  refine ⟨_,h1,zero_entry hL.ht.2 (by omega) hno hmix,fun x hx=>?_⟩
  obtain ⟨i,hi⟩:=List.getElem?_of_mem hx
  rcases hmix i x hi with h2 | h2
  ·exact hfr x (List.mem_of_getElem? h2)
  ·rw[h2];exact fresh_zero _
 -- what an opening that is not cut leaves
 have done:∀ (r:DS),Up r→r.loose=[]→r.size=s3.size→(∀ j,holdsF r j=(findB j ws).getD (holdsF s3 j))→(∀ (m:Nat) (x:Blk),tail[m]? = some x→x=zB∨∃ y∈ws,y.at_=((fromN n t+endF t said+m:Nat):Int))→Clean r n t said:=fun r hur hlr hzr hhr hall=>by
  have h1:=hL3.inner hur hlr hzr (fun j hj2=>by
   rw[hhr,(find_zero (j:=j) fun y hyy=>(hy y hyy).1).2.2 (fun y hyy e=>by
    obtain ⟨_,m,p2,p3⟩:=hy y hyy
    exact hj2 (endF t said+m) (by omega) (by omega) (e.symm.trans (p3.trans (by congr 1;omega))))];rfl)
  refine ⟨tail.length,?_⟩
  have e:(fieldOf r (fromN n t) n).drop (endF t said)=List.replicate tail.length zB:=by
   apply List.ext_getElem?
   intro i
   rw[List.getElem?_drop,List.getElem?_replicate]
   by_cases hi:i < tail.length
   ·rw[if_pos hi,fieldOf_get _ _ _ _ (by omega),hhr]
    rcases hall i _ (htl i hi) with q | ⟨y,q1,q2⟩
    ·congr 1
     have hz:=find_zero (j:=((fromN n t+(endF t said+i):Nat):Int)) fun y hyy=>(hy y hyy).1
     rw[show (fromN n t+(endF t said+i):Nat)=fromN n t+endF t said+i from by omega,q,←show (fromN n t+(endF t said+i):Nat)=fromN n t+endF t said+i from by omega]
     exact hz.1
    ·congr 1
     rw[(find_zero fun y hyy=>(hy y hyy).1).2.1 ⟨y,q1,q2.trans (by congr 1;omega)⟩];rfl
   ·rw[if_neg hi,List.getElem?_eq_none (by rw[fieldOf_len];omega)]
  rw[e]at h1
  exact h1
 rcases hc with ⟨c1,c2,c3,c4,c5⟩ | ⟨c0,c1,c2⟩
 ·have hur:Up (clrW (fromN n t) tail (endF t said) false s3).1:=⟨c2,by rw[ha.fails];exact u3.fit⟩
  cases hws:ws.isEmpty with
  | true=>
   have hw0:ws=[]:=List.isEmpty_iff.1 hws
   have hr:clrR (clrW (fromN n t) tail (endF t said) false s3)=((clrW (fromN n t) tail (endF t said) false s3).1,0):=by
    rw[clrR,if_pos c1,c5,hws,if_neg (by simp)]
   rw[ho,hr,if_pos rfl]
   refine .inl ⟨rfl,done _ hur (by rw[hw,hw0]) ha.size (fun j=>?_) c4,rfl,fun h=>c3 (by rw[a3];exact h)⟩
   rw[hw0,holds_firm (by rw[hw,hw0]),ha.firm,holds_firm l3];rfl
  | false=>
   have hr:clrR (clrW (fromN n t) tail (endF t said) false s3)=(syD (clrW (fromN n t) tail (endF t said) false s3).1,askE (clrW (fromN n t) tail (endF t said) false s3).1 0 true):=by
    rw[clrR,if_pos c1,c5,hws,if_pos (by simp)]
   rcases sy_up hur (by rw[ha.size,z3];have:=hL.size;omega) with ⟨d1,d2,d3,d4,d5,d6,d7⟩ | ⟨d0,d1,d2,d3,d4⟩
   ·rw[ho,hr,if_pos d1]
    refine .inl ⟨rfl,done _ ⟨d2,by rw[d6];exact hur.fit⟩ d3 (d5.trans ha.size) (fun j=>?_) c4,rfl,fun h=>d7 (c3 (by rw[a3];exact h))⟩
    show holdsF (syD _) j=_
    rw[d4,holdsF,hw,ha.firm,holds_firm l3]
    cases findB j ws <;> rfl
   ·rw[ho,hr,if_neg (by rw[d1];show ¬(9:Int)=0;decide)]
    refine .inr ⟨?_,d1,d2,fun keep=>cut _ keep ⟨d4.size.trans ha.size,d4.fails.trans ha.fails,d4.firm.trans ha.firm⟩ (d3.trans hw)⟩
    cases hx:s.arms.on with
    | true=>rfl
    | false=>rw[c3 (by rw[a3];exact hx)]at d0;cases d0
 ·have hr:clrR (clrW (fromN n t) tail (endF t said) false s3)=((clrW (fromN n t) tail (endF t said) false s3).1,9):=by
   rw[clrR,if_neg (by rw[c1];decide),c1]
  rw[ho,hr,if_neg (by show ¬(9:Int)=0;decide)]
  exact .inr ⟨by rw[←a3];exact c0,rfl,c2,fun keep=>cut _ keep ha hw⟩
theorem format_live (n : Nat) (hn : 4 ≤ n ∧ n ≤ 1000) : (fmtF n (newD ((2 * n + 2 : Nat) : Int))).2 = 0 ∧ Live (fmtF n (newD ((2 * n + 2 : Nat) : Int))).1 n 0 [[]] ∧ (fmtF n (newD ((2 * n + 2 : Nat) : Int))).1.arms.on = false := by
  obtain ⟨s0, hs0⟩ : ∃ s0, s0 = newD ((2 * n + 2 : Nat) : Int) := ⟨_, rfl⟩
  rw [← hs0]
  have hu0 : Up s0 := by rw [hs0]; exact ⟨rfl, rfl⟩
  have hz0 : s0.size = ((2 * n + 2 : Nat) : Int) := by rw [hs0]; rfl
  have ha0 : s0.arms.on = false := by rw [hs0]; rfl
  have hh0 : ∀ j, holdsF s0 j = zB := fun j => by rw [hs0]; rfl
  have off : ∀ {s : DS}, s.arms.on = false → ¬ s.arms.on = true := fun h h2 => by rw [h] at h2; cases h2
  rcases lay_f (List.replicate (2 * n + 2) zB) s0 0 hu0 (by rw [hs0]; rfl) (by omega) (by rw [List.length_replicate]; omega) with ⟨c1, c2, c3, c4, c5, c6⟩ | ⟨c0, _⟩
  · replace c1 : (layF s0 0 (List.replicate (2 * n + 2) zB)).2 = 0 := c1
    have hfm : fmtF n s0 = begF n 0 [] (layF s0 0 (List.replicate (2 * n + 2) zB)).1 := by rw [fmtF, if_pos c1]
    rw [hfm]
    obtain ⟨s1, hs1⟩ : ∃ s1, s1 = (layF s0 0 (List.replicate (2 * n + 2) zB)).1 := ⟨_, rfl⟩
    replace c2 : Up s1 := by rw [hs1]; exact c2
    replace c3 : s1.loose = [] := by rw [hs1]; exact c3
    replace c4 : s1.size = s0.size := by rw [hs1]; exact c4
    replace c5 : s1.arms.on = false := by rw [hs1]; exact c5 ha0
    have hh1 : ∀ j, holdsF s1 j = zB := fun j => by
      rw [hs1]
      have := c6 j
      rw [hh0, wrs_find] at this
      refine Eq.trans this ?_
      split
      · rw [List.getElem?_replicate]; split <;> rfl
      · rfl
    rw [← hs1]
    have hxl : (leavesF 0 0 []).length = 1 := rfl
    rcases lay_f (leavesF 0 0 []) s1 2 c2 c3 (by omega) (by rw [hxl]; omega) with ⟨d1, d2, d3, d4, d5, d6⟩ | ⟨d0, _⟩
    · have h2n : fromN n 0 = 2 := by simp [fromN]
      replace d1 : (layF s1 ((2 : Nat) : Int) (leavesF 0 0 [])).2 = 0 := d1
      have hbg : begF n 0 [] s1 = layF (layF s1 ((2 : Nat) : Int) (leavesF 0 0 [])).1 (((0 : Int) % 2).toNat : Nat) [titleF 0 n] := by
        show (if (layF s1 (fromN n 0 : Nat) (leavesF 0 0 [])).2 = 0 then layF (layF s1 (fromN n 0 : Nat) (leavesF 0 0 [])).1 (((0 : Int) % 2).toNat : Nat) [titleF 0 n] else layF s1 (fromN n 0 : Nat) (leavesF 0 0 [])) = _
        rw [h2n]; exact if_pos d1
      rw [hbg]
      obtain ⟨s2, hs2⟩ : ∃ s2, s2 = (layF s1 ((2 : Nat) : Int) (leavesF 0 0 [])).1 := ⟨_, rfl⟩
      replace d2 : Up s2 := by rw [hs2]; exact d2
      replace d3 : s2.loose = [] := by rw [hs2]; exact d3
      replace d4 : s2.size = s1.size := by rw [hs2]; exact d4
      replace d5 : s2.arms.on = false := by rw [hs2]; exact d5 c5
      replace d6 : ∀ j, holdsF s2 j = (findB j (wrs 2 (leavesF 0 0 []))).getD (holdsF s1 j) := fun j => by rw [hs2]; exact d6 j
      rw [← hs2]
      rcases lay_f [titleF 0 n] s2 0 d2 d3 (by omega) (by simp only [List.length_singleton]; omega) with ⟨e1, e2, e3, e4, e5, e6⟩ | ⟨e0, _⟩
      · have h0 : holdsF (layF s2 (((0 : Int) % 2).toNat : Nat) [titleF 0 n]).1 0 = titleF 0 n := by
          have := e6 0
          exact this
        have hj : ∀ j : Int, j ≠ 0 → holdsF (layF s2 (((0 : Int) % 2).toNat : Nat) [titleF 0 n]).1 j = holdsF s2 j := fun j hj => by
          have := e6 j
          rw [over_ne (fun i hi => by have : i = 0 := by simpa using hi
                                      subst this; exact hj)] at this
          exact this
        refine ⟨e1, ⟨List.replicate (n - 1) zB, ⟨e2, e3, hn, ?_, by omega, h0, ?_, by simp, fun b hb => ?_, ?_, fun i hi => ?_⟩, fun x hx => ?_⟩, e5 d5⟩
        · have : (layF s2 (((0 : Int) % 2).toNat : Nat) [titleF 0 n]).1.size = s2.size := e4
          rw [this]; omega
        · rw [hj _ (by decide), d6, over_ne (fun i hi => by rw [hxl] at hi; omega), hh1]
          intro hb
          rw [show tellN zB = 0 from by decide] at hb
          simp [mayF] at hb
        · obtain rfl := List.mem_singleton.1 hb; simp
        · have h1 := field_over (s := s1) (s' := s2) (fr := 2) (n := n) (k := 0) (xs := leavesF 0 0 []) (by rw [hxl]; omega) (fun j => d6 j)
          rw [h2n, fieldOf_eq fun i hi => hj _ (by omega), h1, List.take_zero, qqF, laidF, laidF, List.append_nil]
          congr 1
          rw [hxl, fieldOf, show (fun i => holdsF s1 ((2 + i : Nat) : Int)) = fun _ => zB from funext fun i => hh1 _]
          rw [List.map_const', List.length_range, List.drop_replicate]
        · rw [hj _ (by have := from_bound (0 + 1) (n := n) hn.2; omega), d6, over_ne (fun a ha => by rw [hxl] at ha; have := from_apart 0 (n := n) (i := a) (j := i) (by omega) hi; rw [h2n] at this; omega), hh1]
          exact fresh_zero _
        · rw [(List.mem_replicate.1 hx).2]; exact fresh_zero _
      · exact absurd e0 (off d5)
    · exact absurd d0 (off c5)
  · exact absurd c0 (off ha0)
theorem beq_c (p q:Option Addr) (c e:Nat) (xs ys:List UInt8) (_hl:xs.length≤1000000∧ys.length≤1000000) (w0:World) (f1:Stable (fun _=>False) w0 (GlF p xs)) (f2:Stable (fun _=>False) w0 (GlF q ys)) :
  Ret Tryz.prog 42 [.slice p xs.length c,.slice q ys.length e] w0 (fun _=>False) fun v _=>v=.bool (decide (xs=ys)):=by
 refine enter Tryz.func42 rfl rfl (Wd.begin (fs:=[SlF p (encL xs),SlF q (encL ys)]) (by simp;exact ⟨f1.imp fun _ h=>h.1,f2.imp fun _ h=>h.1⟩)) (fun a S=>?_)
 simp only[Tryz.ntmps42,qqA,qqB,Nat.reduceAdd,Nat.reduceSub,qqC,qqD,qqE,qqF]at S
 refine kS (kR (sq S ?_));clear S;intro a S;refine kN (xtn (kS (kR ?_)));(iterate 6 (refine sq S ?_;clear S;intro a S));refine kN (xtn (kT ?_))
 refine end1 S (fun _=>?_)
 rfl
abbrev bsL (ys:List LBy):List (List UInt8):=ys.map LBy.bs
theorem told_get {came:List LBy} {i:Nat} {z:Nat × LBy} (h:(toldL came)[i]? = some z):i < came.length∧z=(i+1,nthG came i):=by
 rw[toldL,List.getElem?_map]at h
 have hi:i < came.length:=by
  cases hr:(List.range came.length)[i]? with
  | none=>rw[hr]at h;cases h
  | some a=>have:=(List.getElem?_eq_some_iff.1 hr).1;simpa using this
 rw[List.getElem?_range hi]at h
 exact ⟨hi,(Option.some.inj h).symm⟩
structure LG where
 m:Nat
 p:Option Addr
 c:Nat
 s:DS
 q:Option Addr
 e:Nat
 x:WS
abbrev lgI (b g:Nat) (L:LG):Wk.Item:=both (dkI b L.m L.p L.c L.s) (walI g b L.q L.e L.x)
structure LgSays (L:LG) (said:List (List UInt8)):Prop where
 says:bsL L.x.said=said
 some_:said≠[]
 few:said.length≤1000
 short:∀ b∈said,b.length≤40000
structure LgOk (L:LG) (n:Nat) (t:Int) (said:List (List UInt8)):Prop where
 num:L.x.n=n
 turn:L.x.turn=t
 says:bsL L.x.said=said
 fin:L.x.fin=endF t said
 broken:L.x.broken=false
 live:Live L.s n t said
theorem lg_cap {b g:Nat} {L:LG} {w:World} (h:(lgI b g L).holds w):L.x.said.length≤L.e:=own_le h.2.1.2.1.1
theorem allBy_ent {ys:List LBy} {w:World} (h:(entI ys).holds w):Stable (fun _=>False) w (AllBy ys):=fun _w' ha y hy=>gl_loc (fun ad hp=>ha.blk ((h y hy).1 ad hp) (fun h=>h)) (h y hy).2
theorem begF_loose (n:Nat) (t:Int) (bs:List UInt8) (hb:bs.length≤40000) (s:DS):(begF n t bs s).1.loose.length≤s.loose.length+840:=by
 have h1:=layF_loose s (fromN n t:Nat) (leavesF t 0 bs)
 have h2:=layF_loose (layF s (fromN n t:Nat) (leavesF t 0 bs)).1 ((t % 2).toNat:Nat) [titleF t n]
 have h3:=secN_le _ hb
 rw[leavesF_len]at h1
 simp only[List.length_singleton]at h2
 have e:begF n t bs s=if (layF s (fromN n t:Nat) (leavesF t 0 bs)).2=0 then layF (layF s (fromN n t:Nat) (leavesF t 0 bs)).1 ((t % 2).toNat:Nat) [titleF t n] else layF s (fromN n t:Nat) (leavesF t 0 bs):=rfl
 rw[e]
 split <;> omega
theorem clrW_loose (fr:Nat):∀ (xs:List Blk) (i:Nat) (sy:Bool) (s:DS),(clrW fr xs i sy s).1.loose.length≤s.loose.length+xs.length
 | [],_,_,_=>Nat.le_refl _
 | x::xs,i,sy,s=>by
  rw[clrW,qqA]
  split
  have:=clrW_loose fr xs (i+1) sy s;omega
  split
  have h1:=clrW_loose fr xs (i+1) true (wrD s ((fr+i:Nat):Int) zB)
  have h2:=wrD_loose s ((fr+i:Nat):Int) zB
  omega
  have h2:=wrD_loose s ((fr+i:Nat):Int) zB
  show (wrD s ((fr+i:Nat):Int) zB).loose.length≤_;omega
theorem fieldW_same (fr:Nat):∀ (k i:Nat) (s:DS),(fieldW fr k i s).1.loose=s.loose∧(fieldW fr k i s).2.2.length≤k
 | 0,_,_=>⟨rfl,Nat.le_refl _⟩
 | k+1,i,s=>by
  rw[fieldW]
  split
  obtain ⟨h1,h2⟩:=fieldW_same fr k (i+1) (rdD s ((fr+i:Nat):Int))
  exact ⟨h1.trans (rdD_loose _ _),by simp only[qqA];omega⟩
  exact ⟨rdD_loose _ _,Nat.zero_le _⟩
theorem clrF_loose (fr fin:Nat) (f:List Blk) (s:DS):(clrF fr fin f s).1.loose.length≤s.loose.length+f.length:=by
 have a1:=clrW_loose fr (f.drop fin) fin (decide (0 < s.loose.length)) s
 rw[List.length_drop]at a1
 have a2:=syD_loose (clrW fr (f.drop fin) fin (decide (0 < s.loose.length)) s).1
 rw[clrF,clrR]
 split
 split
 show (syD _).loose.length≤_;omega
 show (clrW _ _ _ _ _).1.loose.length≤_;omega
 show (clrW _ _ _ _ _).1.loose.length≤_;omega
theorem openC_loose (n:Nat) (t:Int) (f:List Blk) (s:DS):(openC n t f s).1.loose.length≤s.loose.length+f.length:=by
 have h:=clrF_loose (fromN n t) (readF t f f.length 0 0).2 f s
 rw[openC]
 split
 show s.loose.length≤_;omega
 split
 exact h
 exact h
theorem openF_loose (s:DS):(openF s).1.loose.length≤s.loose.length+1000:=by
 obtain ⟨h1,h2⟩:=cntF_ok s
 rw[openF]
 split
 rename_i h0
 have hn:=(h2 h0).2.1
 obtain ⟨g1,g2⟩:=fieldW_same (fromN (cntF s).2.2.n.toNat (cntF s).2.2.t) (cntF s).2.2.n.toNat 0 (cntF s).1
 rw[openB]
 split
 have:=openC_loose (cntF s).2.2.n.toNat (cntF s).2.2.t (fieldW (fromN (cntF s).2.2.n.toNat (cntF s).2.2.t) (cntF s).2.2.n.toNat 0 (cntF s).1).2.2 (fieldW (fromN (cntF s).2.2.n.toNat (cntF s).2.2.t) (cntF s).2.2.n.toNat 0 (cntF s).1).1
 rw[g1,h1]at this
 omega
 show (fieldW _ _ _ _).1.loose.length≤_
 rw[g1,h1];omega
 show (cntF s).1.loose.length≤_
 rw[h1];omega
instance encAct:Enc LAct:=⟨4,cAct,fun _=>rfl,fun x u hu=>by simp only[List.mem_cons,List.not_mem_nil,or_false]at hu;rcases hu with rfl | rfl | rfl | rfl <;> rfl⟩
instance layAct:Lay LAct:={ encAct with
 dflt:=⟨0,0,0,none,0,[]⟩
 inn:=fun w x=>x.keep.length≤x.c∧x.c≤maxLen∧GlF x.p x.keep w
 mono:=fun _w _w' _x h hx=>⟨hx.1,hx.2.1,hx.2.2.mono h⟩ }
theorem laid_sum (t:Int):∀ (said:List (List UInt8)) (j:Nat),(laidF t said j).length=(said.map fun b=>secN b.length).sum
 | [],_=>rfl
 | b::l,j=>by rw[laidF,List.length_append,leavesF_len,laid_sum t l,List.map_cons,List.sum_cons]
theorem endF_sum (t:Int) (said:List (List UInt8)):endF t said=(said.map fun b=>secN b.length).sum:=laid_sum t said 0
theorem St.entFact {w0:World} {M0:Nat→Prop} {ds:List Deferred} {a:Act} {w:World} {l:List Value} {bs bs':List Wk.Item} {fs:List (World→Prop)} (S:St w0 M0 ds a w l bs fs) (ys:List LBy) [hd:DropI bs (entI ys) bs']:St w0 M0 ds a w l bs' (AllBy ys::fs):=by
 have S1:=S.perm _ hd.perm
 have hap:=List.pairwise_cons.1 S1.wd.apart
 have hr:(entI ys).holds w:=S1.wd.held _ (by simp)
 have S2:St w0 M0 ds a w l bs' fs:=⟨S1.slots,S1.defers,S1.wd.sub (.cons _ (.refl _)) (.refl _)⟩
 exact S2.add fun w' ha y hy=>gl_loc (fun ad hp=>ha.blk ((hr y hy).1 ad hp) (fun⟨it,hi,hk⟩=>hap.1 it hi ad.block ⟨y,hy,ad,hp,rfl⟩ hk)) (hr y hy).2
structure LV where
 s:DS
 n:Nat
 turn:Int
 said:List (List UInt8)
 fin:Nat
 broken:Bool
def LG.v (L:LG):LV:=⟨L.s,L.x.n,L.x.turn,bsL L.x.said,L.x.fin,L.x.broken⟩
def LV.x (V:LV):WS:=⟨V.n,V.turn,[],V.fin,V.broken⟩
structure LV.Wf (V:LV) (k:Nat):Prop where
 n:V.n≤1000
 fin:V.fin≤V.n
 some_:0 < V.said.length
 few:V.said.length≤V.fin
 short:∀ b∈V.said,b.length≤40000
 turn:0≤V.turn∧V.turn≤4294967295
 loose:V.s.loose.length≤k
def appV (V:LV) (bs:List UInt8):LV × Int:=
 if roomF V.x bs≠0 then (V,roomF V.x bs) else
 if (layF V.s ((fromN V.n V.turn+V.fin:Nat):Int) (leavesF V.turn (V.said.length:Int) bs)).2=0 then
  ({ V with s:=(layF V.s ((fromN V.n V.turn+V.fin:Nat):Int) (leavesF V.turn (V.said.length:Int) bs)).1,said:=V.said++[bs],fin:=V.fin+secN bs.length },0)
 else ({ V with s:=(layF V.s ((fromN V.n V.turn+V.fin:Nat):Int) (leavesF V.turn (V.said.length:Int) bs)).1,broken:=true },(layF V.s ((fromN V.n V.turn+V.fin:Nat):Int) (leavesF V.turn (V.said.length:Int) bs)).2)
def chkV (V:LV) (bs:List UInt8):LV × Int:=
 if roomC V.x bs≠0 then (V,roomC V.x bs) else
 if (begF V.n (upT V.turn) bs V.s).2=0 then ({ V with s:=(begF V.n (upT V.turn) bs V.s).1,turn:=upT V.turn,said:=[bs],fin:=secN bs.length },0)
 else ({ V with s:=(begF V.n (upT V.turn) bs V.s).1,broken:=true },(begF V.n (upT V.turn) bs V.s).2)
theorem v_len (L:LG):L.v.said.length=L.x.said.length:=List.length_map _
theorem append_v (b g:Nat) (L:LG) (k:Nat) (y:LBy) (h:L.v.Wf k) (hk:k≤980000) (hyl:y.bs.length≤10000000) (w0:World) (hd:(lgI b g L).holds w0) (f0:Stable (lgI b g L).foot w0 (GlF y.p y.bs)) :
  Ret Tryz.prog 20 [.pointer (some ⟨g,0,none⟩),.slice y.p y.bs.length y.c] w0 (lgI b g L).foot fun v w'=>∃ L',v=.int .i64 (appV L.v y.bs).2∧(lgI b g L').holds w'∧(∀ k,(lgI b g L').foot k→(lgI b g L).foot k∨w0.heap.size≤k)∧L'.m=L.m∧L'.v=(appV L.v y.bs).1:=by
 have hvl:=v_len L
 have hcap:=lg_cap hd
 obtain ⟨m,p,c,s,q,e,x⟩:=L
 have hn:x.n≤1000:=h.n
 have hfi:x.fin≤x.n:=h.fin
 have hs0:=h.some_
 have hsf:(LG.v ⟨m,p,c,s,q,e,x⟩).said.length≤x.fin:=h.few
 have ht:0≤x.turn∧x.turn≤4294967295:=h.turn
 have hl:s.loose.length≤k:=h.loose
 have hvl:(LG.v ⟨m,p,c,s,q,e,x⟩).said.length=x.said.length:=hvl
 rw[hvl]at hs0 hsf
 have hcap:x.said.length≤e:=hcap
 refine (append_c g b m p c s q e x y w0 hn hfi ⟨by omega,hcap⟩ hs0 ht hyl (by omega) hd f0).mono fun v w'=>?_
 have hrm:roomF (LG.v ⟨m,p,c,s,q,e,x⟩).x y.bs=roomF x y.bs:=rfl
 unfold appV
 rw[hrm,hvl]
 rintro (⟨ha,rfl,hb⟩ | ⟨ha,rfl,p',c',q',e',y',hy',he',hh,hf⟩)
 rw[if_pos ha]
 exact ⟨⟨m,p,c,s,q,e,x⟩,rfl,hb,fun k hk=>.inl hk,rfl,rfl⟩
 rw[if_neg (fun h=>h ha)]
 have hR:layF (LG.v ⟨m,p,c,s,q,e,x⟩).s ((fromN (LG.v ⟨m,p,c,s,q,e,x⟩).n (LG.v ⟨m,p,c,s,q,e,x⟩).turn+(LG.v ⟨m,p,c,s,q,e,x⟩).fin:Nat):Int) (leavesF (LG.v ⟨m,p,c,s,q,e,x⟩).turn (x.said.length:Int) y.bs)=layF s ((fromN x.n x.turn+x.fin:Nat):Int) (leavesF x.turn (x.said.length:Int) y.bs):=rfl
 rw[hR]
 obtain ⟨R,hR⟩:∃ R,R=layF s ((fromN x.n x.turn+x.fin:Nat):Int) (leavesF x.turn (x.said.length:Int) y.bs):=⟨_,rfl⟩
 rw[←hR]at hh hf⊢
 refine ⟨⟨m,p',c',R.1,q',e',appS x y' R.2⟩,?_,hh,hf,rfl,?_⟩
 by_cases h2:R.2=0
 rw[if_pos h2,h2]
 rw[if_neg h2]
 by_cases h2:R.2=0
 rw[if_pos h2]
 show LG.v _=_
 unfold LG.v appS
 rw[if_pos h2]
 simp only[bsL,List.map_append,List.map_cons,List.map_nil,hy']
 rw[if_neg h2]
 show LG.v _=_
 unfold LG.v appS
 rw[if_neg h2]
theorem chk_v (b g:Nat) (L:LG) (k:Nat) (y:LBy) (h:L.v.Wf k) (hk:k≤980000) (hyl:y.bs.length≤10000000) (w0:World) (hd:(lgI b g L).holds w0) (f0:Stable (lgI b g L).foot w0 (GlF y.p y.bs)) :
  Ret Tryz.prog 19 [.pointer (some ⟨g,0,none⟩),.slice y.p y.bs.length y.c] w0 (lgI b g L).foot fun v w'=>∃ L',v=.int .i64 (chkV L.v y.bs).2∧(lgI b g L').holds w'∧(∀ k,(lgI b g L').foot k→(lgI b g L).foot k∨w0.heap.size≤k)∧L'.m=L.m∧L'.v=(chkV L.v y.bs).1:=by
 obtain ⟨m,p,c,s,q,e,x⟩:=L
 have hn:x.n≤1000:=h.n
 have ht:0≤x.turn∧x.turn≤4294967295:=h.turn
 have hl:s.loose.length≤k:=h.loose
 refine (chk_c g b m p c s q e x y w0 hn ht hyl (by omega) hd f0).mono fun v w'=>?_
 have hrm:roomC (LG.v ⟨m,p,c,s,q,e,x⟩).x y.bs=roomC x y.bs:=rfl
 unfold chkV
 rw[hrm]
 rintro (⟨ha,rfl,hb⟩ | ⟨ha,rfl,p',c',q',e',y',hy',-,-,hh,hf⟩)
 rw[if_pos ha]
 exact ⟨⟨m,p,c,s,q,e,x⟩,rfl,hb,fun k hk=>.inl hk,rfl,rfl⟩
 rw[if_neg (fun h=>h ha)]
 have hR:begF (LG.v ⟨m,p,c,s,q,e,x⟩).n (upT (LG.v ⟨m,p,c,s,q,e,x⟩).turn) y.bs (LG.v ⟨m,p,c,s,q,e,x⟩).s=begF x.n (upT x.turn) y.bs s:=rfl
 rw[hR]
 obtain ⟨R,hR⟩:∃ R,R=begF x.n (upT x.turn) y.bs s:=⟨_,rfl⟩
 rw[←hR]at hh hf⊢
 refine ⟨⟨m,p',c',R.1,q',e',chkS x y' R.2⟩,?_,hh,hf,rfl,?_⟩
 by_cases h2:R.2=0
 rw[if_pos h2,h2]
 rw[if_neg h2]
 by_cases h2:R.2=0
 rw[if_pos h2]
 show LG.v _=_
 unfold LG.v chkS
 rw[if_pos h2]
 simp only[bsL,List.map_cons,List.map_nil,hy']
 rw[if_neg h2]
 show LG.v _=_
 unfold LG.v chkS
 rw[if_neg h2]
def opnV (s:DS):LV:=⟨(openF s).1,(openF s).2.2.n,(openF s).2.2.turn,(openF s).2.2.said,(openF s).2.2.fin,false⟩
theorem readF_ok (t:Int) (field:List Blk):∀ (f at_ j:Nat),at_≤field.length→(readF t field f at_ j).1.length+at_≤(readF t field f at_ j).2∧(readF t field f at_ j).2≤field.length∧∀ b∈(readF t field f at_ j).1,b.length≤40000
 | 0,at_,j,h=>⟨by simp[readF],h,fun b hb=>by simp[readF]at hb⟩
 | f+1,at_,j,h=>by
  rw[readF]
  cases hs:standF t field at_ (j:Int) with
  | none=>exact ⟨by simp,h,fun b hb=>by simp at hb⟩
  | some bs=>
   have h1:=stand_len hs
   have h2:=stand_get hs
   have h3:=secN_pos bs.length
   obtain ⟨r1,r2,r3⟩:=readF_ok t field f (at_+secN bs.length) (j+1) h1
   refine ⟨?_,r2,fun b hb=>?_⟩
   simp only[qqA];omega
   rcases List.mem_cons.1 hb with rfl | hb
   exact h2.1
   exact r3 b hb
theorem opnV_wf {s:DS} (h:(openF s).2.1=0):(opnV s).Wf (s.loose.length+1000):=by
 have hlo:=openF_loose s
 have hcok:=cntF_ok s
 by_cases h1:(cntF s).2.1=0
 obtain ⟨hz,hn,ht⟩:=hcok.2 h1
 have e1:openF s=openB (cntF s).2.2.n.toNat (cntF s).2.2.t (cntF s).1:=by rw[openF,if_pos h1]
 obtain ⟨n,hn'⟩:∃ n,n=(cntF s).2.2.n.toNat:=⟨_,rfl⟩
 have hn1:n≤1000:=by omega
 rw[←hn']at e1
 by_cases h2:(fieldW (fromN n (cntF s).2.2.t) n 0 (cntF s).1).2.1=0
 have e2:=e1
 rw[openB,if_pos h2]at e2
 have hfl:=(fieldW_same (fromN n (cntF s).2.2.t) n 0 (cntF s).1).2
 obtain ⟨F,hF⟩:∃ F,F=fieldW (fromN n (cntF s).2.2.t) n 0 (cntF s).1:=⟨_,rfl⟩
 rw[←hF]at e2 hfl
 have hrd:=readF_ok (cntF s).2.2.t F.2.2 F.2.2.length 0 0 (Nat.zero_le _)
 rw[openC]at e2
 by_cases h3:(readF (cntF s).2.2.t F.2.2 F.2.2.length 0 0).1=[]
 rw[if_pos h3]at e2;rw[e2]at h;cases h
 rw[if_neg h3]at e2
 by_cases h4:(clrF (fromN n (cntF s).2.2.t) (readF (cntF s).2.2.t F.2.2 F.2.2.length 0 0).2 F.2.2 F.1).2=0
 rw[if_pos h4]at e2
 have h5:=List.length_pos_iff.2 h3
 unfold opnV
 refine ⟨?_,?_,?_,?_,?_,?_,hlo⟩ <;> rw[e2]
 exact hn1
 show (readF _ _ _ _ _).2≤n;omega
 exact h5
 show (readF _ _ _ _ _).1.length≤(readF _ _ _ _ _).2;omega
 exact hrd.2.2
 exact ht
 rw[if_neg h4]at e2;rw[e2]at h;exact absurd h h4
 rw[openB,if_neg h2]at e1;rw[e1]at h;exact absurd h h2
 rw[openF,if_neg h1]at h;exact absurd h h1
theorem openV_c (b m:Nat) (p:Option Addr) (c:Nat) (s:DS) (hl:s.loose.length≤980000) (w0:World) (hd:(dkI b m p c s).holds w0) :
  Ret Tryz.prog 54 [.pointer (some ⟨b,0,none⟩)] w0 (dkI b m p c s).foot fun v w'=>
   ((openF s).2.1≠0∧v=.tuple ⟨[.pointer none,.int .i64 (openF s).2.1]⟩∧∃ p' c',(dkI b m p' c' (openF s).1).holds w'∧∀ k,(dkI b m p' c' (openF s).1).foot k→(dkI b m p c s).foot k∨w0.heap.size≤k)∨
   ((openF s).2.1=0∧∃ g L,v=.tuple ⟨[.pointer (some ⟨g,0,none⟩),.int .i64 0]⟩∧L.m=m∧L.v=opnV s∧(lgI b g L).holds w'∧∀ k,(lgI b g L).foot k→(dkI b m p c s).foot k∨w0.heap.size≤k):=by
 refine (open_c b m p c s w0 hl hd).mono fun v w'=>?_
 rintro (h | ⟨h0,g,p',c',q,e,x,hv,⟨x1,x2,x3,x4,x5⟩,hh,hf⟩)
 exact .inl h
 refine .inr ⟨h0,g,⟨m,p',c',(openF s).1,q,e,x⟩,hv,rfl,?_,hh,hf⟩
 unfold LG.v opnV
 simp only[x1,x2,x4,x5,bsL,x3]
def fmtV (n:Nat) (s:DS):LV:=⟨(fmtF n s).1,n,0,[[]],1,false⟩
theorem format_v (b m n:Nat) (p:Option Addr) (c:Nat) (s:DS) (hm:mayF s n=true) (hl:s.loose.length≤980000) (w0:World) (hd:(dkI b m p c s).holds w0) :
  Ret Tryz.prog 18 [.pointer (some ⟨b,0,none⟩),.int .i64 (n:Int)] w0 (dkI b m p c s).foot fun v w'=>
   ((fmtF n s).2≠0∧v=.tuple ⟨[.pointer none,.int .i64 (fmtF n s).2]⟩∧∃ p' c',(dkI b m p' c' (fmtF n s).1).holds w'∧∀ k,(dkI b m p' c' (fmtF n s).1).foot k→(dkI b m p c s).foot k∨w0.heap.size≤k)∨
   ((fmtF n s).2=0∧∃ g L,v=.tuple ⟨[.pointer (some ⟨g,0,none⟩),.int .i64 0]⟩∧L.m=m∧L.v=fmtV n s∧(lgI b g L).holds w'∧∀ k,(lgI b g L).foot k→(dkI b m p c s).foot k∨w0.heap.size≤k):=by
 refine (format_c b m n p c s w0 hm hl hd).mono fun v w'=>?_
 rintro (h | ⟨h0,g,p',c',q,e,hv,hh,hf⟩)
 exact .inl h
 exact .inr ⟨h0,g,⟨m,p',c',(fmtF n s).1,q,e,newW n⟩,hv,rfl,rfl,hh,hf⟩
theorem left_v (b g:Nat) (L:LG) (k:Nat) (h:L.v.Wf k) (w0:World) (hd:(lgI b g L).holds w0):Ret Tryz.prog 100 [.pointer (some ⟨g,0,none⟩)] w0 (fun _=>False) fun v _=>v=.int .i64 ((L.v.n:Int) - L.v.fin):=by
 have h1:=h.n
 have h2:=h.fin
 have h3:=h.few
 have h4:=h.some_
 rw[v_len]at h3 h4
 exact wleft_c g b L.q L.e L.x ⟨by omega,h4⟩ (show L.v.fin≤_ by omega) h1 w0 (BoxF.stable hd.2.1.1 (fun h=>h))
theorem broken_v (b g:Nat) (L:LG) (w0:World) (hd:(lgI b g L).holds w0):Ret Tryz.prog 99 [.pointer (some ⟨g,0,none⟩)] w0 (fun _=>False) fun v _=>v=.bool L.v.broken:=
 wbroken_c g b L.q L.e L.x w0 (BoxF.stable hd.2.1.1 (fun h=>h))
theorem snap_v (b g:Nat) (L:LG) (k:Nat) (h:L.v.Wf k) (w0:World) (hd:(lgI b g L).holds w0) :
  Ret Tryz.prog 86 [.pointer (some ⟨g,0,none⟩)] w0 (fun _=>False) fun v w'=>∃ bs p' c',L.v.said[0]? = some bs∧v=.slice p' bs.length c'∧w'.ownsRow 0 5 1 (.slice p' bs.length c') bs.length (encL bs)∧∀ ad,p'=some ad→w0.heap.size≤ad.block:=by
 have h4:=h.some_
 rw[v_len]at h4
 have hg:=nthG_get h4
 have e0:L.v.said[0]? = some (nthG L.x.said 0).bs:=by
  show (bsL L.x.said)[0]? = _
  rw[bsL,List.getElem?_map,hg];rfl
 have hs:=h.short _ (List.mem_of_getElem? e0)
 have hent:=(allBy_ent hd.2.1.2.1.2.1).imp fun _ h=>h (nthG L.x.said 0) (List.mem_of_getElem? hg)
 refine (snap_c g b L.q L.e L.x (nthG L.x.said 0) h4 rfl (by omega) w0 (BoxF.stable hd.2.1.1 (fun h=>h)) (gl_own hd.2.1.2.1.1 (fun _ _ _ _=>trivial) (fun _ _ h=>h)) hent).mono fun v w'=>?_
 rintro ⟨p',c',h1,h2,h3⟩
 exact ⟨_,p',c',e0,h1,h2,h3⟩
def Cnt.ok (c:Cnt):Prop:=c.on=true→0≤c.left∧c.left≤9223372036854775807
def bothC (f a:Cnt):Cnt:=if f.on then (if a.on then (if f.left≤a.left then f else a) else f) else a
structure Same3 (r r':DS):Prop where
 loose:r.loose=r'.loose
 firm:r.firm=r'.firm
 size:r.size=r'.size
structure Sim (s s':DS):Prop where
 same:Same3 s s'
 on:s.out=false
 up:Up s'
 arms:s'.arms=bothC s.fails s.arms
 okf:s.fails.ok
 oka:s.arms.ok
def LiveF (s:DS) (n:Nat) (t:Int) (said:List (List UInt8)):Prop:=∃ s',Sim s s'∧Live s' n t said
theorem Live.liveF {s:DS} {n:Nat} {t:Int} {said:List (List UInt8)} (h:Live s n t said) (ha:s.arms.ok):LiveF s n t said:=by
 obtain ⟨tail,hL,_⟩:=id h
 refine ⟨s,⟨⟨rfl,rfl,rfl⟩,hL.up.on,hL.up,?_,?_,ha⟩,h⟩
 rw[bothC,if_neg (by rw[hL.up.fit];exact Bool.false_ne_true)]
 intro h1;rw[hL.up.fit]at h1;cases h1
structure LvOk (V:LV) (n:Nat) (t:Int) (said:List (List UInt8)):Prop where
 num:V.n=n
 turn:V.turn=t
 says:V.said=said
 fin:V.fin=endF t said
 whole:V.broken=false
 live:LiveF V.s n t said
theorem LvOk.wf {V:LV} {n:Nat} {t:Int} {said:List (List UInt8)} (h:LvOk V n t said):V.Wf 0:=by
 obtain ⟨s',hs,tail,hL,-⟩:=h.live
 have hlen:=hL.len
 have hfew:=hL.few
 have hll:=laid_len t said 0
 refine ⟨by rw[h.num];exact hL.hn.2,by rw[h.num,h.fin];omega,by rw[h.says];exact hfew.2,by rw[h.says,h.fin];exact hll,by rw[h.says];exact hL.short,by rw[h.turn];exact hL.ht,?_⟩
 rw[hs.same.loose,hL.loose];exact Nat.le_refl _
structure LvOff (V:LV) (n:Nat) (t:Int) (said:List (List UInt8)):Prop where
 ok:LvOk V n t said
 live:Live V.s n t said
 off:V.s.arms.on=false
theorem fmt_lv (n:Nat) (hn:4≤n∧n≤1000):LvOff (fmtV n (newD ((2*n+2:Nat):Int))) n 0 [[]]:=by
 obtain ⟨h1,h2,h3⟩:=format_live n hn
 exact ⟨⟨rfl,rfl,rfl,rfl,rfl,h2.liveF (fun h=>by rw[h3]at h;cases h)⟩,h2,h3⟩
theorem room_lv {V : LV} {n : Nat} {t : Int} {said : List (List UInt8)} (h : LvOk V n t said) (bs : List UInt8) (hb : bs.length ≤ 40000) : roomF V.x bs = if n < endF t said + secN bs.length then 6 else 0 := by
  obtain ⟨q1, q2, q3, q4, q5, q6⟩ := h
  obtain ⟨s, n', turn, said', fin, broken⟩ := V
  simp only at q1 q2 q3 q4 q5 q6
  subst q1 q2 q3 q4 q5
  have e1 : refF (LV.x ⟨s, n', turn, said', endF turn said', false⟩) bs = 0 := by
    rw [refF, if_neg (by omega)]; rfl
  obtain ⟨s', hs, tail, hL, -⟩ := q6
  have hlen := hL.len
  have hll := laid_len turn said' 0
  rw [roomF, if_pos e1]
  show (if n' - endF turn said' < secN bs.length then (6 : Int) else 0) = _
  by_cases h : n' < endF turn said' + secN bs.length
  · rw [if_pos h, if_pos (by omega)]
  · rw [if_neg h, if_neg (by have : endF turn said' ≤ n' := by omega
                             omega)]
theorem app_off {V:LV} {n:Nat} {t:Int} {said:List (List UInt8)} (h:LvOff V n t said) (bs:List UInt8) (hb:bs.length≤40000) (hr:endF t said+secN bs.length≤n) :
  (appV V bs).2=0∧LvOff (appV V bs).1 n t (said++[bs]):=by
 have hroom:=room_lv h.ok bs hb
 rw[if_neg (by omega)]at hroom
 obtain ⟨⟨q1,q2,q3,q4,q5,q6⟩,hl,ho⟩:=h
 obtain ⟨s,n',turn,said',fin,broken⟩:=V
 simp only at q1 q2 q3 q4 q5 q6 hl ho hroom
 subst q1 q2 q3 q4 q5
 obtain ⟨a1,a2,a3⟩:=(append_live hl bs hb hr).resolve_right (fun h=>by rw[ho]at h;cases h.1)
 have he:endF turn (said'++[bs])=endF turn said'+secN bs.length:=by
  rw[endF_sum,endF_sum,List.map_append,List.sum_append];simp
 unfold appV
 rw[if_neg (fun h=>h hroom),if_pos a1]
 exact ⟨rfl,⟨⟨rfl,rfl,rfl,he.symm,rfl,a2.liveF (fun h=>by rw[a3 ho]at h;cases h)⟩,a2,a3 ho⟩⟩
structure VT where
 L:LG
 p:Option Addr
 c:Nat
 xs:List LRow
end Go.Proofs.YtdakncgafdnjfaaGreat
namespace Go.Wk
open Go Go.Deep Go.ChangeShapes Go.WideShapes Go.ChangeAt Go.RowKit
class TroZ (P:Program) (T:TypeId) (α:Type) [Lay α] (Z:outParam (α→Prop)):Prop where
 of:∀ {H:Type} (enc:TypeId × Value→H) (w:World) (base:Nat) (spare:Nat→Bool) (held:Bool) (fuel:Nat) (cs:List Value) (x:DataW H × List MemPlace),DataW.trod enc P w base spare held fuel T cs=some x→∃ a:α,cs=Enc.cells a∧Lay.inn w a∧((∀ n∈x.1.weights P T,n≤reachBytes)→Z a)
 size:P.cellsOf T=Enc.sz α
open Go
def kvI (x:Int × Value):Value × Value:=(.int .i64 x.1,x.2)
def mpin (b r:Nat) (kv done:List (Int × Value)):Item where
 foot:=fun k=>k=b∨k=r
 holds:=fun w=>∃ (es:Array MapEntry) (clock:Nat) (ds:List MapEntry),w.heap[b]? = some (.map es clock)∧es.toList.map enKV=kv.map kvI∧(∀ e∈es.toList,e.born < clock)∧(es.toList.map (·.born)).Nodup∧
  w.heap[r]? = some (.mapIter (some b) clock (ds.map (·.born)).toArray clock)∧(∀ e∈ds,e∈es.toList)∧(ds.map (·.born)).Nodup∧ds.map enKV=done.map kvI
class HasMpin (bs:List Item) (r:Nat) (b:outParam Nat) (kv done:outParam (List (Int × Value))):Prop where mem:mpin b r kv done∈bs
class HasMpinnB (bs:List Item) (b:Nat) (kv:outParam (List (Int × Value))):Prop where mem:∃ r done,mpin b r kv done∈bs
section
variable {P:Program} {r0:Option Nat} {ops:Array Oper} {Q:Exit→Act→World→Prop} {w0:World} {M0:Nat→Prop} {ds:List Deferred} {a:Act} {w:World} {l:List Value} {bs:List Item} {fs:List (World→Prop)}
 {d:Option Nat} {op:Op} {ty:TypeId} {pos:String} {af:Array Edge} {rest:List Oper} {t kt et:TypeId} {x:Operand} {b:Nat} {kv:List (Int × Value)}
end
section
variable {P:Program} {ops:Array Oper} {C:World→Prop} {X:XP}
def ACXL (last:Nat) (P:Program) (ops:Array Oper) (X:XP) (C:World→Prop) (R:Act→World→Prop):Nat→Array Bool→Act→World→Prop
 | 0,listed,a,w=>Region.ready .any ops listed=[]∧R a w
 | fuel+1,listed,a,w=>
  (Region.ready .any ops listed=[]→R a w)∧
  ∀ i∈Region.ready .any ops listed,WNX P ops X i (fun a' w'=>(i≠last→C w')∧ACXL last P ops X C R fuel (listed.setIfInBounds i true) a' w') a w
variable {R:Act→World→Prop}
theorem acxl_first {last i:Nat} {oi:Oper} {v:Value} (hi:ops[i]? = some oi) (hoff:X.off oi) (hsel:∀ (j:Nat) (o:Oper) cs b,ops[j]? = some o→o.op≠.select cs b) :
  (i≠last∧∀ o,ops[last]? = some o→∃ e∈o.after,Region.binds .any e=true∧e.on=i)→∀ (fuel:Nat) (listed:Array Bool) (a:Act) (w:World),
   (∀ j oj,ops[j]? = some oj→j≠i→listed.getD j true=false→(∀ e∈oj.after,Region.binds .any e=true→e.on≠i)→oi.apart ops oj=true)→
   i∈Region.ready .any ops listed→YieldsC P ops C oi v a→C w→
   ACXL last P ops X C R fuel (listed.setIfInBounds i true) (a.put oi.dst v) w→ACXL last P ops X C R (fuel+1) listed a w:=by
 intro hlast fuel
 induction fuel with
 | zero=>
  intro listed a w _ hr hy hS H
  refine ⟨fun h=>(by rw[h]at hr;cases hr),fun j hj=>?_⟩
  by_cases hji:j=i
  ·subst hji;exact hy.wnx hi hS ⟨fun _=>hS,H⟩
  ·have:=ready_mono hj hji
   rw[H.1]at this
   cases this
 | succ fuel ih=>
  intro listed a w hfree hr hy hS H
  refine ⟨fun h=>(by rw[h]at hr;cases hr),fun j hj=>?_⟩
  by_cases hji:j=i
  ·subst hji;exact hy.wnx hi hS ⟨fun _=>hS,H⟩
  ·have h1:=H.2 j (ready_mono hj hji)
   obtain ⟨hjun,oj,hoj,hall⟩:=mem_ready.1 hj
   have hnot:∀ e∈oj.after,Region.binds .any e=true→e.on≠i:=fun e he hb heq=>by
    have h1:=hall e he hb
    have h0:=(mem_ready.1 hr).1
    rw[heq]at h1
    rcases Nat.lt_or_ge i listed.size with h' | h'
    ·simp[h']at h0 h1;rw[h0]at h1;cases h1
    ·simp[Array.getElem?_eq_none h']at h1
   have hjl:j≠last:=fun e=>by
    obtain ⟨e',he',hb',ho'⟩:=hlast.2 oj (e▸hoj)
    exact hnot e' he' hb' ho'
   have h2:=wnx_put hoj (hfree j oj hoj hji hjun hnot) hoff (fun cs b=>hsel i oi cs b hi) (fun cs b=>hsel j oj cs b hoj) hy h1
   have hfree':∀ k ok,ops[k]? = some ok→k≠i→(listed.setIfInBounds j true).getD k true=false→
     (∀ e∈ok.after,Region.binds .any e=true→e.on≠i)→oi.apart ops ok=true:=fun k ok hk hki hun hno=>by
    refine hfree k ok hk hki ?_ hno
    by_cases hjk:j=k
    ·subst hjk;exact hjun
    ·rw[getD_set_ne true hjk]at hun;exact hun
   refine wpOpIn_mono (fun a' w' h3=>⟨h3.2.1,ih (listed.setIfInBounds j true) a' w' hfree' (ready_mono hr (Ne.symm hji)) h3.1 (h3.2.1 hjl) ?_⟩) h2
   rw[Array.setIfInBounds_comm _ _ hji]
   exact h3.2.2
variable {r:Option Nat} {Q:Exit→Act→World→Prop} {w0:World} {M0:Nat→Prop} {ds:List Deferred} {a:Act} {w:World} {l l':List Value} {bs bs' bs0:List Item} {fs fs0:List (World→Prop)}
 {d:Option Nat} {op:Op} {ty:TypeId} {pos:String} {af:Array Edge} {rest:List Oper} {v v' G:Value} {j g:Nat} {pol:Bool} {cs:List Bool} {n last:Nat} {listed:Array Bool}
def AQXL (last:Nat) (P:Program) (ops:Array Oper) (X:XP) (C:World→Prop) (R:Act→World→Prop) (ord:List (Nat × Bool)) (a:Act) (w:World):Prop:=
 ∀ listed,Region.noSelect ops=true→X.offB ops=true→flowFromL last ops ord listed=true→ACXL last P ops X C R ord.length listed a w
variable {ord:List (Nat × Bool)} {i:Nat}
theorem dqXL (S:St w0 M0 ds a w l bs fs) [hb:SubL bs0 bs] [hf:SubL fs0 fs] [ho:OpAt ops i ⟨d,op,ty,pos,af,none⟩] [hq:OpQ P op ty ⟨[],l⟩ bs0 fs0 v] [hp:PutO l d v l']
  (K:∀ a,St w0 M0 ds a w l' bs fs→AQXL last P ops X (fun w=>Wd w0 M0 w bs0 fs0) R ord a w) :
  AQXL last P ops X (fun w=>Wd w0 M0 w bs0 fs0) R ((i,true)::ord) a w:=by
 intro listed hs hx hflow
 simp only[flowFromL,Bool.and_eq_true]at hflow
 refine acxl_first ho.eq (XP.offB_spec hx ho.eq) (Region.noSelect_spec hs) (feeds_spec hflow.1.2) _ listed a w (Region.free_spec ho.eq hflow.1.1.2) (by simpa using hflow.1.1.1) (v:=v) (.inl ⟨rfl,fun w' hw'=>?_⟩) (S.wd.sub hb.sub hf.sub) (K _ S.put _ hs hx hflow.2)
 rw[execOp_eq]
 exact hq.run a.eval w' S.fr hw'.mem
theorem dlXL {o:Oper} {C:World→Prop} [ho:OpAt ops i o] (h:WL P none ops (fun e a' w'=>(e=.normal∧(i≠last→C w')∧AQXL last P ops X C R ord a' w')∨X.at e a' w') [o] a w):AQXL last P ops X C R ((i,false)::ord) a w:=by
 intro listed hs hx hflow
 simp only[flowFromL,Bool.and_eq_true]at hflow
 have hr:Region.ready .any ops listed=[i]:=by
  have:=hflow.1
  split at this
  ·rename_i k hk;rw[hk,Nat.eq_of_beq_eq_true this]
  ·cases this
 refine ⟨fun h0=>(by rw[h0]at hr;cases hr),fun k hk=>?_⟩
 rw[hr]at hk
 obtain rfl:k=i:=by simpa using hk
 have nor:∀ {p:Prop} {a':Act} {w':World},((p∧(k≠last→C w')∧AQXL last P ops X C R ord a' w')∨X.at .normal a' w')→(k≠last→C w')∧ACXL last P ops X C R ord.length (listed.setIfInBounds k true) a' w':=by
  rintro p a' w' (⟨-,h1,h2⟩ | h)
  ·exact ⟨h1,h2 _ hs hx hflow.2⟩
  ·exact h.elim
 have pan:∀ {c:List PanicEntry} {a':Act} {w':World},((Exit.panic c=Exit.normal∧(k≠last→C w')∧AQXL last P ops X C R ord a' w')∨X.at (.panic c) a' w')→X.at (.panic c) a' w':=by
  rintro c a' w' (⟨h,-⟩ | h)
  ·cases h
  ·exact h
 unfold WNX wpOpIn
 simp only[ho.eq]
 simp only[WL,wpListIn]at h
 split
 ·rename_i hw
  rw[if_pos hw]at h
  refine ⟨fun _ _=>trivial,?_⟩
  have h:=h.2
  generalize (o.semAt (FW none).round a.eval).run P w=q at *
  cases q with
  | ok x w'=>
   cases x <;> simp only[Oper.uponIn]at h⊢
   case value u=>exact nor h
   case skip=>exact nor h
   case defer d=>exact nor h
   case enter f args=>
    refine ⟨h.1,CallsIn.mono h.2 fun e w'' he=>?_⟩
    cases e with
    | returned u=>simp only[true_and]at he;exact nor (p:=True) (by simpa using he)
    | panicked c=>exact pan he
    | outgrown=>obtain ⟨_,_,he⟩:=he;rcases he with ⟨he,_⟩ | he <;> first | cases he | exact he.elim
   case row row args=>exact ⟨h.1,RowsIn.mono h.2 fun u w'' he=>nor he⟩
   case round l f tmps assign body=>
    refine ⟨h.1,RoundIn.mono h.2 fun e w'' he=>?_⟩
    cases e with
    | returned u=>simp only[true_and]at he;exact nor (p:=True) (by simpa using he)
    | panicked c=>exact pan he
    | outgrown=>obtain ⟨_,_,he⟩:=he;rcases he with ⟨he,_⟩ | he <;> first | cases he | exact he.elim
  | halt x w'=>
   cases x <;> simp only[Oper.uponIn]at h⊢
   case panic u=>exact pan h
 ·rename_i hw
  rw[if_neg hw]at h
  exact ⟨fun _ _=>trivial,nor h.2⟩
theorem deXL [hb:SubL bs0 bs] [hf:SubL fs0 fs] (S:St w0 M0 ds a w l bs fs) (h:AQXL last P ops X (fun w=>Wd w0 M0 w bs0 fs0) R ord a w):WL P none ops (fun e a' w'=>(e=.normal∧(i≠last→Wd w0 M0 w' bs0 fs0)∧AQXL last P ops X (fun w=>Wd w0 M0 w bs0 fs0) R ord a' w')∨X.at e a' w') [] a w:=
 kN (.inl ⟨rfl,fun _=>S.wd.sub hb.sub hf.sub,h⟩)
theorem dzXL {C:World→Prop} (h:R a w) (hr:∀ listed,Region.noSelect ops=true→flowFromL last ops [] listed=true→Region.ready .any ops listed=[]:=by intro listed _ h;simpa [flowFromL] using h):WL P none ops (fun e a' w'=>(e=.normal∧(last≠last→C w')∧AQXL last P ops X C R [] a' w')∨X.at e a' w') [] a w:=
 kN (.inl ⟨rfl,fun h=>absurd rfl h,fun listed hs _ hf=>⟨hr listed hs hf,h⟩⟩)
theorem any_of_acxl (hQ:∀ ch a w,X.at (.panic ch) a w→Q (.panic ch) a w) (hd:∀ (i:Nat) o,ops[i]? = some o→isDefer o.op=false):∀ (fuel:Nat) (listed:Array Bool) (a:Act) (w:World),ACXL last P ops X C (fun a w=>Q .normal a w) fuel listed a w→wpAnyIn (FW r) 0 P .any ops Q fuel listed a w
 | 0,_,_,_,h=>h
 | fuel+1,_,_,_,h=>⟨h.1,fun i hi=>wnx_round hQ hd (wpOpIn_mono (fun a' w' h'=>any_of_acxl hQ hd fuel _ a' w' h'.2) (h.2 i hi))⟩
theorem c_drawXL {id:Nat} {lo:List Oper} (last:Nat) (ord:List (Nat × Bool)) (bs0:List Item) (X:XP) (S:St w0 M0 ds a w l bs fs) (hQ:∀ ch a w,X.at (.panic ch) a w→Q (.panic ch) a w)
  (h:∀ w,St w0 M0 ds a w l bs fs→AQXL last P lo.toArray X (fun w=>Wd w0 M0 w bs0 fs) (fun a w=>Q .normal a w) ord a w)
  (hm:P.follows .mixedOrders=true:=by kernel_rfl) (hx:X.offB lo.toArray=true:=by kernel_rfl) (hd:((lo.all fun o=>!isDefer o.op)&&(Nat.beq ord.length lo.length&&(Region.noSelect lo.toArray&&flowFromL last lo.toArray ord (Array.replicate lo.length false))))=true:=by kernel_rfl):Wp P r (.region id lo.toArray true) Q a w:=by
 simp only[Bool.and_eq_true]at hd
 refine wpIn_region_any hm (any_of_acxl (last:=last) (C:=fun w=>Wd w0 M0 w bs0 fs) hQ (fun i o ho=>?_) _ _ _ _ ?_)
 have:=List.all_eq_true.1 hd.1 o (by
  rw[List.getElem?_toArray]at ho
  exact List.mem_of_getElem? ho)
 simpa using this
 have:=h { w with drawn:=w.drawn+1 } ⟨S.slots,S.defers,S.wd.step (Agree.drawn _ w _)⟩ _ hd.2.2.1 hx hd.2.2.2
 rw[Nat.eq_of_beq_eq_true hd.2.1]at this
 simpa using this
end
section
variable {P:Program} {r:Option Nat} {ops:Array Oper} {Q:Exit→Act→World→Prop} {w0:World} {M0:Nat→Prop} {ds:List Deferred} {a:Act} {w:World} {l:List Value} {bs bs':List Item} {fs:List (World→Prop)}
 {d:Option Nat} {ty:TypeId} {pos:String} {af:Array Edge} {rest:List Oper} {f:Nat} {x:Operand} {ys:List Operand} {args:List Value} {ts:Array TypeId}
theorem xtp {next:Act→World→Prop} {ch:List PanicEntry} (h:Q (.panic ch) a w):Exit.then next Q (.panic ch) a w:=h
theorem xbp {id:Nat} {ch:List PanicEntry} (h:Q (.panic ch) a w):Exit.inBlock id Q (.panic ch) a w:=h
abbrev noI:Item:=ext fun _=>False
theorem sitMP {l':Value→List Value} (it:Item) [EntF P f] [CallTo ⟨[],l⟩ x ys f args] [hp:∀ v,PutO l d v (l' v)] (S:St w0 M0 ds a w l bs fs) {R:Value→World→Prop} {X:List PanicEntry→World→Prop} (hc:RetP P f args w it.foot R X) (ho:it.own=true)
  (Kp:∀ ch w',X ch w'→(∀ {bs':List Item} [ReplI bs it noI bs'],St w0 M0 ds a w' l bs' fs)→Q (.panic ch) a w')
  (K:∀ v a w',R v w'→(∀ (y:Item) (fs2:List (World→Prop)) {fs3:List (World→Prop)} {bs':List Item} [AppL fs2 fs fs3] [ReplI bs it y bs'] [ItOk y],y.holds w'→(∀ k,y.foot k→it.foot k∨w.heap.size≤k)→(∀ Φ∈fs2,Stable (fun k=>y.foot k∨restOf bs it k) w' Φ)→St w0 M0 ds a w' (l' v) bs' fs3)→WL P r ops Q rest a w') :
  WL P r ops Q (⟨d,.call { callee:=.value x,args:=ys.toArray,argTypes:=ts },ty,pos,af,none⟩::rest) a w:=by
 have hap:=S.wd.apart
 refine cv_anyP S hc ?_
 rintro e w' (⟨v,rfl,ha,hR⟩ | ⟨ch,rfl,ha,hX⟩)
 ·have:=hp v
  have S':=S.put (d:=d) (v:=v)
  refine .inl ⟨v,rfl,K v _ w' hR fun y fs2 fs3 bs' happ hr oy hy hf hfs=>?_⟩
  have hS:St w0 M0 ds (a.put d v) w' (l' v) bs' fs:=⟨S'.slots,S'.defers,by
   obtain ⟨pre,post,q1,q2⟩:=hr.ex
   have hwd:=S'.wd
   rw[q1]at hwd
   rw[q2]
   exact hwd.swap ho ha hy hf (oy.lt w' hy) oy.loc⟩
  rw[←happ.eq]
  refine hS.addAll fs2 fun Φ hΦ=>(hfs Φ hΦ).less fun k _ hk=>?_
  obtain ⟨pre,post,rfl,rfl⟩:=hr.ex
  obtain ⟨z,hz,hk⟩:=hk
  have hp:=List.pairwise_append.1 hap
  rcases List.mem_append.1 hz with hz | hz
  ·exact .inr ⟨⟨z,by simp[hz],hk⟩,hp.2.2 z hz it (by simp) k hk⟩
  ·rcases List.mem_cons.1 hz with rfl | hz
   ·exact .inl hk
   ·exact .inr ⟨⟨z,by simp[hz],hk⟩,fun hx=>(List.pairwise_cons.1 hp.2.1).1 z hz k hx hk⟩
 ·refine .inr ⟨ch,rfl,Kp ch w' hX fun {bs'} hr=>⟨S.slots,S.defers,?_⟩⟩
  obtain ⟨pre,post,q1,q2⟩:=hr.ex
  have hwd:=S.wd
  rw[q1]at hwd
  rw[q2]
  exact hwd.swap ho ha trivial (fun _ h=>h.elim) (fun _ h=>h.elim) (fun _ _ _ _=>trivial)
end
end Go.Wk
namespace Go.Proofs.YtdakncgafdnjfaaGreat
open Go Go.Wk
set_option synthInstance.maxSize 100000
set_option synthInstance.maxHeartbeats 400000
set_option maxRecDepth 100000
instance:StT Tryz.prog 247:=⟨⟨_,Tryz.underlying247⟩⟩
instance:IfT Tryz.prog 20:=⟨by kernel_rfl⟩
abbrev wrongE (e:Int):Value:=.iface 247 (.agg ⟨[.int .i64 e]⟩)
abbrev tmI (h rd:Nat) (left:Int):Wk.Item:=Wk.box h 245 [.pointer (some ⟨rd,0,none⟩),.int .i64 left]
abbrev rtI (h rd:Nat) (left:Int) (r:RS):Wk.Item:=both (tmI h rd left) (rdI rd r)
theorem needR_c (h rd:Nat) (left:Int) (r:RS) (b:Bool) (w0:World) (f1:Stable (fun _=>False) w0 (BoxF h 245 [.pointer (some ⟨rd,0,none⟩),.int .i64 left])) (f2:Stable (fun _=>False) w0 (BoxF rd 238 (cRS r))) :
  RetP Tryz.prog 234 [.pointer (some ⟨h,0,none⟩),.bool b] w0 (fun _=>False) (fun _ _=>r.why=0∧b=true) (fun ch _=>∃ e,ch=pch (wrongE e)∧((r.why≠0∧e=7)∨(r.why=0∧b=false∧e=150))):=by
 refine enter Tryz.func234 rfl rfl (Wd.begin (fs:=[BoxF h 245 [.pointer (some ⟨rd,0,none⟩),.int .i64 left],BoxF rd 238 (cRS r)]) (by simp;exact ⟨f1,f2⟩)) (fun a S=>?_)
 simp only[Tryz.ntmps234,qqA,qqB,Nat.reduceAdd,Nat.reduceSub,qqC,qqD,qqE,qqF]at S
 refine kB (kS (kR ?_));(iterate 4 (refine sq S ?_;clear S;intro a S));refine sr S (errR_c rd r _ (S.mem.fact0 (BoxF rd 238 (cRS r)))) ?_;clear S;rintro _ a w rfl S;(iterate 2 (refine sq S ?_;clear S;intro a S));refine kN (xtn ?_)
 refine kC S (fun h0=>?_) (fun h0=>?_)
 refine kR ?_;(iterate 2 (refine sq S ?_;clear S;intro a S))
 refine sPan S (fun S=>?_)
 refine xbp ?_;refine endX S ?_
 exact ⟨7,rfl,.inl ⟨by simpa using h0,rfl⟩⟩
 refine kS (kR ?_);(iterate 3 (refine sq S ?_;clear S;intro a S));refine kN (xtn ?_)
 refine kC S (fun h2=>?_) (fun h2=>?_)
 refine kR ?_;(iterate 2 (refine sq S ?_;clear S;intro a S))
 refine sPan S (fun S=>?_)
 refine xbp ?_;refine endX S ?_
 exact ⟨150,rfl,.inr ⟨by simpa using h0,by simpa using h2,rfl⟩⟩
 refine kK (xbn ?_)
 refine endP (end0 S (fun _=>?_))
 exact ⟨by simpa using h0,by simpa using h2⟩
structure SubR (r r':RS):Prop where
 gl:r.bs.length≤r.c→∀ w,GlF r.p r.bs w→GlF r'.p r'.bs w
 len:r'.bs.length≤r.bs.length
 cap:r.bs.length≤r.c→r'.bs.length≤r'.c
theorem SubR.refl (r:RS):SubR r r:=⟨fun _ _ h=>h,Nat.le_refl _,id⟩
theorem SubR.trans {a b c:RS} (h:SubR a b) (k:SubR b c):SubR a c:=⟨fun hc w hw=>k.gl (h.cap hc) w (h.gl hc w hw),Nat.le_trans k.len h.len,fun hc=>k.cap (h.cap hc)⟩
theorem SubR.take (r:RS) (k:Nat):SubR r (takeR r k):=by
 refine ⟨fun hc w hw=>?_,takeR_len r k,fun hc=>takeR_cap hc⟩
 unfold takeR;split
 exact hw.drop (sz:=1) k hc
 exact hw
theorem take1_ok {r:RS} (h:r.why=0) (hk:(takeR r 1).why=0):∃ c t,r.bs=c::t∧numN (tookR r 1) 0=c.toNat∧(takeR r 1).bs=t:=by
 by_cases ho:okR r 1
 have hl:=ho.2
 match hb:r.bs with
 | []=>rw[hb]at hl;simp at hl
 | c::t=>exact ⟨c,t,rfl,by rw[tookR_yes ho,hb];simp[numN],by rw[takeR_yes ho,hb];rfl⟩
 rw[takeR_no ho,if_pos h]at hk;cases hk
theorem take1_bad {r:RS} (h:r.why=0) (hk:(takeR r 1).why≠0):r.bs=[]:=by
 by_cases ho:okR r 1
 rw[takeR_yes ho]at hk;exact absurd rfl hk
 match hb:r.bs with
 | []=>rfl
 | c::t=>exact absurd ⟨h,by rw[hb];simp⟩ ho
theorem take_ok {r:RS} {k:Nat} (h:r.why=0) (hk:(takeR r k).why=0):k≤r.bs.length∧tookR r k=r.bs.take k∧(takeR r k).bs=r.bs.drop k:=by
 by_cases ho:okR r k
 exact ⟨ho.2,tookR_yes ho,by rw[takeR_yes ho]⟩
 rw[takeR_no ho,if_pos h]at hk;cases hk
theorem take_bad {r:RS} {k:Nat} (h:r.why=0) (hk:(takeR r k).why≠0):r.bs.length < k:=by
 by_cases ho:okR r k
 rw[takeR_yes ho]at hk;exact absurd rfl hk
 rcases Nat.lt_or_ge r.bs.length k with h1 | h1
 exact h1
 exact absurd ⟨h,h1⟩ ho
def preD (ts:List Term):DecE (List Term × Nat × List UInt8)→DecE (List Term × Nat × List UInt8)
 | .error e=>.error e
 | .ok (us,left,bs)=>.ok (ts++us,left,bs)
theorem preD_nil (x:DecE (List Term × Nat × List UInt8)):preD [] x=x:=by
 cases x <;> rfl
theorem kidsD_step (f:Nat→List UInt8→DecE (Term × Nat × List UInt8)) (ts:List Term) (j left:Nat) (bs:List UInt8) (t:Term) (left':Nat) (bs':List UInt8) (h:f left bs=.ok (t,left',bs')) :
  preD ts (kidsD f (j+1) left bs)=preD (ts++[t]) (kidsD f j left' bs'):=by
 rw[kidsD,h]
 show preD ts (match kidsD f j left' bs' with | .error e=>.error e | .ok (us,l,b)=>.ok (t::us,l,b))=_
 cases kidsD f j left' bs' with
 | error e=>rfl
 | ok x=>obtain ⟨us,l,b⟩:=x;simp[preD]
theorem kidsD_bad (f:Nat→List UInt8→DecE (Term × Nat × List UInt8)) (ts:List Term) (j left:Nat) (bs:List UInt8) (e:Int) (h:f left bs=.error e):preD ts (kidsD f (j+1) left bs)=.error e:=by
 rw[kidsD,h];rfl
variable {f:Nat→List UInt8→DecE (Term × Nat × List UInt8)} {left:Nat} {k e:Int} {bs b2 b3 b4:List UInt8} {s:List UInt8} {u n:Int}
theorem decB_text (h:textD k bs=.error e):decB f left k bs=.error e:=by rw[decB,h]
theorem decB_user (h:textD k bs=.ok (s,b2)) (h2:userD k b2=.error e):decB f left k bs=.error e:=by rw[decB,h];simp only[h2]
theorem decB_num (h:textD k bs=.ok (s,b2)) (h2:userD k b2=.ok (u,b3)) (h3:numD k b3=.error e):decB f left k bs=.error e:=by rw[decB,h];simp only[h2,h3]
theorem decB_kids (h:textD k bs=.ok (s,b2)) (h2:userD k b2=.ok (u,b3)) (h3:numD k b3=.ok (n,b4)) (h4:kidsD f (kidsN k) (left - 1) b4=.error e):decB f left k bs=.error e:=by rw[decB,h];simp only[h2,h3,h4]
theorem decB_ok {ks:List Term} {l:Nat} {b5:List UInt8} (h:textD k bs=.ok (s,b2)) (h2:userD k b2=.ok (u,b3)) (h3:numD k b3=.ok (n,b4)) (h4:kidsD f (kidsN k) (left - 1) b4=.ok (ks,l,b5)):decB f left k bs=.ok (.mk k u n s ks,l,b5):=by rw[decB,h];simp only[h2,h3,h4]
theorem textD_none (h:hasF (fieldsOf k) 1=false):textD k bs=.ok ([],bs):=by unfold textD;rw[if_neg (by rw[h];simp)]
theorem textD_nil (h:hasF (fieldsOf k) 1=true):textD k []=.error 7:=by rw[textD,if_pos h]
theorem textD_long (h:hasF (fieldsOf k) 1=true) {c:UInt8} (hc:64 < c.toNat):textD k (c::bs)=.error 150:=by rw[textD,if_pos h];simp[hc]
theorem textD_short (h:hasF (fieldsOf k) 1=true) {c:UInt8} (hc:¬64 < c.toNat) (hl:bs.length < c.toNat):textD k (c::bs)=.error 7:=by rw[textD,if_pos h];simp[hc,hl]
theorem textD_ok (h:hasF (fieldsOf k) 1=true) {c:UInt8} (hc:¬64 < c.toNat) (hl:¬bs.length < c.toNat):textD k (c::bs)=.ok (bs.take c.toNat,bs.drop c.toNat):=by rw[textD,if_pos h];simp[hc,hl]
theorem userD_none (h:hasF (fieldsOf k) 2=false):userD k bs=.ok (0,bs):=by unfold userD;rw[if_neg (by rw[h];simp)]
theorem userD_nil (h:hasF (fieldsOf k) 2=true):userD k []=.error 7:=by rw[userD,if_pos h]
theorem userD_ok (h:hasF (fieldsOf k) 2=true) {c:UInt8} (hc:1≤c.toNat∧c.toNat≤6):userD k (c::bs)=.ok ((c.toNat:Int),bs):=by rw[userD,if_pos h];simp[hc]
theorem userD_bad (h:hasF (fieldsOf k) 2=true) {c:UInt8} (hc:¬(1≤c.toNat∧c.toNat≤6)):userD k (c::bs)=.error 150:=by rw[userD,if_pos h];simp only[if_neg hc]
theorem numD_none (h:hasF (fieldsOf k) 4=false):numD k bs=.ok (0,bs):=by rw[numD,if_neg (by rw[h];simp)]
theorem numD_bad (h:hasF (fieldsOf k) 4=true) (hl:bs.length < 2):numD k bs=.error 7:=by rw[numD,if_pos h,if_pos hl]
theorem numD_ok (h:hasF (fieldsOf k) 4=true) (hl:¬bs.length < 2):numD k bs=.ok ((numN (bs.take 2) 0:Int),bs.drop 2):=by rw[numD,if_pos h,if_neg hl]
theorem kidsN_int (k:Int):kidsF (fieldsOf k)=((kidsN k:Nat):Int)∧kidsN k≤2:=by
 unfold kidsN kidsF
 split
 exact ⟨rfl,by decide⟩
 split
 exact ⟨rfl,by decide⟩
 exact ⟨rfl,by decide⟩
end Go.Proofs.YtdakncgafdnjfaaGreat
namespace Go.Proofs.YtdakncgafdnjfaaGreat
open Go Go.Wk
set_option synthInstance.maxSize 100000
set_option synthInstance.maxHeartbeats 400000
set_option maxRecDepth 100000
theorem fields_kind {k:Int} (h:fieldsOf k≠0):1≤k∧k≤8:=by
 unfold fieldsOf at h
 repeat (split at h;· omega)
 exact absurd rfl h
theorem u8_natD {n:Int} (h:0≤n∧n≤255):((Wk.u8 n).toNat:Int)=n:=by
 rw[←u8_wrap]
 unfold IntKind.wrap
 simp only[IntKind.bits,IntKind.signed,Bool.false_and]
 simp;omega
theorem u8_lenD {l:Nat} (h:l≤255):(Wk.u8 (l:Int)).toNat=l:=by
 have:=u8_natD (n:=(l:Int)) (by omega)
 omega
theorem be2_numD {n:Int} (h:0≤n∧n≤65535):(numN (be 2 n) 0:Int)=n:=by
 have e:be 2 n=[Wk.u8 (n.fdiv (2 ^ 8)),Wk.u8 (n.fdiv (2 ^ 0))]:=rfl
 have h1:n.fdiv (2 ^ 8)=n / 256:=by rw[Int.fdiv_eq_ediv_of_nonneg _ (by decide)];rfl
 have h0:n.fdiv (2 ^ 0)=n:=by rw[Int.fdiv_eq_ediv_of_nonneg _ (by decide)];simp
 have h3:=u8_natD (n:=n / 256) (by omega)
 have h4:((Wk.u8 n).toNat:Int)=n % 256:=by
  rw[←u8_wrap]
  unfold IntKind.wrap
  simp only[IntKind.bits,IntKind.signed,Bool.false_and]
  simp
 rw[e,h1,h0]
 simp only[numN,List.foldl_cons,List.foldl_nil]
 push_cast
 rw[h3,h4]
 omega
structure PlainOk (k u n:Int) (s:List UInt8) (m:Nat):Prop where
 kind:fieldsOf k≠0
 kids:(m:Int)=kidsF (fieldsOf k)
 short:s.length≤64
 text:hasF (fieldsOf k) 1=false→s=[]
 user:hasF (fieldsOf k) 2=true→1≤u∧u≤6
 nouser:hasF (fieldsOf k) 2=false→u=0
 num:hasF (fieldsOf k) 4=true→0≤n∧n≤65535
 nonum:hasF (fieldsOf k) 4=false→n=0
theorem plain_ok {k u n:Int} {s:List UInt8} {m:Nat} (h:plainF k u n s m=true):PlainOk k u n s m:=by
 simp only[plainF,knownF,Bool.and_eq_true,Bool.or_eq_true,Bool.not_eq_true',decide_eq_true_eq,decide_eq_false_iff_not]at h
 obtain ⟨⟨⟨⟨⟨h1,h2⟩,h3⟩,h4⟩,h5⟩,h6⟩:=h
 refine ⟨h1,h2,by omega,fun e=>?_,fun e=>?_,fun e=>?_,fun e=>?_,fun e=>?_⟩
 rcases h4 with h | h
 rw[e]at h;cases h
 exact h
 rcases h5 with h | h
 exact h.2
 rw[e]at h;cases h.1
 rcases h5 with h | h
 rw[e]at h;cases h.1
 exact h.2
 rcases h6 with h | h
 exact ⟨h.1.2,h.2⟩
 rw[e]at h;cases h.1
 rcases h6 with h | h
 rw[e]at h;cases h.1.1
 exact h.2
theorem text_back {k u n:Int} {s:List UInt8} {m:Nat} (h:PlainOk k u n s m) (X:List UInt8):textD k (put1 k s++X)=.ok (s,X):=by
 cases hf:hasF (fieldsOf k) 1 with
 | false=>rw[put1,hf,h.text hf];exact textD_none hf
 | true=>
  have hs:=h.short
  have hl:=u8_lenD (l:=s.length) (by omega)
  rw[put1,if_pos hf,qqE,textD_ok hf (by rw[hl];omega) (by rw[hl,List.length_append];omega),hl,List.take_left,List.drop_left]
theorem user_back {k u n:Int} {s:List UInt8} {m:Nat} (h:PlainOk k u n s m) (X:List UInt8):userD k (put2 k u++X)=.ok (u,X):=by
 cases hf:hasF (fieldsOf k) 2 with
 | false=>rw[put2,hf,h.nouser hf];exact userD_none hf
 | true=>
  have hu:=h.user hf
  have hl:=u8_natD (n:=u) (by omega)
  rw[put2,if_pos hf,qqE,qqF,userD_ok hf (by omega),hl]
theorem num_back {k u n:Int} {s:List UInt8} {m:Nat} (h:PlainOk k u n s m) (X:List UInt8):numD k (put4 k n++X)=.ok (n,X):=by
 cases hf:hasF (fieldsOf k) 4 with
 | false=>rw[put4,hf,h.nonum hf];exact numD_none hf
 | true=>
  have hn:=h.num hf
  have hw:IntKind.u16.wrap n=n:=by
   unfold IntKind.wrap
   simp only[IntKind.bits,IntKind.signed,Bool.false_and]
   simp;omega
  have hl:(be 2 n).length=2:=by simp[be]
  rw[put4,if_pos hf,hw,numD_ok hf (by rw[List.length_append];omega),List.take_left' hl,List.drop_left' hl,be2_numD hn]
mutual
theorem dec_back:∀ (t:Term) (m:Nat) (left:Nat) (X:List UInt8),m≤60→(walkF t (61 - (m:Int)) (left:Int)).1=true→decT m left (bytesF t++X)=.ok (t,(walkF t (61 - (m:Int)) (left:Int)).2.toNat,X)
 | .mk k u n s ks,m,left,X=>by
  intro hm h
  rw[walkF]at h⊢
  split at h
  cases h
  rename_i hc
  rw[if_neg hc]
  have hc':0 < left∧0 < m∧plainF k u n s ks.length=true:=by
   refine ⟨by omega,by omega,?_⟩
   cases hp:plainF k u n s ks.length with
   | true=>rfl
   | false=>exact absurd (.inr (.inr hp)) hc
  obtain ⟨hl,hm0,hp⟩:=hc'
  have hok:=plain_ok hp
  have hk:=fields_kind hok.kind
  have hk8:=u8_natD (n:=k) (by omega)
  rw[bytesF,headF]
  simp only[List.append_assoc,qqE,qqF]
  rw[decT_cons,hk8,if_neg (by have:=hok.kind;omega)]
  have hkn:kidsN k=ks.length:=by
   have h1:=(kidsN_int k).1
   have h2:=hok.kids
   omega
  rw[show (61:Int) - (m:Int)+1=61 - ((m - 1:Nat):Int) from by omega,show (left:Int) - 1=((left - 1:Nat):Int) from by omega]at h⊢
  refine decB_ok (text_back hok _) (user_back hok _) (num_back hok _) ?_
  rw[hkn]
  exact decL_back ks (m - 1) (left - 1) X (by omega) h
theorem decL_back:∀ (ts:List Term) (m:Nat) (left:Nat) (X:List UInt8),m≤60→(walkLF ts (61 - (m:Int)) (left:Int)).1=true→kidsD (decT m) ts.length left (bytesLF ts++X)=.ok (ts,(walkLF ts (61 - (m:Int)) (left:Int)).2.toNat,X)
 | [],m,left,X=>by
  intro _ _
  simp[kidsD,walkLF,bytesLF]
 | t::ts,m,left,X=>by
  intro hm h
  rw[walkLF]at h⊢
  split at h
  rename_i hc
  rw[if_pos hc]
  have h0:=walkF_ge t _ _ (by omega) hc
  have e:(walkF t (61 - (m:Int)) (left:Int)).2=(((walkF t (61 - (m:Int)) (left:Int)).2.toNat:Nat):Int):=by omega
  rw[e]at h
  have h1:=dec_back t m left (bytesLF ts++X) hm hc
  have h2:=decL_back ts m _ X hm h
  rw[bytesLF,List.append_assoc,qqA,kidsD,h1]
  simp only[h2]
  rw[←e]
  cases h
end
theorem dec_name {t:Term} (h:checkF t=0):∃ left,decT 60 1200 (nameF t)=.ok (t,left,[]):=by
 have hs:sizeF t≠0:=fun e=>by rw[checkF,if_pos e]at h;cases h
 have hw:(walkF t 1 1200).1=true:=by
  cases hw:(walkF t 1 1200).1 with
  | true=>rfl
  | false=>rw[sizeF,hw]at hs;simp at hs
 have:=dec_back t 60 1200 [] (Nat.le_refl _) hw
 rw[List.append_nil]at this
 rw[nameF,if_neg hs]
 exact ⟨_,this⟩
abbrev RB:=List UInt8 × Bool
def tkB (k:Nat) (x:RB):List UInt8 × RB:=if x.2=false∧k≤x.1.length then (x.1.take k,(x.1.drop k,false)) else ([],(x.1,true))
def RS.ab (r:RS):RB:=(r.bs,!decide (r.why=0))
theorem tk_ab (r:RS) (k:Nat):tookR r k=(tkB k r.ab).1∧(takeR r k).ab=(tkB k r.ab).2:=by
 by_cases h:okR r k
 have h2:r.ab.2=false∧k≤r.ab.1.length:=⟨by simp[RS.ab,h.1],h.2⟩
 rw[tookR_yes h,takeR_yes h,tkB,if_pos h2]
 exact ⟨rfl,rfl⟩
 have h2:¬(r.ab.2=false∧k≤r.ab.1.length):=fun h3=>h ⟨by simpa [RS.ab] using h3.1,h3.2⟩
 rw[tookR_no h,takeR_no h,tkB,if_neg h2]
 refine ⟨rfl,?_⟩
 by_cases hw:r.why=0
 simp[RS.ab,hw]
 simp[RS.ab,hw]
theorem tkB_ok {k:Nat} {l X:List UInt8} (h:l.length=k):tkB k (l++X,false)=(l,(X,false)):=by
 subst h
 rw[tkB,if_pos ⟨rfl,by rw[List.length_append];omega⟩,List.take_left,List.drop_left]
theorem fields_r (k:Int):(rKids k < 0↔fieldsOf k=0)∧(0≤rKids k→rKids k=((kidsN k:Nat):Int))∧hasF (fieldsOf k) 1=decide (k=1)∧hasF (fieldsOf k) 2=rUser k∧hasF (fieldsOf k) 4=rNum k:=by
 by_cases hk:1≤k∧k≤8
 ·obtain ⟨h1,h2⟩:=hk
  have hk8:k=1∨k=2∨k=3∨k=4∨k=5∨k=6∨k=7∨k=8:=by omega
  rcases hk8 with rfl | rfl | rfl | rfl | rfl | rfl | rfl | rfl <;> refine ⟨?_,?_,?_,?_,?_⟩ <;> decide
 ·have h1:fieldsOf k=0:=by
   unfold fieldsOf;(repeat' split) <;> omega
  have h2:rKids k = -1:=by
   unfold rKids;rw[if_pos];omega
  refine ⟨by rw[h1,h2];simp,fun h=>by rw[h2]at h;omega,?_,?_,?_⟩
  ·rw[h1,show hasF 0 1=false from by decide,decide_eq_false (by omega)]
  ·rw[h1,show hasF 0 2=false from by decide,rUser,decide_eq_false (by omega),decide_eq_false (by omega),decide_eq_false (by omega),decide_eq_false (by omega)];rfl
  ·rw[h1,show hasF 0 4=false from by decide,rNum,decide_eq_false (by omega),decide_eq_false (by omega)];rfl
section
variable {bs:List UInt8} {i n z:Nat}
end
section
variable {P:Program} {r:Option Nat} {ops:Array Oper} {Q:Exit→Act→World→Prop} {w0:World} {M0:Nat→Prop} {ds:List Deferred} {a:Act} {w:World} {l:List Value} {bs:List Wk.Item} {fs:List (World→Prop)}
 {d:Option Nat} {t t' ty:TypeId} {pos:String} {af:Array Edge} {rest:List Oper} {e:TypeId} {x:Operand} {ys:List UInt8}
theorem scvb {l':Nat→Nat→List Value} (S:St w0 M0 ds a w l bs fs) [Ev ⟨[],l⟩ x (str ys)] [ht:Und P t .string] [ht':Und P t' (.slice e)] [he:Und P e (.int .u8)] [hp:∀ b c,PutO l d (.slice (some ⟨b,0,none⟩) ys.length c) (l' b c)]
  (K:∀ b c a w,St w0 M0 ds a w (l' b c) bs (GlF (some ⟨b,0,none⟩) ys::fs)→WL P r ops Q rest a w):WL P r ops Q (⟨d,.convert t t' x,ty,pos,af,none⟩::rest) a w:=by
 refine wl_plain rfl ?_
 rw[semAt_nd rfl]
 have hr:=Lib.run_convert_string_bytes (P:=P) w t t' e ⟨ys.toArray⟩ ht.eq ht'.eq he.eq
 have e1:(xop a.eval (.convert t t' x) ty).run P w=.ok (.value (.slice (some ⟨w.heap.size,0,none⟩) ys.length (grownCap w (ByteArray.size ⟨ys.toArray⟩) 0 e))) (Lib.bytesWorld w e ⟨ys.toArray⟩):=by
  simp only[xop,execOp,S.fr.ev (x:=x) (v:=str ys),Sem.run_bind,str]
  rw[hr];rfl
 simp only[e1,Oper.uponIn]
 have:=hp w.heap.size (grownCap w (ByteArray.size ⟨ys.toArray⟩) 0 e)
 have S':=S.put (d:=d) (v:=.slice (some ⟨w.heap.size,0,none⟩) ys.length (grownCap w (ByteArray.size ⟨ys.toArray⟩) 0 e))
 have hg:Grow w (Lib.bytesWorld w e ⟨ys.toArray⟩):=⟨rfl,rfl,rfl,by rw[Lib.bytesWorld_size];omega,fun k hk _=>Lib.bytesWorld_at_old w e _ k hk⟩
 have hwd:=S'.wd.step hg
 have S2:St w0 M0 ds _ _ _ bs fs:=⟨S'.slots,S'.defers,hwd⟩
 refine K _ _ _ _ (S2.add ?_)
 have hs:SlF (some ⟨w.heap.size,0,none⟩) (encL ys) (Lib.bytesWorld w e ⟨ys.toArray⟩):=⟨nofun,fun ad had j u hu=>by
  cases had
  have hj:j < ys.length:=by
   have:=(List.getElem?_eq_some_iff.1 hu).1
   rw[encL_len]at this
   have h2:ys.length*Enc.sz UInt8=ys.length:=Nat.mul_one _
   omega
  have h1:=Lib.bytesWorld_cell w e ⟨ys.toArray⟩ j hj
  rw[encB_map,List.getElem?_map,List.getElem?_map,List.getElem?_eq_getElem hj]at hu
  simp only[Option.map_some,Option.some.injEq]at hu
  rw[show (⟨w.heap.size,0,none⟩:Addr).add j=⟨w.heap.size,j,none⟩ from by simp only[Addr.add,Nat.zero_add];split <;> simp_all,h1,←hu]
  simp[List.getD,List.getElem?_eq_getElem hj]⟩
 exact fun w' hw'=>⟨hs.stable (fun ad had hm=>by
  cases had
  obtain ⟨it,hi,hk⟩:=hm
  exact absurd (S.wd.lt it hi _ hk) (Nat.lt_irrefl _)) w' hw',fun _ _=>trivial⟩
end
theorem u16_beN (n:Int):beN 2 (IntKind.u64.wrap n).toNat=be 2 (IntKind.u16.wrap n):=by
 have h1:IntKind.u64.wrap n=n % 18446744073709551616:=by
  unfold IntKind.wrap;simp only[IntKind.bits,IntKind.signed,Bool.false_and];simp
 have h2:IntKind.u16.wrap n=n % 65536:=by
  unfold IntKind.wrap;simp only[IntKind.bits,IntKind.signed,Bool.false_and];simp
 have e:∀ x:Nat,∀ v:Int,(v / 256) % 256=((x / 256:Nat):Int) % 256→v % 256=(x:Int) % 256→beN 2 x=be 2 v:=fun x v h1 h2=>by
  show [byteN x 2 0,byteN x 2 1]=[Wk.u8 (v.fdiv 256),Wk.u8 (v.fdiv 1)]
  rw[byteN,byteN]
  show [Wk.u8 ((x / 256:Nat):Int),Wk.u8 ((x / 1:Nat):Int)]=_
  rw[Nat.div_one,Int.fdiv_one,Int.fdiv_eq_ediv_of_nonneg _ (by decide)]
  unfold Wk.u8
  rw[h1,h2]
 rw[h1,h2]
 exact e _ _ (by omega) (by omega)
theorem wu64_nat (n:Int):∃ x:Nat,IntKind.u64.wrap n=(x:Int)∧x < 18446744073709551616∧beN 2 x=be 2 (IntKind.u16.wrap n):=by
 have h1:IntKind.u64.wrap n=n % 18446744073709551616:=by
  unfold IntKind.wrap;simp only[IntKind.bits,IntKind.signed,Bool.false_and];simp
 exact ⟨(IntKind.u64.wrap n).toNat,by omega,by omega,u16_beN n⟩
theorem rbytes_c (N:Nat):∀ (t:LTerm) (w0:World),SizeOf.sizeOf t≤N→(bytesF t.t).length≤100000000→Stable (fun _=>False) w0 (LtF t)→
  Ret Tryz.prog 136 [vL t] w0 (fun _=>False) fun v w'=>
  ∃ (p':Option Addr) (c':Nat),v=.slice p' (bytesF t.t).length c'∧w'.ownsRow 0 5 1 (.slice p' (bytesF t.t).length c') (bytesF t.t).length (encL (bytesF t.t))∧∀ ad,p'=some ad→w0.heap.size≤ad.block:=by
 induction N with
 | zero=>intro t _ h;cases t;simp at h
 | succ N ih=>
 intro t w0 hN hbd hf
 have hlen:=LTerm.len_le hf
 obtain ⟨-,-,f1,f2,f3⟩:=fields_r t.kind
 have e0:bytesF t.t=headF t.kind t.user t.num t.text++bytesLF (t.kids.map LTerm.t):=by rw[t.t_eq,bytesF]
 have e1:headF t.kind t.user t.num t.text=[Wk.u8 t.kind]++(if t.kind=1 then Wk.u8 t.text.length::t.text else [])++(if rUser t.kind then [Wk.u8 t.user] else [])++(if rNum t.kind then be 2 (IntKind.u16.wrap t.num) else []):=by
  rw[headF,put1,put2,put4,f1,f2,f3];simp
 rw[e1]at e0
 have hL:=congrArg List.length e0
 simp only[List.length_append,List.length_singleton]at hL
 refine enter Tryz.func136 rfl rfl (Wd.begin (fs:=[LtF t]) (by simpa using hf)) (fun a S=>?_)
 simp only[Tryz.ntmps136,qqA,qqB,Nat.reduceAdd,Nat.reduceSub,qqC,qqD,qqE,qqF]at S
 refine kS (kR ?_);refine sa S ?_;clear S;intro b1 a w S;refine sq S ?_;clear S;intro a S;refine kN (xtn (kS (kR ?_)));(iterate 3 (refine sq S ?_;clear S;intro a S));refine sn S ?_;clear S;intro b8 a w S
 replace S:=S.boxRow b8 1 1 rfl (by decide)
 rw[show [Value.int .u8 (IntKind.u8.wrap t.kind)]=encL [Wk.u8 t.kind] from by rw[u8_wrap];rfl]at S
 refine sq S ?_;clear S;intro a S;refine kN (xtn ?_)
 refine c_mrge3 S (fun(s1:List UInt8) (p1:Option Addr) (c1:Nat) uu=>[(3,.slice p1 s1.length c1),(5,uu 9),(0,uu 10),(0,uu 11),(0,uu 12),(0,uu 13),(0,uu 14),(0,uu 15),(0,uu 16),(0,uu 17),(0,uu 18),(0,uu 19),(0,uu 20),(0,uu 21),(0,uu 22)]) (fun(s1:List UInt8) (p1:Option Addr) (c1:Nat)=>[Wk.row 5 1 p1 s1.length c1 (encL s1),Wk.box b1 43 t.cells]) (fun(s1:List UInt8) (p1:Option Addr) (c1:Nat)=>[LtF t]) (fun(s1:List UInt8) (p1:Option Addr) (c1:Nat)=>s1=[Wk.u8 t.kind]++(if t.kind=1 then Wk.u8 t.text.length::t.text else [])) ?_ ?_
 ·refine kS (kR ?_);(iterate 3 (refine sq S ?_;clear S;intro a S));refine kN (xtn ?_)
  refine kC S (fun h2=>?_) (fun h2=>?_)
  ·have hk1:t.kind=1:=of_decide_eq_true h2
   have htl:t.text.length≤100000000:=by rw[if_pos hk1]at hL;simp at hL;omega
   refine c_drwe2 (.q 0 (.q 1 (.q 2 (.q 3 (.q 4 (.q 7 (.q 8 (.b2 5 9 (.b2 6 9 (.l 9 (.l 10 (.q 11 (.e)))) (.l 6 (.l 10 (.q 11 (.e))))) (.l 5 (.l 6 (.l 10 (.q 11 (.e))))))))))))) S (fun(p6:Option Addr) (c6:Nat) uu=>[(3,.slice p6 (Wk.u8 t.kind::Wk.u8 t.text.length::t.text).length c6),(8,uu 12),(0,uu 13),(0,uu 14),(0,uu 15),(0,uu 16),(0,uu 17),(0,uu 18),(0,uu 19),(0,uu 20),(0,uu 21),(0,uu 22)]) [Wk.box b1 43 t.cells] (fun(p6:Option Addr) (c6:Nat)=>[Wk.row 5 1 p6 (Wk.u8 t.kind::Wk.u8 t.text.length::t.text).length c6 (encL (Wk.u8 t.kind::Wk.u8 t.text.length::t.text)),Wk.box b1 43 t.cells]) (fun(p6:Option Addr) (c6:Nat)=>[LtF t]) (fun(p6:Option Addr) (c6:Nat)=>True) ?_ ?_
   ·intro w S
    (iterate 7 (refine tq S ?_;clear S;intro a S))
    refine tb2 ?_ ?_
    ·refine sn S ?_;clear S;intro b17 a w S;refine te S ?_
     refine tb2 ?_ ?_
     ·refine sap S (by simp[maxLen]) (by decide) ?_;clear S;rintro p3 c3 a w - S
      rw[show encL [Wk.u8 t.kind]++[Value.int .u8 (IntKind.u8.wrap (t.text.length:Int))]=encL [Wk.u8 t.kind,Wk.u8 t.text.length] from by rw[u8_wrap];rfl]at S
      refine te S ?_;refine tl ?_;refine scvb S ?_;clear S;intro b4 c4 a w S;refine te S ?_;refine tl ?_
      refine srn S (both_c [Wk.u8 t.kind,Wk.u8 t.text.length] t.text p3 (some ⟨b4,0,none⟩) 2 t.text.length c3 c4 _ rfl rfl (by omega) (gl_own (S.row p3 2) (fun _ _ _ _=>trivial) (fun _ _ h=>h)) (S.gl0 _)) ?_;clear S;rintro _ a w ⟨p5,c5,rfl,hown,hnew⟩ hS -
      have S:=hS hown hnew
      clear hS
      rw[show [Wk.u8 t.kind,Wk.u8 t.text.length]++t.text=Wk.u8 t.kind::Wk.u8 t.text.length::t.text from rfl]at S
      refine te S ?_;refine tq S ?_;clear S;intro a S;refine tn ?_
      exact ⟨p5,c5,S.uu,trivial,S.sub _ _⟩
     ·refine scvb S ?_;clear S;intro b4 c4 a w S;refine te S ?_;refine tl ?_
      refine sap S (by simp[maxLen]) (by decide) ?_;clear S;rintro p3 c3 a w - S
      rw[show encL [Wk.u8 t.kind]++[Value.int .u8 (IntKind.u8.wrap (t.text.length:Int))]=encL [Wk.u8 t.kind,Wk.u8 t.text.length] from by rw[u8_wrap];rfl]at S
      refine te S ?_;refine tl ?_
      refine srn S (both_c [Wk.u8 t.kind,Wk.u8 t.text.length] t.text p3 (some ⟨b4,0,none⟩) 2 t.text.length c3 c4 _ rfl rfl (by omega) (gl_own (S.row p3 2) (fun _ _ _ _=>trivial) (fun _ _ h=>h)) (S.gl0 _)) ?_;clear S;rintro _ a w ⟨p5,c5,rfl,hown,hnew⟩ hS -
      have S:=hS hown hnew
      clear hS
      rw[show [Wk.u8 t.kind,Wk.u8 t.text.length]++t.text=Wk.u8 t.kind::Wk.u8 t.text.length::t.text from rfl]at S
      refine te S ?_;refine tq S ?_;clear S;intro a S;refine tn ?_
      exact ⟨p5,c5,S.uu,trivial,S.sub _ _⟩
    ·refine scvb S ?_;clear S;intro b4 c4 a w S;refine te S ?_;refine tl (sn S ?_);clear S;intro b17 a w S;refine te S ?_;refine tl ?_
     refine sap S (by simp[maxLen]) (by decide) ?_;clear S;rintro p3 c3 a w - S
     rw[show encL [Wk.u8 t.kind]++[Value.int .u8 (IntKind.u8.wrap (t.text.length:Int))]=encL [Wk.u8 t.kind,Wk.u8 t.text.length] from by rw[u8_wrap];rfl]at S
     refine te S ?_;refine tl ?_
     refine srn S (both_c [Wk.u8 t.kind,Wk.u8 t.text.length] t.text p3 (some ⟨b4,0,none⟩) 2 t.text.length c3 c4 _ rfl rfl (by omega) (gl_own (S.row p3 2) (fun _ _ _ _=>trivial) (fun _ _ h=>h)) (S.gl0 _)) ?_;clear S;rintro _ a w ⟨p5,c5,rfl,hown,hnew⟩ hS -
     have S:=hS hown hnew
     clear hS
     rw[show [Wk.u8 t.kind,Wk.u8 t.text.length]++t.text=Wk.u8 t.kind::Wk.u8 t.text.length::t.text from rfl]at S
     refine te S ?_;refine tq S ?_;clear S;intro a S;refine tn ?_
     exact ⟨p5,c5,S.uu,trivial,S.sub _ _⟩
   clear S;rintro p6 c6 uu a w - S;refine xtn ?_
   exact ⟨_,p6,c6,S.uu,by rw[if_pos hk1];rfl,S.sub _ _⟩
  ·refine kK (xtn ?_)
   have hk1:¬t.kind=1:=of_decide_eq_false h2
   exact ⟨[Wk.u8 t.kind],_,_,S.uu,by rw[if_neg hk1];rfl,S.sub _ _⟩
 ·clear S;rintro s1 p1 c1 uu a w hs1 S
  have hs1b:s1.length≤100000010:=by
   by_cases h:t.kind=1
   ·rw[if_pos h]at hs1 hL;simp at hL;rw[hs1];simp;omega
   ·rw[if_neg h]at hs1;rw[hs1];simp
  refine c_mrge3 S (fun(s2:List UInt8) (p1':Option Addr) (c1':Nat) uu=>[(3,.slice p1' s2.length c1'),(19,uu 23),(0,uu 24),(0,uu 25),(0,uu 26),(0,uu 27),(0,uu 28),(0,uu 29),(0,uu 30),(0,uu 31)]) (fun(s2:List UInt8) (p1':Option Addr) (c1':Nat)=>[Wk.row 5 1 p1' s2.length c1' (encL s2),Wk.box b1 43 t.cells]) (fun(s2:List UInt8) (p1':Option Addr) (c1':Nat)=>[LtF t]) (fun(s2:List UInt8) (p1':Option Addr) (c1':Nat)=>s2=s1++(if rUser t.kind then [Wk.u8 t.user] else [])) ?_ ?_
  ·refine kS (kR ?_);(iterate 2 (refine sq S ?_;clear S;intro a S));refine sc S ?_;clear S;intro a w S;refine kN (xtn ?_)
   refine kC S (fun h4=>?_) (fun h4=>?_)
   ·refine kR ?_;(iterate 4 (refine sq S ?_;clear S;intro a S));refine sn S ?_;clear S;intro b30 a w S
    refine sap S (by simp[maxLen];omega) (by omega) ?_;clear S;rintro p5 c5 a w - S
    rw[show encL s1++[Value.int .u8 (IntKind.u8.wrap t.user)]=encL (s1++[Wk.u8 t.user]) from by rw[encL_append,u8_wrap];rfl,show s1.length+1=(s1++[Wk.u8 t.user]).length from by simp]at S
    refine sq S ?_;clear S;intro a S;refine kN (xtn ?_)
    exact ⟨_,p5,c5,S.uu,by rw[if_pos h4],S.sub _ _⟩
   ·refine kK (xtn ?_)
    exact ⟨_,_,_,S.uu,by rw[if_neg (by rw[h4];simp),List.append_nil],S.sub _ _⟩
  ·clear S;rintro s2 p1' c1' uu a w hs2 S
   have hs2b:s2.length≤100000020:=by rw[hs2,List.length_append];split <;> simp <;> omega
   refine c_mrge3 S (fun(s3:List UInt8) (p2':Option Addr) (c2':Nat) uu=>[(3,.slice p2' s3.length c2'),(28,uu 32),(0,uu 33),(0,uu 34),(0,uu 35),(0,uu 36),(0,uu 37),(0,uu 38),(0,uu 39),(0,uu 40)]) (fun(s3:List UInt8) (p2':Option Addr) (c2':Nat)=>[Wk.row 5 1 p2' s3.length c2' (encL s3),Wk.box b1 43 t.cells]) (fun(s3:List UInt8) (p2':Option Addr) (c2':Nat)=>[LtF t]) (fun(s3:List UInt8) (p2':Option Addr) (c2':Nat)=>s3=s2++(if rNum t.kind then be 2 (IntKind.u16.wrap t.num) else [])) ?_ ?_
   ·refine kS (kR ?_);(iterate 2 (refine sq S ?_;clear S;intro a S));refine sc S ?_;clear S;intro a w S;refine kN (xtn ?_)
    refine kC S (fun h6=>?_) (fun h6=>?_)
    ·refine kR ?_;(iterate 3 (refine sq S ?_;clear S;intro a S))
     obtain ⟨x7,hx7,hx7l,hx7b⟩:=wu64_nat t.num
     refine sq S ?_;clear S;intro a S
     rw[hx7]at S
     refine srn S (rhigh_c x7 2 _ hx7l (by decide)) ?_;clear S;rintro _ a w ⟨p7,c7,rfl,hown,hnew⟩ hS -
     have S:=hS hown hnew
     clear hS
     rw[hx7b,be_len]at S
     refine srn S (both_c s2 (be 2 (IntKind.u16.wrap t.num)) p1' p7 s2.length 2 c1' c7 _ rfl (be_len _ _) (by omega) (gl_own (S.row p1' s2.length) (fun _ _ _ _=>trivial) (fun _ _ h=>h)) (gl_own (S.row p7 2) (fun _ _ _ _=>trivial) (fun _ _ h=>h))) ?_;clear S;rintro _ a w ⟨p8,c8,rfl,hown,hnew⟩ hS -
     have S:=hS hown hnew
     clear hS
     refine sq S ?_;clear S;intro a S;refine kN (xtn ?_)
     exact ⟨_,p8,c8,S.uu,by rw[if_pos h6],S.sub [Wk.row 5 1 p8 _ c8 _,Wk.box b1 43 t.cells] _⟩
    ·refine kK (xtn ?_)
     exact ⟨_,_,_,S.uu,by rw[if_neg (by rw[h6];simp),List.append_nil],S.sub _ _⟩
   ·clear S;rintro s3 p2' c2' uu a w hs3 S;refine kS (kS (kR ?_))
    have hs3e:bytesF t.t=s3++bytesLF (t.kids.map LTerm.t):=by rw[e0,hs3,hs2,hs1]
    have hs3b:s3.length≤100000000:=by rw[hs3e,List.length_append]at hbd;omega
    refine sq S ?_;clear S;intro a S;refine kN (xtn (kB ?_))
    refine c_fore4 S (fun(k:Nat) (b:List UInt8) (p':Option Addr) (c':Nat) uu=>[(3,.slice p' b.length c'),(0,.int .i64 (k:Nat)),(36,uu 41),(0,uu 42),(0,uu 43),(0,uu 44),(0,uu 45),(0,uu 46),(0,uu 47),(0,uu 48),(0,uu 49),(0,uu 50),(0,uu 51),(0,uu 52),(0,uu 53),(0,uu 54),(0,uu 55)]) (fun(k:Nat) (b:List UInt8) (p':Option Addr) (c':Nat)=>[Wk.row 5 1 p' b.length c' (encL b),Wk.box b1 43 t.cells]) (fun(k:Nat) (b:List UInt8) (p':Option Addr) (c':Nat)=>[LtF t]) (fun(k:Nat) (b:List UInt8) (p':Option Addr) (c':Nat)=>k≤t.kids.length∧b++bytesLF ((t.kids.drop k).map LTerm.t)=bytesF t.t) (fun(k:Nat) (b:List UInt8) (p':Option Addr) (c':Nat)=>t.kids.length - k) (0) (s3) (p2') (c2') ?_ S.uu ?_ ?_
    ·exact ⟨Nat.zero_le _,hs3e.symm⟩
    ·first | exact S | exact S.sub _ _
    ·clear S;rintro k b p' c' uu a w ⟨hk,hrel⟩ S
     refine kS (kS (kR ?_));(iterate 5 (refine sq S ?_;clear S;intro a S));refine kN (xtn ?_)
     refine kC S (fun h9=>?_) (fun h9=>?_)
     ·refine kK (xtn (kS (kB ?_)))
      have hkl:k < t.kids.length:=by simpa using h9
      have hK:KLt k t.kids.length:=⟨hkl⟩
      rw[nth_drop hkl,List.map_cons,bytesLF]at hrel
      have hbl:=congrArg List.length hrel
      simp only[List.length_append]at hbl
      refine kR ?_;(iterate 6 (refine sq S ?_;clear S;intro a S))
      refine srn S (ih (nthL t.kids k) w (by have:=LTerm.kid_lt (nth_mem hkl);omega) (by omega) (S.t0 _)) ?_;clear S;rintro _ a w ⟨p9,c9,rfl,hown,hnew⟩ hS -
      have S:=hS hown hnew
      clear hS
      refine srn S (both_c b (bytesF (nthL t.kids k).t) p' p9 b.length _ c' c9 _ rfl rfl (by omega) (gl_own (S.row p' b.length) (fun _ _ _ _=>trivial) (fun _ _ h=>h)) (gl_own (S.row p9 (bytesF (nthL t.kids k).t).length) (fun _ _ _ _=>trivial) (fun _ _ h=>h))) ?_;clear S;rintro _ a w ⟨p10,c10,rfl,hown,hnew⟩ hS -
      have S:=hS hown hnew
      clear hS
      refine sq S ?_;clear S;intro a S;refine kN (xbn (xtn (kR ?_)));(iterate 2 (refine sq S ?_;clear S;intro a S))
      rw[w64 ((k:Int)+1) (by omega) (by omega),show (k:Int)+1=((k+1:Nat):Int) from rfl]at S
      refine sq S ?_;clear S;intro a S;refine kN (xtn ?_)
      exact ⟨k+1,_,p10,c10,S.uu,⟨hkl,by rw[List.append_assoc];exact hrel⟩,S.sub [Wk.row 5 1 p10 _ c10 _,Wk.box b1 43 t.cells] _,by omega⟩
     ·refine kE (xte (xte (xbe (xtn (kS (kR ?_))))));(iterate 2 (refine sq S ?_;clear S;intro a S));refine kN (xtn (kT ?_))
      have hk2:t.kids.length≤k:=by simpa using h9
      rw[List.drop_of_length_le hk2,List.map_nil,bytesLF,List.append_nil]at hrel
      subst hrel
      have hrow:=S.row p' (bytesF t.t).length
      have hnew:=S.rowNew p' (bytesF t.t).length
      exact end1 S (fun _=>⟨p',c',rfl,hrow,fun ad h=>(hnew ad h).elim (fun h=>h.elim) id⟩)
end Go.Proofs.YtdakncgafdnjfaaGreat