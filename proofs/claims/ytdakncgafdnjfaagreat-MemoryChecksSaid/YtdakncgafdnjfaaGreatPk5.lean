/- 5: a part of this claim's texts, joined: DiskF DiskG Reader ReaderB ReaderC PlainDec RefOct Sha ShaB ShaC VaultA VaultB VaultC VaultD VaultE VaultF W9 WalA WalB. -/
import Derived.Test.YtdakncgafdnjfaaGreatPk4
import Derived.ChangeKeysEq
import Derived.Laws.StructEq
namespace Go.Proofs.YtdakncgafdnjfaaGreat
open Go Go.Wk
set_option synthInstance.maxSize 100000
set_option synthInstance.maxHeartbeats 400000
set_option maxRecDepth 100000
theorem nil_foot (y:Wk.Item):(both nilI y).foot=y.foot:=by funext k;simp[both,nilI]
theorem nil_holds (y:Wk.Item) (w:World):(both nilI y).holds w↔y.holds w:=by simp[both,nilI]
def askedD (g:DS→DS) (s:DS) (k:Int):DS:=if askE s k true=0 then opD (g (askD s k true)) else askD s k true
theorem askedW1 (F:Nat) [EntF Tryz.prog F] (ca:List Value) (g:DS→DS) (b m:Nat) (p:Option Addr) (c:Nat) (s:DS) (k:Int) (fs:List (World→Prop)) (w0:World) (hd:(dkI b m p c s).holds w0) (hf:∀ Φ∈fs,Stable (dkI b m p c s).foot w0 Φ)
  (hdo:∀ (s1:DS) (w:World),s1.loose=s.loose→s1.firm=s.firm→(dkI b m p c s1).holds w→(∀ Φ∈fs,Stable (dkI b m p c s1).foot w Φ)→Ret Tryz.prog F ca w (dkI b m p c s1).foot fun _ w'=>∃ p' c',(dkI b m p' c' (g s1)).holds w'∧∀ i,(dkI b m p' c' (g s1)).foot i→(dkI b m p c s1).foot i∨w.heap.size≤i) :
  Ret Tryz.prog 222 [.pointer (some ⟨b,0,none⟩),.int .i64 k,.bool true,.func (.func F) #[] ⟨ca⟩] w0 (dkI b m p c s).foot fun v w'=>v=.int .i64 (askE s k true)∧∃ p' c',(dkI b m p' c' (askedD g s k)).holds w'∧∀ i,(dkI b m p' c' (askedD g s k)).foot i→(dkI b m p c s).foot i∨w0.heap.size≤i:=by
 have h:=askedW_c F ca nilI nilI rfl rfl g b m p c s k fs w0 ((nil_holds _ _).2 hd) (by rw[nil_foot];exact hf) (fun s1 w h1 h2 h3 h4=>by
  rw[nil_foot]at h4⊢
  refine (hdo s1 w h1 h2 ((nil_holds _ _).1 h3) h4).mono fun _ w' ⟨p',c',h5,h6⟩=>⟨p',c',(nil_holds _ _).2 h5,?_⟩
  rw[nil_foot];exact h6)
 rw[nil_foot]at h
 refine h.mono fun v w' ⟨h1,h2⟩=>⟨h1,?_⟩
 rcases h2 with ⟨h3,h4,h5⟩ | ⟨h3,p',c',h4,h5⟩
 rw[nil_foot]at h5
 rw[askedD,if_neg h3]
 exact ⟨p,c,(nil_holds _ _).1 h4,h5⟩
 rw[nil_foot]at h5
 rw[askedD,if_pos h3]
 exact ⟨p',c',(nil_holds _ _).1 h4,h5⟩
def wrD (s:DS) (k:Int) (x:Blk):DS:=askedD (fun s=>writeD s k x) s k
theorem dwrite_c (b m:Nat) (p:Option Addr) (c:Nat) (s:DS) (k:Int) (x:Blk) (w0:World) (hl:s.loose.length≤1000000) (hd:(dkI b m p c s).holds w0) :
  Ret Tryz.prog 171 [.pointer (some ⟨b,0,none⟩),.int .i64 k,vBlk x] w0 (dkI b m p c s).foot fun v w'=>v=.int .i64 (askE s k true)∧∃ p' c',(dkI b m p' c' (wrD s k x)).holds w'∧∀ i,(dkI b m p' c' (wrD s k x)).foot i→(dkI b m p c s).foot i∨w0.heap.size≤i:=by
 refine enter Tryz.func171 rfl rfl (Wd.itLent (x:=dkI b m p c s) (fs:=[]) hd (by simp)) (fun a S=>?_)
 simp only[Tryz.ntmps171,qqA,qqB,Nat.reduceAdd,Nat.reduceSub,qqC,qqD,qqE,qqF]at S
 refine kS (kR ?_);refine sa S ?_;clear S;intro b3 a w S;refine sa S ?_;clear S;intro b4 a w S;refine sa S ?_;clear S;intro b5 a w S;refine sq S ?_;clear S;intro a S;refine kN (xtn (kS (kR ?_)));(iterate 3 (refine sq S ?_;clear S;intro a S))
 replace S:=S.boxToF b5
 replace S:=S.boxToF b4
 replace S:=S.boxToF b3
 refine sit (dkI b m p c s) S (askedW1 237 [.pointer (some ⟨b3,0,none⟩),.pointer (some ⟨b4,0,none⟩),.pointer (some ⟨b5,0,none⟩)] (fun s=>writeD s k x) b m p c s k [BoxF b3 34 [.pointer (some ⟨b,0,none⟩)],BoxF b4 3 [.int .i64 k],BoxF b5 129 (encL x.l)] _ (S.it (dkI b m p c s)) (fun Φ hΦ=>S.lend (dkI b m p c s) (S.wd.facts Φ hΦ)) (fun s1 w h1 h2 h3 h4=>write1_c b3 b4 b5 b m p c s1 k x w (by rw[h1];exact hl) h3 (h4 _ (by simp)) (h4 _ (by simp)) (h4 _ (by simp)))) rfl ?_;clear S;rintro _ a w ⟨rfl,p',c',hh,hn⟩ hS
 have S:=hS (dkI b m p' c' (wrD s k x)) hh hn
 clear hS
 refine sq S ?_;clear S;intro a S;refine kN (xtn (kT ?_))
 have h1:=S.itNew (dkI b m p' c' (wrD s k x)) rfl
 refine end1 S (fun _=>⟨rfl,p',c',hh,h1⟩)
def syD (s:DS):DS:=askedD (settleD fun _=>true) s 0
theorem dsync_c (b m:Nat) (p:Option Addr) (c:Nat) (s:DS) (w0:World) (hl:s.loose.length≤1000000) (hd:(dkI b m p c s).holds w0) :
  Ret Tryz.prog 172 [.pointer (some ⟨b,0,none⟩)] w0 (dkI b m p c s).foot fun v w'=>v=.int .i64 (askE s 0 true)∧∃ p' c',(dkI b m p' c' (syD s)).holds w'∧∀ i,(dkI b m p' c' (syD s)).foot i→(dkI b m p c s).foot i∨w0.heap.size≤i:=by
 refine enter Tryz.func172 rfl rfl (Wd.itLent (x:=dkI b m p c s) (fs:=[]) hd (by simp)) (fun a S=>?_)
 simp only[Tryz.ntmps172,qqA,qqB,Nat.reduceAdd,Nat.reduceSub,qqC,qqD,qqE,qqF]at S
 refine kS (kR ?_);refine sa S ?_;clear S;intro b1 a w S;refine sq S ?_;clear S;intro a S;refine kN (xtn (kS (kR ?_)));(iterate 2 (refine sq S ?_;clear S;intro a S))
 replace S:=S.boxToF b1
 refine sit (dkI b m p c s) S (askedW1 238 [.pointer (some ⟨b1,0,none⟩)] (settleD fun _=>true) b m p c s 0 [BoxF b1 34 [.pointer (some ⟨b,0,none⟩)]] _ (S.it (dkI b m p c s)) (fun Φ hΦ=>S.lend (dkI b m p c s) (S.wd.facts Φ hΦ)) (fun s1 w h1 h2 h3 h4=>sync1_c b1 b m p c s1 w (by rw[h1];exact hl) h3 (h4 _ (by simp)))) rfl ?_;clear S;rintro _ a w ⟨rfl,p',c',hh,hn⟩ hS
 have S:=hS (dkI b m p' c' (syD s)) hh hn
 clear hS
 refine sq S ?_;clear S;intro a S;refine kN (xtn (kT ?_))
 have h1:=S.itNew (dkI b m p' c' (syD s)) rfl
 refine end1 S (fun _=>⟨rfl,p',c',hh,h1⟩)
def rdB (s:DS) (k:Int):Blk:=if askE s k false=0 then holdsF s k else zB
def rdD (s:DS) (k:Int):DS:=if askE s k false=0 then opD (askD s k false) else askD s k false
theorem read1_c (g0 g1 r b m:Nat) (p:Option Addr) (c:Nat) (s:DS) (k:Int) (w0:World) (hl:s.loose.length≤1000000) (hd:(both (Wk.box r 129 (encL zB.l)) (dkI b m p c s)).holds w0)
  (f0:Stable (both (Wk.box r 129 (encL zB.l)) (dkI b m p c s)).foot w0 (BoxF g0 34 [.pointer (some ⟨b,0,none⟩)])) (f1:Stable (both (Wk.box r 129 (encL zB.l)) (dkI b m p c s)).foot w0 (BoxF g1 3 [.int .i64 k])) :
  Ret Tryz.prog 223 [.pointer (some ⟨g0,0,none⟩),.pointer (some ⟨g1,0,none⟩),.pointer (some ⟨r,0,none⟩)] w0 (both (Wk.box r 129 (encL zB.l)) (dkI b m p c s)).foot fun _ w'=>(both (Wk.box r 129 (encL (holdsF s k).l)) (dkI b m p c s)).holds w':=by
 refine enter Tryz.func223 rfl rfl (Wd.it2Lent (x:=Wk.box r 129 (encL zB.l)) (y:=dkI b m p c s) (fs:=[BoxF g0 34 [.pointer (some ⟨b,0,none⟩)],BoxF g1 3 [.int .i64 k]]) hd rfl rfl (by simp only[List.mem_cons,List.not_mem_nil,or_false];rintro Φ (rfl | rfl) <;> assumption)) (fun a S=>?_)
 simp only[Tryz.ntmps223,qqA,qqB,Nat.reduceAdd,Nat.reduceSub,qqC,qqD,qqE,qqF]at S
 refine c_drawE [(0,true),(1,true),(2,true),(3,true),(4,false),(5,false)] [dkI b m p c s] S ?_;clear S;intro w S;(iterate 4 (refine dq S ?_;clear S;intro a S));refine dl ?_
 have hdk:(dkI b m p c s).holds _:=S.it (dkI b m p c s)
 refine sr S (holds_c b m p c s k hl _ (BoxF.stable hdk.1 (fun h=>h)) (MpnF.stable hdk.2.1.1 (fun h=>h)) (gl_own (M:=fun _=>False) hdk.2.1.2.1 (fun _ _ _ _=>trivial) (fun _ _ h=>h))) ?_;clear S hdk;rintro _ a w rfl S
 refine de S ?_;refine dl (sw S ?_);clear S;intro a w S;refine de S ?_;refine dn ?_
 replace S:=S.sub [Wk.box r 129 (encL (holdsF s k).l),dkI b m p c s] []
 have hh:=(S.toBoth).it (both (Wk.box r 129 (encL (holdsF s k).l)) (dkI b m p c s))
 refine end0 S (fun _=>hh)
theorem dread_c (b m:Nat) (p:Option Addr) (c:Nat) (s:DS) (k:Int) (w0:World) (hl:s.loose.length≤1000000) (hd:(dkI b m p c s).holds w0) :
  Ret Tryz.prog 147 [.pointer (some ⟨b,0,none⟩),.int .i64 k] w0 (dkI b m p c s).foot fun v w'=>v=.tuple ⟨[vBlk (rdB s k),.int .i64 (askE s k false)]⟩∧∃ p' c',(dkI b m p' c' (rdD s k)).holds w'∧∀ i,(dkI b m p' c' (rdD s k)).foot i→(dkI b m p c s).foot i∨w0.heap.size≤i:=by
 refine enter Tryz.func147 rfl rfl (Wd.itLent (x:=dkI b m p c s) (fs:=[]) hd (by simp)) (fun a S=>?_)
 simp only[Tryz.ntmps147,qqA,qqB,Nat.reduceAdd,Nat.reduceSub,qqC,qqD,qqE,qqF]at S
 refine kS (kR ?_);refine sa S ?_;clear S;intro b2 a w S;refine sa S ?_;clear S;intro b3 a w S;refine sa S ?_;clear S;intro b4 a w S;refine sq S ?_;clear S;intro a S;refine kN (xtn (kS (kR ?_)));(iterate 3 (refine sq S ?_;clear S;intro a S))
 rw[show (encL (List.replicate 64 (0:UInt8)):List Value)=encL zB.l from rfl]at S
 replace S:=S.boxToF b3
 replace S:=S.boxToF b2
 replace S:=S.toBoth
 refine sit (both (Wk.box b4 129 (encL zB.l)) (dkI b m p c s)) S (askedR_c 223 [.pointer (some ⟨b2,0,none⟩),.pointer (some ⟨b3,0,none⟩),.pointer (some ⟨b4,0,none⟩)] (Wk.box b4 129 (encL zB.l)) (Wk.box b4 129 (encL (holdsF s k).l)) rfl rfl id b m p c s k [BoxF b2 34 [.pointer (some ⟨b,0,none⟩)],BoxF b3 3 [.int .i64 k]] _ (S.it (both (Wk.box b4 129 (encL zB.l)) (dkI b m p c s))) (fun Φ hΦ=>S.lend (both (Wk.box b4 129 (encL zB.l)) (dkI b m p c s)) (S.wd.facts Φ hΦ)) (fun s1 w h1 h2 h3 h4=>(read1_c b2 b3 b4 b m p c s1 k w (by rw[h1];exact hl) h3 (h4 _ (by simp)) (h4 _ (by simp))).mono fun _ w' h=>⟨p,c,by rw[show holdsF s k=holdsF s1 k from by rw[holdsF,holdsF,h1,h2]];exact h,fun i hi=>.inl hi⟩)) rfl ?_;clear S;rintro _ a w ⟨rfl,hcase⟩ hS
 obtain ⟨p',c',hh,hn⟩:∃ p' c',(both (Wk.box b4 129 (encL (rdB s k).l)) (dkI b m p' c' (rdD s k))).holds w∧∀ i,(both (Wk.box b4 129 (encL (rdB s k).l)) (dkI b m p' c' (rdD s k))).foot i→(both (Wk.box b4 129 (encL zB.l)) (dkI b m p c s)).foot i∨_≤i:=by
  rcases hcase with ⟨h3,h4,h5⟩ | ⟨h3,p',c',h4,h5⟩
  rw[rdB,rdD,if_neg h3,if_neg h3];exact ⟨p,c,h4,h5⟩
  rw[rdB,rdD,if_pos h3,if_pos h3];exact ⟨p',c',h4,h5⟩
 have S:=hS (both (Wk.box b4 129 (encL (rdB s k).l)) (dkI b m p' c' (rdD s k))) hh hn
 clear hS hcase hh hn
 replace S:=S.ofBoth
 refine sq S ?_;clear S;intro a S;refine kN (xtn (kS (kR ?_)));(iterate 2 (refine sq S ?_;clear S;intro a S));refine sw S ?_;clear S;intro a w S;refine sq S ?_;clear S;intro a S;refine kN (xtn (kT ?_))
 have h0:=S.it (dkI b m p' c' (rdD s k))
 have h1:=S.itNew (dkI b m p' c' (rdD s k)) rfl
 refine end2 S (fun _=>⟨rfl,p',c',h0,h1⟩)
theorem take_snocW {α:Type} [Lay α] {xs:List α} {k:Nat} (h:k < xs.length):xs.take (k+1)=xs.take k++[nthG xs k]:=by
 rw[List.take_add_one,nthG_get h];rfl
def keepF (l:List Bool) (i:Nat):Bool:=decide ((i:Int) < (l.length:Int))&&nthG l i
def crashD (l:List Bool) (s:DS):DS:={ settleD (keepF l) s with out:=false,arms:=⟨false,0⟩,fails:=⟨false,0⟩ }
theorem dpending_c (b m:Nat) (p:Option Addr) (c:Nat) (s:DS) (w0:World) (hl:s.loose.length≤1000000) (f1:Stable (fun _=>False) w0 (BoxF b 170 (cDisk m p s.loose.length c s))) (f2:Stable (fun _=>False) w0 (GlF p s.loose)) :
  Ret Tryz.prog 157 [.pointer (some ⟨b,0,none⟩)] w0 (fun _=>False) fun v w'=>∃ q e,v=.slice q s.loose.length e∧w'.ownsRow 0 3 1 (.slice q s.loose.length e) s.loose.length (encL (s.loose.map LWr.at_))∧∀ ad,q=some ad→w0.heap.size≤ad.block:=by
 refine enter Tryz.func157 rfl rfl (Wd.begin (fs:=[BoxF b 170 (cDisk m p s.loose.length c s),GlF p s.loose]) (by simp;exact ⟨f1,f2⟩)) (fun a S=>?_)
 simp only[Tryz.ntmps157,qqA,qqB,Nat.reduceAdd,Nat.reduceSub,qqC,qqD,qqE,qqF]at S
 refine kS (kR (sq S ?_));clear S;intro a S;refine kN (xtn (kS (kS (kR ?_))));(iterate 2 (refine sq S ?_;clear S;intro a S));refine kN (xtn ?_);refine c_condF S ?_;refine kK (xtn (kS (kR (sq S ?_))));clear S;intro a S;refine kN (xtn ?_);refine kS (kS (kR ?_));(iterate 7 (refine sq S ?_;clear S;intro a S));refine kN (xtn (kB ?_))
 replace S:=S.addNil 3 1
 refine c_fore4 S (fun(k:Nat) (os:List Int) (q:Option Addr) (e:Nat) uu=>[(3,.slice q os.length e),(1,uu 5),(8,.int .i64 (k:Nat)),(0,uu 15),(0,uu 16),(0,uu 17),(0,uu 18),(0,uu 19),(0,uu 20),(0,uu 21),(0,uu 22),(0,uu 23)]) (fun(k:Nat) (os:List Int) (q:Option Addr) (e:Nat)=>[Wk.row 3 1 q os.length e (encL os)]) (fun(k:Nat) (os:List Int) (q:Option Addr) (e:Nat)=>[BoxF b 170 (cDisk m p s.loose.length c s),GlF p s.loose]) (fun(k:Nat) (os:List Int) (q:Option Addr) (e:Nat)=>k≤s.loose.length∧os=(s.loose.take k).map LWr.at_) (fun(k:Nat) (os:List Int) (q:Option Addr) (e:Nat)=>s.loose.length - k) (0) ([]) (none) (0) ?_ S.uu ?_ ?_
 exact ⟨Nat.zero_le _,rfl⟩
 exact S.sub [Wk.row 3 1 none 0 0 []] _
 clear S;rintro k os q e uu a w ⟨hk,hos⟩ S
 refine kS (kR (sq S ?_));clear S;intro a S;refine kN (xtn (kS ?_))
 refine kC S (fun h5=>?_) (fun h5=>?_)
 refine kK (xtn (kS (kB (kS ?_))))
 have hkl:k < s.loose.length:=by simp at h5;omega
 have hK:KLt k s.loose.length:=⟨hkl⟩
 have hol:os.length=k:=by rw[hos,List.length_map,List.length_take];omega
 refine kR ?_;(iterate 2 (refine sq S ?_;clear S;intro a S));refine sa S ?_;clear S;intro b5 a w S;refine sw S ?_;clear S;intro a w S;refine kN (xtn (kR ?_));(iterate 3 (refine sq S ?_;clear S;intro a S));refine sn S ?_;clear S;intro b21 a w S
 refine sap S (by simp only[maxLen];omega) (by omega) ?_;clear S;rintro p7 c7 a w - S
 rw[show encL os++[.int .i64 (nthG s.loose k).at_]=encL (os++[(nthG s.loose k).at_]) from by rw[encL_append];rfl,show os.length+1=(os++[(nthG s.loose k).at_]).length from by simp]at S
 refine sq S ?_;clear S;intro a S;refine kN (xbn (xtn (kR ?_)));(iterate 2 (refine sq S ?_;clear S;intro a S));refine kN (xtn ?_)
 rw[w64 ((k:Int)+1) (by omega) (by omega)]at S
 refine ⟨k+1,os++[(nthG s.loose k).at_],p7,c7,S.uu,⟨hkl,?_⟩,S.sub _ _,by omega⟩
 rw[hos,take_snocW hkl,List.map_append];rfl
 refine kE (xte (xte (xbe (xtn (kS (kR ?_))))));(iterate 2 (refine sq S ?_;clear S;intro a S));refine kN (xtn (kT ?_))
 have hk2:k=s.loose.length:=by simp at h5;omega
 have hol:os.length=s.loose.length:=by rw[hos,List.length_map,List.length_take];omega
 have hrow:=S.row q os.length
 have hnew:=S.rowNew q os.length
 rw[hk2,List.take_length]at hos
 refine end1 S (fun _=>?_)
 exact ⟨q,e,by rw[hol],by rw[←hos,←hol];exact hrow,fun ad h=>(hnew ad h).elim (fun h=>h.elim) id⟩
def numB (bs:List UInt8) (x:Int):Int:=bs.foldl (fun x c=>IntKind.u64.wrap (IntKind.u64.wrap (256*x)+(c.toNat:Int))) x
theorem numB_snoc (bs:List UInt8) (c:UInt8) (x:Int):numB (bs++[c]) x=IntKind.u64.wrap (IntKind.u64.wrap (256*numB bs x)+(c.toNat:Int)):=by simp[numB]
theorem take_snocG {α:Type} [Lay α] {xs:List α} {k:Nat} (h:k < xs.length):xs.take (k+1)=xs.take k++[nthG xs k]:=by
 rw[List.take_add_one,nthG_get h];rfl
theorem u8_u64 (c:UInt8):IntKind.u64.wrap (c.toNat:Int)=(c.toNat:Int):=wu64 _ (by omega) (by have:=c.toNat_lt;omega)
theorem weigh1_c (b:Nat) (bs:List UInt8) (p:Option Addr) (n c:Nat) (x0:Int) (w0:World) (hn:bs.length=n) (hl:n≤10000000) (hb:(Wk.box b 239 [.int .u64 x0]).holds w0) (hx:Stable (fun k=>k=b) w0 (GlF p bs)) :
  Ret Tryz.prog 233 [.slice p n c,.pointer (some ⟨b,0,none⟩)] w0 (fun k=>k=b) fun _ w'=>(Wk.box b 239 [.int .u64 (numB bs x0)]).holds w':=by
 subst hn
 refine enter Tryz.func233 rfl rfl (Wd.itLent (x:=Wk.box b 239 [.int .u64 x0]) (fs:=[GlF p bs]) hb (by intro Φ hΦ;obtain rfl:=List.mem_singleton.1 hΦ;exact hx)) (fun a S=>?_)
 simp only[Tryz.ntmps233,qqA,qqB,Nat.reduceAdd,Nat.reduceSub,qqC,qqD,qqE,qqF]at S
 refine kS (kR ?_);(iterate 3 (refine sq S ?_;clear S;intro a S));refine kN (xtn (kB ?_))
 refine c_fore1 S (fun(k:Nat) uu=>[(4,uu 4),(2,.int .i64 (k:Nat)),(0,uu 8),(0,uu 9),(0,uu 10),(0,uu 11),(0,uu 12),(0,uu 13),(0,uu 14),(0,uu 15),(0,uu 16)]) (fun(k:Nat)=>[Wk.box b 239 [.int .u64 (numB (bs.take k) x0)]]) (fun(k:Nat)=>[GlF p bs]) (fun(k:Nat)=>k≤bs.length) (fun(k:Nat)=>bs.length - k) (0) ?_ S.uu ?_ ?_
 exact Nat.zero_le _
 first | exact S | exact S.sub _ _
 clear S;rintro k uu a w hk S;refine kS (kR (sq S ?_));clear S;intro a S;refine kN (xtn (kS ?_))
 refine kC S (fun h1=>?_) (fun h1=>?_)
 refine kK (xtn (kS (kB (kS ?_))))
 have hkl:k < bs.length:=by simp at h1;omega
 have hK:KLt k bs.length:=⟨hkl⟩
 refine kR ?_;(iterate 3 (refine sq S ?_;clear S;intro a S));refine kN (xtn (kR ?_));(iterate 4 (refine sq S ?_;clear S;intro a S))
 rw[u8_u64]at S
 refine sq S ?_;clear S;intro a S;refine sw S ?_;clear S;intro a w S;refine kN (xbn (xtn (kR ?_)));(iterate 2 (refine sq S ?_;clear S;intro a S));refine kN (xtn ?_)
 rw[w64 ((k:Int)+1) (by omega) (by omega)]at S
 rw[←numB_snoc,←take_snocG hkl]at S
 exact ⟨k+1,S.uu,hkl,S.sub _ _,by omega⟩
 refine kE (xte (xte (xbe ?_)))
 have hk2:k=bs.length:=by simp at h1;omega
 subst hk2
 rw[List.take_length]at S
 have hh:=S.box b
 refine end0 S (fun _=>hh)
theorem off_c (b bx:Nat) (bs:List UInt8) (p:Option Addr) (c k:Nat) (x0:Int) (w0:World) (hk:k≤bs.length) (hc:bs.length≤c) (hl:bs.length≤10000000) (hb:(both (Wk.box bx 239 [.int .u64 x0]) (Wk.box b 238 [.slice p bs.length c,.int .i64 0])).holds w0) (hx:Stable (both (Wk.box bx 239 [.int .u64 x0]) (Wk.box b 238 [.slice p bs.length c,.int .i64 0])).foot w0 (GlF p bs)) :
  Ret Tryz.prog 166 [.pointer (some ⟨b,0,none⟩),.int .i64 (k:Int),.func (.func 233) #[] ⟨[.pointer (some ⟨bx,0,none⟩)]⟩] w0 (both (Wk.box bx 239 [.int .u64 x0]) (Wk.box b 238 [.slice p bs.length c,.int .i64 0])).foot fun _ w'=>
   (both (Wk.box bx 239 [.int .u64 (numB (bs.take k) x0)]) (Wk.box b 238 [.slice (if c=k then p else p.map (·.add (k*1))) (bs.length - k) (c - k),.int .i64 0])).holds w':=by
 have hL1:LeC k bs.length:=⟨hk⟩
 have hL2:LeC bs.length c:=⟨hc⟩
 have hL3:LeC k c:=⟨by omega⟩
 refine enter Tryz.func166 rfl rfl (Wd.it2Lent (x:=Wk.box bx 239 [.int .u64 x0]) (y:=Wk.box b 238 [.slice p bs.length c,.int .i64 0]) (fs:=[GlF p bs]) hb rfl rfl (by simpa using hx)) (fun a S=>?_)
 simp only[Tryz.ntmps166,qqA,qqB,Nat.reduceAdd,Nat.reduceSub,qqC,qqD,qqE,qqF]at S
 refine kB (kS (kR ?_));(iterate 5 (refine sq S ?_;clear S;intro a S))
 rw[show (!decide ((0:Int)=0))=false from rfl]at S
 refine sq S ?_;clear S;intro a S;refine kN (xtn ?_);refine c_condF S ?_;refine kS (kR ?_);(iterate 2 (refine sq S ?_;clear S;intro a S))
 rw[show decide ((k:Int) < 0)=false from decide_eq_false (by omega)]at S
 refine sq S ?_;clear S;intro a S;refine kN (xtn ?_);refine c_condF S ?_;refine kS (kR ?_);(iterate 7 (refine sq S ?_;clear S;intro a S))
 rw[show decide ((bs.length:Int) < (k:Int))=false from decide_eq_false (by omega)]at S
 refine sq S ?_;clear S;intro a S;refine kN (xtn ?_);refine c_condF S ?_;refine kS (kR ?_);(iterate 7 (refine sq S ?_;clear S;intro a S));refine kN (xtn (kS (kR ?_)));(iterate 9 (refine sq S ?_;clear S;intro a S));refine sw S ?_;clear S;intro a w S;refine kN (xtn (kR ?_));(iterate 2 (refine sq S ?_;clear S;intro a S))
 refine sit (Wk.box bx 239 [.int .u64 x0]) S (weigh1_c bx (bs.take k) p k c x0 w (by rw[List.length_take];omega) (by omega) (S.box bx) (S.lend (Wk.box bx 239 [.int .u64 x0]) ((S.mem.fact (GlF p bs)).imp fun _ h=>h.take k))) rfl ?_;clear S;rintro _ a w hbx hS
 have S:=hS (Wk.box bx 239 [.int .u64 (numB (bs.take k) x0)]) hbx (fun k h=>.inl h)
 clear hS
 refine kN (xbn ?_)
 replace S:=S.sub [Wk.box bx 239 [.int .u64 (numB (bs.take k) x0)],Wk.box b 238 [.slice (if c=k then p else p.map (·.add (k*1))) (bs.length - k) (c - k),.int .i64 0]] []
 have hh:=(S.toBoth).it (both (Wk.box bx 239 [.int .u64 (numB (bs.take k) x0)]) (Wk.box b 238 [.slice (if c=k then p else p.map (·.add (k*1))) (bs.length - k) (c - k),.int .i64 0]))
 refine end0 S (fun _=>hh)
theorem weigh_c (b:Nat) (bs:List UInt8) (p:Option Addr) (c k:Nat) (w0:World) (hk:k≤bs.length) (hc:bs.length≤c) (hl:bs.length≤10000000) (hb:(Wk.box b 238 [.slice p bs.length c,.int .i64 0]).holds w0) (hx:Stable (fun k=>k=b) w0 (GlF p bs)) :
  Ret Tryz.prog 165 [.pointer (some ⟨b,0,none⟩),.int .i64 (k:Int)] w0 (fun k=>k=b) fun v w'=>v=.int .u64 (numB (bs.take k) 0)∧
   (Wk.box b 238 [.slice (if c=k then p else p.map (·.add (k*1))) (bs.length - k) (c - k),.int .i64 0]).holds w':=by
 refine enter Tryz.func165 rfl rfl (Wd.itLent (x:=Wk.box b 238 [.slice p bs.length c,.int .i64 0]) (fs:=[GlF p bs]) hb (by intro Φ hΦ;obtain rfl:=List.mem_singleton.1 hΦ;exact hx)) (fun a S=>?_)
 simp only[Tryz.ntmps165,qqA,qqB,Nat.reduceAdd,Nat.reduceSub,qqC,qqD,qqE,qqF]at S
 refine kS (kR ?_);refine sa S ?_;clear S;intro b4 a w S;refine kN (xtn (kS (kS (kR ?_))));(iterate 2 (refine sq S ?_;clear S;intro a S));refine kN (xtn ?_);refine c_condF S ?_;refine kK (xtn (kS (kR ?_)));(iterate 5 (refine sq S ?_;clear S;intro a S))
 replace S:=S.toBoth
 refine sit (both (Wk.box b4 239 [.int .u64 0]) (Wk.box b 238 [.slice p bs.length c,.int .i64 0])) S (off_c b b4 bs p c k 0 w hk hc hl (S.it (both (Wk.box b4 239 [.int .u64 0]) (Wk.box b 238 [.slice p bs.length c,.int .i64 0]))) (S.lend (both (Wk.box b4 239 [.int .u64 0]) (Wk.box b 238 [.slice p bs.length c,.int .i64 0])) (S.mem.fact (GlF p bs)))) rfl ?_;clear S;rintro _ a w hbx hS
 have S:=hS (both (Wk.box b4 239 [.int .u64 (numB (bs.take k) 0)]) (Wk.box b 238 [.slice (if c=k then p else p.map (·.add (k*1))) (bs.length - k) (c - k),.int .i64 0])) hbx (fun k h=>.inl h)
 clear hS
 replace S:=S.ofBoth
 refine kN (xtn (kS (kR (sq S ?_))));clear S;intro a S;refine sw S ?_;clear S;intro a w S;refine kN (xtn (kT ?_))
 have hh:=S.box b
 refine end1 S (fun _=>?_)
 exact ⟨rfl,hh⟩
structure RS where
 p:Option Addr
 c:Nat
 bs:List UInt8
 why:Int
abbrev cRS (r:RS):List Value:=[.slice r.p r.bs.length r.c,.int .i64 r.why]
def okR (r:RS) (k:Nat):Prop:=r.why=0∧k≤r.bs.length
instance (r:RS) (k:Nat):Decidable (okR r k):=by unfold okR;exact inferInstance
def takeR (r:RS) (k:Nat):RS:=if okR r k then ⟨if r.c=k then r.p else r.p.map (·.add (k*1)),r.c - k,r.bs.drop k,0⟩ else ⟨r.p,r.c,r.bs,if r.why=0 then 7 else r.why⟩
def tookR (r:RS) (k:Nat):List UInt8:=if okR r k then r.bs.take k else []
theorem takeR_yes {r:RS} {k:Nat} (h:okR r k):takeR r k=⟨if r.c=k then r.p else r.p.map (·.add (k*1)),r.c - k,r.bs.drop k,0⟩:=if_pos h
theorem takeR_no {r:RS} {k:Nat} (h:¬okR r k):takeR r k=⟨r.p,r.c,r.bs,if r.why=0 then 7 else r.why⟩:=if_neg h
theorem tookR_yes {r:RS} {k:Nat} (h:okR r k):tookR r k=r.bs.take k:=if_pos h
theorem tookR_no {r:RS} {k:Nat} (h:¬okR r k):tookR r k=[]:=if_neg h
theorem tookR_len (r:RS) (k:Nat):(tookR r k).length≤k∧(tookR r k).length≤r.bs.length:=by
 unfold tookR;split
 rw[List.length_take];omega
 simp
theorem takeR_len (r:RS) (k:Nat):(takeR r k).bs.length≤r.bs.length:=by
 unfold takeR;split
 simp
 simp
theorem takeR_cap {r:RS} {k:Nat} (h:r.bs.length≤r.c):(takeR r k).bs.length≤(takeR r k).c:=by
 unfold takeR;split
 simp;omega
 exact h
theorem takeR_gl {r:RS} {k:Nat} {M:Nat→Prop} {w:World} (hc:r.bs.length≤r.c) (h:Stable M w (GlF r.p r.bs)):Stable M w (GlF (takeR r k).p (takeR r k).bs):=by
 unfold takeR;split
 exact h.imp fun _ h=>h.drop (sz:=1) k hc
 exact h
abbrev rdI (b:Nat) (r:RS):Wk.Item:=Wk.box b 238 [.slice r.p r.bs.length r.c,.int .i64 r.why]
theorem offW_c (b bx:Nat) (r:RS) (k:Nat) (x0:Int) (w0:World) (hk:k≤1000000000) (hc:r.bs.length≤r.c) (hl:r.bs.length≤10000000) (hb:(both (Wk.box bx 239 [.int .u64 x0]) (rdI b r)).holds w0) (hx:Stable (both (Wk.box bx 239 [.int .u64 x0]) (rdI b r)).foot w0 (GlF r.p r.bs)) :
  Ret Tryz.prog 166 [.pointer (some ⟨b,0,none⟩),.int .i64 (k:Int),.func (.func 233) #[] ⟨[.pointer (some ⟨bx,0,none⟩)]⟩] w0 (both (Wk.box bx 239 [.int .u64 x0]) (rdI b r)).foot fun _ w'=>
   (both (Wk.box bx 239 [.int .u64 (numB (tookR r k) x0)]) (rdI b (takeR r k))).holds w':=by
 refine enter Tryz.func166 rfl rfl (Wd.it2Lent (x:=Wk.box bx 239 [.int .u64 x0]) (y:=rdI b r) (fs:=[GlF r.p r.bs]) hb rfl rfl (by simpa using hx)) (fun a S=>?_)
 simp only[Tryz.ntmps166,qqA,qqB,Nat.reduceAdd,Nat.reduceSub,qqC,qqD,qqE,qqF]at S
 refine kB (kS (kR ?_));(iterate 6 (refine sq S ?_;clear S;intro a S));refine kN (xtn ?_)
 refine kC S (fun h3=>?_) (fun h3=>?_)
 refine kK (xbn ?_)
 have hw:¬r.why=0:=by simpa using h3
 have hno:¬okR r k:=fun h=>hw h.1
 have e1:takeR r k=r:=by rw[takeR_no hno,if_neg hw]
 have e2:numB (tookR r k) x0=x0:=by rw[tookR_no hno];rfl
 replace S:=S.toBoth
 have hh:=S.it (both (Wk.box bx 239 [.int .u64 x0]) (rdI b r))
 refine end0 S (fun _=>by rw[e1,e2];exact hh)
 refine kS (kR ?_);(iterate 2 (refine sq S ?_;clear S;intro a S))
 rw[show decide ((k:Int) < 0)=false from decide_eq_false (by omega)]at S
 refine sq S ?_;clear S;intro a S;refine kN (xtn ?_);refine c_condF S ?_;refine kS (kR ?_);(iterate 8 (refine sq S ?_;clear S;intro a S));refine kN (xtn ?_)
 refine kC S (fun h6=>?_) (fun h6=>?_)
 refine kR ?_;(iterate 3 (refine sq S ?_;clear S;intro a S));refine sw S ?_;clear S;intro a w S;refine kN (xbn ?_)
 have hw:r.why=0:=by simpa using h3
 have hno:¬okR r k:=fun h=>by have:=of_decide_eq_true h6;have:=h.2;omega
 have e1:takeR r k=⟨r.p,r.c,r.bs,7⟩:=by rw[takeR_no hno,if_pos hw]
 have e2:numB (tookR r k) x0=x0:=by rw[tookR_no hno];rfl
 replace S:=S.toBoth
 have hh:=S.it (both (Wk.box bx 239 [.int .u64 x0]) (rdI b ⟨r.p,r.c,r.bs,7⟩))
 refine end0 S (fun _=>by rw[e1,e2];exact hh)
 refine kS ?_
 have hL1:LeC k r.bs.length:=⟨by simp at h6;omega⟩
 have hL2:LeC r.bs.length r.c:=⟨hc⟩
 have hL3:LeC k r.c:=⟨by have:=hL1.le;omega⟩
 refine kR ?_;(iterate 7 (refine sq S ?_;clear S;intro a S));refine kN (xtn (kS (kR ?_)));(iterate 9 (refine sq S ?_;clear S;intro a S));refine sw S ?_;clear S;intro a w S;refine kN (xtn (kR ?_));(iterate 2 (refine sq S ?_;clear S;intro a S))
 have hok:okR r k:=⟨by simpa using h3,hL1.le⟩
 refine sit (Wk.box bx 239 [.int .u64 x0]) S (weigh1_c bx (r.bs.take k) r.p k r.c x0 w (by rw[List.length_take];have:=hL1.le;omega) (by have:=hL1.le;omega) (S.box bx) (S.lend (Wk.box bx 239 [.int .u64 x0]) ((S.mem.fact (GlF r.p r.bs)).imp fun _ h=>h.take k))) rfl ?_;clear S;rintro _ a w hbx hS
 have S:=hS (Wk.box bx 239 [.int .u64 (numB (r.bs.take k) x0)]) hbx (fun k h=>.inl h)
 clear hS
 refine kN (xbn ?_)
 rw[←tookR_yes hok,show r.bs.length - k=(r.bs.drop k).length from (List.length_drop ..).symm,show r.why=0 from hok.1]at S
 replace S:=S.toBoth
 have hh:=S.it (both (Wk.box bx 239 [.int .u64 (numB (tookR r k) x0)]) (rdI b ⟨if r.c=k then r.p else r.p.map (·.add (k*1)),r.c - k,r.bs.drop k,0⟩))
 refine end0 S (fun _=>by rw[takeR_yes hok];exact hh)
theorem weighR_c (b:Nat) (r:RS) (k:Nat) (w0:World) (hk:k≤1000000000) (hc:r.bs.length≤r.c) (hl:r.bs.length≤10000000) (hb:(rdI b r).holds w0) (hx:Stable (fun k=>k=b) w0 (GlF r.p r.bs)) :
  Ret Tryz.prog 165 [.pointer (some ⟨b,0,none⟩),.int .i64 (k:Int)] w0 (fun k=>k=b) fun v w'=>v=.int .u64 (numB (tookR r k) 0)∧(rdI b (takeR r k)).holds w':=by
 refine enter Tryz.func165 rfl rfl (Wd.itLent (x:=rdI b r) (fs:=[GlF r.p r.bs]) hb (by intro Φ hΦ;obtain rfl:=List.mem_singleton.1 hΦ;exact hx)) (fun a S=>?_)
 simp only[Tryz.ntmps165,qqA,qqB,Nat.reduceAdd,Nat.reduceSub,qqC,qqD,qqE,qqF]at S
 refine kS (kR ?_);refine sa S ?_;clear S;intro b4 a w S;refine kN (xtn (kS (kS (kR ?_))));(iterate 2 (refine sq S ?_;clear S;intro a S));refine kN (xtn ?_);refine c_condF S ?_;refine kK (xtn (kS (kR ?_)));(iterate 5 (refine sq S ?_;clear S;intro a S))
 replace S:=S.toBoth
 refine sit (both (Wk.box b4 239 [.int .u64 0]) (rdI b r)) S (offW_c b b4 r k 0 w hk hc hl (S.it (both (Wk.box b4 239 [.int .u64 0]) (rdI b r))) (S.lend (both (Wk.box b4 239 [.int .u64 0]) (rdI b r)) (S.mem.fact (GlF r.p r.bs)))) rfl ?_;clear S;rintro _ a w hbx hS
 have S:=hS (both (Wk.box b4 239 [.int .u64 (numB (tookR r k) 0)]) (rdI b (takeR r k))) hbx (fun k h=>.inl h)
 clear hS
 replace S:=S.ofBoth
 refine kN (xtn (kS (kR (sq S ?_))));clear S;intro a S;refine sw S ?_;clear S;intro a w S;refine kN (xtn (kT ?_))
 have hh:=S.it (rdI b (takeR r k))
 refine end1 S (fun _=>?_)
 exact ⟨rfl,hh⟩
theorem raw1_c (bo:Nat) (bs:List UInt8) (p:Option Addr) (n c:Nat) (w0:World) (hn:bs.length=n) (hl:n≤10000000) (hb:(Wk.box bo 25 [.slice none 0 0]).holds w0) (hx:Stable (fun k=>k=bo) w0 (GlF p bs)) :
  Ret Tryz.prog 167 [.slice p n c,.pointer (some ⟨bo,0,none⟩)] w0 (fun k=>k=bo) fun _ w'=>∃ p' c',(both (Wk.box bo 25 [.slice p' n c']) (Wk.row 5 1 p' n c' (encL bs))).holds w'∧∀ k,(both (Wk.box bo 25 [.slice p' n c']) (Wk.row 5 1 p' n c' (encL bs))).foot k→k=bo∨w0.heap.size≤k:=by
 have hN:LenN bs n:=⟨hn⟩
 refine enter Tryz.func167 rfl rfl (Wd.itLent (x:=Wk.box bo 25 [.slice none 0 0]) (fs:=[GlF p bs]) hb (by intro Φ hΦ;obtain rfl:=List.mem_singleton.1 hΦ;exact hx)) (fun a S=>?_)
 simp only[Tryz.ntmps167,qqA,qqB,Nat.reduceAdd,Nat.reduceSub,qqC,qqD,qqE,qqF]at S
 refine kR ?_;(iterate 2 (refine sq S ?_;clear S;intro a S))
 replace S:=S.addNil 5 1
 refine sap S (by simp[maxLen];omega) (by omega) ?_;clear S;rintro p2 c2 a w - S
 rw[qqF,Nat.zero_add]at S
 refine sw S ?_;clear S;intro a w S;refine kN ?_
 replace S:=((S.front (Wk.row 5 1 p2 n c2 (encL bs))).front (Wk.box bo 25 [.slice p2 n c2])).toBoth
 have h1:=S.it (both (Wk.box bo 25 [.slice p2 n c2]) (Wk.row 5 1 p2 n c2 (encL bs)))
 have h2:=S.itNew (both (Wk.box bo 25 [.slice p2 n c2]) (Wk.row 5 1 p2 n c2 (encL bs))) rfl
 exact end0 S (fun _=>⟨p2,c2,h1,h2⟩)
abbrev outI (bo:Nat) (p:Option Addr) (c:Nat) (bs:List UInt8):Wk.Item:=both (Wk.box bo 25 [.slice p bs.length c]) (Wk.row 5 1 p bs.length c (encL bs))
theorem offR_c (b bo:Nat) (r:RS) (k:Nat) (w0:World) (hk:k≤10000000000) (hc:r.bs.length≤r.c) (hl:r.bs.length≤10000000) (hb:(both (Wk.box bo 25 [.slice none 0 0]) (rdI b r)).holds w0) (hx:Stable (both (Wk.box bo 25 [.slice none 0 0]) (rdI b r)).foot w0 (GlF r.p r.bs)) :
  Ret Tryz.prog 166 [.pointer (some ⟨b,0,none⟩),.int .i64 (k:Int),.func (.func 167) #[] ⟨[.pointer (some ⟨bo,0,none⟩)]⟩] w0 (both (Wk.box bo 25 [.slice none 0 0]) (rdI b r)).foot fun _ w'=>
   ∃ p' c',(both (outI bo p' c' (tookR r k)) (rdI b (takeR r k))).holds w'∧∀ j,(both (outI bo p' c' (tookR r k)) (rdI b (takeR r k))).foot j→(both (Wk.box bo 25 [.slice none 0 0]) (rdI b r)).foot j∨w0.heap.size≤j:=by
 refine enter Tryz.func166 rfl rfl (Wd.it2Lent (x:=Wk.box bo 25 [.slice none 0 0]) (y:=rdI b r) (fs:=[GlF r.p r.bs]) hb rfl rfl (by simpa using hx)) (fun a S=>?_)
 simp only[Tryz.ntmps166,qqA,qqB,Nat.reduceAdd,Nat.reduceSub,qqC,qqD,qqE,qqF]at S
 refine kB (kS (kR ?_));(iterate 6 (refine sq S ?_;clear S;intro a S));refine kN (xtn ?_)
 refine kC S (fun h3=>?_) (fun h3=>?_)
 refine kK (xbn ?_)
 have hw:¬r.why=0:=by simpa using h3
 have hno:¬okR r k:=fun h=>hw h.1
 have e1:takeR r k=r:=by rw[takeR_no hno,if_neg hw]
 have e2:tookR r k=[]:=tookR_no hno
 replace S:=S.addNil 5 1
 replace S:=(((S.front (rdI b r)).front (Wk.row 5 1 none 0 0 [])).front (Wk.box bo 25 [.slice none 0 0])).toBoth.toBoth
 have h1:=S.it (both (both (Wk.box bo 25 [.slice none 0 0]) (Wk.row 5 1 none 0 0 [])) (rdI b r))
 have h2:=S.itNew (both (both (Wk.box bo 25 [.slice none 0 0]) (Wk.row 5 1 none 0 0 [])) (rdI b r)) rfl
 refine end0 S (fun _=>?_)
 rw[e1,e2]
 exact ⟨none,0,h1,h2⟩
 refine kS (kR ?_);(iterate 2 (refine sq S ?_;clear S;intro a S))
 rw[show decide ((k:Int) < 0)=false from decide_eq_false (by omega)]at S
 refine sq S ?_;clear S;intro a S;refine kN (xtn ?_);refine c_condF S ?_;refine kS (kR ?_);(iterate 8 (refine sq S ?_;clear S;intro a S));refine kN (xtn ?_)
 refine kC S (fun h6=>?_) (fun h6=>?_)
 refine kR ?_;(iterate 3 (refine sq S ?_;clear S;intro a S));refine sw S ?_;clear S;intro a w S;refine kN (xbn ?_)
 have hw:r.why=0:=by simpa using h3
 have hno:¬okR r k:=fun h=>by have:=of_decide_eq_true h6;have:=h.2;omega
 have e1:takeR r k=⟨r.p,r.c,r.bs,7⟩:=by rw[takeR_no hno,if_pos hw]
 have e2:tookR r k=[]:=tookR_no hno
 replace S:=S.addNil 5 1
 rw[show Wk.box b 238 [.slice r.p r.bs.length r.c,.int .i64 7]=rdI b ⟨r.p,r.c,r.bs,7⟩ from rfl]at S
 replace S:=(((S.front (rdI b ⟨r.p,r.c,r.bs,7⟩)).front (Wk.row 5 1 none 0 0 [])).front (Wk.box bo 25 [.slice none 0 0])).toBoth.toBoth
 have h1:=S.it (both (both (Wk.box bo 25 [.slice none 0 0]) (Wk.row 5 1 none 0 0 [])) (rdI b ⟨r.p,r.c,r.bs,7⟩))
 have h2:=S.itNew (both (both (Wk.box bo 25 [.slice none 0 0]) (Wk.row 5 1 none 0 0 [])) (rdI b ⟨r.p,r.c,r.bs,7⟩)) rfl
 refine end0 S (fun _=>?_)
 rw[e1,e2]
 exact ⟨none,0,h1,h2⟩
 refine kS ?_
 have hL1:LeC k r.bs.length:=⟨by simp at h6;omega⟩
 have hL2:LeC r.bs.length r.c:=⟨hc⟩
 have hL3:LeC k r.c:=⟨by have:=hL1.le;omega⟩
 refine kR ?_;(iterate 7 (refine sq S ?_;clear S;intro a S));refine kN (xtn (kS (kR ?_)));(iterate 9 (refine sq S ?_;clear S;intro a S));refine sw S ?_;clear S;intro a w S;refine kN (xtn (kR ?_));(iterate 2 (refine sq S ?_;clear S;intro a S))
 have hok:okR r k:=⟨by simpa using h3,hL1.le⟩
 have hkl:(r.bs.take k).length=k:=by rw[List.length_take];have:=hL1.le;omega
 refine sit (Wk.box bo 25 [.slice none 0 0]) S (raw1_c bo (r.bs.take k) r.p k r.c w hkl (by have:=hL1.le;omega) (S.box bo) (S.lend (Wk.box bo 25 [.slice none 0 0]) ((S.mem.fact (GlF r.p r.bs)).imp fun _ h=>h.take k))) rfl ?_;clear S;rintro _ a w ⟨p2,c2,hbx,hf2⟩ hS
 have S:=hS (both (Wk.box bo 25 [.slice p2 k c2]) (Wk.row 5 1 p2 k c2 (encL (r.bs.take k)))) hbx hf2
 clear hS
 refine kN (xbn ?_)
 have e1:tookR r k=r.bs.take k:=tookR_yes hok
 rw[show r.bs.length - k=(r.bs.drop k).length from (List.length_drop ..).symm,show r.why=0 from hok.1]at S
 rw[show Wk.box b 238 [.slice (if r.c=k then r.p else r.p.map (·.add (k*1))) (r.bs.drop k).length (r.c - k),.int .i64 0]=rdI b (takeR r k) from by rw[takeR_yes hok]]at S
 replace S:=((S.front (rdI b (takeR r k))).front (both (Wk.box bo 25 [.slice p2 k c2]) (Wk.row 5 1 p2 k c2 (encL (r.bs.take k))))).toBoth
 have h1:=S.it (both (both (Wk.box bo 25 [.slice p2 k c2]) (Wk.row 5 1 p2 k c2 (encL (r.bs.take k)))) (rdI b (takeR r k)))
 have h2:=S.itNew (both (both (Wk.box bo 25 [.slice p2 k c2]) (Wk.row 5 1 p2 k c2 (encL (r.bs.take k)))) (rdI b (takeR r k))) rfl
 have e3:outI bo p2 c2 (tookR r k)=both (Wk.box bo 25 [.slice p2 k c2]) (Wk.row 5 1 p2 k c2 (encL (r.bs.take k))):=by rw[e1,outI,hkl]
 refine end0 S (fun _=>⟨p2,c2,?_,?_⟩)
 rw[e3];exact h1
 rw[e3];exact h2
theorem rawR_c (b:Nat) (r:RS) (k:Nat) (w0:World) (hk:k≤10000000000) (hc:r.bs.length≤r.c) (hl:r.bs.length≤10000000) (hb:(rdI b r).holds w0) (hx:Stable (fun k=>k=b) w0 (GlF r.p r.bs)) :
  Ret Tryz.prog 68 [.pointer (some ⟨b,0,none⟩),.int .i64 (k:Int)] w0 (fun k=>k=b) fun v w'=>∃ p' c',v=.slice p' (tookR r k).length c'∧(both (Wk.row 5 1 p' (tookR r k).length c' (encL (tookR r k))) (rdI b (takeR r k))).holds w'∧∀ j,(both (Wk.row 5 1 p' (tookR r k).length c' (encL (tookR r k))) (rdI b (takeR r k))).foot j→j=b∨w0.heap.size≤j:=by
 refine enter Tryz.func68 rfl rfl (Wd.itLent (x:=rdI b r) (fs:=[GlF r.p r.bs]) hb (by intro Φ hΦ;obtain rfl:=List.mem_singleton.1 hΦ;exact hx)) (fun a S=>?_)
 simp only[Tryz.ntmps68,qqA,qqB,Nat.reduceAdd,Nat.reduceSub,qqC,qqD,qqE,qqF]at S
 refine kS (kR ?_);refine sa S ?_;clear S;intro b4 a w S;refine kN (xtn (kS (kS (kR ?_))));(iterate 2 (refine sq S ?_;clear S;intro a S));refine kN (xtn ?_);refine c_condT S ?_;refine kR ?_;(iterate 5 (refine sq S ?_;clear S;intro a S))
 replace S:=S.toBoth
 refine sit (both (Wk.box b4 25 [.slice none 0 0]) (rdI b r)) S (offR_c b b4 r k w hk hc hl (S.it (both (Wk.box b4 25 [.slice none 0 0]) (rdI b r))) (S.lend (both (Wk.box b4 25 [.slice none 0 0]) (rdI b r)) (S.mem.fact (GlF r.p r.bs)))) rfl ?_;clear S;rintro _ a w ⟨p2,c2,hbx,hf2⟩ hS
 have S:=hS (both (outI b4 p2 c2 (tookR r k)) (rdI b (takeR r k))) hbx hf2
 clear hS
 replace S:=S.ofBoth.ofBoth
 refine kN (xtn (kS (kR (sq S ?_))));clear S;intro a S;refine sw S ?_;clear S;intro a w S;refine kN (xtn (kT ?_))
 replace S:=((S.front (rdI b (takeR r k))).front (Wk.row 5 1 p2 (tookR r k).length c2 (encL (tookR r k)))).toBoth
 have h1:=S.it (both (Wk.row 5 1 p2 (tookR r k).length c2 (encL (tookR r k))) (rdI b (takeR r k)))
 have h2:=S.itNew (both (Wk.row 5 1 p2 (tookR r k).length c2 (encL (tookR r k))) (rdI b (takeR r k))) rfl
 exact end1 S (fun _=>⟨p2,c2,rfl,h1,h2⟩)
def numN (bs:List UInt8) (x:Nat):Nat:=bs.foldl (fun x c=>256*x+c.toNat) x
theorem numN_cons (c:UInt8) (bs:List UInt8) (x:Nat):numN (c::bs) x=numN bs (256*x+c.toNat):=rfl
theorem numN_lt (bs:List UInt8):∀ x:Nat,numN bs x < (x+1)*256 ^ bs.length:=by
 induction bs with
 | nil=>intro x;simp[numN]
 | cons c bs ih=>
  intro x
  rw[numN_cons]
  have h1:=ih (256*x+c.toNat)
  have h2:=c.toNat_lt
  have h3:(256*x+c.toNat+1)*256 ^ bs.length≤(256*(x+1))*256 ^ bs.length:=Nat.mul_le_mul_right _ (by omega)
  have h4:(256*(x+1))*256 ^ bs.length=(x+1)*256 ^ (c::bs).length:=by
   rw[qqA,Nat.pow_succ,Nat.mul_comm 256 (x+1),Nat.mul_assoc,Nat.mul_comm 256]
  omega
theorem numB_nat (bs:List UInt8):∀ x:Nat,(x+1)*256 ^ bs.length≤18446744073709551616→numB bs (x:Int)=(numN bs x:Int):=by
 induction bs with
 | nil=>intro x _;rfl
 | cons c bs ih=>
  intro x hx
  have h2:=c.toNat_lt
  have h5:1≤256 ^ bs.length:=Nat.one_le_pow _ _ (by decide)
  have h4:(256*(x+1))*256 ^ bs.length=(x+1)*256 ^ (c::bs).length:=by
   rw[qqA,Nat.pow_succ,Nat.mul_comm 256 (x+1),Nat.mul_assoc,Nat.mul_comm 256]
  have h6:256*(x+1)≤18446744073709551616:=by
   have:=Nat.mul_le_mul_left (256*(x+1)) h5
   omega
  have h3:(256*x+c.toNat+1)*256 ^ bs.length≤(256*(x+1))*256 ^ bs.length:=Nat.mul_le_mul_right _ (by omega)
  rw[numN_cons,←ih _ (by omega)]
  show numB bs (IntKind.u64.wrap (IntKind.u64.wrap (256*(x:Int))+(c.toNat:Int)))=_
  rw[wu64 (256*(x:Int)) (by omega) (by omega),wu64 _ (by omega) (by omega)]
  norm_cast
theorem took_num (r:RS) (k:Nat) (hk:k≤7):numB (tookR r k) 0=(numN (tookR r k) 0:Int)∧numN (tookR r k) 0 < 256 ^ k:=by
 have h1:=(tookR_len r k).1
 have h2:256 ^ (tookR r k).length≤256 ^ k:=Nat.pow_le_pow_right (by decide) h1
 have h3:256 ^ k≤256 ^ 7:=Nat.pow_le_pow_right (by decide) hk
 have h4:(256:Nat) ^ 7≤18446744073709551616:=by decide
 have h5:=numN_lt (tookR r k) 0
 exact ⟨numB_nat _ 0 (by omega),by omega⟩
theorem u8R_c (b:Nat) (r:RS) (w0:World) (hc:r.bs.length≤r.c) (hl:r.bs.length≤10000000) (hb:(rdI b r).holds w0) (hx:Stable (fun k=>k=b) w0 (GlF r.p r.bs)) :
  Ret Tryz.prog 67 [.pointer (some ⟨b,0,none⟩)] w0 (fun k=>k=b) fun v w'=>v=.int .u8 (numN (tookR r 1) 0:Nat)∧(rdI b (takeR r 1)).holds w':=by
 have hn:=took_num r 1 (by decide)
 refine enter Tryz.func67 rfl rfl (Wd.itLent (x:=rdI b r) (fs:=[GlF r.p r.bs]) hb (by intro Φ hΦ;obtain rfl:=List.mem_singleton.1 hΦ;exact hx)) (fun a S=>?_)
 simp only[Tryz.ntmps67,qqA,qqB,Nat.reduceAdd,Nat.reduceSub,qqC,qqD,qqE,qqF]at S
 refine kS (kR (sq S ?_));clear S;intro a S;refine kN (xtn (kS (kR (sq S ?_))));clear S;intro a S
 refine sit (rdI b r) S (weighR_c b r 1 _ (by decide) hc hl (S.it (rdI b r)) (S.lend (rdI b r) (S.mem.fact (GlF r.p r.bs)))) rfl ?_;clear S;rintro _ a w ⟨rfl,hh⟩ hS
 have S:=hS (rdI b (takeR r 1)) hh (fun k h=>.inl h)
 clear hS
 rw[hn.1]at S
 refine sq S ?_;clear S;intro a S
 rw[show IntKind.u8.wrap ((numN (tookR r 1) 0:Nat):Int)=((numN (tookR r 1) 0:Nat):Int) from by
  unfold IntKind.wrap
  simp only[IntKind.bits,IntKind.signed,Bool.false_and]
  simp;omega]at S
 refine sq S ?_;clear S;intro a S;refine kN (xtn (kT ?_))
 have hh:=S.it (rdI b (takeR r 1))
 exact end1 S (fun _=>⟨rfl,hh⟩)
theorem u16R_c (b:Nat) (r:RS) (w0:World) (hc:r.bs.length≤r.c) (hl:r.bs.length≤10000000) (hb:(rdI b r).holds w0) (hx:Stable (fun k=>k=b) w0 (GlF r.p r.bs)) :
  Ret Tryz.prog 69 [.pointer (some ⟨b,0,none⟩)] w0 (fun k=>k=b) fun v w'=>v=.int .u16 (numN (tookR r 2) 0:Nat)∧(rdI b (takeR r 2)).holds w':=by
 have hn:=took_num r 2 (by decide)
 refine enter Tryz.func69 rfl rfl (Wd.itLent (x:=rdI b r) (fs:=[GlF r.p r.bs]) hb (by intro Φ hΦ;obtain rfl:=List.mem_singleton.1 hΦ;exact hx)) (fun a S=>?_)
 simp only[Tryz.ntmps69,qqA,qqB,Nat.reduceAdd,Nat.reduceSub,qqC,qqD,qqE,qqF]at S
 refine kS (kR (sq S ?_));clear S;intro a S;refine kN (xtn (kS (kR (sq S ?_))));clear S;intro a S
 refine sit (rdI b r) S (weighR_c b r 2 _ (by decide) hc hl (S.it (rdI b r)) (S.lend (rdI b r) (S.mem.fact (GlF r.p r.bs)))) rfl ?_;clear S;rintro _ a w ⟨rfl,hh⟩ hS
 have S:=hS (rdI b (takeR r 2)) hh (fun k h=>.inl h)
 clear hS
 rw[hn.1]at S
 refine sq S ?_;clear S;intro a S
 rw[show IntKind.u16.wrap ((numN (tookR r 2) 0:Nat):Int)=((numN (tookR r 2) 0:Nat):Int) from by
  unfold IntKind.wrap
  simp only[IntKind.bits,IntKind.signed,Bool.false_and]
  simp;omega]at S
 refine sq S ?_;clear S;intro a S;refine kN (xtn (kT ?_))
 have hh:=S.it (rdI b (takeR r 2))
 exact end1 S (fun _=>⟨rfl,hh⟩)
theorem errR_c (b:Nat) (r:RS) (w0:World) (hb:Stable (fun _=>False) w0 (BoxF b 238 (cRS r))):Ret Tryz.prog 71 [.pointer (some ⟨b,0,none⟩)] w0 (fun _=>False) fun v _=>v=.int .i64 r.why:=by
 refine enter Tryz.func71 rfl rfl (Wd.begin (fs:=[BoxF b 238 (cRS r)]) (by simpa using hb)) (fun a S=>?_)
 simp only[Tryz.ntmps71,qqA,qqB,Nat.reduceAdd,Nat.reduceSub,qqC,qqD,qqE,qqF]at S
 refine kS (kR (sq S ?_));clear S;intro a S;refine kN (xtn (kS (kS (kR ?_))));(iterate 2 (refine sq S ?_;clear S;intro a S));refine kN (xtn ?_);refine c_condF S ?_;refine kK (xtn (kS (kR ?_)));(iterate 6 (refine sq S ?_;clear S;intro a S));refine kN (xtn ?_);refine kT ?_
 exact end1 S (fun _=>rfl)
theorem leftR_c (b:Nat) (r:RS) (w0:World) (hb:Stable (fun _=>False) w0 (BoxF b 238 (cRS r))):Ret Tryz.prog 72 [.pointer (some ⟨b,0,none⟩)] w0 (fun _=>False) fun v _=>v=.int .i64 (r.bs.length:Nat):=by
 refine enter Tryz.func72 rfl rfl (Wd.begin (fs:=[BoxF b 238 (cRS r)]) (by simpa using hb)) (fun a S=>?_)
 simp only[Tryz.ntmps72,qqA,qqB,Nat.reduceAdd,Nat.reduceSub,qqC,qqD,qqE,qqF]at S
 refine kS (kR (sq S ?_));clear S;intro a S;refine kN (xtn (kS (kS (kR ?_))));(iterate 2 (refine sq S ?_;clear S;intro a S));refine kN (xtn ?_);refine c_condF S ?_;refine kK (xtn (kS (kR ?_)));(iterate 7 (refine sq S ?_;clear S;intro a S));refine kN (xtn ?_);refine kT ?_
 exact end1 S (fun _=>rfl)
theorem readR_c (bs:List UInt8) (p:Option Addr) (n c:Nat) (w0:World) (hn:bs.length=n) (hl:n≤10000000) (hx:Stable (fun _=>False) w0 (GlF p bs)) :
  Ret Tryz.prog 66 [.slice p n c] w0 (fun _=>False) fun v w'=>∃ b p' c',v=.pointer (some ⟨b,0,none⟩)∧(both (rdI b ⟨p',c',bs,0⟩) (Wk.row 5 1 p' bs.length c' (encL bs))).holds w'∧∀ k,(both (rdI b ⟨p',c',bs,0⟩) (Wk.row 5 1 p' bs.length c' (encL bs))).foot k→w0.heap.size≤k:=by
 subst hn
 refine enter Tryz.func66 rfl rfl (Wd.begin (fs:=[GlF p bs]) (by simpa using hx)) (fun a S=>?_)
 simp only[Tryz.ntmps66,qqA,qqB,Nat.reduceAdd,Nat.reduceSub,qqC,qqD,qqE,qqF]at S
 refine kS (kR (sq S ?_));clear S;intro a S;refine kN (xtn (kS (kR (sq S ?_))));clear S;intro a S
 replace S:=S.addNil 5 1
 refine sap S (by simp[maxLen];omega) (by omega) ?_;clear S;rintro p2 c2 a w - S
 rw[qqF,Nat.zero_add]at S
 (iterate 2 (refine sq S ?_;clear S;intro a S));refine sa S ?_;clear S;intro b7 a w S;refine sq S ?_;clear S;intro a S;refine kN (xtn (kT ?_))
 replace S:=((S.front (Wk.row 5 1 p2 bs.length c2 (encL bs))).front (rdI b7 ⟨p2,c2,bs,0⟩)).toBoth
 have h1:=S.it (both (rdI b7 ⟨p2,c2,bs,0⟩) (Wk.row 5 1 p2 bs.length c2 (encL bs)))
 have h2:=S.itNew (both (rdI b7 ⟨p2,c2,bs,0⟩) (Wk.row 5 1 p2 bs.length c2 (encL bs))) rfl
 exact end1 S (fun _=>⟨b7,p2,c2,rfl,h1,fun k hk=>(h2 k hk).elim (fun h=>h.elim) id⟩)
abbrev DecE (α:Type):=Except Int α
def textD (k:Int) (bs:List UInt8):DecE (List UInt8 × List UInt8):=
 if hasF (fieldsOf k) 1 then
  match bs with
  | []=>.error 7
  | n::bs=>if 64 < n.toNat then .error 150 else if bs.length < n.toNat then .error 7 else .ok (bs.take n.toNat,bs.drop n.toNat)
 else .ok ([],bs)
def userD (k:Int) (bs:List UInt8):DecE (Int × List UInt8):=
 if hasF (fieldsOf k) 2 then
  match bs with
  | []=>.error 7
  | u::bs=>if 1≤u.toNat∧u.toNat≤6 then .ok ((u.toNat:Int),bs) else .error 150
 else .ok (0,bs)
def numD (k:Int) (bs:List UInt8):DecE (Int × List UInt8):=
 if hasF (fieldsOf k) 4 then (if bs.length < 2 then .error 7 else .ok ((numN (bs.take 2) 0:Int),bs.drop 2)) else .ok (0,bs)
def kidsD (f:Nat→List UInt8→DecE (Term × Nat × List UInt8)):Nat→Nat→List UInt8→DecE (List Term × Nat × List UInt8)
 | 0,left,bs=>.ok ([],left,bs)
 | k+1,left,bs=>match f left bs with
  | .error e=>.error e
  | .ok (t,left,bs)=>match kidsD f k left bs with
   | .error e=>.error e
   | .ok (ts,left,bs)=>.ok (t::ts,left,bs)
def kidsN (k:Int):Nat:=(kidsF (fieldsOf k)).toNat
def decT:Nat→Nat→List UInt8→DecE (Term × Nat × List UInt8)
 | _,_,[]=>.error 7
 | 0,_,_::_=>.error 150
 | m+1,left,c::bs=>
  if fieldsOf (c.toNat:Int)=0∨left=0 then .error 150 else
  match textD (c.toNat:Int) bs with
  | .error e=>.error e
  | .ok (s,bs)=>match userD (c.toNat:Int) bs with
   | .error e=>.error e
   | .ok (u,bs)=>match numD (c.toNat:Int) bs with
    | .error e=>.error e
    | .ok (n,bs)=>match kidsD (decT m) (kidsN (c.toNat:Int)) (left - 1) bs with
     | .error e=>.error e
     | .ok (ks,left,bs)=>.ok (.mk (c.toNat:Int) u n s ks,left,bs)
def decB (f:Nat→List UInt8→DecE (Term × Nat × List UInt8)) (left:Nat) (k:Int) (bs:List UInt8):DecE (Term × Nat × List UInt8):=
 match textD k bs with
 | .error e=>.error e
 | .ok (s,bs)=>match userD k bs with
  | .error e=>.error e
  | .ok (u,bs)=>match numD k bs with
   | .error e=>.error e
   | .ok (n,bs)=>match kidsD f (kidsN k) (left - 1) bs with
    | .error e=>.error e
    | .ok (ks,left,bs)=>.ok (.mk k u n s ks,left,bs)
theorem decT_nil (m left:Nat):decT m left []=.error 7:=by cases m <;> rfl
theorem decT_cons (m left:Nat) (c:UInt8) (bs:List UInt8):decT m left (c::bs)=if m=0∨fieldsOf (c.toNat:Int)=0∨left=0 then .error 150 else decB (decT (m - 1)) left (c.toNat:Int) bs:=by
 cases m with
 | zero=>rw[if_pos (.inl rfl)];rfl
 | succ m=>
  rw[decT]
  by_cases h:fieldsOf (c.toNat:Int)=0∨left=0
  rw[if_pos h,if_pos (.inr h)]
  rw[if_neg h,if_neg (fun h2=>h2.elim (fun h=>by cases h) h)];rfl
def byteN (x wd k:Nat):UInt8:=Wk.u8 (x / 256 ^ (wd - 1 - k):Nat)
theorem rbyte_c (x wd k:Nat) (w0:World) (hx:x < 18446744073709551616) (hw:wd≤1000) (hk:k < wd):Ret Tryz.prog 255 [.int .u64 (x:Nat),.int .i64 (wd:Nat),.int .i64 (k:Nat)] w0 (fun _=>False) fun v _=>v=.int .u8 ((byteN x wd k).toNat:Int):=by
 refine enter Tryz.func255 rfl rfl (Wd.start w0) (fun a S=>?_)
 simp only[Tryz.ntmps255,qqA,qqB,Nat.reduceAdd,Nat.reduceSub,qqC,qqD,qqE,qqF]at S
 refine kS (kR (sq S ?_));clear S;intro a S;refine kN (xtn (kS (kB ?_)))
 refine c_forb2 S (fun(j:Nat) (y:Nat) uu=>[(0,.int .u64 (y:Nat)),(1,.int .i64 (j:Nat)),(4,uu 7),(0,uu 8),(0,uu 9),(0,uu 10),(0,uu 11),(0,uu 12),(0,uu 13),(0,uu 14)]) (fun(j:Nat) (y:Nat)=>k≤j∧j≤wd - 1∧y=x / 256 ^ (j - k)) (fun(j:Nat) (y:Nat)=>wd - j) (k) (x) ?_ S.uu ?_ ?_
 exact ⟨Nat.le_refl _,by omega,by rw[Nat.sub_self,Nat.pow_zero,Nat.div_one]⟩
 first | exact S | exact S.sub _ _
 clear S;rintro j y uu a w ⟨hj1,hj2,hy⟩ S
 refine kS (kS (kR ?_));(iterate 3 (refine sq S ?_;clear S;intro a S))
 rw[w64 ((wd:Int) - 1) (by omega) (by omega)]at S
 refine sq S ?_;clear S;intro a S;refine kN (xtn ?_)
 refine kC S (fun h1=>?_) (fun h1=>?_)
 refine kK (xtn (kB ?_))
 have hjl:j < wd - 1:=by simp at h1;omega
 have hyx:y≤x:=by rw[hy];exact Nat.div_le_self _ _
 have hNZ:NZ (256:Int):=⟨by decide⟩
 refine kR ?_;(iterate 2 (refine sq S ?_;clear S;intro a S))
 rw[show ((y:Int).tdiv 256)=((y / 256:Nat):Int) from rfl,wu64 _ (by omega) (by omega)]at S
 (iterate 2 (refine sq S ?_;clear S;intro a S))
 rw[w64 ((j:Int)+1) (by omega) (by omega),show (j:Int)+1=((j+1:Nat):Int) from rfl]at S
 (iterate 2 (refine sq S ?_;clear S;intro a S));refine kN (xbn (xtn ?_))
 refine ⟨j+1,y / 256,S.uu,⟨by omega,by omega,?_⟩,S.sub _ _,by omega⟩
 rw[hy,Nat.div_div_eq_div_mul,←Nat.pow_succ,show (j - k).succ=j+1 - k from by omega]
 refine kE (xte (xte (xbe (xtn (kS (kR (sq S ?_)))))));clear S;intro a S
 have hNZ:NZ (256:Int):=⟨by decide⟩
 have hyx:y≤x:=by rw[hy];exact Nat.div_le_self _ _
 refine sq S ?_;clear S;intro a S
 rw[show ((y:Int).tmod 256)=((y % 256:Nat):Int) from rfl]at S
 (iterate 2 (refine sq S ?_;clear S;intro a S));refine kN (xtn (kT ?_))
 have hjw:j=wd - 1:=by simp at h1;omega
 refine end1 S (fun _=>?_)
 rw[u8_wrap,byteN]
 have:Wk.u8 ((y % 256:Nat):Int)=Wk.u8 ((x / 256 ^ (wd - 1 - k):Nat):Int):=by
  rw[hy,hjw]
  unfold Wk.u8
  congr 1
  omega
 rw[this]
def beN (w x:Nat):List UInt8:=(List.range w).map fun k=>byteN x w k
theorem beN_be (w x:Nat):beN w x=be w (x:Int):=by
 rw[beN,be]
 refine List.map_congr_left fun k hk=>?_
 rw[byteN]
 congr 1
 rw[show (2:Int) ^ (8*(w - 1 - k))=((256 ^ (w - 1 - k):Nat):Int) from by rw[show (256:Nat)=2 ^ 8 from rfl,←Nat.pow_mul,Int.natCast_pow];rfl]
 rw[Int.fdiv_eq_ediv_of_nonneg _ (Int.natCast_nonneg _)]
 rfl
theorem beN_len (w x:Nat):(beN w x).length=w:=by simp[beN]
theorem beN_take (w x k:Nat) (h:k < w):(beN w x).take (k+1)=(beN w x).take k++[byteN x w k]:=by
 have hl:k < (beN w x).length:=by rw[beN_len];exact h
 rw[List.take_succ_eq_append_getElem hl]
 congr 2
 simp[beN]
theorem rhigh_c (x wd:Nat) (w0:World) (hx:x < 18446744073709551616) (hw:wd≤1000):Ret Tryz.prog 215 [.int .u64 (x:Nat),.int .i64 (wd:Nat)] w0 (fun _=>False) fun v w'=>
  ∃ (p':Option Addr) (c':Nat),v=.slice p' (beN wd x).length c'∧w'.ownsRow 0 5 1 (.slice p' (beN wd x).length c') (beN wd x).length (encL (beN wd x))∧∀ ad,p'=some ad→w0.heap.size≤ad.block:=by
 refine enter Tryz.func215 rfl rfl (Wd.start w0) (fun a S=>?_)
 simp only[Tryz.ntmps215,qqA,qqB,Nat.reduceAdd,Nat.reduceSub,qqC,qqD,qqE,qqF]at S
 refine kS (kR (sq S ?_));clear S;intro a S;refine kN (xtn (kS (kR (sq S ?_))));clear S;intro a S;refine kN (xtn (kS (kS (kR (sq S ?_)))));clear S;intro a S;refine kN (xtn (kB ?_))
 refine c_forf4 S (fun(k:Nat) (b:List UInt8) (p':Option Addr) (c':Nat) uu=>[(5,.slice p' b.length c'),(0,.int .i64 (k:Nat)),(0,uu 7),(0,uu 8),(0,uu 9),(0,uu 10),(0,uu 11),(0,uu 12),(0,uu 13),(0,uu 14),(0,uu 15),(0,uu 16),(0,uu 17),(0,uu 18)]) (fun(k:Nat) (b:List UInt8) (p':Option Addr) (c':Nat)=>[Wk.row 5 1 p' b.length c' (encL b)]) (fun(k:Nat) (b:List UInt8) (p':Option Addr) (c':Nat)=>k≤wd∧b=(beN wd x).take k) (fun(k:Nat) (b:List UInt8) (p':Option Addr) (c':Nat)=>wd - k) (0) ([]) (none) (0) ?_ S.uu ?_ ?_
 exact ⟨Nat.zero_le _,rfl⟩
 replace S:=S.addNil 5 1
 rw[show Wk.row 5 1 none 0 0 []=Wk.row 5 1 none 0 0 (encL ([]:List UInt8)) from rfl]at S
 exact S.sub _ _
 clear S;rintro k b p' c' uu a w ⟨hk,hb⟩ S
 refine kS (kS (kR ?_));(iterate 3 (refine sq S ?_;clear S;intro a S));refine kN (xtn ?_)
 refine kC S (fun h3=>?_) (fun h3=>?_)
 refine kK (xtn (kS (kB ?_)))
 have hkl:k < wd:=by simp at h3;omega
 have hbl:b.length=k:=by rw[hb,List.length_take,beN_len];omega
 refine kR ?_;(iterate 4 (refine sq S ?_;clear S;intro a S));refine sr S (rbyte_c x wd k _ hx hw hkl) ?_;clear S;rintro _ a w1 rfl S;refine sn S ?_;clear S;intro b17 a w S
 refine sap S (by simp[maxLen];omega) (by omega) ?_;clear S;rintro p1 c1 a w1 - S
 rw[show encL b++[Value.int .u8 ((byteN x wd k).toNat:Int)]=encL (b++[byteN x wd k]) from by rw[encL_append];rfl,show b.length+1=(b++[byteN x wd k]).length from by simp]at S
 refine sq S ?_;clear S;intro a S;refine kN (xbn (xtn (kR ?_)));(iterate 2 (refine sq S ?_;clear S;intro a S))
 rw[w64 ((k:Int)+1) (by omega) (by omega),show (k:Int)+1=((k+1:Nat):Int) from rfl]at S
 refine sq S ?_;clear S;intro a S;refine kN (xtn ?_)
 exact ⟨k+1,b++[byteN x wd k],p1,c1,S.uu,⟨hkl,by rw[beN_take wd x k hkl,←hb]⟩,S.sub _ _,by omega⟩
 refine kE (xte (xte (xbe (xtn (kS (kR ?_))))));(iterate 2 (refine sq S ?_;clear S;intro a S));refine kN (xtn (kT ?_))
 have hk2:k=wd:=by simp at h3;omega
 obtain rfl:b=beN wd x:=by rw[hb,List.take_of_length_le (by rw[beN_len];omega)]
 have hrow:=S.row p' (beN wd x).length
 have hnew:=S.rowNew p' (beN wd x).length
 exact end1 S (fun _=>⟨p',c',rfl,hrow,fun ad h=>(hnew ad h).elim (fun h=>h.elim) id⟩)
theorem enc_rep8:∀ n:Nat,encL (List.replicate n (0:UInt8))=List.replicate n (Value.int .u8 0)
 | 0=>rfl
 | n+1=>by rw[qqC,qqC,encL_cons,enc_rep8 n];rfl
theorem nthG_left {xs ys:List UInt8} {k:Nat} (h:k < xs.length):nthG (xs++ys) k=nthG xs k:=by
 have h1:=nthG_get (xs:=xs++ys) (k:=k) (by rw[List.length_append];omega)
 have h2:=nthG_get h
 rw[List.getElem?_append_left h,h2]at h1
 exact (Option.some.inj h1).symm
theorem nthG_right {xs ys:List UInt8} {k:Nat} (h:xs.length≤k) (h2:k < xs.length+ys.length):nthG (xs++ys) k=nthG ys (k - xs.length):=by
 have h1:=nthG_get (xs:=xs++ys) (k:=k) (by rw[List.length_append];omega)
 have h3:=nthG_get (xs:=ys) (k:=k - xs.length) (by omega)
 rw[List.getElem?_append_right h,h3]at h1
 exact (Option.some.inj h1).symm
theorem fill_step {ab:List UInt8} {k n:Nat} (hn:ab.length=n) (hk:k < n) (y:UInt8) (hy:y=nthG ab k) :
  (encL (ab.take k++List.replicate (n - k) 0)).take k++[.int .u8 (y.toNat:Int)]++(encL (ab.take k++List.replicate (n - k) 0)).drop (k + [Value.int .u8 (y.toNat:Int)].length)=encL (ab.take (k+1)++List.replicate (n - (k+1)) 0):=by
 have h1:(ab.take k).length=k:=by rw[List.length_take];omega
 have h2:List.replicate (n - k) (0:UInt8)=0::List.replicate (n - (k+1)) 0:=by rw[show n - k=(n - (k+1))+1 from by omega,qqC]
 have:=enc_set1 (ab.take k) (List.replicate (n - (k+1)) 0) 0 y
 rw[h1]at this
 rw[h2,List.length_singleton,this,take_snocG (by omega),←hy]
 simp
theorem both_c (xs ys:List UInt8) (p q:Option Addr) (n m c d:Nat) (w0:World) (hn:xs.length=n) (hm:ys.length=m) (hl:n+m≤1073741824) (fx:Stable (fun _=>False) w0 (GlF p xs)) (fy:Stable (fun _=>False) w0 (GlF q ys)) :
  Ret Tryz.prog 216 [.slice p n c,.slice q m d] w0 (fun _=>False) fun v w'=>
  ∃ (p':Option Addr) (c':Nat),v=.slice p' (xs++ys).length c'∧w'.ownsRow 0 5 1 (.slice p' (xs++ys).length c') (xs++ys).length (encL (xs++ys))∧∀ ad,p'=some ad→w0.heap.size≤ad.block:=by
 subst hn hm
 obtain ⟨N,hN⟩:∃ N,N=xs.length+ys.length:=⟨_,rfl⟩
 obtain ⟨zs,hzs⟩:∃ zs,zs=xs++ys:=⟨_,rfl⟩
 have hzl:zs.length=N:=by rw[hzs,List.length_append,hN]
 refine enter Tryz.func216 rfl rfl (Wd.begin (fs:=[GlF p xs,GlF q ys]) (by simp;exact ⟨fx,fy⟩)) (fun a S=>?_)
 simp only[Tryz.ntmps216,qqA,qqB,Nat.reduceAdd,Nat.reduceSub,qqC,qqD,qqE,qqF]at S
 refine kS (kR (sq S ?_));clear S;intro a S;refine kN (xtn (kS (kR ?_)));(iterate 5 (refine sq S ?_;clear S;intro a S))
 rw[w64 ((xs.length:Int)+ys.length) (by omega) (by omega),show (xs.length:Int)+ys.length=((N:Nat):Int) from by omega]at S
 refine smk N S rfl rfl (by omega) (by simp only[maxLen];omega) ?_;clear S;intro g a w S
 rw[show (List.replicate N [Value.int .u8 0]).flatten=encL (zs.take 0++List.replicate (N - 0) (0:UInt8)) from by have:=drop_rep 0 N (Value.int .u8 0);rw[Nat.zero_mul,List.drop_zero,Nat.zero_add]at this;rw[this,List.take_zero,qqF,Nat.sub_zero,enc_rep8]]at S
 refine sq S ?_;clear S;intro a S;refine kN (xtn (kS (kS (kR ?_))));(iterate 3 (refine sq S ?_;clear S;intro a S));refine kN (xtn (kB ?_))
 refine c_forf1 S (fun(k:Nat) uu=>[(6,uu 6),(8,.int .i64 (k:Nat)),(0,uu 16),(0,uu 17),(0,uu 18),(0,uu 19),(0,uu 20),(0,uu 21),(0,uu 22),(0,uu 23),(0,uu 24),(0,uu 25),(0,uu 26),(0,uu 27),(0,uu 28),(0,uu 29),(0,uu 30),(0,uu 31),(0,uu 32),(0,uu 33),(0,uu 34),(0,uu 35),(0,uu 36),(0,uu 37),(0,uu 38),(0,uu 39)]) (fun(k:Nat)=>[Wk.row 5 1 (some ⟨g,0,none⟩) N N (encL (zs.take k++List.replicate (N - k) 0))]) (fun(k:Nat)=>k≤N) (fun(k:Nat)=>N - k) (0) ?_ S.uu ?_ ?_
 exact Nat.zero_le _
 first | exact S | exact S.sub _ _
 clear S;rintro k uu a w hk S;refine kS (kR (sq S ?_));clear S;intro a S;refine kN (xtn (kS ?_))
 refine kC S (fun h3=>?_) (fun h3=>?_)
 refine kK (xtn (kS (kB (kS ?_))))
 have hkl:k < N:=by simp at h3;omega
 have hKN:KLt k N:=⟨hkl⟩
 refine kR ?_;(iterate 2 (refine sq S ?_;clear S;intro a S));refine kN (xtn (kS (kR ?_)));(iterate 4 (refine sq S ?_;clear S;intro a S));refine kN (xtn ?_)
 refine kC S (fun h5=>?_) (fun h5=>?_)
 have hkx:k < xs.length:=by simpa using h5
 have hK:KLt k xs.length:=⟨hkx⟩
 refine kR ?_;(iterate 7 (refine sq S ?_;clear S;intro a S))
 rw[show (⟨g,k,none⟩:Addr)=rAddr (some ⟨g,0,none⟩) k from by rw[rAddr,Option.getD_some,add_lit]]at S
 refine sws S N (by omega) (by omega) ?_;clear S;intro a w S
 rw[fill_step hzl hkl (nthG xs k) (by rw[hzs];exact (nthG_left hkx).symm)]at S
 refine kN (xbn (xtn (kR ?_)));(iterate 2 (refine sq S ?_;clear S;intro a S));refine kN (xtn ?_)
 rw[w64 ((k:Int)+1) (by omega) (by omega)]at S
 exact ⟨k+1,S.uu,hkl,S.sub _ _,by omega⟩
 refine kR ?_;(iterate 6 (refine sq S ?_;clear S;intro a S))
 have hkx:¬k < xs.length:=by simpa using h5
 refine sq S ?_;clear S;intro a S
 rw[w64 ((k:Int) - xs.length) (by omega) (by omega),show (k:Int) - xs.length=((k - xs.length:Nat):Int) from by omega]at S
 have hK:KLt (k - xs.length) ys.length:=⟨by omega⟩
 (iterate 3 (refine sq S ?_;clear S;intro a S))
 rw[show (⟨g,k,none⟩:Addr)=rAddr (some ⟨g,0,none⟩) k from by rw[rAddr,Option.getD_some,add_lit]]at S
 refine sws S N (by omega) (by omega) ?_;clear S;intro a w S
 rw[fill_step hzl hkl (nthG ys (k - xs.length)) (by rw[hzs];exact (nthG_right (by omega) (by omega)).symm)]at S
 refine kN (xbn (xtn (kR ?_)));(iterate 2 (refine sq S ?_;clear S;intro a S));refine kN (xtn ?_)
 rw[w64 ((k:Int)+1) (by omega) (by omega)]at S
 exact ⟨k+1,S.uu,hkl,S.sub _ _,by omega⟩
 refine kE (xte (xte (xbe (xtn (kS (kR ?_))))));(iterate 2 (refine sq S ?_;clear S;intro a S));refine kN (xtn (kT ?_))
 have hk2:k=N:=by simp at h3;omega
 subst hk2
 rw[List.take_of_length_le (by omega),Nat.sub_self,qqD,List.append_nil]at S
 have hrow:=S.row (some ⟨g,0,none⟩) k
 have hnew:=S.rowNew (some ⟨g,0,none⟩) k
 rw[←hzs,hzl]
 exact end1 S (fun _=>⟨_,_,rfl,hrow,fun ad h=>(hnew ad h).elim (fun h=>h.elim) id⟩)
theorem oread_c (bs:List UInt8) (p:Option Addr) (n c:Nat) (w0:World) (hn:bs.length=n) (hl:n≤1000000) (hx:Stable (fun _=>False) w0 (GlF p bs)) :
  Ret Tryz.prog 66 [.slice p n c] w0 (fun _=>False) fun v w'=>∃ (b:Nat) (q:Option Addr) (e:Nat),v=.pointer (some ⟨b,0,none⟩)∧w0.heap.size≤b∧(Wk.box b 238 [.slice q bs.length e,.int .i64 0]).holds w'∧bs.length≤e∧Stable (fun k=>k < w0.heap.size∨k=b) w' (GlF q bs):=by
 subst hn
 refine enter Tryz.func66 rfl rfl (Wd.begin (fs:=[GlF p bs]) (by simpa using hx)) (fun a S=>?_)
 simp only[Tryz.ntmps66,qqA,qqB,Nat.reduceAdd,Nat.reduceSub,qqC,qqD,qqE,qqF]at S
 refine kS (kR (sq S ?_));clear S;intro a S;refine kN (xtn (kS (kR (sq S ?_))));clear S;intro a S
 replace S:=S.addNil 5 1
 refine sap S (by simp[maxLen];omega) (by omega) ?_;clear S;rintro p1 c1 a w - S
 rw[qqF,Nat.zero_add]at S
 have hc1:=own_le (S.row p1 bs.length)
 (iterate 2 (refine sq S ?_;clear S;intro a S));refine sa S ?_;clear S;intro b7 a w S;refine sq S ?_;clear S;intro a S;refine kN (xtn (kT ?_))
 have hb:=(S.boxNew b7).elim (fun h=>h.elim) id
 have hh:=S.box b7
 have hrow:=S.row p1 bs.length
 have hnew:=S.rowNew p1 bs.length
 have hap:=fun k hk=>St.apart2 S (Wk.box b7 238 [.slice p1 bs.length c1,.int .i64 0]) (Wk.row 5 1 p1 bs.length c1 (encL bs)) k hk
 refine end1 S (fun _=>?_)
 refine ⟨b7,p1,c1,rfl,hb,hh,hc1,gl_own hrow (fun _ _ _ _=>trivial) (fun ad had hm=>?_)⟩
 rcases hm with h | h
 exact (hnew ad had).elim (fun h=>h.elim) (fun h2=>by omega)
 exact hap b7 rfl ⟨ad,had,h.symm⟩
def u32B (bs:List UInt8):Int:=IntKind.u32.wrap (numB (bs.take 4) 0)
def u16B (bs:List UInt8):Int:=IntKind.u16.wrap (numB (bs.take 2) 0)
theorem u32_c (b:Nat) (bs:List UInt8) (p:Option Addr) (c:Nat) (w0:World) (hk:4≤bs.length) (hc:bs.length≤c) (hl:bs.length≤1000000) (hb:(Wk.box b 238 [.slice p bs.length c,.int .i64 0]).holds w0) (hx:Stable (fun k=>k=b) w0 (GlF p bs)) :
  Ret Tryz.prog 217 [.pointer (some ⟨b,0,none⟩)] w0 (fun k=>k=b) fun v w'=>v=.int .u32 (u32B bs)∧
   (Wk.box b 238 [.slice (if c=4 then p else p.map (·.add (4*1))) (bs.length - 4) (c - 4),.int .i64 0]).holds w':=by
 refine enter Tryz.func217 rfl rfl (Wd.itLent (x:=Wk.box b 238 [.slice p bs.length c,.int .i64 0]) (fs:=[GlF p bs]) hb (by intro Φ hΦ;obtain rfl:=List.mem_singleton.1 hΦ;exact hx)) (fun a S=>?_)
 simp only[Tryz.ntmps217,qqA,qqB,Nat.reduceAdd,Nat.reduceSub,qqC,qqD,qqE,qqF]at S
 refine kS (kR (sq S ?_));clear S;intro a S;refine kN (xtn (kS (kR (sq S ?_))));clear S;intro a S
 refine sit (Wk.box b 238 [.slice p bs.length c,.int .i64 0]) S (weigh_c b bs p c 4 _ hk hc (by omega) (S.box b) (S.lend (Wk.box b 238 [.slice p bs.length c,.int .i64 0]) (S.mem.fact (GlF p bs)))) rfl ?_;clear S;rintro _ a w ⟨rfl,hbx⟩ hS
 have S:=hS (Wk.box b 238 [.slice (if c=4 then p else p.map (·.add (4*1))) (bs.length - 4) (c - 4),.int .i64 0]) hbx (fun k h=>.inl h)
 clear hS
 (iterate 2 (refine sq S ?_;clear S;intro a S));refine kN (xtn (kT ?_))
 have hh:=S.box b
 refine end1 S (fun _=>?_)
 exact ⟨rfl,hh⟩
theorem u16_c (b:Nat) (bs:List UInt8) (p:Option Addr) (c:Nat) (w0:World) (hk:2≤bs.length) (hc:bs.length≤c) (hl:bs.length≤1000000) (hb:(Wk.box b 238 [.slice p bs.length c,.int .i64 0]).holds w0) (hx:Stable (fun k=>k=b) w0 (GlF p bs)) :
  Ret Tryz.prog 69 [.pointer (some ⟨b,0,none⟩)] w0 (fun k=>k=b) fun v w'=>v=.int .u16 (u16B bs)∧
   (Wk.box b 238 [.slice (if c=2 then p else p.map (·.add (2*1))) (bs.length - 2) (c - 2),.int .i64 0]).holds w':=by
 refine enter Tryz.func69 rfl rfl (Wd.itLent (x:=Wk.box b 238 [.slice p bs.length c,.int .i64 0]) (fs:=[GlF p bs]) hb (by intro Φ hΦ;obtain rfl:=List.mem_singleton.1 hΦ;exact hx)) (fun a S=>?_)
 simp only[Tryz.ntmps69,qqA,qqB,Nat.reduceAdd,Nat.reduceSub,qqC,qqD,qqE,qqF]at S
 refine kS (kR (sq S ?_));clear S;intro a S;refine kN (xtn (kS (kR (sq S ?_))));clear S;intro a S
 refine sit (Wk.box b 238 [.slice p bs.length c,.int .i64 0]) S (weigh_c b bs p c 2 _ hk hc (by omega) (S.box b) (S.lend (Wk.box b 238 [.slice p bs.length c,.int .i64 0]) (S.mem.fact (GlF p bs)))) rfl ?_;clear S;rintro _ a w ⟨rfl,hbx⟩ hS
 have S:=hS (Wk.box b 238 [.slice (if c=2 then p else p.map (·.add (2*1))) (bs.length - 2) (c - 2),.int .i64 0]) hbx (fun k h=>.inl h)
 clear hS
 (iterate 2 (refine sq S ?_;clear S;intro a S));refine kN (xtn (kT ?_))
 have hh:=S.box b
 refine end1 S (fun _=>?_)
 exact ⟨rfl,hh⟩
def turnF (x:Int) (n:Nat):Int:=ior .u32 (x.fdiv (2 ^ (min n IntKind.u32.bits))) (IntKind.u32.wrap (x*2 ^ (min (32 - n) IntKind.u32.bits)))
def pushF (x:Int) (n:Nat):Int:=x.fdiv (2 ^ (min n IntKind.u32.bits))
theorem turned_c (x:Int) (n:Nat) (hn:n≤32) (w0:World):Ret Tryz.prog 274 [.int .u32 x,.int .i64 (n:Int)] w0 (fun _=>False) fun v _=>v=.int .u32 (turnF x n):=by
 refine enter Tryz.func274 rfl rfl (Wd.start w0) (fun a S=>?_)
 simp only[Tryz.ntmps274,qqA,qqB,Nat.reduceAdd,Nat.reduceSub,qqC,qqD,qqE,qqF]at S
 refine kS (kR (sq S ?_));clear S;intro a S;refine kN (xtn (kS ?_));refine c_drawD [(0,true),(1,true),(2,true),(3,true),(4,true),(5,true),(6,true),(7,true),(8,true)] [] S ?_;clear S;intro w S;(iterate 6 (refine dq S ?_;clear S;intro a S))
 rw[show IntKind.i64.wrap (32 - (n:Int))=((32 - n:Nat):Int) from by rw[w64 _ (by omega) (by omega)];omega]at S
 (iterate 3 (refine dq S ?_;clear S;intro a S));refine dn (xtn (kT ?_))
 refine end1 S (fun _=>rfl)
theorem pushed_c (x:Int) (n:Nat) (w0:World):Ret Tryz.prog 273 [.int .u32 x,.int .i64 (n:Int)] w0 (fun _=>False) fun v _=>v=.int .u32 (pushF x n):=by
 refine enter Tryz.func273 rfl rfl (Wd.start w0) (fun a S=>?_)
 simp only[Tryz.ntmps273,qqA,qqB,Nat.reduceAdd,Nat.reduceSub,qqC,qqD,qqE,qqF]at S
 refine kS (kR (sq S ?_));clear S;intro a S;refine kN (xtn (kS (kR ?_)));(iterate 4 (refine sq S ?_;clear S;intro a S));refine kN (xtn (kT ?_))
 refine end1 S (fun _=>rfl)
def mixF (G:Int→Nat→Int) (a b c:Nat) (x:Int):Int:=ixor .u32 (ixor .u32 (turnF x a) (turnF x b)) (G x c)
theorem mix_c (F:Nat) [EntF Tryz.prog F] (G:Int→Nat→Int) (na nb nc:Nat) (x:Int) (ha:na≤32) (hb:nb≤32) (hF:∀ w,Ret Tryz.prog F [.int .u32 x,.int .i64 (nc:Int)] w (fun _=>False) fun v _=>v=.int .u32 (G x nc)) (w0:World) :
  Ret Tryz.prog 276 [.agg ⟨[.int .i64 (na:Int),.int .i64 (nb:Int),.int .i64 (nc:Int),.func (.func F) #[] #[]]⟩,.int .u32 x] w0 (fun _=>False) fun v _=>v=.int .u32 (mixF G na nb nc x):=by
 refine enter Tryz.func276 rfl rfl (Wd.start w0) (fun a S=>?_)
 simp only[Tryz.ntmps276,qqA,qqB,Nat.reduceAdd,Nat.reduceSub,qqC,qqD,qqE,qqF]at S
 refine kS (kR ?_);refine sa S ?_;clear S;intro b2 a w S;refine sq S ?_;clear S;intro a S;refine kN (xtn (kS ?_));refine c_drawD [(0,true),(1,true),(2,true),(4,true),(5,true),(6,true),(9,true),(10,true),(11,true),(12,true),(13,true),(3,false),(7,false),(8,true),(14,false),(15,true),(16,true)] [] S ?_;clear S;intro w S;(iterate 11 (refine dq S ?_;clear S;intro a S));refine dl ?_;refine sr S (turned_c x na ha _) ?_;clear S;rintro _ act w rfl S;refine de S ?_;refine dl ?_;refine sr S (turned_c x nb hb _) ?_;clear S;rintro _ act w rfl S;refine de S ?_;refine dq S ?_;clear S;intro a S;refine dl ?_
 refine sr S (hF _) ?_;clear S;rintro _ act w rfl S;refine de S ?_;(iterate 2 (refine dq S ?_;clear S;intro a S));refine dn (xtn (kT ?_))
 refine end1 S (fun _=>rfl)
theorem pushmix_c (a b c:Nat) (x:Int) (ha:a≤32) (hb:b≤32) (w0:World):Ret Tryz.prog 276 [.agg ⟨[.int .i64 (a:Int),.int .i64 (b:Int),.int .i64 (c:Int),.func (.func 273) #[] #[]]⟩,.int .u32 x] w0 (fun _=>False) fun v _=>v=.int .u32 (mixF pushF a b c x):=mix_c 273 pushF a b c x ha hb (fun w=>pushed_c x c w) w0
theorem turnmix_c (a b c:Nat) (x:Int) (ha:a≤32) (hb:b≤32) (hc:c≤32) (w0:World):Ret Tryz.prog 276 [.agg ⟨[.int .i64 (a:Int),.int .i64 (b:Int),.int .i64 (c:Int),.func (.func 274) #[] #[]]⟩,.int .u32 x] w0 (fun _=>False) fun v _=>v=.int .u32 (mixF turnF a b c x):=mix_c 274 turnF a b c x ha hb (fun w=>turned_c x c hc w) w0
def shaH:List Int:=[1779033703,3144134277,1013904242,2773480762,1359893119,2600822924,528734635,1541459225]
def shaK:List Int:=[0x428a2f98,0x71374491,0xb5c0fbcf,0xe9b5dba5,0x3956c25b,0x59f111f1,
 0x923f82a4,0xab1c5ed5,0xd807aa98,0x12835b01,0x243185be,0x550c7dc3,
 0x72be5d74,0x80deb1fe,0x9bdc06a7,0xc19bf174,0xe49b69c1,0xefbe4786,
 0x0fc19dc6,0x240ca1cc,0x2de92c6f,0x4a7484aa,0x5cb0a9dc,0x76f988da,
 0x983e5152,0xa831c66d,0xb00327c8,0xbf597fc7,0xc6e00bf3,0xd5a79147,
 0x06ca6351,0x14292967,0x27b70a85,0x2e1b2138,0x4d2c6dfc,0x53380d13,
 0x650a7354,0x766a0abb,0x81c2c92e,0x92722c85,0xa2bfe8a1,0xa81a664b,
 0xc24b8b70,0xc76c51a3,0xd192e819,0xd6990624,0xf40e3585,0x106aa070,
 0x19a4c116,0x1e376c08,0x2748774c,0x34b0bcb5,0x391c0cb3,0x4ed8aa4a,
 0x5b9cca4f,0x682e6ff3,0x748f82ee,0x78a5636f,0x84c87814,0x8cc70208,
 0x90befffa,0xa4506ceb,0xbef9a3f7,0xc67178f2]
theorem start_c (w0:World):Ret Tryz.prog 262 [] w0 (fun _=>False) fun v _=>v=.agg ⟨u32s shaH⟩:=by
 refine enter Tryz.func262 rfl rfl (Wd.start w0) (fun a S=>?_)
 simp only[Tryz.ntmps262,qqB,Nat.reduceSub,qqC,qqD,qqF]at S
 refine kS (kR ?_);refine sa S ?_;clear S;intro b0 a w S;refine kN (xtn (kS (kR (sq S ?_))));clear S;intro a S;refine sw S ?_;clear S;intro a w S;refine kN (xtn (kT ?_))
 refine end1 S (fun _=>rfl)
theorem constants_c (w0:World):Ret Tryz.prog 275 [] w0 (fun _=>False) fun v _=>v=.agg ⟨u32s shaK⟩:=by
 refine enter Tryz.func275 rfl rfl (Wd.start w0) (fun a S=>?_)
 simp only[Tryz.ntmps275,qqB,Nat.reduceSub,qqC,qqD,qqF]at S
 refine kS (kR ?_);refine sa S ?_;clear S;intro b0 a w S;refine kN (xtn (kS (kR (sq S ?_))));clear S;intro a S;refine sw S ?_;clear S;intro a w S;refine kN (xtn (kT ?_))
 refine end1 S (fun _=>rfl)
theorem at_c (b1 b2 i t:Nat) (hi:i < 8) (ht:t≤64) (w0:World) (f2:Stable (fun _=>False) w0 (BoxF b2 3 [.int .i64 (t:Int)])):Ret Tryz.prog 277 [.int .i64 (i:Int),.pointer (some ⟨b1,0,none⟩),.pointer (some ⟨b2,0,none⟩)] w0 (fun _=>False) fun v _=>v=.pointer (some ⟨b1,(i+(64 - t)) % 8,none⟩):=by
 refine enter Tryz.func277 rfl rfl (Wd.begin (fs:=[BoxF b2 3 [.int .i64 (t:Int)]]) (by simpa using f2)) (fun a S=>?_)
 simp only[Tryz.ntmps277,qqA,qqB,Nat.reduceAdd,Nat.reduceSub,qqC,qqD,qqE,qqF]at S
 refine kS (kR (sq S ?_));clear S;intro a S;refine kN (xtn (kS (kR ?_)));(iterate 4 (refine sq S ?_;clear S;intro a S))
 have hK:KLt ((i+(64 - t)) % 8) 8:=⟨Nat.mod_lt _ (by omega)⟩
 rw[show iand .i64 (IntKind.i64.wrap ((i:Int) - (t:Int))) 7=(((i+(64 - t)) % 8:Nat):Int) from by rw[w64 _ (by omega) (by omega),iand7 _ ⟨by omega,by omega⟩];omega]at S
 (iterate 2 (refine sq S ?_;clear S;intro a S));refine kN (xtn (kT ?_))
 refine end1 S (fun _=>rfl)
set_option maxHeartbeats 4000000
abbrev a32 (x y:Int):Int:=IntKind.u32.wrap (x+y)
def w16 (bs:List UInt8):List Int:=(List.range 16).map fun i=>u32B (bs.drop (4*i))
theorem w16_len (bs:List UInt8):(w16 bs).length=16:=by simp[w16]
def wordF (t:Nat) (ws:List Int):List Int:=if t < 16 then ws else
 ws.set (t % 16) (a32 (nthI ws (t % 16)) (a32 (a32 (mixF pushF 17 19 10 (nthI ws ((t - 2) % 16))) (nthI ws ((t - 7) % 16))) (mixF pushF 7 18 3 (nthI ws ((t - 15) % 16)))))
abbrev posF (t i:Nat):Nat:=(i+(64 - t)) % 8
def sumF (t:Nat) (K W:Int) (r:List Int):Int:=
 a32 (a32 (a32 (a32 (nthI r (posF t 7)) (mixF turnF 6 11 25 (nthI r (posF t 4)))) (ixor .u32 (nthI r (posF t 6)) (iand .u32 (nthI r (posF t 4)) (ixor .u32 (nthI r (posF t 5)) (nthI r (posF t 6)))))) K) W
def row1F (t:Nat) (K W:Int) (r:List Int):List Int:=r.set (posF t 3) (a32 (nthI r (posF t 3)) (sumF t K W r))
def rowF (t:Nat) (K W:Int) (r:List Int):List Int:=
 (row1F t K W r).set (posF t 7) (a32 (a32 (sumF t K W r) (mixF turnF 2 13 22 (nthI r (posF t 0)))) (ior .u32 (iand .u32 (nthI r (posF t 0)) (nthI r (posF t 2))) (iand .u32 (nthI (row1F t K W r) (posF t 1)) (ior .u32 (nthI r (posF t 0)) (nthI r (posF t 2))))))
def rounds (bs:List UInt8) (h:List Int):Nat→List Int × List Int
 | 0=>(w16 bs,h)
 | t+1=>let (ws,r):=rounds bs h t;let ws':=wordF t ws;(ws',rowF t (nthI shaK t) (nthI ws' (t % 16)) r)
def blockF (h:List Int) (bs:List UInt8):List Int:=(List.range 8).map fun i=>a32 (nthI h i) (nthI (rounds bs h 64).2 i)
theorem wordF_len (t:Nat) (ws:List Int):(wordF t ws).length=ws.length:=by unfold wordF;split <;> simp
theorem rowF_len (t:Nat) (K W:Int) (r:List Int):(rowF t K W r).length=r.length:=by simp[rowF,row1F]
theorem rounds_len (bs:List UInt8) (h:List Int) (t:Nat):(rounds bs h t).1.length=16∧(rounds bs h t).2.length=h.length:=by
 induction t with
 | zero=>exact ⟨w16_len bs,rfl⟩
 | succ t ih=>exact ⟨by rw[rounds];simp only;rw[wordF_len];exact ih.1,by rw[rounds];simp only;rw[rowF_len];exact ih.2⟩
theorem blockF_len (h:List Int) (bs:List UInt8):(blockF h bs).length=8:=by simp[blockF]
theorem set_step {l t:List Int} {k:Nat} (h:k < l.length) (hl:t.length=l.length) (e:l.take k=t.take k):(l.set k (nthI t k)).take (k+1)=t.take (k+1):=by
 rw[List.take_set,List.take_succ_eq_append_getElem h,List.take_succ_eq_append_getElem (by omega),e]
 have h1:(t.take k).length=k:=by rw[List.length_take];omega
 rw[List.set_append_right _ _ (by omega),h1,Nat.sub_self]
 have h2:=nthI_get (show k < t.length by omega)
 rw[List.getElem?_eq_getElem (by omega)]at h2
 rw[←Option.some.inj h2];rfl
theorem w16_get (bs:List UInt8) (k:Nat) (h:k < 16):nthI (w16 bs) k=u32B (bs.drop (4*k)):=by
 simp[nthI,w16,List.getD_eq_getElem?_getD,h]
theorem glBox {w:World} {b:Nat} {T:TypeId} {xs:List UInt8} (h:w.heap[b]? = some (.cells (encL xs).toArray T (0,0))):GlF (some ⟨b,0,none⟩) xs w:=
 ⟨⟨nofun,fun ad had j u hj=>by
  obtain rfl:=Option.some.inj had
  rw[add_lit,cell_of_row w b j _ T (0,0) h]
  simpa using hj⟩,fun _ _=>trivial⟩
theorem glStable {w:World} {p:Option Addr} {xs:List UInt8} (h:GlF p xs w):Stable (fun _=>False) w (GlF p xs):=fun w' hw'=>⟨h.1.stable (fun _ _ h=>h) w' hw',fun _ _=>trivial⟩
theorem Ret.alsoS {P:Program} {f:Nat} {args:List Value} {w:World} {M:Nat→Prop} {R:Value→World→Prop} (h:Ret P f args w M R):Ret P f args w M (fun v w'=>R v w'∧Agree M w w'):=
 Calls.mono h fun _ _ ⟨v,e,ha,hv⟩=>⟨v,e,ha,hv,ha⟩
theorem St.addOld {w0:World} {M0:Nat→Prop} {ds:List Deferred} {a:Act} {w:World} {l:List Value} {x:Wk.Item} {bs:List Wk.Item} {fs:List (World→Prop)} {n:Nat} {Φ:World→Prop} {B:Nat→Prop} (S:St w0 M0 ds a w l (x::bs) fs) (hold:∀ k,foots bs k→k < n) (h:Stable (fun k=>k < n∨B k) w Φ) (hB:∀ k,x.foot k→B k:=by exact fun _ h=>h):St w0 M0 ds a w l (x::bs) (Φ::fs):=
 S.add (h.less fun k _ ⟨it,hi,hk⟩=>by
  rcases List.mem_cons.1 hi with rfl | hi
  exact .inr (hB k hk)
  exact .inl (hold k ⟨it,hi,hk⟩))
theorem block_c (h:List Int) (blk:Blk) (hh:h.length=8) (w0:World):Ret Tryz.prog 264 [.agg ⟨u32s h⟩,vBlk blk] w0 (fun _=>False) fun v _=>v=.agg ⟨u32s (blockF h blk.l)⟩:=by
 have hN8:LenN h 8:=⟨hh⟩
 have hbl:=blk.h
 refine enter Tryz.func264 rfl rfl (Wd.start w0) (fun a S=>?_)
 simp only[Tryz.ntmps264,qqA,qqB,Nat.reduceAdd,Nat.reduceSub,qqC,qqD,qqE,qqF]at S
 refine kS (kR ?_);refine sa S ?_;clear S;intro b2 a w S;refine sa S ?_;clear S;intro b3 a w S;refine sa S ?_;clear S;intro b4 a w S;refine kN (xtn (kS (kR ?_)));(iterate 2 (refine sq S ?_;clear S;intro a S));refine sa S ?_;clear S;intro b5 a w S;refine sa S ?_;clear S;intro b6 a w S;(iterate 2 (refine sw S ?_;clear S;intro a w S));refine kN (xtn (kS (kR ?_)));(iterate 2 (refine sq S ?_;clear S;intro a S));refine sa S ?_;clear S;intro b7 a w S;refine sa S ?_;clear S;intro b8 a w S;(iterate 2 (refine sw S ?_;clear S;intro a w S));refine kN (xtn (kS (kR ?_)));refine sa S ?_;clear S;intro b9 a w S;refine kN (xtn (kS ?_))
 rw[show ([.int .u32 0,.int .u32 0,.int .u32 0,.int .u32 0,.int .u32 0,.int .u32 0,.int .u32 0,.int .u32 0,.int .u32 0,.int .u32 0,.int .u32 0,.int .u32 0,.int .u32 0,.int .u32 0,.int .u32 0,.int .u32 0]:List Value)=u32s (List.replicate 16 0) from rfl]at S
 rw[show ([.int .u32 0,.int .u32 0,.int .u32 0,.int .u32 0,.int .u32 0,.int .u32 0,.int .u32 0,.int .u32 0]:List Value)=u32s (List.replicate 8 0) from rfl]at S
 refine kR (sq S ?_);clear S;intro a S
 have hold:=foots_lt S
 refine snew S (oread_c blk.l (some ⟨b3,0,none⟩) 64 64 _ blk.h (by omega) (glStable (glBox (S.box b3)))) ?_;clear S;rintro _ a w hsz ⟨br,q,e,rfl,hbr,hrd,hqe,hq⟩ hS -
 have S:=hS (Wk.box br 238 [.slice q blk.l.length e,.int .i64 0]) hrd (fun k hk=>by rw[show k=br from hk];exact hbr)
 clear hS
 replace S:=St.addOld S hold hq
 refine sq S ?_;clear S;intro a S;refine kN (xtn (kS (kS (kR (sq S ?_)))));clear S;intro a S;refine kN (xtn (kB ?_))
 refine c_fore4 S (fun(k:Nat) (ws:List Int) (p:Option Addr) (c:Nat) uu=>[(11,uu 11),(17,.int .i64 (k:Nat)),(0,uu 30),(0,uu 31),(0,uu 32),(0,uu 33),(0,uu 34),(0,uu 35),(0,uu 36)]) (fun(k:Nat) (ws:List Int) (p:Option Addr) (c:Nat)=>[Wk.box br 238 [.slice p (blk.l.drop (4*k)).length c,.int .i64 0],Wk.box b9 322 (u32s ws),Wk.box b8 321 [.int .i64 6,.int .i64 11,.int .i64 25,.func (.func 274) #[] #[]],Wk.box b7 321 [.int .i64 2,.int .i64 13,.int .i64 22,.func (.func 274) #[] #[]],Wk.box b6 321 [.int .i64 17,.int .i64 19,.int .i64 10,.func (.func 273) #[] #[]],Wk.box b5 321 [.int .i64 7,.int .i64 18,.int .i64 3,.func (.func 273) #[] #[]],Wk.box b4 313 (u32s (List.replicate 8 0)),Wk.box b3 128 (encL blk.l),Wk.box b2 313 (u32s h)]) (fun(k:Nat) (ws:List Int) (p:Option Addr) (c:Nat)=>[GlF p (blk.l.drop (4*k))]) (fun(k:Nat) (ws:List Int) (p:Option Addr) (c:Nat)=>k≤16∧ws.length=16∧ws.take k=(w16 blk.l).take k∧(blk.l.drop (4*k)).length≤c) (fun(k:Nat) (ws:List Int) (p:Option Addr) (c:Nat)=>16 - k) (0) (List.replicate 16 0) (q) (e) ?_ S.uu ?_ ?_
 ·exact ⟨by omega,by simp,rfl,hqe⟩
 ·exact S
 ·clear S;rintro k ws p c uu a w ⟨hk,hwl,hwt,hkc⟩ S
  refine kS (kR (sq S ?_));clear S;intro a S;refine kN (xtn (kS ?_))
  refine kC S (fun h6=>?_) (fun h6=>?_)
  ·refine kK (xtn (kS (kB (kS ?_))))
   have hk16:k < 16:=by simp at h6;omega
   have hK:KLt k 16:=⟨hk16⟩
   have hK2:KLt k ws.length:=⟨by omega⟩
   have hdl:(blk.l.drop (4*k)).length=64 - 4*k:=by rw[List.length_drop,hbl]
   have hdd:(blk.l.drop (4*k)).length - 4=(blk.l.drop (4*(k+1))).length:=by rw[List.length_drop,List.length_drop];omega
   refine kR ?_;(iterate 2 (refine sq S ?_;clear S;intro a S));refine kN (xtn (kR ?_));(iterate 2 (refine sq S ?_;clear S;intro a S))
   have hf:=S.gl p (xs:=blk.l.drop (4*k))
   refine sit (Wk.box br 238 [.slice p (blk.l.drop (4*k)).length c,.int .i64 0]) S (u32_c br (blk.l.drop (4*k)) p c _ (by omega) hkc (by omega) (S.box br) (S.lend (Wk.box br 238 [.slice p (blk.l.drop (4*k)).length c,.int .i64 0]) (S.mem.fact (GlF p (blk.l.drop (4*k)))))) rfl ?_;clear S;rintro _ a w ⟨rfl,hbx⟩ hS
   have S:=hS (Wk.box br 238 [.slice (if c=4 then p else p.map (·.add (4*1))) ((blk.l.drop (4*k)).length - 4) (c - 4),.int .i64 0]) hbx (fun k h=>.inl h)
   clear hS
   replace S:=S.add (Φ:=GlF (if c=4 then p else p.map (·.add (4*1))) ((blk.l.drop (4*k)).drop 4)) ((S.mem.fact (GlF p (blk.l.drop (4*k)))).imp fun _ h=>h.drop 4 hkc)
   rw[hdd,List.drop_drop,show 4*k+4=4*(k+1) from by omega]at S
   refine sq S ?_;clear S;intro a S;refine sw S ?_;clear S;intro a w S;refine kN (xbn (xtn (kR ?_)));(iterate 2 (refine sq S ?_;clear S;intro a S));refine kN (xtn ?_)
   rw[w64 ((k:Int)+1) (by omega) (by omega)]at S
   rw[←w16_get blk.l k hk16]at S
   exact ⟨k+1,ws.set k (nthI (w16 blk.l) k),(if c=4 then p else p.map (·.add (4*1))),c - 4,S.uu,⟨hk16,by rw[List.length_set];exact hwl,set_step (by omega) (by rw[w16_len,hwl]) hwt,by omega⟩,S.sub _ _,by omega⟩
  ·refine kE (xte (xte (xbe (xtn (kS ?_)))))
   have hk16:k=16:=by simp at h6;omega
   have hws:ws=w16 blk.l:=by
    subst hk16
    rw[List.take_of_length_le (by omega),List.take_of_length_le (by rw[w16_len];exact Nat.le_refl _)]at hwt
    exact hwt
   have hL0:LenN (List.replicate 8 (0:Int)) 8:=⟨by simp⟩
   refine kR (sq S ?_);clear S;intro a S;refine sa S ?_;clear S;intro b12 a w S
   rw[show ([.int .u32 0,.int .u32 0,.int .u32 0,.int .u32 0,.int .u32 0,.int .u32 0,.int .u32 0,.int .u32 0]:List Value)=u32s (List.replicate 8 0) from rfl]at S
   refine sw S ?_;clear S;intro a w S;refine kN (xtn (kS (kS (kR ?_))));refine sr S (constants_c _) ?_;clear S;rintro _ a w rfl S;refine sq S ?_;clear S;intro a S;refine kN (xtn (kB ?_))
   refine c_fore3 S (fun(t:Nat) (ws:List Int) (row:List Int) uu=>[(13,uu 13),(0,uu 14),(0,uu 15),(0,uu 16),(0,uu 17),(0,uu 18),(0,uu 19),(0,uu 20),(0,uu 21),(17,.int .i64 (t:Nat)),(0,uu 40),(0,uu 41),(0,uu 42),(0,uu 43),(0,uu 44),(0,uu 45),(0,uu 46),(0,uu 47),(0,uu 48),(0,uu 49),(0,uu 50),(0,uu 51),(0,uu 52),(0,uu 53),(0,uu 54),(0,uu 55),(0,uu 56),(0,uu 57),(0,uu 58),(0,uu 59),(0,uu 60),(0,uu 61),(0,uu 62),(0,uu 63),(0,uu 64),(0,uu 65),(0,uu 66),(0,uu 67),(0,uu 68),(0,uu 69),(0,uu 70),(0,uu 71),(0,uu 72),(0,uu 73),(0,uu 74),(0,uu 75),(0,uu 76),(0,uu 77),(0,uu 78),(0,uu 79),(0,uu 80),(0,uu 81),(0,uu 82),(0,uu 83),(0,uu 84),(0,uu 85),(0,uu 86),(0,uu 87),(0,uu 88),(0,uu 89),(0,uu 90),(0,uu 91),(0,uu 92),(0,uu 93),(0,uu 94),(0,uu 95),(0,uu 96),(0,uu 97),(0,uu 98),(0,uu 99),(0,uu 100),(0,uu 101),(0,uu 102),(0,uu 103),(0,uu 104),(0,uu 105),(0,uu 106),(0,uu 107),(0,uu 108),(0,uu 109),(0,uu 110),(0,uu 111),(0,uu 112),(0,uu 113),(0,uu 114),(0,uu 115),(0,uu 116),(0,uu 117),(0,uu 118),(0,uu 119),(0,uu 120),(0,uu 121),(0,uu 122),(0,uu 123),(0,uu 124),(0,uu 125),(0,uu 126),(0,uu 127),(0,uu 128),(0,uu 129),(0,uu 130),(0,uu 131),(0,uu 132),(0,uu 133),(0,uu 134),(0,uu 135),(0,uu 136),(0,uu 137),(0,uu 138),(0,uu 139),(0,uu 140),(0,uu 141),(0,uu 142),(0,uu 143),(0,uu 144)]) (fun(t:Nat) (ws:List Int) (row:List Int)=>[Wk.box b12 313 (u32s row),Wk.box b9 322 (u32s ws),Wk.box b8 321 [.int .i64 6,.int .i64 11,.int .i64 25,.func (.func 274) #[] #[]],Wk.box b7 321 [.int .i64 2,.int .i64 13,.int .i64 22,.func (.func 274) #[] #[]],Wk.box b6 321 [.int .i64 17,.int .i64 19,.int .i64 10,.func (.func 273) #[] #[]],Wk.box b5 321 [.int .i64 7,.int .i64 18,.int .i64 3,.func (.func 273) #[] #[]],Wk.box b4 313 (u32s (List.replicate 8 0)),Wk.box b2 313 (u32s h)]) (fun(t:Nat) (ws:List Int) (row:List Int)=>[]) (fun(t:Nat) (ws:List Int) (row:List Int)=>t≤64∧rounds blk.l h t=(ws,row)) (fun(t:Nat) (ws:List Int) (row:List Int)=>64 - t) (0) (ws) (h) ?_ S.uu ?_ ?_
   ·exact ⟨by omega,by rw[hws];rfl⟩
   ·first | exact S | exact S.sub _ _
   ·clear S;rintro t ws row uu a w ⟨ht,hrt⟩ S
    refine kS (kR (sq S ?_));clear S;intro a S;refine kN (xtn (kS ?_))
    refine kC S (fun h12=>?_) (fun h12=>?_)
    ·refine kK (xtn (kS (kB (kS ?_))))
     have ht64:t < 64:=by simp at h12;omega
     have hlen:=rounds_len blk.l h t
     rw[hrt]at hlen
     have hwl2:ws.length=16:=hlen.1
     have hrl:row.length=8:=hlen.2.trans hh
     have hKt:KLt t shaK.length:=⟨ht64⟩
     have hLK:LenN shaK 64:=⟨rfl⟩
     have hK16:KLt (t % 16) 16:=⟨Nat.mod_lt _ (by omega)⟩
     have hKw:KLt (t % 16) ws.length:=⟨by omega⟩
     have hp:∀ i,posF t i < 8:=fun i=>Nat.mod_lt _ (by omega)
     have hK0:KLt (posF t 0) row.length:=⟨by rw[hrl];exact hp 0⟩
     have hK1:KLt (posF t 1) row.length:=⟨by rw[hrl];exact hp 1⟩
     have hK2:KLt (posF t 2) row.length:=⟨by rw[hrl];exact hp 2⟩
     have hK3:KLt (posF t 3) row.length:=⟨by rw[hrl];exact hp 3⟩
     have hK4:KLt (posF t 4) row.length:=⟨by rw[hrl];exact hp 4⟩
     have hK5:KLt (posF t 5) row.length:=⟨by rw[hrl];exact hp 5⟩
     have hK6:KLt (posF t 6) row.length:=⟨by rw[hrl];exact hp 6⟩
     have hK7:KLt (posF t 7) row.length:=⟨by rw[hrl];exact hp 7⟩
     refine kR ?_;(iterate 2 (refine sq S ?_;clear S;intro a S));refine sa S ?_;clear S;intro b13 a w S;refine sw S ?_;clear S;intro a w S;refine sq S ?_;clear S;intro a S;refine kN (xtn (kS (kR ?_)));(iterate 2 (refine sq S ?_;clear S;intro a S))
     rw[show (t:Int).tmod 16=((t % 16:Nat):Int) from by rw[Int.tmod_eq_emod_of_nonneg (by omega)];omega]at S
     (iterate 2 (refine sq S ?_;clear S;intro a S));refine kN (xtn ?_)
     refine c_mrge1 S (fun(ws1:List Int) uu=>[(46,uu 46),(0,uu 47),(0,uu 48),(0,uu 49),(0,uu 50),(0,uu 51),(0,uu 52),(0,uu 53),(0,uu 54),(0,uu 55),(0,uu 56),(0,uu 57),(0,uu 58),(0,uu 59),(0,uu 60),(0,uu 61),(0,uu 62),(0,uu 63),(0,uu 64),(0,uu 65),(0,uu 66),(0,uu 67),(0,uu 68),(0,uu 69),(0,uu 70),(0,uu 71),(0,uu 72),(0,uu 73)]) (fun(ws1:List Int)=>[Wk.box b13 3 [.int .i64 (t:Int)],Wk.box b12 313 (u32s row),Wk.box b9 322 (u32s ws1),Wk.box b8 321 [.int .i64 6,.int .i64 11,.int .i64 25,.func (.func 274) #[] #[]],Wk.box b7 321 [.int .i64 2,.int .i64 13,.int .i64 22,.func (.func 274) #[] #[]],Wk.box b6 321 [.int .i64 17,.int .i64 19,.int .i64 10,.func (.func 273) #[] #[]],Wk.box b5 321 [.int .i64 7,.int .i64 18,.int .i64 3,.func (.func 273) #[] #[]],Wk.box b4 313 (u32s (List.replicate 8 0)),Wk.box b2 313 (u32s h)]) (fun(ws1:List Int)=>[]) (fun(ws1:List Int)=>ws1=wordF t ws) ?_ ?_
     ·refine kS (kR ?_);(iterate 2 (refine sq S ?_;clear S;intro a S));refine kN (xtn ?_)
      refine kC S (fun h15=>?_) (fun h15=>?_)
      ·have ht16:16≤t:=by simp at h15;omega
       have hKa:KLt ((t - 2) % 16) 16:=⟨Nat.mod_lt _ (by omega)⟩
       have hKa2:KLt ((t - 2) % 16) ws.length:=⟨by omega⟩
       have hKb:KLt ((t - 7) % 16) 16:=⟨Nat.mod_lt _ (by omega)⟩
       have hKb2:KLt ((t - 7) % 16) ws.length:=⟨by omega⟩
       have hKc:KLt ((t - 15) % 16) 16:=⟨Nat.mod_lt _ (by omega)⟩
       have hKc2:KLt ((t - 15) % 16) ws.length:=⟨by omega⟩
       have hna:NeK ((t - 2) % 16) (t % 16):=⟨by omega⟩
       have hnb:NeK ((t - 7) % 16) (t % 16):=⟨by omega⟩
       have hnc:NeK ((t - 15) % 16) (t % 16):=⟨by omega⟩
       have hx:=S.box b9
       have hlt9:b9 < w.heap.size:=(Array.getElem?_eq_some_iff.1 hx).1
       replace S:=S.hideK b9 322 ws (t % 16) inferInstance
       refine c_drwHe0 (.q 0 (.q 1 (.q 3 (.q 4 (.q 5 (.q 6 (.q 7 (.q 8 (.q 10 (.q 11 (.q 12 (.q 13 (.q 14 (.q 16 (.q 17 (.q 18 (.q 19 (.q 20 (.q 21 (.b2 2 9 (.l 9 (.q 15 (.l 22 (.q 23 (.q 24 (.q 25 (.l 26 (.e)))))))) (.q 15 (.b2 2 22 (.l 22 (.q 23 (.q 24 (.q 25 (.l 26 (.e)))))) (.q 23 (.l 2 (.q 24 (.q 25 (.l 26 (.e)))))))))))))))))))))))))))) S (fun  uu=>[(48,uu 48),(0,uu 49),(0,uu 50),(0,uu 51),(0,uu 52),(0,uu 53),(0,uu 54),(0,uu 55),(0,uu 56),(0,uu 57),(0,uu 58),(0,uu 59),(0,uu 60),(0,uu 61),(0,uu 62),(0,uu 63),(0,uu 64),(0,uu 65),(0,uu 66),(0,uu 67),(0,uu 68),(0,uu 69),(0,uu 70),(0,uu 71),(0,uu 72),(0,uu 73)]) [Wk.box b13 3 [.int .i64 (t:Int)],Wk.box b12 313 (u32s row),bxk b9 322 ws (t % 16),Wk.box b8 321 [.int .i64 6,.int .i64 11,.int .i64 25,.func (.func 274) #[] #[]],Wk.box b7 321 [.int .i64 2,.int .i64 13,.int .i64 22,.func (.func 274) #[] #[]],Wk.box b6 321 [.int .i64 17,.int .i64 19,.int .i64 10,.func (.func 273) #[] #[]],Wk.box b5 321 [.int .i64 7,.int .i64 18,.int .i64 3,.func (.func 273) #[] #[]],Wk.box b4 313 (u32s (List.replicate 8 0)),Wk.box b2 313 (u32s h)] ([Wk.box b13 3 [.int .i64 (t:Int)],Wk.box b12 313 (u32s row),Wk.box b9 322 (u32s (wordF t ws)),Wk.box b8 321 [.int .i64 6,.int .i64 11,.int .i64 25,.func (.func 274) #[] #[]],Wk.box b7 321 [.int .i64 2,.int .i64 13,.int .i64 22,.func (.func 274) #[] #[]],Wk.box b6 321 [.int .i64 17,.int .i64 19,.int .i64 10,.func (.func 273) #[] #[]],Wk.box b5 321 [.int .i64 7,.int .i64 18,.int .i64 3,.func (.func 273) #[] #[]],Wk.box b4 313 (u32s (List.replicate 8 0)),Wk.box b2 313 (u32s h)]) ([]) (True) ?_ ?_
       ·intro w hheap S
        replace hx:w.heap[b9]? = some (.cells (u32s ws).toArray 322 (0,0)):=by rw[hheap];exact hx
        (iterate 5 (refine tq S ?_;clear S;intro a S))
        rw[show IntKind.i64.wrap ((t:Int) - 2)=((t - 2:Nat):Int) from by rw[w64 _ (by omega) (by omega)];omega]at S
        refine tq S ?_;clear S;intro a S
        rw[show ((t - 2:Nat):Int).tmod 16=(((t - 2) % 16:Nat):Int) from by rw[Int.tmod_eq_emod_of_nonneg (by omega)];omega]at S
        (iterate 4 (refine tq S ?_;clear S;intro a S))
        rw[show IntKind.i64.wrap ((t:Int) - 7)=((t - 7:Nat):Int) from by rw[w64 _ (by omega) (by omega)];omega]at S
        refine tq S ?_;clear S;intro a S
        rw[show ((t - 7:Nat):Int).tmod 16=(((t - 7) % 16:Nat):Int) from by rw[Int.tmod_eq_emod_of_nonneg (by omega)];omega]at S
        (iterate 5 (refine tq S ?_;clear S;intro a S))
        rw[show IntKind.i64.wrap ((t:Int) - 15)=((t - 15:Nat):Int) from by rw[w64 _ (by omega) (by omega)];omega]at S
        refine tq S ?_;clear S;intro a S
        rw[show ((t - 15:Nat):Int).tmod 16=(((t - 15) % 16:Nat):Int) from by rw[Int.tmod_eq_emod_of_nonneg (by omega)];omega]at S
        (iterate 2 (refine tq S ?_;clear S;intro a S))
        refine tb2 ?_ ?_
        ·refine sl1 (.int .u32 (nthI ws (t % 16))) S (by rw[cell_of_row _ b9 (t % 16) _ 322 (0,0) hx];simpa using u32s_get (l:=ws) (k:=t % 16) (by omega)) ?_;clear S;intro a S
         refine te S ?_;refine tl ?_
         refine sr S (Ret.alsoS (pushmix_c 17 19 10 (nthI ws ((t - 2) % 16)) (by omega) (by omega) _)) ?_;clear S;rintro _ a w ⟨rfl,hag⟩ S
         replace hx:=(hag.blk (Array.getElem?_eq_some_iff.1 hx).1 (fun h=>h)).trans hx
         clear hag
         refine te S ?_;refine tq S ?_;clear S;intro a S;refine tl ?_
         refine sr S (Ret.alsoS (pushmix_c 7 18 3 (nthI ws ((t - 15) % 16)) (by omega) (by omega) _)) ?_;clear S;rintro _ a w ⟨rfl,hag⟩ S
         replace hx:=(hag.blk (Array.getElem?_eq_some_iff.1 hx).1 (fun h=>h)).trans hx
         clear hag
         refine te S ?_;(iterate 3 (refine tq S ?_;clear S;intro a S));refine tl ?_
         refine swk b9 322 ws (t % 16) S (by omega) hx ?_;clear S hx;intro a w hx S
         refine te S ?_;refine tn ?_
         have e:wordF t ws=ws.set (t % 16) (a32 (nthI ws (t % 16)) (a32 (a32 (mixF pushF 17 19 10 (nthI ws ((t - 2) % 16))) (nthI ws ((t - 7) % 16))) (mixF pushF 7 18 3 (nthI ws ((t - 15) % 16))))):=by rw[wordF,if_neg (by omega)]
         replace S:=S.showK b9 322 ws (wordF t ws) (t % 16) (by rw[e];exact hx)
         exact ⟨S.uu,trivial,S.sub _ _⟩
        ·refine sr S (Ret.alsoS (pushmix_c 17 19 10 (nthI ws ((t - 2) % 16)) (by omega) (by omega) _)) ?_;clear S;rintro _ a w ⟨rfl,hag⟩ S
         replace hx:=(hag.blk (Array.getElem?_eq_some_iff.1 hx).1 (fun h=>h)).trans hx
         clear hag
         refine te S ?_;refine tq S ?_;clear S;intro a S
         refine tb2 ?_ ?_
         ·refine sl1 (.int .u32 (nthI ws (t % 16))) S (by rw[cell_of_row _ b9 (t % 16) _ 322 (0,0) hx];simpa using u32s_get (l:=ws) (k:=t % 16) (by omega)) ?_;clear S;intro a S
          refine te S ?_;refine tl ?_
          refine sr S (Ret.alsoS (pushmix_c 7 18 3 (nthI ws ((t - 15) % 16)) (by omega) (by omega) _)) ?_;clear S;rintro _ a w ⟨rfl,hag⟩ S
          replace hx:=(hag.blk (Array.getElem?_eq_some_iff.1 hx).1 (fun h=>h)).trans hx
          clear hag
          refine te S ?_;(iterate 3 (refine tq S ?_;clear S;intro a S));refine tl ?_
          refine swk b9 322 ws (t % 16) S (by omega) hx ?_;clear S hx;intro a w hx S
          refine te S ?_;refine tn ?_
          have e:wordF t ws=ws.set (t % 16) (a32 (nthI ws (t % 16)) (a32 (a32 (mixF pushF 17 19 10 (nthI ws ((t - 2) % 16))) (nthI ws ((t - 7) % 16))) (mixF pushF 7 18 3 (nthI ws ((t - 15) % 16))))):=by rw[wordF,if_neg (by omega)]
          replace S:=S.showK b9 322 ws (wordF t ws) (t % 16) (by rw[e];exact hx)
          exact ⟨S.uu,trivial,S.sub _ _⟩
         ·refine sr S (Ret.alsoS (pushmix_c 7 18 3 (nthI ws ((t - 15) % 16)) (by omega) (by omega) _)) ?_;clear S;rintro _ a w ⟨rfl,hag⟩ S
          replace hx:=(hag.blk (Array.getElem?_eq_some_iff.1 hx).1 (fun h=>h)).trans hx
          clear hag
          refine te S ?_;refine tq S ?_;clear S;intro a S;refine tl ?_
          refine sl1 (.int .u32 (nthI ws (t % 16))) S (by rw[cell_of_row _ b9 (t % 16) _ 322 (0,0) hx];simpa using u32s_get (l:=ws) (k:=t % 16) (by omega)) ?_;clear S;intro a S
          refine te S ?_;(iterate 2 (refine tq S ?_;clear S;intro a S));refine tl ?_
          refine swk b9 322 ws (t % 16) S (by omega) hx ?_;clear S hx;intro a w hx S
          refine te S ?_;refine tn ?_
          have e:wordF t ws=ws.set (t % 16) (a32 (nthI ws (t % 16)) (a32 (a32 (mixF pushF 17 19 10 (nthI ws ((t - 2) % 16))) (nthI ws ((t - 7) % 16))) (mixF pushF 7 18 3 (nthI ws ((t - 15) % 16))))):=by rw[wordF,if_neg (by omega)]
          replace S:=S.showK b9 322 ws (wordF t ws) (t % 16) (by rw[e];exact hx)
          exact ⟨S.uu,trivial,S.sub _ _⟩
       clear S;rintro  uu a w - S;refine xtn ?_
       exact ⟨wordF t ws,S.uu,rfl,S.sub _ _⟩
      ·refine kK (xtn ?_)
       have ht16:t < 16:=by simp at h15;omega
       have e:wordF t ws=ws:=by rw[wordF,if_pos ht16]
       exact ⟨ws,S.uu,e.symm,S.sub _ _⟩
     ·clear S;rintro ws1 uu a w hws1 S;refine kS ?_
      have hKw1:KLt (t % 16) ws1.length:=⟨by rw[hws1,wordF_len];omega⟩
      refine kR ?_;(iterate 2 (refine sq S ?_;clear S;intro a S));refine kN (xtn (kS ?_));refine c_drawD [(0,true),(4,true),(8,true),(12,true),(1,false),(2,true),(3,true),(5,false),(6,true),(7,true),(9,false),(10,true),(11,true),(13,false),(14,true),(15,true),(16,true),(17,true),(18,true),(19,true)] [] S ?_;clear S;intro w S;(iterate 4 (refine dq S ?_;clear S;intro a S));refine dl ?_
      refine sr S (at_c b12 b13 0 t (by omega) ht _ (BoxF.stable (S.boxF b13) (fun h=>h))) ?_;clear S;rintro _ a w rfl S
      refine de S ?_;(iterate 2 (refine dq S ?_;clear S;intro a S));refine dl ?_
      refine sr S (at_c b12 b13 2 t (by omega) ht _ (BoxF.stable (S.boxF b13) (fun h=>h))) ?_;clear S;rintro _ a w rfl S
      refine de S ?_;(iterate 2 (refine dq S ?_;clear S;intro a S));refine dl ?_
      refine sr S (at_c b12 b13 4 t (by omega) ht _ (BoxF.stable (S.boxF b13) (fun h=>h))) ?_;clear S;rintro _ a w rfl S
      refine de S ?_;(iterate 2 (refine dq S ?_;clear S;intro a S));refine dl ?_
      refine sr S (at_c b12 b13 6 t (by omega) ht _ (BoxF.stable (S.boxF b13) (fun h=>h))) ?_;clear S;rintro _ a w rfl S
      refine de S ?_;(iterate 6 (refine dq S ?_;clear S;intro a S));refine dn (xtn (kS ?_));refine c_drawD [(0,true),(4,true),(5,true),(8,true),(9,true),(10,true),(14,true),(19,true),(21,true),(22,true),(23,true),(1,false),(2,true),(3,true),(6,false),(7,true),(11,false),(12,true),(13,true),(15,true),(16,true),(17,true),(18,true),(20,true),(24,true),(25,true)] [] S ?_;clear S;intro w S;(iterate 11 (refine dq S ?_;clear S;intro a S));refine dl ?_
      refine sr S (at_c b12 b13 7 t (by omega) ht _ (BoxF.stable (S.boxF b13) (fun h=>h))) ?_;clear S;rintro _ a w rfl S
      refine de S ?_;(iterate 2 (refine dq S ?_;clear S;intro a S));refine dl ?_
      refine sr S (turnmix_c 6 11 25 _ (by omega) (by omega) (by omega) _) ?_;clear S;rintro _ a w rfl S
      refine de S ?_;refine dq S ?_;clear S;intro a S;refine dl ?_
      refine sr S (at_c b12 b13 5 t (by omega) ht _ (BoxF.stable (S.boxF b13) (fun h=>h))) ?_;clear S;rintro _ a w rfl S
      refine de S ?_;(iterate 9 (refine dq S ?_;clear S;intro a S));refine dn (xtn (kS ?_))
      have e:=Eq.refl (sumF t (nthI shaK t) (nthI ws1 (t % 16)) row)
      conv at e=>rhs;simp only[sumF,a32,posF]
      rw[←e]at S
      clear e
      refine kR (sq S ?_);clear S;intro a S
      refine sr S (at_c b12 b13 3 t (by omega) ht _ (BoxF.stable (S.boxF b13) (fun h=>h))) ?_;clear S;rintro _ a w rfl S
      (iterate 5 (refine sq S ?_;clear S;intro a S));refine sw S ?_;clear S;intro a w S
      rw[show row.set ((3+(64 - t)) % 8) (IntKind.u32.wrap (nthI row ((3+(64 - t)) % 8)+sumF t (nthI shaK t) (nthI ws1 (t % 16)) row))=row1F t (nthI shaK t) (nthI ws1 (t % 16)) row from rfl]at S
      have hr1:(row1F t (nthI shaK t) (nthI ws1 (t % 16)) row).length=8:=by rw[row1F,List.length_set,hrl]
      have hK1b:KLt (posF t 1) (row1F t (nthI shaK t) (nthI ws1 (t % 16)) row).length:=⟨by rw[hr1];exact hp 1⟩
      have hK7b:KLt (posF t 7) (row1F t (nthI shaK t) (nthI ws1 (t % 16)) row).length:=⟨by rw[hr1];exact hp 7⟩
      refine kN (xtn ?_)
      refine' c_drawT0 (.q 0 (.q 2 (.q 3 (.q 4 (.q 7 (.q 8 (.q 9 (.q 10 (.q 14 (.q 15 (.q 16 (.l 1 (.l 5 (.q 6 (.l 11 (.q 12 (.l 13 (.q 17 (.q 18 (.q 19 (.q 20 (.l 21 (.e))))))))))))))))))))))) [b12] S ?_ ?_
      rotate_left 3
      ·intro w S
       (iterate 11 (refine tq S ?_;clear S;intro a S));refine tl ?_
       refine sr S (at_c b12 b13 7 t (by omega) ht _ (BoxF.stable (S.boxF b13) (fun h=>h))) ?_;clear S;rintro _ a w rfl S
       refine te S ?_;refine tl ?_
       refine sr S (turnmix_c 2 13 22 _ (by omega) (by omega) (by omega) _) ?_;clear S;rintro _ a w rfl S
       refine te S ?_;refine tq S ?_;clear S;intro a S;refine tl ?_
       refine sr S (at_c b12 b13 1 t (by omega) ht _ (BoxF.stable (S.boxF b13) (fun h=>h))) ?_;clear S;rintro _ a w rfl S
       refine te S ?_;refine tq S ?_;clear S;intro a S;refine tl (sq S ?_);clear S;intro a S;refine te S ?_;(iterate 4 (refine tq S ?_;clear S;intro a S));refine tl (sw S ?_);clear S;intro a w S;refine te S ?_;refine tn ?_
       exact S
      intro  a w S
      refine xbn (xtn (kR ?_));(iterate 2 (refine sq S ?_;clear S;intro a S));refine kN (xtn ?_)
      have e:=Eq.refl (rowF t (nthI shaK t) (nthI ws1 (t % 16)) row)
      conv at e=>rhs;simp only[rowF,a32,posF]
      rw[←e]at S
      clear e
      rw[w64 ((t:Int)+1) (by omega) (by omega)]at S
      refine ⟨t+1,ws1,rowF t (nthI shaK t) (nthI ws1 (t % 16)) row,S.uu,⟨by omega,?_⟩,S.sub _ _,by omega⟩
      rw[rounds,hrt,hws1]
    ·refine kE (xte (xte (xbe (xtn (kS (kS ?_))))))
     have ht64:t=64:=by simp at h12;omega
     subst ht64
     have hlen:=rounds_len blk.l h 64
     rw[hrt]at hlen
     have hrl:row.length=8:=hlen.2.trans hh
     refine kR (sq S ?_);clear S;intro a S;refine kN (xtn (kB ?_))
     refine c_fore2 S (fun(i:Nat) (g:List Int) uu=>[(22,uu 22),(122,.int .i64 (i:Nat)),(0,uu 146),(0,uu 147),(0,uu 148),(0,uu 149),(0,uu 150),(0,uu 151),(0,uu 152),(0,uu 153),(0,uu 154),(0,uu 155),(0,uu 156)]) (fun(i:Nat) (g:List Int)=>[Wk.box b12 313 (u32s row),Wk.box b4 313 (u32s (List.replicate 8 0)),Wk.box b2 313 (u32s g)]) (fun(i:Nat) (g:List Int)=>[]) (fun(i:Nat) (g:List Int)=>i≤8∧g.length=8∧g.take i=(blockF h blk.l).take i∧g.drop i=h.drop i) (fun(i:Nat) (g:List Int)=>8 - i) (0) (h) ?_ S.uu ?_ ?_
     ·exact ⟨by omega,hh,rfl,rfl⟩
     ·first | exact S | exact S.sub _ _
     ·clear S;rintro i g uu a w ⟨hi,hgl,hgt,hgd⟩ S
      refine kS (kR (sq S ?_));clear S;intro a S;refine kN (xtn (kS ?_))
      refine kC S (fun h24=>?_) (fun h24=>?_)
      ·refine kK (xtn (kS (kB (kS ?_))))
       have hi8:i < 8:=by simp at h24;omega
       have hKi:KLt i 8:=⟨hi8⟩
       have hKi2:KLt i g.length:=⟨by omega⟩
       have hKi3:KLt i row.length:=⟨by omega⟩
       have hgi:nthI g i=nthI h i:=by
        have:=congrArg (fun l=>l[0]?) hgd
        simp only[List.getElem?_drop,Nat.add_zero]at this
        rw[nthI_get (by omega),nthI_get (by omega)]at this
        exact Option.some.inj this
       have hbi:nthI (blockF h blk.l) i=a32 (nthI h i) (nthI row i):=by
        have:(rounds blk.l h 64).2=row:=by rw[hrt]
        rw[←this]
        simp[nthI,blockF,List.getD_eq_getElem?_getD,hi8]
       refine kR ?_;(iterate 2 (refine sq S ?_;clear S;intro a S));refine kN (xtn ?_)
       refine' c_drawT0 (.q 0 (.q 1 (.q 3 (.q 4 (.q 5 (.l 2 (.q 6 (.q 7 (.l 8 (.e)))))))))) [b2] S ?_ ?_
       rotate_left 3
       ·intro w S
        (iterate 5 (refine tq S ?_;clear S;intro a S));refine tl (sq S ?_);clear S;intro a S;refine te S ?_;(iterate 2 (refine tq S ?_;clear S;intro a S));refine tl (sw S ?_);clear S;intro a w S;refine te S ?_;refine tn ?_
        exact S
       intro  a w S
       refine xbn (xtn (kR ?_));(iterate 2 (refine sq S ?_;clear S;intro a S));refine kN (xtn ?_)
       rw[w64 ((i:Int)+1) (by omega) (by omega),hgi,show IntKind.u32.wrap (nthI h i+nthI row i)=nthI (blockF h blk.l) i from hbi.symm]at S
       refine ⟨i+1,g.set i (nthI (blockF h blk.l) i),S.uu,⟨by omega,by rw[List.length_set];exact hgl,set_step (by omega) (by rw[blockF_len,hgl]) hgt,?_⟩,S.sub _ _,by omega⟩
       rw[List.drop_set_of_lt (by omega),←List.drop_drop,hgd,List.drop_drop]
      ·refine kE (xte (xte (xbe (xtn (kS ?_)))))
       have hi8:i=8:=by simp at h24;omega
       have hg8:LenN g 8:=⟨hgl⟩
       have hL0:LenN (List.replicate 8 (0:Int)) 8:=⟨by simp⟩
       have hgb:g=blockF h blk.l:=by
        subst hi8
        rw[List.take_of_length_le (by omega),List.take_of_length_le (by rw[blockF_len];exact Nat.le_refl _)]at hgt
        exact hgt
       refine kR (sq S ?_);clear S;intro a S;refine sw S ?_;clear S;intro a w S;refine kN (xtn (kT ?_))
       refine end1 S (fun _=>?_)
       rw[hgb]
def padF (bs:List UInt8):List UInt8:=bs++[128]++List.replicate ((119 - bs.length % 64) % 64) 0++be 8 (8*(bs.length:Int))
theorem padF_len (bs:List UInt8):(padF bs).length=bs.length+1+(119 - bs.length % 64) % 64+8:=by
 unfold padF;rw[List.length_append,List.length_append,List.length_append,be_len,List.length_replicate];rfl
theorem pad_c (bs:List UInt8) (p:Option Addr) (n c:Nat) (w0:World) (hn:bs.length=n) (hl:n≤1000000) (hx:Stable (fun _=>False) w0 (SlF p (encL bs))) :
  Ret Tryz.prog 263 [.slice p n c] w0 (fun _=>False) fun r w'=>∃ g,r=.slice (some ⟨g,0,none⟩) (padF bs).length (padF bs).length∧w0.heap.size≤g∧w'.ownsRow 0 5 1 (.slice (some ⟨g,0,none⟩) (padF bs).length (padF bs).length) (padF bs).length (encL (padF bs)):=by
 have hln:LenN bs n:=⟨hn⟩
 have hpl:=padF_len bs
 refine enter Tryz.func263 rfl rfl (Wd.begin (fs:=[SlF p (encL bs)]) (by simpa using hx)) (fun a S=>?_)
 simp only[Tryz.ntmps263,qqA,qqB,Nat.reduceAdd,Nat.reduceSub,qqC,qqD,qqE,qqF]at S
 refine kS (kR (sq S ?_));clear S;intro a S;refine kN (xtn (kS (kR ?_)));(iterate 5 (refine sq S ?_;clear S;intro a S))
 rw[w64 ((n:Int)+72) (by omega) (by omega)]at S
 refine smkc n (n+72) S rfl (by omega) (by omega) (by omega) (by simp only[maxLen];omega) ?_;clear S;intro g a w S
 refine sq S ?_;clear S;intro a S;refine kN (xtn (kS (kR ?_)));(iterate 2 (refine sq S ?_;clear S;intro a S))
 refine scp S (by omega) ?_;clear S;intro a w S
 rw[show encL bs++(encL (List.replicate n (0:UInt8))).drop (n*1)=encL bs from by rw[List.drop_of_length_le (by rw[encL_len,List.length_replicate];exact Nat.le_refl _),List.append_nil]]at S
 refine kN (xtn (kS (kR (sq S ?_))));clear S;intro a S;refine sn S ?_;clear S;intro b14 a w S
 refine sap S (by simp only[maxLen];omega) (by omega) ?_;clear S;rintro p3 c3 a w - S
 rw[show encL bs++[.int .u8 128]=encL (bs++[128]) from by rw[encL_append];rfl]at S
 refine sq S ?_;clear S;intro a S;refine kN (xtn (kS (kR ?_)));(iterate 4 (refine sq S ?_;clear S;intro a S))
 rw[show (n:Int).tmod 64=((n % 64:Nat):Int) from by rw[Int.tmod_eq_emod_of_nonneg (by omega)];omega]at S
 refine sq S ?_;clear S;intro a S
 rw[show IntKind.i64.wrap (119 - ((n % 64:Nat):Int))=((119 - n % 64:Nat):Int) from by rw[w64 _ (by omega) (by omega)];omega]at S
 refine sq S ?_;clear S;intro a S
 rw[show ((119 - n % 64:Nat):Int).tmod 64=(((119 - n % 64) % 64:Nat):Int) from by rw[Int.tmod_eq_emod_of_nonneg (by omega)];omega]at S
 refine sapz1 p3 (n+1) (m:=(119 - n % 64) % 64) S (by omega) (by simp only[maxLen];omega) (by omega) ?_;clear S;intro p4 c4 a w S
 rw[←encL_append]at S
 refine sq S ?_;clear S;intro a S;refine kN (xtn (kS (kR ?_)));(iterate 4 (refine sq S ?_;clear S;intro a S))
 rw[wu64 (n:Int) (by omega) (by omega)]at S
 refine sq S ?_;clear S;intro a S
 rw[wu64 (8*(n:Int)) (by omega) (by omega)]at S
 refine srn S (put64_c p4 (n+1+(119 - n % 64) % 64) c4 (bs++[128]++List.replicate ((119 - n % 64) % 64) 0) (8*(n:Int)) _ (by rw[List.length_append,List.length_append,List.length_replicate,hn];rfl) (by omega) (by omega) (by omega) ((own_sl (S.row p4 (n+1+(119 - n % 64) % 64))).stable (fun _ _ h=>h))) ?_;clear S;rintro _ a w ⟨g2,rfl,hg2,hown⟩ hS -
 have S:=hS hown (fun ad h=>by cases h;exact hg2)
 clear hS
 have e1:n+1+(119 - n % 64) % 64+8=(padF bs).length:=by rw[hpl,hn]
 have e2:bs++[128]++List.replicate ((119 - n % 64) % 64) 0++be 8 (8*(n:Int))=padF bs:=by rw[padF,hn]
 rw[e1,e2]at S
 refine sq S ?_;clear S;intro a S;refine kN (xtn (kT ?_))
 have hrow:=S.row (some ⟨g2,0,none⟩) (padF bs).length
 have hnew:=S.rowNew (some ⟨g2,0,none⟩) (padF bs).length
 refine end1 S (fun _=>?_)
 exact ⟨g2,rfl,(hnew _ rfl).elim (fun h=>h.elim) id,hrow⟩
def blocksF:Nat→List Int→List UInt8→List Int
 | 0,h,_=>h
 | k+1,h,xs=>blocksF k (blockF h (xs.take 64)) (xs.drop 64)
def outF (h:List Int) (k:Nat):List UInt8:=(List.range k).flatMap fun j=>be 4 (nthI h j)
theorem outF_len (h:List Int) (k:Nat):(outF h k).length=4*k:=by
 induction k with
 | zero=>rfl
 | succ k ih=>rw[outF,List.range_succ,List.flatMap_append,List.length_append];simp only[List.flatMap_cons,List.flatMap_nil,List.append_nil,be_len];rw[show ((List.range k).flatMap fun j=>be 4 (nthI h j)).length=4*k from ih];omega
theorem outF_succ (h:List Int) (k:Nat):outF h (k+1)=outF h k++be 4 (nthI h k):=by
 rw[outF,List.range_succ,List.flatMap_append];simp[outF]
def shaF (bs:List UInt8):List UInt8:=outF (blocksF ((padF bs).length / 64) shaH (padF bs)) 8
theorem shaF_len (bs:List UInt8):(shaF bs).length=32:=outF_len _ 8
theorem wrap32 (x:Int):0≤IntKind.u32.wrap x∧IntKind.u32.wrap x≤4294967295:=by
 unfold IntKind.wrap
 simp only[IntKind.bits,IntKind.signed]
 constructor
 simp;omega
 simp;omega
theorem blockF_u32 (h:List Int) (bs:List UInt8):∀ x∈blockF h bs,0≤x∧x≤4294967295:=fun x hx=>by
 obtain ⟨i,-,rfl⟩:=List.mem_map.1 hx
 exact wrap32 _
theorem sum_c (bs:List UInt8) (p:Option Addr) (n c:Nat) (w0:World) (hn:bs.length=n) (hl:n≤1000000) (hx:Stable (fun _=>False) w0 (SlF p (encL bs))) :
  Ret Tryz.prog 240 [.slice p n c] w0 (fun _=>False) fun r _=>r=.agg ⟨encL (shaF bs)⟩:=by
 have hpl:=padF_len bs
 have hp64:(padF bs).length % 64=0:=by rw[hpl];omega
 have hpm:(padF bs).length≤1000200:=by rw[hpl];omega
 refine enter Tryz.func240 rfl rfl (Wd.begin (fs:=[SlF p (encL bs)]) (by simpa using hx)) (fun a S=>?_)
 simp only[Tryz.ntmps240,qqA,qqB,Nat.reduceAdd,Nat.reduceSub,qqC,qqD,qqE,qqF]at S
 refine kS (kR ?_);refine sa S ?_;clear S;intro b2 a w S;refine kN (xtn (kS (kR ?_)));refine sr S (start_c _) ?_;clear S;rintro _ a w rfl S
 have hH8:LenN shaH 8:=⟨rfl⟩
 have hL0:LenN (List.replicate 8 (0:Int)) 8:=⟨by simp⟩
 refine sa S ?_;clear S;intro b3 a w S
 rw[show ([.int .u32 0,.int .u32 0,.int .u32 0,.int .u32 0,.int .u32 0,.int .u32 0,.int .u32 0,.int .u32 0]:List Value)=u32s (List.replicate 8 0) from rfl]at S
 refine sw S ?_;clear S;intro a w S;refine kN (xtn (kS (kS (kR (sq S ?_)))));clear S;intro a S
 refine srn S (pad_c bs p n c _ hn hl ((S.fact (Φ:=SlF p (encL bs)) (by simp)).less fun _ _ h=>h.elim)) ?_;clear S;rintro _ a w ⟨g,rfl,hg,hown⟩ hS -
 have S:=hS hown (fun ad h=>by cases h;exact hg)
 clear hS
 replace S:=S.rowToGl (some ⟨g,0,none⟩) (padF bs) (e:=5) (sz:=1) (n:=(padF bs).length) (c:=(padF bs).length) (fun _ _ _ _=>trivial)
 refine sq S ?_;clear S;intro a S;refine kN (xtn (kB ?_))
 refine c_fore4 S (fun(h:List Int) (xs:List UInt8) (q:Option Addr) (e:Nat) uu=>[(4,.slice q xs.length e),(5,uu 10),(0,uu 11),(0,uu 12),(0,uu 13),(0,uu 14),(0,uu 15),(0,uu 16),(0,uu 17),(0,uu 18),(0,uu 19)]) (fun(h:List Int) (xs:List UInt8) (q:Option Addr) (e:Nat)=>[Wk.box b3 313 (u32s h),Wk.box b2 296 (encL (List.replicate 32 (0:UInt8)))]) (fun(h:List Int) (xs:List UInt8) (q:Option Addr) (e:Nat)=>[GlF q xs]) (fun(h:List Int) (xs:List UInt8) (q:Option Addr) (e:Nat)=>h.length=8∧xs.length % 64=0∧xs.length≤e∧(∀ x∈h,0≤x∧x≤4294967295)∧blocksF (xs.length / 64) h xs=blocksF ((padF bs).length / 64) shaH (padF bs)) (fun(h:List Int) (xs:List UInt8) (q:Option Addr) (e:Nat)=>xs.length) (shaH) (padF bs) (some ⟨g,0,none⟩) ((padF bs).length) ?_ S.uu ?_ ?_
 ·exact ⟨rfl,hp64,Nat.le_refl _,by decide,rfl⟩
 ·exact S.sub _ _
 ·clear S;rintro h xs q e uu a w ⟨hh8,hx64,hxe,hhu,hbl⟩ S
  refine kS (kS (kR ?_));(iterate 3 (refine sq S ?_;clear S;intro a S));refine kN (xtn ?_)
  refine kC S (fun h3=>?_) (fun h3=>?_)
  ·refine kK (xtn (kS (kB ?_)))
   have hx0:64≤xs.length:=by have:=of_decide_eq_true h3;omega
   have hN8:LenN h 8:=⟨hh8⟩
   have hLe:LeC 64 xs.length:=⟨hx0⟩
   have hLe2:LeC xs.length e:=⟨hxe⟩
   have hLe3:LeC 64 e:=⟨by omega⟩
   obtain ⟨bl,hbl1⟩:∃ bl:Blk,bl.l=xs.take 64:=⟨⟨xs.take 64,by rw[List.length_take];omega⟩,rfl⟩
   obtain ⟨ad,rfl⟩:∃ ad,q=some ad:=by
    cases q with
    | some ad=>exact ⟨ad,rfl⟩
    | none=>
     have h1:=(S.mem.fact (GlF none xs)).now.1.1 rfl
     have h2:=congrArg List.length h1
     rw[encL_len]at h2
     have h3:xs.length*1=0:=h2
     omega
   have hN8b:LenN (blockF h (xs.take 64)) 8:=⟨blockF_len _ _⟩
   replace S:=S.add (Φ:=BlkF ad bl) ((S.mem.fact (GlF (some ad) xs)).imp fun _ h j v hj=>h.1.2 ad rfl j v (by
    rw[hbl1,show encL (xs.take 64)=(encL xs).take (64*1) from (encL_take xs 64).symm,List.getElem?_take]at hj
    split at hj
    ·exact hj
    ·cases hj))
   refine' c_drawT0 (.q 1 (.q 2 (.q 3 (.l 0 (.l 4 (.l 5 (.e))))))) [b3] S ?_ ?_
   rotate_left 3
   ·intro w S
    (iterate 3 (refine tq S ?_;clear S;intro a S));refine tl (sq S ?_);clear S;intro a S;refine te S ?_;refine tl ?_;refine sr S (block_c h bl hh8 _) ?_;clear S;rintro _ a w rfl S
    rw[hbl1]at S
    refine te S ?_;refine tl (sw S ?_);clear S;intro a w S;refine te S ?_;refine tn ?_
    exact S
   intro  a w S
   refine xbn (xtn (kR ?_));(iterate 3 (refine sq S ?_;clear S;intro a S));refine kN (xtn ?_)
   replace S:=S.add (Φ:=GlF (if e=64 then some ad else (some ad).map (·.add (64*1))) (xs.drop 64)) ((S.mem.fact (GlF (some ad) xs)).imp fun _ h=>h.drop 64 hxe)
   rw[show xs.length - 64=(xs.drop 64).length from List.length_drop.symm]at S
   refine ⟨blockF h (xs.take 64),xs.drop 64,(if e=64 then some ad else (some ad).map (·.add (64*1))),e - 64,S.uu,⟨blockF_len _ _,by rw[List.length_drop];omega,by rw[List.length_drop];omega,blockF_u32 _ _,?_⟩,S.sub _ _,by rw[List.length_drop];omega⟩
   rw[←hbl,List.length_drop,show xs.length / 64=(xs.length - 64) / 64+1 from by omega,blocksF]
  ·refine kE (xte (xte (xbe (xtn (kS ?_)))))
   have hx0:xs.length=0:=by have:=of_decide_eq_false h3;omega
   have hhf:h=blocksF ((padF bs).length / 64) shaH (padF bs):=by rw[←hbl,hx0];rfl
   have hN8:LenN h 8:=⟨hh8⟩
   replace S:=S.addNil 5 1
   refine kR (sq S ?_);clear S;intro a S;refine kN (xtn (kS (kS (kR (sq S ?_)))));clear S;intro a S;refine kN (xtn (kB ?_))
   refine c_fore4 S (fun(i:Nat) (out:List UInt8) (q2:Option Addr) (e2:Nat) uu=>[(5,.slice q2 out.length e2),(0,uu 6),(13,.int .i64 (i:Nat)),(0,uu 21),(0,uu 22),(0,uu 23),(0,uu 24),(0,uu 25),(0,uu 26),(0,uu 27),(0,uu 28)]) (fun(i:Nat) (out:List UInt8) (q2:Option Addr) (e2:Nat)=>[Wk.row 5 1 q2 out.length e2 (encL out),Wk.box b3 313 (u32s h),Wk.box b2 296 (encL (List.replicate 32 (0:UInt8)))]) (fun(i:Nat) (out:List UInt8) (q2:Option Addr) (e2:Nat)=>[]) (fun(i:Nat) (out:List UInt8) (q2:Option Addr) (e2:Nat)=>i≤8∧out=outF h i) (fun(i:Nat) (out:List UInt8) (q2:Option Addr) (e2:Nat)=>8 - i) (0) ([]) (none) (0) ?_ S.uu ?_ ?_
   ·exact ⟨by omega,rfl⟩
   ·exact S.sub [Wk.row 5 1 none 0 0 [],Wk.box b3 313 (u32s h),Wk.box b2 296 (encL (List.replicate 32 (0:UInt8)))] []
   ·clear S;rintro i out q2 e2 uu a w ⟨hi,hout⟩ S
    refine kS (kR (sq S ?_));clear S;intro a S;refine kN (xtn (kS ?_))
    refine kC S (fun h8=>?_) (fun h8=>?_)
    ·refine kK (xtn (kS (kB (kS ?_))))
     have hi8:i < 8:=by simp at h8;omega
     have hKi:KLt i 8:=⟨hi8⟩
     have hKi2:KLt i h.length:=⟨by omega⟩
     have hol:out.length=4*i:=by rw[hout,outF_len]
     have hui:0≤nthI h i∧nthI h i≤4294967295:=by
      have h1:=nthI_get (ys:=h) (k:=i) (by omega)
      exact hhu _ (List.mem_of_getElem? h1)
     refine kR ?_;(iterate 2 (refine sq S ?_;clear S;intro a S));refine kN (xtn (kR ?_));(iterate 4 (refine sq S ?_;clear S;intro a S))
     refine srn S (put32_c q2 out.length e2 out (nthI h i) _ rfl (by omega) hui.1 hui.2 ((own_sl (S.row q2 out.length)).stable (fun _ _ h=>h))) ?_;clear S;rintro _ a w ⟨g2,rfl,hg2,hown⟩ hS -
     have S:=hS hown (fun ad h=>by cases h;exact hg2)
     clear hS
     rw[show out.length+4=(out++be 4 (nthI h i)).length from by rw[List.length_append,be_len]]at S
     refine sq S ?_;clear S;intro a S;refine kN (xbn (xtn (kR ?_)));(iterate 2 (refine sq S ?_;clear S;intro a S));refine kN (xtn ?_)
     rw[w64 ((i:Int)+1) (by omega) (by omega)]at S
     exact ⟨i+1,out++be 4 (nthI h i),some ⟨g2,0,none⟩,(out++be 4 (nthI h i)).length,S.uu,⟨by omega,by rw[outF_succ,hout]⟩,S.sub _ _,by omega⟩
    ·refine kE (xte (xte (xbe (xtn (kS ?_)))))
     have hi8:i=8:=by simp at h8;omega
     have hol:out.length=32:=by rw[hout,hi8,outF_len]
     have hLe:LeC 32 out.length:=⟨by omega⟩
     have hlen:LenIs (encL out) 32:=⟨by rw[encL_len,hol];rfl⟩
     have hsf:SetFront (encL (List.replicate 32 (0:UInt8))) (encL out) (encL out):=⟨by rw[encL_len,encL_len,hol];exact Nat.le_refl _,by rw[List.drop_of_length_le (by rw[encL_len,encL_len,hol];exact Nat.le_refl _),List.append_nil]⟩
     obtain ⟨g3,cur,hq2,-⟩:=own_cells (S.row q2 out.length) (show 0 < out.length by omega)
     subst hq2
     refine kR ?_;(iterate 2 (refine sq S ?_;clear S;intro a S))
     refine slA (encL out) S (fun j v hj=>?_) ?_
     ·have:=own_cell (S.row (some ⟨g3,0,none⟩) out.length) (o:=0) (j:=j) (u:=v) (by rw[Nat.zero_add];exact hj)
      rw[rAddr,Option.getD_some,add_lit]at this
      exact this
     clear S;intro a S;refine sw S ?_;clear S;intro a w S;refine kN (xtn (kT ?_))
     refine end1 S (fun _=>?_)
     rw[hout,hi8,hhf];rfl
structure LRow where
 name:List UInt8
 term:LTerm
instance encRow:Enc LRow:=⟨6,fun r=>str r.name::r.term.cells,fun _=>rfl,fun x u hu=>by
 rcases List.mem_cons.1 hu with rfl | hu
 rfl
 exact encT.one x.term u hu⟩
instance layRow:Lay LRow:={ encRow with
 dflt:=⟨[],zeroL⟩
 inn:=fun w r=>LtIn w r.term
 mono:=fun _w _w' x h hx=>LtIn.mono h x.term hx }
def LRow.r (x:LRow):PRow:=⟨x.name,x.term.t⟩
structure AtP (l:List LRow) (s:List UInt8) (i:Nat) (b:Bool):Prop where
 le:i≤l.length
 lo:∀ m,m < i→Op.bytesLess (nthG l m).name s=true
 hi:∀ m,i≤m→m < l.length→Op.bytesLess (nthG l m).name s=false
 there:b=(decide ((i:Int) < (l.length:Int))&&decide ((nthG l i).name=s))
end Go.Proofs.YtdakncgafdnjfaaGreat
namespace Go.Wk
open Go
section
variable {P:Program} {r:Option Nat} {ops:Array Oper} {Q:Exit→Act→World→Prop} {w0:World} {M0:Nat→Prop} {ds:List Deferred} {a:Act} {w:World} {l:List Value} {bs:List Item} {fs:List (World→Prop)}
 {d:Option Nat} {ty t tx e:TypeId} {pos:String} {af:Array Edge} {rest:List Oper} {x y:Operand} {by_ c sz m:Nat} {z:Value}
theorem sapG (ad:Addr) (n:Nat) (olds:List Value) {xv:Value} {news:List Value} {l':Nat→Nat→List Value} (S:St w0 M0 ds a w l bs fs)
  [Ev ⟨[],l⟩ x (.slice (some ad) n c)] [Ev ⟨[],l⟩ y xv] [ht:Und P t (.slice e)] [hti:TI P e z sz by_] {zc:List Value} [hzc:Cells z zc] [hzl:LenIs zc sz] [hs:SrcV P tx xv bs fs sz m news]
  [hp:∀ g c',PutO l d (.slice (some ⟨g,0,none⟩) (n+m) c') (l' g c')] (hl:olds.length=n*sz) (hold:∀ j u,olds[j]? = some u→w.cell? (ad.add j)=some u) (hg:c < n+m)
  (h63:n+m≤maxLen) (hb:(n+m)*by_≤140737488355328)
  (K:∀ g c' a w,St w0 M0 ds a w (l' g c') (row e sz (some ⟨g,0,none⟩) (n+m) c' (olds++news)::bs) fs→WL P r ops Q rest a w) :
  WL P r ops Q (⟨d,.call { callee:=.builtin .append,args:=#[x,y],argTypes:=#[t,tx] },ty,pos,af,none⟩::rest) a w:=by
 refine wl_plain rfl ?_
 rw[semAt_nd rfl]
 obtain ⟨ii,hi,hz',hsize,hby⟩:=hti.ex
 subst hsize hby
 have hsrc:=hs.src w S.wd.mem
 have hr:=run_append_grow_src (P:=P) w t tx ty e ii z ht.eq hi hz' (some ad) n c olds (by
  have:=run_firstCells_some (P:=P) w.drew ii.size n ad n c olds hl (fun j u hu=>by simpa using hold j u hu)
  simpa using this) xv m news hsrc hg (by simp only[maxLen]at h63;omega) (growslice_fits hg hb)
 have hlen:(olds++news).length=(n+m)*ii.size:=by rw[List.length_append,hl,hsrc.newsLen,Nat.add_mul]
 have hzs:z.cells.size=ii.size:=by rw[←Array.length_toList,hzc.eq,hzl.eq]
 have hown:(w.drew.alloc (.cells ((olds++news).toArray++Builtin.zeroCells z.cells (grownCap w (n+m) c e - (n+m))) e)).ownsRow 0 e ii.size (.slice (some ⟨w.heap.size,0,none⟩) (n+m) (grownCap w (n+m) c e)) (n+m) (olds++news):=by
  refine ⟨hlen,.inr ⟨w.heap.size,_,_,rfl,Nat.zero_le _,heap_alloc_new w.drew _,grownCap_ge _ _ _ _,grownCap_le_maxLen w (n+m) c e h63,?_,?_⟩⟩
  have:=grownCap_ge w (n+m) c e
  rw[Array.size_append,size_zeroCells,hzs,List.size_toArray,hlen,←Nat.add_mul]
  congr 1;omega
  rw[←hlen,Array.toList_append]
  exact List.take_left
 have hag:Agree (fun _=>False) w (w.drew.alloc (.cells ((olds++news).toArray++Builtin.zeroCells z.cells (grownCap w (n+m) c e - (n+m))) e)):=(Agree.drawn _ w _).trans (Agree.alloc _ w.drew _)
 generalize w.drew.alloc (.cells ((olds++news).toArray++Builtin.zeroCells z.cells (grownCap w (n+m) c e - (n+m))) e)=w' at hr hown hag
 generalize grownCap w (n+m) c e=c' at hr hown
 have e1:(xop a.eval (.call { callee:=.builtin .append,args:=#[x,y],argTypes:=#[t,tx] }) ty).run P w=.ok (.value (.slice (some ⟨w.heap.size,0,none⟩) (n+m) c')) w':=by
  simp[xop,execOp,resolve,invoke,builtin,S.fr.ev (x:=x) (v:=.slice (some ad) n c),S.fr.ev (x:=y) (v:=xv),hr]
 simp only[e1,Oper.uponIn]
 have:=hp w.heap.size c'
 have S':=S.put (d:=d) (v:=.slice (some ⟨w.heap.size,0,none⟩) (n+m) c')
 exact K w.heap.size c' _ w' ⟨S'.slots,S'.defers,S'.wd.addRow hag hown (fun ad h=>by cases h;exact Nat.le_refl _)⟩
theorem scpB (b n m:Nat) {T:TypeId} {cs:List Value} (ys:List UInt8) {q:Option Addr} {cd cy:Nat} {bs':List Item} {l':List Value} (S:St w0 M0 ds a w l bs fs) [Ev ⟨[],l⟩ x (.slice (some ⟨b,0,none⟩) n cd)] [Ev ⟨[],l⟩ y (.slice q m cy)] [ht:Und P t (.slice e)] [hti:TI P e z 1 by_] [HasBox bs b T cs]
  [hrep:ReplI bs (box b T cs) (box b T ((encL ys).take n++cs.drop m)) bs'] [hp:PutO l d (.int .i64 ((min m n:Nat):Int)) l'] (hq:SlF q (encL ys) w) (hy:ys.length=m) (hc:cs.length=n) (K:∀ a w,St w0 M0 ds a w l' bs' fs→WL P r ops Q rest a w) :
  WL P r ops Q (⟨d,.call { callee:=.builtin .copy,args:=#[x,y],argTypes:=#[t,tx] },ty,pos,af,none⟩::rest) a w:=by
 refine wl_plain rfl ?_
 rw[semAt_nd rfl]
 have hb:=S.box b
 have S':=S.put (d:=d) (v:=.int .i64 ((min m n:Nat):Int)) (l':=l')
 have hel:(encL ys).length=m:=by rw[encL_len,hy];exact Nat.mul_one _
 have hnl:((encL ys).take (min m n)).length=min m n:=by rw[List.length_take,hel];omega
 have hcells:(Builtin.firstCells 1 (min m n) (.slice q m cy)).run P w=.ok ((encL ys).take (min m n)).toArray w:=by
  cases hqq:q with
  | none=>
   have h1:=hq.1 hqq
   have h2:m=0:=by rw[←hel,h1];rfl
   subst h2
   rw[h1,Nat.zero_min]
   exact run_firstCells_none w 1 0 0 cy
  | some ad=>
   refine run_firstCells_some w 1 (min m n) ad m cy _ (by rw[hnl,Nat.mul_one]) (fun j u hj=>hq.2 ad hqq j u ?_)
   rw[List.getElem?_take]at hj
   split at hj
   exact hj
   cases hj
 have hst:=run_storeCells_at (P:=P) b 0 T ((encL ys).take (min m n)) 0 cs.toArray w hb (by rw[hnl];simp[hc];omega) (fun u hu=>encL_one ys u (List.mem_of_mem_take hu))
 have e0:(cs.toArray.toList.take 0++(encL ys).take (min m n)++cs.toArray.toList.drop (0+((encL ys).take (min m n)).length))=(encL ys).take n++cs.drop m:=by
  rw[hnl]
  rcases Nat.le_total m n with h | h
  rw[Nat.min_eq_left h,List.take_of_length_le (by omega:(encL ys).length≤m),List.take_of_length_le (by omega:(encL ys).length≤n)];simp
  rw[Nat.min_eq_right h];simp;omega
 simp only[Nat.zero_add]at hst e0
 rw[e0]at hst
 have hrun:(Builtin.copy_ #[t,tx] ty #[.slice (some ⟨b,0,none⟩) n cd,.slice q m cy]).run P w=.ok (.int .i64 ((min m n:Nat):Int)) (w.setRow b ((encL ys).take n++cs.drop m).toArray):=by
  have h1:(storeCells ⟨b,0,none⟩ ((encL ys).take (min m n))).run P w=.ok () (w.setRow b ((encL ys).take n++cs.drop m).toArray):=by simpa using hst
  have h2:Nat.min m n=min m n:=rfl
  simp[Builtin.copy_,Sem.run_bind,run_und,run_size,Builtin.lenOf,h2,hcells,h1,goInt]
 have e1:(xop a.eval (.call { callee:=.builtin .copy,args:=#[x,y],argTypes:=#[t,tx] }) ty).run P w=.ok (.value (.int .i64 ((min m n:Nat):Int))) (w.setRow b ((encL ys).take n++cs.drop m).toArray):=by
  simp[xop,execOp,resolve,invoke,builtin,S.fr.ev (x:=x) (v:=.slice (some ⟨b,0,none⟩) n cd),S.fr.ev (x:=y) (v:=.slice q m cy),hrun]
 simp only[e1,Oper.uponIn]
 have hh:(box b T ((encL ys).take n++cs.drop m)).holds (w.setRow b ((encL ys).take n++cs.drop m).toArray):=setRow_heap w b cs.toArray _ T _ hb
 exact K _ _ (S.reput (x:=box b T cs) (y:=box b T ((encL ys).take n++cs.drop m)) S'.slots S'.defers rfl (Agree.setRow w b _ rfl) hh (fun k h=>.inl h) (ItOk.lt _ hh) ItOk.loc)
end
theorem run_idx {P:Program} {ty t e:TypeId} {l:Cx} {x y:Operand} {n:Nat} {kk:IntKind} {z:Value} {by_:Nat} {ρ:Operand→Value} (vs:List Value) (k:Nat) (v:Value) [Ev l x (.agg ⟨vs⟩)] [Ev l y (.int kk (k:Int))] [ht:Und P t (.array n e)] [hti:TI P e z 1 by_] [ha:AggT P e false] (hv:vs[k]? = some v) (hn:vs.length=n) (h:Fr ρ l) (w:World) :
  (xop ρ (.index t x y) ty).run P w=.ok (.value v) w:=by
 have hlt:k < vs.length:=(List.getElem?_eq_some_iff.1 hv).1
 have e2:(⟨vs⟩:Array Value)[k]? = some v:=by simpa using hv
 have e3:k < (⟨vs⟩:Array Value).size:=hlt
 simp[xop,execOp,h.ev (x:=x) (v:=.agg ⟨vs⟩),h.ev (x:=y) (v:=.int kk (k:Int)),Instr.index,asIntOf,Sem.run_bind,run_und,run_size,part,ha.run]
 rw[if_pos (by rw[←hn];exact hlt),hv]
 rfl
theorem run_eqItemsB {P:Program} (d:Nat) {e:TypeId} (he:P.underlying e=some (.int .u8)) [ha:AggT P e false] (w:World) (x y:List UInt8):∀ is:List Nat,(∀ i∈is,i < x.length∧i < y.length)→
  (Op.eqItems (d+1) e 1 ⟨encL x⟩ ⟨encL y⟩ is).run P w=.ok (is.all fun i=>decide (x[i]? = y[i]?)) w
 | [],_=>by simp[Op.eqItems]
 | i::is,h=>by
  have h0:=h i (List.mem_cons_self ..)
  have ih:=run_eqItemsB d he w x y is (fun j hj=>h j (List.mem_cons_of_mem _ hj))
  have ex:∀ (z:List UInt8) (hz:i < z.length),(part e ⟨encL z⟩ (i*1)).run P w=.ok (.int .u8 (z[i].toNat:Int)) w:=fun z hz=>by
   have h1:(encL z)[i]? = some (.int .u8 (z[i].toNat:Int)):=by
    have h2:=encL_get z i z[i] (List.getElem?_eq_getElem hz) 0 (by decide)
    have h3:i*Enc.sz UInt8+0=i:=Nat.mul_one i
    rw[h3]at h2
    rw[h2];rfl
   have h2:(⟨encL z⟩:Array Value)[i]? = some (.int .u8 (z[i].toNat:Int)):=by simpa using h1
   have h3:i < (encL z).length:=(List.getElem?_eq_some_iff.1 h1).1
   simp[part,Sem.run_bind,ha.run,h2]
   done
  have eq:(Op.equalIn (d+1) e (.int .u8 (x[i].toNat:Int)) (.int .u8 (y[i].toNat:Int))).run P w=.ok ((x[i].toNat:Int) == (y[i].toNat:Int)) w:=run_equalIn_int w d e .u8 .u8 _ _ he
  have hb:((x[i].toNat:Int) == (y[i].toNat:Int))=decide (x[i]? = y[i]?):=by
   rw[List.getElem?_eq_getElem h0.1,List.getElem?_eq_getElem h0.2,Bool.eq_iff_iff]
   simp only[beq_iff_eq,decide_eq_true_eq,Option.some.injEq]
   exact ⟨fun h=>UInt8.toNat.inj (Int.ofNat.inj h),fun h=>by rw[h]⟩
  simp only[Op.eqItems,Sem.run_bind,ex x h0.1,ex y h0.2,eq,Result.andThen_ok,List.all_cons,hb]
  cases h5:decide (x[i]? = y[i]?) with
  | false=>simp
  | true=>simp[ih]
theorem blk_len (u:Blk):u.l.length=64:=by
 have h:=u.len
 rw[encL_len]at h
 exact (Nat.mul_one _).symm.trans h
class EqG (P:Program) (t:TypeId):Prop where eq:P.eqGuardType P.depth t=false
theorem run_eqB {P:Program} (w:World) {t e:TypeId} {n by_:Nat} {z:Value} (x y:List UInt8) (hu:P.underlying t=some (.array n e)) (he:P.underlying e=some (.int .u8)) [ha:AggT P e false] [hti:TI P e z 1 by_] (hx:x.length=n) (hy:y.length=n) :
  (Op.equalIn 10000 t (.agg ⟨encL x⟩) (.agg ⟨encL y⟩)).run P w=.ok (decide (x=y)) w:=by
 obtain ⟨ii,hi,hz,hs,hb⟩:=hti.ex
 have hc:P.cellsOf e=1:=by simp[Program.cellsOf,hi,hs]
 rw[show (10000:Nat)=9999+1 from rfl,run_equalIn_array w 9999 _ _ hu hi,hc,run_eqItemsB 9998 he w x y _ (fun i hi=>by rw[List.mem_range]at hi;omega)]
 congr 1
 rw[Bool.eq_iff_iff,List.all_eq_true]
 simp only[List.mem_range,decide_eq_true_eq]
 exact ⟨fun h=>List.ext_getElem? fun i=>by
  rcases Nat.lt_or_ge i n with h1 | h1
  exact h i h1
  rw[List.getElem?_eq_none (by omega),List.getElem?_eq_none (by omega)],fun h i _=>by rw[h]⟩
instance opBlkEql {P:Program} {l:Cx} {bs:List Item} {fs:List (World→Prop)} {x y:Operand} {t t' ty e:TypeId} {u v:Blk} {z:Value} {by_:Nat} [Ev l x (.agg ⟨encL u.l⟩)] [Ev l y (.agg ⟨encL v.l⟩)] [ht:Und P t (.array 64 e)] [he:Und P e (.int .u8)] [AggT P e false] [TI P e z 1 by_] [hg:EqG P t] :
  OpQ P (.binOp .eql t x y t') ty l bs fs (.bool (decide (u.l=v.l))):=⟨fun ρ w h _=>by
 simp[xop,execOp,h.ev (x:=x) (v:=.agg ⟨encL u.l⟩),h.ev (x:=y) (v:=.agg ⟨encL v.l⟩),Sem.run_bind,run_eqGuard_agg w .eql t x y _ _ hg.eq,run_eql_struct,run_eqB w u.l v.l ht.eq he.eq (blk_len u) (blk_len v)]⟩
instance opBlkNeq {P:Program} {l:Cx} {bs:List Item} {fs:List (World→Prop)} {x y:Operand} {t t' ty e:TypeId} {u v:Blk} {z:Value} {by_:Nat} [Ev l x (.agg ⟨encL u.l⟩)] [Ev l y (.agg ⟨encL v.l⟩)] [ht:Und P t (.array 64 e)] [he:Und P e (.int .u8)] [AggT P e false] [TI P e z 1 by_] [hg:EqG P t] :
  OpQ P (.binOp .neq t x y t') ty l bs fs (.bool (!decide (u.l=v.l))):=⟨fun ρ w h _=>by
 simp[xop,execOp,h.ev (x:=x) (v:=.agg ⟨encL u.l⟩),h.ev (x:=y) (v:=.agg ⟨encL v.l⟩),Sem.run_bind,run_eqGuard_agg w .neq t x y _ _ hg.eq,run_neq_struct,run_eqB w u.l v.l ht.eq he.eq (blk_len u) (blk_len v)]⟩
instance nz48:NZ 48:=⟨by decide⟩
end Go.Wk
namespace Go.Proofs.YtdakncgafdnjfaaGreat
open Go Go.Wk
set_option synthInstance.maxSize 100000
set_option synthInstance.maxHeartbeats 400000
set_option maxRecDepth 100000
def blkOf (l:List UInt8):Blk:=if h:l.length=64 then ⟨l,h⟩ else zB
theorem blkOf_l {l:List UInt8} (h:l.length=64):(blkOf l).l=l:=by rw[blkOf,dif_pos h]
def sealF (bs:List UInt8):Blk:=blkOf ((shaF bs).drop 28++bs)
theorem sealF_l {bs:List UInt8} (h:bs.length=60):(sealF bs).l=(shaF bs).drop 28++bs:=blkOf_l (by rw[List.length_append,List.length_drop,shaF_len,h])
theorem sealed_c (bs:List UInt8) (p:Option Addr) (c:Nat) (w0:World) (hn:bs.length=60) (hx:Stable (fun _=>False) w0 (SlF p (encL bs))) :
  Ret Tryz.prog 178 [.slice p 60 c] w0 (fun _=>False) fun r _=>r=vBlk (sealF bs):=by
 have hLN:LenN bs 60:=⟨hn⟩
 have hsl:=shaF_len bs
 have hS32:LenN (shaF bs) 32:=⟨hsl⟩
 have hlen:LenIs (encL (shaF bs)) 32:=⟨by rw[encL_len,hsl];rfl⟩
 have hle1:LeC 28 32:=⟨by omega⟩
 have hle2:LeC 32 32:=⟨by omega⟩
 have hsf:SetFront (encL (List.replicate 32 (0:UInt8))) (encL (shaF bs)) (encL (shaF bs)):=⟨by rw[encL_len,encL_len,hsl];exact Nat.le_refl _,by rw[List.drop_of_length_le (by rw[encL_len,encL_len,hsl];exact Nat.le_refl _),List.append_nil]⟩
 refine enter Tryz.func178 rfl rfl (Wd.begin (fs:=[SlF p (encL bs)]) (by simpa using hx)) (fun a S=>?_)
 simp only[Tryz.ntmps178,qqA,qqB,Nat.reduceAdd,Nat.reduceSub,qqC,qqD,qqE,qqF]at S
 refine kS (kR ?_);refine sa S ?_;clear S;intro b2 a w S;refine kN (xtn (kS (kR (sq S ?_))));clear S;intro a S
 refine sr S (sum_c bs p 60 c _ hn (by omega) ((S.fact (Φ:=SlF p (encL bs)) (by simp)).less fun _ _ h=>h.elim)) ?_;clear S;rintro _ a w rfl S
 refine sa S ?_;clear S;intro b3 a w S;refine sw S ?_;clear S;intro a w S;refine kN (xtn (kS (kR ?_)));(iterate 2 (refine sq S ?_;clear S;intro a S))
 have hb:=S.box b3
 refine sapG ⟨b3,28,none⟩ 4 ((encL (shaF bs)).drop 28) S (by rw[List.length_drop,encL_len,hsl];rfl) (fun j u hj=>?_) (by omega) (by simp only[maxLen];omega) (by omega) ?_
 rw[Addr.add_lit,cell_of_row _ b3 _ _ _ _ hb]
 rw[List.getElem?_drop]at hj
 simpa using hj
 clear S;intro g c' a w S
 rw[show (encL (shaF bs)).drop 28=encL ((shaF bs).drop 28) from (encL_dropG (shaF bs) 28).symm,←encL_append,←sealF_l hn]at S
 have hrow:=S.row (some ⟨g,0,none⟩) (4+60)
 replace S:=S.rowToGl (some ⟨g,0,none⟩) (sealF bs).l (e:=5) (sz:=1) (n:=4+60) (c:=c') (fun _ _ _ _=>trivial)
 replace S:=S.add (Φ:=BlkF ⟨g,0,none⟩ (sealF bs)) ((S.mem.fact (GlF (some ⟨g,0,none⟩) (sealF bs).l)).imp fun _ h j v hj=>h.1.2 _ rfl j v hj)
 have hle3:LeC 64 (4+60):=⟨by omega⟩
 (iterate 2 (refine sq S ?_;clear S;intro a S));refine sw S ?_;clear S;intro a w S;refine kN (xtn (kT ?_))
 refine end1 S (fun _=>?_)
 rfl
theorem wu32 (n:Int) (h1:0≤n) (h2:n≤4294967295):IntKind.u32.wrap n=n:=by
 unfold IntKind.wrap;simp only[IntKind.bits,IntKind.signed];simp;omega
theorem slNil (M:Nat→Prop) (w:World):Stable M w (SlF none (encL ([]:List UInt8))):=fun _ _=>⟨fun _=>rfl,fun _ h=>by cases h⟩
def safeS:List UInt8:=[83,65,70,69,72,79,85,83,69]
def titleB (turn n:Int):List UInt8:=be 4 n++be 4 turn++safeS++List.replicate 43 0
theorem titleB_len (turn n:Int):(titleB turn n).length=60:=by simp[titleB,be_len,safeS]
def titleF (turn n:Int):Blk:=sealF (titleB turn n)
theorem title_c (turn n:Int) (ht:0≤turn∧turn≤4294967295) (hn:0≤n∧n≤4294967295) (w0:World):Ret Tryz.prog 176 [.int .u32 turn,.int .i64 n] w0 (fun _=>False) fun r _=>r=vBlk (titleF turn n):=by
 refine enter Tryz.func176 rfl rfl (Wd.start w0) (fun a S=>?_)
 simp only[Tryz.ntmps176,qqA,qqB,Nat.reduceAdd,Nat.reduceSub,qqC,qqD,qqE,qqF]at S
 refine kS (kR ?_);refine sa S ?_;clear S;intro b4 a w S;refine kN (xtn (kS (kR ?_)));(iterate 2 (refine sq S ?_;clear S;intro a S))
 rw[wu32 n (by omega) (by omega)]at S
 refine srn S (put32_c none 0 0 [] n _ rfl (by omega) hn.1 hn.2 (slNil _ _)) ?_;clear S;rintro _ a w ⟨g,rfl,hg,hown⟩ hS -
 have S:=hS hown (fun ad h=>by cases h;exact hg)
 clear hS
 rw[qqF]at S
 refine sq S ?_;clear S;intro a S
 refine srn S (put32_c (some ⟨g,0,none⟩) (0+4) (0+4) (be 4 n) turn _ (be_len _ _) (by omega) ht.1 ht.2 ((own_sl (S.row (some ⟨g,0,none⟩) (0+4))).stable (fun _ _ h=>h))) ?_;clear S;rintro _ a w ⟨g2,rfl,hg2,hown2⟩ hS -
 have S:=hS hown2 (fun ad h=>by cases h;exact hg2)
 clear hS
 refine sq S ?_;clear S;intro a S;refine kN (xtn (kS (kR (sq S ?_))));clear S;intro a S
 refine sap S (by simp only[maxLen];simp) (by simp) ?_;clear S;rintro p3 c3 a w - S
 refine sapz1 p3 (0+4+4+9) (m:=43) S (by omega) (by simp only[maxLen];omega) (by omega) ?_;clear S;intro p4 c4 a w S
 rw[←encL_append]at S
 refine sr S (sealed_c (titleB turn n) p4 c4 _ (titleB_len turn n) ((own_sl (S.row p4 60)).stable (fun _ _ h=>h))) ?_;clear S;rintro _ a w rfl S
 refine sw S ?_;clear S;intro a w S;refine kN (xtn (kT ?_))
 refine end1 S (fun _=>?_)
 rfl
theorem encZ_drop (n m:Nat):(encL (List.replicate n (0:UInt8))).drop m=encL (List.replicate (n - m) (0:UInt8)):=by
 have h:=encL_dropG (List.replicate n (0:UInt8)) m
 rw[List.drop_replicate,show m*Enc.sz UInt8=m from Nat.mul_one m]at h
 exact h.symm
def secN (n:Nat):Nat:=if n=0 then 1 else (n+47) / 48
def pad48 (l:List UInt8):List UInt8:=l.take 48++List.replicate (48 - l.length) 0
theorem pad48_len (l:List UInt8):(pad48 l).length=48:=by simp[pad48];omega
def leafB (turn number:Int) (n:Nat) (left:List UInt8):List UInt8:=be 4 turn++be 4 number++be 2 (n:Int)++be 2 (left.length:Int)++pad48 left
theorem leafB_len (turn number:Int) (n:Nat) (left:List UInt8):(leafB turn number n left).length=60:=by simp[leafB,be_len,pad48_len]
def leafF (turn number:Int) (bs:List UInt8) (k:Nat):Blk:=sealF (leafB turn number bs.length (bs.drop (48*k)))
def leavesF (turn number:Int) (bs:List UInt8):List Blk:=(List.range (secN bs.length)).map (leafF turn number bs)
theorem leavesF_len (turn number:Int) (bs:List UInt8):(leavesF turn number bs).length=secN bs.length:=by simp[leavesF]
def leavesV (g0 g1 g2:Nat):Value:=.func (.func 177) #[] ⟨[.pointer (some ⟨g0,0,none⟩),.pointer (some ⟨g1,0,none⟩),.pointer (some ⟨g2,0,none⟩)]⟩
theorem leaves_f (turn number:Int) (p:Option Addr) (n c:Nat) (w0:World):Ret Tryz.prog 82 [.int .u32 turn,.int .u32 number,.slice p n c] w0 (fun _=>False) fun v w'=>∃ g0 g1 g2,v=leavesV g0 g1 g2∧(w0.heap.size≤g0∧w0.heap.size≤g1∧w0.heap.size≤g2)∧BoxF g0 25 [.slice p n c] w'∧BoxF g1 130 [.int .u32 turn] w'∧BoxF g2 130 [.int .u32 number] w':=by
 refine enter Tryz.func82 rfl rfl (Wd.start w0) (fun a S=>?_)
 simp only[Tryz.ntmps82,qqA,qqB,Nat.reduceAdd,Nat.reduceSub,qqC,qqD,qqE,qqF]at S
 refine kS (kR ?_);refine sa S ?_;clear S;intro b3 a w S;refine sa S ?_;clear S;intro b4 a w S;refine sa S ?_;clear S;intro b5 a w S;refine sq S ?_;clear S;intro a S;refine kN (xtn (kS (kR ?_)));(iterate 2 (refine sq S ?_;clear S;intro a S));refine kN (xtn (kT ?_))
 have h3:=(S.boxNew b3).elim (fun h=>h.elim) id
 have h4:=(S.boxNew b4).elim (fun h=>h.elim) id
 have h5:=(S.boxNew b5).elim (fun h=>h.elim) id
 have e3:=S.boxF b3
 have e4:=S.boxF b4
 have e5:=S.boxF b5
 exact end1 S (fun _=>⟨b5,b3,b4,rfl,⟨h5,h3,h4⟩,e5,e3,e4⟩)
theorem leaves_it (turn number:Int) (ht:0≤turn∧turn≤4294967295) (hnu:0≤number∧number≤4294967295) (g0 g1 g2:Nat) (bs:List UInt8) (p:Option Addr) (c:Nat) (hl:bs.length≤40000) (hc:bs.length≤c) (w0:World) (M:Nat→Prop) (hM:∀ k,M k→k < w0.heap.size) (f0:Stable M w0 (BoxF g0 25 [.slice p bs.length c])) (f1:Stable M w0 (BoxF g1 130 [.int .u32 turn])) (f2:Stable M w0 (BoxF g2 130 [.int .u32 number])) (f3:Stable M w0 (GlF p bs)) :
  IterRet Tryz.prog 177 [.pointer (some ⟨g0,0,none⟩),.pointer (some ⟨g1,0,none⟩),.pointer (some ⟨g2,0,none⟩)] w0 M (fun(x:Blk) vs _ _=>vs=[vBlk x]) (leavesF turn number bs):=by
 intro L J Jx hy hJ
 have hF:∀ Φ∈[GlF p bs,BoxF g0 25 [.slice p bs.length c],BoxF g1 130 [.int .u32 turn],BoxF g2 130 [.int .u32 number]],Stable M w0 Φ:=by simp;exact ⟨f3,f0,f1,f2⟩
 have hs0:0 < secN bs.length:=by unfold secN;split <;> omega
 refine (callsIn_wide (n:=0)).2 ?_
 refine enter Tryz.func177 rfl rfl (Wd.beginM (M:=M) (fs:=[GlF p bs,BoxF g0 25 [.slice p bs.length c],BoxF g1 130 [.int .u32 turn],BoxF g2 130 [.int .u32 number]]) hM hF) (fun a S=>?_)
 simp only[Tryz.ntmps177,qqA,qqB,Nat.reduceAdd,Nat.reduceSub,qqC,qqD,qqE,qqF]at S
 refine kS (kR ?_);(iterate 2 (refine sq S ?_;clear S;intro a S));refine kN (xtn (kB ?_))
 refine c_loop (ι:=Nat × Option Addr × Nat) (fun⟨k,q,e⟩ a w=>(k < secN bs.length∧(bs.drop (48*k)).length≤e∧Stable M w0 (GlF q (bs.drop (48*k))))∧∃ N w1,J k w1∧∃ uu:Nat→Value,St w1 (fun _=>False) [] a w ((.func (.yield L) #[] #[])::(.pointer (some ⟨g0,0,none⟩))::(.pointer (some ⟨g1,0,none⟩))::(.pointer (some ⟨g2,0,none⟩))::uu 4::(.slice q (bs.drop (48*k)).length e)::uu 6::uu 7::uu 8::uu 9::uu 10::uu 11::uu 12::uu 13::uu 14::uu 15::uu 16::uu 17::uu 18::uu 19::uu 20::uu 21::uu 22::uu 23::uu 24::uu 25::uu 26::uu 27::uu 28::uu 29::uu 30::uu 31::uu 32::uu 33::uu 34::uu 35::uu 36::uu 37::uu 38::[]) [ext N] [GlF q (bs.drop (48*k)),BoxF g0 25 [.slice p bs.length c],BoxF g1 130 [.int .u32 turn],BoxF g2 130 [.int .u32 number]]) (fun x=>secN bs.length - x.1) (0,p,c) ?_ ?_
 exact ⟨⟨hs0,by simpa using hc,by simpa using f3⟩,M,w0,hJ,S.uu,by rw[show bs.drop (48*0)=bs from rfl];exact S⟩
 clear S
 rintro ⟨k,q,e⟩ a w ⟨⟨hk,hqe,hq⟩,N,w1,hJk,uu,S⟩
 have hdl:(bs.drop (48*k)).length=bs.length - 48*k:=List.length_drop
 obtain ⟨left,hleft⟩:∃ left,left=bs.drop (48*k):=⟨_,rfl⟩
 rw[←hleft]at S hq hqe hdl
 have hll:left.length≤40000:=by omega
 have hF2:∀ Φ∈[GlF q left,BoxF g0 25 [.slice p bs.length c],BoxF g1 130 [.int .u32 turn],BoxF g2 130 [.int .u32 number]],Stable M w0 Φ:=by simp;exact ⟨hq,f0,f1,f2⟩
 have hx:(leavesF turn number bs)[k]? = some (sealF (leafB turn number bs.length left)):=by rw[leavesF,List.getElem?_map,List.getElem?_range hk,hleft];rfl
 refine kS (kB (kS ?_));refine c_drawD [(0,true),(2,true),(1,false),(3,false),(4,true)] [] S ?_;clear S;intro w S;(iterate 2 (refine dq S ?_;clear S;intro a S));refine dl ?_
 refine srn S (put32_c none 0 0 [] turn _ rfl (by omega) ht.1 ht.2 (slNil _ _)) ?_;clear S;rintro _ a w ⟨g,rfl,hg,hown⟩ hS -
 have S:=hS hown (fun ad h=>by cases h;exact hg)
 clear hS
 rw[qqF]at S
 refine de S ?_;refine dl ?_
 refine srn S (put32_c (some ⟨g,0,none⟩) (0+4) (0+4) (be 4 turn) number _ (be_len _ _) (by omega) hnu.1 hnu.2 ((own_sl (S.row (some ⟨g,0,none⟩) (0+4))).stable (fun _ _ h=>h))) ?_;clear S;rintro _ a w ⟨ga,rfl,hga,hown2⟩ hS -
 have S:=hS hown2 (fun ad h=>by cases h;exact hga)
 clear hS
 refine de S ?_;refine dq S ?_;clear S;intro a S;refine dn (xtn (kS (kR ?_)));(iterate 4 (refine sq S ?_;clear S;intro a S))
 rw[wu16 (bs.length:Int) (by omega) (by omega)]at S
 refine srn S (put16b_c (some ⟨ga,0,none⟩) (0+4+4) (0+4+4) (be 4 turn++be 4 number) (bs.length:Int) _ (by simp[be_len]) (by omega) (by omega) (by omega) ((own_sl (S.row (some ⟨ga,0,none⟩) (0+4+4))).stable (fun _ _ h=>h))) ?_;clear S;rintro _ a w ⟨gb,rfl,hgb,hown3⟩ hS -
 have S:=hS hown3 (fun ad h=>by cases h;exact hgb)
 clear hS
 (iterate 3 (refine sq S ?_;clear S;intro a S))
 rw[wu16 (left.length:Int) (by omega) (by omega)]at S
 refine srn S (put16b_c (some ⟨gb,0,none⟩) (0+4+4+2) (0+4+4+2) (be 4 turn++be 4 number++be 2 (bs.length:Int)) (left.length:Int) _ (by simp[be_len]) (by omega) (by omega) (by omega) ((own_sl (S.row (some ⟨gb,0,none⟩) (0+4+4+2))).stable (fun _ _ h=>h))) ?_;clear S;rintro _ a w ⟨gc,rfl,hgc,hown4⟩ hS -
 have S:=hS hown4 (fun ad h=>by cases h;exact hgc)
 clear hS
 refine sq S ?_;clear S;intro a S;refine kN (xtn (kS (kR ?_)));refine sa S ?_;clear S;intro b7 a w S;refine kN (xtn (kS (kR ?_)));(iterate 2 (refine sq S ?_;clear S;intro a S))
 refine scpB b7 48 left.length left S ((S.fact (Φ:=GlF q left) (by simp)).now.1) rfl (by rw[encL_len,List.length_replicate];rfl) ?_;clear S;intro a w S
 rw[show (encL left).take 48=encL (left.take 48) from encL_take left 48,encZ_drop,←encL_append,show left.take 48++List.replicate (48 - left.length) 0=pad48 left from rfl]at S
 have hp48:LenIs (encL (pad48 left)) 48:=⟨by rw[encL_len,pad48_len];rfl⟩
 refine kN (xtn (kS (kR ?_)));(iterate 3 (refine sq S ?_;clear S;intro a S))
 rw[show (Value.slice (some (if (48:Nat)=0 then (⟨b7,0,none⟩:Addr) else ⟨b7,0*1,none⟩)) (48 - 0) (48 - 0))=.slice (some ⟨b7,0,none⟩) 48 48 from rfl]at S
 refine sap S (by simp only[maxLen];simp) (by simp) ?_;clear S;rintro p3 c3 a w - S
 rw[←encL_append]at S
 refine sr S (sealed_c (leafB turn number bs.length left) p3 c3 _ (leafB_len _ _ _ _) ((own_sl (S.row p3 60)).stable (fun _ _ h=>h))) ?_;clear S;rintro _ a w rfl S
 refine sy S (M:=M) (wI:=w0) (fs0:=[GlF q left,BoxF g0 25 [.slice p bs.length c],BoxF g1 130 [.int .u32 turn],BoxF g2 130 [.int .u32 number]]) hF2 (hy _ _ _ w1 _ hx hJk S.wd.agree rfl) ?_;clear S;intro ok N' a w2 hT hX S
 (iterate 2 (refine sq S ?_;clear S;intro a S));(iterate 3 (refine gQ S ?_;clear S;intro a S));refine sq S ?_;clear S;intro a S;refine kN (xtn ?_)
 refine kC S (fun h6=>?_) (fun h6=>?_)
 refine kT (xbr (xtr (xtr (xbr ?_))))
 refine endI S ⟨w2,S.wd.agree,?_⟩
 cases ok with
 | false=>exact .inr (hX rfl)
 | true=>
  have h48:left.length≤48:=by have:=h6;simp at this;omega
  have e1:k+1=(leavesF turn number bs).length:=by rw[leavesF_len];unfold secN at hk⊢;split at hk <;> split <;> omega
  rw[←e1];exact .inl (hT rfl)
 refine kK (xbn (xtn ?_))
 obtain ⟨rfl,h48⟩:ok=true∧48 < left.length:=by
  cases ok with
  | false=>exact absurd h6 (by simp)
  | true=>exact ⟨rfl,by have:=h6;simp at this;omega⟩
 have hLa:LeC 48 left.length:=⟨by omega⟩
 have hLb:LeC left.length e:=⟨hqe⟩
 have hLc:LeC 48 e:=⟨by omega⟩
 refine kR ?_;(iterate 3 (refine sq S ?_;clear S;intro a S));refine kN (xtn ?_)
 have edd:left.drop 48=bs.drop (48*(k+1)):=by rw[hleft,List.drop_drop];congr 1
 obtain ⟨q',hq'⟩:∃ q',q'=(if e=48 then q else q.map (·.add (48*1))):=⟨_,rfl⟩
 rw[←hq']at S
 have hdr:∀ w,GlF q left w→GlF q' (bs.drop (48*(k+1))) w:=fun w h=>by rw[←edd,hq'];exact h.drop 48 hqe
 replace S:=S.add (Φ:=GlF q' (bs.drop (48*(k+1)))) ((S.mem.fact (GlF q left)).imp hdr)
 rw[show left.length - 48=(bs.drop (48*(k+1))).length from by rw[←edd,List.length_drop]]at S
 exact ⟨(k+1,q',e - 48),⟨⟨by unfold secN at hk⊢;split at hk <;> split <;> omega,by rw[←edd,List.length_drop];omega,hq.imp hdr⟩,N',w2,hT rfl,S.uu,S.sub _ _⟩,by show secN bs.length - (k+1) < secN bs.length - k;omega⟩
end Go.Proofs.YtdakncgafdnjfaaGreat