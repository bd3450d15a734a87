/- 9: a part of this claim's texts, joined: MemZB PlainMem MemL PlainMemB MemM MemS MemT MemU PlainMemC MemW LawMemA LawMemB RowMemA. -/
import Derived.Test.YtdakncgafdnjfaaGreatPj8
namespace Go.Proofs.YtdakncgafdnjfaaGreat
open Go Go.Wk
set_option synthInstance.maxSize 100000
set_option synthInstance.maxHeartbeats 400000
set_option maxRecDepth 100000
def cutN (n:Nat) (x:LMark):LMark:=⟨x.key.take (min x.key.length n),x.ver⟩
def smallS (s:PSeen):PSeen:=⟨s.user,s.cnt,smallT s.root 10⟩
def shortP (m:PMem):PMem:=⟨m.user,m.leaf,m.counter,m.num,(m.seeds.take 7).map (cutN 25),(m.vers.take 17).map (cutN 65),(m.seen.take 8).map smallS⟩
theorem cut_len {n:Nat} {xs:List LMark} (k:Nat):∀ x∈(xs.take k).map (cutN n),x.key.length≤n:=by
 intro x hx
 obtain ⟨y,-,rfl⟩:=List.mem_map.1 hx
 rw[cutN];simp only[List.length_take];omega
theorem take_snoc {α β:Type} [Lay α] {xs:List α} {k:Nat} (h:k < xs.length) (f:α→β):(xs.take k).map f++[f (nthG xs k)]=(xs.take (k+1)).map f:=by
 rw[List.take_add_one,nthG_get h];simp
structure BigM (m:LMem):Prop where
 seeds:m.seeds.length≤9223372036854775807
 vers:m.vers.length≤9223372036854775807
 seen:m.seen.length≤9223372036854775807
def ShortO (M:Nat→Prop) (p:PMem) (v:Value) (w0 w:World):Prop:=∃ x:LMem,v=vMem x∧x.m=p∧FitM x∧w.ownsRow 0 177 2 (.slice x.vp x.vers.length x.vc) x.vers.length (encL x.vers)∧(∀ ad,x.vp=some ad→w0.heap.size≤ad.block∧¬M ad.block)∧
 Stable (fun k=>M k∨∃ ad,x.vp=some ad∧k=ad.block) w (GlF x.sp x.seeds)∧Stable (fun k=>M k∨∃ ad,x.vp=some ad∧k=ad.block) w (GlF x.ep x.seen)
set_option maxHeartbeats 4000000 in
theorem short_o (m:LMem) (hl:BigM m) (M:Nat→Prop) (w0:World) (hM:∀ k,M k→k < w0.heap.size) (hf:Stable M w0 (MemF m)):Ret Tryz.prog 34 [vMem m] w0 (fun _=>False) fun v w'=>ShortO M (shortP m.m) v w0 w':=by
 have hl1:=hl.seeds
 have hl2:=hl.vers
 have hl3:=hl.seen
 refine enter Tryz.func34 rfl rfl (Wd.beginM (M:=M) (fs:=[GlF m.sp m.seeds,GlF m.vp m.vers,GlF m.ep m.seen]) hM (by simp;exact ⟨hf.imp fun _ h=>h.1,hf.imp fun _ h=>h.2.1,hf.imp fun _ h=>h.2.2⟩)) (fun a S=>?_)
 simp only[Tryz.ntmps34,qqA,qqB,Nat.reduceAdd,Nat.reduceSub,qqC,qqD,qqE,qqF]at S
 refine kS (kR ?_);refine sa S ?_;clear S;intro b1 a w S;refine sa S ?_;clear S;intro b2 a w S;refine kN (xtn (kS (kR ?_)));refine sa S ?_;clear S;intro b3 a w S;refine kN (xtn (kS ?_));refine c_drawD [(0,true),(1,true),(2,true),(3,true),(4,true),(5,true),(6,true),(7,true),(8,true),(9,false),(10,true),(11,false),(12,true),(13,false),(14,true),(15,false)] [b3] S ?_;clear S;intro w S
 (iterate 9 (refine dq S ?_;clear S;intro a S));refine dl (sw S ?_);clear S;intro a w S;refine de S ?_;refine dq S ?_;clear S;intro a S;refine dl (sw S ?_);clear S;intro a w S;refine de S ?_;refine dq S ?_;clear S;intro a S;refine dl (sw S ?_);clear S;intro a w S;refine de S ?_;refine dq S ?_;clear S;intro a S;refine dl (sw S ?_);clear S;intro a w S;refine de S ?_;refine dn (xtn ?_)
 refine c_mrge3 S (fun(o1:List LMark) (p1:Option Addr) (c1:Nat) uu=>[(4,uu 4),(0,uu 5),(16,uu 22),(0,uu 23),(0,uu 24),(0,uu 25),(0,uu 26),(0,uu 27),(0,uu 28),(0,uu 29),(0,uu 30),(0,uu 31),(0,uu 32),(0,uu 33),(0,uu 34),(0,uu 35),(0,uu 36),(0,uu 37),(0,uu 38),(0,uu 39),(0,uu 40),(0,uu 41),(0,uu 42),(0,uu 43),(0,uu 44),(0,uu 45),(0,uu 46),(0,uu 47)]) (fun(o1:List LMark) (p1:Option Addr) (c1:Nat)=>[Wk.row 175 2 p1 o1.length c1 (encL o1),Wk.box b3 67 [.int .i64 m.user,.int .i64 m.leaf,.int .i64 m.counter,.int .i64 m.num,.slice p1 o1.length c1,.slice none 0 0,.slice none 0 0],Wk.box b2 67 [.int .i64 0,.int .i64 0,.int .i64 0,.int .i64 0,.slice none 0 0,.slice none 0 0,.slice none 0 0],Wk.box b1 67 (cMem m),ext M]) (fun(o1:List LMark) (p1:Option Addr) (c1:Nat)=>[GlF m.sp m.seeds,GlF m.vp m.vers,GlF m.ep m.seen]) (fun(o1:List LMark) (p1:Option Addr) (c1:Nat)=>o1=(m.seeds.take 7).map (cutN 25)) ?_ ?_
 refine kS (kR ?_);(iterate 4 (refine sq S ?_;clear S;intro a S));refine kN (xtn (kB ?_))
 refine c_fore4 S (fun(k:Nat) (o1:List LMark) (p1:Option Addr) (c1:Nat) uu=>[(4,uu 4),(0,uu 5),(19,.int .i64 (k:Nat)),(0,uu 26),(0,uu 27),(0,uu 28),(0,uu 29),(0,uu 30),(0,uu 31),(0,uu 32),(0,uu 33),(0,uu 34),(0,uu 35),(0,uu 36),(0,uu 37),(0,uu 38),(0,uu 39),(0,uu 40),(0,uu 41),(0,uu 42),(0,uu 43),(0,uu 44),(0,uu 45),(0,uu 46),(0,uu 47)]) (fun(k:Nat) (o1:List LMark) (p1:Option Addr) (c1:Nat)=>[Wk.row 175 2 p1 o1.length c1 (encL o1),Wk.box b3 67 [.int .i64 m.user,.int .i64 m.leaf,.int .i64 m.counter,.int .i64 m.num,.slice p1 o1.length c1,.slice none 0 0,.slice none 0 0],Wk.box b2 67 [.int .i64 0,.int .i64 0,.int .i64 0,.int .i64 0,.slice none 0 0,.slice none 0 0,.slice none 0 0],Wk.box b1 67 (cMem m),ext M]) (fun(k:Nat) (o1:List LMark) (p1:Option Addr) (c1:Nat)=>[GlF m.sp m.seeds,GlF m.vp m.vers,GlF m.ep m.seen]) (fun(k:Nat) (o1:List LMark) (p1:Option Addr) (c1:Nat)=>k≤7∧k≤m.seeds.length∧o1.length=k∧o1=(m.seeds.take k).map (cutN 25)) (fun(k:Nat) (o1:List LMark) (p1:Option Addr) (c1:Nat)=>m.seeds.length - k) (0) ([]) (none) (0) ?_ S.uu ?_ ?_
 exact ⟨Nat.zero_le _,Nat.zero_le _,rfl,rfl⟩
 replace S:=S.addNil 175 2
 rw[show Wk.row 175 2 none 0 0 []=Wk.row 175 2 none 0 0 (encL ([]:List LMark)) from rfl]at S
 exact S.sub _ _
 clear S;rintro k o1 p1 c1 uu a w ⟨hk8,hk,hkl0,hrel⟩ S
 refine kS (kR (sq S ?_));clear S;intro a S;refine kN (xtn (kS ?_))
 refine kC S (fun h4=>?_) (fun h4=>?_)
 refine kK (xtn (kS (kB (kS ?_))))
 have hkl:k < m.seeds.length:=by have:=of_decide_eq_true h4;omega
 have hK:KLt k m.seeds.length:=⟨hkl⟩
 have hL:LeC (min (nthG m.seeds k).key.length 25) (nthG m.seeds k).key.length:=⟨Nat.min_le_left _ _⟩
 refine kR ?_;(iterate 3 (refine sq S ?_;clear S;intro a S));refine sa S ?_;clear S;intro b5 a w S;refine sq S ?_;clear S;intro a S;refine sw S ?_;clear S;intro a w S;refine kN (xtn (kS (kS (kR ?_))));(iterate 2 (refine sq S ?_;clear S;intro a S));refine kN (xtn ?_)
 refine kC S (fun h6=>?_) (fun h6=>?_)
 refine kE (xte (xbx (xte (xte (xbe (xtn ?_))))))
 exact ⟨o1,p1,c1,S.uu,by rw[hrel,show k=7 from by have:=of_decide_eq_true h6;omega],S.sub _ _⟩
 refine kK (xtn ?_);refine c_drawL 15 [(0,true),(1,true),(2,true),(3,true),(4,true),(5,true),(6,true),(7,true),(8,true),(9,true),(10,true),(11,true),(12,false),(13,false),(14,true),(15,false)] [Wk.box b5 175 [str (nthG m.seeds k).key,.int .i64 (nthG m.seeds k).ver],Wk.box b3 67 [.int .i64 m.user,.int .i64 m.leaf,.int .i64 m.counter,.int .i64 m.num,.slice p1 o1.length c1,.slice none 0 0,.slice none 0 0]] S ?_;clear S;intro w S;(iterate 9 (refine dqL S ?_;clear S;intro a S))
 rw[List.drop_zero]at S
 (iterate 3 (refine dqL S ?_;clear S;intro a S));refine dlL (sn S ?_);clear S;intro b44 a w S
 replace S:=S.boxRow b44 2 1 rfl (by decide)
 rw[show [str ((nthG m.seeds k).key.take (min (nthG m.seeds k).key.length 25)),.int .i64 (nthG m.seeds k).ver]=encL [cutN 25 (nthG m.seeds k)] from rfl]at S
 refine deL S ?_;refine dlL ?_
 refine sap S (by simp[maxLen];omega) (by omega) ?_;clear S;rintro p7 c7 a w - S
 rw[←encL_append,show o1.length+1=(o1++[cutN 25 (nthG m.seeds k)]).length from by simp]at S
 refine deL S ?_;refine dqL S ?_;clear S;intro a S;refine dlL (sw S ?_);clear S;intro a w S;refine dzL (xbn (xtn (kR ?_)));(iterate 2 (refine sq S ?_;clear S;intro a S));refine kN (xtn ?_)
 rw[w64 ((k:Int)+1) (by omega) (by omega)]at S
 refine ⟨k+1,o1++[cutN 25 (nthG m.seeds k)],p7,c7,S.uu,⟨by have:=of_decide_eq_false h6;omega,hkl,by simp;omega,by rw[hrel];exact take_snoc hkl _⟩,S.sub _ _,by omega⟩
 refine kE (xte (xte (xbe (xtn ?_))))
 have hkl:m.seeds.length≤k:=by have:=of_decide_eq_false h4;omega
 exact ⟨o1,p1,c1,S.uu,by rw[hrel,List.take_of_length_le hkl,List.take_of_length_le (by omega)],S.sub _ _⟩
 clear S;rintro o1 p1 c1 uu a w ho1 S
 refine c_mrge3 S (fun(o2:List LMark) (p2:Option Addr) (c2:Nat) uu=>[(6,uu 6),(0,uu 7),(40,uu 48),(0,uu 49),(0,uu 50),(0,uu 51),(0,uu 52),(0,uu 53),(0,uu 54),(0,uu 55),(0,uu 56),(0,uu 57),(0,uu 58),(0,uu 59),(0,uu 60),(0,uu 61),(0,uu 62),(0,uu 63),(0,uu 64),(0,uu 65),(0,uu 66),(0,uu 67),(0,uu 68),(0,uu 69),(0,uu 70),(0,uu 71),(0,uu 72),(0,uu 73)]) (fun(o2:List LMark) (p2:Option Addr) (c2:Nat)=>[Wk.row 177 2 p2 o2.length c2 (encL o2),Wk.row 175 2 p1 o1.length c1 (encL o1),Wk.box b3 67 [.int .i64 m.user,.int .i64 m.leaf,.int .i64 m.counter,.int .i64 m.num,.slice p1 o1.length c1,.slice p2 o2.length c2,.slice none 0 0],Wk.box b2 67 [.int .i64 0,.int .i64 0,.int .i64 0,.int .i64 0,.slice none 0 0,.slice none 0 0,.slice none 0 0],Wk.box b1 67 (cMem m),ext M]) (fun(o2:List LMark) (p2:Option Addr) (c2:Nat)=>[GlF m.sp m.seeds,GlF m.vp m.vers,GlF m.ep m.seen]) (fun(o2:List LMark) (p2:Option Addr) (c2:Nat)=>o2=(m.vers.take 17).map (cutN 65)) ?_ ?_
 refine kS (kR ?_);(iterate 4 (refine sq S ?_;clear S;intro a S));refine kN (xtn (kB ?_))
 refine c_fore4 S (fun(k:Nat) (o2:List LMark) (p2:Option Addr) (c2:Nat) uu=>[(6,uu 6),(0,uu 7),(43,.int .i64 (k:Nat)),(0,uu 52),(0,uu 53),(0,uu 54),(0,uu 55),(0,uu 56),(0,uu 57),(0,uu 58),(0,uu 59),(0,uu 60),(0,uu 61),(0,uu 62),(0,uu 63),(0,uu 64),(0,uu 65),(0,uu 66),(0,uu 67),(0,uu 68),(0,uu 69),(0,uu 70),(0,uu 71),(0,uu 72),(0,uu 73)]) (fun(k:Nat) (o2:List LMark) (p2:Option Addr) (c2:Nat)=>[Wk.row 177 2 p2 o2.length c2 (encL o2),Wk.row 175 2 p1 o1.length c1 (encL o1),Wk.box b3 67 [.int .i64 m.user,.int .i64 m.leaf,.int .i64 m.counter,.int .i64 m.num,.slice p1 o1.length c1,.slice p2 o2.length c2,.slice none 0 0],Wk.box b2 67 [.int .i64 0,.int .i64 0,.int .i64 0,.int .i64 0,.slice none 0 0,.slice none 0 0,.slice none 0 0],Wk.box b1 67 (cMem m),ext M]) (fun(k:Nat) (o2:List LMark) (p2:Option Addr) (c2:Nat)=>[GlF m.sp m.seeds,GlF m.vp m.vers,GlF m.ep m.seen]) (fun(k:Nat) (o2:List LMark) (p2:Option Addr) (c2:Nat)=>k≤17∧k≤m.vers.length∧o2.length=k∧o2=(m.vers.take k).map (cutN 65)) (fun(k:Nat) (o2:List LMark) (p2:Option Addr) (c2:Nat)=>m.vers.length - k) (0) ([]) (none) (0) ?_ S.uu ?_ ?_
 exact ⟨Nat.zero_le _,Nat.zero_le _,rfl,rfl⟩
 replace S:=S.addNil 177 2
 rw[show Wk.row 177 2 none 0 0 []=Wk.row 177 2 none 0 0 (encL ([]:List LMark)) from rfl]at S
 exact S.sub _ _
 clear S;rintro k o2 p2 c2 uu a w ⟨hk8,hk,hkl0,hrel⟩ S
 refine kS (kR (sq S ?_));clear S;intro a S;refine kN (xtn (kS ?_))
 refine kC S (fun h10=>?_) (fun h10=>?_)
 refine kK (xtn (kS (kB (kS ?_))))
 have hkl:k < m.vers.length:=by have:=of_decide_eq_true h10;omega
 have hK:KLt k m.vers.length:=⟨hkl⟩
 have hL:LeC (min (nthG m.vers k).key.length 65) (nthG m.vers k).key.length:=⟨Nat.min_le_left _ _⟩
 refine kR ?_;(iterate 3 (refine sq S ?_;clear S;intro a S));refine sa S ?_;clear S;intro b7 a w S;refine sq S ?_;clear S;intro a S;refine sw S ?_;clear S;intro a w S;refine kN (xtn (kS (kS (kR ?_))));(iterate 2 (refine sq S ?_;clear S;intro a S));refine kN (xtn ?_)
 refine kC S (fun h12=>?_) (fun h12=>?_)
 refine kE (xte (xbx (xte (xte (xbe (xtn ?_))))))
 exact ⟨o2,p2,c2,S.uu,by rw[hrel,show k=17 from by have:=of_decide_eq_true h12;omega],S.sub _ _⟩
 refine kK (xtn ?_);refine c_drawL 15 [(0,true),(1,true),(2,true),(3,true),(4,true),(5,true),(6,true),(7,true),(8,true),(9,true),(10,true),(11,true),(12,false),(13,false),(14,true),(15,false)] [Wk.box b7 177 [str (nthG m.vers k).key,.int .i64 (nthG m.vers k).ver],Wk.box b3 67 [.int .i64 m.user,.int .i64 m.leaf,.int .i64 m.counter,.int .i64 m.num,.slice p1 o1.length c1,.slice p2 o2.length c2,.slice none 0 0]] S ?_;clear S;intro w S;(iterate 9 (refine dqL S ?_;clear S;intro a S))
 rw[List.drop_zero]at S
 (iterate 3 (refine dqL S ?_;clear S;intro a S));refine dlL (sn S ?_);clear S;intro b44 a w S
 replace S:=S.boxRow b44 2 1 rfl (by decide)
 rw[show [str ((nthG m.vers k).key.take (min (nthG m.vers k).key.length 65)),.int .i64 (nthG m.vers k).ver]=encL [cutN 65 (nthG m.vers k)] from rfl]at S
 refine deL S ?_;refine dlL ?_
 refine sap S (by simp[maxLen];omega) (by omega) ?_;clear S;rintro p7 c7 a w - S
 rw[←encL_append,show o2.length+1=(o2++[cutN 65 (nthG m.vers k)]).length from by simp]at S
 refine deL S ?_;refine dqL S ?_;clear S;intro a S;refine dlL (sw S ?_);clear S;intro a w S;refine dzL (xbn (xtn (kR ?_)));(iterate 2 (refine sq S ?_;clear S;intro a S));refine kN (xtn ?_)
 rw[w64 ((k:Int)+1) (by omega) (by omega)]at S
 refine ⟨k+1,o2++[cutN 65 (nthG m.vers k)],p7,c7,S.uu,⟨by have:=of_decide_eq_false h12;omega,hkl,by simp;omega,by rw[hrel];exact take_snoc hkl _⟩,S.sub _ _,by omega⟩
 refine kE (xte (xte (xbe (xtn ?_))))
 have hkl:m.vers.length≤k:=by have:=of_decide_eq_false h10;omega
 exact ⟨o2,p2,c2,S.uu,by rw[hrel,List.take_of_length_le hkl,List.take_of_length_le (by omega)],S.sub _ _⟩
 clear S;rintro o2 p2 c2 uu a w ho2 S
 refine c_mrge3 S (fun(o3:List LSeen) (p3:Option Addr) (c3:Nat) uu=>[(8,uu 8),(0,uu 9),(64,uu 74),(0,uu 75),(0,uu 76),(0,uu 77),(0,uu 78),(0,uu 79),(0,uu 80),(0,uu 81),(0,uu 82),(0,uu 83),(0,uu 84),(0,uu 85),(0,uu 86),(0,uu 87),(0,uu 88),(0,uu 89),(0,uu 90),(0,uu 91),(0,uu 92),(0,uu 93),(0,uu 94),(0,uu 95),(0,uu 96),(0,uu 97)]) (fun(o3:List LSeen) (p3:Option Addr) (c3:Nat)=>[Wk.row 179 7 p3 o3.length c3 (encL o3),Wk.row 177 2 p2 o2.length c2 (encL o2),Wk.row 175 2 p1 o1.length c1 (encL o1),Wk.box b3 67 [.int .i64 m.user,.int .i64 m.leaf,.int .i64 m.counter,.int .i64 m.num,.slice p1 o1.length c1,.slice p2 o2.length c2,.slice p3 o3.length c3],Wk.box b2 67 [.int .i64 0,.int .i64 0,.int .i64 0,.int .i64 0,.slice none 0 0,.slice none 0 0,.slice none 0 0],Wk.box b1 67 (cMem m),ext M]) (fun(o3:List LSeen) (p3:Option Addr) (c3:Nat)=>[AllI o3,GlF m.sp m.seeds,GlF m.vp m.vers,GlF m.ep m.seen]) (fun(o3:List LSeen) (p3:Option Addr) (c3:Nat)=>o3.map LSeen.s=(m.seen.take 8).map fun s=>smallS s.s) ?_ ?_
 refine kS (kR ?_);(iterate 4 (refine sq S ?_;clear S;intro a S));refine kN (xtn (kB ?_))
 refine c_fore4 S (fun(k:Nat) (o3:List LSeen) (p3:Option Addr) (c3:Nat) uu=>[(8,uu 8),(0,uu 9),(67,.int .i64 (k:Nat)),(0,uu 78),(0,uu 79),(0,uu 80),(0,uu 81),(0,uu 82),(0,uu 83),(0,uu 84),(0,uu 85),(0,uu 86),(0,uu 87),(0,uu 88),(0,uu 89),(0,uu 90),(0,uu 91),(0,uu 92),(0,uu 93),(0,uu 94),(0,uu 95),(0,uu 96),(0,uu 97)]) (fun(k:Nat) (o3:List LSeen) (p3:Option Addr) (c3:Nat)=>[Wk.row 179 7 p3 o3.length c3 (encL o3),Wk.row 177 2 p2 o2.length c2 (encL o2),Wk.row 175 2 p1 o1.length c1 (encL o1),Wk.box b3 67 [.int .i64 m.user,.int .i64 m.leaf,.int .i64 m.counter,.int .i64 m.num,.slice p1 o1.length c1,.slice p2 o2.length c2,.slice p3 o3.length c3],Wk.box b2 67 [.int .i64 0,.int .i64 0,.int .i64 0,.int .i64 0,.slice none 0 0,.slice none 0 0,.slice none 0 0],Wk.box b1 67 (cMem m),ext M]) (fun(k:Nat) (o3:List LSeen) (p3:Option Addr) (c3:Nat)=>[AllI o3,GlF m.sp m.seeds,GlF m.vp m.vers,GlF m.ep m.seen]) (fun(k:Nat) (o3:List LSeen) (p3:Option Addr) (c3:Nat)=>k≤8∧k≤m.seen.length∧o3.length=k∧o3.map LSeen.s=(m.seen.take k).map fun s=>smallS s.s) (fun(k:Nat) (o3:List LSeen) (p3:Option Addr) (c3:Nat)=>m.seen.length - k) (0) ([]) (none) (0) ?_ S.uu ?_ ?_
 exact ⟨Nat.zero_le _,Nat.zero_le _,rfl,rfl⟩
 replace S:=S.addNil 179 7
 rw[show Wk.row 179 7 none 0 0 []=Wk.row 179 7 none 0 0 (encL ([]:List LSeen)) from rfl]at S
 replace S:=S.add (Φ:=AllI ([]:List LSeen)) (fun _ _ _ hx=>by cases hx)
 exact S.sub _ _
 clear S;rintro k o3 p3 c3 uu a w ⟨hk8,hk,hkl0,hrel⟩ S
 refine kS (kR (sq S ?_));clear S;intro a S;refine kN (xtn (kS ?_))
 refine kC S (fun h16=>?_) (fun h16=>?_)
 refine kK (xtn (kS (kB (kS ?_))))
 have hkl:k < m.seen.length:=by have:=of_decide_eq_true h16;omega
 have hK:KLt k m.seen.length:=⟨hkl⟩
 refine kR ?_;(iterate 3 (refine sq S ?_;clear S;intro a S));refine sa S ?_;clear S;intro b9 a w S;refine sq S ?_;clear S;intro a S;refine sw S ?_;clear S;intro a w S;refine kN (xtn (kS (kS (kR ?_))));(iterate 2 (refine sq S ?_;clear S;intro a S));refine kN (xtn ?_)
 refine kC S (fun h18=>?_) (fun h18=>?_)
 refine kE (xte (xbx (xte (xte (xbe (xtn ?_))))))
 exact ⟨o3,p3,c3,S.uu,by rw[hrel,show k=8 from by have:=of_decide_eq_true h18;omega],S.sub _ _⟩
 refine kK (xtn ?_);refine c_drawL 13 [(0,true),(1,true),(2,true),(3,true),(4,true),(5,true),(6,true),(7,true),(8,false),(9,true),(10,false),(11,false),(12,true),(13,false)] [Wk.box b9 179 [.int .i64 (nthG m.seen k).user,.int .i64 (nthG m.seen k).cnt,.int .i64 (nthG m.seen k).root.kind,.int .i64 (nthG m.seen k).root.user,.int .i64 (nthG m.seen k).root.num,str (nthG m.seen k).root.text,.slice (nthG m.seen k).root.p (nthG m.seen k).root.kids.length (nthG m.seen k).root.cap],Wk.box b3 67 [.int .i64 m.user,.int .i64 m.leaf,.int .i64 m.counter,.int .i64 m.num,.slice p1 o1.length c1,.slice p2 o2.length c2,.slice p3 o3.length c3]] S ?_;clear S;intro w S
 (iterate 8 (refine dqL S ?_;clear S;intro a S));refine dlL ?_
 refine sr S (small_c _ (nthG m.seen k).root 10 _ w (Nat.lt_succ_self _) (by decide) (by decide) (foots_lt S) ((S.mem.fact (GlF m.ep m.seen)).imp fun _ h=>h.2 _ (nthG_mem hkl))) ?_;clear S;rintro _ a w ⟨z,rfl,hz,hzf⟩ S
 replace S:=S.add (Φ:=LtF z) hzf
 have hA1:Stable _ _ (AllI o3):=S.wd.facts (AllI o3) (by simp)
 have hA2:=S.t z
 replace S:=S.add (Φ:=AllI (o3++[(⟨(nthG m.seen k).user,(nthG m.seen k).cnt,z⟩:LSeen)])) (AllI.snoc (r:=(⟨(nthG m.seen k).user,(nthG m.seen k).cnt,z⟩:LSeen)) hA1 hA2)
 refine deL S ?_;refine dqL S ?_;clear S;intro a S;refine dlL (sn S ?_);clear S;intro b44 a w S
 replace S:=S.boxRow b44 7 1 rfl (by decide)
 rw[show [.int .i64 (nthG m.seen k).user,.int .i64 (nthG m.seen k).cnt,.int .i64 z.kind,.int .i64 z.user,.int .i64 z.num,str z.text,.slice z.p z.kids.length z.cap]=encL [(⟨(nthG m.seen k).user,(nthG m.seen k).cnt,z⟩:LSeen)] from rfl]at S
 refine deL S ?_;refine dlL ?_
 refine sap S (by simp[maxLen];omega) (by omega) ?_;clear S;rintro p7 c7 a w - S
 rw[←encL_append,show o3.length+1=(o3++[(⟨(nthG m.seen k).user,(nthG m.seen k).cnt,z⟩:LSeen)]).length from by simp]at S
 refine deL S ?_;refine dqL S ?_;clear S;intro a S;refine dlL (sw S ?_);clear S;intro a w S;refine dzL (xbn (xtn (kR ?_)));(iterate 2 (refine sq S ?_;clear S;intro a S));refine kN (xtn ?_)
 rw[w64 ((k:Int)+1) (by omega) (by omega)]at S
 refine ⟨k+1,o3++[⟨(nthG m.seen k).user,(nthG m.seen k).cnt,z⟩],p7,c7,S.uu,⟨by have:=of_decide_eq_false h18;omega,hkl,by simp;omega,?_⟩,S.sub _ _,by omega⟩
 rw[List.map_append,hrel,←take_snoc hkl]
 show _++[(⟨_,_,z.t⟩:PSeen)]=_
 rw[hz];rfl
 refine kE (xte (xte (xbe (xtn ?_))))
 have hkl:m.seen.length≤k:=by have:=of_decide_eq_false h16;omega
 exact ⟨o3,p3,c3,S.uu,by rw[hrel,List.take_of_length_le hkl,List.take_of_length_le (by omega)],S.sub _ _⟩
 clear S;rintro o3 p3 c3 uu a w ho3 S;refine kS (kR (sq S ?_));clear S;intro a S;refine sw S ?_;clear S;intro a w S;refine kN (xtn (kT ?_))
 have e3:o3.length≤8:=by
  have:=congrArg List.length ho3
  rw[List.length_map,List.length_map,List.length_take]at this;omega
 have e1:o1.length≤7:=by rw[ho1,List.length_map,List.length_take];omega
 have e2:o2.length≤17:=by rw[ho2,List.length_map,List.length_take];omega
 replace S:=S.rowToGl p3 o3 (e:=179) (sz:=7) (n:=o3.length) (c:=c3) (S.wd.facts (AllI o3) (by simp))
 replace S:=(S.front (Wk.row 175 2 p1 o1.length c1 (encL o1))).rowToGl p1 o1 (e:=175) (sz:=2) (n:=o1.length) (c:=c1) (fun _ _ _ _=>trivial)
 have hrow:=S.row p2 o2.length
 have hnew:=S.rowNew p2 o2.length
 have g1:Stable (fun k=>M k∨∃ ad,p2=some ad∧k=ad.block) _ (GlF p1 o1):=(S.wd.facts (GlF p1 o1) (by simp)).less fun k _ hk=>hk.elim (fun h=>⟨ext M,by simp,h⟩) (fun h=>⟨Wk.row 177 2 p2 o2.length c2 (encL o2),by simp,h⟩)
 have g3:Stable (fun k=>M k∨∃ ad,p2=some ad∧k=ad.block) _ (GlF p3 o3):=(S.wd.facts (GlF p3 o3) (by simp)).less fun k _ hk=>hk.elim (fun h=>⟨ext M,by simp,h⟩) (fun h=>⟨Wk.row 177 2 p2 o2.length c2 (encL o2),by simp,h⟩)
 have hap:∀ ad,p2=some ad→¬M ad.block:=fun ad had hm=>St.apart2 S (Wk.row 177 2 p2 o2.length c2 (encL o2)) (ext M) ad.block ⟨ad,had,rfl⟩ hm
 refine end1 S (fun _=>?_)
 refine ⟨⟨m.user,m.leaf,m.counter,m.num,p1,c1,o1,p2,c2,o2,p3,c3,o3⟩,rfl,?_,⟨by show o1.length≤1000;omega,by show o2.length≤1000;omega,by show o3.length≤1000;omega,fun x hx=>by have:=cut_len (n:=25) (xs:=m.seeds) 7 x (by rw[←ho1];exact hx);omega,fun x hx=>by have:=cut_len (n:=65) (xs:=m.vers) 17 x (by rw[←ho2];exact hx);omega⟩,hrow,fun ad h=>⟨(hnew ad h).elim (fun h=>h.elim) id,hap ad h⟩,g1,g3⟩
 show PMem.mk _ _ _ _ o1 o2 (ssP o3)=_
 rw[ssP,ho3,ho1,ho2,shortP,LMem.m]
 simp only[ssP,List.map_take,List.map_map]
 rfl
theorem short_c (m:LMem) (hl:BigM m) (M:Nat→Prop) (w0:World) (hM:∀ k,M k→k < w0.heap.size) (hf:Stable M w0 (MemF m)):Ret Tryz.prog 34 [vMem m] w0 (fun _=>False) fun v w'=>IsM M w' v (shortP m.m):=
 (short_o m hl M w0 hM hf).mono fun _v _w' ⟨x,h1,h2,h3,h4,h5,h6,h7⟩=>⟨x,h1,h2,h3,fun w2 hw2=>⟨h6.less (fun _ _ h=>.inl h) w2 hw2,gl_own h4 (fun _ _ _ _=>trivial) (fun ad h=>(h5 ad h).2) w2 hw2,h7.less (fun _ _ h=>.inl h) w2 hw2⟩⟩
theorem numM1 (c:UInt8):numN [c] 0=c.toNat:=by simp[numN]
theorem numM2 (c d:UInt8):numN [c,d] 0=c.toNat*256+d.toNat:=by simp[numN];omega
theorem text_inv {k:Int} {bs s r:List UInt8} (h:textD k bs=.ok (s,r)):bs=put1 k s++r:=by
 cases hf:hasF (fieldsOf k) 1 with
 | false=>rw[textD_none hf]at h;cases h;rw[put1,hf];rfl
 | true=>
  match bs with
  | []=>rw[textD_nil hf]at h;cases h
  | c::bs=>
   by_cases h1:64 < c.toNat
   rw[textD_long hf h1]at h;cases h
   by_cases h2:bs.length < c.toNat
   rw[textD_short hf h1 h2]at h;cases h
   rw[textD_ok hf h1 h2]at h
   cases h
   rw[put1,if_pos hf,List.length_take,Nat.min_eq_left (by omega),qqE,List.take_append_drop]
   congr 1
   rw[Wk.u8]
   refine UInt8.toNat.inj ?_
   rw[UInt8.toNat_ofNat']
   have:=UInt8.toNat_lt c
   omega
theorem u8_back (c:UInt8):Wk.u8 ((c.toNat:Nat):Int)=c:=by
 rw[Wk.u8]
 refine UInt8.toNat.inj ?_
 rw[UInt8.toNat_ofNat']
 have:=UInt8.toNat_lt c
 omega
theorem user_inv {k u:Int} {bs r:List UInt8} (h:userD k bs=.ok (u,r)):bs=put2 k u++r:=by
 cases hf:hasF (fieldsOf k) 2 with
 | false=>rw[userD_none hf]at h;cases h;rw[put2,hf];rfl
 | true=>
  match bs with
  | []=>rw[userD_nil hf]at h;cases h
  | c::bs=>
   by_cases h1:1≤c.toNat∧c.toNat≤6
   rw[userD_ok hf h1]at h
   cases h
   rw[put2,if_pos hf,u8_back];rfl
   rw[userD_bad hf h1]at h;cases h
theorem be2_two (c d:UInt8):be 2 ((numN [c,d] 0:Nat):Int)=[c,d]:=by
 have e:∀ n:Int,be 2 n=[Wk.u8 (n.fdiv (2 ^ 8)),Wk.u8 (n.fdiv (2 ^ 0))]:=fun _=>rfl
 rw[e,numM2]
 have h1:=UInt8.toNat_lt c
 have h2:=UInt8.toNat_lt d
 have e1:((c.toNat*256+d.toNat:Nat):Int).fdiv (2 ^ 8)=((c.toNat:Nat):Int):=by
  rw[Int.fdiv_eq_ediv_of_nonneg _ (by decide)]
  show ((c.toNat*256+d.toNat:Nat):Int) / 256=_
  omega
 have e2:((c.toNat*256+d.toNat:Nat):Int).fdiv (2 ^ 0)=((c.toNat*256+d.toNat:Nat):Int):=by
  rw[Int.fdiv_eq_ediv_of_nonneg _ (by decide)]
  show ((c.toNat*256+d.toNat:Nat):Int) / 1=_
  omega
 rw[e1,e2,u8_back]
 congr 2
 rw[Wk.u8]
 refine UInt8.toNat.inj ?_
 rw[UInt8.toNat_ofNat']
 omega
theorem num_inv {k n:Int} {bs r:List UInt8} (h:numD k bs=.ok (n,r)):bs=put4 k n++r:=by
 cases hf:hasF (fieldsOf k) 4 with
 | false=>rw[numD_none hf]at h;cases h;rw[put4,hf];rfl
 | true=>
  match bs with
  | []=>rw[numD_bad hf (by simp)]at h;cases h
  | [c]=>rw[numD_bad hf (by simp)]at h;cases h
  | c::d::bs=>
   rw[numD_ok hf (by simp)]at h
   cases h
   have h1:=UInt8.toNat_lt c
   have h2:=UInt8.toNat_lt d
   rw[put4,if_pos hf]
   show c::d::bs=be 2 (IntKind.u16.wrap ((numN [c,d] 0:Nat):Int))++bs
   rw[wu16 _ (by rw[numM2];omega) (by rw[numM2];omega),be2_two];rfl
theorem kids_inv (f:Nat→List UInt8→DecE (Term × Nat × List UInt8)) (hf:∀ left bs t l r,f left bs=.ok (t,l,r)→bs=bytesF t++r):∀ (j left:Nat) (bs:List UInt8) (ks:List Term) (l:Nat) (r:List UInt8),kidsD f j left bs=.ok (ks,l,r)→bs=bytesLF ks++r
 | 0,left,bs,ks,l,r,h=>by rw[kidsD]at h;cases h;rfl
 | j+1,left,bs,ks,l,r,h=>by
  rw[kidsD]at h
  cases hx:f left bs with
  | error e=>rw[hx]at h;cases h
  | ok x=>
   obtain ⟨t,l1,b1⟩:=x
   rw[hx]at h
   simp only at h
   cases hy:kidsD f j l1 b1 with
   | error e=>rw[hy]at h;cases h
   | ok y=>
    obtain ⟨ts,l2,b2⟩:=y
    rw[hy]at h
    cases h
    rw[bytesLF,List.append_assoc,←kids_inv f hf j l1 b1 ts l r hy,←hf left bs t l1 b1 hx]
theorem dec_inv:∀ (m left:Nat) (bs:List UInt8) (t:Term) (l:Nat) (r:List UInt8),decT m left bs=.ok (t,l,r)→bs=bytesF t++r
 | m,_,[],_,_,_,h=>by rw[decT_nil]at h;cases h
 | 0,left,c::bs,t,l,r,h=>by rw[decT_cons,if_pos (.inl rfl)]at h;cases h
 | m+1,left,c::bs,t,l,r,h=>by
  rw[decT_cons]at h
  split at h
  cases h
  rw[decB]at h
  cases h1:textD (c.toNat:Int) bs with
  | error e=>rw[h1]at h;cases h
  | ok x1=>
   obtain ⟨s,b1⟩:=x1
   rw[h1]at h;simp only at h
   cases h2:userD (c.toNat:Int) b1 with
   | error e=>rw[h2]at h;cases h
   | ok x2=>
    obtain ⟨u,b2⟩:=x2
    rw[h2]at h;simp only at h
    cases h3:numD (c.toNat:Int) b2 with
    | error e=>rw[h3]at h;cases h
    | ok x3=>
     obtain ⟨n,b3⟩:=x3
     rw[h3]at h;simp only at h
     cases h4:kidsD (decT (m+1 - 1)) (kidsN (c.toNat:Int)) (left - 1) b3 with
     | error e=>rw[h4]at h;cases h
     | ok x4=>
      obtain ⟨ks,l4,b4⟩:=x4
      rw[h4]at h
      cases h
      have h5:=kids_inv (decT (m+1 - 1)) (fun left bs t l r h=>dec_inv m left bs t l r h) _ _ _ _ _ _ h4
      rw[bytesF,headF,u8_back,List.append_assoc,←h5]
      simp only[List.append_assoc]
      rw[←num_inv h3,←user_inv h2,←text_inv h1];rfl
def e1D (bs:List UInt8):=tkB 1 (bs,false)
def e2D (bs:List UInt8):=tkB 2 (e1D bs).2
def e3D (bs:List UInt8):=tkB 2 (e2D bs).2
def e4D (bs:List UInt8):=tkB 2 (e3D bs).2
def c1D (bs:List UInt8):=tkB 1 (e4D bs).2
def s1D (bs:List UInt8):=marksD (numN (c1D bs).1 0) (c1D bs).2
def c2D (bs:List UInt8):=tkB 1 (s1D bs).2
def s2D (bs:List UInt8):=marksD (numN (c2D bs).1 0) (c2D bs).2
def c3D (bs:List UInt8):=tkB 1 (s2D bs).2
def s3D (bs:List UInt8):=seensD (numN (c3D bs).1 0) (c3D bs).2
def memD (bs:List UInt8):PMem:=⟨(numN (e1D bs).1 0:Nat),(numN (e2D bs).1 0:Nat),(numN (e3D bs).1 0:Nat),(numN (e4D bs).1 0:Nat),(s1D bs).1,(s2D bs).1,(s3D bs).1⟩
def zeroM:PMem:=⟨0,0,0,0,[],[],[]⟩
def decM (bs:List UInt8):PMem × Int:=
 if (s3D bs).2.2.2=true then (zeroM,7) else
 if (s3D bs).2.1=false∨0 < (s3D bs).2.2.1.length∨memB (memD bs)=false then (zeroM,300) else (memD bs,0)
theorem two_back {n:Int} (h:0≤n∧n≤65535) (X:List UInt8):tkB 2 (twoB n++X,false)=(twoB n,(X,false))∧(numN (twoB n) 0:Int)=n:=by
 rw[twoB,wu16 n h.1 h.2]
 exact ⟨tkB_ok (be_len 2 n),be2_numD h⟩
theorem byte_back {n:Int} (h:0≤n∧n≤255) (X:List UInt8):tkB 1 (Wk.u8 n::X,false)=([Wk.u8 n],(X,false))∧(numN [Wk.u8 n] 0:Int)=n:=
 ⟨tkB_ok (k:=1) (l:=[Wk.u8 n]) rfl,by rw[numM1];exact u8_natD h⟩
structure MarkOk (m:LMark):Prop where
 key:m.key.length≤255
 ver:0≤m.ver∧m.ver≤65535
theorem mark_back {m:LMark} (h:MarkOk m) (X:List UInt8):markD (markE m++X,false)=(m,(X,false)):=by
 have hk:=u8_lenD h.key
 obtain ⟨t1,t2⟩:=two_back h.ver X
 have e1:tkB 1 (markE m++X,false)=([Wk.u8 (m.key.length:Int)],(m.key++(twoB m.ver++X),false)):=by
  rw[markE,List.append_assoc];exact tkB_ok (k:=1) (l:=[Wk.u8 (m.key.length:Int)]) rfl
 have e2:tkB (numN [Wk.u8 (m.key.length:Int)] 0) (m.key++(twoB m.ver++X),false)=(m.key,(twoB m.ver++X,false)):=tkB_ok (by rw[numM1,hk])
 rw[markD,e1];simp only
 rw[e2];simp only
 rw[t1,t2]
theorem marks_back:∀ (l:List LMark) (X:List UInt8),(∀ m∈l,MarkOk m)→marksD l.length (marksE l++X,false)=(l,(X,false))
 | [],X,_=>rfl
 | m::l,X,h=>by
  rw[qqA,marksD,if_neg (by simp),marksE,List.append_assoc,mark_back (h m (.head _))]
  simp only
  rw[marks_back l X fun x hx=>h x (.tail _ hx)]
structure SeenOk (s:PSeen):Prop where
 user:0≤s.user∧s.user≤255
 cnt:0≤s.cnt∧s.cnt≤65535
 root:checkF s.root=0
theorem be4_numN {n:Nat} (h:n < 4294967296):numN (be 4 (n:Int)) 0=n:=by
 have e:be 4 (n:Int)=[Wk.u8 ((n:Int).fdiv (2 ^ 24)),Wk.u8 ((n:Int).fdiv (2 ^ 16)),Wk.u8 ((n:Int).fdiv (2 ^ 8)),Wk.u8 ((n:Int).fdiv (2 ^ 0))]:=rfl
 have hb:∀ x:Nat,(Wk.u8 (x:Int)).toNat=x % 256:=fun x=>by
  rw[Wk.u8,UInt8.toNat_ofNat'];omega
 have d1:(n:Int).fdiv (2 ^ 24)=((n / 16777216:Nat):Int):=by rw[Int.fdiv_eq_ediv_of_nonneg _ (by decide)];rfl
 have d2:(n:Int).fdiv (2 ^ 16)=((n / 65536:Nat):Int):=by rw[Int.fdiv_eq_ediv_of_nonneg _ (by decide)];rfl
 have d3:(n:Int).fdiv (2 ^ 8)=((n / 256:Nat):Int):=by rw[Int.fdiv_eq_ediv_of_nonneg _ (by decide)];rfl
 have d4:(n:Int).fdiv (2 ^ 0)=((n / 1:Nat):Int):=by rw[Int.fdiv_eq_ediv_of_nonneg _ (by decide)];rfl
 rw[e,d1,d2,d3,d4]
 simp only[numN,List.foldl_cons,List.foldl_nil,hb]
 omega
theorem root_back {t:Term} (h:checkF t=0) (X:List UInt8):rootX (be 4 (IntKind.u32.wrap ((nameF t).length:Int))++nameF t++X,false)=(t,true,(X,false)):=by
 have hl:=nameF_short t
 obtain ⟨left,hd⟩:=dec_name h
 have e1:tkB 4 (be 4 (IntKind.u32.wrap ((nameF t).length:Int))++nameF t++X,false)=(be 4 ((nameF t).length:Int),(nameF t++X,false)):=by
  rw[wu32 _ (by omega) (by omega),List.append_assoc];exact tkB_ok (be_len 4 _)
 have e2:tkB (numN (be 4 ((nameF t).length:Int)) 0) (nameF t++X,false)=(nameF t,(X,false)):=tkB_ok (be4_numN (by omega)).symm
 rw[rootX,e1];simp only
 rw[e2];simp only
 rw[if_neg (by simp),rootD,hd];rfl
theorem seen_back {s:PSeen} (h:SeenOk s) (X:List UInt8):seenD (seenE s++X,false)=(s,true,(X,false)):=by
 obtain ⟨b1,b2⟩:=byte_back h.user (twoB s.cnt++(be 4 (IntKind.u32.wrap ((nameF s.root).length:Int))++nameF s.root++X))
 obtain ⟨t1,t2⟩:=two_back h.cnt (be 4 (IntKind.u32.wrap ((nameF s.root).length:Int))++nameF s.root++X)
 have e:seenE s++X=Wk.u8 s.user::(twoB s.cnt++(be 4 (IntKind.u32.wrap ((nameF s.root).length:Int))++nameF s.root++X)):=by rw[seenE];simp
 rw[e,seenD,b1];simp only
 rw[t1];simp only
 rw[root_back h.root X,b2,t2]
theorem seens_back:∀ (l:List PSeen) (X:List UInt8),(∀ s∈l,SeenOk s)→seensD l.length (seensE l++X,false)=(l,true,(X,false))
 | [],X,_=>rfl
 | s::l,X,h=>by
  rw[qqA,seensD,if_neg (by simp),seensE,List.append_assoc,seen_back (h s (.head _))]
  simp only
  rw[seens_back l X fun x hx=>h x (.tail _ hx)]
  rfl
theorem riseS_ok (u:Int):∀ (l:List LMark) (k:List UInt8),riseS u k l=true→∀ m∈l,MarkOk m
 | [],_,_,m,hm=>by cases hm
 | x::l,k,h,m,hm=>by
  rw[riseS]at h
  simp only[Bool.and_eq_true,decide_eq_true_eq,cntK,namedB]at h
  obtain ⟨⟨⟨⟨⟨hu,ho⟩,-⟩,hv⟩,⟨-,hv2⟩⟩,hr⟩:=h
  rcases List.mem_cons.1 hm with rfl | hm
  refine ⟨?_,by omega,hv2⟩
  have hu1:1≤u:=by simp only[knownF,Bool.and_eq_true,decide_eq_true_eq]at hu;exact hu.1
  unfold ownN at ho
  split at ho
  rename_i hc
  have:=hc.1
  simp only[nameK,Bool.and_eq_true,decide_eq_true_eq]at this
  omega
  omega
  exact riseS_ok u l x.key hr m hm
theorem riseM_ok:∀ (l:List LMark) (k:List UInt8),riseM k l=true→∀ m∈l,MarkOk m
 | [],_,_,m,hm=>by cases hm
 | x::l,k,h,m,hm=>by
  rw[riseM]at h
  simp only[Bool.and_eq_true,markB,decide_eq_true_eq]at h
  rcases List.mem_cons.1 hm with rfl | hm
  exact ⟨by omega,h.1.1.1.2,h.1.1.2⟩
  exact riseM_ok l x.key h.2 m hm
theorem seenB_ok:∀ (l:List PSeen) (k:Int),seenB k l=true→∀ s∈l,SeenOk s
 | [],_,_,s,hs=>by cases hs
 | x::l,k,h,s,hs=>by
  rw[seenB]at h
  simp only[Bool.and_eq_true,decide_eq_true_eq,knownF,cntS]at h
  rcases List.mem_cons.1 hs with rfl | hs
  exact ⟨by omega,by omega,h.1.2⟩
  exact seenB_ok l x.user h.2 s hs
theorem seenB_few:∀ (l:List PSeen) (k:Int),k≤6→seenB k l=true→(l.length:Int)≤6 - k
 | [],k,hk,_=>by simp;omega
 | x::l,k,hk,h=>by
  rw[seenB]at h
  simp only[Bool.and_eq_true,decide_eq_true_eq,knownF]at h
  have:=seenB_few l x.user (by omega) h.2
  rw[qqA];push_cast;omega
structure MemOk (m:PMem):Prop where
 user:1≤m.user∧m.user≤6
 leaf:0≤m.leaf∧m.leaf≤65535
 counter:0≤m.counter∧m.counter≤65535
 num:0≤m.num∧m.num≤65535
 seeds:m.seeds.length≤6∧∀ x∈m.seeds,MarkOk x
 vers:m.vers.length≤16∧∀ x∈m.vers,MarkOk x
 seen:m.seen.length≤6∧∀ s∈m.seen,SeenOk s
theorem memB_ok {m:PMem} (h:memB m=true):MemOk m:=by
 rw[memB,headB,okM]at h
 simp only[Bool.and_eq_true,decide_eq_true_eq,cntK]at h
 obtain ⟨⟨⟨⟨⟨⟨h1,h2⟩,h3,h4,h5⟩,h6⟩,h7⟩,h8,h9⟩,h10⟩:=h
 have:=seenB_few m.seen 0 (by omega) h10
 exact ⟨⟨h1,h2⟩,h3,h4,h5,⟨by omega,riseS_ok _ _ _ h7⟩,⟨by omega,riseM_ok _ _ h9⟩,⟨by omega,seenB_ok _ _ h10⟩⟩
theorem encM_shape (m:PMem):encM m=Wk.u8 m.user::(twoB m.leaf++(twoB m.counter++(twoB m.num++(Wk.u8 m.seeds.length::(marksE m.seeds++(Wk.u8 m.vers.length::(marksE m.vers++(Wk.u8 m.seen.length::seensE m.seen)))))))):=by
 rw[encM,tailE1,tailE2,tailE3];simp[twosB]
theorem parts_enc {m:PMem} (h:memB m=true):memD (encM m)=m∧(s3D (encM m)).2=(true,([],false)):=by
 have ok:=memB_ok h
 have q1:=(byte_back (n:=m.user) (by have:=ok.user;omega) (twoB m.leaf++(twoB m.counter++(twoB m.num++(Wk.u8 m.seeds.length::(marksE m.seeds++(Wk.u8 m.vers.length::(marksE m.vers++(Wk.u8 m.seen.length::seensE m.seen)))))))))
 have q2:=two_back ok.leaf (twoB m.counter++(twoB m.num++(Wk.u8 m.seeds.length::(marksE m.seeds++(Wk.u8 m.vers.length::(marksE m.vers++(Wk.u8 m.seen.length::seensE m.seen)))))))
 have q3:=two_back ok.counter (twoB m.num++(Wk.u8 m.seeds.length::(marksE m.seeds++(Wk.u8 m.vers.length::(marksE m.vers++(Wk.u8 m.seen.length::seensE m.seen))))))
 have q4:=two_back ok.num (Wk.u8 m.seeds.length::(marksE m.seeds++(Wk.u8 m.vers.length::(marksE m.vers++(Wk.u8 m.seen.length::seensE m.seen)))))
 have q5:=byte_back (n:=(m.seeds.length:Int)) (by have:=ok.seeds.1;omega) (marksE m.seeds++(Wk.u8 m.vers.length::(marksE m.vers++(Wk.u8 m.seen.length::seensE m.seen))))
 have q6:=marks_back m.seeds (Wk.u8 m.vers.length::(marksE m.vers++(Wk.u8 m.seen.length::seensE m.seen))) ok.seeds.2
 have q7:=byte_back (n:=(m.vers.length:Int)) (by have:=ok.vers.1;omega) (marksE m.vers++(Wk.u8 m.seen.length::seensE m.seen))
 have q8:=marks_back m.vers (Wk.u8 m.seen.length::seensE m.seen) ok.vers.2
 have q9:=byte_back (n:=(m.seen.length:Int)) (by have:=ok.seen.1;omega) (seensE m.seen)
 have q10:=seens_back m.seen [] ok.seen.2
 rw[List.append_nil]at q10
 have n1:numN [Wk.u8 (m.seeds.length:Int)] 0=m.seeds.length:=by have:=q5.2;omega
 have n2:numN [Wk.u8 (m.vers.length:Int)] 0=m.vers.length:=by have:=q7.2;omega
 have n3:numN [Wk.u8 (m.seen.length:Int)] 0=m.seen.length:=by have:=q9.2;omega
 have d1:=(congrArg (fun b=>tkB 1 (b,false)) (encM_shape m)).trans q1.1
 change e1D (encM m)=_ at d1
 have d2:=(congrArg (fun x:List UInt8 × RB=>tkB 2 x.2) d1).trans q2.1
 change e2D (encM m)=_ at d2
 have d3:=(congrArg (fun x:List UInt8 × RB=>tkB 2 x.2) d2).trans q3.1
 change e3D (encM m)=_ at d3
 have d4:=(congrArg (fun x:List UInt8 × RB=>tkB 2 x.2) d3).trans q4.1
 change e4D (encM m)=_ at d4
 have d5:=(congrArg (fun x:List UInt8 × RB=>tkB 1 x.2) d4).trans q5.1
 change c1D (encM m)=_ at d5
 have d6:=congrArg (fun x:List UInt8 × RB=>marksD (numN x.1 0) x.2) d5
 simp only at d6
 rw[n1,q6]at d6
 change s1D (encM m)=_ at d6
 have d7:=(congrArg (fun x:List LMark × RB=>tkB 1 x.2) d6).trans q7.1
 change c2D (encM m)=_ at d7
 have d8:=congrArg (fun x:List UInt8 × RB=>marksD (numN x.1 0) x.2) d7
 simp only at d8
 rw[n2,q8]at d8
 change s2D (encM m)=_ at d8
 have d9:=(congrArg (fun x:List LMark × RB=>tkB 1 x.2) d8).trans q9.1
 change c3D (encM m)=_ at d9
 have d10:=congrArg (fun x:List UInt8 × RB=>seensD (numN x.1 0) x.2) d9
 simp only at d10
 rw[n3,q10]at d10
 change s3D (encM m)=_ at d10
 refine ⟨?_,by rw[d10]⟩
 rw[memD,d1,d2,d3,d4,d6,d8,d10]
 simp only
 rw[q1.2,q2.2,q3.2,q4.2]
theorem decM_enc {m:PMem} (h:memB m=true):decM (encM m)=(m,0):=by
 obtain ⟨h1,h2⟩:=parts_enc h
 rw[decM,h2,if_neg (by simp),if_neg,h1]
 rintro (h3 | h3 | h3)
 cases h3
 simp at h3
 rw[h1,h]at h3;cases h3
structure LeftS (N:Nat) (X:RB) (u l c n:Int) (k:Nat) (m:LMem) (wr:Bool) (r:RS):Prop where
 wr:wr=false
 flat:m.user=u∧m.leaf=l∧m.counter=c∧m.num=n∧m.vers=[]∧m.seen=[]
 rel:marksD N X=(m.seeds++(marksD k r.ab).1,(marksD k r.ab).2)
 few:m.seeds.length+k≤255
 names:∀ x∈m.seeds,x.key.length≤255
theorem LeftS.next {N:Nat} {X:RB} {u l c n:Int} {k:Nat} {m m':LMem} {wr wr':Bool} {r r':RS} (h:LeftS N X u l c n (k+1) m wr r) (hw:r.why=0) (h1:wr'=wr) (h2:r'.ab=(markD r.ab).2) (h3:m'.m = { m.m with seeds:=m.seeds++[(markD r.ab).1] }) (h4:(markD r.ab).1.key.length≤255):LeftS N X u l c n k m' wr' r':=by
 have e1:m'.seeds=m.seeds++[(markD r.ab).1]:=congrArg PMem.seeds h3
 have e2:m'.vers=m.vers:=congrArg PMem.vers h3
 have e3:ssP m'.seen=ssP m.seen:=congrArg PMem.seen h3
 have hf:r.ab.2=false:=by show (!decide (r.why=0))=false;rw[hw];rfl
 refine ⟨h1.trans h.wr,⟨(congrArg PMem.user h3).trans h.flat.1,(congrArg PMem.leaf h3).trans h.flat.2.1,(congrArg PMem.counter h3).trans h.flat.2.2.1,(congrArg PMem.num h3).trans h.flat.2.2.2.1,e2.trans h.flat.2.2.2.2.1,?_⟩,?_,?_,fun x hx=>?_⟩
 ·rw[h.flat.2.2.2.2.2]at e3
  exact List.map_eq_nil_iff.1 e3
 ·rw[h.rel,marksD,if_neg (by rw[hf];simp),e1,h2];simp
 ·have:=h.few;rw[e1,List.length_append];simp;omega
 ·rw[e1]at hx
  rcases List.mem_append.1 hx with h5 | h5
  ·exact h.names x h5
  ·rw[List.mem_singleton.1 h5];exact h4
theorem marksD_end {k:Nat} {r:RS} (h:k=0∨r.why≠0):marksD k r.ab=([],r.ab):=by
 rcases h with rfl | h
 rfl
 cases k with
 | zero=>rfl
 | succ k=>rw[marksD,if_pos (RS.ab_why.2 h)]
theorem seensD_end {k:Nat} {r:RS} (h:k=0∨r.why≠0):seensD k r.ab=([],true,r.ab):=by
 rcases h with rfl | h
 rfl
 cases k with
 | zero=>rfl
 | succ k=>rw[seensD,if_pos (RS.ab_why.2 h)]
theorem markD_key (r:RS):(markD r.ab).1.key.length≤255:=by rw[mark_ab];exact textS_len r
structure LeftV (N:Nat) (X:RB) (u l c n:Int) (ss:List LMark) (k:Nat) (m:LMem) (wr:Bool) (r:RS):Prop where
 wr:wr=false
 flat:m.user=u∧m.leaf=l∧m.counter=c∧m.num=n∧m.seeds=ss∧m.seen=[]
 rel:marksD N X=(m.vers++(marksD k r.ab).1,(marksD k r.ab).2)
 few:m.vers.length+k≤255
 names:∀ x∈m.vers,x.key.length≤255
theorem LeftV.next {N:Nat} {X:RB} {u l c n:Int} {ss:List LMark} {k:Nat} {m m':LMem} {wr wr':Bool} {r r':RS} (h:LeftV N X u l c n ss (k+1) m wr r) (hw:r.why=0) (h1:wr'=wr) (h2:r'.ab=(markD r.ab).2) (h3:m'.m = { m.m with vers:=m.vers++[(markD r.ab).1] }) (h4:(markD r.ab).1.key.length≤255):LeftV N X u l c n ss k m' wr' r':=by
 have e1:m'.vers=m.vers++[(markD r.ab).1]:=congrArg PMem.vers h3
 have e2:m'.seeds=m.seeds:=congrArg PMem.seeds h3
 have e3:ssP m'.seen=ssP m.seen:=congrArg PMem.seen h3
 have hf:r.ab.2=false:=by show (!decide (r.why=0))=false;rw[hw];rfl
 refine ⟨h1.trans h.wr,⟨(congrArg PMem.user h3).trans h.flat.1,(congrArg PMem.leaf h3).trans h.flat.2.1,(congrArg PMem.counter h3).trans h.flat.2.2.1,(congrArg PMem.num h3).trans h.flat.2.2.2.1,e2.trans h.flat.2.2.2.2.1,?_⟩,?_,?_,fun x hx=>?_⟩
 ·rw[h.flat.2.2.2.2.2]at e3
  exact List.map_eq_nil_iff.1 e3
 ·rw[h.rel,marksD,if_neg (by rw[hf];simp),e1,h2];simp
 ·have:=h.few;rw[e1,List.length_append];simp;omega
 ·rw[e1]at hx
  rcases List.mem_append.1 hx with h5 | h5
  ·exact h.names x h5
  ·rw[List.mem_singleton.1 h5];exact h4
structure LeftE (N:Nat) (X:RB) (u l c n:Int) (ss vs:List LMark) (k:Nat) (m:LMem) (wr:Bool) (r:RS):Prop where
 flat:m.user=u∧m.leaf=l∧m.counter=c∧m.num=n∧m.seeds=ss∧m.vers=vs
 rel:seensD N X=(ssP m.seen++(seensD k r.ab).1,!wr&&(seensD k r.ab).2.1,(seensD k r.ab).2.2)
 few:m.seen.length+k≤255
theorem LeftE.next {N:Nat} {X:RB} {u l c n:Int} {ss vs:List LMark} {k:Nat} {m m':LMem} {wr wr':Bool} {r r':RS} (h:LeftE N X u l c n ss vs (k+1) m wr r) (hw:r.why=0) (h1:wr'=(wr||!(seenD r.ab).2.1)) (h2:r'.ab=(seenD r.ab).2.2) (h3:m'.m = { m.m with seen:=ssP m.seen++[(seenD r.ab).1] }):LeftE N X u l c n ss vs k m' wr' r':=by
 have e1:ssP m'.seen=ssP m.seen++[(seenD r.ab).1]:=congrArg PMem.seen h3
 have hf:r.ab.2=false:=by show (!decide (r.why=0))=false;rw[hw];rfl
 have hl:=congrArg List.length e1
 rw[ssP,ssP,List.length_append,List.length_map,List.length_map,List.length_singleton]at hl
 refine ⟨⟨(congrArg PMem.user h3).trans h.flat.1,(congrArg PMem.leaf h3).trans h.flat.2.1,(congrArg PMem.counter h3).trans h.flat.2.2.1,(congrArg PMem.num h3).trans h.flat.2.2.2.1,(congrArg PMem.seeds h3).trans h.flat.2.2.2.2.1,(congrArg PMem.vers h3).trans h.flat.2.2.2.2.2⟩,?_,by have:=h.few;omega⟩
 rw[h.rel,seensD,if_neg (by rw[hf];simp),e1,h2,h1]
 simp only[List.append_assoc,List.singleton_append,Bool.not_or,Bool.not_not,Bool.and_assoc]
theorem marksD_good {k:Nat} {x:RB} (h:(marksD k x).2.2=false):x.2=false:=by
 cases k with
 | zero=>exact h
 | succ k=>
  cases hx:x.2 with
  | false=>rfl
  | true=>rw[marksD,if_pos hx]at h;rw[hx]at h;exact h
theorem seensD_good {k:Nat} {x:RB} (h:(seensD k x).2.2.2=false):x.2=false:=by
 cases k with
 | zero=>exact h
 | succ k=>
  cases hx:x.2 with
  | false=>rfl
  | true=>rw[seensD,if_pos hx]at h;rw[hx]at h;exact h
theorem rb_pair {x:RB} (h:x.2=false):x=(x.1,false):=Prod.ext rfl h
theorem markD_ext {l:List UInt8} (X:List UInt8) (h:(markD (l,false)).2.2=false):markD (l++X,false)=((markD (l,false)).1,((markD (l,false)).2.1++X,false)):=by
 unfold markD at h⊢
 obtain ⟨a,ha⟩:∃ a,a=tkB 1 (l,false):=⟨_,rfl⟩
 rw[←ha]at h
 have g2:=tkB_good h
 have g1:=tkB_good g2
 have e1:=tkB_ext (k:=1) (l:=l) X (by rw[←ha];exact g1)
 rw[←ha]at e1
 rw[e1,←ha]
 obtain ⟨a1,a2,a3⟩:=a
 obtain rfl:a3=false:=g1
 obtain ⟨b,hb⟩:∃ b,b=tkB (numN a1 0) (a2,false):=⟨_,rfl⟩
 simp only at h g2⊢
 rw[←hb]at h g2
 have e2:=tkB_ext (k:=numN a1 0) (l:=a2) X (by rw[←hb];exact g2)
 rw[←hb]at e2
 rw[e2,←hb]
 obtain ⟨b1,b2,b3⟩:=b
 obtain rfl:b3=false:=g2
 simp only at h⊢
 have e3:=tkB_ext (k:=2) (l:=b2) X h
 rw[e3]
theorem marksD_ext {k:Nat} {l:List UInt8} (X:List UInt8) (h:(marksD k (l,false)).2.2=false):marksD k (l++X,false)=((marksD k (l,false)).1,((marksD k (l,false)).2.1++X,false)):=by
 induction k generalizing l with
 | zero=>rfl
 | succ k ih=>
  rw[marksD,if_neg (by simp)]at h⊢
  have g:=marksD_good h
  have e:=markD_ext X g
  have hp:=rb_pair g
  have h':(marksD k ((markD (l,false)).2.1,false)).2.2=false:=by rw[←hp];exact h
  rw[e]
  simp only
  rw[ih h',marksD,if_neg (by simp),←hp]
theorem rootX_flag {x:RB} : (rootX x).2.2=(tkB (numN (tkB 4 x).1 0) (tkB 4 x).2).2:=by
 rw[rootX];split <;> rfl
theorem rootX_good {x:RB} (h:(rootX x).2.2.2=false):x.2=false:=by
 rw[rootX_flag]at h;exact tkB_good (tkB_good h)
theorem rootX_ext {l:List UInt8} (X:List UInt8) (h:(rootX (l,false)).2.2.2=false):rootX (l++X,false)=((rootX (l,false)).1,(rootX (l,false)).2.1,((rootX (l,false)).2.2.1++X,false)):=by
 rw[rootX_flag]at h
 unfold rootX
 obtain ⟨a,ha⟩:∃ a,a=tkB 4 (l,false):=⟨_,rfl⟩
 rw[←ha]at h
 have g1:=tkB_good h
 have e1:=tkB_ext (k:=4) (l:=l) X (by rw[←ha];exact g1)
 rw[←ha]at e1
 rw[e1,←ha]
 obtain ⟨a1,a2,a3⟩:=a
 obtain rfl:a3=false:=g1
 simp only at h⊢
 have e2:=tkB_ext (k:=numN a1 0) (l:=a2) X h
 rw[e2,if_neg (by simp),if_neg (by rw[h];simp)]
theorem seenD_ext {l:List UInt8} (X:List UInt8) (h:(seenD (l,false)).2.2.2=false):seenD (l++X,false)=((seenD (l,false)).1,(seenD (l,false)).2.1,((seenD (l,false)).2.2.1++X,false)):=by
 unfold seenD at h⊢
 obtain ⟨a,ha⟩:∃ a,a=tkB 1 (l,false):=⟨_,rfl⟩
 rw[←ha]at h
 have g2:=rootX_good h
 have g1:=tkB_good g2
 have e1:=tkB_ext (k:=1) (l:=l) X (by rw[←ha];exact g1)
 rw[←ha]at e1
 rw[e1,←ha]
 obtain ⟨a1,a2,a3⟩:=a
 obtain rfl:a3=false:=g1
 obtain ⟨b,hb⟩:∃ b,b=tkB 2 (a2,false):=⟨_,rfl⟩
 simp only at h g2⊢
 rw[←hb]at h g2
 have e2:=tkB_ext (k:=2) (l:=a2) X (by rw[←hb];exact g2)
 rw[←hb]at e2
 rw[e2,←hb]
 obtain ⟨b1,b2,b3⟩:=b
 obtain rfl:b3=false:=g2
 simp only at h⊢
 rw[rootX_ext X h]
theorem seensD_ext {k:Nat} {l:List UInt8} (X:List UInt8) (h:(seensD k (l,false)).2.2.2=false):seensD k (l++X,false)=((seensD k (l,false)).1,(seensD k (l,false)).2.1,((seensD k (l,false)).2.2.1++X,false)):=by
 induction k generalizing l with
 | zero=>rfl
 | succ k ih=>
  rw[seensD,if_neg (by simp)]at h⊢
  have g:=seensD_good h
  have e:=seenD_ext X g
  have hp:=rb_pair g
  have h':(seensD k ((seenD (l,false)).2.2.1,false)).2.2.2=false:=by rw[←hp];exact h
  rw[e]
  simp only
  rw[ih h',seensD,if_neg (by simp),←hp]
structure AllGood (bs:List UInt8):Prop where
 e1:(e1D bs).2.2=false
 e2:(e2D bs).2.2=false
 e3:(e3D bs).2.2=false
 e4:(e4D bs).2.2=false
 c1:(c1D bs).2.2=false
 s1:(s1D bs).2.2=false
 c2:(c2D bs).2.2=false
 s2:(s2D bs).2.2=false
 c3:(c3D bs).2.2=false
theorem all_good {bs:List UInt8} (h:(s3D bs).2.2.2=false):AllGood bs:=by
 have c3:(c3D bs).2.2=false:=seensD_good h
 have s2:(s2D bs).2.2=false:=tkB_good c3
 have c2:(c2D bs).2.2=false:=marksD_good s2
 have s1:(s1D bs).2.2=false:=tkB_good c2
 have c1:(c1D bs).2.2=false:=marksD_good s1
 have e4:(e4D bs).2.2=false:=tkB_good c1
 have e3:(e3D bs).2.2=false:=tkB_good e4
 have e2:(e2D bs).2.2=false:=tkB_good e3
 exact ⟨tkB_good e2,e2,e3,e4,c1,s1,c2,s2,c3⟩
theorem s3D_ext {A:List UInt8} (X:List UInt8) (h:(s3D A).2.2.2=false):(s3D (A++X)).2.2.1=(s3D A).2.2.1++X:=by
 have g:=all_good h
 have h1:e1D (A++X)=((e1D A).1,((e1D A).2.1++X,false)):=tkB_ext X g.e1
 have p1:=rb_pair g.e1
 have h2:e2D (A++X)=((e2D A).1,((e2D A).2.1++X,false)):=by
  rw[e2D,h1];simp only
  rw[tkB_ext X (by rw[←p1];exact g.e2),←p1];rfl
 have p2:=rb_pair g.e2
 have h3:e3D (A++X)=((e3D A).1,((e3D A).2.1++X,false)):=by
  rw[e3D,h2];simp only
  rw[tkB_ext X (by rw[←p2];exact g.e3),←p2];rfl
 have p3:=rb_pair g.e3
 have h4:e4D (A++X)=((e4D A).1,((e4D A).2.1++X,false)):=by
  rw[e4D,h3];simp only
  rw[tkB_ext X (by rw[←p3];exact g.e4),←p3];rfl
 have p4:=rb_pair g.e4
 have h5:c1D (A++X)=((c1D A).1,((c1D A).2.1++X,false)):=by
  rw[c1D,h4];simp only
  rw[tkB_ext X (by rw[←p4];exact g.c1),←p4];rfl
 have p5:=rb_pair g.c1
 have h6:s1D (A++X)=((s1D A).1,((s1D A).2.1++X,false)):=by
  rw[s1D,h5];simp only
  rw[marksD_ext X (by rw[←p5];exact g.s1),←p5];rfl
 have p6:=rb_pair g.s1
 have h7:c2D (A++X)=((c2D A).1,((c2D A).2.1++X,false)):=by
  rw[c2D,h6];simp only
  rw[tkB_ext X (by rw[←p6];exact g.c2),←p6];rfl
 have p7:=rb_pair g.c2
 have h8:s2D (A++X)=((s2D A).1,((s2D A).2.1++X,false)):=by
  rw[s2D,h7];simp only
  rw[marksD_ext X (by rw[←p7];exact g.s2),←p7];rfl
 have p8:=rb_pair g.s2
 have h9:c3D (A++X)=((c3D A).1,((c3D A).2.1++X,false)):=by
  rw[c3D,h8];simp only
  rw[tkB_ext X (by rw[←p8];exact g.c3),←p8];rfl
 have p9:=rb_pair g.c3
 rw[s3D,h9];simp only
 rw[seensD_ext X (by rw[←p9];exact h),←p9];rfl
theorem decM_cut {m:PMem} (h:memB m=true) {n:Nat} (hn:n < (encM m).length):(decM ((encM m).take n)).2=7:=by
 obtain ⟨A,hA⟩:∃ A,A=(encM m).take n:=⟨_,rfl⟩
 obtain ⟨X,hX⟩:∃ X,X=(encM m).drop n:=⟨_,rfl⟩
 have hAX:A++X=encM m:=by rw[hA,hX,List.take_append_drop]
 have hXl:0 < X.length:=by rw[hX,List.length_drop];omega
 rw[←hA]
 cases hb:(s3D A).2.2.2 with
 | true=>rw[decM,if_pos hb]
 | false=>
  have h1:=s3D_ext X hb
  rw[hAX,(parts_enc h).2]at h1
  have h2:=congrArg List.length h1
  simp at h2
  omega
theorem tkM_yes {k:Nat} {l:List UInt8} (h:k≤l.length):tkB k (l,false)=(l.take k,(l.drop k,false)):=by rw[tkB,if_pos ⟨rfl,h⟩]
theorem tkM_no {k:Nat} {l:List UInt8} (h:¬k≤l.length):tkB k (l,false)=([],(l,true)):=by rw[tkB,if_neg (fun h2=>h h2.2)]
theorem tkB_split {k:Nat} {x:RB} (h:(tkB k x).2.2=false):x.1=(tkB k x).1++(tkB k x).2.1∧(tkB k x).1.length=k:=by
 obtain ⟨l,f⟩:=x
 obtain rfl:f=false:=tkB_good h
 by_cases hk:k≤l.length
 rw[tkM_yes hk]
 exact ⟨(List.take_append_drop k l).symm,by simp only[List.length_take];omega⟩
 rw[tkM_no hk]at h;cases h
theorem one_of {l:List UInt8} (h:l.length=1):∃ c,l=[c]:=by
 match l,h with
 | [c],_=>exact ⟨c,rfl⟩
theorem two_of {l:List UInt8} (h:l.length=2):∃ c d,l=[c,d]:=by
 match l,h with
 | [c,d],_=>exact ⟨c,d,rfl⟩
theorem byte_inv {x:RB} (h:(tkB 1 x).2.2=false):x.1=Wk.u8 ((numN (tkB 1 x).1 0:Nat):Int)::(tkB 1 x).2.1:=by
 obtain ⟨h1,h2⟩:=tkB_split h
 obtain ⟨c,hc⟩:=one_of h2
 rw[hc]at h1
 rw[hc,numM1,u8_back];exact h1
theorem two_inv {x:RB} (h:(tkB 2 x).2.2=false):x.1=twoB ((numN (tkB 2 x).1 0:Nat):Int)++(tkB 2 x).2.1:=by
 obtain ⟨h1,h2⟩:=tkB_split h
 obtain ⟨c,d,hc⟩:=two_of h2
 rw[hc]at h1
 have e1:=UInt8.toNat_lt c
 have e2:=UInt8.toNat_lt d
 rw[hc,twoB,wu16 _ (by rw[numM2];omega) (by rw[numM2];omega),be2_two];exact h1
theorem mark_inv {x:RB} (h:(markD x).2.2=false):x.1=markE (markD x).1++(markD x).2.1:=by
 have g2:=tkB_good h
 have g1:=tkB_good g2
 have h1:=byte_inv g1
 obtain ⟨h2,hl⟩:=tkB_split g2
 have h3:=two_inv h
 rw[h1,markE]
 show _=Wk.u8 (((tkB (numN (tkB 1 x).1 0) (tkB 1 x).2).1.length:Nat):Int)::(tkB (numN (tkB 1 x).1 0) (tkB 1 x).2).1++twoB _++_
 rw[hl,qqE,qqE,List.append_assoc]
 congr 1
 rw[h2]
 congr 1
theorem marks_inv:∀ (k:Nat) (x:RB),(marksD k x).2.2=false→x.1=marksE (marksD k x).1++(marksD k x).2.1∧(marksD k x).1.length=k
 | 0,x,_=>⟨rfl,rfl⟩
 | k+1,x,h=>by
  have hx:=marksD_good h
  rw[marksD,if_neg (by rw[hx];simp)]at h⊢
  have g:=marksD_good h
  obtain ⟨i1,i2⟩:=marks_inv k (markD x).2 h
  have h1:=mark_inv g
  refine ⟨?_,by simp only[qqA];omega⟩
  simp only[marksE]
  rw[h1,List.append_assoc]
  congr 1
theorem four_of {l:List UInt8} (h:l.length=4):∃ a b c d,l=[a,b,c,d]:=by
 match l,h with
 | [a,b,c,d],_=>exact ⟨a,b,c,d,rfl⟩
theorem be4_four (a b c d:UInt8):be 4 ((numN [a,b,c,d] 0:Nat):Int)=[a,b,c,d]:=by
 obtain ⟨n,hn⟩:∃ n,n=numN [a,b,c,d] 0:=⟨_,rfl⟩
 have h1:=UInt8.toNat_lt a
 have h2:=UInt8.toNat_lt b
 have h3:=UInt8.toNat_lt c
 have h4:=UInt8.toNat_lt d
 have hv:n=((a.toNat*256+b.toNat)*256+c.toNat)*256+d.toNat:=by rw[hn];simp only[numN,List.foldl_cons,List.foldl_nil];omega
 have e:be 4 (n:Int)=[Wk.u8 ((n:Int).fdiv (2 ^ 24)),Wk.u8 ((n:Int).fdiv (2 ^ 16)),Wk.u8 ((n:Int).fdiv (2 ^ 8)),Wk.u8 ((n:Int).fdiv (2 ^ 0))]:=rfl
 have d1:(n:Int).fdiv (2 ^ 24)=((n / 16777216:Nat):Int):=by rw[Int.fdiv_eq_ediv_of_nonneg _ (by decide)];rfl
 have d2:(n:Int).fdiv (2 ^ 16)=((n / 65536:Nat):Int):=by rw[Int.fdiv_eq_ediv_of_nonneg _ (by decide)];rfl
 have d3:(n:Int).fdiv (2 ^ 8)=((n / 256:Nat):Int):=by rw[Int.fdiv_eq_ediv_of_nonneg _ (by decide)];rfl
 have d4:(n:Int).fdiv (2 ^ 0)=((n / 1:Nat):Int):=by rw[Int.fdiv_eq_ediv_of_nonneg _ (by decide)];rfl
 have hb:∀ (x:Nat) (y:UInt8),x % 256=y.toNat→Wk.u8 (x:Int)=y:=fun x y h=>by
  rw[Wk.u8]
  refine UInt8.toNat.inj ?_
  rw[UInt8.toNat_ofNat'];omega
 rw[←hn,e,d1,d2,d3,d4,hb _ a (by omega),hb _ b (by omega),hb _ c (by omega),hb _ d (by omega)]
theorem rootD_ok {raw:List UInt8} {t:Term} (h:rootD raw=(t,true)):raw=bytesF t:=by
 rw[rootD]at h
 cases hd:decT 60 1200 raw with
 | error e=>rw[hd]at h;cases h
 | ok x=>
  obtain ⟨u,l,r⟩:=x
  rw[hd]at h
  simp only[Prod.mk.injEq,decide_eq_true_eq]at h
  obtain ⟨rfl,rfl⟩:=h
  have:=dec_inv 60 1200 raw u l [] hd
  rwa [List.append_nil]at this
theorem root_inv {x:RB} (h:(rootX x).2.2.2=false) (hok:(rootX x).2.1=true) (hc:checkF (rootX x).1=0):x.1=be 4 (IntKind.u32.wrap ((nameF (rootX x).1).length:Int))++nameF (rootX x).1++(rootX x).2.2.1:=by
 have hfl:=h
 rw[rootX_flag]at hfl
 have g1:=tkB_good hfl
 have hr:rootX x=((rootD (tkB (numN (tkB 4 x).1 0) (tkB 4 x).2).1).1,(rootD (tkB (numN (tkB 4 x).1 0) (tkB 4 x).2).1).2,(tkB (numN (tkB 4 x).1 0) (tkB 4 x).2).2):=by
  rw[rootX,if_neg (by rw[hfl];simp)]
 obtain ⟨h1,l1⟩:=tkB_split g1
 obtain ⟨h2,l2⟩:=tkB_split hfl
 rw[hr]at hok hc⊢
 simp only at hok hc⊢
 have hraw:=rootD_ok (raw:=(tkB (numN (tkB 4 x).1 0) (tkB 4 x).2).1) (t:=(rootD (tkB (numN (tkB 4 x).1 0) (tkB 4 x).2).1).1) (Prod.ext rfl hok)
 have hn:nameF (rootD (tkB (numN (tkB 4 x).1 0) (tkB 4 x).2).1).1=(tkB (numN (tkB 4 x).1 0) (tkB 4 x).2).1:=by
  rw[nameF,if_neg (good_check.1 hc),←hraw]
 obtain ⟨a,b,c,d,h4⟩:=four_of l1
 have hlt:numN (tkB 4 x).1 0 < 4294967296:=by
  have:=numN_lt (tkB 4 x).1 0
  rw[l1]at this;omega
 rw[hn,l2,wu32 _ (by omega) (by omega),h4,be4_four,←h4,List.append_assoc,←h2]
 exact h1
theorem seen_inv {x:RB} (h:(seenD x).2.2.2=false) (hok:(seenD x).2.1=true) (hc:checkF (seenD x).1.root=0):x.1=seenE (seenD x).1++(seenD x).2.2.1:=by
 have g2:=rootX_good h
 have g1:=tkB_good g2
 have h1:=byte_inv g1
 have h2:=two_inv g2
 have h3:=root_inv h hok hc
 rw[h1,seenE]
 simp only[List.append_assoc,qqE,qqF]
 congr 1
 rw[h2]
 congr 1
 first
  | done
  | rw[h3,List.append_assoc,List.append_assoc];done
  | (refine h3.trans ?_;simp only[List.append_assoc])
theorem seens_inv:∀ (k:Nat) (x:RB),(seensD k x).2.2.2=false→(seensD k x).2.1=true→(∀ s∈(seensD k x).1,checkF s.root=0)→x.1=seensE (seensD k x).1++(seensD k x).2.2.1∧(seensD k x).1.length=k
 | 0,x,_,_,_=>⟨rfl,rfl⟩
 | k+1,x,h,hok,hc=>by
  have hx:=seensD_good h
  rw[seensD,if_neg (by rw[hx];simp)]at h hok hc⊢
  simp only[Bool.and_eq_true]at hok
  have g:=seensD_good h
  obtain ⟨i1,i2⟩:=seens_inv k (seenD x).2.2 h hok.2 (fun s hs=>hc s (.tail _ hs))
  have h1:=seen_inv g hok.1 (hc _ (.head _))
  refine ⟨?_,by simp only[qqA];omega⟩
  simp only[seensE]
  rw[h1,List.append_assoc]
  congr 1
theorem decM_inv {bs:List UInt8} (h:(decM bs).2=0):memB (decM bs).1=true∧encM (decM bs).1=bs:=by
 rw[decM]at h⊢
 split at h
 cases h
 rename_i h7
 rw[if_neg h7]
 split at h
 cases h
 rename_i hno
 rw[if_neg hno]
 have hfl:(s3D bs).2.2.2=false:=by simpa using h7
 have hok:(s3D bs).2.1=true:=by
  cases hx:(s3D bs).2.1 with
  | true=>rfl
  | false=>exact absurd (.inl hx) hno
 have hem:(s3D bs).2.2.1=[]:=List.eq_nil_of_length_eq_zero (by
  rcases Nat.eq_zero_or_pos (s3D bs).2.2.1.length with h | h
  exact h
  exact absurd (.inr (.inl h)) hno)
 have hB:memB (memD bs)=true:=by
  cases hx:memB (memD bs) with
  | true=>rfl
  | false=>exact absurd (.inr (.inr hx)) hno
 refine ⟨hB,?_⟩
 have g:=all_good hfl
 have ok:=memB_ok hB
 have f1:=byte_inv g.e1
 have f2:=two_inv g.e2
 have f3:=two_inv g.e3
 have f4:=two_inv g.e4
 have f5:=byte_inv g.c1
 obtain ⟨f6,l6⟩:=marks_inv _ _ g.s1
 have f7:=byte_inv g.c2
 obtain ⟨f8,l8⟩:=marks_inv _ _ g.s2
 have f9:=byte_inv g.c3
 obtain ⟨f10,l10⟩:=seens_inv _ _ hfl hok (fun s hs=>(ok.seen.2 s hs).root)
 rw[encM_shape]
 show Wk.u8 ((numN (e1D bs).1 0:Nat):Int)::(twoB ((numN (e2D bs).1 0:Nat):Int)++(twoB ((numN (e3D bs).1 0:Nat):Int)++(twoB ((numN (e4D bs).1 0:Nat):Int)++(Wk.u8 ((s1D bs).1.length:Int)::(marksE (s1D bs).1++(Wk.u8 ((s2D bs).1.length:Int)::(marksE (s2D bs).1++(Wk.u8 ((s3D bs).1.length:Int)::seensE (s3D bs).1))))))))=bs
 have k10:(c3D bs).2.1=seensE (s3D bs).1:=by
  have:(c3D bs).2.1=seensE (s3D bs).1++(s3D bs).2.2.1:=f10
  rw[hem,List.append_nil]at this;exact this
 have k9:(s2D bs).2.1=Wk.u8 ((s3D bs).1.length:Int)::seensE (s3D bs).1:=by
  have:(s2D bs).2.1=Wk.u8 ((numN (c3D bs).1 0:Nat):Int)::(c3D bs).2.1:=f9
  rw[this,k10,show (s3D bs).1.length=numN (c3D bs).1 0 from l10]
 have k8:(c2D bs).2.1=marksE (s2D bs).1++(Wk.u8 ((s3D bs).1.length:Int)::seensE (s3D bs).1):=by
  have:(c2D bs).2.1=marksE (s2D bs).1++(s2D bs).2.1:=f8
  rw[this,k9]
 have k7:(s1D bs).2.1=Wk.u8 ((s2D bs).1.length:Int)::(c2D bs).2.1:=by
  have:(s1D bs).2.1=Wk.u8 ((numN (c2D bs).1 0:Nat):Int)::(c2D bs).2.1:=f7
  rw[this,show (s2D bs).1.length=numN (c2D bs).1 0 from l8]
 have k6:(c1D bs).2.1=marksE (s1D bs).1++(s1D bs).2.1:=f6
 have k5:(e4D bs).2.1=Wk.u8 ((s1D bs).1.length:Int)::(c1D bs).2.1:=by
  have:(e4D bs).2.1=Wk.u8 ((numN (c1D bs).1 0:Nat):Int)::(c1D bs).2.1:=f5
  rw[this,show (s1D bs).1.length=numN (c1D bs).1 0 from l6]
 rw[←k8,←k7,←k6,←k5]
 rw[show twoB ((numN (e4D bs).1 0:Nat):Int)++(e4D bs).2.1=(e3D bs).2.1 from f4.symm,show twoB ((numN (e3D bs).1 0:Nat):Int)++(e3D bs).2.1=(e2D bs).2.1 from f3.symm,show twoB ((numN (e2D bs).1 0:Nat):Int)++(e2D bs).2.1=(e1D bs).2.1 from f2.symm]
 exact f1.symm
class MemFit (m:LMem):Prop where
 fit:FitM m
instance mcheckI {m:LMem} {bs fs} [hf:MemFit m] [h:HasFact fs (MemF m)]:CallV Tryz.prog 37 [vMem m] bs fs (.int .i64 (mchkF m.m)):=⟨fun w mm=>mcheck_c m hf.fit w ((mm.facts _ h.mem).less fun _ _ h=>h.elim)⟩
class RdF (fs:List (World→Prop)) (b:Nat) (r:outParam RS):Prop where mem:BoxF b 238 (cRS r)∈fs
instance rdf0 {b:Nat} {r:RS} {fs:List (World→Prop)} : RdF (BoxF b 238 (cRS r)::fs) b r:=⟨List.mem_cons_self ..⟩
instance (priority:=900) rdf1 {b:Nat} {r:RS} {Φ:World→Prop} {fs:List (World→Prop)} [h:RdF fs b r]:RdF (Φ::fs) b r:=⟨List.mem_cons_of_mem _ h.mem⟩
instance leftRI {b:Nat} {r:RS} {bs fs} [h:RdF fs b r]:CallV Tryz.prog 72 [.pointer (some ⟨b,0,none⟩)] bs fs (.int .i64 (r.bs.length:Nat)):=⟨fun w mm=>leftR_c b r w ((mm.facts _ h.mem).less fun _ _ h=>h.elim)⟩
theorem zeroM_is (M:Nat→Prop) (w:World):IsM M w (.agg ⟨[.int .i64 0,.int .i64 0,.int .i64 0,.int .i64 0,.slice none 0 0,.slice none 0 0,.slice none 0 0]⟩) zeroM:=
 ⟨⟨0,0,0,0,none,0,[],none,0,[],none,0,[]⟩,rfl,rfl,⟨Nat.zero_le _,Nat.zero_le _,Nat.zero_le _,nofun,nofun⟩,fun _ _=>⟨gl_nil,gl_nil,gl_nil⟩⟩
def MDecR (M:Nat→Prop) (bs:List UInt8) (v:Value) (w:World):Prop:=∃ vm,v=.tuple ⟨[vm,.int .i64 (decM bs).2]⟩∧IsM M w vm (decM bs).1
set_option maxHeartbeats 4000000 in
theorem mdecode_c (bs:List UInt8) (p:Option Addr) (n c:Nat) (M:Nat→Prop) (w0:World) (hn:bs.length=n) (hl:n≤10000000) (hM:∀ k,M k→k < w0.heap.size) (hf:Stable M w0 (GlF p bs)) :
  Ret Tryz.prog 44 [.slice p n c] w0 (fun _=>False) fun v w'=>MDecR M bs v w':=by
 subst hn
 refine enter Tryz.func44 rfl rfl (Wd.beginM (M:=M) (fs:=[GlF p bs]) hM (by simpa using hf)) (fun a S=>?_)
 simp only[Tryz.ntmps44,qqA,qqB,Nat.reduceAdd,Nat.reduceSub,qqC,qqD,qqE,qqF]at S
 refine kS (kR ?_);refine sa S ?_;clear S;intro b2 a w S;refine sq S ?_;clear S;intro a S;refine kN (xtn (kS (kR (sq S ?_))));clear S;intro a S
 refine snew S (readR_c bs p bs.length c _ rfl hl (S.gl0 p)) ?_;clear S;rintro _ a w - ⟨rd,p1,c1,rfl,hh,hnw⟩ hS -
 have S:=hS (both (rdI rd ⟨p1,c1,bs,0⟩) (Wk.row 5 1 p1 bs.length c1 (encL bs))) hh hnw
 clear hS
 replace S:=S.ofBoth
 have hc1:=own_le (S.row p1 bs.length)
 replace S:=(S.front (Wk.row 5 1 p1 bs.length c1 (encL bs))).rowToGl p1 bs (e:=5) (sz:=1) (n:=bs.length) (c:=c1) (fun _ _ _ _=>trivial)
 obtain ⟨r0,hr0⟩:∃ r0:RS,r0=⟨p1,c1,bs,0⟩:=⟨_,rfl⟩
 rw[←hr0,show GlF p1 bs=GlF r0.p r0.bs from by rw[hr0]]at S
 have hc0:r0.bs.length≤r0.c:=by rw[hr0];exact hc1
 have hl0:r0.bs.length≤10000000:=by rw[hr0];exact hl
 have hab:r0.ab=(bs,false):=by rw[hr0];rfl
 have q1:=SubR.take r0 1
 have q2:=SubR.take (takeR r0 1) 2
 have q3:=SubR.take (takeR (takeR r0 1) 2) 2
 have q4:=SubR.take (takeR (takeR (takeR r0 1) 2) 2) 2
 obtain ⟨ra,hra⟩:∃ ra,ra=takeR r0 1:=⟨_,rfl⟩
 rw[←hra]at q1 q2 q3 q4
 obtain ⟨rb,hrb⟩:∃ rb,rb=takeR ra 2:=⟨_,rfl⟩
 rw[←hrb]at q2 q3 q4
 obtain ⟨rc,hrc⟩:∃ rc,rc=takeR rb 2:=⟨_,rfl⟩
 rw[←hrc]at q3 q4
 obtain ⟨re,hre⟩:∃ re,re=takeR rc 2:=⟨_,rfl⟩
 rw[←hre]at q4
 have hca:=q1.cap hc0
 have hcb:=q2.cap hca
 have hcc:=q3.cap hcb
 have hce:=q4.cap hcc
 have hla:=q1.len
 have hlb:=q2.len
 have hlc:=q3.len
 have hle:=q4.len
 obtain ⟨na,hna⟩:∃ na,na=numN (tookR r0 1) 0:=⟨_,rfl⟩
 obtain ⟨nb,hnb⟩:∃ nb,nb=numN (tookR ra 2) 0:=⟨_,rfl⟩
 obtain ⟨nc,hnc⟩:∃ nc,nc=numN (tookR rb 2) 0:=⟨_,rfl⟩
 obtain ⟨nd,hnd⟩:∃ nd,nd=numN (tookR rc 2) 0:=⟨_,rfl⟩
 have hnal:na < 256:=by rw[hna];exact (took_num r0 1 (by decide)).2
 have hnbl:nb < 65536:=by rw[hnb];exact (took_num ra 2 (by decide)).2
 have hncl:nc < 65536:=by rw[hnc];exact (took_num rb 2 (by decide)).2
 have hndl:nd < 65536:=by rw[hnd];exact (took_num rc 2 (by decide)).2
 obtain ⟨xa1,xa2⟩:=tk_ab r0 1
 obtain ⟨xb1,xb2⟩:=tk_ab ra 2
 obtain ⟨xc1,xc2⟩:=tk_ab rb 2
 obtain ⟨xd1,xd2⟩:=tk_ab rc 2
 rw[hab]at xa1 xa2
 rw[←hra]at xa2;rw[←hrb]at xb2;rw[←hrc]at xc2;rw[←hre]at xd2
 have y1:e1D bs=(tookR r0 1,ra.ab):=by rw[e1D,xa1,xa2]
 have y2:e2D bs=(tookR ra 2,rb.ab):=by rw[e2D,y1,xb1,xb2]
 have y3:e3D bs=(tookR rb 2,rc.ab):=by rw[e3D,y2,xc1,xc2]
 have y4:e4D bs=(tookR rc 2,re.ab):=by rw[e4D,y3,xd1,xd2]
 refine sq S ?_;clear S;intro a S;refine sa S ?_;clear S;intro b9 a w S;refine sa S ?_;clear S;intro b4 a w S;refine sw S ?_;clear S;intro a w S;refine kN (xtn (kS ?_))
 refine c_drwe1 (.q 0 (.q 1 (.q 2 (.q 3 (.q 6 (.q 7 (.q 8 (.q 9 (.q 12 (.q 13 (.q 14 (.q 15 (.q 18 (.q 19 (.q 20 (.q 21 (.b2 4 25 (.q 5 (.b2 10 25 (.q 11 (.b2 16 25 (.q 17 (.b2 22 25 (.q 23 (.q 24 (.l 25 (.l 26 (.e))))) (.l 22 (.q 23 (.q 24 (.l 26 (.e))))))) (.l 16 (.q 17 (.l 22 (.q 23 (.q 24 (.l 26 (.e))))))))) (.l 10 (.q 11 (.l 16 (.q 17 (.l 22 (.q 23 (.q 24 (.l 26 (.e))))))))))) (.l 4 (.q 5 (.l 10 (.q 11 (.l 16 (.q 17 (.l 22 (.q 23 (.q 24 (.l 26 (.e)))))))))))))))))))))))))))) S (fun(b5:Nat) uu=>[(5,.pointer (some ⟨b5,0,none⟩)),(4,uu 10),(0,uu 11),(0,uu 12),(0,uu 13),(0,uu 14),(0,uu 15),(0,uu 16),(0,uu 17),(0,uu 18),(0,uu 19),(0,uu 20),(0,uu 21),(0,uu 22),(0,uu 23),(0,uu 24),(0,uu 25),(0,uu 26),(0,uu 27),(0,uu 28),(0,uu 29),(0,uu 30),(0,uu 31),(0,uu 32),(0,uu 33),(0,uu 34)]) [Wk.box b4 207 [.pointer (some ⟨b9,0,none⟩)],Wk.box b9 209 [.pointer (some ⟨rd,0,none⟩),.bool false]] (fun(b5:Nat)=>[mmX b5 ⟨na,nb,nc,nd,none,0,[],none,0,[],none,0,[]⟩,Wk.box b4 207 [.pointer (some ⟨b9,0,none⟩)],mrX b9 rd false,rdI rd re,Wk.box b2 67 [.int .i64 0,.int .i64 0,.int .i64 0,.int .i64 0,.slice none 0 0,.slice none 0 0,.slice none 0 0],ext M]) (fun(b5:Nat)=>[GlF re.p re.bs]) (fun(b5:Nat)=>True) ?_ ?_
 ·intro w S
  (iterate 16 (refine tq S ?_;clear S;intro a S))
  refine tb2 ?_ ?_
  ·refine sit (rdI rd r0) S (u8R_c rd r0 _ hc0 hl0 (S.it (rdI rd r0)) (S.lend (rdI rd r0) (S.mem.fact (GlF r0.p r0.bs)))) rfl ?_;clear S;rintro _ a w ⟨rfl,hh⟩ hS
   have S:=hS (rdI rd (takeR r0 1)) hh (fun k h=>.inl h)
   clear hS
   rw[←hna]at S
   replace S:=S.add (Φ:=GlF (takeR r0 1).p (takeR r0 1).bs) (takeR_gl hc0 (S.mem.fact (GlF r0.p r0.bs)))
   rw[←hra]at S
   refine te S ?_;refine tq S ?_;clear S;intro a S
   rw[w64 (na:Int) (by omega) (by omega)]at S
   refine tb2 ?_ ?_
   ·refine sit (rdI rd ra) S (u16R_c rd ra _ hca (by omega) (S.it (rdI rd ra)) (S.lend (rdI rd ra) (S.mem.fact (GlF ra.p ra.bs)))) rfl ?_;clear S;rintro _ a w ⟨rfl,hh⟩ hS
    have S:=hS (rdI rd (takeR ra 2)) hh (fun k h=>.inl h)
    clear hS
    rw[←hnb]at S
    replace S:=S.add (Φ:=GlF (takeR ra 2).p (takeR ra 2).bs) (takeR_gl hca (S.mem.fact (GlF ra.p ra.bs)))
    rw[←hrb]at S
    refine te S ?_;refine tq S ?_;clear S;intro a S
    rw[w64 (nb:Int) (by omega) (by omega)]at S
    refine tb2 ?_ ?_
    ·refine sit (rdI rd rb) S (u16R_c rd rb _ hcb (by omega) (S.it (rdI rd rb)) (S.lend (rdI rd rb) (S.mem.fact (GlF rb.p rb.bs)))) rfl ?_;clear S;rintro _ a w ⟨rfl,hh⟩ hS
     have S:=hS (rdI rd (takeR rb 2)) hh (fun k h=>.inl h)
     clear hS
     rw[←hnc]at S
     replace S:=S.add (Φ:=GlF (takeR rb 2).p (takeR rb 2).bs) (takeR_gl hcb (S.mem.fact (GlF rb.p rb.bs)))
     rw[←hrc]at S
     refine te S ?_;refine tq S ?_;clear S;intro a S
     rw[w64 (nc:Int) (by omega) (by omega)]at S
     refine tb2 ?_ ?_
     ·refine sit (rdI rd rc) S (u16R_c rd rc _ hcc (by omega) (S.it (rdI rd rc)) (S.lend (rdI rd rc) (S.mem.fact (GlF rc.p rc.bs)))) rfl ?_;clear S;rintro _ a w ⟨rfl,hh⟩ hS
      have S:=hS (rdI rd (takeR rc 2)) hh (fun k h=>.inl h)
      clear hS
      rw[←hnd]at S
      replace S:=S.add (Φ:=GlF (takeR rc 2).p (takeR rc 2).bs) (takeR_gl hcc (S.mem.fact (GlF rc.p rc.bs)))
      rw[←hre]at S
      refine te S ?_;refine tq S ?_;clear S;intro a S
      rw[w64 (nd:Int) (by omega) (by omega)]at S
      refine tq S ?_;clear S;intro a S;refine tl (sa S ?_);clear S;intro b5 a w S;refine te S ?_;refine tl (sw S ?_);clear S;intro a w S;refine te S ?_;refine tn ?_
      exact ⟨b5,S.uu,trivial,S.sub _ _⟩
     ·refine sa S ?_;clear S;intro b5 a w S;refine te S ?_;refine tl ?_
      refine sit (rdI rd rc) S (u16R_c rd rc _ hcc (by omega) (S.it (rdI rd rc)) (S.lend (rdI rd rc) (S.mem.fact (GlF rc.p rc.bs)))) rfl ?_;clear S;rintro _ a w ⟨rfl,hh⟩ hS
      have S:=hS (rdI rd (takeR rc 2)) hh (fun k h=>.inl h)
      clear hS
      rw[←hnd]at S
      replace S:=S.add (Φ:=GlF (takeR rc 2).p (takeR rc 2).bs) (takeR_gl hcc (S.mem.fact (GlF rc.p rc.bs)))
      rw[←hre]at S
      refine te S ?_;refine tq S ?_;clear S;intro a S
      rw[w64 (nd:Int) (by omega) (by omega)]at S
      refine tq S ?_;clear S;intro a S;refine tl (sw S ?_);clear S;intro a w S;refine te S ?_;refine tn ?_
      exact ⟨b5,S.uu,trivial,S.sub _ _⟩
    ·refine sa S ?_;clear S;intro b5 a w S;refine te S ?_;refine tl ?_
     refine sit (rdI rd rb) S (u16R_c rd rb _ hcb (by omega) (S.it (rdI rd rb)) (S.lend (rdI rd rb) (S.mem.fact (GlF rb.p rb.bs)))) rfl ?_;clear S;rintro _ a w ⟨rfl,hh⟩ hS
     have S:=hS (rdI rd (takeR rb 2)) hh (fun k h=>.inl h)
     clear hS
     rw[←hnc]at S
     replace S:=S.add (Φ:=GlF (takeR rb 2).p (takeR rb 2).bs) (takeR_gl hcb (S.mem.fact (GlF rb.p rb.bs)))
     rw[←hrc]at S
     refine te S ?_;refine tq S ?_;clear S;intro a S
     rw[w64 (nc:Int) (by omega) (by omega)]at S
     refine tl ?_
     refine sit (rdI rd rc) S (u16R_c rd rc _ hcc (by omega) (S.it (rdI rd rc)) (S.lend (rdI rd rc) (S.mem.fact (GlF rc.p rc.bs)))) rfl ?_;clear S;rintro _ a w ⟨rfl,hh⟩ hS
     have S:=hS (rdI rd (takeR rc 2)) hh (fun k h=>.inl h)
     clear hS
     rw[←hnd]at S
     replace S:=S.add (Φ:=GlF (takeR rc 2).p (takeR rc 2).bs) (takeR_gl hcc (S.mem.fact (GlF rc.p rc.bs)))
     rw[←hre]at S
     refine te S ?_;refine tq S ?_;clear S;intro a S
     rw[w64 (nd:Int) (by omega) (by omega)]at S
     refine tq S ?_;clear S;intro a S;refine tl (sw S ?_);clear S;intro a w S;refine te S ?_;refine tn ?_
     exact ⟨b5,S.uu,trivial,S.sub _ _⟩
   ·refine sa S ?_;clear S;intro b5 a w S;refine te S ?_;refine tl ?_
    refine sit (rdI rd ra) S (u16R_c rd ra _ hca (by omega) (S.it (rdI rd ra)) (S.lend (rdI rd ra) (S.mem.fact (GlF ra.p ra.bs)))) rfl ?_;clear S;rintro _ a w ⟨rfl,hh⟩ hS
    have S:=hS (rdI rd (takeR ra 2)) hh (fun k h=>.inl h)
    clear hS
    rw[←hnb]at S
    replace S:=S.add (Φ:=GlF (takeR ra 2).p (takeR ra 2).bs) (takeR_gl hca (S.mem.fact (GlF ra.p ra.bs)))
    rw[←hrb]at S
    refine te S ?_;refine tq S ?_;clear S;intro a S
    rw[w64 (nb:Int) (by omega) (by omega)]at S
    refine tl ?_
    refine sit (rdI rd rb) S (u16R_c rd rb _ hcb (by omega) (S.it (rdI rd rb)) (S.lend (rdI rd rb) (S.mem.fact (GlF rb.p rb.bs)))) rfl ?_;clear S;rintro _ a w ⟨rfl,hh⟩ hS
    have S:=hS (rdI rd (takeR rb 2)) hh (fun k h=>.inl h)
    clear hS
    rw[←hnc]at S
    replace S:=S.add (Φ:=GlF (takeR rb 2).p (takeR rb 2).bs) (takeR_gl hcb (S.mem.fact (GlF rb.p rb.bs)))
    rw[←hrc]at S
    refine te S ?_;refine tq S ?_;clear S;intro a S
    rw[w64 (nc:Int) (by omega) (by omega)]at S
    refine tl ?_
    refine sit (rdI rd rc) S (u16R_c rd rc _ hcc (by omega) (S.it (rdI rd rc)) (S.lend (rdI rd rc) (S.mem.fact (GlF rc.p rc.bs)))) rfl ?_;clear S;rintro _ a w ⟨rfl,hh⟩ hS
    have S:=hS (rdI rd (takeR rc 2)) hh (fun k h=>.inl h)
    clear hS
    rw[←hnd]at S
    replace S:=S.add (Φ:=GlF (takeR rc 2).p (takeR rc 2).bs) (takeR_gl hcc (S.mem.fact (GlF rc.p rc.bs)))
    rw[←hre]at S
    refine te S ?_;refine tq S ?_;clear S;intro a S
    rw[w64 (nd:Int) (by omega) (by omega)]at S
    refine tq S ?_;clear S;intro a S;refine tl (sw S ?_);clear S;intro a w S;refine te S ?_;refine tn ?_
    exact ⟨b5,S.uu,trivial,S.sub _ _⟩
  ·refine sa S ?_;clear S;intro b5 a w S;refine te S ?_;refine tl ?_
   refine sit (rdI rd r0) S (u8R_c rd r0 _ hc0 hl0 (S.it (rdI rd r0)) (S.lend (rdI rd r0) (S.mem.fact (GlF r0.p r0.bs)))) rfl ?_;clear S;rintro _ a w ⟨rfl,hh⟩ hS
   have S:=hS (rdI rd (takeR r0 1)) hh (fun k h=>.inl h)
   clear hS
   rw[←hna]at S
   replace S:=S.add (Φ:=GlF (takeR r0 1).p (takeR r0 1).bs) (takeR_gl hc0 (S.mem.fact (GlF r0.p r0.bs)))
   rw[←hra]at S
   refine te S ?_;refine tq S ?_;clear S;intro a S
   rw[w64 (na:Int) (by omega) (by omega)]at S
   refine tl ?_
   refine sit (rdI rd ra) S (u16R_c rd ra _ hca (by omega) (S.it (rdI rd ra)) (S.lend (rdI rd ra) (S.mem.fact (GlF ra.p ra.bs)))) rfl ?_;clear S;rintro _ a w ⟨rfl,hh⟩ hS
   have S:=hS (rdI rd (takeR ra 2)) hh (fun k h=>.inl h)
   clear hS
   rw[←hnb]at S
   replace S:=S.add (Φ:=GlF (takeR ra 2).p (takeR ra 2).bs) (takeR_gl hca (S.mem.fact (GlF ra.p ra.bs)))
   rw[←hrb]at S
   refine te S ?_;refine tq S ?_;clear S;intro a S
   rw[w64 (nb:Int) (by omega) (by omega)]at S
   refine tl ?_
   refine sit (rdI rd rb) S (u16R_c rd rb _ hcb (by omega) (S.it (rdI rd rb)) (S.lend (rdI rd rb) (S.mem.fact (GlF rb.p rb.bs)))) rfl ?_;clear S;rintro _ a w ⟨rfl,hh⟩ hS
   have S:=hS (rdI rd (takeR rb 2)) hh (fun k h=>.inl h)
   clear hS
   rw[←hnc]at S
   replace S:=S.add (Φ:=GlF (takeR rb 2).p (takeR rb 2).bs) (takeR_gl hcb (S.mem.fact (GlF rb.p rb.bs)))
   rw[←hrc]at S
   refine te S ?_;refine tq S ?_;clear S;intro a S
   rw[w64 (nc:Int) (by omega) (by omega)]at S
   refine tl ?_
   refine sit (rdI rd rc) S (u16R_c rd rc _ hcc (by omega) (S.it (rdI rd rc)) (S.lend (rdI rd rc) (S.mem.fact (GlF rc.p rc.bs)))) rfl ?_;clear S;rintro _ a w ⟨rfl,hh⟩ hS
   have S:=hS (rdI rd (takeR rc 2)) hh (fun k h=>.inl h)
   clear hS
   rw[←hnd]at S
   replace S:=S.add (Φ:=GlF (takeR rc 2).p (takeR rc 2).bs) (takeR_gl hcc (S.mem.fact (GlF rc.p rc.bs)))
   rw[←hre]at S
   refine te S ?_;refine tq S ?_;clear S;intro a S
   rw[w64 (nd:Int) (by omega) (by omega)]at S
   refine tq S ?_;clear S;intro a S;refine tl (sw S ?_);clear S;intro a w S;refine te S ?_;refine tn ?_
   exact ⟨b5,S.uu,trivial,S.sub _ _⟩
 clear S;rintro b5 uu a w - S;refine xtn (kS ?_)
 replace S:=S.boxToF b4
 replace S:=((S.addNil 179 7).addNil 177 2).addNil 175 2
 obtain ⟨m0,hm0⟩:∃ m0:LMem,m0=⟨na,nb,nc,nd,none,0,[],none,0,[],none,0,[]⟩:=⟨_,rfl⟩
 rw[show Wk.row 175 2 none 0 0 []=rwS m0 from by rw[hm0];rfl,show Wk.row 177 2 none 0 0 []=rwV m0 from by rw[hm0];rfl,show Wk.row 179 7 none 0 0 []=rwE m0 from by rw[hm0];rfl,←hm0]at S
 have hm0u:m0.user=(na:Int)∧m0.leaf=(nb:Int)∧m0.counter=(nc:Int)∧m0.num=(nd:Int)∧m0.seeds=[]∧m0.vers=[]∧m0.seen=[]:=by rw[hm0];exact ⟨rfl,rfl,rfl,rfl,rfl,rfl,rfl⟩
 clear hm0
 replace S:=(((((S.front (mmX b5 m0)).front (rwS m0)).front (rwV m0)).front (rwE m0)).front (rdI rd re)).front (mrX b9 rd false)
 replace S:=St.dmClose S
 replace S:=S.add (Φ:=AllI m0.seen) (fun _ _ x hx=>by rw[hm0u.2.2.2.2.2.2]at hx;cases hx)
 obtain ⟨N1,hN1⟩:∃ N1,N1=numN (tookR re 1) 0:=⟨_,rfl⟩
 have hN1l:N1 < 256:=by rw[hN1];exact (took_num re 1 (by decide)).2
 obtain ⟨z1,z2⟩:=tk_ab re 1
 have y5:c1D bs=(tookR re 1,(takeR re 1).ab):=by rw[c1D,y4,z1,z2]
 have hL0:LeftS N1 (takeR re 1).ab na nb nc nd N1 m0 false (takeR re 1):=⟨rfl,⟨hm0u.1,hm0u.2.1,hm0u.2.2.1,hm0u.2.2.2.1,hm0u.2.2.2.2.2.1,hm0u.2.2.2.2.2.2⟩,by rw[hm0u.2.2.2.2.1];rfl,by rw[hm0u.2.2.2.2.1];simp;omega,by rw[hm0u.2.2.2.2.1];nofun⟩
 refine kR ?_;(iterate 2 (refine sq S ?_;clear S;intro a S))
 refine sitM (dmI b5 b9 rd m0 false re) S (meach_c 138 b5 b4 b9 rd (LeftS N1 (takeR re 1).ab na nb nc nd) (fun m wr r m' wr' r'=>wr'=wr∧r'.ab=(markD r.ab).2∧m'.m = { m.m with seeds:=m.seeds++[(markD r.ab).1] }) (fun k m wr r m' wr' r' h hw ⟨h1,h2,h3⟩=>h.next hw h1 h2 h3 (markD_key r)) (fun k m wr r Mr w0 hR hc hl hMr hd h4 hx hs=>mdec1_c b5 b4 b9 rd m wr r Mr w0 hc hl (by have:=hR.few;omega) hMr hd h4 hx hs) m0 false re (restOf _ (dmI b5 b9 rd m0 false re)) _ (by rw[←hN1];exact hL0) hce (by omega) (S.restOk _) (S.it (dmI b5 b9 rd m0 false re)) ((S.mem.fact (BoxF b4 207 [.pointer (some ⟨b9,0,none⟩)])).split (dmI b5 b9 rd m0 false re)) ((S.mem.fact (GlF re.p re.bs)).split (dmI b5 b9 rd m0 false re)) ((S.mem.fact (AllI m0.seen)).split (dmI b5 b9 rd m0 false re))) rfl ?_;clear S;rintro _ a w ⟨rfl,m1,wr1,r1,⟨k1,hR1,hk1⟩,hsb1,hh,hf,hall⟩ hS
 have S:=hS (dmI b5 b9 rd m1 wr1 r1) [AllI m1.seen] hh hf (by intro Φ hΦ;obtain rfl:=List.mem_singleton.1 hΦ;exact hall)
 clear hS
 replace S:=S.add (Φ:=GlF r1.p r1.bs) ((S.mem.fact (GlF re.p re.bs)).imp fun _ h=>hsb1.gl hce _ h)
 have hcr1:=hsb1.cap hce
 have hlr1:=hsb1.len
 obtain rfl:=hR1.wr
 have y6:s1D bs=(m1.seeds,r1.ab):=by rw[s1D,y5,←hN1,hR1.rel,marksD_end hk1];simp
 obtain ⟨N2,hN2⟩:∃ N2,N2=numN (tookR r1 1) 0:=⟨_,rfl⟩
 have hN2l:N2 < 256:=by rw[hN2];exact (took_num r1 1 (by decide)).2
 obtain ⟨z3,z4⟩:=tk_ab r1 1
 have y7:c2D bs=(tookR r1 1,(takeR r1 1).ab):=by rw[c2D,y6,z3,z4]
 have hf1:=hR1.flat
 have hL1:LeftV N2 (takeR r1 1).ab na nb nc nd m1.seeds N2 m1 false (takeR r1 1):=⟨rfl,⟨hf1.1,hf1.2.1,hf1.2.2.1,hf1.2.2.2.1,rfl,hf1.2.2.2.2.2⟩,by rw[hf1.2.2.2.2.1];rfl,by rw[hf1.2.2.2.2.1];simp;omega,by rw[hf1.2.2.2.2.1];nofun⟩
 refine kN (xtn (kS (kR ?_)));(iterate 2 (refine sq S ?_;clear S;intro a S))
 refine sitM (dmI b5 b9 rd m1 false r1) S (meach_c 140 b5 b4 b9 rd (LeftV N2 (takeR r1 1).ab na nb nc nd m1.seeds) (fun m wr r m' wr' r'=>wr'=wr∧r'.ab=(markD r.ab).2∧m'.m = { m.m with vers:=m.vers++[(markD r.ab).1] }) (fun k m wr r m' wr' r' h hw ⟨h1,h2,h3⟩=>h.next hw h1 h2 h3 (markD_key r)) (fun k m wr r Mr w0 hR hc hl hMr hd h4 hx hs=>mdec2_c b5 b4 b9 rd m wr r Mr w0 hc hl (by have:=hR.few;omega) hMr hd h4 hx hs) m1 false r1 (restOf _ (dmI b5 b9 rd m1 false r1)) _ (by rw[←hN2];exact hL1) hcr1 (by omega) (S.restOk _) (S.it (dmI b5 b9 rd m1 false r1)) ((S.mem.fact (BoxF b4 207 [.pointer (some ⟨b9,0,none⟩)])).split (dmI b5 b9 rd m1 false r1)) ((S.mem.fact (GlF r1.p r1.bs)).split (dmI b5 b9 rd m1 false r1)) ((S.mem.fact (AllI m1.seen)).split (dmI b5 b9 rd m1 false r1))) rfl ?_;clear S;rintro _ a w ⟨rfl,m2,wr2,r2,⟨k2,hR2,hk2⟩,hsb2,hh,hf,hall⟩ hS
 have S:=hS (dmI b5 b9 rd m2 wr2 r2) [AllI m2.seen] hh hf (by intro Φ hΦ;obtain rfl:=List.mem_singleton.1 hΦ;exact hall)
 clear hS
 replace S:=S.add (Φ:=GlF r2.p r2.bs) ((S.mem.fact (GlF r1.p r1.bs)).imp fun _ h=>hsb2.gl hcr1 _ h)
 have hcr2:=hsb2.cap hcr1
 have hlr2:=hsb2.len
 obtain rfl:=hR2.wr
 have y8:s2D bs=(m2.vers,r2.ab):=by rw[s2D,y7,←hN2,hR2.rel,marksD_end hk2];simp
 obtain ⟨N3,hN3⟩:∃ N3,N3=numN (tookR r2 1) 0:=⟨_,rfl⟩
 have hN3l:N3 < 256:=by rw[hN3];exact (took_num r2 1 (by decide)).2
 obtain ⟨z5,z6⟩:=tk_ab r2 1
 have y9:c3D bs=(tookR r2 1,(takeR r2 1).ab):=by rw[c3D,y8,z5,z6]
 have hf2:=hR2.flat
 have hL2:LeftE N3 (takeR r2 1).ab na nb nc nd m1.seeds m2.vers N3 m2 false (takeR r2 1):=⟨⟨hf2.1,hf2.2.1,hf2.2.2.1,hf2.2.2.2.1,hf2.2.2.2.2.1,rfl⟩,by rw[hf2.2.2.2.2.2];simp[ssP],by rw[hf2.2.2.2.2.2];simp;omega⟩
 refine kN (xtn (kS (kR ?_)));(iterate 2 (refine sq S ?_;clear S;intro a S))
 refine sitM (dmI b5 b9 rd m2 false r2) S (meach_c 141 b5 b4 b9 rd (LeftE N3 (takeR r2 1).ab na nb nc nd m1.seeds m2.vers) (fun m wr r m' wr' r'=>wr'=(wr||!(seenD r.ab).2.1)∧r'.ab=(seenD r.ab).2.2∧m'.m = { m.m with seen:=ssP m.seen++[(seenD r.ab).1] }) (fun k m wr r m' wr' r' h hw ⟨h1,h2,h3⟩=>h.next hw h1 h2 h3) (fun k m wr r Mr w0 hR hc hl hMr hd h4 hx hs=>mdec3_c b5 b4 b9 rd m wr r Mr w0 hc hl (by have:=hR.few;omega) hMr hd h4 hx hs) m2 false r2 (restOf _ (dmI b5 b9 rd m2 false r2)) _ (by rw[←hN3];exact hL2) hcr2 (by omega) (S.restOk _) (S.it (dmI b5 b9 rd m2 false r2)) ((S.mem.fact (BoxF b4 207 [.pointer (some ⟨b9,0,none⟩)])).split (dmI b5 b9 rd m2 false r2)) ((S.mem.fact (GlF r2.p r2.bs)).split (dmI b5 b9 rd m2 false r2)) ((S.mem.fact (AllI m2.seen)).split (dmI b5 b9 rd m2 false r2))) rfl ?_;clear S;rintro _ a w ⟨rfl,m3,wr3,r3,⟨k3,hR3,hk3⟩,hsb3,hh,hf,hall⟩ hS
 have S:=hS (dmI b5 b9 rd m3 wr3 r3) [AllI m3.seen] hh hf (by intro Φ hΦ;obtain rfl:=List.mem_singleton.1 hΦ;exact hall)
 clear hS
 replace S:=S.add (Φ:=GlF r3.p r3.bs) ((S.mem.fact (GlF r2.p r2.bs)).imp fun _ h=>hsb3.gl hcr2 _ h)
 have hcr3:=hsb3.cap hcr2
 have hlr3:=hsb3.len
 have y10:s3D bs=(ssP m3.seen,!wr3,r3.ab):=by rw[s3D,y9,←hN3,hR3.rel,seensD_end hk3];simp
 have hf3:=hR3.flat
 have hmem:memD bs=m3.m:=by
  rw[memD,y1,y2,y3,y4,y6,y8,y10,LMem.m,←hna,←hnb,←hnc,←hnd,hf3.1,hf3.2.1,hf3.2.2.1,hf3.2.2.2.1,hf3.2.2.2.2.1,hf3.2.2.2.2.2]
 have hfit:FitM m3:=⟨by rw[hf3.2.2.2.2.1];have:=hR1.few;omega,by rw[hf3.2.2.2.2.2];have:=hR2.few;omega,by have:=hR3.few;omega,by rw[hf3.2.2.2.2.1];intro x hx;have:=hR1.names x hx;omega,by rw[hf3.2.2.2.2.2];intro x hx;have:=hR2.names x hx;omega⟩
 have hMF:MemFit m3:=⟨hfit⟩
 have hdec:decM bs=if r3.why≠0 then (zeroM,7) else if wr3=true∨0 < r3.bs.length∨memB m3.m=false then (zeroM,300) else (m3.m,0):=by
  rw[decM,y10,hmem]
  simp only[RS.ab_why,Bool.not_eq_false']
  rfl
 replace S:=St.dmOpen S
 replace S:=S.front (rwE m3)
 replace S:=S.rowToGl m3.ep m3.seen (e:=179) (sz:=7) (n:=m3.seen.length) (c:=m3.ec) (S.wd.facts (AllI m3.seen) (by simp))
 replace S:=(S.front (rwV m3)).rowToGl m3.vp m3.vers (e:=177) (sz:=2) (n:=m3.vers.length) (c:=m3.vc) (fun _ _ _ _=>trivial)
 replace S:=(S.front (rwS m3)).rowToGl m3.sp m3.seeds (e:=175) (sz:=2) (n:=m3.seeds.length) (c:=m3.sc) (fun _ _ _ _=>trivial)
 replace S:=S.boxToF rd
 replace S:=S.add (Φ:=MemF m3) (fun w' h=>⟨S.mem.fact (GlF m3.sp m3.seeds) w' h,S.mem.fact (GlF m3.vp m3.vers) w' h,S.mem.fact (GlF m3.ep m3.seen) w' h⟩)
 refine kN (xtn (kS (kS (kR ?_))));(iterate 4 (refine sq S ?_;clear S;intro a S))
 refine sr S (errR_c rd r3 _ ((S.mem.fact (BoxF rd 238 (cRS r3))).less fun _ _ h=>h.elim)) ?_;clear S;rintro _ a w rfl S
 refine sq S ?_;clear S;intro a S;refine kN (xtn ?_)
 refine kC S (fun h6=>?_) (fun h6=>?_)
 ·refine kS (kR (sq S ?_));clear S;intro a S;refine sw S ?_;clear S;intro a w S;refine sq S ?_;clear S;intro a S;refine kN (xtn (kT (xtr ?_)))
  have hw:r3.why≠0:=by simpa using h6
  rw[if_pos hw]at hdec
  exact end2 S (fun _=>⟨_,by rw[hdec],by rw[hdec];exact zeroM_is M _⟩)
 ·refine kK (xtn (kS (kS (kR ?_))));(iterate 5 (refine sq S ?_;clear S;intro a S));(iterate 4 (refine gQ S ?_;clear S;intro a S));refine gC S ?_;clear S;intro a w S;refine gQ S ?_;clear S;intro a S;(iterate 2 (refine sq S ?_;clear S;intro a S));refine gQ S ?_;clear S;intro a S;refine gC S ?_;clear S;intro a w S;refine gQ S ?_;clear S;intro a S;refine sq S ?_;clear S;intro a S;refine kN (xtn ?_)
  refine kC S (fun h8=>?_) (fun h8=>?_)
  ·refine kS (kR (sq S ?_));clear S;intro a S;refine sw S ?_;clear S;intro a w S;refine sq S ?_;clear S;intro a S;refine kN (xtn (kT (xtr ?_)))
   have hw:r3.why=0:=by simpa using h6
   rw[if_neg (fun h=>h hw),if_pos (by
    simp only[Bool.or_eq_true,decide_eq_true_eq,Bool.not_eq_true',decide_eq_false_iff_not]at h8
    rcases h8 with (h | h) | h
    ·exact .inl h
    ·exact .inr (.inl (by omega))
    ·refine .inr (.inr ?_)
     cases hb:memB m3.m with
     | false=>rfl
     | true=>rw[mchkF,hb]at h;exact absurd rfl h)]at hdec
   exact end2 S (fun _=>⟨_,by rw[hdec],by rw[hdec];exact zeroM_is M _⟩)
  ·refine kK (xtn (kS (kR (sq S ?_))));clear S;intro a S;refine sw S ?_;clear S;intro a w S;refine sq S ?_;clear S;intro a S;refine kN (xtn (kT ?_))
   have hw:r3.why=0:=by simpa using h6
   rw[if_neg (fun h=>h hw),if_neg (by
    simp only[Bool.or_eq_false_iff,decide_eq_false_iff_not,Bool.not_eq_false',decide_eq_true_eq]at h8
    rintro (h | h | h)
    ·rw[h]at h8;exact absurd h8.1.1 (by simp)
    ·omega
    ·rw[mchkF,h]at h8;exact absurd h8.2 (by decide))]at hdec
   have hmf:=S.laterFact (M:=M) (Φ:=MemF m3) (by simp)
   refine end2 S (fun _=>⟨vMem m3,by rw[hdec],?_⟩)
   rw[hdec]
   exact ⟨m3,rfl,rfl,hfit,hmf⟩
def fitsM (V:LV) (bs:List UInt8):Bool:=decide (bs.length≤40000)&&decide (secF (bs.length:Int)≤(V.n:Int) - V.fin)
def mputR (V:LV) (bs:List UInt8):LV × Int:=if fitsM V bs then appV V bs else chkV V bs
def saveM (V:LV) (now m:PMem):LV × PMem × Int:=
 if V.broken then (V,now,8) else
 if memB m=false then (V,now,300) else
 if coversB now m=false then (V,now,301) else
 if encM now=encM m then (V,now,0) else
 ((mputR V (encM m)).1,if (mputR V (encM m)).2=0 then m else now,(mputR V (encM m)).2)
theorem marksE_small:∀ l:List LMark,(∀ x∈l,MarkOk x)→(marksE l).length≤258*l.length
 | [],_=>by simp[marksE]
 | m::l,h=>by
  have h1:=(h m (.head _)).key
  have h2:=marksE_small l fun x hx=>h x (.tail _ hx)
  simp only[marksE,markE,List.length_append,qqA,twoB_len];omega
theorem encM_small {m:PMem} (h:memB m=true):(encM m).length≤1000000:=by
 have ok:=memB_ok h
 have h1:=marksE_small m.seeds ok.seeds.2
 have h2:=marksE_small m.vers ok.vers.2
 have h3:=seensE_len m.seen
 have h4:=ok.seeds.1
 have h5:=ok.vers.1
 have h6:=ok.seen.1
 rw[encM,tailE1,tailE2,tailE3]
 simp only[List.length_append,qqA,twosB_len,qqB];omega
class WfAt (L:LG):Prop where
 wf:∃ k,L.v.Wf k
class LgAt (bs:List Wk.Item) (g:Nat) (b:outParam Nat) (L:outParam LG):Prop where mem:lgI b g L∈bs
instance lgat0 {g b:Nat} {L:LG} {bs:List Wk.Item} : LgAt (lgI b g L::bs) g b L:=⟨List.mem_cons_self ..⟩
instance (priority:=900) lgat1 {g b:Nat} {L:LG} {x:Wk.Item} {bs:List Wk.Item} [h:LgAt bs g b L]:LgAt (x::bs) g b L:=⟨List.mem_cons_of_mem _ h.mem⟩
instance sectorsI {n:Int} {bs fs} : CallV Tryz.prog 78 [.int .i64 n] bs fs (.int .i64 (secF n)):=⟨fun w _=>sectors_c n w⟩
instance leftVI {g b:Nat} {L:LG} {bs fs} [h:LgAt bs g b L] [hw:WfAt L]:CallV Tryz.prog 100 [.pointer (some ⟨g,0,none⟩)] bs fs (.int .i64 ((L.v.n:Int) - L.v.fin)):=⟨fun w m=>by
 obtain ⟨k,hk⟩:=hw.wf
 exact left_v b g L k hk w (m.held _ h.mem)⟩
abbrev msX (h g:Nat) (x:LMem):Wk.Item:=Wk.box h 214 [.pointer (some ⟨g,0,none⟩),.int .i64 x.user,.int .i64 x.leaf,.int .i64 x.counter,.int .i64 x.num,.slice x.sp x.seeds.length x.sc,.slice x.vp x.vers.length x.vc,.slice x.ep x.seen.length x.ec]
abbrev msI (h b g:Nat) (L:LG) (x:LMem):Wk.Item:=both (msX h g x) (lgI b g L)
structure StOk (L:LG) (x:LMem) (k:Nat):Prop where
 wf:L.v.Wf k
 fit:FitM x
 ok:memB x.m=true
def SaveR (Mr:Nat→Prop) (h b g:Nat) (L:LG) (x:LMem) (m:PMem) (v:Value) (w0 w:World):Prop:=∃ L' x',v=.int .i64 (saveM L.v x.m m).2.2∧(msI h b g L' x').holds w∧(∀ k,(msI h b g L' x').foot k→(msI h b g L x).foot k∨w0.heap.size≤k)∧L'.m=L.m∧L'.v=(saveM L.v x.m m).1∧x'.m=(saveM L.v x.m m).2.1∧FitM x'∧memB x'.m=true∧Stable (fun k=>(msI h b g L' x').foot k∨Mr k) w (MemF x')
set_option maxHeartbeats 2000000 in
theorem msave_c (h b g:Nat) (L:LG) (x:LMem) (k:Nat) (hst:StOk L x k) (hk:k≤970000) (m:LMem) (hfit:FitM m) (Mr:Nat→Prop) (w0:World) (hMr:∀ k,Mr k→k < w0.heap.size∧¬(msI h b g L x).foot k) (hd:(msI h b g L x).holds w0) (fx:Stable (fun k=>(msI h b g L x).foot k∨Mr k) w0 (MemF x)) (fm:Stable (fun k=>(msI h b g L x).foot k∨Mr k) w0 (MemF m)) :
  Ret Tryz.prog 50 [.pointer (some ⟨h,0,none⟩),vMem m] w0 (msI h b g L x).foot fun v w'=>SaveR Mr h b g L x m.m v w0 w':=by
 obtain ⟨hwf,hfx,hokx⟩:=hst
 have hn1:=hwf.n
 have hn2:=hwf.fin
 refine enter Tryz.func50 rfl rfl (Wd.it2LentM (x:=msX h g x) (y:=lgI b g L) (Mr:=Mr) (fs:=[MemF x,MemF m]) hd rfl rfl hMr (by simp;exact ⟨fx,fm⟩)) (fun a S=>?_)
 simp only[Tryz.ntmps50,qqA,qqB,Nat.reduceAdd,Nat.reduceSub,qqC,qqD,qqE,qqF]at S
 refine kS (kR ?_);refine sa S ?_;clear S;intro b3 a w S;refine sq S ?_;clear S;intro a S;refine kN (xtn (kS (kS (kR ?_))));(iterate 2 (refine sq S ?_;clear S;intro a S));refine kN (xtn ?_);refine c_condF S ?_;refine kK (xtn (kS (kR (sq S ?_))));clear S;intro a S
 refine srn S (mencode_q m hfit _ ((S.mem.fact (MemF m)).less fun _ _ h=>h.elim)) ?_;clear S;rintro _ a w ⟨p3,c3,rfl,hown,hnew⟩ hS -
 have S:=hS hown hnew
 clear hS
 obtain ⟨B,hB⟩:∃ B,B=encMQ m.m:=⟨_,rfl⟩
 rw[←hB]at S
 have hBl:B.length≤100000000:=by
  rw[hB,encMQ];split
  exact encM_len hfit
  simp
 replace S:=(S.front (Wk.row 5 1 p3 B.length c3 (encL B))).rowToGl p3 B (e:=5) (sz:=1) (n:=B.length) (c:=c3) (fun _ _ _ _=>trivial)
 (iterate 5 (refine sq S ?_;clear S;intro a S));refine kN (xtn (kS (kB (kS (kR ?_)))));(iterate 4 (refine sq S ?_;clear S;intro a S));refine sr S (broken_v b g L _ (S.it (lgI b g L))) ?_;clear S;rintro _ a w rfl S;refine sq S ?_;clear S;intro a S;refine kN (xtn ?_)
 refine kC S (fun h4=>?_) (fun h4=>?_)
 refine kS (kR (sq S ?_));clear S;intro a S;refine kN (xtn (kT (xbr (xtr ?_))))
 have hv:saveM L.v x.m m.m=(L.v,x.m,8):=by rw[saveM,if_pos h4]
 replace S:=((S.front (lgI b g L)).front (msX h g x)).toBoth
 have hh:=S.it (msI h b g L x)
 have hnw:=S.itNew (msI h b g L x) rfl
 have hst:Stable (fun k=>(msI h b g L x).foot k∨Mr k) _ (MemF x):=(S.wd.facts (MemF x) (by simp)).less fun k _ hk=>hk.elim (fun h1=>⟨msI h b g L x,by simp,h1⟩) (fun h1=>⟨ext Mr,by simp,h1⟩)
 exact end1 S (fun _=>⟨L,x,by rw[hv],hh,hnw,rfl,by rw[hv],by rw[hv],hfx,hokx,hst⟩)
 refine kS ?_
 have hbr:¬L.v.broken=true:=by simpa using h4
 refine kR ?_;(iterate 2 (refine sq S ?_;clear S;intro a S))
 rw[mchk_dec]at S
 refine sq S ?_;clear S;intro a S;refine kN (xtn ?_)
 refine kC S (fun h6=>?_) (fun h6=>?_)
 refine kS (kR ?_);(iterate 2 (refine sq S ?_;clear S;intro a S));refine kN (xtn (kT (xbr (xtr ?_))))
 have hB6:memB m.m=false:=by simpa using h6
 have hv:saveM L.v x.m m.m=(L.v,x.m,300):=by rw[saveM,if_neg hbr,if_pos hB6]
 have he:mchkF m.m=300:=by rw[mchkF,hB6];rfl
 replace S:=((S.front (lgI b g L)).front (msX h g x)).toBoth
 have hh:=S.it (msI h b g L x)
 have hnw:=S.itNew (msI h b g L x) rfl
 have hst:Stable (fun k=>(msI h b g L x).foot k∨Mr k) _ (MemF x):=(S.wd.facts (MemF x) (by simp)).less fun k _ hk=>hk.elim (fun h1=>⟨msI h b g L x,by simp,h1⟩) (fun h1=>⟨ext Mr,by simp,h1⟩)
 exact end1 S (fun _=>⟨L,x,by rw[hv,he],hh,hnw,rfl,by rw[hv],by rw[hv],hfx,hokx,hst⟩)
 refine kS ?_
 have hok:memB m.m=true:=by simpa using h6
 have hB1:B=encM m.m:=by rw[hB,encMQ,if_pos hok]
 have hBs:B.length≤1000000:=by rw[hB1];exact encM_small hok
 refine c_drawD [(0,true),(1,true),(2,true),(3,true),(4,true),(5,false),(6,true),(7,true)] [] S ?_;clear S;intro w S;(iterate 5 (refine dq S ?_;clear S;intro a S));refine dl ?_
 refine sr S (mcovers_c x m hfx hfit _ ((S.mem.fact (MemF x)).less fun _ _ h=>h.elim) ((S.mem.fact (MemF m)).less fun _ _ h=>h.elim)) ?_;clear S;rintro _ a w rfl S
 refine de S ?_;(iterate 2 (refine dq S ?_;clear S;intro a S));refine dn (xtn ?_)
 refine kC S (fun h8=>?_) (fun h8=>?_)
 refine kS (kR (sq S ?_));clear S;intro a S;refine kN (xtn (kT (xbr (xtr ?_))))
 have hC:coversB x.m m.m=false:=by simpa using h8
 have hv:saveM L.v x.m m.m=(L.v,x.m,301):=by rw[saveM,if_neg hbr,if_neg (by rw[hok];simp),if_pos hC]
 replace S:=((S.front (lgI b g L)).front (msX h g x)).toBoth
 have hh:=S.it (msI h b g L x)
 have hnw:=S.itNew (msI h b g L x) rfl
 have hst:Stable (fun k=>(msI h b g L x).foot k∨Mr k) _ (MemF x):=(S.wd.facts (MemF x) (by simp)).less fun k _ hk=>hk.elim (fun h1=>⟨msI h b g L x,by simp,h1⟩) (fun h1=>⟨ext Mr,by simp,h1⟩)
 exact end1 S (fun _=>⟨L,x,by rw[hv],hh,hnw,rfl,by rw[hv],by rw[hv],hfx,hokx,hst⟩)
 refine kK (xbn (xtn (kS ?_)))
 have hC:¬coversB x.m m.m=false:=by simpa using h8
 refine kR ?_;(iterate 4 (refine sq S ?_;clear S;intro a S))
 refine srn S (mencode_q x hfx _ ((S.mem.fact (MemF x)).less fun _ _ h=>h.elim)) ?_;clear S;rintro _ a w ⟨p7,c7,rfl,hown7,hnew7⟩ hS -
 have S:=hS hown7 hnew7
 clear hS
 rw[show encMQ x.m=encM x.m from by rw[encMQ,if_pos hokx]]at S
 have hXs:(encM x.m).length≤1000000:=encM_small hokx
 replace S:=(S.front (Wk.row 5 1 p7 (encM x.m).length c7 (encL (encM x.m)))).rowToGl p7 (encM x.m) (e:=5) (sz:=1) (n:=(encM x.m).length) (c:=c7) (fun _ _ _ _=>trivial)
 (iterate 5 (refine sq S ?_;clear S;intro a S));refine kN (xtn ?_)
 refine c_mrge2 S (fun(L2:LG) (e:Int) uu=>[(4,uu 4),(1,.int .i64 e),(35,uu 42),(0,uu 43),(0,uu 44),(0,uu 45),(0,uu 46),(0,uu 47),(0,uu 48),(0,uu 49),(0,uu 50),(0,uu 51),(0,uu 52),(0,uu 53),(0,uu 54),(0,uu 55),(0,uu 56),(0,uu 57),(0,uu 58),(0,uu 59),(0,uu 60),(0,uu 61),(0,uu 62),(0,uu 63),(0,uu 64),(0,uu 65),(0,uu 66),(0,uu 67),(0,uu 68),(0,uu 69),(0,uu 70),(0,uu 71),(0,uu 72)]) (fun(L2:LG) (e:Int)=>[lgI b g L2,Wk.box b3 67 (cMem m),msX h g x,ext Mr]) (fun(L2:LG) (e:Int)=>[MemF x,MemF m]) (fun(L2:LG) (e:Int)=>L2.m=L.m∧L2.v=(mputR L.v (encM m.m)).1∧e=(mputR L.v (encM m.m)).2∧¬encM x.m=encM m.m) ?_ ?_
 refine kB (kS (kR ?_));(iterate 2 (refine sq S ?_;clear S;intro a S))
 refine sr S (beq_c p7 p3 c7 c3 (encM x.m) B ⟨hXs,hBs⟩ _ (S.gl0 p7) (S.gl0 p3)) ?_;clear S;rintro _ a w rfl S
 refine sq S ?_;clear S;intro a S;refine kN (xtn ?_)
 refine kC S (fun h12=>?_) (fun h12=>?_)
 refine kS (kR (sq S ?_));clear S;intro a S;refine kN (xtn (kT (xbr (xtr ?_))))
 have hE:encM x.m=encM m.m:=by rw[←hB1];exact of_decide_eq_true h12
 have hv:saveM L.v x.m m.m=(L.v,x.m,0):=by rw[saveM,if_neg hbr,if_neg (by rw[hok];simp),if_neg hC,if_pos hE]
 replace S:=((S.front (lgI b g L)).front (msX h g x)).toBoth
 have hh:=S.it (msI h b g L x)
 have hnw:=S.itNew (msI h b g L x) rfl
 have hst:Stable (fun k=>(msI h b g L x).foot k∨Mr k) _ (MemF x):=(S.wd.facts (MemF x) (by simp)).less fun k _ hk=>hk.elim (fun h1=>⟨msI h b g L x,by simp,h1⟩) (fun h1=>⟨ext Mr,by simp,h1⟩)
 exact end1 S (fun _=>⟨L,x,by rw[hv],hh,hnw,rfl,by rw[hv],by rw[hv],hfx,hokx,hst⟩)
 refine kS ?_
 have hne:¬encM x.m=encM m.m:=by rw[←hB1];exact of_decide_eq_false h12
 have hW:WfAt L:=⟨k,hwf⟩
 refine c_drawD [(0,true),(1,true),(2,true),(3,true),(4,true),(5,true),(7,true),(8,true),(9,true),(10,true),(6,false),(11,false),(12,true),(13,true),(14,true)] [] S ?_;clear S;intro w S;(iterate 4 (refine dq S ?_;clear S;intro a S));(iterate 6 (refine dqG S ?_;clear S;intro a S));refine dl ?_;refine gC S ?_;clear S;intro a w S;refine de S ?_;refine dl ?_;refine gC S ?_;clear S;intro a w S;refine de S ?_;refine dqG S ?_;clear S;intro a S;(iterate 2 (refine dq S ?_;clear S;intro a S));refine dn (xtn ?_)
 refine kC S (fun h14=>?_) (fun h14=>?_)
 refine kR ?_;(iterate 5 (refine sq S ?_;clear S;intro a S))
 have hfit2:fitsM L.v (encM m.m)=true:=by rw[fitsM,←hB1,←show decide ((B.length:Int)≤40000)=decide (B.length≤40000) from decide_eq_decide.2 (by omega)];exact h14
 refine sit (lgI b g L) S (append_v b g L k ⟨p3,c3,B⟩ hwf (by omega) (by show B.length≤_;omega) w (S.it (lgI b g L)) (S.lend (lgI b g L) (S.mem.fact (GlF p3 B)))) rfl ?_;clear S;rintro _ a w ⟨L2,rfl,hh2,hf2,hm2,hv2⟩ hS
 have S:=hS (lgI b g L2) hh2 hf2
 clear hS
 refine sq S ?_;clear S;intro a S;refine kN (xbn (xtn ?_))
 replace S:=S.front (lgI b g L2)
 exact ⟨L2,_,S.uu,⟨hm2,by rw[mputR,if_pos hfit2,←hB1];exact hv2,by rw[mputR,if_pos hfit2,←hB1],hne⟩,S.sub _ _⟩
 refine kR ?_;(iterate 5 (refine sq S ?_;clear S;intro a S))
 have hfit2:fitsM L.v (encM m.m)=false:=by rw[fitsM,←hB1,←show decide ((B.length:Int)≤40000)=decide (B.length≤40000) from decide_eq_decide.2 (by omega)];exact h14
 refine sit (lgI b g L) S (chk_v b g L k ⟨p3,c3,B⟩ hwf (by omega) (by show B.length≤_;omega) w (S.it (lgI b g L)) (S.lend (lgI b g L) (S.mem.fact (GlF p3 B)))) rfl ?_;clear S;rintro _ a w ⟨L2,rfl,hh2,hf2,hm2,hv2⟩ hS
 have S:=hS (lgI b g L2) hh2 hf2
 clear hS
 refine sq S ?_;clear S;intro a S;refine kN (xbn (xtn ?_))
 replace S:=S.front (lgI b g L2)
 exact ⟨L2,_,S.uu,⟨hm2,by rw[mputR,hfit2,←hB1];exact hv2,by rw[mputR,hfit2,←hB1];rfl,hne⟩,S.sub _ _⟩
 clear S;rintro L2 e uu a w ⟨hm2,hv2,he2,hne⟩ S
 refine kS (kS ?_)
 have hv:saveM L.v x.m m.m=((mputR L.v (encM m.m)).1,if (mputR L.v (encM m.m)).2=0 then m.m else x.m,(mputR L.v (encM m.m)).2):=by rw[saveM,if_neg hbr,if_neg (by rw[hok];simp),if_neg hC,if_neg hne]
 refine kR ?_;(iterate 2 (refine sq S ?_;clear S;intro a S));refine kN (xtn ?_)
 refine kC S (fun h16=>?_) (fun h16=>?_)
 refine kR ?_;(iterate 2 (refine sq S ?_;clear S;intro a S))
 refine sr S (mowned_c m hfit hok _ w (foots_lt S) (S.mem.fact (MemF m))) ?_;clear S;rintro _ a w ⟨x',rfl,hx',hfx',hst'⟩ S
 replace S:=S.add (Φ:=MemF x') hst'
 (iterate 2 (refine sq S ?_;clear S;intro a S));refine sw S ?_;clear S;intro a w S;refine kN (xtn (kS (kR ?_)));(iterate 2 (refine sq S ?_;clear S;intro a S));refine kN (xtn (kT ?_))
 have he0:(mputR L.v (encM m.m)).2=0:=by rw[←he2];simpa using h16
 rw[if_pos he0]at hv
 replace S:=((S.front (lgI b g L2)).front (msX h g x')).toBoth
 have hh:=S.it (msI h b g L2 x')
 have hnw:=S.itNew (msI h b g L2 x') rfl
 have hst:Stable (fun k=>(msI h b g L2 x').foot k∨Mr k) _ (MemF x'):=(S.wd.facts (MemF x') (by simp)).less fun k _ hk=>hk.elim (fun h1=>⟨msI h b g L2 x',by simp,h1⟩) (fun h1=>⟨ext Mr,by simp,h1⟩)
 exact end1 S (fun _=>⟨L2,x',by rw[hv,he2],hh,hnw,hm2,by rw[hv];exact hv2,by rw[hv];exact hx',hfx',by rw[hx'];exact hok,hst⟩)
 refine kK (xtn (kS (kR ?_)));(iterate 2 (refine sq S ?_;clear S;intro a S));refine kN (xtn (kT ?_))
 have he0:¬(mputR L.v (encM m.m)).2=0:=by rw[←he2];simpa using h16
 rw[if_neg he0]at hv
 replace S:=((S.front (lgI b g L2)).front (msX h g x)).toBoth
 have hh:=S.it (msI h b g L2 x)
 have hnw:=S.itNew (msI h b g L2 x) rfl
 have hst:Stable (fun k=>(msI h b g L2 x).foot k∨Mr k) _ (MemF x):=(S.wd.facts (MemF x) (by simp)).less fun k _ hk=>hk.elim (fun h1=>⟨msI h b g L2 x,by simp,h1⟩) (fun h1=>⟨ext Mr,by simp,h1⟩)
 exact end1 S (fun _=>⟨L2,x,by rw[hv,he2],hh,hnw,hm2,by rw[hv];exact hv2,by rw[hv],hfx,hokx,hst⟩)
theorem mget_c (h b g:Nat) (L:LG) (x:LMem) (hfx:FitM x) (hokx:memB x.m=true) (Mr:Nat→Prop) (w0:World) (hMr:∀ k,Mr k→k < w0.heap.size∧¬(msI h b g L x).foot k) (hd:(msI h b g L x).holds w0) (fx:Stable (fun k=>(msI h b g L x).foot k∨Mr k) w0 (MemF x)) :
  Ret Tryz.prog 47 [.pointer (some ⟨h,0,none⟩)] w0 (msI h b g L x).foot fun v w'=>(msI h b g L x).holds w'∧IsM (fun k=>(msI h b g L x).foot k∨Mr k) w' v x.m:=by
 refine enter Tryz.func47 rfl rfl (Wd.it2LentM (x:=msX h g x) (y:=lgI b g L) (Mr:=Mr) (fs:=[MemF x]) hd rfl rfl hMr (by simpa using fx)) (fun a S=>?_)
 simp only[Tryz.ntmps47,qqA,qqB,Nat.reduceAdd,Nat.reduceSub,qqC,qqD,qqE,qqF]at S
 refine kS (kR ?_);refine sa S ?_;clear S;intro b2 a w S;refine kN (xtn (kS (kS (kR ?_))));(iterate 2 (refine sq S ?_;clear S;intro a S));refine kN (xtn ?_);refine c_condF S ?_;refine kK (xtn (kS (kR ?_)));(iterate 4 (refine sq S ?_;clear S;intro a S))
 refine sr S (mowned_c x hfx hokx _ w (foots_lt S) (S.mem.fact (MemF x))) ?_;clear S;rintro _ a w ⟨y,rfl,hy,hfy,hsty⟩ S
 replace S:=S.add (Φ:=MemF y) hsty
 refine sw S ?_;clear S;intro a w S;refine kN (xtn (kT ?_))
 replace S:=((S.front (lgI b g L)).front (msX h g x)).toBoth
 have hh:=S.it (msI h b g L x)
 have hst:Stable (fun k=>(msI h b g L x).foot k∨Mr k) _ (MemF y):=(S.wd.facts (MemF y) (by simp)).less fun k _ hk=>hk.elim (fun h1=>⟨msI h b g L x,by simp,h1⟩) (fun h1=>⟨ext Mr,by simp,h1⟩)
 exact end1 S (fun _=>⟨hh,y,rfl,hy,hfy,hst⟩)
abbrev mem0 (u:Int):LMem:=⟨u,0,0,0,none,0,[],none,0,[],none,0,[]⟩
abbrev newM (u:Int):PMem:=⟨u,0,0,0,[],[],[]⟩
theorem mem0_m (u:Int):(mem0 u).m=newM u:=rfl
theorem mem0_fit (u:Int):FitM (mem0 u):=⟨Nat.zero_le _,Nat.zero_le _,Nat.zero_le _,nofun,nofun⟩
theorem mem0_st (u:Int) (M:Nat→Prop) (w:World):Stable M w (MemF (mem0 u)):=fun _ _=>⟨gl_nil,gl_nil,gl_nil⟩
theorem newM_ok {u:Int} (h:1≤u∧u≤6):memB (newM u)=true:=by
 simp[memB,headB,riseS,okM,riseM,seenB,cntK,h.1,h.2]
theorem newM_len (u:Int):(encM (newM u)).length=10:=rfl
theorem fmtV_wfM {n:Nat} {s:DS} (hm:mayF s n=true):(fmtV n s).Wf (s.loose.length+3000):=by
 have hn:4≤n∧n≤1000:=by simp[mayF]at hm;omega
 refine ⟨hn.2,show 1≤n by omega,Nat.zero_lt_one,Nat.le_refl 1,?_,⟨Int.le_refl _,by show (0:Int)≤4294967295;decide⟩,?_⟩
 intro b hb
 obtain rfl:=List.mem_singleton.1 hb;simp
 have h1:=layF_loose s 0 (List.replicate (2*n+2) zB)
 rw[List.length_replicate]at h1
 have h2:=begF_loose n 0 [] (by simp) (layF s 0 (List.replicate (2*n+2) zB)).1
 show (fmtF n s).1.loose.length≤_
 unfold fmtF
 split <;> omega
theorem mformat_ok (b m n:Nat) (p:Option Addr) (c:Nat) (s:DS) (u:Int) (hu:1≤u∧u≤6) (hm:mayF s n=true) (hl:s.loose.length≤900000) (h0:(fmtF n s).2=0) (hc:(chkV (fmtV n s) (encM (newM u))).2=0) (w0:World) (hd:(dkI b m p c s).holds w0) :
  Ret Tryz.prog 46 [.pointer (some ⟨b,0,none⟩),.int .i64 (n:Int),.int .i64 u] w0 (dkI b m p c s).foot fun v w'=>∃ h g L,v=.tuple ⟨[.pointer (some ⟨h,0,none⟩),.int .i64 0]⟩∧L.m=m∧L.v=(chkV (fmtV n s) (encM (newM u))).1∧(msI h b g L (mem0 u)).holds w'∧∀ k,(msI h b g L (mem0 u)).foot k→(dkI b m p c s).foot k∨w0.heap.size≤k:=by
 have hok:=newM_ok hu
 refine enter Tryz.func46 rfl rfl (Wd.itLent (x:=dkI b m p c s) (fs:=[]) hd (by simp)) (fun a S=>?_)
 simp only[Tryz.ntmps46,qqA,qqB,Nat.reduceAdd,Nat.reduceSub,qqC,qqD,qqE,qqF]at S
 refine kS (kR ?_);(iterate 2 (refine sq S ?_;clear S;intro a S));refine kN (xtn (kS (kR ?_)));(iterate 2 (refine sq S ?_;clear S;intro a S));refine sa S ?_;clear S;intro b8 a w S;refine sw S ?_;clear S;intro a w S;refine kN (xtn (kS (kR (sq S ?_))));clear S;intro a S
 refine srn S (mencode_q (mem0 u) (mem0_fit u) _ (mem0_st u _ _)) ?_;clear S;rintro _ a w ⟨p3,c3,rfl,hown,hnew⟩ hS -
 have S:=hS hown hnew
 clear hS
 rw[show encMQ (mem0 u).m=encM (newM u) from by rw[mem0_m,encMQ,if_pos hok],show mchkF (mem0 u).m=0 from by rw[mem0_m,mchkF,if_pos hok]]at S
 replace S:=(S.front (Wk.row 5 1 p3 (encM (newM u)).length c3 (encL (encM (newM u))))).rowToGl p3 (encM (newM u)) (e:=5) (sz:=1) (n:=(encM (newM u)).length) (c:=c3) (fun _ _ _ _=>trivial)
 (iterate 5 (refine sq S ?_;clear S;intro a S));refine kN (xtn (kS (kS (kR ?_))));(iterate 2 (refine sq S ?_;clear S;intro a S));refine kN (xtn ?_);refine c_condF S ?_;refine kK (xtn (kS (kR ?_)));(iterate 2 (refine sq S ?_;clear S;intro a S))
 refine sit (dkI b m p c s) S (format_v b m n p c s hm (by omega) _ (S.it (dkI b m p c s))) rfl ?_;clear S;rintro _ a w (⟨h9,-⟩ | ⟨-,g,L,rfl,hLm,hLv,hh,hf⟩) hS
 exact absurd h0 h9
 have S:=hS (lgI b g L) hh hf
 clear hS
 have hwf:L.v.Wf (s.loose.length+3000):=by rw[hLv];exact fmtV_wfM hm
 (iterate 5 (refine sq S ?_;clear S;intro a S));refine kN (xtn (kS (kS (kR ?_))));(iterate 2 (refine sq S ?_;clear S;intro a S));refine kN (xtn ?_);refine c_condT S ?_;refine kR ?_;(iterate 2 (refine sq S ?_;clear S;intro a S))
 have hr:=chk_v b g L (s.loose.length+3000) ⟨p3,c3,encM (newM u)⟩ hwf (by omega) (by show (encM (newM u)).length≤_;rw[newM_len];omega) w (S.it (lgI b g L)) (S.lend (lgI b g L) (S.mem.fact (GlF p3 (encM (newM u)))))
 rw[hLv]at hr
 refine sit (lgI b g L) S hr rfl ?_;clear S;rintro _ a w ⟨L2,rfl,hh2,hf2,hm2,hv2⟩ hS
 have S:=hS (lgI b g L2) hh2 hf2
 clear hS
 rw[show (chkV (fmtV n s) (LBy.bs ⟨p3,c3,encM (newM u)⟩)).2=0 from hc]at S
 refine sq S ?_;clear S;intro a S;refine kN (xtn (kS (kS (kR ?_))));(iterate 2 (refine sq S ?_;clear S;intro a S));refine kN (xtn ?_);refine c_condF S ?_;refine kK (xtn (kS (kR ?_)));(iterate 3 (refine sq S ?_;clear S;intro a S));refine sa S ?_;clear S;intro b38 a w S;(iterate 2 (refine sq S ?_;clear S;intro a S));refine kN (xtn (kT ?_))
 rw[show [Value.pointer (some ⟨g,0,none⟩),.int .i64 u,.int .i64 0,.int .i64 0,.int .i64 0,.slice none 0 0,.slice none 0 0,.slice none 0 0]=[.pointer (some ⟨g,0,none⟩),.int .i64 (mem0 u).user,.int .i64 (mem0 u).leaf,.int .i64 (mem0 u).counter,.int .i64 (mem0 u).num,.slice (mem0 u).sp (mem0 u).seeds.length (mem0 u).sc,.slice (mem0 u).vp (mem0 u).vers.length (mem0 u).vc,.slice (mem0 u).ep (mem0 u).seen.length (mem0 u).ec] from rfl]at S
 replace S:=((S.front (lgI b g L2)).front (msX b38 g (mem0 u))).toBoth
 have h1:=S.it (msI b38 b g L2 (mem0 u))
 have h2:=S.itNew (msI b38 b g L2 (mem0 u)) rfl
 exact end2 S (fun _=>⟨b38,g,L2,rfl,hm2.trans hLm,hv2,h1,h2⟩)
def entM:PMem→List (List UInt8)→Option PMem
 | m,[]=>some m
 | m,b::bs=>if (decM b).2≠0∨coversB m (decM b).1=false then none else entM (decM b).1 bs
def openM:List (List UInt8)→Option PMem
 | []=>none
 | b::bs=>if (decM b).2≠0 then none else entM (decM b).1 bs
theorem decM_ok {b:List UInt8} (h:(decM b).2=0):memB (decM b).1=true:=by
 unfold decM at h⊢
 split at h
 cases h
 split at h
 cases h
 rename_i h1 h2
 rw[if_neg h1,if_neg h2]
 cases h3:memB (memD b) with
 | true=>rfl
 | false=>exact absurd (.inr (.inr h3)) h2
instance mcoversI {x y:LMem} {bs fs} [hx:MemFit x] [hy:MemFit y] [h1:HasFact fs (MemF x)] [h2:HasFact fs (MemF y)]:CallV Tryz.prog 38 [vMem x,vMem y] bs fs (.bool (coversB x.m y.m)):=⟨fun w mm=>mcovers_c x y hx.fit hy.fit w ((mm.facts _ h1.mem).less fun _ _ h=>h.elim) ((mm.facts _ h2.mem).less fun _ _ h=>h.elim)⟩
theorem lgI_stabM {M:Nat→Prop} {w:World} {b g:Nat} {L:LG} (h:Stable M w (lgI b g L).holds):Stable M w (BoxF g 134 (cWal b L.q L.e L.x))∧Stable M w (GlF L.q L.x.said)∧Stable M w (AllBy L.x.said):=
 ⟨h.imp fun _ h=>(BoxF.stable (M:=fun _=>False) h.2.1.1 (fun h=>h)).now,h.imp fun _ h=>(gl_own (M:=fun _=>False) h.2.1.2.1.1 (fun _ _ _ _=>trivial) (fun _ _ h=>h)).now,h.imp fun _ h y hy=>(h.2.1.2.1.2.1 y hy).2⟩
def MOpenR (Mr:Nat→Prop) (b m:Nat) (p:Option Addr) (c:Nat) (s:DS) (v:Value) (w0 w:World):Prop:=
 (openM (opnV s).said=none∧v=.tuple ⟨[.pointer none,.int .i64 300]⟩∧∃ p' c',(dkI b m p' c' (openF s).1).holds w∧∀ k,(dkI b m p' c' (openF s).1).foot k→(dkI b m p c s).foot k∨w0.heap.size≤k)∨
 (∃ h g L x,openM (opnV s).said=some x.m∧v=.tuple ⟨[.pointer (some ⟨h,0,none⟩),.int .i64 0]⟩∧L.m=m∧L.v=opnV s∧FitM x∧(msI h b g L x).holds w∧(∀ k,(msI h b g L x).foot k→(dkI b m p c s).foot k∨w0.heap.size≤k)∧Stable (fun k=>(msI h b g L x).foot k∨Mr k) w (MemF x))
set_option maxHeartbeats 2000000 in
theorem mopen_ok (b m:Nat) (p:Option Addr) (c:Nat) (s:DS) (Mr:Nat→Prop) (hl:s.loose.length≤980000) (h0:(openF s).2.1=0) (w0:World) (hMr:∀ k,Mr k→k < w0.heap.size∧¬(dkI b m p c s).foot k) (hd:(dkI b m p c s).holds w0) :
  Ret Tryz.prog 52 [.pointer (some ⟨b,0,none⟩)] w0 (dkI b m p c s).foot fun v w'=>MOpenR Mr b m p c s v w0 w':=by
 refine enterM Tryz.func52 rfl rfl (Wd.itLentM (x:=dkI b m p c s) (Mr:=Mr) (fs:=[]) hd hMr (by simp)) (fun a S=>?_)
 simp only[Tryz.ntmps52,qqA,qqB,Nat.reduceAdd,Nat.reduceSub,qqC,qqD,qqE,qqF]at S
 refine kS (kR ?_);refine sa S ?_;clear S;intro b2 a w S;refine sa S ?_;clear S;intro b3 a w S;refine kN (xtn (kS (kR (sq S ?_))));clear S;intro a S
 refine sit (dkI b m p c s) S (openV_c b m p c s hl _ (S.it (dkI b m p c s))) rfl ?_;clear S;rintro _ a w (⟨h,-⟩ | ⟨-,g,L,rfl,hLm,hLv,hh,hf⟩) hS
 ·exact absurd h0 h
 have S:=hS (lgI b g L) hh hf
 clear hS
 (iterate 5 (refine sq S ?_;clear S;intro a S));refine kN (xtn (kS (kS (kR ?_))));(iterate 2 (refine sq S ?_;clear S;intro a S));refine kN (xtn ?_);refine c_condF S ?_;refine kK (xtn (kS ?_))
 have hwf:=opnV_wf h0
 rw[←hLv]at hwf
 have hown:=S.itNew (lgI b g L) rfl
 have hcap:=lg_cap (S.it (lgI b g L))
 obtain ⟨bs,r,hr⟩:∃ bs r,L.v.said=bs::r:=by
  have h4:=hwf.some_
  cases h:L.v.said with
  | nil=>rw[h]at h4;simp at h4
  | cons b0 r=>exact ⟨b0,r,rfl⟩
 have hbsl:bs.length≤40000:=hwf.short bs (by rw[hr];exact .head _)
 have hop:openM (opnV s).said=if (decM bs).2≠0 then none else entM (decM bs).1 r:=by rw[←hLv,hr];rfl
 refine kR (sq S ?_);clear S;intro a S
 refine srn S (snap_v b g L _ hwf _ (S.it (lgI b g L))) ?_;clear S;rintro _ a w ⟨bs',p1,c1,hb0,rfl,hrow,hnew⟩ hS -
 have S:=hS hrow hnew
 clear hS
 obtain rfl:bs=bs':=by rw[hr]at hb0;simpa using hb0
 replace S:=S.rowToGl p1 bs (e:=5) (sz:=1) (n:=bs.length) (c:=c1) (fun _ _ _ _=>trivial)
 refine sr S (mdecode_c bs p1 bs.length c1 _ w rfl (by omega) (foots_lt S) (S.mem.fact (GlF p1 bs))) ?_;clear S;rintro _ a w ⟨vm,rfl,x0,rfl,hx0,hfx0,hst0⟩ S
 replace S:=S.add (Φ:=MemF x0) hst0
 obtain ⟨e0,he0⟩:∃ e0,e0=(decM bs).2:=⟨_,rfl⟩
 rw[←he0,←hx0]at hop
 rw[←he0]at S
 (iterate 3 (refine sq S ?_;clear S;intro a S));refine sa S ?_;clear S;intro b6 a w S;refine sw S ?_;clear S;intro a w S;refine sq S ?_;clear S;intro a S;refine kN (xtn (kS (kS (kR ?_))));(iterate 2 (refine sq S ?_;clear S;intro a S));refine kN (xtn ?_)
 refine kC S (fun h5=>?_) (fun h5=>?_)
 ·refine kS (kR ?_);(iterate 2 (refine sw S ?_;clear S;intro a w S));refine kN (xtn (kT (xtr ?_)))
  have hno:e0≠0:=by simpa using h5
  have hs:L.s=(openF s).1:=congrArg LV.s hLv
  subst hLm
  refine endM2 S (fun w hw=>.inl ⟨by rw[hop,if_pos hno],rfl,L.p,L.c,?_⟩)
  have hd:=(hw.held (lgI b g L) (by simp)).1
  rw[←hs]
  exact ⟨hd,fun k hk=>hown k (.inl hk)⟩
 ·refine kK (xtn (kS (kS ?_)))
  have he00:e0=0:=by simpa using h5
  rw[if_neg (fun h=>h he00)]at hop
  have hok0:memB x0.m=true:=by rw[hx0];exact decM_ok (by rw[←he0];exact he00)
  refine kR (sq S ?_);clear S;intro a S
  have hL0:0 < L.x.said.length:=by have:=hwf.some_;rwa [v_len]at this
  have hL1:L.x.said.length≤1000000:=by have h1:=hwf.few;have h2:=hwf.fin;have h3:=hwf.n;rw[v_len]at h1;omega
  obtain ⟨came,hcame⟩:∃ came,came=L.x.said.drop 1:=⟨_,rfl⟩
  have hcl:came.length=L.x.said.length - 1:=by rw[hcame,List.length_drop]
  have hcb:∀ y∈came,y.bs.length≤1000000:=fun y hy=>by have:=hwf.short y.bs (List.mem_map_of_mem (List.mem_of_mem_drop (hcame▸hy)));omega
  have hcr:bsL came=r:=by
   have:L.v.said=bsL L.x.said:=rfl
   rw[hcame,bsL,List.map_drop,←bsL,←this,hr];rfl
  have hlt:=foots_lt S
  refine sr S (all_c g b L.q L.e L.x hL0 hcap _ (BoxF.stable (S.it (lgI b g L)).2.1.1 (fun h=>h))) ?_;clear S;rintro _ a w ⟨h2,rfl,n0,e0'⟩ S
  replace S:=S.add (Φ:=BoxF h2 33 [.slice (if L.e=1 then L.q else L.q.map (·.add (1*1))) (L.x.said.length - 1) (L.e - 1)]) (BoxF.stable e0' (fun hm=>by have:=hlt _ hm;omega))
  rw[←hcl]at S
  obtain ⟨q2,hq2⟩:∃ q2,q2=(if L.e=1 then L.q else L.q.map (·.add (1*1))):=⟨_,rfl⟩
  rw[←hq2]at S
  refine kN (xtn (kB ?_))
  replace S:=S.toRo (x:=lgI b g L)
  replace S:=(((((S.front (ext Mr)).front ((lgI b g L).ro)).front (marks [])).front (Wk.box b2 84 [.pointer none])).front (Wk.box b3 26 [.int .i64 0])).front (Wk.box b6 67 (cMem x0))
  replace S:=(S.add (Φ:=MemF x0) (S.wd.facts (MemF x0) (by simp))).sub [Wk.box b6 67 (cMem x0),Wk.box b3 26 [.int .i64 0],Wk.box b2 84 [.pointer none],marks [],(lgI b g L).ro,ext Mr] [MemF x0,BoxF h2 33 [.slice q2 came.length (L.e - 1)]]
  refine c_range (κ:=LMem) (κx:=Unit) (Ds:=[]) (toldL came)
   (fun _ k=>[Wk.box b6 67 (cMem k),Wk.box b3 26 [.int .i64 0],Wk.box b2 84 [.pointer none],marks [],(lgI b g L).ro,ext Mr])
   (fun _ k=>[MemF k,BoxF h2 33 [.slice q2 came.length (L.e - 1)]])
   (fun i k=>entM x0.m r=entM k.m (r.drop i)∧FitM k∧memB k.m=true)
   (fun _=>[Wk.box b3 26 [.int .i64 300],Wk.box b2 84 [.pointer none],marks [],(lgI b g L).ro,ext Mr])
   (fun _=>[]) (fun cd _=>cd=.ret∧entM x0.m r=none) x0 S
   (fun M w1 hM hF hro=>by
    obtain ⟨z1,z2,z3⟩:=lgI_stabM (b:=b) (g:=g) (L:=L) (hro (lgI b g L).ro (by simp) rfl)
    exact all_it h2 came q2 (L.e - 1) (by omega) hcb w1 M hM (hF _ (by simp)) (z2.imp fun _ h=>by rw[hq2,hcame];exact h.drop 1 hcap) (z3.imp fun _ h y hy=>h y (by rw[hcame]at hy;exact List.mem_of_mem_drop hy))) ⟨⟨rfl,hfx0,hok0⟩,rfl,rfl⟩ ?_ ?_ ?_ ?_
  ·clear S
   rintro L2 D bL M' w1 i z vs xk W0 w hz ⟨hrel,hfk,hokk⟩ hW0 hgr ⟨p2,c2,rfl,hown2,hnew2⟩
   obtain ⟨hi,rfl⟩:=told_get hz
   obtain ⟨y2,hy2e⟩:∃ y2:LBy,y2=⟨p2,c2,(nthG came i).bs⟩:=⟨_,rfl⟩
   have hent:(entI [y2]).holds w:=by rw[hy2e];exact ent_row (y:=⟨p2,c2,(nthG came i).bs⟩) hown2
   have hwd:=hW0.addItem hgr hent (fun k ⟨u,hu,ad,hp,hk⟩=>by
    obtain rfl:=List.mem_singleton.1 hu
    rw[hy2e]at hp
    exact hk▸hnew2 ad hp) (ItOk.lt w hent) ItOk.loc
   have hx:r[i]? = some (nthG came i).bs:=by rw[←hcr,bsL,List.getElem?_map,nthG_get hi];rfl
   have hil:=(List.getElem?_eq_some_iff.1 hx).1
   have hdr:r.drop i=(nthG came i).bs::r.drop (i+1):=by rw[List.drop_eq_getElem_cons hil,(List.getElem?_eq_some_iff.1 hx).2]
   have hbl2:(nthG came i).bs.length≤1000000:=hcb _ (nthG_mem hi)
   obtain ⟨bs2,hbs2⟩:∃ bs2,bs2=(nthG came i).bs:=⟨_,rfl⟩
   rw[←hbs2]at hdr hy2e hbl2
   rw[hdr,entM]at hrel
   refine ⟨_,inferInstance,fun a S=>?_⟩
   replace S:St w1 M' [] a w _ (entI [y2]::lpI L2 D (lpR bL .ready none)::_) _:=⟨S.slots,S.defers,hwd⟩
   replace S:=St.entFact S [y2]
   replace S:=S.add (Φ:=GlF p2 bs2) ((S.mem.fact (AllBy [y2])).imp fun _ h=>by have:=h y2 (by simp);rw[hy2e]at this;exact this)
   rw[←hbs2]at S
   have hMk:MemFit xk:=⟨hfk⟩
   try dsimp only at S
   refine kR (sq S ?_);clear S;intro a S;refine kN (xtn ?_)
   refine rbegin (D:=D) (b:=bL) S ?_;clear S;intro a w S
   refine kB (kS (kR (sq S ?_)));clear S;intro a S
   refine sr S (mdecode_c bs2 p2 bs2.length c2 _ _ rfl (by omega) (foots_lt S) (S.mem.fact (GlF p2 bs2))) ?_;clear S;rintro _ a w ⟨vm,rfl,y,rfl,hym,hfy,hsty⟩ S
   replace S:=S.add (Φ:=MemF y) hsty
   obtain ⟨e2,he2⟩:∃ e2,e2=(decM bs2).2:=⟨_,rfl⟩
   rw[←he2,←hym]at hrel
   rw[←he2]at S
   have hMy:MemFit y:=⟨hfy⟩
   (iterate 3 (refine sq S ?_;clear S;intro a S));refine sa S ?_;clear S;intro b9 a w S;refine sw S ?_;clear S;intro a w S;refine sq S ?_;clear S;intro a S;refine kN (xtn (kS (kS (kR ?_))));(iterate 3 (refine sq S ?_;clear S;intro a S));(iterate 2 (refine gQ S ?_;clear S;intro a S));refine gC S ?_;clear S;intro a w S;refine gQ S ?_;clear S;intro a S;refine sq S ?_;clear S;intro a S;refine kN (xtn ?_)
   refine kC S (fun h10=>?_) (fun h10=>?_)
   ·refine kS (kR ?_);(iterate 2 (refine sw S ?_;clear S;intro a w S));refine kN (xtn (kT (xtr (xbr ?_))))
    have hno:entM x0.m r=none:=by
     rw[hrel,if_pos]
     simp only[Bool.or_eq_true,Bool.not_eq_true',decide_eq_false_iff_not]at h10
     exact h10
    exact rret (D:=D) (b:=bL) (S.sub [lpI L2 D (lpR bL .busy none),Wk.box b3 26 [.int .i64 300],Wk.box b2 84 [.pointer none],marks [],(lgI b g L).ro,ext Mr] []) fun W hW=>⟨.inl rfl,(),⟨rfl,hno⟩,hW⟩
   ·refine kK (xtn (kR (sq S ?_)));clear S;intro a S;refine sw S ?_;clear S;intro a w S;refine kN (xbn ?_)
    simp only[Bool.or_eq_false_iff,Bool.not_eq_false',decide_eq_true_eq]at h10
    have hrel2:entM x0.m r=entM y.m (r.drop (i+1)):=by
     rw[hrel,if_neg]
     rintro (h | h)
     ·exact h h10.1
     ·rw[h10.2]at h;cases h
    have hoky:memB y.m=true:=by rw[hym];exact decM_ok (by rw[←he2];exact h10.1)
    replace S:=((((((S.front (ext Mr)).front ((lgI b g L).ro)).front (marks [])).front (Wk.box b2 84 [.pointer none])).front (Wk.box b3 26 [.int .i64 0])).front (Wk.box b6 67 (cMem y))).front (lpI L2 D (lpR bL .busy none))
    replace S:=S.add (Φ:=MemF y) (S.wd.facts (MemF y) (by simp))
    exact rnext (D:=D) (b:=bL) (S.sub [lpI L2 D (lpR bL .busy none),Wk.box b6 67 (cMem y),Wk.box b3 26 [.int .i64 0],Wk.box b2 84 [.pointer none],marks [],(lgI b g L).ro,ext Mr] [MemF y,BoxF h2 33 [.slice q2 came.length (L.e - 1)]]) fun W hW=>⟨y,⟨hrel2,hfy,hoky⟩,hW⟩
  ·clear S
   rintro D xk a w ⟨hrel,hfk,hokk⟩ S
   have hlen:(toldL came).length=r.length:=by rw[←hcr];simp[toldL,bsL]
   rw[hlen]at hrel
   simp only[List.drop_length,entM]at hrel
   try dsimp only at S
   replace S:=S.join (Ds:=[])
   replace S:=S.unRo (x:=lgI b g L) hown
   refine xbn (xtn (kS (kR ?_)));(iterate 3 (refine sq S ?_;clear S;intro a S));refine sa S ?_;clear S;intro b48 a w S;(iterate 2 (refine sw S ?_;clear S;intro a w S));refine kN (xtn (kT ?_))
   subst hLm
   replace S:=((S.front (lgI b g L)).front (msX b48 g xk)).toBoth
   refine endM2 S (fun w hw=>.inr ⟨b48,g,L,xk,by rw[hop];exact hrel,rfl,rfl,hLv,hfk,hw.held (msI b48 b g L xk) (by simp),hw.own (msI b48 b g L xk) (by simp) rfl,?_⟩)
   exact (hw.facts (MemF xk) (by simp)).less fun k _ hk=>hk.elim (fun h=>⟨msI b48 b g L xk,by simp,h⟩) (fun h=>⟨ext Mr,by simp,h⟩)
  ·rintro D _ a w ⟨-,hno⟩ S
   replace S:=S.join (Ds:=[])
   replace S:=S.unRo (x:=lgI b g L) hown
   repeat (first | refine xbr ?_ | refine xtr ?_)
   have hs:L.s=(openF s).1:=congrArg LV.s hLv
   subst hLm
   refine endM2 S (fun w hw=>.inl ⟨by rw[hop];exact hno,rfl,L.p,L.c,?_⟩)
   have hd:=(hw.held (lgI b g L) (by simp)).1
   rw[←hs]
   exact ⟨hd,fun k hk=>hown k (.inl hk)⟩
  ·rintro id D _ a w ⟨h,-⟩;cases h
theorem fitsM_lv {V:LV} {n:Nat} {t:Int} {said:List (List UInt8)} (h:LvOk V n t said) (bs:List UInt8):fitsM V bs=true↔bs.length≤40000∧endF t said+secN bs.length≤n:=by
 obtain ⟨s',hs,tail,hL,-⟩:=h.live
 have hlen:=hL.len
 have hll:=laid_len t said 0
 rw[fitsM,Bool.and_eq_true,decide_eq_true_eq,decide_eq_true_eq,h.num,h.fin]
 constructor
 rintro ⟨h1,h2⟩
 rw[secF_nat _ h1]at h2
 exact ⟨h1,by omega⟩
 rintro ⟨h1,h2⟩
 rw[secF_nat _ h1]
 exact ⟨h1,by omega⟩
theorem saveM_off {V:LV} {n:Nat} {t:Int} {said:List (List UInt8)} (h:LvOff V n t said) (now m:PMem) (hm:memB m=true) (hc:coversB now m=true) (hne:encM now≠encM m) (hb:(encM m).length≤40000) (hr:endF t said+secN (encM m).length≤n) :
  (saveM V now m).2.2=0∧(saveM V now m).2.1=m∧LvOff (saveM V now m).1 n t (said++[encM m]):=by
 have hf:=(fitsM_lv h.ok (encM m)).2 ⟨hb,hr⟩
 obtain ⟨a1,a2⟩:=app_off h (encM m) hb hr
 have e:mputR V (encM m)=appV V (encM m):=by rw[mputR,if_pos hf]
 rw[saveM,if_neg (by rw[h.ok.whole];simp),if_neg (by rw[hm];simp),if_neg (by rw[hc];simp),if_neg hne,e]
 exact ⟨a1,by rw[if_pos a1],a2⟩
theorem saveM_back {V:LV} {now m:PMem} (hb:V.broken=false) (hm:memB m=true) (hc:coversB now m=false):saveM V now m=(V,now,301):=by
 rw[saveM,if_neg (by rw[hb];simp),if_neg (by rw[hm];simp),if_pos hc]
abbrev wm1:PMem:=⟨1,3,0,0,[⟨[49,47,102],7⟩],[],[]⟩
abbrev wm2:PMem:=⟨1,2,0,0,[⟨[49,47,102],7⟩],[],[]⟩
theorem wm1_ok:memB wm1=true:=by decide
theorem wm2_ok:memB wm2=true:=by decide
theorem wm1_len:(encM wm1).length=16:=rfl
theorem wm_ne:encM (newM 1)≠encM wm1:=fun h=>by have:=congrArg List.length h;rw[newM_len,wm1_len]at this;cases this
theorem wm_cov1:coversB (newM 1) wm1=true:=by decide
theorem wm_cov2:coversB wm1 wm2=false:=by decide
theorem wm_open:openM [encM (newM 1),encM wm1]=some wm1:=by
 have h1:=decM_enc (newM_ok (u:=1) (by omega))
 have h2:=decM_enc wm1_ok
 rw[openM,h1]
 show (if (0:Int)≠0 then none else entM (newM 1) [encM wm1])=_
 rw[if_neg (fun h=>h rfl),entM,h2]
 show (if (0:Int)≠0∨coversB (newM 1) wm1=false then none else entM wm1 [])=_
 rw[if_neg,entM]
 rintro (h | h)
 exact h rfl
 rw[wm_cov1]at h;cases h
instance opFieldV {P:Program} {ty:TypeId} {l:Cx} {bs:List Wk.Item} {fs:List (World→Prop)} {s f off ft:Nat} {x:Operand} {vs:List Value} {v:Value} [Ev l x (.agg ⟨vs⟩)] [hf:Fld P s f off ft] [ha:AggT P ft false] [hn:Nth vs off v]:OpQ P (.field s x f) ty l bs fs v:=⟨fun ρ w h _=>by
 obtain ⟨fields,F,hu,hF,rfl,rfl,hs⟩:=hf.ex
 simp[xop,execOp,h.ev (x:=x) (v:=.agg ⟨vs⟩),Instr.field,run_underlying hu,Sem.run_bind,hF,asAgg,part,ha.run,hn.eq]⟩
abbrev lmS:LMark:=⟨[49,47,102],7⟩
abbrev wmL (b:Nat) (k:Int):LMem:=⟨1,k,0,0,some ⟨b,0,none⟩,1,[lmS],none,0,[],none,0,[]⟩
theorem wmL_fit (b:Nat) (k:Int):FitM (wmL b k):=⟨by show 1≤1000;omega,Nat.zero_le _,Nat.zero_le _,fun x hx=>by rw[List.mem_singleton.1 hx];decide,nofun⟩
theorem wmL_st {b:Nat} {k:Int} {M:Nat→Prop} {w:World} (h:Stable M w (GlF (some ⟨b,0,none⟩) [lmS])):Stable M w (MemF (wmL b k)):=fun w' hw'=>⟨h w' hw',gl_nil,gl_nil⟩
set_option maxHeartbeats 4000000 in
theorem mwakes_c (w0:World):Ret Tryz.prog 33 [] w0 (fun _=>False) fun v _=>v=.bool true:=by
 have h0:=fmt_lv 40 (by omega)
 obtain ⟨e1,g1⟩:=chk_off h0 (by decide) (encM (newM 1)) (by rw[newM_len];omega) (by rw[newM_len];decide)
 obtain ⟨e2,f2,g2⟩:=saveM_off g1 (newM 1) wm1 wm1_ok wm_cov1 wm_ne (by rw[wm1_len];omega) (by rw[wm1_len,endF_sum,List.map_cons,List.map_nil,newM_len];decide)
 obtain ⟨V1,hV1⟩:∃ V1,V1=(chkV (fmtV 40 (newD ((2*40+2:Nat):Int))) (encM (newM 1))).1:=⟨_,rfl⟩
 rw[←hV1]at g1 e2 f2 g2
 obtain ⟨V2,hV2⟩:∃ V2,V2=(saveM V1 (newM 1) wm1).1:=⟨_,rfl⟩
 rw[←hV2]at g2
 obtain ⟨o1,o2,o3,o4⟩:=(open_able g2.live.able).resolve_right (fun h=>by rw[g2.off]at h;cases h.1)
 have ho:openM (opnV V2.s).said=some wm1:=by
  show openM (openF V2.s).2.2.said=_
  rw[o3];exact wm_open
 have how:=opnV_wf o1
 have hloose:=g2.ok.wf.loose
 refine enter Tryz.func33 rfl rfl (Wd.start w0) (fun a S=>?_)
 simp only[Tryz.ntmps33,qqB,Nat.reduceSub,qqC,qqD,qqF]at S
 refine kS (kR (sq S ?_));clear S;intro a S;refine kN (xtn (kS (kR ?_)))
 refine snew S (dnew_dk 82 (by omega) _) ?_;clear S;rintro _ a w - ⟨b,m,rfl,hh,hnw⟩ hS -
 have S:=hS (dkI b m none 0 (newD 82)) hh hnw
 clear hS
 (iterate 5 (refine sq S ?_;clear S;intro a S));refine kN (xtn (kS (kS (kR ?_))));(iterate 2 (refine sq S ?_;clear S;intro a S));refine kN (xtn ?_);refine c_condF S ?_;refine kK (xtn (kS (kR (sq S ?_))));clear S;intro a S
 refine sit (dkI b m none 0 (newD 82)) S (mformat_ok b m 40 none 0 (newD 82) 1 (by omega) (by simp[mayF,newD]) (by simp[newD]) (format_live 40 (by omega)).1 e1 _ (S.it (dkI b m none 0 (newD 82)))) rfl ?_;clear S;rintro _ a w ⟨h,g,L,rfl,hm2,hv2,hh2,hf2⟩ hS
 have S:=hS (msI h b g L (mem0 1)) hh2 hf2
 clear hS
 replace hv2:L.v=V1:=hv2.trans hV1.symm
 (iterate 5 (refine sq S ?_;clear S;intro a S));refine kN (xtn (kS (kS (kR ?_))));(iterate 3 (refine sq S ?_;clear S;intro a S));(iterate 2 (refine gQ S ?_;clear S;intro a S));refine sq S ?_;clear S;intro a S;refine kN (xtn ?_);refine c_condF S ?_;refine kK (xtn (kS (kR (sq S ?_))));clear S;intro a S;refine sn S ?_;clear S;intro b25 a w S
 replace S:=S.boxRow b25 2 1 rfl (by decide)
 rw[show ([.string ⟨#[49,47,102]⟩,.int .i64 7]:List Value)=encL [lmS] from rfl]at S
 replace S:=S.rowToGl (some ⟨b25,0,none⟩) [lmS] (e:=175) (sz:=2) (n:=1) (c:=1) (fun _ _ _ _=>trivial)
 refine sq S ?_;clear S;intro a S;refine sa S ?_;clear S;intro b4 a w S;refine sw S ?_;clear S;intro a w S;refine kN (xtn (kS (kS (kR ?_))));(iterate 2 (refine sq S ?_;clear S;intro a S))
 refine sitM (msI h b g L (mem0 1)) S (msave_c h b g L (mem0 1) 0 ⟨by rw[hv2];exact g1.ok.wf,mem0_fit 1,newM_ok (u:=1) (by omega)⟩ (by omega) (wmL b25 3) (wmL_fit _ _) (restOf _ (msI h b g L (mem0 1))) w (S.restOk _) (S.it (msI h b g L (mem0 1))) (mem0_st 1 _ _) (wmL_st ((S.mem.fact (GlF (some ⟨b25,0,none⟩) [lmS])).split (msI h b g L (mem0 1))))) rfl ?_;clear S;rintro _ a w ⟨L2,x2,rfl,hh3,hf3,hm3,hv3,hx3,hfx3,hok3,hst3⟩ hS
 have S:=hS (msI h b g L2 x2) [MemF x2] hh3 hf3 (by intro Φ hΦ;obtain rfl:=List.mem_singleton.1 hΦ;exact hst3)
 clear hS
 rw[hv2]at hv3 hx3
 rw[show (saveM L.v (mem0 1).m (wmL b25 3).m).2.2=0 from by rw[hv2];exact e2]at S
 replace hv3:L2.v=V2:=hv3.trans hV2.symm
 refine sq S ?_;clear S;intro a S;refine kN (xtn ?_);refine c_condF S ?_;refine kK (xtn (kS (kR (sq S ?_))));clear S;intro a S;refine sa S ?_;clear S;intro b5 a w S;refine sw S ?_;clear S;intro a w S;refine kN (xtn (kS (kR (sq S ?_))));clear S;intro a S;refine sw S ?_;clear S;intro a w S;refine kN (xtn (kS (kR (sq S ?_))));clear S;intro a S
 have hs2:L2.s=V2.s:=congrArg LV.s hv3
 replace S:=(S.front (msI h b g L2 x2)).ofBoth
 replace S:=(S.front (lgI b g L2)).ofBoth
 refine sitM (dkI b L2.m L2.p L2.c L2.s) S (mopen_ok b L2.m L2.p L2.c L2.s (restOf _ (dkI b L2.m L2.p L2.c L2.s)) (by rw[hs2];omega) (by rw[hs2];exact o1) w (S.restOk _) (S.it (dkI b L2.m L2.p L2.c L2.s))) rfl ?_;clear S;rintro _ a w (⟨hno,-⟩ | ⟨h5,g5,L5,x5,ho5,rfl,hm5,hv5,hfx5,hh5,hf5,hst5⟩) hS
 rw[hs2,ho]at hno;cases hno
 have S:=hS (msI h5 b g5 L5 x5) [MemF x5] hh5 hf5 (by intro Φ hΦ;obtain rfl:=List.mem_singleton.1 hΦ;exact hst5)
 clear hS
 rw[hs2]at hv5 ho5
 have hx5:x5.m=wm1:=by rw[ho]at ho5;exact (Option.some.inj ho5).symm
 have hok5:memB x5.m=true:=by rw[hx5];exact wm1_ok
 (iterate 5 (refine sq S ?_;clear S;intro a S));refine kN (xtn (kS ?_))
 refine c_drawE [(0,true),(1,true),(2,true),(3,true),(4,true),(5,true),(6,true),(7,true),(9,true),(8,false),(10,false),(11,true),(12,true),(13,true),(14,true),(15,false),(16,true),(17,true),(18,true),(19,true),(20,false),(21,true),(22,true),(23,true),(24,true),(25,true)] [Wk.box b5 67 [.int .i64 1,.int .i64 2,.int .i64 0,.int .i64 0,.slice (some ⟨b25,0,none⟩) 1 1,.slice none 0 0,.slice none 0 0],Wk.box b4 67 [.int .i64 1,.int .i64 3,.int .i64 0,.int .i64 0,.slice (some ⟨b25,0,none⟩) 1 1,.slice none 0 0,.slice none 0 0]] S ?_;clear S;intro w S
 (iterate 2 (refine dq S ?_;clear S;intro a S))
 rw[show decide ((0:Int)=0)=true from rfl]at S
 refine dq S ?_;clear S;intro a S;(iterate 2 (refine dqG S ?_;clear S;intro a S));(iterate 2 (refine dq S ?_;clear S;intro a S));(iterate 2 (refine dqG S ?_;clear S;intro a S));refine dl (gT S ?_)
 refine sitM (msI h5 b g5 L5 x5) S (mget_c h5 b g5 L5 x5 hfx5 hok5 (restOf _ (msI h5 b g5 L5 x5)) _ (S.restOk _) (S.it (msI h5 b g5 L5 x5)) ((S.mem.fact (MemF x5)).split (msI h5 b g5 L5 x5))) rfl ?_;clear S;rintro _ a w ⟨hh6,y,rfl,hy,hfy,hsty⟩ hS
 have S:=hS (msI h5 b g5 L5 x5) [MemF y] hh6 (fun k h=>.inl h) (by intro Φ hΦ;obtain rfl:=List.mem_singleton.1 hΦ;exact hsty)
 clear hS
 refine de S ?_;refine dl (gT S ?_)
 refine sr S (msame_c y (wmL b25 3) hfy (wmL_fit _ _) _ ((S.mem.fact (MemF y)).less fun _ _ h=>h.elim) (wmL_st ((S.mem.fact (GlF (some ⟨b25,0,none⟩) [lmS])).less fun _ _ h=>h.elim))) ?_;clear S;rintro _ a w ⟨bb,rfl,hbb⟩ S
 obtain rfl:bb=true:=hbb.2 (by rw[hy,hx5];rfl)
 refine de S ?_;(iterate 2 (refine dq S ?_;clear S;intro a S));(iterate 2 (refine dqG S ?_;clear S;intro a S));refine dl (gT S ?_)
 refine sitM (msI h5 b g5 L5 x5) S (msave_c h5 b g5 L5 x5 (V2.s.loose.length+1000) ⟨by rw[hv5];exact how,hfx5,hok5⟩ (by omega) (wmL b25 2) (wmL_fit _ _) (restOf _ (msI h5 b g5 L5 x5)) _ (S.restOk _) (S.it (msI h5 b g5 L5 x5)) ((S.mem.fact (MemF x5)).split (msI h5 b g5 L5 x5)) (wmL_st ((S.mem.fact (GlF (some ⟨b25,0,none⟩) [lmS])).split (msI h5 b g5 L5 x5)))) rfl ?_;clear S;rintro _ a w ⟨L7,x7,rfl,hh7,hf7,hm7,hv7,hx7,hfx7,hok7,hst7⟩ hS
 have S:=hS (msI h5 b g5 L7 x7) [MemF x7] hh7 hf7 (by intro Φ hΦ;obtain rfl:=List.mem_singleton.1 hΦ;exact hst7)
 clear hS
 have hsv:saveM L5.v x5.m (wmL b25 2).m=(L5.v,wm1,301):=by rw[hx5];exact saveM_back (by rw[hv5];rfl) wm2_ok wm_cov2
 rw[hsv]at hv7 hx7 S
 refine de S ?_;refine dqG S ?_;clear S;intro a S
 rw[show decide ((301:Int)=301)=true from rfl]at S
 (iterate 2 (refine dq S ?_;clear S;intro a S));refine dqG S ?_;clear S;intro a S;refine dl (gT S ?_)
 refine sitM (msI h5 b g5 L7 x7) S (mget_c h5 b g5 L7 x7 hfx7 hok7 (restOf _ (msI h5 b g5 L7 x7)) _ (S.restOk _) (S.it (msI h5 b g5 L7 x7)) ((S.mem.fact (MemF x7)).split (msI h5 b g5 L7 x7))) rfl ?_;clear S;rintro _ a w ⟨hh8,y7,rfl,hy7,hfy7,hsty7⟩ hS
 have S:=hS (msI h5 b g5 L7 x7) [MemF y7] hh8 (fun k h=>.inl h) (by intro Φ hΦ;obtain rfl:=List.mem_singleton.1 hΦ;exact hsty7)
 clear hS
 have hl7:y7.seeds.length=1:=by
  have:y7.m.seeds.length=1:=by rw[hy7,hx7];rfl
  exact this
 refine de S ?_;(iterate 3 (refine dqG S ?_;clear S;intro a S))
 rw[show decide ((y7.seeds.length:Int)=1)=true from by rw[hl7];rfl]at S
 (iterate 2 (refine dq S ?_;clear S;intro a S));refine dn (xtn (kT ?_))
 exact end1 S (fun _=>rfl)
instance encMem:Enc LMem:=⟨7,fun m=>cMem m,fun _=>rfl,fun x u hu=>by simp only[List.mem_cons,List.not_mem_nil,or_false]at hu;rcases hu with rfl | rfl | rfl | rfl | rfl | rfl | rfl <;> rfl⟩
instance layMem:Lay LMem:={ encMem with
 dflt:=mem0 0
 inn:=fun w m=>Lay.inn w (⟨m.sp,m.sc,m.seeds⟩:Sl LMark)∧Lay.inn w (⟨m.vp,m.vc,m.vers⟩:Sl LMark)∧Lay.inn w (⟨m.ep,m.ec,m.seen⟩:Sl LSeen)
 mono:=fun w w' _x h hx=>⟨Lay.mono w w' _ h hx.1,Lay.mono w w' _ h hx.2.1,Lay.mono w w' _ h hx.2.2⟩ }
theorem mem_st {w:World} {m:LMem} (h:Lay.inn w m):Stable (fun _=>False) w (MemF m):=fun w' hw'=>⟨h.1.2.2.stable w' hw',h.2.1.2.2.stable w' hw',h.2.2.2.2.stable w' hw'⟩
theorem mem_big {w:World} {m:LMem} (h:Lay.inn w m):BigM m:=by
 have h1:m.seeds.length≤m.sc∧m.sc≤maxLen:=⟨h.1.1,h.1.2.1⟩
 have h2:m.vers.length≤m.vc∧m.vc≤maxLen:=⟨h.2.1.1,h.2.1.2.1⟩
 have h3:m.seen.length≤m.ec∧m.ec≤maxLen:=⟨h.2.2.1,h.2.2.2.1⟩
 unfold maxLen at *
 exact ⟨by omega,by omega,by omega⟩
theorem decM_bad {b:List UInt8} (h:(decM b).2≠0):(decM b).1=zeroM:=by
 unfold decM at h⊢
 split
 rfl
 split
 rfl
 rename_i h1 h2
 rw[if_neg h1,if_neg h2]at h
 exact absurd rfl h
theorem u64_nn (x:Int):0≤IntKind.u64.wrap x:=by unfold IntKind.wrap;simp only[IntKind.bits,IntKind.signed,Bool.false_and];simp;omega
theorem u64_of {n:Int} (h0:0≤n) (h1:n≤9223372036854775807):IntKind.u64.wrap n=n:=by unfold IntKind.wrap;simp only[IntKind.bits,IntKind.signed,Bool.false_and];simp;omega
theorem cut_w (x:Int) {n:Nat} (h0:0 < n) (h1:n≤1000000):∃ k:Nat,k < n∧IntKind.i64.wrap ((IntKind.u64.wrap x).tmod (n:Int))=(k:Int):=by
 have hx:=u64_nn x
 have h2:=Int.emod_nonneg (IntKind.u64.wrap x) (b:=(n:Int)) (by omega)
 have h3:=Int.emod_lt_of_pos (IntKind.u64.wrap x) (b:=(n:Int)) (by omega)
 refine ⟨(IntKind.u64.wrap x % (n:Int)).toNat,by omega,?_⟩
 rw[Int.tmod_eq_emod_of_nonneg hx,w64 _ (by omega) (by omega)];omega
set_option maxHeartbeats 4000000 in
theorem memback_c (M:LMem) (bb:List UInt8) (pb:Option Addr) (cb:Nat) (cut:Int) (w0:World) (hm:Lay.inn w0 M) (hcb:bb.length≤cb) (hcm:cb≤maxLen) (fb:Stable (fun _=>False) w0 (GlF pb bb)) :
  Ret Tryz.prog 9 [vMem M,.slice pb bb.length cb,.int .i64 cut] w0 (fun _=>False) fun v _=>v=.bool true:=by
 refine enter Tryz.func9 rfl rfl (Wd.begin (fs:=[MemF M,GlF pb bb]) (by simp;exact ⟨mem_st hm,fb⟩)) (fun a S=>?_)
 simp only[Tryz.ntmps9,qqA,qqB,Nat.reduceAdd,Nat.reduceSub,qqC,qqD,qqE,qqF]at S
 refine kS (kR ?_);refine sa S ?_;clear S;intro b3 a w S;refine sq S ?_;clear S;intro a S;refine kN (xtn (kS (kS (kR ?_))));refine sr S (mwakes_c _) ?_;clear S;rintro _ a w rfl S;refine sq S ?_;clear S;intro a S;refine kN (xtn ?_);refine c_condF S ?_;refine kK (xtn (kS (kR (sq S ?_))));clear S;intro a S
 refine sr S (short_c M (mem_big hm) _ w (foots_lt S) (S.mem.fact (MemF M))) ?_;clear S;rintro _ a w ⟨x,rfl,hx,hfx,hstx⟩ S
 replace S:=S.add (Φ:=MemF x) hstx
 refine sw S ?_;clear S;intro a w S;refine kN (xtn (kS (kR (sq S ?_))));clear S;intro a S
 refine srn S (mencode_q x hfx _ ((S.mem.fact (MemF x)).less fun _ _ h=>h.elim)) ?_;clear S;rintro _ a w ⟨p4,c4,rfl,hown,hnew⟩ hS -
 have S:=hS hown hnew
 clear hS
 have hc4:=own_le (S.row p4 (encMQ x.m).length)
 replace S:=S.rowToGl p4 (encMQ x.m) (e:=5) (sz:=1) (n:=(encMQ x.m).length) (c:=c4) (fun _ _ _ _=>trivial)
 (iterate 5 (refine sq S ?_;clear S;intro a S));refine kN (xtn ?_)
 refine c_mrge0 S (fun  uu=>[(6,uu 6),(2,uu 9),(0,uu 10),(0,uu 11),(0,uu 12),(11,uu 24),(0,uu 25),(0,uu 26),(0,uu 27),(0,uu 28),(0,uu 29),(0,uu 30),(0,uu 31),(0,uu 32),(0,uu 33),(0,uu 34),(0,uu 35),(0,uu 36),(0,uu 37),(0,uu 38),(0,uu 39),(0,uu 40),(0,uu 41),(0,uu 42),(0,uu 43),(0,uu 44),(0,uu 45),(0,uu 46),(0,uu 47),(0,uu 48),(0,uu 49),(0,uu 50),(0,uu 51),(0,uu 52),(0,uu 53)]) ([]) ([GlF pb bb]) (True) ?_ ?_
 refine kS (kR ?_);(iterate 2 (refine sq S ?_;clear S;intro a S));refine kN (xtn ?_)
 refine kC S (fun h5=>?_) (fun h5=>?_)
 refine kS (kR (sq S ?_));clear S;intro a S
 have hok:memB x.m=true:=by
  cases hok:memB x.m with
  | true=>rfl
  | false=>rw[mchkF,hok]at h5;exact absurd h5 (by decide)
 have hsm:=encM_small hok
 have heq:encMQ x.m=encM x.m:=by rw[encMQ,if_pos hok]
 rw[heq]at S hc4
 obtain ⟨d1,d2⟩:(decM (encM x.m)).1=x.m∧(decM (encM x.m)).2=0:=by rw[decM_enc hok];exact ⟨rfl,rfl⟩
 refine sr S (mdecode_c (encM x.m) p4 (encM x.m).length c4 _ w rfl (by omega) (foots_lt S) (S.mem.fact (GlF p4 (encM x.m)))) ?_;clear S;rintro _ a w ⟨vm,rfl,y,rfl,hy,hfy,hsty⟩ S
 replace S:=S.add (Φ:=MemF y) hsty
 rw[d1]at hy
 rw[d2]at S
 (iterate 3 (refine sq S ?_;clear S;intro a S));refine sa S ?_;clear S;intro b9 a w S;refine sw S ?_;clear S;intro a w S;refine sq S ?_;clear S;intro a S;refine kN (xtn (kS (kS (kR ?_))));(iterate 2 (refine sq S ?_;clear S;intro a S))
 rw[show (!decide ((0:Int)=0))=false from rfl]at S
 refine sq S ?_;clear S;intro a S;refine gT' S ?_;refine sq S ?_;clear S;intro a S;refine gT' S ?_;refine sq S ?_;clear S;intro a S;refine gT' S ?_
 refine sr S (msame_c x y hfx hfy _ ((S.mem.fact (MemF x)).less fun _ _ h=>h.elim) ((S.mem.fact (MemF y)).less fun _ _ h=>h.elim)) ?_;clear S;rintro _ a w ⟨b7,rfl,hb7⟩ S
 obtain rfl:b7=true:=hb7.2 (by rw[hy])
 refine gT' S ?_;(iterate 2 (refine sq S ?_;clear S;intro a S));refine kN (xtn ?_);refine c_condF S ?_;refine kK (xtn (kS (kR ?_)));(iterate 6 (refine sq S ?_;clear S;intro a S))
 rw[u64_of (n:=((encM x.m).length:Int)) (by omega) (by omega)]at S
 have hlen0:0 < (encM x.m).length:=by rw[encM];simp
 have hNZ:NZ (((encM x.m).length:Nat):Int):=⟨by omega⟩
 obtain ⟨k9,hk9,ek9⟩:=cut_w cut hlen0 hsm
 (iterate 2 (refine sq S ?_;clear S;intro a S))
 rw[ek9]at S
 have hL9:LeC k9 c4:=⟨by omega⟩
 refine sq S ?_;clear S;intro a S
 have hcut:=decM_cut hok hk9
 refine sr S (mdecode_c ((encM x.m).take k9) p4 k9 c4 _ w (by rw[List.length_take];omega) (by omega) (foots_lt S) ((S.mem.fact (GlF p4 (encM x.m))).imp fun _ h=>h.take k9)) ?_;clear S;rintro _ a w ⟨vm,rfl,z,rfl,hz,hfz,hstz⟩ S
 rw[hcut]at S
 (iterate 3 (refine sq S ?_;clear S;intro a S));refine sa S ?_;clear S;intro b11 a w S;refine sw S ?_;clear S;intro a w S;refine sq S ?_;clear S;intro a S;refine kN (xtn (kS (kR ?_)));(iterate 2 (refine sq S ?_;clear S;intro a S));refine kN (xtn ?_);refine c_condF S ?_;refine kK (xtn ?_)
 rw[←heq]at S
 exact ⟨S.uu,trivial,S.sub _ _⟩
 refine kK (xtn ?_)
 exact ⟨S.uu,trivial,S.sub _ _⟩
 clear S;rintro  uu a w - S;refine kS (kR ?_);(iterate 4 (refine sq S ?_;clear S;intro a S))
 rw[show min (bb.length:Int) 6000=((min bb.length 6000:Nat):Int) from by omega]at S
 obtain ⟨h12,hh12⟩:∃ h12,h12=min bb.length 6000:=⟨_,rfl⟩
 rw[←hh12]at S
 have hL12:LeC h12 cb:=⟨by omega⟩
 (iterate 2 (refine sq S ?_;clear S;intro a S));refine kN (xtn (kS (kR (sq S ?_))));clear S;intro a S
 obtain ⟨B,hB⟩:∃ B,B=bb.take h12:=⟨_,rfl⟩
 have hBl:B.length=h12:=by rw[hB,List.length_take];omega
 replace S:=S.add (Φ:=GlF pb B) ((S.mem.fact (GlF pb bb)).imp fun _ h=>by rw[hB];exact h.take h12)
 refine sr S (mdecode_c B pb h12 cb _ w hBl (by omega) (foots_lt S) (S.mem.fact (GlF pb B))) ?_;clear S;rintro _ a w ⟨vm,rfl,y,rfl,hy,hfy,hsty⟩ S
 replace S:=S.add (Φ:=MemF y) hsty
 (iterate 3 (refine sq S ?_;clear S;intro a S));refine sa S ?_;clear S;intro b13 a w S;refine sw S ?_;clear S;intro a w S;refine sq S ?_;clear S;intro a S;refine kN (xtn (kS (kS (kR ?_))));(iterate 2 (refine sq S ?_;clear S;intro a S));refine kN (xtn ?_)
 refine kC S (fun h14=>?_) (fun h14=>?_)
 refine kS (kR ?_);(iterate 2 (refine sq S ?_;clear S;intro a S))
 have he:(decM B).2≠0:=by simpa using h14
 refine sr S (msame_c y (mem0 0) hfy (mem0_fit 0) _ ((S.mem.fact (MemF y)).less fun _ _ h=>h.elim) (mem0_st 0 _ _)) ?_;clear S;rintro _ a w ⟨b15,rfl,hb15⟩ S
 obtain rfl:b15=true:=hb15.2 (by rw[hy,decM_bad he];rfl)
 refine sq S ?_;clear S;intro a S;refine kN (xtn (kT (xtr ?_)))
 exact end1 S (fun _=>rfl)
 refine kK (xtn (kS (kR (sq S ?_))));clear S;intro a S
 have he:(decM B).2=0:=by simpa using h14
 obtain ⟨i1,i2⟩:=decM_inv he
 rw[←hy]at i1 i2
 refine srn S (mencode_q y hfy _ ((S.mem.fact (MemF y)).less fun _ _ h=>h.elim)) ?_;clear S;rintro _ a w ⟨p16,c16,rfl,hown,hnew⟩ hS -
 have S:=hS hown hnew
 clear hS
 rw[show encMQ y.m=B from by rw[encMQ,if_pos i1,i2],show mchkF y.m=0 from by rw[mchkF,if_pos i1]]at S
 replace S:=S.rowToGl p16 B (e:=5) (sz:=1) (n:=B.length) (c:=c16) (fun _ _ _ _=>trivial)
 (iterate 5 (refine sq S ?_;clear S;intro a S));refine kN (xtn (kS (kR ?_)));(iterate 2 (refine sq S ?_;clear S;intro a S))
 rw[show decide ((0:Int)=0)=true from rfl]at S
 refine sq S ?_;clear S;intro a S;refine gT S ?_;refine sq S ?_;clear S;intro a S;refine gT S ?_;refine sq S ?_;clear S;intro a S;refine gT S ?_
 have hr17:=beq_c p16 pb c16 cb B B (by omega) w (S.gl0 p16) (S.gl0 pb)
 rw[show (Value.slice pb B.length cb)=Value.slice pb h12 cb from by rw[hBl]]at hr17
 refine sr S hr17 ?_;clear S;rintro _ a w rfl S;(iterate 2 (refine sq S ?_;clear S;intro a S));refine kN (xtn (kT ?_))
 refine end1 S (fun _=>?_)
 rw[decide_eq_true rfl]
open Go.ChangeShapes Go.WideShapes Go.ChangeAt Go.RowKit
instance troStrM:Tro Tryz.prog 9 (List UInt8):=troS Tryz.underlying9 (by kernel_rfl)
instance troMarkM:Tro Tryz.prog 177 LMark:=⟨fun enc w base spare held fuel cs x h=>by
 obtain ⟨hlen,hf⟩:=trod_flds Tryz.underlying177 h
 rw[show Tryz.prog.cellsOf 177=2 from by kernel_rfl]at hlen
 obtain ⟨n0,y0,g0⟩:=hf 0 9 0 rfl
 obtain ⟨n1,y1,g1⟩:=hf 1 3 1 rfl
 obtain ⟨u0,e0,i0⟩:=trod_fld (α:=List UInt8) g0 rfl
 obtain ⟨u1,e1,i1⟩:=trod_fld (α:=Int) g1 rfl
 refine ⟨⟨u0,u1⟩,?_,trivial⟩
 match cs,hlen with
 | [c0,c1],_=>
  have q0:[c0]=[str u0]:=e0
  have q1:[c1]=[.int .i64 u1]:=e1
  simp only[List.cons.injEq,and_true]at q0 q1
  rw[q0,q1];rfl,by kernel_rfl⟩
instance troSeedM:Tro Tryz.prog 175 LMark:=⟨fun enc w base spare held fuel cs x h=>by
 obtain ⟨hlen,hf⟩:=trod_flds Tryz.underlying175 h
 rw[show Tryz.prog.cellsOf 175=2 from by kernel_rfl]at hlen
 obtain ⟨n0,y0,g0⟩:=hf 0 9 0 rfl
 obtain ⟨n1,y1,g1⟩:=hf 1 3 1 rfl
 obtain ⟨u0,e0,i0⟩:=trod_fld (α:=List UInt8) g0 rfl
 obtain ⟨u1,e1,i1⟩:=trod_fld (α:=Int) g1 rfl
 refine ⟨⟨u0,u1⟩,?_,trivial⟩
 match cs,hlen with
 | [c0,c1],_=>
  have q0:[c0]=[str u0]:=e0
  have q1:[c1]=[.int .i64 u1]:=e1
  simp only[List.cons.injEq,and_true]at q0 q1
  rw[q0,q1];rfl,by kernel_rfl⟩
instance troSeenM:Tro Tryz.prog 179 LSeen:=⟨fun enc w base spare held fuel cs x h=>by
 obtain ⟨hlen,hf⟩:=trod_flds Tryz.underlying179 h
 rw[show Tryz.prog.cellsOf 179=7 from by kernel_rfl]at hlen
 obtain ⟨n0,y0,g0⟩:=hf 0 3 0 rfl
 obtain ⟨n1,y1,g1⟩:=hf 1 3 1 rfl
 obtain ⟨n2,y2,g2⟩:=hf 2 43 2 rfl
 obtain ⟨u,e0,i0⟩:=trod_fld (α:=Int) g0 rfl
 obtain ⟨k,e1,i1⟩:=trod_fld (α:=Int) g1 rfl
 obtain ⟨t,e2,i2⟩:=trod_fld (α:=LTerm) g2 rfl
 refine ⟨⟨u,k,t⟩,?_,i2⟩
 match cs,hlen with
 | [c0,c1,d1,d2,d3,d4,d5],_=>
  have q0:[c0]=[.int .i64 u]:=e0
  have q1:[c1]=[.int .i64 k]:=e1
  have q2:[d1,d2,d3,d4,d5]=t.cells:=e2
  simp only[List.cons.injEq,and_true]at q0 q1
  show [c0]++[c1]++[d1,d2,d3,d4,d5]=[.int .i64 u]++[.int .i64 k]++t.cells
  rw[q0,q1,q2],by kernel_rfl⟩
instance troMarksM:Tro Tryz.prog 64 (Sl LMark):=troSl Tryz.underlying64 (by kernel_rfl)
instance troSeedsM:Tro Tryz.prog 63 (Sl LMark):=troSl Tryz.underlying63 (by kernel_rfl)
instance troSeensM:Tro Tryz.prog 65 (Sl LSeen):=troSl Tryz.underlying65 (by kernel_rfl)
instance troMem:Tro Tryz.prog 67 LMem:=⟨fun enc w base spare held fuel cs x h=>by
 obtain ⟨hlen,hf⟩:=trod_flds Tryz.underlying67 h
 rw[show Tryz.prog.cellsOf 67=7 from by kernel_rfl]at hlen
 obtain ⟨n0,y0,g0⟩:=hf 0 3 0 rfl
 obtain ⟨n1,y1,g1⟩:=hf 1 3 1 rfl
 obtain ⟨n2,y2,g2⟩:=hf 2 3 2 rfl
 obtain ⟨n3,y3,g3⟩:=hf 3 3 3 rfl
 obtain ⟨n4,y4,g4⟩:=hf 4 63 4 rfl
 obtain ⟨n5,y5,g5⟩:=hf 5 64 5 rfl
 obtain ⟨n6,y6,g6⟩:=hf 6 65 6 rfl
 obtain ⟨u0,e0,i0⟩:=trod_fld (α:=Int) g0 rfl
 obtain ⟨u1,e1,i1⟩:=trod_fld (α:=Int) g1 rfl
 obtain ⟨u2,e2,i2⟩:=trod_fld (α:=Int) g2 rfl
 obtain ⟨u3,e3,i3⟩:=trod_fld (α:=Int) g3 rfl
 obtain ⟨u4,e4,i4⟩:=trod_fld (α:=Sl LMark) g4 rfl
 obtain ⟨u5,e5,i5⟩:=trod_fld (α:=Sl LMark) g5 rfl
 obtain ⟨u6,e6,i6⟩:=trod_fld (α:=Sl LSeen) g6 rfl
 refine ⟨⟨u0,u1,u2,u3,u4.p,u4.cap,u4.xs,u5.p,u5.cap,u5.xs,u6.p,u6.cap,u6.xs⟩,?_,i4,i5,i6⟩
 match cs,hlen with
 | [c0,c1,c2,c3,c4,c5,c6],_=>
  have q0:[c0]=[.int .i64 u0]:=e0
  have q1:[c1]=[.int .i64 u1]:=e1
  have q2:[c2]=[.int .i64 u2]:=e2
  have q3:[c3]=[.int .i64 u3]:=e3
  have q4:[c4]=[u4.v]:=e4
  have q5:[c5]=[u5.v]:=e5
  have q6:[c6]=[u6.v]:=e6
  simp only[List.cons.injEq,and_true]at q0 q1 q2 q3 q4 q5 q6
  rw[q0,q1,q2,q3,q4,q5,q6];rfl,by kernel_rfl⟩
end Go.Proofs.YtdakncgafdnjfaaGreat