/- 6: a part of this claim's texts, joined: WalC WalD WalE WalF WalG WalH WalI WalJ WalK PlainWal WalLaw WalLawB WalLawC WalLawD WalM WalN WalO WalP W10. -/
import Derived.Test.YtdakncgafdnjfaaGreatPk5
namespace Go.Proofs.YtdakncgafdnjfaaGreat
open Go Go.Wk
set_option synthInstance.maxSize 100000
set_option synthInstance.maxHeartbeats 400000
set_option maxRecDepth 100000
def onlyV (g0 g1:Nat):Value:=.func (.func 173) #[] ⟨[.pointer (some ⟨g0,0,none⟩),.pointer (some ⟨g1,0,none⟩)]⟩
theorem only_f (x:Blk) (n:Nat) (w0:World):Ret Tryz.prog 75 [vBlk x,.int .i64 (n:Int)] w0 (fun _=>False) fun v w'=>∃ g0 g1,v=onlyV g0 g1∧(w0.heap.size≤g0∧w0.heap.size≤g1)∧BoxF g0 3 [.int .i64 (n:Int)] w'∧BoxF g1 129 (encL x.l) w':=by
 refine enter Tryz.func75 rfl rfl (Wd.start w0) (fun a S=>?_)
 simp only[Tryz.ntmps75,qqA,qqB,Nat.reduceAdd,Nat.reduceSub,qqC,qqD,qqE,qqF]at S
 refine kS (kR ?_);refine sa S ?_;clear S;intro b2 a w S;refine sa S ?_;clear S;intro b3 a w S;refine sq S ?_;clear S;intro a S;refine kN (xtn (kS (kR ?_)));(iterate 2 (refine sq S ?_;clear S;intro a S));refine kN (xtn (kT ?_))
 have h2:=(S.boxNew b2).elim (fun h=>h.elim) id
 have h3:=(S.boxNew b3).elim (fun h=>h.elim) id
 have e2:=S.boxF b2
 have e3:=S.boxF b3
 exact end1 S (fun _=>⟨b3,b2,rfl,⟨h3,h2⟩,e3,e2⟩)
theorem only_it (g0 g1:Nat) (x:Blk) (n:Nat) (hn:n≤1000000) (w0:World) (M:Nat→Prop) (hM:∀ k,M k→k < w0.heap.size) (f0:Stable M w0 (BoxF g0 3 [.int .i64 (n:Int)])) (f1:Stable M w0 (BoxF g1 129 (encL x.l))) :
  IterRet Tryz.prog 173 [.pointer (some ⟨g0,0,none⟩),.pointer (some ⟨g1,0,none⟩)] w0 M (fun(x:Blk) vs _ _=>vs=[vBlk x]) (List.replicate n x):=by
 intro L J Jx hy hJ
 have hF:∀ Φ∈[BoxF g0 3 [.int .i64 (n:Int)],BoxF g1 129 (encL x.l)],Stable M w0 Φ:=by simp;exact ⟨f0,f1⟩
 refine (callsIn_wide (n:=0)).2 ?_
 refine enter Tryz.func173 rfl rfl (Wd.beginM (M:=M) (fs:=[BoxF g0 3 [.int .i64 (n:Int)],BoxF g1 129 (encL x.l)]) hM hF) (fun a S=>?_)
 simp only[Tryz.ntmps173,qqA,qqB,Nat.reduceAdd,Nat.reduceSub,qqC,qqD,qqE,qqF]at S
 refine kS (kR ?_);(iterate 2 (refine sq S ?_;clear S;intro a S));refine kN (xtn (kB ?_))
 refine c_loop (ι:=Nat) (fun k a w=>k≤n∧∃ N w1,J k w1∧∃ uu:Nat→Value,St w1 (fun _=>False) [] a w ((.func (.yield L) #[] #[])::(.pointer (some ⟨g0,0,none⟩))::(.pointer (some ⟨g1,0,none⟩))::uu 3::(.int .i64 (n:Nat))::(.int .i64 (k:Nat))::uu 6::uu 7::uu 8::uu 9::uu 10::uu 11::[]) [ext N] [BoxF g0 3 [.int .i64 (n:Int)],BoxF g1 129 (encL x.l)]) (fun k=>n - k) 0 ?_ ?_
 exact ⟨Nat.zero_le _,M,w0,hJ,S.uu,S⟩
 clear S
 rintro k a w ⟨hk,N,w1,hJk,uu,S⟩
 refine kS (kR (sq S ?_));clear S;intro a S;refine kN (xtn (kS ?_))
 refine kC S (fun h1=>?_) (fun h1=>?_)
 refine kK (xtn (kS (kB (kS ?_))))
 have hkn:k < n:=by have:=of_decide_eq_true h1;omega
 have hx:(List.replicate n x)[k]? = some x:=by rw[List.getElem?_replicate,if_pos hkn]
 refine kR ?_;(iterate 2 (refine sq S ?_;clear S;intro a S))
 refine sy S (M:=M) (wI:=w0) (fs0:=[BoxF g0 3 [.int .i64 (n:Int)],BoxF g1 129 (encL x.l)]) hF (hy _ _ _ w1 _ hx hJk S.wd.agree rfl) ?_;clear S;intro ok N' a w2 hT hX S
 refine sq S ?_;clear S;intro a S;refine kN (xtn ?_)
 refine kC S (fun h2=>?_) (fun h2=>?_)
 refine kT (xbr (xtr (xtr (xbr ?_))))
 exact endI S ⟨w2,S.wd.agree,.inr (hX (by simpa using h2))⟩
 refine kK (xbn (xtn (kR ?_)));(iterate 2 (refine sq S ?_;clear S;intro a S));refine kN (xtn ?_)
 rw[w64 ((k:Int)+1) (by omega) (by omega)]at S
 exact ⟨k+1,⟨by omega,N',w2,hT (by simpa using h2),S.uu,S⟩,by omega⟩
 refine kE (xte (xte (xbe ?_)))
 have hkn:k=n:=by have:=of_decide_eq_false h1;omega
 refine endI S ⟨w1,S.wd.agree,.inl ?_⟩
 rw[List.length_replicate,←hkn];exact hJk
def layW (s:DS) (k:Int):List Blk→DS × Int
 | []=>(s,0)
 | x::xs=>if askE s k true=0 then layW (wrD s k x) (k+1) xs else (wrD s k x,askE s k true)
def layF (s:DS) (k:Int) (xs:List Blk):DS × Int:=if (layW s k xs).2=0 then (syD (layW s k xs).1,askE (layW s k xs).1 0 true) else layW s k xs
theorem wrD_loose (s:DS) (k:Int) (x:Blk):(wrD s k x).loose.length≤s.loose.length+1:=by
 have h:(askD s k true).loose=s.loose:=by
  unfold askD;split
  rfl
  split
  rfl
  split
  rfl
  split <;> (try split) <;> rfl
 unfold wrD askedD
 split
 simp[opD,writeD,h]
 rw[h];omega
theorem lay_c (G:Nat) [EntF Tryz.prog G] (lb:List Value) (xs:List Blk) (b m:Nat) (p:Option Addr) (c:Nat) (s:DS) (at_:Nat) (fs:List (World→Prop)) (w0:World) (hl:s.loose.length+xs.length≤1000000) (ha:at_+xs.length≤1000000) (hd:(dkI b m p c s).holds w0) (hf:∀ Φ∈fs,Stable (dkI b m p c s).foot w0 Φ)
  (hit:∀ (M:Nat→Prop) (w1:World),(∀ k,M k→k < w1.heap.size)→(∀ Φ∈fs,Stable M w1 Φ)→IterRet Tryz.prog G lb w1 M (fun(x:Blk) vs _ _=>vs=[vBlk x]) xs) :
  Ret Tryz.prog 74 [.pointer (some ⟨b,0,none⟩),.int .i64 (at_:Int),.func (.func G) #[] ⟨lb⟩] w0 (dkI b m p c s).foot fun v w'=>v=.int .i64 (layF s at_ xs).2∧∃ p' c',(dkI b m p' c' (layF s at_ xs).1).holds w'∧∀ i,(dkI b m p' c' (layF s at_ xs).1).foot i→(dkI b m p c s).foot i∨w0.heap.size≤i:=by
 have hxl:∀ i x,xs[i]? = some x→i < xs.length:=fun i x h=>(List.getElem?_eq_some_iff.1 h).1
 refine enterM Tryz.func74 rfl rfl (Wd.itLent (x:=dkI b m p c s) (fs:=fs) hd hf) (fun a S=>?_)
 simp only[Tryz.ntmps74,qqA,qqB,Nat.reduceAdd,Nat.reduceSub,qqC,qqD,qqE,qqF]at S
 refine kS (kR ?_);refine sa S ?_;clear S;intro b3 a w S;refine sa S ?_;clear S;intro b4 a w S;refine sa S ?_;clear S;intro b6 a w S;refine kN (xtn (kS (kS (kR (sq S ?_)))));clear S;intro a S;refine kN (xtn (kB ?_))
 replace S:=S.boxToF b3
 refine c_range (κ:=DS × Option Addr × Nat) (κx:=DS × Option Addr × Nat × Int) (Ds:=[]) xs
  (fun i k=>[Wk.box b6 26 [.int .i64 0],Wk.box b4 3 [.int .i64 ((at_+i:Nat):Int)],marks [],dkI b m k.2.1 k.2.2 k.1])
  (fun _ _=>BoxF b3 34 [.pointer (some ⟨b,0,none⟩)]::fs)
  (fun i k=>layW s at_ xs=layW k.1 ((at_+i:Nat):Int) (xs.drop i)∧k.1.loose.length≤s.loose.length+i)
  (fun k=>[Wk.box b6 26 [.int .i64 k.2.2.2],marks [],dkI b m k.2.1 k.2.2.1 k.1])
  (fun _=>BoxF b3 34 [.pointer (some ⟨b,0,none⟩)]::fs)
  (fun cd k=>cd=.ret∧k.2.2.2≠0∧layW s at_ xs=(k.1,k.2.2.2)) (s,p,c) S
  (fun M w1 hM hF _=>hit M w1 hM (fun Φ h=>hF Φ (by simp[h]))) ⟨⟨by simp,by simp⟩,rfl,rfl⟩ ?_ ?_ ?_ ?_
 ·clear S
  rintro L D bL M' w1 i x vs ⟨s1,p1,c1⟩ W0 w hx ⟨hlw,hll⟩ hW0 hgr rfl
  have hi:=hxl i x hx
  simp only[]at hlw hll
  have hdr:xs.drop i=x::xs.drop (i+1):=by rw[List.drop_eq_getElem_cons hi,(List.getElem?_eq_some_iff.1 hx).2]
  rw[hdr,layW]at hlw
  refine ⟨_,inferInstance,fun a S=>?_⟩
  simp only[]at S
  refine kR (sa S ?_);clear S;intro b7 a w S;refine sw S ?_;clear S;intro a w S;refine kN (xtn ?_)
  refine rbegin (D:=D) (b:=bL) S ?_;clear S;intro a w S
  refine kB (kS (kS (kR ?_)));(iterate 3 (refine sq S ?_;clear S;intro a S))
  refine sit (dkI b m p1 c1 s1) S (dwrite_c b m p1 c1 s1 ((at_+i:Nat):Int) x _ (by omega) (S.it (dkI b m p1 c1 s1))) rfl ?_;clear S;rintro _ a w ⟨rfl,p2,c2,hh,hn⟩ hS
  have S:=hS (dkI b m p2 c2 (wrD s1 ((at_+i:Nat):Int) x)) hh hn
  clear hS
  refine sq S ?_;clear S;intro a S;refine kN (xtn (kS (kR ?_)));(iterate 2 (refine sq S ?_;clear S;intro a S));refine kN (xtn ?_)
  refine kC S (fun h4=>?_) (fun h4=>?_)
  ·refine kS (kR (sq S ?_));clear S;intro a S;refine sw S ?_;clear S;intro a w S;refine kN (xtn (kT (xtr (xbr ?_))))
   have he:askE s1 ((at_+i:Nat):Int) true≠0:=by simpa using h4
   rw[if_neg he]at hlw
   replace S:=S.sub [lpI L D (lpR bL .busy none),Wk.box b6 26 [.int .i64 (askE s1 ((at_+i:Nat):Int) true)],marks [],dkI b m p2 c2 (wrD s1 ((at_+i:Nat):Int) x)] (BoxF b3 34 [.pointer (some ⟨b,0,none⟩)]::fs)
   refine rret (D:=D) (b:=bL) S fun W hW=>⟨.inl rfl,(wrD s1 ((at_+i:Nat):Int) x,p2,c2,askE s1 ((at_+i:Nat):Int) true),⟨rfl,he,hlw⟩,hW⟩
  ·refine kK (xtn (kR ?_));(iterate 2 (refine sq S ?_;clear S;intro a S))
   rw[show IntKind.i64.wrap (((at_+i:Nat):Int)+1)=((at_+(i+1):Nat):Int) from by rw[w64 _ (by omega) (by omega)];rfl]at S
   refine sw S ?_;clear S;intro a w S;refine kN (xbn ?_)
   have he:askE s1 ((at_+i:Nat):Int) true=0:=by simpa using h4
   rw[if_pos he]at hlw
   replace S:=S.sub [lpI L D (lpR bL .busy none),Wk.box b6 26 [.int .i64 0],Wk.box b4 3 [.int .i64 ((at_+(i+1):Nat):Int)],marks [],dkI b m p2 c2 (wrD s1 ((at_+i:Nat):Int) x)] (BoxF b3 34 [.pointer (some ⟨b,0,none⟩)]::fs)
   have:=wrD_loose s1 ((at_+i:Nat):Int) x
   refine rnext (D:=D) (b:=bL) S fun W hW=>⟨(wrD s1 ((at_+i:Nat):Int) x,p2,c2),⟨by rw[hlw];congr 1,by show (wrD s1 ((at_+i:Nat):Int) x).loose.length≤_;omega⟩,hW⟩
 ·clear S
  rintro D ⟨s1,p1,c1⟩ a w ⟨hlw,hll⟩ S
  simp only[List.drop_length,layW]at hlw hll S
  replace S:=S.join (Ds:=[])
  refine xbn (xtn (kS (kR (sq S ?_))));clear S;intro a S
  refine sit (dkI b m p1 c1 s1) S (dsync_c b m p1 c1 s1 _ (by omega) (S.it (dkI b m p1 c1 s1))) rfl ?_;clear S;rintro _ a w ⟨rfl,p2,c2,hh,hn⟩ hS
  have S:=hS (dkI b m p2 c2 (syD s1)) hh hn
  clear hS
  refine sw S ?_;clear S;intro a w S;refine kN (xtn (kT ?_))
  refine endM1 S (fun w hw=>?_)
  have e2:layF s at_ xs=(syD s1,askE s1 0 true):=by rw[layF,hlw,if_pos rfl]
  rw[e2]
  exact ⟨rfl,p2,c2,hw.held (dkI b m p2 c2 (syD s1)) (by simp),hw.own (dkI b m p2 c2 (syD s1)) (by simp) rfl⟩
 ·rintro D ⟨s1,p1,c1,e1⟩ a w ⟨-,he,hlw⟩ S
  simp only[]at S he hlw
  replace S:=S.join (Ds:=[])
  repeat (first | refine xbr ?_ | refine xtr ?_)
  refine endM1 S (fun w hw=>?_)
  have e2:layF s at_ xs=(s1,e1):=by rw[layF,hlw,if_neg he]
  rw[e2]
  exact ⟨rfl,p1,c1,hw.held (dkI b m p1 c1 s1) (by simp),hw.own (dkI b m p1 c1 s1) (by simp) rfl⟩
 ·rintro id D _ a w ⟨h,-⟩;cases h
def secF (n:Int):Int:=if n < 0∨40000 < n then 0 else (secN n.toNat:Int)
theorem sectors_c (n:Int) (w0:World):Ret Tryz.prog 78 [.int .i64 n] w0 (fun _=>False) fun v _=>v=.int .i64 (secF n):=by
 refine enter Tryz.func78 rfl rfl (Wd.start w0) (fun a S=>?_)
 simp only[Tryz.ntmps78,qqA,qqB,Nat.reduceAdd,Nat.reduceSub,qqC,qqD,qqE,qqF]at S
 refine kS (kR (sq S ?_));clear S;intro a S;refine kN (xtn (kS (kB (kS (kR ?_)))));(iterate 3 (refine sq S ?_;clear S;intro a S));(iterate 2 (refine gQ S ?_;clear S;intro a S));(iterate 2 (refine sq S ?_;clear S;intro a S));refine kN (xtn ?_)
 refine kC S (fun h1=>?_) (fun h1=>?_)
 refine kS (kR (sq S ?_));clear S;intro a S;refine kN (xtn (kT (xbr (xtr ?_))))
 have h:n < 0∨40000 < n:=by simpa using h1
 refine end1 S (fun _=>?_)
 rw[secF,if_pos h]
 refine kS (kR ?_);(iterate 3 (refine sq S ?_;clear S;intro a S));refine kN (xtn ?_)
 refine kC S (fun h3=>?_) (fun h3=>?_)
 refine kS (kR (sq S ?_));clear S;intro a S;refine kN (xtn (kT (xbr (xtr ?_))))
 have h:n=0:=by simpa using h3
 subst h
 refine end1 S (fun _=>?_)
 rfl
 refine kK (xbn (xtn (kS (kR ?_))));(iterate 5 (refine sq S ?_;clear S;intro a S));refine kN (xtn (kT ?_))
 have hn:¬(n < 0∨40000 < n):=by simpa using h1
 have h0:n≠0:=by simpa using h3
 refine end1 S (fun _=>?_)
 rw[w64 (n+48) (by omega) (by omega),w64 (n+48 - 1) (by omega) (by omega),Int.tdiv_eq_ediv_of_nonneg (by omega),w64 _ (by omega) (by omega)]
 rw[secF,if_neg hn,secN,if_neg (by omega)]
 congr 1;omega
def mayF (s:DS) (n:Int):Bool:=decide (4≤n∧n≤1000∧2*n+2≤s.size)
theorem may_no (b m:Nat) (p:Option Addr) (c k:Nat) (s:DS) (n:Int) (hn:¬(4≤n∧n≤1000)) (w0:World) (hb:Stable (fun _=>False) w0 (BoxF b 170 (cDisk m p k c s))):Ret Tryz.prog 73 [.pointer (some ⟨b,0,none⟩),.int .i64 n] w0 (fun _=>False) fun v _=>v=.bool (mayF s n):=by
 refine enter Tryz.func73 rfl rfl (Wd.begin (fs:=[BoxF b 170 (cDisk m p k c s)]) (by simpa using hb)) (fun a S=>?_)
 simp only[Tryz.ntmps73,qqA,qqB,Nat.reduceAdd,Nat.reduceSub,qqC,qqD,qqE,qqF]at S
 refine kS (kR (sq S ?_));clear S;intro a S;refine kN (xtn (kS (kR ?_)));(iterate 3 (refine sq S ?_;clear S;intro a S));(iterate 2 (refine gQ S ?_;clear S;intro a S));refine sq S ?_;clear S;intro a S
 rw[show (decide (4≤n)&&decide (n≤1000))=false from by simp;omega]at S
 refine sq S ?_;clear S;intro a S;(iterate 6 (refine gF S ?_;clear S;intro a S));(iterate 2 (refine sq S ?_;clear S;intro a S));refine kN (xtn (kT ?_))
 refine end1 S (fun _=>?_)
 rw[show mayF s n=false from by simp[mayF];omega]
theorem may_yes (b m:Nat) (p:Option Addr) (c k:Nat) (s:DS) (n:Int) (hn:4≤n∧n≤1000) (w0:World) (hb:Stable (fun _=>False) w0 (BoxF b 170 (cDisk m p k c s))):Ret Tryz.prog 73 [.pointer (some ⟨b,0,none⟩),.int .i64 n] w0 (fun _=>False) fun v _=>v=.bool (mayF s n):=by
 refine enter Tryz.func73 rfl rfl (Wd.begin (fs:=[BoxF b 170 (cDisk m p k c s)]) (by simpa using hb)) (fun a S=>?_)
 simp only[Tryz.ntmps73,qqA,qqB,Nat.reduceAdd,Nat.reduceSub,qqC,qqD,qqE,qqF]at S
 refine kS (kR (sq S ?_));clear S;intro a S;refine kN (xtn (kS (kR ?_)));(iterate 3 (refine sq S ?_;clear S;intro a S));(iterate 2 (refine gQ S ?_;clear S;intro a S));refine sq S ?_;clear S;intro a S
 rw[show (decide (4≤n)&&decide (n≤1000))=true from by simp;omega]at S
 refine sq S ?_;clear S;intro a S;refine gT S ?_;refine sq S ?_;clear S;intro a S;refine gT S ?_
 refine sr S (len_c b m p k c s _ ((S.fact (Φ:=BoxF b 170 (cDisk m p k c s)) (by simp)).less fun _ _ h=>h.elim)) ?_;clear S;rintro _ a w rfl S
 refine gT S ?_;refine sq S ?_;clear S;intro a S;refine gT S ?_;refine sq S ?_;clear S;intro a S;refine gT S ?_;refine sq S ?_;clear S;intro a S;refine gT S ?_;(iterate 3 (refine sq S ?_;clear S;intro a S));refine kN (xtn (kT ?_))
 refine end1 S (fun _=>?_)
 rw[w64 (2*n) (by omega) (by omega),w64 (2*n+2) (by omega) (by omega)]
 rw[mayF,decide_eq_decide.2 (show (4≤n∧n≤1000∧2*n+2≤s.size)↔2*n+2≤s.size from ⟨fun h=>h.2.2,fun h=>⟨hn.1,hn.2,h⟩⟩)]
theorem may_c (b m:Nat) (p:Option Addr) (c k:Nat) (s:DS) (n:Int) (w0:World) (hb:Stable (fun _=>False) w0 (BoxF b 170 (cDisk m p k c s))):Ret Tryz.prog 73 [.pointer (some ⟨b,0,none⟩),.int .i64 n] w0 (fun _=>False) fun v _=>v=.bool (mayF s n):=by
 by_cases h:4≤n∧n≤1000
 exact may_yes b m p c k s n h w0 hb
 exact may_no b m p c k s n h w0 hb
abbrev cBook (b:Nat) (n turn:Int):List Value:=[.pointer (some ⟨b,0,none⟩),.int .i64 n,.int .u32 turn]
def fromN (n:Nat) (turn:Int):Nat:=2+(turn % 2).toNat*n
theorem from_c (b n:Nat) (turn:Int) (hn:n≤1000) (ht:0≤turn∧turn≤4294967295) (w0:World):Ret Tryz.prog 81 [.agg ⟨cBook b n turn⟩] w0 (fun _=>False) fun v _=>v=.int .i64 ((fromN n turn:Nat):Int):=by
 refine enter Tryz.func81 rfl rfl (Wd.start w0) (fun a S=>?_)
 simp only[Tryz.ntmps81,qqA,qqB,Nat.reduceAdd,Nat.reduceSub,qqC,qqD,qqE,qqF]at S
 refine kS (kR ?_);refine sa S ?_;clear S;intro b1 a w S;refine sq S ?_;clear S;intro a S;refine kN (xtn (kS (kR ?_)));(iterate 9 (refine sq S ?_;clear S;intro a S));refine kN (xtn (kT ?_))
 refine end1 S (fun _=>?_)
 have h0:turn.tmod 2=turn % 2:=Int.tmod_eq_emod_of_nonneg ht.1
 rw[h0]
 rcases (show turn % 2=0∨turn % 2=1 by omega) with h | h
 rw[fromN,h];simp[w64]
 rw[fromN,h,show IntKind.i64.wrap 1=1 from rfl,Int.one_mul,w64 (n:Int) (by omega) (by omega),w64 _ (by omega) (by omega)];simp
def upT (turn:Int):Int:=IntKind.u32.wrap (turn+1)
theorem next_c (b n:Nat) (turn:Int) (w0:World):Ret Tryz.prog 80 [.agg ⟨cBook b n turn⟩] w0 (fun _=>False) fun v _=>v=.agg ⟨cBook b n (upT turn)⟩:=by
 refine enter Tryz.func80 rfl rfl (Wd.start w0) (fun a S=>?_)
 simp only[Tryz.ntmps80,qqA,qqB,Nat.reduceAdd,Nat.reduceSub,qqC,qqD,qqE,qqF]at S
 refine kS (kR ?_);refine sa S ?_;clear S;intro b1 a w S;refine sa S ?_;clear S;intro b2 a w S;refine kN (xtn (kS (kR ?_)));(iterate 8 (refine sq S ?_;clear S;intro a S));refine sw S ?_;clear S;intro a w S;refine kN (xtn (kT ?_))
 refine end1 S (fun _=>?_)
 rfl
theorem begin2_c (g0 b m n:Nat) (p:Option Addr) (c:Nat) (s:DS) (turn:Int) (w0:World) (hn:n≤1000) (ht:0≤turn∧turn≤4294967295) (hl:s.loose.length≤999000) (hd:(dkI b m p c s).holds w0) (f0:Stable (dkI b m p c s).foot w0 (BoxF g0 132 (cBook b n turn))) :
  Ret Tryz.prog 175 [.pointer (some ⟨g0,0,none⟩)] w0 (dkI b m p c s).foot fun v w'=>v=.int .i64 (layF s ((turn % 2).toNat:Nat) [titleF turn n]).2∧∃ p' c',(dkI b m p' c' (layF s ((turn % 2).toNat:Nat) [titleF turn n]).1).holds w'∧∀ i,(dkI b m p' c' (layF s ((turn % 2).toNat:Nat) [titleF turn n]).1).foot i→(dkI b m p c s).foot i∨w0.heap.size≤i:=by
 refine enter Tryz.func175 rfl rfl (Wd.itLent (x:=dkI b m p c s) (fs:=[BoxF g0 132 (cBook b n turn)]) hd (by intro Φ hΦ;obtain rfl:=List.mem_singleton.1 hΦ;exact f0)) (fun a S=>?_)
 simp only[Tryz.ntmps175,qqA,qqB,Nat.reduceAdd,Nat.reduceSub,qqC,qqD,qqE,qqF]at S
 refine kS (kR (sq S ?_));clear S;intro a S;refine kN (xtn (kS ?_));refine c_drawE [(0,true),(1,true),(2,true),(3,true),(4,true),(5,true),(6,true),(7,true),(8,true),(9,true),(10,false),(11,false),(12,false),(13,true)] [] S ?_;clear S;intro w S;(iterate 6 (refine dq S ?_;clear S;intro a S))
 rw[show IntKind.i64.wrap (turn.tmod 2)=((turn % 2).toNat:Int) from by rw[Int.tmod_eq_emod_of_nonneg ht.1,w64 _ (by omega) (by omega)];omega]at S
 (iterate 4 (refine dq S ?_;clear S;intro a S));refine dl ?_
 refine sr S (title_c turn n ht (by omega) _) ?_;clear S;rintro _ a w rfl S
 refine de S ?_;refine dl ?_
 have hlt:=foots_lt S
 refine sr S (only_f (titleF turn n) 1 _) ?_;clear S;rintro _ a w ⟨h0,h1,rfl,⟨n0,n1⟩,e0,e1⟩ S
 replace S:=S.add (Φ:=BoxF h0 3 [.int .i64 ((1:Nat):Int)]) (BoxF.stable e0 (fun hm=>by have:=hlt _ hm;omega))
 replace S:=S.add (Φ:=BoxF h1 129 (encL (titleF turn n).l)) (BoxF.stable e1 (fun hm=>by have:=hlt _ hm;omega))
 refine de S ?_;refine dl ?_
 refine sit (dkI b m p c s) S (lay_c 173 [.pointer (some ⟨h0,0,none⟩),.pointer (some ⟨h1,0,none⟩)] [titleF turn n] b m p c s (turn % 2).toNat [BoxF h1 129 (encL (titleF turn n).l),BoxF h0 3 [.int .i64 ((1:Nat):Int)]] _ (by simp;omega) (by simp;omega) (S.it (dkI b m p c s)) (fun Φ hΦ=>S.lend (dkI b m p c s) (S.wd.facts Φ (List.mem_append_left _ hΦ))) (fun M w1 hM hF=>only_it h0 h1 (titleF turn n) 1 (by omega) w1 M hM (hF _ (by simp)) (hF _ (by simp)))) rfl ?_;clear S;rintro _ a w ⟨rfl,p2,c2,hh,hn2⟩ hS
 have S:=hS (dkI b m p2 c2 (layF s ((turn % 2).toNat:Nat) [titleF turn n]).1) hh hn2
 clear hS
 refine de S ?_;refine dq S ?_;clear S;intro a S;refine dn (xtn (kT ?_))
 have h1:=S.itNew (dkI b m p2 c2 (layF s ((turn % 2).toNat:Nat) [titleF turn n]).1) rfl
 refine end1 S (fun _=>⟨rfl,p2,c2,hh,h1⟩)
theorem begin1_c (g0 g1 b m n:Nat) (p:Option Addr) (c:Nat) (s:DS) (turn:Int) (bs:List UInt8) (q:Option Addr) (e:Nat) (w0:World) (hn:n≤1000) (ht:0≤turn∧turn≤4294967295) (hbs:bs.length≤40000) (hqe:bs.length≤e) (hl:s.loose.length≤998000) (hd:(dkI b m p c s).holds w0) (f0:Stable (dkI b m p c s).foot w0 (BoxF g0 132 (cBook b n turn))) (f1:Stable (dkI b m p c s).foot w0 (BoxF g1 25 [.slice q bs.length e])) (f2:Stable (dkI b m p c s).foot w0 (GlF q bs)) :
  Ret Tryz.prog 174 [.pointer (some ⟨g0,0,none⟩),.pointer (some ⟨g1,0,none⟩)] w0 (dkI b m p c s).foot fun v w'=>v=.int .i64 (layF s (fromN n turn:Nat) (leavesF turn 0 bs)).2∧∃ p' c',(dkI b m p' c' (layF s (fromN n turn:Nat) (leavesF turn 0 bs)).1).holds w'∧∀ i,(dkI b m p' c' (layF s (fromN n turn:Nat) (leavesF turn 0 bs)).1).foot i→(dkI b m p c s).foot i∨w0.heap.size≤i:=by
 have hll:(leavesF turn 0 bs).length≤840:=by rw[leavesF_len];unfold secN;split <;> omega
 have hfr:fromN n turn≤1002:=by
  unfold fromN
  rcases (show (turn % 2).toNat=0∨(turn % 2).toNat=1 by omega) with h | h <;> rw[h] <;> omega
 refine enter Tryz.func174 rfl rfl (Wd.itLent (x:=dkI b m p c s) (fs:=[BoxF g0 132 (cBook b n turn),BoxF g1 25 [.slice q bs.length e],GlF q bs]) hd (by simp;exact ⟨f0,f1,f2⟩)) (fun a S=>?_)
 simp only[Tryz.ntmps174,qqA,qqB,Nat.reduceAdd,Nat.reduceSub,qqC,qqD,qqE,qqF]at S
 refine kS (kR (sq S ?_));clear S;intro a S;refine kN (xtn (kS ?_));refine c_drawE [(0,true),(1,true),(2,true),(4,true),(5,true),(6,true),(3,false),(7,false),(8,false),(9,true)] [] S ?_;clear S;intro w S;(iterate 6 (refine dq S ?_;clear S;intro a S));refine dl ?_;refine sr S (from_c b n turn hn ht _) ?_;clear S;rintro _ a w rfl S;refine de S ?_;refine dl ?_
 have hlt:=foots_lt S
 refine sr S (leaves_f turn 0 q bs.length e _) ?_;clear S;rintro _ a w ⟨h0,h1,h2,rfl,⟨n0,n1,n2⟩,e0,e1,e2⟩ S
 replace S:=S.add (Φ:=BoxF h0 25 [.slice q bs.length e]) (BoxF.stable e0 (fun hm=>by have:=hlt _ hm;omega))
 replace S:=S.add (Φ:=BoxF h1 130 [.int .u32 turn]) (BoxF.stable e1 (fun hm=>by have:=hlt _ hm;omega))
 replace S:=S.add (Φ:=BoxF h2 130 [.int .u32 0]) (BoxF.stable e2 (fun hm=>by have:=hlt _ hm;omega))
 refine de S ?_;refine dl ?_
 refine sit (dkI b m p c s) S (lay_c 177 [.pointer (some ⟨h0,0,none⟩),.pointer (some ⟨h1,0,none⟩),.pointer (some ⟨h2,0,none⟩)] (leavesF turn 0 bs) b m p c s (fromN n turn) [BoxF h2 130 [.int .u32 0],BoxF h1 130 [.int .u32 turn],BoxF h0 25 [.slice q bs.length e],BoxF g0 132 (cBook b n turn),BoxF g1 25 [.slice q bs.length e],GlF q bs] _ (by omega) (by omega) (S.it (dkI b m p c s)) (fun Φ hΦ=>S.lend (dkI b m p c s) (S.wd.facts Φ hΦ)) (fun M w1 hM hF=>leaves_it turn 0 ht (by omega) h0 h1 h2 bs q e hbs hqe w1 M hM (hF _ (by simp)) (hF _ (by simp)) (hF _ (by simp)) (hF _ (by simp)))) rfl ?_;clear S;rintro _ a w ⟨rfl,p3,c3,hh,hn2⟩ hS
 have S:=hS (dkI b m p3 c3 (layF s (fromN n turn:Nat) (leavesF turn 0 bs)).1) hh hn2
 clear hS
 refine de S ?_;refine dq S ?_;clear S;intro a S;refine dn (xtn (kT ?_))
 have h1:=S.itNew (dkI b m p3 c3 (layF s (fromN n turn:Nat) (leavesF turn 0 bs)).1) rfl
 have hh:=S.it (dkI b m p3 c3 (layF s (fromN n turn:Nat) (leavesF turn 0 bs)).1)
 refine end1 S (fun _=>⟨rfl,p3,c3,hh,h1⟩)
theorem askD_loose (s:DS) (k:Int) (b:Bool):(askD s k b).loose=s.loose:=by
 unfold askD;split
 rfl
 split
 rfl
 split
 rfl
 split <;> (try split) <;> rfl
theorem syD_loose (s:DS):(syD s).loose.length≤s.loose.length:=by
 unfold syD askedD
 split
 simp[opD,settleD]
 rw[askD_loose];exact Nat.le_refl _
theorem layW_loose (xs:List Blk):∀ (s:DS) (k:Int),(layW s k xs).1.loose.length≤s.loose.length+xs.length:=by
 induction xs with
 | nil=>intro s k;exact Nat.le_refl _
 | cons x xs ih=>
  intro s k
  have h1:=wrD_loose s k x
  have h2:=ih (wrD s k x) (k+1)
  rw[layW]
  split
  ·rw[qqA];omega
  ·rw[qqA];show (wrD s k x).loose.length≤_;omega
theorem layF_loose (s:DS) (k:Int) (xs:List Blk):(layF s k xs).1.loose.length≤s.loose.length+xs.length:=by
 have h1:=layW_loose xs s k
 have h2:=syD_loose (layW s k xs).1
 unfold layF
 split
 show (syD (layW s k xs).1).loose.length≤_;omega
 exact h1
def wstepF (n:Nat) (turn:Int) (bs:List UInt8) (i:Nat) (s:DS):DS × Int:=if i=0 then layF s (fromN n turn:Nat) (leavesF turn 0 bs) else layF s ((turn % 2).toNat:Nat) [titleF turn n]
def restF (n:Nat) (turn:Int) (bs:List UInt8):Nat→DS→DS × Int
 | 0,s=>if (wstepF n turn bs 0 s).2=0 then wstepF n turn bs 1 (wstepF n turn bs 0 s).1 else wstepF n turn bs 0 s
 | 1,s=>wstepF n turn bs 1 s
 | _,s=>(s,0)
def begF (n:Nat) (turn:Int) (bs:List UInt8) (s:DS):DS × Int:=restF n turn bs 0 s
theorem restF_step (n:Nat) (turn:Int) (bs:List UInt8) (i:Nat) (hi:i < 2) (s:DS):restF n turn bs i s=if (wstepF n turn bs i s).2=0 then restF n turn bs (i+1) (wstepF n turn bs i s).1 else wstepF n turn bs i s:=by
 rcases (show i=0∨i=1 by omega) with rfl | rfl
 rfl
 show wstepF n turn bs 1 s=if (wstepF n turn bs 1 s).2=0 then ((wstepF n turn bs 1 s).1,0) else wstepF n turn bs 1 s
 split
 rename_i h;rw[←h]
 rfl
def stepFn (i:Nat):Nat:=if i=0 then 174 else 175
def stepLb (g0 g1 i:Nat):List Value:=if i=0 then [.pointer (some ⟨g0,0,none⟩),.pointer (some ⟨g1,0,none⟩)] else [.pointer (some ⟨g0,0,none⟩)]
instance entStep {i:Nat} : EntF Tryz.prog (stepFn i):=by
 unfold stepFn
 split <;> infer_instance
theorem wstep_c (g0 g1 b m n:Nat) (p:Option Addr) (c:Nat) (s:DS) (turn:Int) (bs:List UInt8) (q:Option Addr) (e i:Nat) (w0:World) (hn:n≤1000) (ht:0≤turn∧turn≤4294967295) (hbs:bs.length≤40000) (hqe:bs.length≤e) (hl:s.loose.length≤998000) (hd:(dkI b m p c s).holds w0) (f0:Stable (dkI b m p c s).foot w0 (BoxF g0 132 (cBook b n turn))) (f1:Stable (dkI b m p c s).foot w0 (BoxF g1 25 [.slice q bs.length e])) (f2:Stable (dkI b m p c s).foot w0 (GlF q bs)) :
  Ret Tryz.prog (stepFn i) (stepLb g0 g1 i) w0 (dkI b m p c s).foot fun v w'=>v=.int .i64 (wstepF n turn bs i s).2∧∃ p' c',(dkI b m p' c' (wstepF n turn bs i s).1).holds w'∧∀ k,(dkI b m p' c' (wstepF n turn bs i s).1).foot k→(dkI b m p c s).foot k∨w0.heap.size≤k:=by
 unfold stepFn stepLb wstepF
 split
 exact begin1_c g0 g1 b m n p c s turn bs q e w0 hn ht hbs hqe hl hd f0 f1 f2
 exact begin2_c g0 b m n p c s turn w0 hn ht (by omega) hd f0
theorem begin_c (b m n:Nat) (p:Option Addr) (c:Nat) (s:DS) (turn:Int) (bs:List UInt8) (q:Option Addr) (e:Nat) (w0:World) (hn:n≤1000) (ht:0≤turn∧turn≤4294967295) (hbs:bs.length≤40000) (hqe:bs.length≤e) (hl:s.loose.length≤990000) (hd:(dkI b m p c s).holds w0) (f2:Stable (dkI b m p c s).foot w0 (GlF q bs)) :
  Ret Tryz.prog 76 [.agg ⟨cBook b n turn⟩,.slice q bs.length e] w0 (dkI b m p c s).foot fun v w'=>v=.int .i64 (begF n turn bs s).2∧∃ p' c',(dkI b m p' c' (begF n turn bs s).1).holds w'∧∀ k,(dkI b m p' c' (begF n turn bs s).1).foot k→(dkI b m p c s).foot k∨w0.heap.size≤k:=by
 have hll:(leavesF turn 0 bs).length≤840:=by rw[leavesF_len];unfold secN;split <;> omega
 have hst:∀ i s,(wstepF n turn bs i s).1.loose.length≤s.loose.length+840:=fun i s=>by
  unfold wstepF
  split
  have:=layF_loose s (fromN n turn:Nat) (leavesF turn 0 bs);omega
  have:=layF_loose s ((turn % 2).toNat:Nat) [titleF turn n];simp only[qqA,qqB]at this;omega
 refine enter Tryz.func76 rfl rfl (Wd.itLent (x:=dkI b m p c s) (fs:=[GlF q bs]) hd (by intro Φ hΦ;obtain rfl:=List.mem_singleton.1 hΦ;exact f2)) (fun a S=>?_)
 simp only[Tryz.ntmps76,qqA,qqB,Nat.reduceAdd,Nat.reduceSub,qqC,qqD,qqE,qqF]at S
 refine kS (kR ?_);refine sa S ?_;clear S;intro b2 a w S;refine sa S ?_;clear S;intro b3 a w S;refine sq S ?_;clear S;intro a S;refine kN (xtn (kS (kR ?_)));(iterate 3 (refine sq S ?_;clear S;intro a S));refine sa S ?_;clear S;intro b5 a w S;refine sw S ?_;clear S;intro a w S;refine kN (xtn (kS (kS (kR ?_))));(iterate 2 (refine sq S ?_;clear S;intro a S));refine kN (xtn (kB ?_))
 replace S:=S.boxToF b3
 replace S:=S.boxToF b2
 refine c_fore4 S (fun(i:Nat) (s':DS) (p':Option Addr) (c':Nat) uu=>[(4,uu 4),(2,uu 7),(0,uu 8),(4,.int .i64 (i:Nat)),(0,uu 14),(0,uu 15),(0,uu 16),(0,uu 17),(0,uu 18),(0,uu 19),(0,uu 20),(0,uu 21)]) (fun(i:Nat) (s':DS) (p':Option Addr) (c':Nat)=>[Wk.box b5 252 [.func (.func (stepFn 0)) #[] ⟨stepLb b2 b3 0⟩,.func (.func (stepFn 1)) #[] ⟨stepLb b2 b3 1⟩],dkI b m p' c' s']) (fun(i:Nat) (s':DS) (p':Option Addr) (c':Nat)=>[BoxF b2 132 (cBook b n turn),BoxF b3 25 [.slice q bs.length e],GlF q bs]) (fun(i:Nat) (s':DS) (p':Option Addr) (c':Nat)=>i≤2∧begF n turn bs s=restF n turn bs i s'∧s'.loose.length≤990000+840*i) (fun(i:Nat) (s':DS) (p':Option Addr) (c':Nat)=>2 - i) (0) (s) (p) (c) ?_ S.uu ?_ ?_
 exact ⟨by omega,rfl,by omega⟩
 first | exact S | exact S.sub _ _
 clear S;rintro i s' p' c' uu a w ⟨hi,hre,hsl⟩ S
 refine kS (kR (sq S ?_));clear S;intro a S;refine kN (xtn (kS ?_))
 refine kC S (fun h3=>?_) (fun h3=>?_)
 refine kK (xtn (kS (kB (kS ?_))))
 have hi2:i < 2:=by have:=of_decide_eq_true h3;omega
 rw[restF_step n turn bs i hi2]at hre
 refine kR ?_
 refine sv (.func (.func (stepFn i)) #[] ⟨stepLb b2 b3 i⟩) S (fun hf=>?_) ?_
 rcases (show i=0∨i=1 by omega) with rfl | rfl
 exact run_idx [.func (.func (stepFn 0)) #[] ⟨stepLb b2 b3 0⟩,.func (.func (stepFn 1)) #[] ⟨stepLb b2 b3 1⟩] 0 _ rfl rfl hf _
 exact run_idx [.func (.func (stepFn 0)) #[] ⟨stepLb b2 b3 0⟩,.func (.func (stepFn 1)) #[] ⟨stepLb b2 b3 1⟩] 1 _ rfl rfl hf _
 clear S;intro a S;refine sq S ?_;clear S;intro a S;refine kN (xtn (kS (kR (sq S ?_))));clear S;intro a S
 have hfs:=fun Φ hΦ=>S.lend (dkI b m p' c' s') (S.wd.facts Φ hΦ)
 refine sit (dkI b m p' c' s') S (wstep_c b2 b3 b m n p' c' s' turn bs q e i _ hn ht hbs hqe (by omega) (S.it (dkI b m p' c' s')) (hfs _ (by simp)) (hfs _ (by simp)) (hfs _ (by simp))) rfl ?_;clear S hfs;rintro _ a w ⟨rfl,p2,c2,hh,hn2⟩ hS
 have S:=hS (dkI b m p2 c2 (wstepF n turn bs i s').1) hh hn2
 clear hS
 refine sq S ?_;clear S;intro a S;refine kN (xtn (kS (kR ?_)));(iterate 2 (refine sq S ?_;clear S;intro a S));refine kN (xtn ?_)
 refine kC S (fun h6=>?_) (fun h6=>?_)
 refine kS (kR ?_);(iterate 2 (refine sq S ?_;clear S;intro a S));refine kN (xtn (kT (xbr (xtr (xtr (xbr (xtr ?_)))))))
 have he:(wstepF n turn bs i s').2≠0:=by simpa using h6
 rw[if_neg he]at hre
 have h1:=S.itNew (dkI b m p2 c2 (wstepF n turn bs i s').1) rfl
 refine end1 S (fun _=>?_)
 rw[hre]
 exact ⟨rfl,p2,c2,hh,h1⟩
 refine kK (xbn (xtn (kR ?_)));(iterate 2 (refine sq S ?_;clear S;intro a S));refine kN (xtn ?_)
 rw[show IntKind.i64.wrap ((i:Int)+1)=((i+1:Nat):Int) from by rw[w64 _ (by omega) (by omega)];rfl]at S
 have he:(wstepF n turn bs i s').2=0:=by simpa using h6
 rw[if_pos he]at hre
 have:=hst i s'
 exact ⟨i+1,(wstepF n turn bs i s').1,p2,c2,S.uu,⟨by omega,hre,by omega⟩,S.sub _ _,by omega⟩
 refine kE (xte (xte (xbe (xtn (kS (kR (sq S ?_)))))));clear S;intro a S;refine kN (xtn (kT ?_))
 have hi2:i=2:=by have:=of_decide_eq_false h3;omega
 subst hi2
 have h1:=S.itNew (dkI b m p' c' s') rfl
 have hh:=S.it (dkI b m p' c' s')
 refine end1 S (fun _=>?_)
 rw[hre]
 exact ⟨rfl,p',c',hh,h1⟩
structure LBy where
 p:Option Addr
 c:Nat
 bs:List UInt8
abbrev cBy (x:LBy):List Value:=[.slice x.p x.bs.length x.c]
instance encBy:Enc LBy:=⟨1,cBy,fun _=>rfl,fun x u hu=>by obtain rfl:=List.mem_singleton.1 hu;rfl⟩
instance layBy:Lay LBy:={ encBy with
 dflt:=⟨none,0,[]⟩
 inn:=fun _ _=>True
 mono:=fun _ _ _ _ _=>trivial }
instance:SzE LBy 1:=⟨rfl,by decide⟩
instance {x:LBy} : CellsOf x [.slice x.p x.bs.length x.c]:=⟨rfl⟩
def entI (said:List LBy):Wk.Item where
 foot:=fun k=>∃ x∈said,∃ ad,x.p=some ad∧ad.block=k
 holds:=fun w=>∀ x∈said,(∀ ad,x.p=some ad→ad.block < w.heap.size)∧GlF x.p x.bs w
theorem gl_loc {w1 w2:World} {p:Option Addr} {bs:List UInt8} (hp:∀ ad,p=some ad→w2.heap[ad.block]? = w1.heap[ad.block]?) (h:GlF p bs w1):GlF p bs w2:=
 ⟨⟨h.1.1,fun ad ha j u hj=>by
  have h1:=h.1.2 ad ha j u hj
  have h2:(ad.add j).block=ad.block:=by unfold Addr.add;split <;> rfl
  unfold World.cell? at h1⊢
  rw[h2]at h1⊢
  rw[hp ad ha];exact h1⟩,fun _ _=>trivial⟩
instance itEnt {said:List LBy} : ItOk (entI said):=⟨fun w1 w2 h h1 x hx=>⟨fun ad ha=>by
  have h2:=(h1 x hx).1 ad ha
  have h3:=h ad.block ⟨x,hx,ad,ha,rfl⟩
  rw[Array.getElem?_eq_getElem h2]at h3
  exact (Array.getElem?_eq_some_iff.1 h3).1,gl_loc (fun ad ha=>h ad.block ⟨x,hx,ad,ha,rfl⟩) (h1 x hx).2⟩,fun w h k ⟨x,hx,ad,ha,hk⟩=>hk▸(h x hx).1 ad ha⟩
structure WS where
 n:Nat
 turn:Int
 said:List LBy
 fin:Nat
 broken:Bool
abbrev cWal (b:Nat) (q:Option Addr) (e:Nat) (x:WS):List Value:=[.pointer (some ⟨b,0,none⟩),.int .i64 (x.n:Int),.int .u32 x.turn,.slice q x.said.length e,.int .i64 (x.fin:Int),.bool x.broken]
abbrev walI (g b:Nat) (q:Option Addr) (e:Nat) (x:WS):Wk.Item:=both (Wk.box g 134 (cWal b q e x)) (both (Wk.row 25 1 q x.said.length e (encL x.said)) (entI x.said))
theorem St.addE {w0:World} {M0:Nat→Prop} {ds:List Deferred} {a:Act} {w:World} {l:List Value} {bs:List Wk.Item} {fs:List (World→Prop)} (S:St w0 M0 ds a w l bs fs) (y:Wk.Item) [oy:ItOk y] (hy:y.holds w) (hf:∀ k,¬y.foot k):St w0 M0 ds a w l (y::bs) fs:=
 ⟨S.slots,S.defers,S.wd.addItem (Agree.refl _ _) hy (fun k hk=>(hf k hk).elim) (fun k hk=>(hf k hk).elim) oy.loc⟩
def fmtF (n:Nat) (s:DS):DS × Int:=if (layF s 0 (List.replicate (2*n+2) zB)).2=0 then begF n 0 [] (layF s 0 (List.replicate (2*n+2) zB)).1 else layF s 0 (List.replicate (2*n+2) zB)
def newW (n:Nat):WS:=⟨n,0,[⟨none,0,[]⟩],1,false⟩
theorem format_c (b m n:Nat) (p:Option Addr) (c:Nat) (s:DS) (w0:World) (hm:mayF s n=true) (hl:s.loose.length≤980000) (hd:(dkI b m p c s).holds w0) :
  Ret Tryz.prog 18 [.pointer (some ⟨b,0,none⟩),.int .i64 (n:Int)] w0 (dkI b m p c s).foot fun v w'=>
   ((fmtF n s).2≠0∧v=.tuple ⟨[.pointer none,.int .i64 (fmtF n s).2]⟩∧∃ p' c',(dkI b m p' c' (fmtF n s).1).holds w'∧∀ k,(dkI b m p' c' (fmtF n s).1).foot k→(dkI b m p c s).foot k∨w0.heap.size≤k)∨
   ((fmtF n s).2=0∧∃ g p' c' q e,v=.tuple ⟨[.pointer (some ⟨g,0,none⟩),.int .i64 0]⟩∧(both (dkI b m p' c' (fmtF n s).1) (walI g b q e (newW n))).holds w'∧∀ k,(both (dkI b m p' c' (fmtF n s).1) (walI g b q e (newW n))).foot k→(dkI b m p c s).foot k∨w0.heap.size≤k):=by
 have hn:n≤1000:=by simp[mayF]at hm;omega
 have hlo:=layF_loose s 0 (List.replicate (2*n+2) zB)
 rw[List.length_replicate]at hlo
 refine enter Tryz.func18 rfl rfl (Wd.itLent (x:=dkI b m p c s) (fs:=[]) hd (by simp)) (fun a S=>?_)
 simp only[Tryz.ntmps18,qqA,qqB,Nat.reduceAdd,Nat.reduceSub,qqC,qqD,qqE,qqF]at S
 refine kS (kR ?_);(iterate 2 (refine sq S ?_;clear S;intro a S));refine kN (xtn (kS (kB (kS (kR ?_)))));(iterate 3 (refine sq S ?_;clear S;intro a S));refine kN (xtn ?_);refine c_condF S ?_;refine kS (kR ?_);(iterate 2 (refine sq S ?_;clear S;intro a S))
 have hdk:(dkI b m p c s).holds _:=S.it (dkI b m p c s)
 refine sr S (may_c b m p c s.loose.length s n _ (BoxF.stable hdk.1 (fun h=>h))) ?_;clear S;rintro _ a w rfl S
 refine sq S ?_;clear S;intro a S
 rw[hm,show (!true)=false from rfl]at S
 refine sq S ?_;clear S;intro a S;refine kN (xtn ?_);refine c_condF S ?_;refine kK (xbn (xtn (kS (kS (kR ?_)))));(iterate 4 (refine sq S ?_;clear S;intro a S))
 rw[w64 (2*(n:Int)) (by omega) (by omega)]at S
 refine sq S ?_;clear S;intro a S
 rw[show IntKind.i64.wrap (2*(n:Int)+2)=((2*n+2:Nat):Int) from by rw[w64 _ (by omega) (by omega)];rfl]at S
 have hlt:=foots_lt S
 refine sr S (only_f zB (2*n+2) _) ?_;clear S;rintro _ a w ⟨h0,h1,rfl,⟨n0,n1⟩,e0,e1⟩ S
 replace S:=S.add (Φ:=BoxF h0 3 [.int .i64 ((2*n+2:Nat):Int)]) (BoxF.stable e0 (fun hm=>by have:=hlt _ hm;omega))
 replace S:=S.add (Φ:=BoxF h1 129 (encL zB.l)) (BoxF.stable e1 (fun hm=>by have:=hlt _ hm;omega))
 refine sit (dkI b m p c s) S (lay_c 173 [.pointer (some ⟨h0,0,none⟩),.pointer (some ⟨h1,0,none⟩)] (List.replicate (2*n+2) zB) b m p c s 0 [BoxF h1 129 (encL zB.l),BoxF h0 3 [.int .i64 ((2*n+2:Nat):Int)]] _ (by rw[List.length_replicate];omega) (by rw[List.length_replicate];omega) (S.it (dkI b m p c s)) (fun Φ hΦ=>S.lend (dkI b m p c s) (S.wd.facts Φ hΦ)) (fun M w1 hM hF=>only_it h0 h1 zB (2*n+2) (by omega) w1 M hM (hF _ (by simp)) (hF _ (by simp)))) rfl ?_;clear S;rintro _ a w ⟨rfl,p2,c2,hh,hn2⟩ hS
 have S:=hS (dkI b m p2 c2 (layF s 0 (List.replicate (2*n+2) zB)).1) hh hn2
 clear hS
 refine sq S ?_;clear S;intro a S;refine kN (xtn (kS (kR ?_)));(iterate 2 (refine sq S ?_;clear S;intro a S));refine kN (xtn ?_)
 refine kC S (fun h6=>?_) (fun h6=>?_)
 refine kS (kR ?_);(iterate 3 (refine sq S ?_;clear S;intro a S));refine kN (xtn (kT (xtr ?_)))
 have he:(layF s 0 (List.replicate (2*n+2) zB)).2≠0:=by simpa using h6
 have h1:=S.itNew (dkI b m p2 c2 (layF s 0 (List.replicate (2*n+2) zB)).1) rfl
 refine end2 S (fun _=>.inl ?_)
 rw[fmtF,if_neg he]
 exact ⟨he,rfl,p2,c2,hh,h1⟩
 refine kK (xtn (kS ?_))
 have he:(layF s 0 (List.replicate (2*n+2) zB)).2=0:=by simpa using h6
 have hfm:fmtF n s=begF n 0 [] (layF s 0 (List.replicate (2*n+2) zB)).1:=by rw[fmtF,if_pos he]
 refine kR ?_;(iterate 3 (refine sq S ?_;clear S;intro a S));refine sa S ?_;clear S;intro b7 a w S;refine sw S ?_;clear S;intro a w S;refine kN (xtn (kS (kS (kR (sq S ?_)))));clear S;intro a S
 refine sit (dkI b m p2 c2 (layF s 0 (List.replicate (2*n+2) zB)).1) S (begin_c b m n p2 c2 (layF s 0 (List.replicate (2*n+2) zB)).1 0 [] none 0 _ hn (by omega) (by simp) (by simp) (by omega) (S.it (dkI b m p2 c2 (layF s 0 (List.replicate (2*n+2) zB)).1)) (fun w' _=>⟨slNil (fun _=>False) w' w' (Agree.refl _ _),fun _ h=>by cases h⟩)) rfl ?_;clear S;rintro _ a w ⟨rfl,p3,c3,hh,hn3⟩ hS
 have S:=hS (dkI b m p3 c3 (begF n 0 [] (layF s 0 (List.replicate (2*n+2) zB)).1).1) hh hn3
 clear hS
 rw[←hfm]at S
 refine sq S ?_;clear S;intro a S;refine kN (xtn (kS (kR ?_)));(iterate 2 (refine sq S ?_;clear S;intro a S));refine kN (xtn ?_)
 refine kC S (fun h10=>?_) (fun h10=>?_)
 refine kS (kR ?_);(iterate 3 (refine sq S ?_;clear S;intro a S));refine kN (xtn (kT (xtr ?_)))
 have he2:(fmtF n s).2≠0:=by simpa using h10
 have h1:=S.itNew (dkI b m p3 c3 (fmtF n s).1) rfl
 have hh:=S.it (dkI b m p3 c3 (fmtF n s).1)
 refine end2 S (fun _=>.inl ?_)
 exact ⟨he2,rfl,p3,c3,hh,h1⟩
 refine kK (xtn (kS (kR (sq S ?_))));clear S;intro a S;refine sn S ?_;clear S;intro b36 a w S;refine sq S ?_;clear S;intro a S;refine sa S ?_;clear S;intro b38 a w S;(iterate 2 (refine sq S ?_;clear S;intro a S));refine kN (xtn (kT ?_))
 have he2:(fmtF n s).2=0:=by simpa using h10
 replace S:=S.boxRow b36 1 1 rfl (by decide)
 replace S:=St.addE S (entI (newW n).said) (fun x hx=>by obtain rfl:=List.mem_singleton.1 hx;exact ⟨fun ad h=>(by cases h),gl_nil⟩) (fun k ⟨x,hx,ad,h,_⟩=>by obtain rfl:=List.mem_singleton.1 hx;cases h)
 replace S:=S.sub [entI (newW n).said,Wk.box b38 134 [.pointer (some ⟨b,0,none⟩),.int .i64 (n:Int),.int .u32 0,.slice (some ⟨b36,0,none⟩) 1 1,.int .i64 1,.bool false],Wk.row 25 1 (some ⟨b36,0,none⟩) 1 1 [.slice none 0 0],dkI b m p3 c3 (fmtF n s).1] []
 have S:=S.perm [Wk.box b38 134 (cWal b (some ⟨b36,0,none⟩) 1 (newW n)),Wk.row 25 1 (some ⟨b36,0,none⟩) 1 1 [.slice none 0 0],entI (newW n).said,dkI b m p3 c3 (fmtF n s).1] ((List.perm_append_comm (l₁:=[Wk.box b38 134 (cWal b (some ⟨b36,0,none⟩) 1 (newW n)),Wk.row 25 1 (some ⟨b36,0,none⟩) 1 1 [.slice none 0 0]]) (l₂:=[entI (newW n).said])).append_right [dkI b m p3 c3 (fmtF n s).1])
 have hh:=St.hold4 S rfl rfl rfl rfl
 have h1:=St.new4 S rfl rfl rfl rfl
 refine end2 S (fun _=>.inr ?_)
 exact ⟨he2,b38,p3,c3,some ⟨b36,0,none⟩,1,rfl,hh,h1⟩
theorem wleft_c (g b:Nat) (q:Option Addr) (e:Nat) (x:WS) (_hs:x.said.length≤1000000∧0 < x.said.length) (hf:x.fin≤1000000) (hn:x.n≤1000) (w0:World) (hb:Stable (fun _=>False) w0 (BoxF g 134 (cWal b q e x))):Ret Tryz.prog 100 [.pointer (some ⟨g,0,none⟩)] w0 (fun _=>False) fun v _=>v=.int .i64 ((x.n:Int) - x.fin):=by
 refine enter Tryz.func100 rfl rfl (Wd.begin (fs:=[BoxF g 134 (cWal b q e x)]) (by simpa using hb)) (fun a S=>?_)
 simp only[Tryz.ntmps100,qqA,qqB,Nat.reduceAdd,Nat.reduceSub,qqC,qqD,qqE,qqF]at S
 refine kS (kR (sq S ?_));clear S;intro a S;refine kN (xtn (kS (kS (kR ?_))));(iterate 2 (refine sq S ?_;clear S;intro a S));refine kN (xtn ?_);refine c_condF S ?_;refine kK (xtn (kS ?_));refine c_drawD [(0,true),(1,true),(2,true),(3,true),(4,true),(5,true),(6,true),(7,true),(8,true),(9,true),(10,true)] [] S ?_;clear S;intro w S;(iterate 11 (refine dq S ?_;clear S;intro a S));refine dn (xtn (kT ?_))
 refine end1 S (fun _=>?_)
 rw[w64 _ (by omega) (by omega)]
theorem wbroken_c (g b:Nat) (q:Option Addr) (e:Nat) (x:WS) (w0:World) (hb:Stable (fun _=>False) w0 (BoxF g 134 (cWal b q e x))):Ret Tryz.prog 99 [.pointer (some ⟨g,0,none⟩)] w0 (fun _=>False) fun v _=>v=.bool x.broken:=by
 refine enter Tryz.func99 rfl rfl (Wd.begin (fs:=[BoxF g 134 (cWal b q e x)]) (by simpa using hb)) (fun a S=>?_)
 simp only[Tryz.ntmps99,qqA,qqB,Nat.reduceAdd,Nat.reduceSub,qqC,qqD,qqE,qqF]at S
 refine kS (kR (sq S ?_));clear S;intro a S;refine kN (xtn (kS (kR ?_)));(iterate 3 (refine sq S ?_;clear S;intro a S));refine gT S ?_;refine sq S ?_;clear S;intro a S;refine gT S ?_;refine sq S ?_;clear S;intro a S;refine gT S ?_;refine sq S ?_;clear S;intro a S;refine gT S ?_;(iterate 3 (refine sq S ?_;clear S;intro a S));refine kN (xtn (kT ?_))
 refine end1 S (fun _=>?_)
 rfl
def refF (x:WS) (bs:List UInt8):Int:=if 40000 < bs.length then 3 else if x.broken then 8 else 0
theorem refuses_c (g b:Nat) (q:Option Addr) (e:Nat) (x:WS) (y:LBy) (w0:World) (hb:Stable (fun _=>False) w0 (BoxF g 134 (cWal b q e x))):Ret Tryz.prog 77 [.pointer (some ⟨g,0,none⟩),.slice y.p y.bs.length y.c] w0 (fun _=>False) fun v _=>v=.int .i64 (refF x y.bs):=by
 refine enter Tryz.func77 rfl rfl (Wd.begin (fs:=[BoxF g 134 (cWal b q e x)]) (by simpa using hb)) (fun a S=>?_)
 simp only[Tryz.ntmps77,qqA,qqB,Nat.reduceAdd,Nat.reduceSub,qqC,qqD,qqE,qqF]at S
 refine kS (kR (sq S ?_));clear S;intro a S;refine kN (xtn (kS (kB (kS (kR ?_)))));(iterate 3 (refine sq S ?_;clear S;intro a S));refine kN (xtn ?_);refine c_condF S ?_;refine kS (kR ?_);(iterate 4 (refine sq S ?_;clear S;intro a S));refine kN (xtn ?_)
 refine kC S (fun h3=>?_) (fun h3=>?_)
 refine kS (kR (sq S ?_));clear S;intro a S;refine kN (xtn (kT (xbr (xtr ?_))))
 have h:40000 < y.bs.length:=by have:=of_decide_eq_true h3;omega
 refine end1 S (fun _=>?_)
 rw[refF,if_pos h]
 refine kS (kR ?_);(iterate 5 (refine sq S ?_;clear S;intro a S));refine kN (xtn ?_)
 refine kC S (fun h5=>?_) (fun h5=>?_)
 refine kS (kR (sq S ?_));clear S;intro a S;refine kN (xtn (kT (xbr (xtr ?_))))
 have h:¬40000 < y.bs.length:=by have:=of_decide_eq_false h3;omega
 have hx:x.broken=true:=h5
 refine end1 S (fun _=>?_)
 rw[refF,if_neg h,if_pos hx]
 refine kK (xbn (xtn (kS (kR (sq S ?_)))));clear S;intro a S;refine kN (xtn (kT ?_))
 have h:¬40000 < y.bs.length:=by have:=of_decide_eq_false h3;omega
 have hx:x.broken=false:=h5
 refine end1 S (fun _=>?_)
 rw[refF,if_neg h,hx];rfl
def brkF (x:WS) (v:Int):WS:={ x with broken:=x.broken||decide (v≠0) }
theorem snap_c (g b:Nat) (q:Option Addr) (e:Nat) (x:WS) (y:LBy) (h0:0 < x.said.length) (hy:nthG x.said 0=y) (hl:y.bs.length≤1000000) (w0:World) (f1:Stable (fun _=>False) w0 (BoxF g 134 (cWal b q e x))) (f2:Stable (fun _=>False) w0 (GlF q x.said)) (f3:Stable (fun _=>False) w0 (GlF y.p y.bs)) :
  Ret Tryz.prog 86 [.pointer (some ⟨g,0,none⟩)] w0 (fun _=>False) fun v w'=>∃ p' c',v=.slice p' y.bs.length c'∧w'.ownsRow 0 5 1 (.slice p' y.bs.length c') y.bs.length (encL y.bs)∧∀ ad,p'=some ad→w0.heap.size≤ad.block:=by
 have hK:KLt 0 x.said.length:=⟨h0⟩
 refine enter Tryz.func86 rfl rfl (Wd.begin (fs:=[BoxF g 134 (cWal b q e x),GlF q x.said,GlF y.p y.bs]) (by simp;exact ⟨f1,f2,f3⟩)) (fun a S=>?_)
 simp only[Tryz.ntmps86,qqA,qqB,Nat.reduceAdd,Nat.reduceSub,qqC,qqD,qqE,qqF]at S
 refine kS (kR (sq S ?_));clear S;intro a S;refine kN (xtn (kS (kS (kR ?_))));(iterate 2 (refine sq S ?_;clear S;intro a S));refine kN (xtn ?_);refine c_condF S ?_;refine kK (xtn (kS (kR ?_)));(iterate 6 (refine sq S ?_;clear S;intro a S))
 rw[hy]at S
 replace S:=S.addNil 5 1
 refine sap S (by simp only[maxLen];omega) (by omega) ?_;clear S;rintro p3 c3 a w - S
 rw[qqF,Nat.zero_add]at S
 refine sq S ?_;clear S;intro a S;refine kN (xtn (kT ?_))
 have hrow:=S.row p3 y.bs.length
 have hnew:=S.rowNew p3 y.bs.length
 refine end1 S (fun _=>?_)
 exact ⟨p3,c3,rfl,hrow,fun ad h=>(hnew ad h).elim (fun h=>h.elim) id⟩
def AllBy (came:List LBy):World→Prop:=fun w=>∀ y∈came,GlF y.p y.bs w
def toldL (came:List LBy):List (Nat × LBy):=(List.range came.length).map fun k=>(k+1,nthG came k)
def toldE (x:Nat × LBy) (vs:List Value) (W0 W1:World):Prop:=∃ p' c',vs=[.int .i64 (x.1:Int),.slice p' x.2.bs.length c']∧W1.ownsRow 0 5 1 (.slice p' x.2.bs.length c') x.2.bs.length (encL x.2.bs)∧∀ ad,p'=some ad→W0.heap.size≤ad.block
theorem all_it (g:Nat) (came:List LBy) (q:Option Addr) (e:Nat) (hl:came.length≤1000000) (hby:∀ y∈came,y.bs.length≤1000000) (w0:World) (M:Nat→Prop) (hM:∀ k,M k→k < w0.heap.size) (f0:Stable M w0 (BoxF g 33 [.slice q came.length e])) (f1:Stable M w0 (GlF q came)) (f2:Stable M w0 (AllBy came)) :
  IterRet Tryz.prog 188 [.pointer (some ⟨g,0,none⟩)] w0 M toldE (toldL came):=by
 intro L J Jx hy hJ
 have hF:∀ Φ∈[BoxF g 33 [.slice q came.length e],GlF q came,AllBy came],Stable M w0 Φ:=by simp;exact ⟨f0,f1,f2⟩
 refine (callsIn_wide (n:=0)).2 ?_
 refine enter Tryz.func188 rfl rfl (Wd.beginM (M:=M) (fs:=[BoxF g 33 [.slice q came.length e],GlF q came,AllBy came]) hM hF) (fun a S=>?_)
 simp only[Tryz.ntmps188,qqA,qqB,Nat.reduceAdd,Nat.reduceSub,qqC,qqD,qqE,qqF]at S
 refine kS (kR ?_);(iterate 3 (refine sq S ?_;clear S;intro a S));refine kN (xtn (kB ?_))
 refine c_loop (ι:=Nat) (fun k a w=>k≤came.length∧∃ N w1,J k w1∧∃ uu:Nat→Value,St w1 (fun _=>False) [] a w ((.func (.yield L) #[] #[])::(.pointer (some ⟨g,0,none⟩))::uu 2::uu 3::uu 4::(.slice q came.length e)::(.int .i64 (came.length:Nat))::(.int .i64 (k:Nat))::uu 8::uu 9::uu 10::uu 11::uu 12::uu 13::uu 14::uu 15::uu 16::uu 17::uu 18::uu 19::[]) [ext N] [BoxF g 33 [.slice q came.length e],GlF q came,AllBy came]) (fun k=>came.length - k) 0 ?_ ?_
 exact ⟨Nat.zero_le _,M,w0,hJ,S.uu,S⟩
 clear S
 rintro k a w ⟨hk,N,w1,hJk,uu,S⟩
 refine kS (kR (sq S ?_));clear S;intro a S;refine kN (xtn (kS ?_))
 refine kC S (fun h1=>?_) (fun h1=>?_)
 refine kK (xtn (kS (kB (kS ?_))))
 have hkn:k < came.length:=by have:=of_decide_eq_true h1;omega
 have hK:KLt k came.length:=⟨hkn⟩
 have hx:(toldL came)[k]? = some (k+1,nthG came k):=by rw[toldL,List.getElem?_map,List.getElem?_range hkn];rfl
 have hyl:=hby _ (nthG_mem hkn)
 replace S:=S.add (Φ:=GlF (nthG came k).p (nthG came k).bs) ((S.mem.fact (AllBy came)).imp fun _ h=>h _ (nthG_mem hkn))
 refine kR ?_;(iterate 5 (refine sq S ?_;clear S;intro a S));refine kN (xtn (kS (kR ?_)));(iterate 3 (refine sq S ?_;clear S;intro a S))
 rw[show IntKind.i64.wrap ((k:Int)+1)=((k+1:Nat):Int) from by rw[w64 _ (by omega) (by omega)];rfl]at S
 refine sq S ?_;clear S;intro a S
 replace S:=S.addNil 5 1
 refine sap S (by simp only[maxLen];omega) (by omega) ?_;clear S;rintro p3 c3 a w - S
 rw[qqF,Nat.zero_add]at S
 have hrow:=S.row p3 (nthG came k).bs.length
 have hnew:=S.rowNew p3 (nthG came k).bs.length
 refine sy S (M:=M) (wI:=w0) (fs0:=[BoxF g 33 [.slice q came.length e],GlF q came,AllBy came]) hF (hy _ _ _ w1 _ hx hJk S.wd.agree ⟨p3,c3,rfl,hrow,fun ad h=>(hnew ad h).elim (fun h=>h.elim) id⟩) ?_;clear S hrow hnew;intro ok N' a w2 hT hX S
 refine sq S ?_;clear S;intro a S;refine kN (xtn ?_)
 refine kC S (fun h3=>?_) (fun h3=>?_)
 refine kT (xbr (xtr (xtr (xbr ?_))))
 exact endI S ⟨w2,S.wd.agree,.inr (hX (by simpa using h3))⟩
 refine kK (xbn (xtn (kR ?_)));(iterate 2 (refine sq S ?_;clear S;intro a S));refine kN (xtn ?_)
 rw[w64 ((k:Int)+1) (by omega) (by omega)]at S
 exact ⟨k+1,⟨by omega,N',w2,hT (by simpa using h3),S.uu,S⟩,by omega⟩
 refine kE (xte (xte (xbe ?_)))
 have hkn:k=came.length:=by have:=of_decide_eq_false h1;omega
 refine endI S ⟨w1,S.wd.agree,.inl ?_⟩
 rw[toldL,List.length_map,List.length_range,←hkn];exact hJk
def allV (g:Nat):Value:=.func (.func 188) #[] ⟨[.pointer (some ⟨g,0,none⟩)]⟩
theorem all_c (g b:Nat) (q:Option Addr) (e:Nat) (x:WS) (h0:0 < x.said.length) (hc:x.said.length≤e) (w0:World) (f1:Stable (fun _=>False) w0 (BoxF g 134 (cWal b q e x))) :
  Ret Tryz.prog 94 [.pointer (some ⟨g,0,none⟩)] w0 (fun _=>False) fun v w'=>∃ h,v=allV h∧w0.heap.size≤h∧BoxF h 33 [.slice (if e=1 then q else q.map (·.add (1*1))) (x.said.length - 1) (e - 1)] w':=by
 have hLa:LeC 1 x.said.length:=⟨h0⟩
 have hLb:LeC x.said.length e:=⟨hc⟩
 have hLc:LeC 1 e:=⟨by omega⟩
 refine enter Tryz.func94 rfl rfl (Wd.begin (fs:=[BoxF g 134 (cWal b q e x)]) (by simpa using f1)) (fun a S=>?_)
 simp only[Tryz.ntmps94,qqA,qqB,Nat.reduceAdd,Nat.reduceSub,qqC,qqD,qqE,qqF]at S
 refine kS (kR (sq S ?_));clear S;intro a S;refine kN (xtn (kS (kR ?_)));refine sa S ?_;clear S;intro b3 a w S;refine kN (xtn (kS (kS (kR ?_))));(iterate 2 (refine sq S ?_;clear S;intro a S));refine kN (xtn ?_);refine c_condT S ?_;refine kR ?_;(iterate 5 (refine sq S ?_;clear S;intro a S));refine sw S ?_;clear S;intro a w S;refine kN (xtn (kS (kR ?_)));(iterate 2 (refine sq S ?_;clear S;intro a S));refine kN (xtn (kT ?_))
 have hn:=(S.boxNew b3).elim (fun h=>h.elim) id
 have hh:=S.boxF b3
 exact end1 S (fun _=>⟨b3,rfl,hn,hh⟩)
abbrev cBlk (x:Blk):List Value:=encL x.l
instance encBlk:Enc Blk:=⟨64,cBlk,fun x=>x.len,fun _x u hu=>encL_one _ u hu⟩
instance layBlk:Lay Blk:={ encBlk with
 dflt:=zB
 inn:=fun _ _=>True
 mono:=fun _ _ _ _ _=>trivial }
instance:SzE Blk 64:=⟨rfl,by decide⟩
instance {x:Blk} : CellsOf x (encL x.l):=⟨rfl⟩
instance eqgBlk:EqG Tryz.prog 129:=⟨by kernel_rfl⟩
instance lenBlk {x:Blk} : LenIs (encL x.l) 64:=⟨x.len⟩
theorem u8_nat (n:Int):((Wk.u8 n).toNat:Int)=n % 256:=by
 unfold Wk.u8
 rw[UInt8.toNat_ofNat']
 omega
theorem be4 (v:Int):be 4 v=[Wk.u8 (v.fdiv 16777216),Wk.u8 (v.fdiv 65536),Wk.u8 (v.fdiv 256),Wk.u8 (v.fdiv 1)]:=rfl
theorem be2 (v:Int):be 2 v=[Wk.u8 (v.fdiv 256),Wk.u8 (v.fdiv 1)]:=rfl
theorem num1 (c:UInt8) (bs:List UInt8) (x:Int):numB (c::bs) x=numB bs (IntKind.u64.wrap (IntKind.u64.wrap (256*x)+(c.toNat:Int))):=rfl
theorem u32B_be (v:Int) (h:0≤v∧v≤4294967295) (r:List UInt8):u32B (be 4 v++r)=v:=by
 have h1:=Int.fdiv_eq_ediv_of_nonneg v (b:=16777216) (by omega)
 have h2:=Int.fdiv_eq_ediv_of_nonneg v (b:=65536) (by omega)
 have h3:=Int.fdiv_eq_ediv_of_nonneg v (b:=256) (by omega)
 have h4:=Int.fdiv_eq_ediv_of_nonneg v (b:=1) (by omega)
 rw[u32B,List.take_left' (be_len 4 v),be4,num1,num1,num1,num1,u8_nat,u8_nat,u8_nat,u8_nat,h1,h2,h3,h4]
 show IntKind.u32.wrap (numB [] _)=v
 rw[show ∀ x,numB [] x=x from fun _=>rfl]
 rw[wu64 (256*0) (by omega) (by omega),wu64 (256*0+_) (by omega) (by omega),wu64 (256*(256*0+_)) (by omega) (by omega),wu64 (256*(256*0+_)+_) (by omega) (by omega)]
 rw[wu64 (256*(256*(256*0+_)+_)) (by omega) (by omega),wu64 (256*(256*(256*0+_)+_)+_) (by omega) (by omega)]
 rw[wu64 (256*(256*(256*(256*0+_)+_)+_)) (by omega) (by omega),wu64 (256*(256*(256*(256*0+_)+_)+_)+_) (by omega) (by omega)]
 rw[wu32 _ (by omega) (by omega)]
 omega
theorem u16B_be (v:Int) (h:0≤v∧v≤65535) (r:List UInt8):u16B (be 2 v++r)=v:=by
 have h3:=Int.fdiv_eq_ediv_of_nonneg v (b:=256) (by omega)
 have h4:=Int.fdiv_eq_ediv_of_nonneg v (b:=1) (by omega)
 rw[u16B,List.take_left' (be_len 2 v),be2,num1,num1,u8_nat,u8_nat,h3,h4]
 rw[show ∀ x,numB [] x=x from fun _=>rfl]
 rw[wu64 (256*0) (by omega) (by omega),wu64 (256*0+_) (by omega) (by omega),wu64 (256*(256*0+_)) (by omega) (by omega),wu64 (256*(256*0+_)+_) (by omega) (by omega)]
 rw[wu16 _ (by omega) (by omega)]
 omega
theorem be4_inj {u v:Int} (hu:0≤u∧u≤4294967295) (hv:0≤v∧v≤4294967295) (h:be 4 u=be 4 v):u=v:=by
 rw[←u32B_be u hu [],←u32B_be v hv [],h]
theorem wbe2_inj {u v:Int} (hu:0≤u∧u≤65535) (hv:0≤v∧v≤65535) (h:be 2 u=be 2 v):u=v:=by
 rw[←u16B_be u hu [],←u16B_be v hv [],h]
theorem seal_drop {bs:List UInt8} (h:bs.length=60):(sealF bs).l.drop 4=bs:=by
 rw[sealF_l h,List.drop_left' (by rw[List.length_drop,shaF_len])]
theorem Blk.ext' {x y:Blk} (h:x.l=y.l):x=y:=by cases x;cases y;cases h;rfl
theorem leaf_drop (t j:Int) (bs:List UInt8) (k:Nat):(leafF t j bs k).l.drop 4=leafB t j bs.length (bs.drop (48*k)):=seal_drop (leafB_len _ _ _ _)
theorem leaf_parts {t j t' j':Int} {bs bs':List UInt8} {k k':Nat} (h:leafF t j bs k=leafF t' j' bs' k') :
  be 4 t=be 4 t'∧be 4 j=be 4 j'∧be 2 (bs.length:Int)=be 2 (bs'.length:Int)∧be 2 ((bs.drop (48*k)).length:Int)=be 2 ((bs'.drop (48*k')).length:Int)∧pad48 (bs.drop (48*k))=pad48 (bs'.drop (48*k')):=by
 have h1:leafB t j bs.length (bs.drop (48*k))=leafB t' j' bs'.length (bs'.drop (48*k')):=by rw[←leaf_drop,←leaf_drop,h]
 unfold leafB at h1
 obtain ⟨h1,e5⟩:=List.append_inj' h1 (by rw[pad48_len,pad48_len])
 obtain ⟨h1,e4⟩:=List.append_inj' h1 (by rw[be_len,be_len])
 obtain ⟨h1,e3⟩:=List.append_inj' h1 (by rw[be_len,be_len])
 obtain ⟨e1,e2⟩:=List.append_inj' h1 (by rw[be_len,be_len])
 exact ⟨e1,e2,e3,e4,e5⟩
theorem leaf_d12 (t j:Int) (bs:List UInt8) (k:Nat):(leafF t j bs k).l.drop 12=be 2 (bs.length:Int)++(be 2 ((bs.drop (48*k)).length:Int)++pad48 (bs.drop (48*k))):=by
 rw[show 12=4+8 from rfl,←List.drop_drop,leaf_drop,leafB]
 simp only[List.append_assoc]
 rw[←List.append_assoc (be 4 t),List.drop_left' (by simp[be_len])]
theorem leaf_d16 (t j:Int) (bs:List UInt8) (k:Nat):(leafF t j bs k).l.drop 16=pad48 (bs.drop (48*k)):=by
 rw[show 16=12+4 from rfl,←List.drop_drop,leaf_d12,←List.append_assoc,List.drop_left' (by simp[be_len])]
def sizeAt (x:Blk):Int:=u16B (x.l.drop 12)
theorem sizeAt_leaf (t j:Int) (bs:List UInt8) (k:Nat) (h:bs.length≤40000):sizeAt (leafF t j bs k)=bs.length:=by
 rw[sizeAt,leaf_d12,u16B_be _ (by omega)]
theorem sizeAt_range (x:Blk):0≤sizeAt x∧sizeAt x≤65535:=by
 unfold sizeAt u16B IntKind.wrap
 simp only[IntKind.bits,IntKind.signed,Bool.false_and]
 simp;omega
def gather (xs:List Blk):List UInt8:=(xs.map fun x=>x.l.drop 16).flatten
theorem pads (m:Nat):∀ bs:List UInt8,bs.length≤48*m→(((List.range m).map fun k=>pad48 (bs.drop (48*k))).flatten).take bs.length=bs:=by
 induction m with
 | zero=>intro bs h;obtain rfl:bs=[]:=List.eq_nil_of_length_eq_zero (by omega);rfl
 | succ m ih=>
  intro bs h
  rw[List.range_succ_eq_map,List.map_cons,List.flatten_cons,List.map_map]
  have e:((fun k=>pad48 (bs.drop (48*k))) ∘ Nat.succ)=fun k=>pad48 ((bs.drop 48).drop (48*k)):=by
   funext k;simp only[Function.comp_apply,List.drop_drop];congr 2;show 48*(k+1)=_;omega
  rw[e,show 48*0=0 from rfl,List.drop_zero,List.take_append,pad48_len]
  have h2:=ih (bs.drop 48) (by rw[List.length_drop];omega)
  rw[List.length_drop]at h2
  rw[h2]
  by_cases h48:bs.length≤48
  ·rw[List.drop_of_length_le h48,List.append_nil,pad48,List.take_of_length_le h48,List.take_left' rfl]
  ·rw[List.take_of_length_le (by rw[pad48_len];omega),pad48,show 48 - bs.length=0 from by omega,qqD,List.append_nil,List.take_append_drop]
theorem secN_pos (n:Nat):0 < secN n:=by unfold secN;split <;> omega
theorem secN_mul (n:Nat):n≤48*secN n:=by unfold secN;split <;> omega
theorem secN_le (n:Nat) (h:n≤40000):secN n≤834:=by unfold secN;split <;> omega
theorem gather_leaves (t j:Int) (bs:List UInt8):(gather (leavesF t j bs)).take bs.length=bs:=by
 rw[gather,leavesF,List.map_map,show ((fun x:Blk=>x.l.drop 16) ∘ leafF t j bs)=fun k=>pad48 (bs.drop (48*k)) from funext fun k=>leaf_d16 t j bs k]
 exact pads _ _ (secN_mul _)
theorem leaves_get (t j:Int) (bs:List UInt8) (k:Nat) (h:k < secN bs.length):(leavesF t j bs)[k]? = some (leafF t j bs k):=by
 rw[leavesF,List.getElem?_map,List.getElem?_range h];rfl
def Fresh (T:Int) (x:Blk):Prop:=∀ t j bs k,T≤t→t≤4294967295→1≤j→j≤4294967295→x≠leafF t j bs k
theorem Fresh.mono {T T':Int} {x:Blk} (h:Fresh T x) (hT:T≤T'):Fresh T' x:=fun t j bs k h1 h2 h3 h4=>h t j bs k (Int.le_trans hT h1) h2 h3 h4
theorem fresh_zero (T:Int):Fresh T zB:=by
 intro t j bs k _ _ h3 h4 h
 have h1:(zB.l.drop 4).drop 4=be 4 j++(be 2 (bs.length:Int)++(be 2 ((bs.drop (48*k)).length:Int)++pad48 (bs.drop (48*k)))):=by
  rw[h,leaf_drop,leafB]
  simp only[List.append_assoc]
  rw[List.drop_left' (be_len _ _)]
 have h2:u32B ((zB.l.drop 4).drop 4)=j:=by rw[h1,u32B_be j (by omega)]
 have h5:u32B ((zB.l.drop 4).drop 4)=0:=by decide
 omega
theorem fresh_old (T t j:Int) (bs:List UInt8) (k:Nat) (ht:0≤t∧t≤4294967295) (h:t < T):Fresh T (leafF t j bs k):=by
 intro t' j' bs' k' h1 h2 _ _ e
 have:=be4_inj ht (by omega) (leaf_parts e).1
 omega
theorem fresh_zeroth (T t:Int) (bs:List UInt8) (k:Nat):Fresh T (leafF t 0 bs k):=by
 intro t' j' bs' k' _ _ h3 h4 e
 have:=be4_inj (u:=0) (by omega) (by omega) (leaf_parts e).2.1
 omega
def NoEntry (t j:Int) (tail:List Blk):Prop:=∀ bs:List UInt8,bs.length≤40000→¬leavesF t j bs <+: tail
theorem noEntry_fresh {t j:Int} {tail:List Blk} (ht:t≤4294967295) (hj:1≤j∧j≤4294967295) (h:∀ x∈tail,Fresh t x):NoEntry t j tail:=by
 intro bs _ ⟨r,hr⟩
 have h0:=leaves_get t j bs 0 (secN_pos _)
 have hm:leafF t j bs 0∈tail:=by rw[←hr];exact List.mem_append_left _ (List.mem_of_getElem? h0)
 exact h _ hm t j bs 0 (Int.le_refl _) ht hj.1 hj.2 rfl
def standF (t:Int) (field:List Blk) (at_:Nat) (j:Int):Option (List UInt8):=
 if field.length≤at_ then none else
 if (secF (sizeAt (nthG field at_))).toNat=0∨field.length - at_ < (secF (sizeAt (nthG field at_))).toNat then none else
 if leavesF t j ((gather ((field.drop at_).take (secF (sizeAt (nthG field at_))).toNat)).take (sizeAt (nthG field at_)).toNat)=(field.drop at_).take (secF (sizeAt (nthG field at_))).toNat then
  some ((gather ((field.drop at_).take (secF (sizeAt (nthG field at_))).toNat)).take (sizeAt (nthG field at_)).toNat) else none
theorem secF_nat (n:Nat) (h:n≤40000):secF (n:Int)=(secN n:Int):=by
 rw[secF,if_neg (by omega),Int.toNat_natCast]
theorem stand_some {t:Int} {field:List Blk} {at_:Nat} {j:Int} {bs:List UInt8} (hl:bs.length≤40000) (h:leavesF t j bs <+: field.drop at_):standF t field at_ j=some bs:=by
 obtain ⟨r,hr⟩:=h
 have h0:=leaves_get t j bs 0 (secN_pos _)
 have hlen:(leavesF t j bs).length=secN bs.length:=leavesF_len _ _ _
 have hd:field.length - at_=secN bs.length+r.length:=by rw[←List.length_drop,←hr,List.length_append,hlen]
 have hp:=secN_pos bs.length
 have hn:nthG field at_=leafF t j bs 0:=by
  have h1:field[at_]? = some (leafF t j bs 0):=by
   have h2:(field.drop at_)[0]? = some (leafF t j bs 0):=by rw[←hr,List.getElem?_append_left (by omega),h0]
   rwa [List.getElem?_drop,Nat.add_zero]at h2
  have h3:=nthG_get (xs:=field) (k:=at_) (by omega)
  exact Option.some.inj (h3.symm.trans h1)
 have hs:sizeAt (nthG field at_)=(bs.length:Int):=by rw[hn,sizeAt_leaf _ _ _ _ hl]
 have hf:(secF (sizeAt (nthG field at_))).toNat=secN bs.length:=by rw[hs,secF_nat _ hl,Int.toNat_natCast]
 have ht:(field.drop at_).take (secN bs.length)=leavesF t j bs:=by rw[←hr,List.take_left' hlen]
 have hg:(gather ((field.drop at_).take (secN bs.length))).take bs.length=bs:=by rw[ht,gather_leaves]
 rw[standF,if_neg (by omega),hf,hs,Int.toNat_natCast,hg,ht,if_neg (by omega),if_pos rfl]
theorem stand_get {t:Int} {field:List Blk} {at_:Nat} {j:Int} {bs:List UInt8} (h:standF t field at_ j=some bs):bs.length≤40000∧leavesF t j bs <+: field.drop at_:=by
 rw[standF]at h
 split at h
 cases h
 split at h
 cases h
 rename_i h1 h2
 split at h
 rename_i h3
 have hb:=Option.some.inj h
 rw[hb]at h3
 have hr:=sizeAt_range (nthG field at_)
 have h40:(sizeAt (nthG field at_)).toNat≤40000:=by
  unfold secF at h2
  split at h2
  simp at h2
  omega
 refine ⟨?_,by rw[h3];exact List.take_prefix _ _⟩
 rw[←hb,List.length_take];omega
 cases h
theorem stand_none {t:Int} {field:List Blk} {at_:Nat} {j:Int} (h:NoEntry t j (field.drop at_)):standF t field at_ j=none:=by
 cases hs:standF t field at_ j with
 | none=>rfl
 | some bs=>exact absurd (stand_get hs).2 (h bs (stand_get hs).1)
theorem stand_len {t:Int} {field:List Blk} {at_:Nat} {j:Int} {bs:List UInt8} (h:standF t field at_ j=some bs):at_+secN bs.length≤field.length:=by
 obtain ⟨r,hr⟩:=(stand_get h).2
 have h1:=congrArg List.length hr
 have h2:=secN_pos bs.length
 rw[List.length_append,leavesF_len,List.length_drop]at h1
 omega
def readF (t:Int) (field:List Blk):Nat→Nat→Nat→List (List UInt8) × Nat
 | 0,at_,_=>([],at_)
 | f+1,at_,j=>match standF t field at_ (j:Int) with
  | none=>([],at_)
  | some bs=>(bs::(readF t field f (at_+secN bs.length) (j+1)).1,(readF t field f (at_+secN bs.length) (j+1)).2)
theorem readF_none {t:Int} {field:List Blk} {at_ j:Nat} (h:standF t field at_ (j:Int)=none):∀ f,readF t field f at_ j=([],at_)
 | 0=>rfl
 | f+1=>by rw[readF,h]
def laidF (t:Int):List (List UInt8)→Nat→List Blk
 | [],_=>[]
 | b::l,j=>leavesF t (j:Int) b++laidF t l (j+1)
theorem readF_laid {t:Int} (tail:List Blk):∀ (said:List (List UInt8)) (pre:List Blk) (j f:Nat),(∀ b∈said,b.length≤40000)→(laidF t said j).length+tail.length≤f→NoEntry t ((j+said.length:Nat):Int) tail→
  readF t (pre++(laidF t said j++tail)) f pre.length j=(said,pre.length+(laidF t said j).length):=by
 intro said
 induction said with
 | nil=>
  intro pre j f _ _ hn
  rw[laidF,qqF]
  exact readF_none (stand_none (by rw[List.drop_left];exact hn)) f
 | cons b l ih=>
  intro pre j f hl hf hn
  have hb:=hl b (by simp)
  have hp:=secN_pos b.length
  have hs:standF t (pre++(laidF t (b::l) j++tail)) pre.length (j:Int)=some b:=stand_some hb (by rw[List.drop_left,laidF,List.append_assoc];exact ⟨_,rfl⟩)
  rw[laidF,List.length_append,leavesF_len]at hf
  cases f with
  | zero=>omega
  | succ f=>
   have h1:=ih (pre++leavesF t (j:Int) b) (j+1) f (fun x hx=>hl x (by simp[hx])) (by omega) (by rw[show j+1+l.length=j+(b::l).length from by rw[qqA];omega];exact hn)
   rw[List.length_append,leavesF_len]at h1
   rw[readF,hs]
   simp only[]
   have e:pre++(laidF t (b::l) j++tail)=pre++leavesF t (j:Int) b++(laidF t l (j+1)++tail):=by rw[laidF];simp only[List.append_assoc]
   rw[e,h1]
   rw[show (laidF t (b::l) j).length=secN b.length+(laidF t l (j+1)).length from by rw[laidF,List.length_append,leavesF_len]]
   rw[Nat.add_assoc]
theorem laidF_snoc (t:Int) (b:List UInt8):∀ (l:List (List UInt8)) (j:Nat),laidF t (l++[b]) j=laidF t l j++leavesF t ((j+l.length:Nat):Int) b
 | [],j=>by simp[laidF]
 | x::l,j=>by rw[qqE,laidF,laidF,laidF_snoc t b l (j+1),List.append_assoc,qqA,show j+1+l.length=j+(l.length+1) from by omega]
structure LAct where
 kind:Int
 n:Int
 fill:UInt8
 p:Option Addr
 c:Nat
 keep:List Bool
abbrev cAct (x:LAct):List Value:=[.int .i64 x.kind,.int .i64 x.n,.int .u8 (x.fill.toNat:Int),.slice x.p x.keep.length x.c]
theorem dnew_dk (n:Int) (h:1≤n∧n≤2048) (w0:World):Ret Tryz.prog 45 [.int .i64 n] w0 (fun _=>False) fun v w'=>∃ b m,v=.tuple ⟨[.pointer (some ⟨b,0,none⟩),.int .i64 0]⟩∧(dkI b m none 0 (newD n)).holds w'∧∀ k,(dkI b m none 0 (newD n)).foot k→w0.heap.size≤k:=by
 refine (dnew_c n h w0).mono fun v w'=>?_
 rintro ⟨b,m,rfl,hne,hb,hm,h1,h2⟩
 refine ⟨b,m,rfl,⟨h1,⟨h2,World.ownsRow_nil _ _ _ _,fun k _ ⟨ad,h,_⟩=>by cases h⟩,?_⟩,?_⟩
 rintro k hk (hk2 | ⟨ad,h,_⟩)
 exact hne ((show b=k from hk.symm).trans hk2)
 cases h
 rintro k (hk | hk | ⟨ad,h,_⟩)
 exact (show k=b from hk)▸hb
 exact (show k=m from hk)▸hm
 cases h
instance (priority:=500) opPgE {P:Program} {l:Cx} {bs:List Wk.Item} {fs:List (World→Prop)} {x y:Operand} {t t' ty e:TypeId} {q:Option Addr} [Ev l x (.pointer q)] [Ev l y (.pointer none)] [Und P t (.pointer e)]:OpQ P (.binOp .eql t x y t') ty l bs fs (.bool q.isNone):=by
 cases q
 exact opPnE
 exact opPsE
theorem u32B_range (bs:List UInt8):0≤u32B bs∧u32B bs≤4294967295:=by
 unfold u32B IntKind.wrap
 simp only[IntKind.bits,IntKind.signed,Bool.false_and]
 simp;omega
theorem rdD_loose (s:DS) (k:Int):(rdD s k).loose=s.loose:=by
 unfold rdD
 split
 show (askD s k false).loose=_;exact askD_loose s k false
 exact askD_loose s k false
structure Bst where
 has:Bool
 n:Int
 t:Int
def ptB (b:Nat) (B:Bst):Option Addr:=if B.has then some ⟨b,0,none⟩ else none
theorem ptB_none (b:Nat) (B:Bst):(ptB b B).isNone = !B.has:=by
 unfold ptB
 cases B.has <;> rfl
abbrev cBst (b:Nat) (B:Bst):List Value:=[.pointer (ptB b B),.int .i64 B.n,.int .u32 B.t]
def tellN (x:Blk):Int:=u32B (x.l.drop 4)
def tellT (x:Blk):Int:=u32B ((x.l.drop 4).drop 4)
def candF (s:DS) (i:Nat) (x:Blk) (B:Bst):Bool:=mayF s (tellN x)&&decide (tellT x % 2=(i:Int))&&decide (x.l=(titleF (tellT x) (tellN x)).l)&&(!B.has||decide (B.t < tellT x))
def cntStep (s:DS) (i:Nat) (x:Blk) (B:Bst):Bst:=if candF s i x B then ⟨true,tellN x,tellT x⟩ else B
def cntR:Nat→Nat→DS→Bst→DS × Int × Bst
 | 0,_,s,B=>if B.has then (s,0,B) else (s,140,⟨false,0,0⟩)
 | k+1,i,s,B=>if askE s (i:Int) false=0 then cntR k (i+1) (rdD s i) (cntStep (rdD s i) i (rdB s i) B) else (rdD s i,askE s i false,⟨false,0,0⟩)
def cntF (s:DS):DS × Int × Bst:=cntR 2 0 s ⟨false,0,0⟩
theorem counts_c (b m:Nat) (p:Option Addr) (c:Nat) (s:DS) (w0:World) (hl:s.loose.length≤999000) (hd:(dkI b m p c s).holds w0) :
  Ret Tryz.prog 146 [.pointer (some ⟨b,0,none⟩)] w0 (dkI b m p c s).foot fun v w'=>v=.tuple ⟨[.agg ⟨cBst b (cntF s).2.2⟩,.int .i64 (cntF s).2.1]⟩∧∃ p' c',(dkI b m p' c' (cntF s).1).holds w'∧∀ i,(dkI b m p' c' (cntF s).1).foot i→(dkI b m p c s).foot i∨w0.heap.size≤i:=by
 refine enter Tryz.func146 rfl rfl (Wd.itLent (x:=dkI b m p c s) (fs:=[]) hd (by simp)) (fun a S=>?_)
 simp only[Tryz.ntmps146,qqA,qqB,Nat.reduceAdd,Nat.reduceSub,qqC,qqD,qqE,qqF]at S
 refine kS (kR ?_);refine sa S ?_;clear S;intro b2 a w S;refine sq S ?_;clear S;intro a S;refine kN (xtn (kS (kR ?_)));refine sa S ?_;clear S;intro b4 a w S;refine kN (xtn (kS (kS (kR (sq S ?_)))));clear S;intro a S;refine kN (xtn (kB ?_))
 refine c_forf5 S (fun(i:Nat) (s':DS) (p':Option Addr) (c':Nat) (B:Bst) uu=>[(3,uu 3),(1,uu 5),(0,uu 6),(0,uu 7),(0,uu 8),(0,uu 9),(0,uu 10),(0,.int .i64 (i:Nat)),(0,uu 12),(0,uu 13),(0,uu 14),(0,uu 15),(0,uu 16),(0,uu 17),(0,uu 18),(0,uu 19),(0,uu 20),(0,uu 21),(0,uu 22),(0,uu 23),(0,uu 24),(0,uu 25),(0,uu 26),(0,uu 27),(0,uu 28),(0,uu 29),(0,uu 30),(0,uu 31),(0,uu 32),(0,uu 33),(0,uu 34),(0,uu 35),(0,uu 36),(0,uu 37),(0,uu 38),(0,uu 39),(0,uu 40),(0,uu 41),(0,uu 42),(0,uu 43),(0,uu 44),(0,uu 45),(0,uu 46),(0,uu 47),(0,uu 48),(0,uu 49),(0,uu 50),(0,uu 51),(0,uu 52),(0,uu 53),(0,uu 54),(0,uu 55),(0,uu 56),(0,uu 57),(0,uu 58),(0,uu 59),(0,uu 60),(0,uu 61),(0,uu 62),(0,uu 63)]) (fun(i:Nat) (s':DS) (p':Option Addr) (c':Nat) (B:Bst)=>[Wk.box b4 132 (cBst b B),Wk.box b2 132 [.pointer none,.int .i64 0,.int .u32 0],dkI b m p' c' s']) (fun(i:Nat) (s':DS) (p':Option Addr) (c':Nat) (B:Bst)=>i≤2∧cntF s=cntR (2 - i) i s' B∧s'.loose=s.loose) (fun(i:Nat) (s':DS) (p':Option Addr) (c':Nat) (B:Bst)=>2 - i) (0) (s) (p) (c) (⟨false,0,0⟩) ?_ S.uu ?_ ?_
 exact ⟨by omega,rfl,rfl⟩
 exact S
 clear S;rintro i s' p' c' B uu a w ⟨hi,hre,hsl⟩ S
 refine kS (kR (sq S ?_));clear S;intro a S;refine kN (xtn (kS ?_))
 refine kC S (fun h3=>?_) (fun h3=>?_)
 refine kK (xtn (kS (kB (kS ?_))))
 have hi2:i < 2:=by have:=of_decide_eq_true h3;omega
 rw[show 2 - i=(2 - (i+1))+1 from by omega,cntR]at hre
 refine kR ?_;(iterate 2 (refine sq S ?_;clear S;intro a S));refine kN (xtn (kS (kR ?_)));(iterate 2 (refine sq S ?_;clear S;intro a S))
 refine sit (dkI b m p' c' s') S (dread_c b m p' c' s' (i:Int) _ (by rw[hsl];omega) (S.it (dkI b m p' c' s'))) rfl ?_;clear S;rintro _ a w ⟨rfl,p2,c2,hh,hn⟩ hS
 have S:=hS (dkI b m p2 c2 (rdD s' i)) hh hn
 clear hS
 (iterate 3 (refine sq S ?_;clear S;intro a S));refine sa S ?_;clear S;intro b6 a w S;refine sw S ?_;clear S;intro a w S
 obtain ⟨x,hx⟩:∃ x,x=rdB s' i:=⟨_,rfl⟩
 rw[←hx]at S hre
 refine sq S ?_;clear S;intro a S;refine kN (xtn (kS (kS (kR ?_))));(iterate 2 (refine sq S ?_;clear S;intro a S));refine kN (xtn ?_)
 refine kC S (fun h6=>?_) (fun h6=>?_)
 refine kS (kR ?_);(iterate 2 (refine sq S ?_;clear S;intro a S));refine sw S ?_;clear S;intro a w S;refine sq S ?_;clear S;intro a S;refine kN (xtn (kT (xtr (xbr (xtr (xtr (xbr (xtr ?_))))))))
 have he:askE s' (i:Int) false≠0:=by simpa using h6
 rw[if_neg he]at hre
 have h1:=S.itNew (dkI b m p2 c2 (rdD s' i)) rfl
 have hh:=S.it (dkI b m p2 c2 (rdD s' i))
 refine end2 S (fun _=>?_)
 rw[hre]
 exact ⟨rfl,p2,c2,hh,h1⟩
 refine kK (xtn (kS ?_))
 have hL1:LeC 4 64:=⟨by omega⟩
 have hL2:LeC 64 64:=⟨by omega⟩
 have he:askE s' (i:Int) false=0:=by simpa using h6
 rw[if_pos he]at hre
 refine kR (sq S ?_);clear S;intro a S
 have hold:=foots_lt S
 have hxl:=x.h
 have hg:Stable (fun _=>False) w (GlF (some ⟨b6,4,none⟩) (x.l.drop 4)):=(glStable (glBox (S.box b6))).imp fun _ h=>h.drop 4 (c:=64) (by rw[x.h];omega)
 refine snew S (oread_c (x.l.drop 4) (some ⟨b6,4,none⟩) 60 60 _ (by rw[List.length_drop];omega) (by omega) hg) ?_;clear S;rintro _ a w hsz ⟨br,q,e,rfl,hbr,hrd,hqe,hq⟩ hS -
 have S:=hS (Wk.box br 238 [.slice q (x.l.drop 4).length e,.int .i64 0]) hrd (fun k hk=>by rw[show k=br from hk];exact hbr)
 clear hS
 replace S:=St.addOld S hold hq
 have hd4:(x.l.drop 4).length=60:=by rw[List.length_drop];omega
 have hd8:(x.l.drop 4).length - 4=((x.l.drop 4).drop 4).length:=by simp only[List.length_drop]
 refine sq S ?_;clear S;intro a S;refine kN (xtn (kS (kR (sq S ?_))));clear S;intro a S
 refine sit (Wk.box br 238 [.slice q (x.l.drop 4).length e,.int .i64 0]) S (u32_c br (x.l.drop 4) q e _ (by omega) hqe (by omega) (S.box br) (S.lend (Wk.box br 238 [.slice q (x.l.drop 4).length e,.int .i64 0]) (S.mem.fact (GlF q (x.l.drop 4))))) rfl ?_;clear S;rintro _ a w ⟨rfl,hbx⟩ hS
 have S:=hS (Wk.box br 238 [.slice (if e=4 then q else q.map (·.add (4*1))) ((x.l.drop 4).length - 4) (e - 4),.int .i64 0]) hbx (fun k h=>.inl h)
 clear hS
 replace S:=S.add (Φ:=GlF (if e=4 then q else q.map (·.add (4*1))) ((x.l.drop 4).drop 4)) ((S.mem.fact (GlF q (x.l.drop 4))).imp fun _ h=>h.drop 4 hqe)
 rw[hd8]at S
 obtain ⟨q2,hq2⟩:∃ q2,q2=(if e=4 then q else q.map (·.add (4*1))):=⟨_,rfl⟩
 rw[←hq2]at S
 refine sq S ?_;clear S;intro a S
 have hur:=u32B_range (x.l.drop 4)
 rw[w64 (u32B (x.l.drop 4)) (by omega) (by omega)]at S
 refine sq S ?_;clear S;intro a S
 refine sit (Wk.box br 238 [.slice q2 ((x.l.drop 4).drop 4).length (e - 4),.int .i64 0]) S (u32_c br ((x.l.drop 4).drop 4) q2 (e - 4) _ (by omega) (by omega) (by omega) (S.box br) (S.lend (Wk.box br 238 [.slice q2 ((x.l.drop 4).drop 4).length (e - 4),.int .i64 0]) (S.mem.fact (GlF q2 ((x.l.drop 4).drop 4))))) rfl ?_;clear S;rintro _ a w ⟨rfl,hbx⟩ hS
 have S:=hS (Wk.box br 238 [.slice (if e - 4=4 then q2 else q2.map (·.add (4*1))) (((x.l.drop 4).drop 4).length - 4) (e - 4 - 4),.int .i64 0]) hbx (fun k h=>.inl h)
 clear hS
 (iterate 2 (refine sq S ?_;clear S;intro a S));refine kN (xtn (kS ?_))
 rw[show u32B (x.l.drop 4)=tellN x from rfl,show u32B ((x.l.drop 4).drop 4)=tellT x from rfl]at S
 have hn2:0≤tellN x∧tellN x≤4294967295:=u32B_range _
 have ht2:0≤tellT x∧tellT x≤4294967295:=u32B_range _
 have hT:∀ bs fs,CallV Tryz.prog 176 [.int .u32 (tellT x),.int .i64 (tellN x)] bs fs (vBlk (titleF (tellT x) (tellN x))):=fun bs fs=>⟨fun w _=>title_c (tellT x) (tellN x) ht2 hn2 w⟩
 refine c_drawD [(0,true),(1,true),(2,false),(3,true),(4,true),(5,true),(6,true),(7,true),(8,true),(9,true),(10,true),(11,true),(12,true),(13,true),(14,false),(15,true),(16,true),(17,true),(18,true),(19,true),(20,true),(21,true),(22,true),(23,true),(24,true),(25,true),(26,true),(27,true)] [] S ?_;clear S;intro w S;(iterate 2 (refine dq S ?_;clear S;intro a S));refine dl ?_
 have hdk:(dkI b m p2 c2 (rdD s' i)).holds w:=S.it (dkI b m p2 c2 (rdD s' i))
 refine sr S (may_c b m p2 c2 (rdD s' i).loose.length (rdD s' i) (tellN x) _ (BoxF.stable hdk.1 (fun h=>h))) ?_;clear S;rintro _ a w rfl S
 refine de S ?_;refine dq S ?_;clear S;intro a S;(iterate 5 (refine dqG S ?_;clear S;intro a S));(iterate 2 (refine dq S ?_;clear S;intro a S));(iterate 3 (refine dqG S ?_;clear S;intro a S));refine dl ?_;refine gC S ?_;clear S;intro a w S;refine de S ?_;refine dqG S ?_;clear S;intro a S;(iterate 2 (refine dq S ?_;clear S;intro a S));(iterate 9 (refine dqG S ?_;clear S;intro a S));refine dq S ?_;clear S;intro a S;refine dn (xtn ?_)
 refine kC S (fun h10=>?_) (fun h10=>?_)
 refine kR ?_;(iterate 4 (refine sq S ?_;clear S;intro a S));refine sw S ?_;clear S;intro a w S;refine kN (xbn (xtn (kR ?_)));(iterate 2 (refine sq S ?_;clear S;intro a S));refine kN (xtn ?_)
 rw[show IntKind.i64.wrap ((i:Int)+1)=((i+1:Nat):Int) from by rw[w64 _ (by omega) (by omega)];rfl]at S
 have hc:cntStep (rdD s' i) i x B=⟨true,tellN x,tellT x⟩:=by
  rw[Int.tmod_eq_emod_of_nonneg ht2.1,w64 _ (by omega) (by omega),ptB_none]at h10
  rw[cntStep,candF,if_pos h10]
 rw[hc]at hre
 refine ⟨i+1,rdD s' i,p2,c2,⟨true,tellN x,tellT x⟩,S.uu,⟨by omega,hre,by rw[rdD_loose,hsl]⟩,S.sub [Wk.box b4 132 [.pointer (some ⟨b,0,none⟩),.int .i64 (tellN x),.int .u32 (tellT x)],Wk.box b2 132 [.pointer none,.int .i64 0,.int .u32 0],dkI b m p2 c2 (rdD s' i)] [],by omega⟩
 refine kK (xbn (xtn (kR ?_)));(iterate 2 (refine sq S ?_;clear S;intro a S));refine kN (xtn ?_)
 rw[show IntKind.i64.wrap ((i:Int)+1)=((i+1:Nat):Int) from by rw[w64 _ (by omega) (by omega)];rfl]at S
 have hc:cntStep (rdD s' i) i x B=B:=by
  rw[Int.tmod_eq_emod_of_nonneg ht2.1,w64 _ (by omega) (by omega),ptB_none]at h10
  rw[cntStep,candF,if_neg (by rw[h10];exact Bool.false_ne_true)]
 rw[hc]at hre
 refine ⟨i+1,rdD s' i,p2,c2,B,S.uu,⟨by omega,hre,by rw[rdD_loose,hsl]⟩,S.sub _ _,by omega⟩
 refine kE (xte (xte (xbe (xtn (kS (kS (kR ?_)))))));(iterate 3 (refine sq S ?_;clear S;intro a S));refine kN (xtn ?_)
 refine kC S (fun h13=>?_) (fun h13=>?_)
 refine kS (kR (sq S ?_));clear S;intro a S;refine sw S ?_;clear S;intro a w S;refine sq S ?_;clear S;intro a S;refine kN (xtn (kT (xtr ?_)))
 have hi2:i=2:=by have:=of_decide_eq_false h3;omega
 subst hi2
 rw[ptB_none]at h13
 have hB:B.has=false:=by simpa using h13
 have h1:=S.itNew (dkI b m p' c' s') rfl
 have hh:=S.it (dkI b m p' c' s')
 refine end2 S (fun _=>?_)
 rw[hre,cntR,if_neg (by rw[hB];exact Bool.false_ne_true)]
 exact ⟨rfl,p',c',hh,h1⟩
 refine kK (xtn (kS (kR (sq S ?_))));clear S;intro a S;refine sw S ?_;clear S;intro a w S;refine sq S ?_;clear S;intro a S;refine kN (xtn (kT ?_))
 have hi2:i=2:=by have:=of_decide_eq_false h3;omega
 subst hi2
 rw[ptB_none]at h13
 have hB:B.has=true:=by simpa using h13
 have h1:=S.itNew (dkI b m p' c' s') rfl
 have hh:=S.it (dkI b m p' c' s')
 refine end2 S (fun _=>?_)
 rw[hre,cntR,if_pos hB]
 exact ⟨rfl,p',c',hh,h1⟩
instance (priority:=1190) opSliceArrG {P:Program} {t ty e:TypeId} {lc:Cx} {bs:List Wk.Item} {fs:List (World→Prop)} {x:Operand} {ol oh:Option Operand} {q:Option Addr} {k s o lo hi n sz by_:Nat} {z:Value} [Ev lc x (.pointer (some (gAddr q k s o)))] [hl:EvB lc ol 0 lo] [hh:EvB lc oh n hi] [ht:Und P t (.array n e)] [TI P e z sz by_] [h2:LeC hi n] [h3:LeC lo hi] :
  OpQ P (.slice t x ol oh none) ty lc bs fs (.slice (some (if n=lo then gAddr q k s o else gAddr q k s (o+lo*sz))) (hi - lo) (n - lo)):=⟨fun ρ w hf _=>by
 have hb:(Instr.sliceBounds false n n (ol.map ρ) (oh.map ρ) none).run P w=.ok (lo,hi,n) w:=by
  rcases hh.eq with ⟨rfl,rfl⟩ | ⟨o2,kk2,rfl,h'⟩
  rcases hl.eq with ⟨rfl,rfl⟩ | ⟨o3,kk3,rfl,h''⟩
  simp[Instr.sliceBounds]
  have e3:=hf.ev (x:=o3) (v:=.int kk3 (lo:Int))
  simp[Instr.sliceBounds,e3,Go.Wk.run_sliceBound h3.le]
  have e2:=hf.ev (x:=o2) (v:=.int kk2 (hi:Int))
  rcases hl.eq with ⟨rfl,rfl⟩ | ⟨o3,kk3,rfl,h''⟩
  simp[Instr.sliceBounds,e2,Go.Wk.run_sliceBound h2.le]
  have e3:=hf.ev (x:=o3) (v:=.int kk3 (lo:Int))
  simp[Instr.sliceBounds,Sem.run_bind,e2,e3,Go.Wk.run_sliceBound h2.le,Go.Wk.run_sliceBound h3.le]
 have eX:ρ x=.pointer (some (gAddr q k s o)):=hf.ev
 simp[xop,execOp,Instr.sliceAt,eX,Sem.run_bind,run_und,Instr.sureAddr,hb,run_size,gAddr_add]⟩
theorem gl_elem {w:World} {q:Option Addr} {xs:List Blk} {k:Nat} (o:Nat) (hk:k < xs.length) (h:GlF q xs w):GlF (some (gAddr q k 64 o)) ((nthG xs k).l.drop o) w:=by
 refine ⟨⟨fun h=>(by cases h),fun ad hp j u hj=>?_⟩,fun _ _=>trivial⟩
 obtain rfl:=Option.some.inj hp
 rw[gAddr_add]
 have h1:=encL_dropG (nthG xs k).l o
 rw[show o*Enc.sz UInt8=o from Nat.mul_one o]at h1
 rw[h1,List.getElem?_drop]at hj
 exact gl_cell h hk hj
theorem gl_block {w:World} {p:Option Addr} {bs:List UInt8} (h:GlF p bs w) (hl:0 < bs.length) {ad:Addr} (hp:p=some ad):ad.block < w.heap.size:=by
 have h0:0 < (encL bs).length:=by rw[encL_len];exact Nat.mul_pos hl (by decide)
 have h1:=h.1.2 ad hp 0 _ (List.getElem?_eq_getElem h0)
 have h2:(ad.add 0).block=ad.block:=by unfold Addr.add;split <;> rfl
 unfold World.cell? at h1
 rw[h2]at h1
 cases hb:w.heap[ad.block]? with
 | none=>rw[hb]at h1;cases h1
 | some o=>exact (Array.getElem?_eq_some_iff.1 hb).1
theorem ent1_holds {w:World} {p:Option Addr} {c:Nat} {bs:List UInt8} (h1:∀ ad,p=some ad→ad.block < w.heap.size) (h2:GlF p bs w):(entI [⟨p,c,bs⟩]).holds w:=fun x hx=>by obtain rfl:=List.mem_singleton.1 hx;exact ⟨h1,h2⟩
theorem gather_len (xs:List Blk):(gather xs).length=48*xs.length:=by
 induction xs with
 | nil=>rfl
 | cons x xs ih=>
  have h1:=x.h
  have h2:gather (x::xs)=x.l.drop 16++gather xs:=rfl
  rw[h2,List.length_append,ih,List.length_drop,qqA];omega
theorem gather_snoc (xs:List Blk) (x:Blk):gather (xs++[x])=gather xs++x.l.drop 16:=by simp[gather]
theorem secF_bound (n:Int):0≤secF n∧secF n≤834:=by
 unfold secF
 split
 omega
 have:=secN_le n.toNat (by omega);omega
theorem secF_size {n:Int} (h:0≤n) (h2:(secF n).toNat≠0):n≤40000∧(secF n).toNat=secN n.toNat∧n.toNat≤48*(secF n).toNat:=by
 have hm:=secN_mul n.toNat
 unfold secF at h2⊢
 split at h2
 exact absurd rfl h2
 rename_i h3
 rw[if_neg h3,Int.toNat_natCast]
 exact ⟨by omega,rfl,hm⟩
theorem stands_c (b n:Nat) (turn:Int) (field:List Blk) (q:Option Addr) (e at_ j:Nat) (ht:0≤turn∧turn≤4294967295) (hj:j≤1000000) (hfl:field.length≤1000) (hfe:field.length≤e) (hat:at_≤1000000) (w0:World) (f0:Stable (fun _=>False) w0 (GlF q field)) :
  Ret Tryz.prog 148 [.agg ⟨cBook b n turn⟩,.slice q field.length e,.int .i64 (at_:Int),.int .i64 (j:Int)] w0 (fun _=>False) fun v w'=>
   (standF turn field at_ j=none∧v=.tuple ⟨[.slice none 0 0,.bool false]⟩)∨
   (∃ bs p',standF turn field at_ j=some bs∧v=.tuple ⟨[.slice p' bs.length bs.length,.bool true]⟩∧(entI [⟨p',bs.length,bs⟩]).holds w'∧∀ k,(entI [⟨p',bs.length,bs⟩]).foot k→w0.heap.size≤k):=by
 refine enterM Tryz.func148 rfl rfl (Wd.begin (fs:=[GlF q field]) (by simpa using f0)) (fun a S=>?_)
 simp only[Tryz.ntmps148,qqA,qqB,Nat.reduceAdd,Nat.reduceSub,qqC,qqD,qqE,qqF]at S
 refine kS (kR ?_);refine sa S ?_;clear S;intro b4 a w S;refine sa S ?_;clear S;intro b5 a w S;refine sa S ?_;clear S;intro b6 a w S;refine sa S ?_;clear S;intro b8 a w S;refine sa S ?_;clear S;intro b9 a w S;refine kN (xtn (kS (kS (kR ?_))));(iterate 4 (refine sq S ?_;clear S;intro a S));refine kN (xtn ?_)
 refine kC S (fun h1=>?_) (fun h1=>?_)
 ·refine kS (kR ?_);(iterate 2 (refine sw S ?_;clear S;intro a w S));refine kN (xtn (kT (xtr ?_)))
  have h:field.length≤at_:=by have:=of_decide_eq_true h1;omega
  refine endM2 S (fun w hw=>.inl ⟨by rw[standF,if_pos h],rfl⟩)
 ·refine kK (xtn (kS ?_))
  have hlt:at_ < field.length:=by have:=of_decide_eq_false h1;omega
  have hK:KLt at_ field.length:=⟨hlt⟩
  have hL1:LeC 12 64:=⟨by omega⟩
  have hL2:LeC 64 64:=⟨by omega⟩
  have hL3:LeC 16 64:=⟨by omega⟩
  obtain ⟨x,hx⟩:∃ x,x=nthG field at_:=⟨_,rfl⟩
  have hxl:=x.h
  refine kR ?_;(iterate 4 (refine sq S ?_;clear S;intro a S))
  rw[show (Value.slice (some (if 64=12 then gAddr q at_ 64 0 else gAddr q at_ 64 (0+12*1))) (64 - 12) (64 - 12))=.slice (some (gAddr q at_ 64 12)) 52 52 from rfl]at S
  have hold:=foots_lt S
  refine snew S (oread_c (x.l.drop 12) (some (gAddr q at_ 64 12)) 52 52 _ (by rw[List.length_drop];omega) (by omega) ((S.mem.fact (GlF q field)).imp (fun _ h=>hx▸gl_elem 12 hlt h) |>.less fun _ _ h=>h.elim)) ?_;clear S;rintro _ a w hsz ⟨br,qr,er,rfl,hbr,hrd,hqe,hq⟩ hS -
  have S:=hS (Wk.box br 238 [.slice qr (x.l.drop 12).length er,.int .i64 0]) hrd (fun k hk=>by rw[show k=br from hk];exact hbr)
  clear hS
  replace S:=St.addOld S hold hq
  have hd4:(x.l.drop 12).length=52:=by rw[List.length_drop];omega
  refine sq S ?_;clear S;intro a S;refine kN (xtn (kS (kR (sq S ?_))));clear S;intro a S
  refine sit (Wk.box br 238 [.slice qr (x.l.drop 12).length er,.int .i64 0]) S (u16_c br (x.l.drop 12) qr er _ (by omega) hqe (by omega) (S.box br) (S.lend (Wk.box br 238 [.slice qr (x.l.drop 12).length er,.int .i64 0]) (S.mem.fact (GlF qr (x.l.drop 12))))) rfl ?_;clear S;rintro _ a w ⟨rfl,hbx⟩ hS
  have S:=hS (Wk.box br 238 [.slice (if er=2 then qr else qr.map (·.add (2*1))) ((x.l.drop 12).length - 2) (er - 2),.int .i64 0]) hbx (fun k h=>.inl h)
  clear hS
  refine sq S ?_;clear S;intro a S
  have hsr:=sizeAt_range x
  rw[show u16B (x.l.drop 12)=sizeAt x from rfl]at S
  obtain ⟨sz,hsz2⟩:∃ sz:Nat,sizeAt x=(sz:Int):=⟨(sizeAt x).toNat,by omega⟩
  rw[hsz2]at hsr
  rw[hsz2,w64 (sz:Int) (by omega) (by omega)]at S
  refine sq S ?_;clear S;intro a S;refine kN (xtn (kS (kR (sq S ?_))));clear S;intro a S;refine sr S (sectors_c (sz:Int) _) ?_;clear S;rintro _ a w rfl S
  have hsb:=secF_bound (sz:Int)
  obtain ⟨M,hM⟩:∃ M:Nat,secF (sz:Int)=(M:Int):=⟨(secF (sz:Int)).toNat,by omega⟩
  rw[hM]at S
  refine sq S ?_;clear S;intro a S;refine kN (xtn (kS (kS (kR ?_))));(iterate 3 (refine sq S ?_;clear S;intro a S));(iterate 6 (refine gQ S ?_;clear S;intro a S));refine sq S ?_;clear S;intro a S;refine kN (xtn ?_)
  refine kC S (fun h6=>?_) (fun h6=>?_)
  ·refine kS (kR ?_);(iterate 2 (refine sw S ?_;clear S;intro a w S));refine kN (xtn (kT (xtr ?_)))
   have h:M=0∨field.length - at_ < M:=by
    rw[w64 ((field.length:Int) - (at_:Int)) (by omega) (by omega)]at h6
    simp at h6;omega
   refine endM2 S (fun w hw=>.inl ⟨?_,rfl⟩)
   rw[standF,if_neg (by omega),←hx,hsz2,hM,Int.toNat_natCast,if_pos h]
  ·refine kK (xtn (kS ?_))
   have hM2:M≠0∧M≤field.length - at_:=by
    rw[w64 ((field.length:Int) - (at_:Int)) (by omega) (by omega)]at h6
    simp at h6;omega
   have hss:=secF_size (n:=(sz:Int)) (by omega) (by rw[hM,Int.toNat_natCast];exact hM2.1)
   rw[hM,Int.toNat_natCast,Int.toNat_natCast]at hss
   have hLa:LeC at_ (at_+M):=⟨by omega⟩
   have hLb:LeC (at_+M) e:=⟨by omega⟩
   have hLc:LeC e e:=⟨Nat.le_refl _⟩
   refine kR (sq S ?_);clear S;intro a S;refine kN (xtn (kS (kS (kR ?_))));(iterate 5 (refine sq S ?_;clear S;intro a S))
   rw[show IntKind.i64.wrap ((at_:Int)+(M:Int))=((at_+M:Nat):Int) from by rw[w64 _ (by omega) (by omega)];rfl]at S
   refine sq S ?_;clear S;intro a S
   rw[show at_+M - at_=M from by omega]at S
   obtain ⟨q3,hq3⟩:∃ q3,q3=(if e=at_ then q else q.map (·.add (at_*64))):=⟨_,rfl⟩
   rw[←hq3]at S
   obtain ⟨part,hpart⟩:∃ part,part=(field.drop at_).take M:=⟨_,rfl⟩
   have hpl:part.length=M:=by rw[hpart,List.length_take,List.length_drop];omega
   have hg:∀ w,GlF q field w→GlF q3 part w:=fun w h=>by rw[hpart,hq3];exact (h.drop at_ hfe).take M
   replace S:=S.add (Φ:=GlF q3 part) ((S.mem.fact (GlF q field)).imp hg)
   (iterate 2 (refine sq S ?_;clear S;intro a S))
   replace S:=S.addNil 5 1
   refine kN (xtn (kB ?_))
   refine c_fore3 S (fun(k:Nat) (pr:Option Addr) (cr:Nat) uu=>[(13,.slice pr (48*k) cr),(1,uu 15),(32,.int .i64 (k:Nat)),(0,uu 49),(0,uu 50),(0,uu 51),(0,uu 52),(0,uu 53),(0,uu 54),(0,uu 55)]) (fun(k:Nat) (pr:Option Addr) (cr:Nat)=>[Wk.row 5 1 pr (48*k) cr (encL (gather (part.take k))),Wk.box b9 4 [.bool false],Wk.box b8 25 [.slice none 0 0],Wk.box b6 3 [.int .i64 (at_:Int)],Wk.box b5 219 [.slice q field.length e],Wk.box b4 132 (cBook b n turn),marks []]) (fun(k:Nat) (pr:Option Addr) (cr:Nat)=>[GlF q3 part,GlF q field]) (fun(k:Nat) (pr:Option Addr) (cr:Nat)=>k≤M) (fun(k:Nat) (pr:Option Addr) (cr:Nat)=>M - k) (0) (none) (0) ?_ S.uu ?_ ?_
   ·exact Nat.zero_le _
   ·exact S.sub [Wk.row 5 1 none 0 0 [],Wk.box b9 4 [.bool false],Wk.box b8 25 [.slice none 0 0],Wk.box b6 3 [.int .i64 (at_:Int)],Wk.box b5 219 [.slice q field.length e],Wk.box b4 132 (cBook b n turn),marks []] [GlF q3 part,GlF q field]
   ·clear S;rintro k pr cr uu a w hk S;refine kS (kR (sq S ?_));clear S;intro a S;refine kN (xtn (kS ?_))
    refine kC S (fun h10=>?_) (fun h10=>?_)
    ·refine kK (xtn (kS (kB (kS ?_))))
     have hk2:k < M:=by have:=of_decide_eq_true h10;omega
     have hK2:KLt k part.length:=⟨by omega⟩
     have hK3:KLt k M:=⟨hk2⟩
     obtain ⟨y,hy⟩:∃ y,y=nthG part k:=⟨_,rfl⟩
     have hyl:=y.h
     refine kR ?_;(iterate 2 (refine sq S ?_;clear S;intro a S))
     rw[←hy]at S
     refine sa S ?_;clear S;intro b15 a w S;refine sw S ?_;clear S;intro a w S;refine kN (xtn (kR ?_));(iterate 2 (refine sq S ?_;clear S;intro a S))
     rw[show (Value.slice (some (if 64=16 then (⟨b15,0,none⟩:Addr) else ⟨b15,16*1,none⟩)) (64 - 16) (64 - 16))=.slice (some ⟨b15,16,none⟩) 48 48 from rfl]at S
     replace S:=S.boxToF b15
     replace S:=S.add (Φ:=GlF (some ⟨b15,16,none⟩) (y.l.drop 16)) ((S.mem.fact (BoxF b15 129 (encL y.l))).imp fun _ h=>(glBox h).drop 16 (c:=64) (by rw[hyl];omega))
     have hy48:LenN (y.l.drop 16) 48:=⟨by rw[List.length_drop];omega⟩
     refine sap S (by simp only[maxLen];omega) (by omega) ?_;clear S;rintro p3 c3 a w - S
     rw[←encL_append,hy,←gather_snoc,←take_snocG (by omega:k < part.length),show 48*k+48=48*(k+1) from by omega]at S
     refine sq S ?_;clear S;intro a S;refine kN (xbn (xtn (kR ?_)));(iterate 2 (refine sq S ?_;clear S;intro a S));refine kN (xtn ?_)
     rw[w64 ((k:Int)+1) (by omega) (by omega)]at S
     exact ⟨k+1,p3,c3,S.uu,hk2,S.sub _ _,by omega⟩
    ·refine kE (xte (xte (xbe (xtn (kS ?_)))))
     have hkM:k=M:=by have:=of_decide_eq_false h10;omega
     subst hkM
     rw[List.take_of_length_le (by omega:part.length≤k)]at S
     have hnew:=S.rowNew pr (48*k)
     have hrlt:=row_foot_lt (S.row pr (48*k))
     have hcr:=own_le (S.row pr (48*k))
     replace S:=S.rowToGl pr (gather part) (e:=5) (sz:=1) (n:=48*k) (c:=cr) (fun _ _ _ _=>trivial)
     have hLd:LeC sz cr:=⟨by omega⟩
     have hLe:LeC sz sz:=⟨Nat.le_refl _⟩
     have hLf:LeC 0 sz:=⟨Nat.zero_le _⟩
     have hgl:=gather_len part
     refine kR ?_;(iterate 4 (refine sq S ?_;clear S;intro a S))
     obtain ⟨all,hall⟩:∃ all,all=(gather part).take sz:=⟨_,rfl⟩
     have hal:all.length=sz:=by rw[hall,List.length_take];omega
     have hg2:∀ w,GlF pr (gather part) w→GlF pr all w:=fun w h=>by rw[hall];exact h.take sz
     replace S:=S.add (Φ:=GlF pr all) ((S.mem.fact (GlF pr (gather part))).imp hg2)
     refine sq S ?_;clear S;intro a S;refine kN (xtn (kS (kS (kR ?_))));(iterate 4 (refine sq S ?_;clear S;intro a S))
     rw[wu32 (j:Int) (by omega) (by omega)]at S
     refine sq S ?_;clear S;intro a S
     have hlt2:=foots_lt S
     refine sr S (leaves_f turn (j:Int) pr sz sz _) ?_;clear S;rintro _ a w ⟨g0,g1,g2,rfl,⟨n0,n1,n2⟩,e0,e1,e2⟩ S
     replace S:=S.add (Φ:=BoxF g0 25 [.slice pr sz sz]) (BoxF.stable e0 (fun hm=>by have:=hlt2 _ hm;omega))
     replace S:=S.add (Φ:=BoxF g1 130 [.int .u32 turn]) (BoxF.stable e1 (fun hm=>by have:=hlt2 _ hm;omega))
     replace S:=S.add (Φ:=BoxF g2 130 [.int .u32 (j:Int)]) (BoxF.stable e2 (fun hm=>by have:=hlt2 _ hm;omega))
     refine kN (xtn (kB ?_))
     subst hal
     have hxsl:(leavesF turn (j:Int) all).length=k:=by rw[leavesF_len];exact hss.2.1.symm
     have hst:standF turn field at_ j=if leavesF turn (j:Int) all=part then some all else none:=by
      rw[standF,if_neg (by omega),←hx,hsz2,hM,Int.toNat_natCast,Int.toNat_natCast,if_neg (by omega),←hpart,←hall]
     refine c_range (κ:=Unit) (κx:=Nat) (Ds:=[]) (leavesF turn (j:Int) all)
      (fun i _=>[Wk.box b9 4 [.bool false],Wk.box b8 25 [.slice none 0 0],Wk.box b6 3 [.int .i64 ((at_+i:Nat):Int)],Wk.box b5 219 [.slice q field.length e],Wk.box b4 132 (cBook b n turn),marks []])
      (fun _ _=>[BoxF g2 130 [.int .u32 (j:Int)],BoxF g1 130 [.int .u32 turn],BoxF g0 25 [.slice pr all.length all.length],GlF pr all,GlF pr (gather part),GlF q3 part,GlF q field])
      (fun i _=>part.take i=(leavesF turn (j:Int) all).take i)
      (fun i=>[Wk.box b9 4 [.bool false],Wk.box b8 25 [.slice none 0 0],Wk.box b6 3 [.int .i64 ((at_+i:Nat):Int)],Wk.box b5 219 [.slice q field.length e],Wk.box b4 132 (cBook b n turn),marks []])
      (fun _=>[BoxF g2 130 [.int .u32 (j:Int)],BoxF g1 130 [.int .u32 turn],BoxF g0 25 [.slice pr all.length all.length],GlF pr all,GlF pr (gather part),GlF q3 part,GlF q field])
      (fun cd _=>cd=.ret∧leavesF turn (j:Int) all≠part) () S
      (fun M w1 hM hF _=>leaves_it turn (j:Int) ht (by omega) g0 g1 g2 all pr all.length (by omega) (Nat.le_refl _) w1 M hM (hF _ (by simp)) (hF _ (by simp)) (hF _ (by simp)) (hF _ (by simp))) ⟨rfl,rfl,rfl⟩ ?_ ?_ ?_ ?_
     ·clear S
      rintro L D bL M' w1 i x2 vs ⟨⟩ W0 w hx2 hti hW0 hgr rfl
      have hik:i < k:=by rw[←hxsl];exact (List.getElem?_eq_some_iff.1 hx2).1
      have hpi:part[i]? = some (nthG field (at_+i)):=by
       rw[hpart,List.getElem?_take,if_pos hik,List.getElem?_drop,nthG_get (by omega)]
      have hKi:KLt (at_+i) field.length:=⟨by omega⟩
      refine ⟨_,inferInstance,fun a S=>?_⟩
      refine kR (sa S ?_);clear S;intro b16 a w S;refine sw S ?_;clear S;intro a w S;refine kN (xtn ?_)
      refine rbegin (D:=D) (b:=bL) S ?_;clear S;intro a w S
      refine kB (kS (kS ?_));refine c_drawD [(0,true),(1,true),(2,true),(3,true),(4,true),(5,true)] [] S ?_;clear S;intro w S;(iterate 6 (refine dq S ?_;clear S;intro a S));refine dn (xtn ?_)
      refine kC S (fun h17=>?_) (fun h17=>?_)
      ·refine kS (kR ?_);(iterate 2 (refine sw S ?_;clear S;intro a w S));refine kN (xtn (kT (xtr (xbr ?_))))
       have hne:leavesF turn (j:Int) all≠part:=by
        intro he
        rw[he,hpi]at hx2
        have:=Option.some.inj hx2
        rw[this]at h17
        simp at h17
       refine rret (D:=D) (b:=bL) (S.sub [lpI L D (lpR bL .busy none),Wk.box b9 4 [.bool false],Wk.box b8 25 [.slice none 0 0],Wk.box b6 3 [.int .i64 ((at_+i:Nat):Int)],Wk.box b5 219 [.slice q field.length e],Wk.box b4 132 (cBook b n turn),marks []] [BoxF g2 130 [.int .u32 (j:Int)],BoxF g1 130 [.int .u32 turn],BoxF g0 25 [.slice pr all.length all.length],GlF pr all,GlF pr (gather part),GlF q3 part,GlF q field]) fun W hW=>⟨.inl rfl,i,⟨rfl,hne⟩,hW⟩
      ·refine kK (xtn (kR ?_));(iterate 2 (refine sq S ?_;clear S;intro a S))
       rw[show IntKind.i64.wrap (((at_+i:Nat):Int)+1)=((at_+(i+1):Nat):Int) from by rw[w64 _ (by omega) (by omega)];rfl]at S
       refine sw S ?_;clear S;intro a w S;refine kN (xbn ?_)
       have hxe:x2=nthG field (at_+i):=Blk.ext' (by simpa using (by simpa using h17:(nthG field (at_+i)).l=x2.l).symm)
       refine rnext (D:=D) (b:=bL) (S.sub [lpI L D (lpR bL .busy none),Wk.box b9 4 [.bool false],Wk.box b8 25 [.slice none 0 0],Wk.box b6 3 [.int .i64 ((at_+(i+1):Nat):Int)],Wk.box b5 219 [.slice q field.length e],Wk.box b4 132 (cBook b n turn),marks []] [BoxF g2 130 [.int .u32 (j:Int)],BoxF g1 130 [.int .u32 turn],BoxF g0 25 [.slice pr all.length all.length],GlF pr all,GlF pr (gather part),GlF q3 part,GlF q field]) fun W hW=>⟨(),by rw[List.take_add_one,List.take_add_one,hti,hpi,hx2,hxe],hW⟩
     ·clear S
      rintro D ⟨⟩ a w hti S
      replace S:=S.join (Ds:=[])
      refine xbn (xtn (kS (kR (sq S ?_))));clear S;intro a S;(iterate 2 (refine sw S ?_;clear S;intro a w S));refine kN (xtn (kT ?_))
      have he:leavesF turn (j:Int) all=part:=by
       rw[hxsl,List.take_of_length_le (by omega),List.take_of_length_le (by omega)]at hti
       exact hti.symm
      refine endM2 S (fun w hw=>.inr ⟨all,pr,by rw[hst,if_pos he],rfl,ent1_holds (fun ad ha=>?_) (hw.facts (GlF pr all) (by simp)).now,fun k2 ⟨y,hy,ad,ha,hk2⟩=>?_⟩)
      ·exact gl_block (hw.facts (GlF pr (gather part)) (by simp)).now (by omega) ha
      ·obtain rfl:=List.mem_singleton.1 hy
       exact hk2▸(hnew ad ha).elim (fun h=>h.elim) id
     ·rintro D i a w ⟨-,hne⟩ S
      replace S:=S.join (Ds:=[])
      repeat (first | refine xbr ?_ | refine xtr ?_)
      refine endM2 S (fun w hw=>.inl ⟨?_,rfl⟩)
      rw[hst,if_neg hne]
     ·rintro id D _ a w ⟨h,-⟩;cases h
def clrW (fr:Nat):List Blk→Nat→Bool→DS→DS × Int × Bool
 | [],_,sy,s=>(s,0,sy)
 | x::xs,i,sy,s=>if x.l=zB.l then clrW fr xs (i+1) sy s else if askE s ((fr+i:Nat):Int) true=0 then clrW fr xs (i+1) true (wrD s ((fr+i:Nat):Int) zB) else (wrD s ((fr+i:Nat):Int) zB,askE s ((fr+i:Nat):Int) true,true)
def clrR (r:DS × Int × Bool):DS × Int:=if r.2.1=0 then (if r.2.2 then (syD r.1,askE r.1 0 true) else (r.1,0)) else (r.1,r.2.1)
def clrF (fr fin:Nat) (field:List Blk) (s:DS):DS × Int:=clrR (clrW fr (field.drop fin) fin (decide (0 < s.loose.length)) s)
theorem clears_c (g b m:Nat) (p:Option Addr) (c:Nat) (s:DS) (qs:Option Addr) (es:Nat) (x:WS) (field:List Blk) (q:Option Addr) (e:Nat) (w0:World) (hn:x.n≤1000) (hfl:field.length=x.n) (hfi:x.fin≤x.n) (ht:0≤x.turn∧x.turn≤4294967295) (hl:s.loose.length≤990000) (hd:(dkI b m p c s).holds w0)
  (f0:Stable (dkI b m p c s).foot w0 (BoxF g 134 (cWal b qs es x))) (f1:Stable (dkI b m p c s).foot w0 (GlF q field)) :
  Ret Tryz.prog 149 [.pointer (some ⟨g,0,none⟩),.slice q field.length e] w0 (dkI b m p c s).foot fun v w'=>v=.int .i64 (clrF (fromN x.n x.turn) x.fin field s).2∧∃ p' c',(dkI b m p' c' (clrF (fromN x.n x.turn) x.fin field s).1).holds w'∧∀ i,(dkI b m p' c' (clrF (fromN x.n x.turn) x.fin field s).1).foot i→(dkI b m p c s).foot i∨w0.heap.size≤i:=by
 have hfr:fromN x.n x.turn≤1002:=by
  unfold fromN
  rcases (show (x.turn % 2).toNat=0∨(x.turn % 2).toNat=1 by omega) with h | h <;> rw[h] <;> omega
 refine enter Tryz.func149 rfl rfl (Wd.itLent (x:=dkI b m p c s) (fs:=[BoxF g 134 (cWal b qs es x),GlF q field]) hd (by simp;exact ⟨f0,f1⟩)) (fun a S=>?_)
 simp only[Tryz.ntmps149,qqA,qqB,Nat.reduceAdd,Nat.reduceSub,qqC,qqD,qqE,qqF]at S
 refine kS (kR (sq S ?_));clear S;intro a S;refine kN (xtn (kS (kR ?_)));(iterate 5 (refine sq S ?_;clear S;intro a S))
 have hdk:(dkI b m p c s).holds w0:=S.it (dkI b m p c s)
 refine srn S (dpending_c b m p c s _ (by omega) (BoxF.stable hdk.1 (fun h=>h)) (gl_own hdk.2.1.2.1 (fun _ _ _ _=>trivial) (fun _ _ h=>h))) ?_;clear S;rintro _ a w ⟨q1,e1,rfl,hown,hg⟩ hS -
 have S:=hS hown hg
 clear hS
 (iterate 3 (refine sq S ?_;clear S;intro a S));refine kN (xtn (kS (kS (kR ?_))));(iterate 5 (refine sq S ?_;clear S;intro a S));refine kN (xtn (kB ?_))
 rw[show decide ((0:Int) < (s.loose.length:Int))=decide (0 < s.loose.length) from decide_eq_decide.2 (by omega)]at S
 refine c_fore5 S (fun(i:Nat) (sy:Bool) (s':DS) (p':Option Addr) (c':Nat) uu=>[(4,uu 4),(0,.bool sy),(0,.int .i64 (i:Nat)),(0,uu 7),(12,uu 20),(0,uu 21),(0,uu 22),(0,uu 23),(0,uu 24),(0,uu 25),(0,uu 26),(0,uu 27),(0,uu 28),(0,uu 29),(0,uu 30),(0,uu 31),(0,uu 32),(0,uu 33),(0,uu 34),(0,uu 35),(0,uu 36),(0,uu 37),(0,uu 38),(0,uu 39),(0,uu 40),(0,uu 41),(0,uu 42),(0,uu 43),(0,uu 44),(0,uu 45),(0,uu 46),(0,uu 47),(0,uu 48),(0,uu 49),(0,uu 50),(0,uu 51)]) (fun(i:Nat) (sy:Bool) (s':DS) (p':Option Addr) (c':Nat)=>[dkI b m p' c' s']) (fun(i:Nat) (sy:Bool) (s':DS) (p':Option Addr) (c':Nat)=>[BoxF g 134 (cWal b qs es x),GlF q field]) (fun(i:Nat) (sy:Bool) (s':DS) (p':Option Addr) (c':Nat)=>i≤x.n∧clrF (fromN x.n x.turn) x.fin field s=clrR (clrW (fromN x.n x.turn) (field.drop i) i sy s')∧s'.loose.length≤s.loose.length+i) (fun(i:Nat) (sy:Bool) (s':DS) (p':Option Addr) (c':Nat)=>x.n - i) (x.fin) (decide (0 < s.loose.length)) (s) (p) (c) ?_ S.uu ?_ ?_
 exact ⟨hfi,rfl,by omega⟩
 first | exact S | exact S.sub _ _
 clear S;rintro i sy s' p' c' uu a w ⟨hi,hre,hsl⟩ S
 refine kS (kS (kR ?_));(iterate 7 (refine sq S ?_;clear S;intro a S));refine kN (xtn ?_)
 refine kC S (fun h3=>?_) (fun h3=>?_)
 refine kK (xtn (kS (kB (kS (kS ?_)))))
 have hi2:i < x.n:=by have:=of_decide_eq_true h3;omega
 have hK:KLt i field.length:=⟨by omega⟩
 have hdr:field.drop i=nthG field i::field.drop (i+1):=by
  have h1:=nthG_get (xs:=field) (k:=i) (by omega)
  rw[List.drop_eq_getElem_cons (by omega),(List.getElem?_eq_some_iff.1 h1).2]
 obtain ⟨y,hy⟩:∃ y,y=nthG field i:=⟨_,rfl⟩
 rw[hdr,clrW,←hy]at hre
 refine kR ?_;(iterate 4 (refine sq S ?_;clear S;intro a S))
 rw[←hy]at S
 refine sq S ?_;clear S;intro a S
 rw[show (encL (List.replicate 64 (0:UInt8)):List Value)=encL zB.l from rfl]at S
 refine sq S ?_;clear S;intro a S;refine kN (xtn ?_)
 refine kC S (fun h5=>?_) (fun h5=>?_)
 refine kE (xte (xbe (xtn (kR ?_))));(iterate 3 (refine sq S ?_;clear S;intro a S));refine kN (xtn ?_)
 rw[show IntKind.i64.wrap ((i:Int)+1)=((i+1:Nat):Int) from by rw[w64 _ (by omega) (by omega)];rfl]at S
 rw[if_pos (of_decide_eq_true h5)]at hre
 exact ⟨i+1,sy,s',p',c',S.uu,⟨hi2,hre,by omega⟩,S.sub _ _,by omega⟩
 refine kK (xtn (kS (kR (sq S ?_))));clear S;intro a S;refine kN (xtn (kS ?_));refine c_drawE [(0,true),(1,true),(2,true),(3,true),(4,true),(5,true),(6,true),(7,true),(8,true),(10,true),(12,true),(9,false),(11,true),(13,false),(14,true)] [] S ?_;clear S;intro w S;(iterate 11 (refine dq S ?_;clear S;intro a S))
 rw[show (encL (List.replicate 64 (0:UInt8)):List Value)=encL zB.l from rfl]at S
 refine dl ?_;refine sr S (from_c b x.n x.turn hn ht _) ?_;clear S;rintro _ a w rfl S;refine de S ?_;refine dq S ?_;clear S;intro a S
 rw[show IntKind.i64.wrap ((fromN x.n x.turn:Int)+(i:Int))=((fromN x.n x.turn+i:Nat):Int) from by rw[w64 _ (by omega) (by omega)];rfl]at S
 refine dl ?_
 refine sit (dkI b m p' c' s') S (dwrite_c b m p' c' s' ((fromN x.n x.turn+i:Nat):Int) zB _ (by omega) (S.it (dkI b m p' c' s'))) rfl ?_;clear S;rintro _ a w ⟨rfl,p2,c2,hh,hn2⟩ hS
 have S:=hS (dkI b m p2 c2 (wrD s' ((fromN x.n x.turn+i:Nat):Int) zB)) hh hn2
 clear hS
 refine de S ?_;refine dq S ?_;clear S;intro a S;refine dn (xtn (kS (kR ?_)));(iterate 2 (refine sq S ?_;clear S;intro a S));refine kN (xtn ?_)
 refine kC S (fun h8=>?_) (fun h8=>?_)
 refine kS (kR ?_);(iterate 2 (refine sq S ?_;clear S;intro a S));refine kN (xtn (kT (xbr (xtr (xtr (xbr (xtr ?_)))))))
 have he:askE s' ((fromN x.n x.turn+i:Nat):Int) true≠0:=by simpa using h8
 rw[if_neg (of_decide_eq_false h5),if_neg he]at hre
 have h1:=S.itNew (dkI b m p2 c2 (wrD s' ((fromN x.n x.turn+i:Nat):Int) zB)) rfl
 have hh:=S.it (dkI b m p2 c2 (wrD s' ((fromN x.n x.turn+i:Nat):Int) zB))
 refine end1 S (fun _=>?_)
 rw[hre,clrR,if_neg he]
 exact ⟨rfl,p2,c2,hh,h1⟩
 refine kK (xbn (xtn (kR ?_)));(iterate 3 (refine sq S ?_;clear S;intro a S));refine kN (xtn ?_)
 rw[show IntKind.i64.wrap ((i:Int)+1)=((i+1:Nat):Int) from by rw[w64 _ (by omega) (by omega)];rfl]at S
 have he:askE s' ((fromN x.n x.turn+i:Nat):Int) true=0:=by simpa using h8
 rw[if_neg (of_decide_eq_false h5),if_pos he]at hre
 have:=wrD_loose s' ((fromN x.n x.turn+i:Nat):Int) zB
 exact ⟨i+1,true,wrD s' ((fromN x.n x.turn+i:Nat):Int) zB,p2,c2,S.uu,⟨hi2,hre,by omega⟩,S.sub _ _,by omega⟩
 refine kE (xte (xte (xbe (xtn (kS (kS ?_))))))
 have hi2:i=x.n:=by have:=of_decide_eq_false h3;omega
 rw[List.drop_of_length_le (by omega),clrW,clrR,if_pos rfl]at hre
 refine kR ?_;(iterate 2 (refine sq S ?_;clear S;intro a S));refine kN (xtn ?_)
 refine kC S (fun h10=>?_) (fun h10=>?_)
 refine kS (kR (sq S ?_));clear S;intro a S;refine kN (xtn (kT (xtr ?_)))
 have hsy:sy=false:=by simpa using h10
 rw[if_neg (by rw[hsy];exact Bool.false_ne_true)]at hre
 have h1:=S.itNew (dkI b m p' c' s') rfl
 have hh:=S.it (dkI b m p' c' s')
 refine end1 S (fun _=>?_)
 rw[hre]
 exact ⟨rfl,p',c',hh,h1⟩
 refine kK (xtn (kS (kR ?_)));(iterate 5 (refine sq S ?_;clear S;intro a S))
 refine sit (dkI b m p' c' s') S (dsync_c b m p' c' s' _ (by omega) (S.it (dkI b m p' c' s'))) rfl ?_;clear S;rintro _ a w ⟨rfl,p2,c2,hh,hn2⟩ hS
 have S:=hS (dkI b m p2 c2 (syD s')) hh hn2
 clear hS
 refine sq S ?_;clear S;intro a S;refine kN (xtn (kT ?_))
 have hsy:sy=true:=by simpa using h10
 rw[if_pos hsy]at hre
 have h1:=S.itNew (dkI b m p2 c2 (syD s')) rfl
 have hh:=S.it (dkI b m p2 c2 (syD s'))
 refine end1 S (fun _=>?_)
 rw[hre]
 exact ⟨rfl,p2,c2,hh,h1⟩
section
variable {w0:World} {M0:Nat→Prop} {ds:List Deferred} {a:Act} {w:World} {l:List Value} {bs bs':List Wk.Item} {fs:List (World→Prop)}
theorem St.become (S:St w0 M0 ds a w l bs fs) (x y:Wk.Item) [hr:ReplI bs x y bs'] [oy:ItOk y] (hx:x.holds w) (h:x.holds w→y.holds w) (hf:∀ k,y.foot k→x.foot k) (ho:x.own=true:=by rfl):St w0 M0 ds a w l bs' fs:=
 S.reput (x:=x) (y:=y) S.slots S.defers ho (Agree.refl _ _) (h hx) (fun k hk=>.inl (hf k hk)) (oy.lt w (h hx)) oy.loc
theorem St.entAdd {xs ys:List LBy} (S:St w0 M0 ds a w l (entI ys::entI xs::bs) fs):St w0 M0 ds a w l (entI (xs++ys)::bs) fs:=by
 have S1:=S.toBoth
 refine St.become S1 (both (entI ys) (entI xs)) (entI (xs++ys)) (S1.it (both (entI ys) (entI xs))) (fun h x hx=>?_) (fun k ⟨x,hx,h⟩=>?_)
 rcases List.mem_append.1 hx with hx | hx
 exact h.2.1 x hx
 exact h.1 x hx
 rcases List.mem_append.1 hx with hx | hx
 exact .inr ⟨x,hx,h⟩
 exact .inl ⟨x,hx,h⟩
end
theorem enc_setB (l1 l2:List Blk) (x y:Blk):(encL (l1++y::l2)).take (l1.length*64)++encL x.l++(encL (l1++y::l2)).drop (l1.length*64+(encL x.l).length)=encL (l1++x::l2):=by
 have h1:(encL l1).length=l1.length*64:=by rw[encL_len];rfl
 have h2:(encL x.l).length=64:=x.len
 have h3:(encL y.l).length=64:=y.len
 have e:encL (l1++y::l2)=encL l1++(encL y.l++encL l2):=by rw[encL_append,encL_cons];rfl
 rw[e,←h1,List.take_left,h2,←h3,←List.drop_drop,List.drop_left,List.drop_left,encL_append,encL_cons,List.append_assoc];rfl
theorem enc_rep:∀ n:Nat,encL (List.replicate n zB)=(List.replicate n (encL (List.replicate 64 (0:UInt8)))).flatten
 | 0=>rfl
 | n+1=>by rw[qqC,encL_cons,qqC,List.flatten_cons,enc_rep n];rfl
def fieldW (fr:Nat):Nat→Nat→DS→DS × Int × List Blk
 | 0,_,s=>(s,0,[])
 | k+1,i,s=>if askE s ((fr+i:Nat):Int) false=0 then ((fieldW fr k (i+1) (rdD s ((fr+i:Nat):Int))).1,(fieldW fr k (i+1) (rdD s ((fr+i:Nat):Int))).2.1,rdB s ((fr+i:Nat):Int)::(fieldW fr k (i+1) (rdD s ((fr+i:Nat):Int))).2.2) else (rdD s ((fr+i:Nat):Int),askE s ((fr+i:Nat):Int) false,[])
structure OW where
 n:Nat
 turn:Int
 said:List (List UInt8)
 fin:Nat
def noOW:OW:=⟨0,0,[],0⟩
def openC (n:Nat) (t:Int) (f:List Blk) (s:DS):DS × Int × OW:=
 if (readF t f f.length 0 0).1=[] then (s,140,noOW) else
 if (clrF (fromN n t) (readF t f f.length 0 0).2 f s).2=0 then ((clrF (fromN n t) (readF t f f.length 0 0).2 f s).1,0,⟨n,t,(readF t f f.length 0 0).1,(readF t f f.length 0 0).2⟩)
 else ((clrF (fromN n t) (readF t f f.length 0 0).2 f s).1,(clrF (fromN n t) (readF t f f.length 0 0).2 f s).2,noOW)
def openB (n:Nat) (t:Int) (s:DS):DS × Int × OW:=
 if (fieldW (fromN n t) n 0 s).2.1=0 then openC n t (fieldW (fromN n t) n 0 s).2.2 (fieldW (fromN n t) n 0 s).1 else ((fieldW (fromN n t) n 0 s).1,(fieldW (fromN n t) n 0 s).2.1,noOW)
def openF (s:DS):DS × Int × OW:=if (cntF s).2.1=0 then openB (cntF s).2.2.n.toNat (cntF s).2.2.t (cntF s).1 else ((cntF s).1,(cntF s).2.1,noOW)
theorem cntR_ok:∀ (k i:Nat) (s:DS) (B:Bst),(B.has=true→(4≤B.n∧B.n≤1000)∧0≤B.t∧B.t≤4294967295)→(cntR k i s B).1.loose=s.loose∧((cntR k i s B).2.1=0→(cntR k i s B).2.2.has=true∧(4≤(cntR k i s B).2.2.n∧(cntR k i s B).2.2.n≤1000)∧0≤(cntR k i s B).2.2.t∧(cntR k i s B).2.2.t≤4294967295)
 | 0,i,s,B,h=>by
  rw[cntR]
  split
  rename_i hb;exact ⟨rfl,fun _=>⟨hb,h hb⟩⟩
  exact ⟨rfl,fun h=>by cases h⟩
 | k+1,i,s,B,h=>by
  rw[cntR]
  split
  have h1:=cntR_ok k (i+1) (rdD s i) (cntStep (rdD s i) i (rdB s i) B) (by
   unfold cntStep
   split
   rename_i hc
   intro _
   have ht:=u32B_range ((((rdB s i).l.drop 4).drop 4))
   simp only[candF,mayF,Bool.and_eq_true,decide_eq_true_eq]at hc
   exact ⟨⟨hc.1.1.1.1,hc.1.1.1.2.1⟩,ht⟩
   exact h)
  rw[rdD_loose]at h1
  exact h1
  rename_i he;exact ⟨rdD_loose s i,fun h=>absurd h he⟩
theorem cntF_ok (s:DS):(cntF s).1.loose=s.loose∧((cntF s).2.1=0→(cntF s).2.2.has=true∧(4≤(cntF s).2.2.n∧(cntF s).2.2.n≤1000)∧0≤(cntF s).2.2.t∧(cntF s).2.2.t≤4294967295):=
 cntR_ok 2 0 s ⟨false,0,0⟩ (fun h=>by cases h)
def ptV:List LBy→Value
 | []=>.slice none 0 0
 | y::_=>.slice y.p y.bs.length y.c
theorem stands_v (b n:Nat) (turn:Int) (field:List Blk) (q:Option Addr) (e at_ j:Nat) (ht:0≤turn∧turn≤4294967295) (hj:j≤1000000) (hfl:field.length≤1000) (hfe:field.length≤e) (hat:at_≤1000000) (w0:World) (f0:Stable (fun _=>False) w0 (GlF q field)) :
  Ret Tryz.prog 148 [.agg ⟨cBook b n turn⟩,.slice q field.length e,.int .i64 (at_:Int),.int .i64 (j:Int)] w0 (fun _=>False) fun v w'=>
   ∃ r:List LBy,v=.tuple ⟨[ptV r,.bool (!r.isEmpty)]⟩∧(entI r).holds w'∧(∀ k,(entI r).foot k→w0.heap.size≤k)∧((r=[]∧standF turn field at_ j=none)∨∃ y,r=[y]∧standF turn field at_ j=some y.bs):=by
 refine (stands_c b n turn field q e at_ j ht hj hfl hfe hat w0 f0).mono fun v w'=>?_
 rintro (⟨h1,rfl⟩ | ⟨bs,p',h1,rfl,h2,h3⟩)
 exact ⟨[],rfl,fun x hx=>(by cases hx),fun k ⟨x,hx,_⟩=>(by cases hx),.inl ⟨rfl,h1⟩⟩
 exact ⟨[⟨p',bs.length,bs⟩],rfl,h2,h3,.inr ⟨_,rfl,h1⟩⟩
theorem open_c (b m:Nat) (p:Option Addr) (c:Nat) (s:DS) (w0:World) (hl:s.loose.length≤980000) (hd:(dkI b m p c s).holds w0) :
  Ret Tryz.prog 54 [.pointer (some ⟨b,0,none⟩)] w0 (dkI b m p c s).foot fun v w'=>
   ((openF s).2.1≠0∧v=.tuple ⟨[.pointer none,.int .i64 (openF s).2.1]⟩∧∃ p' c',(dkI b m p' c' (openF s).1).holds w'∧∀ k,(dkI b m p' c' (openF s).1).foot k→(dkI b m p c s).foot k∨w0.heap.size≤k)∨
   ((openF s).2.1=0∧∃ g p' c' q e,∃ x:WS,v=.tuple ⟨[.pointer (some ⟨g,0,none⟩),.int .i64 0]⟩∧(x.n=(openF s).2.2.n∧x.turn=(openF s).2.2.turn∧x.said.map LBy.bs=(openF s).2.2.said∧x.fin=(openF s).2.2.fin∧x.broken=false)∧(both (dkI b m p' c' (openF s).1) (walI g b q e x)).holds w'∧∀ k,(both (dkI b m p' c' (openF s).1) (walI g b q e x)).foot k→(dkI b m p c s).foot k∨w0.heap.size≤k):=by
 have hcok:=cntF_ok s
 refine enter Tryz.func54 rfl rfl (Wd.itLent (x:=dkI b m p c s) (fs:=[]) hd (by simp)) (fun a S=>?_)
 simp only[Tryz.ntmps54,qqA,qqB,Nat.reduceAdd,Nat.reduceSub,qqC,qqD,qqE,qqF]at S
 refine kS (kR ?_);(iterate 2 (refine sq S ?_;clear S;intro a S));refine kN (xtn (c_scope (kS (kS (kR ?_)))));(iterate 2 (refine sq S ?_;clear S;intro a S));refine kN (xtn ?_);refine c_condF S ?_;refine kK (xtn (kS (kR (sq S ?_))));clear S;intro a S
 refine sit (dkI b m p c s) S (counts_c b m p c s _ (by omega) (S.it (dkI b m p c s))) rfl ?_;clear S;rintro _ a w ⟨rfl,p1,c1,hh,hn1⟩ hS
 have S:=hS (dkI b m p1 c1 (cntF s).1) hh hn1
 clear hS
 (iterate 3 (refine sq S ?_;clear S;intro a S));refine sa S ?_;clear S;intro b4 a w S;refine sw S ?_;clear S;intro a w S;refine sq S ?_;clear S;intro a S;refine kN (xtn (kS (kS (kR ?_))));(iterate 2 (refine sq S ?_;clear S;intro a S));refine kN (xtn ?_)
 refine kC S (fun h4=>?_) (fun h4=>?_)
 ·refine kS (kR ?_);(iterate 3 (refine sq S ?_;clear S;intro a S));refine kN (xtn (kT (xtr (xsr ?_))))
  have he:(cntF s).2.1≠0:=by simpa using h4
  have h1:=S.itNew (dkI b m p1 c1 (cntF s).1) rfl
  have hh:=S.it (dkI b m p1 c1 (cntF s).1)
  refine end2 S (fun _=>.inl ?_)
  rw[openF,if_neg he]
  exact ⟨he,rfl,p1,c1,hh,h1⟩
 ·refine kK (xtn (kS ?_))
  have he:(cntF s).2.1=0:=by simpa using h4
  obtain ⟨hl1,hok⟩:=hcok
  obtain ⟨hhas,hnr,htr⟩:=hok he
  obtain ⟨n,hn⟩:∃ n:Nat,(cntF s).2.2.n=(n:Int):=⟨(cntF s).2.2.n.toNat,by omega⟩
  obtain ⟨turn,hturn⟩:∃ turn,turn=(cntF s).2.2.t:=⟨_,rfl⟩
  obtain ⟨s1,hs1⟩:∃ s1,s1=(cntF s).1:=⟨_,rfl⟩
  have hopen:openF s=openB n turn s1:=by rw[openF,if_pos he,hn,Int.toNat_natCast,hturn,hs1]
  rw[show cBst b (cntF s).2.2=cBook b n turn from by rw[cBst,ptB,if_pos hhas,hn,hturn]]at S
  rw[show ([.pointer (ptB b (cntF s).2.2),.int .i64 (cntF s).2.2.n,.int .u32 (cntF s).2.2.t]:List Value)=cBook b n turn from by rw[ptB,if_pos hhas,hn,hturn]]at S
  rw[hn]at hnr
  rw[←hturn]at htr
  rw[←hs1]at S hl1
  rw[hopen]
  have hfr:fromN n turn≤1002:=by
   unfold fromN
   rcases (show (turn % 2).toNat=0∨(turn % 2).toNat=1 by omega) with h | h <;> rw[h] <;> omega
  refine kR ?_;(iterate 2 (refine sq S ?_;clear S;intro a S))
  refine smk n S rfl rfl (by omega) (by simp only[maxLen];omega) ?_;clear S;intro g a w S
  rw[show (List.replicate n (encL (List.replicate 64 (0:UInt8)))).flatten=encL (List.replicate n zB) from (enc_rep n).symm]at S
  refine sq S ?_;clear S;intro a S;refine kN (xtn (kS (kS (kR ?_))));(iterate 3 (refine sq S ?_;clear S;intro a S));refine kN (xtn (kB ?_))
  refine c_forf5 S (fun(i:Nat) (fs:List Blk) (s':DS) (p':Option Addr) (c':Nat) uu=>[(2,uu 2),(0,uu 3),(1,uu 5),(1,uu 7),(19,.int .i64 (i:Nat)),(0,uu 28),(0,uu 29),(0,uu 30),(0,uu 31),(0,uu 32),(0,uu 33),(0,uu 34),(0,uu 35),(0,uu 36),(0,uu 37),(0,uu 38),(0,uu 39),(0,uu 40),(0,uu 41),(0,uu 42),(0,uu 43),(0,uu 44),(0,uu 45)]) (fun(i:Nat) (fs:List Blk) (s':DS) (p':Option Addr) (c':Nat)=>[Wk.row 129 64 (some ⟨g,0,none⟩) n n (encL (fs++List.replicate (n - i) zB)),Wk.box b4 132 (cBook b n turn),dkI b m p' c' s']) (fun(i:Nat) (fs:List Blk) (s':DS) (p':Option Addr) (c':Nat)=>i≤n∧fs.length=i∧s'.loose=s1.loose∧fieldW (fromN n turn) n 0 s1=((fieldW (fromN n turn) (n - i) i s').1,(fieldW (fromN n turn) (n - i) i s').2.1,fs++(fieldW (fromN n turn) (n - i) i s').2.2)) (fun(i:Nat) (fs:List Blk) (s':DS) (p':Option Addr) (c':Nat)=>n - i) (0) ([]) (s1) (p1) (c1) ?_ S.uu ?_ ?_
  ·exact ⟨by omega,rfl,rfl,rfl⟩
  ·first | exact S | exact S.sub _ _
  ·clear S;rintro i fs s' p' c' uu a w ⟨hi,hfs,hsl,hre⟩ S
   refine kS (kR (sq S ?_));clear S;intro a S;refine kN (xtn (kS ?_))
   refine kC S (fun h8=>?_) (fun h8=>?_)
   ·refine kK (xtn (kS (kB (kS ?_))))
    have hi2:i < n:=by have:=of_decide_eq_true h8;omega
    have hKi:KLt i n:=⟨hi2⟩
    rw[show n - i=(n - (i+1))+1 from by omega,fieldW]at hre
    refine kR ?_;(iterate 2 (refine sq S ?_;clear S;intro a S));refine kN (xtn (kS (kR ?_)));(iterate 4 (refine sq S ?_;clear S;intro a S))
    refine sr S (from_c b n turn (by omega) htr _) ?_;clear S;rintro _ a w rfl S
    (iterate 2 (refine sq S ?_;clear S;intro a S))
    rw[show IntKind.i64.wrap ((fromN n turn:Int)+(i:Int))=((fromN n turn+i:Nat):Int) from by rw[w64 _ (by omega) (by omega)];rfl]at S
    refine sit (dkI b m p' c' s') S (dread_c b m p' c' s' ((fromN n turn+i:Nat):Int) _ (by rw[hsl,hl1];omega) (S.it (dkI b m p' c' s'))) rfl ?_;clear S;rintro _ a w ⟨rfl,p2,c2,hh,hn2⟩ hS
    have S:=hS (dkI b m p2 c2 (rdD s' ((fromN n turn+i:Nat):Int))) hh hn2
    clear hS
    obtain ⟨y,hy⟩:∃ y,y=rdB s' ((fromN n turn+i:Nat):Int):=⟨_,rfl⟩
    rw[←hy]at S hre
    (iterate 4 (refine sq S ?_;clear S;intro a S))
    rw[show (⟨g,i*64,none⟩:Addr)=rAddr (some ⟨g,0,none⟩) (i*64) from by rw[rAddr,Option.getD_some,add_lit]]at S
    refine sws S n (by omega) (by omega) ?_;clear S;intro a w S
    rw[show n - i=(n - (i+1))+1 from by omega,qqC,←hfs,enc_setB,hfs,show fs++y::List.replicate (n - (i+1)) zB=(fs++[y])++List.replicate (n - (i+1)) zB from by rw[List.append_assoc];rfl]at S
    refine sq S ?_;clear S;intro a S;refine kN (xtn (kS (kR ?_)));(iterate 2 (refine sq S ?_;clear S;intro a S));refine kN (xtn ?_)
    refine kC S (fun h11=>?_) (fun h11=>?_)
    ·refine kS (kR ?_);(iterate 3 (refine sq S ?_;clear S;intro a S));refine kN (xtn (kT (xbr (xtr (xtr (xbr (xtr (xsr ?_))))))))
     have he2:askE s' ((fromN n turn+i:Nat):Int) false≠0:=by simpa using h11
     rw[if_neg he2]at hre
     have h1:=S.itNew (dkI b m p2 c2 (rdD s' ((fromN n turn+i:Nat):Int))) rfl
     have hh:=S.it (dkI b m p2 c2 (rdD s' ((fromN n turn+i:Nat):Int)))
     refine end2 S (fun _=>.inl ?_)
     rw[openB,hre,if_neg he2]
     exact ⟨he2,rfl,p2,c2,hh,h1⟩
    ·refine kK (xbn (xtn (kR ?_)));(iterate 2 (refine sq S ?_;clear S;intro a S));refine kN (xtn ?_)
     rw[show IntKind.i64.wrap ((i:Int)+1)=((i+1:Nat):Int) from by rw[w64 _ (by omega) (by omega)];rfl]at S
     have he2:askE s' ((fromN n turn+i:Nat):Int) false=0:=by simpa using h11
     rw[if_pos he2]at hre
     exact ⟨i+1,fs++[y],rdD s' ((fromN n turn+i:Nat):Int),p2,c2,S.uu,⟨hi2,by simp[hfs],by rw[rdD_loose,hsl],by rw[hre];simp⟩,S.sub _ _,by omega⟩
   ·refine kE (xte (xte (xbe (xtn (kS ?_)))))
    have hi2:i=n:=by have:=of_decide_eq_false h8;omega
    subst hi2
    rw[Nat.sub_self]at hre S
    rw[qqD,List.append_nil]at S
    have hB:openB i turn s1=openC i turn fs s':=by
     rw[openB,hre,fieldW,if_pos rfl,List.append_nil]
    rw[hB]
    clear hB hre hopen
    subst hfs
    replace S:=S.rowToGl (some ⟨g,0,none⟩) fs (e:=129) (sz:=64) (n:=fs.length) (c:=fs.length) (fun _ _ _ _=>trivial)
    refine kR ?_;(iterate 2 (refine sq S ?_;clear S;intro a S));refine sa S ?_;clear S;intro b48 a w S;refine sq S ?_;clear S;intro a S;refine kN (xtn (kS (c_label (xtn (kS (kB ?_))))))
    replace S:=S.addNil 25 1
    replace S:=St.addE S (entI []) (fun x hx=>by cases hx) (fun k ⟨x,hx,_⟩=>by cases hx)
    refine c_fore5 S (fun(said:List LBy) (q:Option Addr) (e:Nat) (fin:Nat) (f:Nat) uu=>[(9,uu 9),(0,uu 10),(38,uu 49),(0,uu 50),(0,uu 51),(0,uu 52),(0,uu 53),(0,uu 54),(0,uu 55),(0,uu 56),(0,uu 57),(0,uu 58),(0,uu 59),(0,uu 60),(0,uu 61),(0,uu 62),(0,uu 63),(0,uu 64),(0,uu 65),(0,uu 66),(0,uu 67),(0,uu 68),(0,uu 69),(0,uu 70),(0,uu 71),(0,uu 72),(0,uu 73),(0,uu 74),(0,uu 75),(0,uu 76),(0,uu 77),(0,uu 78),(0,uu 79),(0,uu 80),(0,uu 81),(0,uu 82),(0,uu 83),(0,uu 84),(0,uu 85),(0,uu 86),(0,uu 87),(0,uu 88)]) (fun(said:List LBy) (q:Option Addr) (e:Nat) (fin:Nat) (f:Nat)=>[entI said,Wk.row 25 1 q said.length e (encL said),Wk.box b48 134 (cWal b q e ⟨fs.length,turn,said,fin,false⟩),dkI b m p' c' s']) (fun(said:List LBy) (q:Option Addr) (e:Nat) (fin:Nat) (f:Nat)=>[GlF (some ⟨g,0,none⟩) fs]) (fun(said:List LBy) (q:Option Addr) (e:Nat) (fin:Nat) (f:Nat)=>fin≤fs.length∧said.length≤fin∧fs.length≤fin+f∧readF turn fs fs.length 0 0=(said.map LBy.bs++(readF turn fs f fin said.length).1,(readF turn fs f fin said.length).2)) (fun(said:List LBy) (q:Option Addr) (e:Nat) (fin:Nat) (f:Nat)=>fs.length - fin) ([]) (none) (0) (0) (fs.length) ?_ S.uu ?_ ?_
    ·exact ⟨by omega,by simp,by omega,rfl⟩
    ·exact S.sub [entI [],Wk.row 25 1 none 0 0 [],Wk.box b48 134 [.pointer (some ⟨b,0,none⟩),.int .i64 (fs.length:Int),.int .u32 turn,.slice none 0 0,.int .i64 0,.bool false],dkI b m p' c' s'] [GlF (some ⟨g,0,none⟩) fs]
    ·clear S;rintro said q e fin f uu a w ⟨hf1,hf2,hf3,hrd⟩ S
     refine kB (kS ?_);refine c_drawD [(0,true),(1,true),(2,true),(3,true),(4,true),(5,true),(6,true),(7,true),(8,true),(9,true),(10,true),(11,true),(12,true),(13,true),(14,false),(15,true),(16,true),(17,true),(18,true),(19,true)] [] S ?_;clear S;intro w S;(iterate 14 (refine dq S ?_;clear S;intro a S));refine dl ?_
     refine snew S (stands_v b fs.length turn fs (some ⟨g,0,none⟩) fs.length fin said.length htr (by omega) (by omega) (by omega) (by omega) _ ((S.mem.fact (GlF (some ⟨g,0,none⟩) fs)).less fun _ _ h=>h.elim)) ?_;clear S;rintro _ a w - ⟨r,rfl,hrh,hrn,hrc⟩ hS -
     have S:=hS (entI r) hrh hrn
     clear hS
     refine de S ?_;(iterate 5 (refine dq S ?_;clear S;intro a S));refine dn (xtn (kS (kS ?_)))
     replace S:=St.entAdd S
     refine kR ?_;(iterate 2 (refine sq S ?_;clear S;intro a S));refine kN (xtn ?_)
     refine kC S (fun h16=>?_) (fun h16=>?_)
     ·refine kE (xte (xbx (xte (xbe (xtn (kS (kS ?_)))))))
      have hr0:r=[]∧standF turn fs fin (said.length:Nat)=none:=by
       rcases hrc with h | ⟨y,rfl,-⟩
       ·exact h
       ·exact absurd h16 (by simp)
      obtain ⟨rfl,hst⟩:=hr0
      rw[List.append_nil]at S
      rw[readF_none hst,List.append_nil]at hrd
      refine kR ?_;(iterate 6 (refine sq S ?_;clear S;intro a S));refine kN (xtn ?_)
      refine kC S (fun h19=>?_) (fun h19=>?_)
      ·refine kS (kR ?_);(iterate 2 (refine sq S ?_;clear S;intro a S));refine kN (xtn (kT (xtr (xsr ?_))))
       have h0:said=[]:=by simpa using h19
       subst h0
       have h1:=S.itNew (dkI b m p' c' s') rfl
       have hh:=S.it (dkI b m p' c' s')
       have hC:openC fs.length turn fs s'=(s',140,noOW):=by rw[openC,hrd];exact if_pos rfl
       refine end2 S (fun _=>.inl ?_)
       rw[hC]
       exact ⟨(by show (140:Int)≠0;decide),rfl,p',c',hh,h1⟩
      ·refine kK (xtn (kS (kS (kR ?_))));(iterate 2 (refine sq S ?_;clear S;intro a S))
       have hnl:said≠[]:=by simpa using h19
       have hap:¬(dkI b m p' c' s').foot b48:=fun hk=>St.apart2 S (Wk.box b48 134 (cWal b q e ⟨fs.length,turn,said,fin,false⟩)) (dkI b m p' c' s') b48 rfl hk
       refine sit (dkI b m p' c' s') S (clears_c b48 b m p' c' s' q e ⟨fs.length,turn,said,fin,false⟩ fs (some ⟨g,0,none⟩) fs.length _ (by show fs.length≤1000;omega) rfl hf1 htr (by rw[hsl,hl1];omega) (S.it (dkI b m p' c' s')) (BoxF.stable (S.boxF b48) hap) (S.lend (dkI b m p' c' s') (S.mem.fact (GlF (some ⟨g,0,none⟩) fs)))) rfl ?_;clear S;rintro _ a w ⟨rfl,p2,c2,hh,hn2⟩ hS
       have S:=hS (dkI b m p2 c2 (clrF (fromN fs.length turn) fin fs s').1) hh hn2
       clear hS
       refine sq S ?_;clear S;intro a S;refine kN (xtn (kS (kR ?_)));(iterate 2 (refine sq S ?_;clear S;intro a S));refine kN (xtn ?_)
       refine kC S (fun h22=>?_) (fun h22=>?_)
       ·refine kS (kR ?_);(iterate 3 (refine sq S ?_;clear S;intro a S));refine kN (xtn (kT (xtr (xsr ?_))))
        have he2:(clrF (fromN fs.length turn) fin fs s').2≠0:=by simpa using h22
        have h1:=S.itNew (dkI b m p2 c2 (clrF (fromN fs.length turn) fin fs s').1) rfl
        have hh:=S.it (dkI b m p2 c2 (clrF (fromN fs.length turn) fin fs s').1)
        have hC:openC fs.length turn fs s'=((clrF (fromN fs.length turn) fin fs s').1,(clrF (fromN fs.length turn) fin fs s').2,noOW):=by
         rw[openC,hrd];exact (if_neg (by simpa using hnl)).trans (if_neg he2)
        refine end2 S (fun _=>.inl ?_)
        rw[hC]
        exact ⟨he2,rfl,p2,c2,hh,h1⟩
       ·refine kK (xtn (kS (kR ?_)));(iterate 3 (refine sq S ?_;clear S;intro a S));refine kN (xtn (kT (xsr ?_)))
        have he2:(clrF (fromN fs.length turn) fin fs s').2=0:=by simpa using h22
        replace S:=S.sub [entI said,Wk.row 25 1 q said.length e (encL said),Wk.box b48 134 (cWal b q e ⟨fs.length,turn,said,fin,false⟩),dkI b m p2 c2 (clrF (fromN fs.length turn) fin fs s').1] []
        have S:=S.perm [Wk.box b48 134 (cWal b q e ⟨fs.length,turn,said,fin,false⟩),Wk.row 25 1 q said.length e (encL said),entI said,dkI b m p2 c2 (clrF (fromN fs.length turn) fin fs s').1] (((List.Perm.swap _ _ _).trans ((List.Perm.cons _ (List.Perm.swap _ _ _)))).trans (List.Perm.swap _ _ _))
        have hh:=St.hold4 S rfl rfl rfl rfl
        have h1:=St.new4 S rfl rfl rfl rfl
        have hC:openC fs.length turn fs s'=((clrF (fromN fs.length turn) fin fs s').1,0,⟨fs.length,turn,said.map LBy.bs,fin⟩):=by
         rw[openC,hrd];exact (if_neg (by simpa using hnl)).trans (if_pos he2)
        refine end2 S (fun _=>.inr ?_)
        rw[hC]
        exact ⟨rfl,b48,p2,c2,q,e,⟨fs.length,turn,said,fin,false⟩,rfl,⟨rfl,rfl,rfl,rfl,rfl⟩,hh,h1⟩
     ·refine kK (xtn (kS ?_))
      obtain ⟨y,rfl,hst⟩:∃ y,r=[y]∧standF turn fs fin (said.length:Nat)=some y.bs:=by
       rcases hrc with ⟨rfl,-⟩ | hy
       ·exact absurd h16 (by simp)
       ·exact hy
      rw[show ptV [y]=.slice y.p y.bs.length y.c from rfl]at S
      have hyl:=(stand_get hst).1
      have hye:=stand_len hst
      have hyp:=secN_pos y.bs.length
      refine kR ?_;(iterate 6 (refine sq S ?_;clear S;intro a S));refine sn S ?_;clear S;intro b75 a w S
      refine sap S (by show said.length+1≤_;simp only[maxLen];omega) (by show (said.length+1)*24≤_;omega) ?_;clear S;rintro p7 c7 a w - S
      rw[show encL said++[.slice y.p y.bs.length y.c]=encL (said++[y]) from by rw[encL_append];rfl,show said.length+1=(said++[y]).length from by simp]at S
      (iterate 2 (refine sq S ?_;clear S;intro a S));refine sw S ?_;clear S;intro a w S;refine kN (xtn ?_)
      refine c_drwe0 (.q 0 (.q 1 (.q 2 (.q 4 (.q 5 (.b2 3 6 (.l 6 (.q 7 (.q 8 (.q 9 (.l 10 (.e)))))) (.l 3 (.q 7 (.q 8 (.q 9 (.l 10 (.e)))))))))))) S (fun  uu=>[(0,.pointer (some ⟨b,0,none⟩)),(78,uu 79),(0,uu 80),(0,uu 81),(0,uu 82),(0,uu 83),(0,uu 84),(0,uu 85),(0,uu 86),(0,uu 87),(0,uu 88)]) [entI (said++[y]),Wk.row 25 1 p7 (said++[y]).length c7 (encL (said++[y])),dkI b m p' c' s'] ([entI (said++[y]),Wk.row 25 1 p7 (said++[y]).length c7 (encL (said++[y])),Wk.box b48 134 (cWal b p7 c7 ⟨fs.length,turn,said++[y],fin+secN y.bs.length,false⟩),dkI b m p' c' s']) ([GlF (some ⟨g,0,none⟩) fs]) (True) ?_ ?_
      ·intro w S
       (iterate 5 (refine tq S ?_;clear S;intro a S))
       refine tb2 ?_ ?_
       ·refine sq S ?_;clear S;intro a S;refine te S ?_;refine tl ?_;refine sr S (sectors_c (y.bs.length:Int) _) ?_;clear S;rintro _ a w rfl S
        rw[secF_nat _ hyl]at S
        refine te S ?_;refine tq S ?_;clear S;intro a S
        rw[show IntKind.i64.wrap ((fin:Int)+(secN y.bs.length:Int))=((fin+secN y.bs.length:Nat):Int) from by rw[w64 _ (by omega) (by omega)];rfl]at S
        (iterate 2 (refine tq S ?_;clear S;intro a S));refine tl (sw S ?_);clear S;intro a w S;refine te S ?_;refine tn ?_
        exact ⟨S.uu,trivial,S.sub _ _⟩
       ·refine sr S (sectors_c (y.bs.length:Int) _) ?_;clear S;rintro _ a w rfl S
        rw[secF_nat _ hyl]at S
        refine te S ?_;refine tl (sq S ?_);clear S;intro a S;refine te S ?_;refine tq S ?_;clear S;intro a S
        rw[show IntKind.i64.wrap ((fin:Int)+(secN y.bs.length:Int))=((fin+secN y.bs.length:Nat):Int) from by rw[w64 _ (by omega) (by omega)];rfl]at S
        (iterate 2 (refine tq S ?_;clear S;intro a S));refine tl (sw S ?_);clear S;intro a w S;refine te S ?_;refine tn ?_
        exact ⟨S.uu,trivial,S.sub _ _⟩
      clear S;rintro  uu a w - S;refine xbn (xtn ?_)
      obtain ⟨f',rfl⟩:∃ f',f=f'+1:=⟨f - 1,by omega⟩
      rw[readF,hst]at hrd
      exact ⟨said++[y],p7,c7,fin+secN y.bs.length,f',S.uu,⟨by omega,by simp;omega,by omega,by rw[hrd];simp⟩,S.sub _ _,by omega⟩
end Go.Proofs.YtdakncgafdnjfaaGreat
namespace Go.Wk
open Go
section
variable {P:Program} {r:Option Nat} {ops:Array Oper} {Q:Exit→Act→World→Prop} {w0:World} {M0:Nat→Prop} {ds:List Deferred} {a:Act} {w:World} {l:List Value} {bs bs':List Item} {fs:List (World→Prop)}
 {d:Option Nat} {ty:TypeId} {pos:String} {af:Array Edge} {rest:List Oper} {f:Nat} {x:Operand} {ts:Array TypeId} {e:Exit}
theorem sdefc {xs:List Operand} {fi ca vs:List Value} {l':List Value} [hx:Ev ⟨[],l⟩ x (.func (.func f) ⟨fi⟩ ⟨ca⟩)] [he:EvL ⟨[],l⟩ xs vs] [hp:PutO l d undef l'] (S:St w0 M0 ds a w l bs fs)
  (K:∀ a,St w0 M0 ({ target:=.fn (.func f) ⟨ca⟩,args:=(fi++vs).toArray }::ds) a w l' bs fs→WL P none ops Q rest a w) :
  WL P none ops Q (⟨d,.defer { callee:=.value x,args:=xs.toArray,argTypes:=ts },ty,pos,af,none⟩::rest) a w:=by
 refine wl_plain rfl ?_
 have hf:a.eval x=.func (.func f) ⟨fi⟩ ⟨ca⟩:=S.fr.ev
 have hev:xs.map a.eval=vs:=S.fr.evl
 rw[Oper.semAt_none]
 have:(execOp a.eval ⟨d,.defer { callee:=.value x,args:=xs.toArray,argTypes:=ts },ty,pos,af,none⟩).run P w=.ok (.defer { target:=.fn (.func f) ⟨ca⟩,args:=(fi++vs).toArray }) w:=by
  simp[execOp,resolve,hf,hev,Deferred.ofValue]
 rw[this]
 obtain ⟨t,dd⟩:=a
 have:=S.slots;simp at this;subst this
 have hd:=S.defers;simp at hd;subst hd
 show WL P none ops Q rest _ w
 rw[hp.eq]
 exact K _ ⟨rfl,rfl,S.wd⟩
theorem enterDI {fn:Func} {c:Code} {args:List Value} {l:List Value} {R:Ending→World→Prop} {M0:Nat→Prop} {bs:List Item} {fs:List (World→Prop)} {u:FrameMode}
  (hf:P.funcs[f]? = some fn) (hb:fn.body=some c) (hl:args++List.replicate (fn.ntmps - args.length) undef=l) (hw:Wd w M0 w bs fs)
  (h:∀ a,St w M0 [] a w l bs fs→Wp P none c (bodyPost P fn R) a w):CallsDIn (FW none) 0 P f args.toArray u w fun e u' w'=>u'=u∧R e w':=by
 refine callsDIn_of_wp hf hb trivial (h _ ⟨?_,rfl,hw⟩)
 simp[←hl]
variable {fn:Func} {R:Value→World→Prop}
theorem endD1 {r1:ResultVar} {v1:Value} [hr:FnRes fn [r1]] [h1:ResV P l bs r1 v1] (S:St w0 M0 [] a w l bs fs) (h:R v1 w) (he:e=.ret∨e=.normal:=by simp) :
  bodyPostDIn (FW none) 0 P fn (fun e w'=>∃ v,e=.returned v∧Agree M0 w0 w'∧R v w') e a w:=by
 have key:LeavesIn (FW none) 0 P fn a.tmps (fun e w'=>∃ v,e=.returned v∧Agree M0 w0 w'∧R v w') a.defers .returning w:=by
  rw[S.defers]
  refine ⟨v1,?_,v1,rfl,S.wd.agree,h⟩
  rw[S.slots,results_eq (rs:=[r1])]
  simp[run_res (P:=P) (l:=l) (bs:=bs) (rv:=r1) (v:=v1) w S.wd.held]
 rcases he with rfl | rfl <;> exact key
theorem endDef1 {g:Nat} {ca vs:List Value} (x y:Item) [hri:ReplI bs x y bs'] [oy:ItOk y] [he:EntF P g] {r1:ResultVar} {v1:Value} [hr:FnRes fn [r1]] [h1:ResV P l bs' r1 v1]
  (S:St w0 M0 [{ target:=.fn (.func g) ⟨ca⟩,args:=vs.toArray }] a w l bs fs) (hxo:x.own=true)
  (hc:CallsDIn (FW none) 0 P g (vs++ca).toArray .returning w fun e u' w'=>u'=.returning∧∃ v,e=.returned v∧Agree x.foot w w'∧y.holds w')
  (hf:∀ k,y.foot k→x.foot k) (h:∀ w',Wd w0 M0 w' bs' fs→R v1 w') (hx:e=.ret∨e=.normal:=by simp) :
  bodyPostDIn (FW none) 0 P fn (fun e w'=>∃ v,e=.returned v∧Agree M0 w0 w'∧R v w') e a w:=by
 have key:LeavesIn (FW none) 0 P fn a.tmps (fun e w'=>∃ v,e=.returned v∧Agree M0 w0 w'∧R v w') a.defers .returning w:=by
  rw[S.defers]
  refine leavesIn_cons (f:=g) (args:=(vs++ca).toArray) (by simp) (fun h=>by cases h) ?_ (fun _ _=>trivial) (hc.mono ?_)
  ·have:=he.run (vs++ca).toArray w
   simpa [invoke] using this
  ·rintro e u' w' ⟨rfl,v,rfl,hag,hy⟩
   have hwd:Wd w0 M0 w' bs' fs:=by
    obtain ⟨pre,post,q1,q2⟩:=hri.ex
    have hwd:=S.wd
    rw[q1]at hwd
    rw[q2]
    exact hwd.swap hxo hag hy (fun k hk=>.inl (hf k hk)) (oy.lt w' hy) oy.loc
   refine ⟨v1,?_,v1,rfl,hwd.agree,h w' hwd⟩
   rw[S.slots,results_eq (rs:=[r1])]
   simp[run_res (P:=P) (l:=l) (bs:=bs') (rv:=r1) (v:=v1) w' hwd.held]
 rcases hx with rfl | rfl <;> exact key
end
section
variable {P:Program} {ops:Array Oper} {md:Region.Mode} {C:World→Prop}
def ACL (last:Nat) (P:Program) (ops:Array Oper) (C:World→Prop) (R:Act→World→Prop):Nat→Array Bool→Act→World→Prop
 | 0,listed,a,w=>Region.ready .any ops listed=[]∧R a w
 | fuel+1,listed,a,w=>
  (Region.ready .any ops listed=[]→R a w)∧
  ∀ i∈Region.ready .any ops listed,WN P ops i (fun a' w'=>(i≠last→C w')∧ACL last P ops C R fuel (listed.setIfInBounds i true) a' w') a w
variable {R:Act→World→Prop}
theorem acl_first {last i:Nat} {oi:Oper} {v:Value} (hi:ops[i]? = some oi) (hsel:∀ (j:Nat) (o:Oper) cs b,ops[j]? = some o→o.op≠.select cs b) :
  (i≠last∧∀ o,ops[last]? = some o→∃ e∈o.after,Region.binds .any e=true∧e.on=i)→∀ (fuel:Nat) (listed:Array Bool) (a:Act) (w:World),
   (∀ j oj,ops[j]? = some oj→j≠i→listed.getD j true=false→(∀ e∈oj.after,Region.binds .any e=true→e.on≠i)→oi.apart ops oj=true)→
   i∈Region.ready .any ops listed→YieldsC P ops C oi v a→C w→
   ACL last P ops C R fuel (listed.setIfInBounds i true) (a.put oi.dst v) w→ACL last P ops C R (fuel+1) listed a w:=by
 intro hlast fuel
 induction fuel with
 | zero=>
  intro listed a w _ hr hy hS H
  refine ⟨fun h=>(by rw[h]at hr;cases hr),fun j hj=>?_⟩
  by_cases hji:j=i
  ·subst hji;exact hy.wn hi hS ⟨fun _=>hS,H⟩
  ·have:=ready_mono hj hji
   rw[H.1]at this
   cases this
 | succ fuel ih=>
  intro listed a w hfree hr hy hS H
  refine ⟨fun h=>(by rw[h]at hr;cases hr),fun j hj=>?_⟩
  by_cases hji:j=i
  ·subst hji;exact hy.wn hi hS ⟨fun _=>hS,H⟩
  ·have h1:=H.2 j (ready_mono hj hji)
   obtain ⟨hjun,oj,hoj,hall⟩:=mem_ready.1 hj
   have hnot:∀ e∈oj.after,Region.binds .any e=true→e.on≠i:=fun e he hb heq=>by
    have h1:=hall e he hb
    have h0:=(mem_ready.1 hr).1
    rw[heq]at h1
    rcases Nat.lt_or_ge i listed.size with h' | h'
    ·simp[h']at h0 h1;rw[h0]at h1;cases h1
    ·simp[Array.getElem?_eq_none h']at h1
   have hjl:j≠last:=fun e=>by
    obtain ⟨e',he',hb',ho'⟩:=hlast.2 oj (e▸hoj)
    exact hnot e' he' hb' ho'
   have h2:=wn_put hoj (hfree j oj hoj hji hjun hnot) (fun cs b=>hsel i oi cs b hi) (fun cs b=>hsel j oj cs b hoj) hy h1
   have hfree':∀ k ok,ops[k]? = some ok→k≠i→(listed.setIfInBounds j true).getD k true=false→
     (∀ e∈ok.after,Region.binds .any e=true→e.on≠i)→oi.apart ops ok=true:=fun k ok hk hki hun hno=>by
    refine hfree k ok hk hki ?_ hno
    by_cases hjk:j=k
    ·subst hjk;exact hjun
    ·rw[getD_set_ne true hjk]at hun;exact hun
   refine wpOpIn_mono (fun a' w' h3=>⟨h3.2.1,ih (listed.setIfInBounds j true) a' w' hfree' (ready_mono hr (Ne.symm hji)) h3.1 (h3.2.1 hjl) ?_⟩) h2
   rw[Array.setIfInBounds_comm _ _ hji]
   exact h3.2.2
variable {r:Option Nat} {Q:Exit→Act→World→Prop} {w0:World} {M0:Nat→Prop} {ds:List Deferred} {a:Act} {w:World} {l l':List Value} {bs bs' bs0:List Item} {fs fs0:List (World→Prop)}
 {d:Option Nat} {op:Op} {ty:TypeId} {pos:String} {af:Array Edge} {rest:List Oper} {v v' G:Value} {j g:Nat} {pol:Bool} {cs:List Bool} {n:Nat} {listed:Array Bool}
def feeds (ops:Array Oper) (last i:Nat):Bool:=(!Nat.beq i last)&&(match ops[last]? with | some o=>o.after.toList.any fun e=>Region.binds .any e&&Nat.beq e.on i | none=>false)
theorem feeds_spec {ops:Array Oper} {last i:Nat} (h:feeds ops last i=true):i≠last∧∀ o,ops[last]? = some o→∃ e∈o.after,Region.binds .any e=true∧e.on=i:=by
 simp only[feeds,Bool.and_eq_true,Bool.not_eq_true']at h
 refine ⟨fun e=>(by rw[e,Nat.beq_refl]at h;cases h.1),fun o ho=>?_⟩
 rw[ho]at h
 obtain ⟨e,he,h2⟩:=List.any_eq_true.1 h.2
 simp only[Bool.and_eq_true]at h2
 exact ⟨e,by simpa using he,h2.1,Nat.eq_of_beq_eq_true h2.2⟩
def flowFromL (last:Nat) (ops:Array Oper):List (Nat × Bool)→Array Bool→Bool
 | [],listed=>(Region.ready .any ops listed).isEmpty
 | (i,true)::ord,listed=>(((Region.ready .any ops listed).contains i&&Region.free .any ops listed i)&&feeds ops last i)&&flowFromL last ops ord (listed.setIfInBounds i true)
 | (i,false)::ord,listed=>(match Region.ready .any ops listed with | [j]=>Nat.beq j i | _=>false)&&flowFromL last ops ord (listed.setIfInBounds i true)
def AQL (last:Nat) (P:Program) (ops:Array Oper) (C:World→Prop) (R:Act→World→Prop) (ord:List (Nat × Bool)) (a:Act) (w:World):Prop:=
 ∀ listed,Region.noSelect ops=true→flowFromL last ops ord listed=true→ACL last P ops C R ord.length listed a w
variable {ord:List (Nat × Bool)} {i last:Nat}
theorem dqL (S:St w0 M0 ds a w l bs fs) [hb:SubL bs0 bs] [hf:SubL fs0 fs] [ho:OpAt ops i ⟨d,op,ty,pos,af,none⟩] [hq:OpQ P op ty ⟨[],l⟩ bs0 fs0 v] [hp:PutO l d v l']
  (K:∀ a,St w0 M0 ds a w l' bs fs→AQL last P ops (fun w=>Wd w0 M0 w bs0 fs0) R ord a w) :
  AQL last P ops (fun w=>Wd w0 M0 w bs0 fs0) R ((i,true)::ord) a w:=by
 intro listed hs hflow
 simp only[flowFromL,Bool.and_eq_true]at hflow
 refine acl_first ho.eq (Region.noSelect_spec hs) (feeds_spec hflow.1.2) _ listed a w (Region.free_spec ho.eq hflow.1.1.2) (by simpa using hflow.1.1.1) (v:=v) (.inl ⟨rfl,fun w' hw'=>?_⟩) (S.wd.sub hb.sub hf.sub) (K _ S.put _ hs hflow.2)
 rw[execOp_eq]
 exact hq.run a.eval w' S.fr hw'.mem
theorem dlL {o:Oper} {C:World→Prop} [ho:OpAt ops i o] (h:WL P none ops (fun e a' w'=>e=.normal∧(i≠last→C w')∧AQL last P ops C R ord a' w') [o] a w):AQL last P ops C R ((i,false)::ord) a w:=by
 intro listed hs hflow
 simp only[flowFromL,Bool.and_eq_true]at hflow
 have hr:Region.ready .any ops listed=[i]:=by
  have:=hflow.1
  split at this
  ·rename_i k hk;rw[hk,Nat.eq_of_beq_eq_true this]
  ·cases this
 refine ⟨fun h0=>(by rw[h0]at hr;cases hr),fun k hk=>?_⟩
 rw[hr]at hk
 obtain rfl:k=i:=by simpa using hk
 unfold WN wpOpIn
 simp only[ho.eq]
 simp only[WL,wpListIn]at h
 split
 ·rename_i hw
  rw[if_pos hw]at h
  refine ⟨fun _ _=>trivial,?_⟩
  have h:=h.2
  generalize (o.semAt (FW none).round a.eval).run P w=q at *
  cases q with
  | ok x w'=>
   cases x <;> simp only[Oper.uponIn]at h⊢
   case value u=>exact ⟨h.2.1,h.2.2 _ hs hflow.2⟩
   case skip=>exact ⟨h.2.1,h.2.2 _ hs hflow.2⟩
   case defer d=>exact ⟨h.2.1,h.2.2 _ hs hflow.2⟩
   case enter f args=>
    refine ⟨h.1,CallsIn.mono h.2 fun e w'' he=>?_⟩
    cases e with
    | returned u=>exact ⟨he.2.1,he.2.2 _ hs hflow.2⟩
    | panicked c=>exact absurd he.1 (by simp)
    | outgrown=>obtain ⟨_,_,he,_⟩:=he;exact absurd he (by simp)
   case row row args=>exact ⟨h.1,RowsIn.mono h.2 fun u w'' he=>⟨he.2.1,he.2.2 _ hs hflow.2⟩⟩
   case round l f tmps assign body=>
    refine ⟨h.1,RoundIn.mono h.2 fun e w'' he=>?_⟩
    cases e with
    | returned u=>exact ⟨he.2.1,he.2.2 _ hs hflow.2⟩
    | panicked c=>exact absurd he.1 (by simp)
    | outgrown=>obtain ⟨_,_,he,_⟩:=he;exact absurd he (by simp)
  | halt x w'=>
   cases x <;> simp only[Oper.uponIn]at h⊢
   case panic u=>exact absurd h.1 (by simp)
 ·rename_i hw
  rw[if_neg hw]at h
  exact ⟨fun _ _=>trivial,h.2.2.1,h.2.2.2 _ hs hflow.2⟩
theorem deL [hb:SubL bs0 bs] [hf:SubL fs0 fs] (S:St w0 M0 ds a w l bs fs) (h:AQL last P ops (fun w=>Wd w0 M0 w bs0 fs0) R ord a w):WL P none ops (fun e a' w'=>e=.normal∧(i≠last→Wd w0 M0 w' bs0 fs0)∧AQL last P ops (fun w=>Wd w0 M0 w bs0 fs0) R ord a' w') [] a w:=
 kN ⟨rfl,fun _=>S.wd.sub hb.sub hf.sub,h⟩
theorem dzL {C:World→Prop} (h:R a w) (hr:∀ listed,Region.noSelect ops=true→flowFromL last ops [] listed=true→Region.ready .any ops listed=[]:=by intro listed _ h;simpa [flowFromL] using h):WL P none ops (fun e a' w'=>e=.normal∧(last≠last→C w')∧AQL last P ops C R [] a' w') [] a w:=
 kN ⟨rfl,fun h=>absurd rfl h,fun listed hs hf=>⟨hr listed hs hf,h⟩⟩
theorem any_of_acl (hd:∀ (i:Nat) o,ops[i]? = some o→isDefer o.op=false):∀ (fuel:Nat) (listed:Array Bool) (a:Act) (w:World),ACL last P ops C (fun a w=>Q .normal a w) fuel listed a w→wpAnyIn (FW r) 0 P .any ops Q fuel listed a w
 | 0,_,_,_,h=>h
 | fuel+1,_,_,_,h=>⟨h.1,fun i hi=>wn_round hd (wpOpIn_mono (fun a' w' h'=>any_of_acl hd fuel _ a' w' h'.2) (h.2 i hi))⟩
theorem c_drawL {id:Nat} {lo:List Oper} (last:Nat) (ord:List (Nat × Bool)) (bs0:List Item) (S:St w0 M0 ds a w l bs fs) (h:∀ w,St w0 M0 ds a w l bs fs→AQL last P lo.toArray (fun w=>Wd w0 M0 w bs0 fs) (fun a w=>Q .normal a w) ord a w)
  (hm:P.follows .mixedOrders=true:=by kernel_rfl) (hd:((lo.all fun o=>!isDefer o.op)&&(Nat.beq ord.length lo.length&&(Region.noSelect lo.toArray&&flowFromL last lo.toArray ord (Array.replicate lo.length false))))=true:=by kernel_rfl):Wp P r (.region id lo.toArray true) Q a w:=by
 simp only[Bool.and_eq_true]at hd
 refine wpIn_region_any hm (any_of_acl (last:=last) (C:=fun w=>Wd w0 M0 w bs0 fs) (fun i o ho=>?_) _ _ _ _ ?_)
 have:=List.all_eq_true.1 hd.1 o (by
  rw[List.getElem?_toArray]at ho
  exact List.mem_of_getElem? ho)
 simpa using this
 have:=h { w with drawn:=w.drawn+1 } ⟨S.slots,S.defers,S.wd.step (Agree.drawn _ w _)⟩ _ hd.2.2.1 hd.2.2.2
 rw[Nat.eq_of_beq_eq_true hd.2.1]at this
 simpa using this
end
end Go.Wk