/- 8: a part of this claim's texts, joined: MemF MemLaw TermK TermL VaultK VaultN PlainVaultE PlainVaultF PlainVaultG W14 MemG MemH MemI MemJ MemK MemZ. -/
import Derived.Test.YtdakncgafdnjfaaGreatPj7
namespace Go.Proofs.YtdakncgafdnjfaaGreat
open Go Go.Wk
set_option synthInstance.maxSize 100000
set_option synthInstance.maxHeartbeats 400000
set_option maxRecDepth 100000
abbrev bbI (h:Nat) (p:Option Addr) (c:Nat) (b:List UInt8):Wk.Item:=both (Wk.box h 25 [.slice p b.length c]) (Wk.row 5 1 p b.length c (encL b))
def twoB (n:Int):List UInt8:=be 2 (IntKind.u16.wrap n)
def twosB:List Int→List UInt8
 | []=>[]
 | n::l=>twoB n++twosB l
theorem twoB_len (n:Int):(twoB n).length=2:=be_len _ _
theorem twosB_len:∀ l:List Int,(twosB l).length=2*l.length
 | []=>rfl
 | n::l=>by rw[twosB,List.length_append,twoB_len,twosB_len l,qqA];omega
def BbR (h:Nat) (p:Option Addr) (c:Nat) (b B:List UInt8) (v:Value) (w0 w:World):Prop:=v=.tuple #[]∧∃ p' c',(bbI h p' c' B).holds w∧∀ k,(bbI h p' c' B).foot k→(bbI h p c b).foot k∨w0.heap.size≤k
theorem menc1_c (h:Nat) (p:Option Addr) (c:Nat) (b:List UInt8) (xs:List Int) (q:Option Addr) (n d:Nat) (w0:World) (hn:xs.length=n) (hl:n≤1000) (hb:b.length≤500000000) (hd:(bbI h p c b).holds w0) (hx:Stable (bbI h p c b).foot w0 (GlF q xs)) :
  Ret Tryz.prog 110 [.slice q n d,.pointer (some ⟨h,0,none⟩)] w0 (bbI h p c b).foot fun v w'=>BbR h p c b (b++twosB xs) v w0 w':=by
 subst hn
 refine enter Tryz.func110 rfl rfl (Wd.it2Lent (x:=Wk.box h 25 [.slice p b.length c]) (y:=Wk.row 5 1 p b.length c (encL b)) (fs:=[GlF q xs]) hd rfl rfl (by simpa using hx)) (fun a S=>?_)
 simp only[Tryz.ntmps110,qqA,qqB,Nat.reduceAdd,Nat.reduceSub,qqC,qqD,qqE,qqF]at S
 refine kS (kR ?_);(iterate 3 (refine sq S ?_;clear S;intro a S));refine kN (xtn (kB ?_))
 refine c_fore4 S (fun(k:Nat) (b':List UInt8) (p':Option Addr) (c':Nat) uu=>[(4,uu 4),(2,.int .i64 (k:Nat)),(0,uu 8),(0,uu 9),(0,uu 10),(0,uu 11),(0,uu 12),(0,uu 13),(0,uu 14),(0,uu 15)]) (fun(k:Nat) (b':List UInt8) (p':Option Addr) (c':Nat)=>[Wk.box h 25 [.slice p' b'.length c'],Wk.row 5 1 p' b'.length c' (encL b')]) (fun(k:Nat) (b':List UInt8) (p':Option Addr) (c':Nat)=>[GlF q xs]) (fun(k:Nat) (b':List UInt8) (p':Option Addr) (c':Nat)=>k≤xs.length∧b'++twosB (xs.drop k)=b++twosB xs) (fun(k:Nat) (b':List UInt8) (p':Option Addr) (c':Nat)=>xs.length - k) (0) (b) (p) (c) ?_ S.uu ?_ ?_
 exact ⟨Nat.zero_le _,rfl⟩
 first | exact S | exact S.sub _ _
 clear S;rintro k b' p' c' uu a w ⟨hk,hrel⟩ S
 refine kS (kR (sq S ?_));clear S;intro a S;refine kN (xtn (kS ?_))
 refine kC S (fun h1=>?_) (fun h1=>?_)
 refine kK (xtn (kS (kB (kS ?_))))
 have hkl:k < xs.length:=by simp at h1;omega
 have hK:KLt k xs.length:=⟨hkl⟩
 rw[nthG_drop hkl,twosB]at hrel
 have hbl:=congrArg List.length hrel
 simp only[List.length_append,twosB_len,twoB_len]at hbl
 refine kR ?_;(iterate 3 (refine sq S ?_;clear S;intro a S));refine kN (xtn (kR ?_));(iterate 3 (refine sq S ?_;clear S;intro a S))
 have hr:=wu16_range (nthG xs k)
 refine srn S (put16_c p' b'.length c' b' (IntKind.u16.wrap (nthG xs k)) w rfl (by omega) hr.1 hr.2 (sl_stable (S.row p' b'.length))) ?_;clear S;rintro _ a w ⟨g,rfl,hg,hown⟩ hS -
 have S:=hS hown (fun ad had=>by cases had;exact hg)
 clear hS
 refine sw S ?_;clear S;intro a w S;refine kN (xbn (xtn (kR ?_)));(iterate 2 (refine sq S ?_;clear S;intro a S));refine kN (xtn ?_)
 rw[w64 ((k:Int)+1) (by omega) (by omega)]at S
 rw[show b'.length+2=(b'++be 2 (IntKind.u16.wrap (nthG xs k))).length from by rw[List.length_append,be_len]]at S
 replace S:=(S.front (Wk.row 5 1 (some ⟨g,0,none⟩) (b'++be 2 (IntKind.u16.wrap (nthG xs k))).length (b'++be 2 (IntKind.u16.wrap (nthG xs k))).length (encL (b'++be 2 (IntKind.u16.wrap (nthG xs k)))))).front (Wk.box h 25 [.slice (some ⟨g,0,none⟩) (b'++be 2 (IntKind.u16.wrap (nthG xs k))).length (b'++be 2 (IntKind.u16.wrap (nthG xs k))).length])
 exact ⟨k+1,b'++be 2 (IntKind.u16.wrap (nthG xs k)),some ⟨g,0,none⟩,(b'++be 2 (IntKind.u16.wrap (nthG xs k))).length,S.uu,⟨hkl,by rw[List.append_assoc];exact hrel⟩,S.sub _ _,by omega⟩
 refine kE (xte (xte (xbe ?_)))
 have hkl:xs.length≤k:=by simp at h1;omega
 rw[List.drop_of_length_le hkl,twosB,List.append_nil]at hrel
 subst hrel
 replace S:=S.toBoth
 have h1:=S.it (bbI h p' c' (b++twosB xs))
 have h2:=S.itNew (bbI h p' c' (b++twosB xs)) rfl
 exact end0 S (fun _=>⟨rfl,p',c',h1,h2⟩)
theorem menc2_c (h:Nat) (p:Option Addr) (c:Nat) (b:List UInt8) (s:List UInt8) (w0:World) (hl:s.length≤1000) (hb:b.length≤500000000) (hd:(bbI h p c b).holds w0) :
  Ret Tryz.prog 111 [str s,.pointer (some ⟨h,0,none⟩)] w0 (bbI h p c b).foot fun v w'=>BbR h p c b (b++Wk.u8 s.length::s) v w0 w':=by
 refine enter Tryz.func111 rfl rfl (Wd.it2Lent (x:=Wk.box h 25 [.slice p b.length c]) (y:=Wk.row 5 1 p b.length c (encL b)) (fs:=[]) hd rfl rfl (by simp)) (fun a S=>?_)
 simp only[Tryz.ntmps111,qqA,qqB,Nat.reduceAdd,Nat.reduceSub,qqC,qqD,qqE,qqF]at S
 refine kR ?_;(iterate 4 (refine sq S ?_;clear S;intro a S));refine sn S ?_;clear S;intro b7 a w S
 refine sap S (by simp[maxLen];omega) (by omega) ?_;clear S;rintro p1 c1 a w - S
 refine sq S ?_;clear S;intro a S
 refine sap S (by simp[maxLen];omega) (by omega) ?_;clear S;rintro p2 c2 a w - S
 rw[show encL b++[Value.int .u8 (IntKind.u8.wrap (s.length:Int))]++encL s=encL (b++Wk.u8 s.length::s) from by rw[u8_wrap,encL_append,List.append_assoc];rfl,show b.length+1+s.length=(b++Wk.u8 s.length::s).length from by simp;omega]at S
 refine sw S ?_;clear S;intro a w S;refine kN ?_
 replace S:=((S.front (Wk.row 5 1 p2 (b++Wk.u8 s.length::s).length c2 (encL (b++Wk.u8 s.length::s)))).front (Wk.box h 25 [.slice p2 (b++Wk.u8 s.length::s).length c2])).toBoth
 have h1:=S.it (bbI h p2 c2 (b++Wk.u8 s.length::s))
 have h2:=S.itNew (bbI h p2 c2 (b++Wk.u8 s.length::s)) rfl
 exact end0 S (fun _=>⟨rfl,p2,c2,h1,h2⟩)
def markE (m:LMark):List UInt8:=(Wk.u8 m.key.length::m.key)++twoB m.ver
def marksE:List LMark→List UInt8
 | []=>[]
 | m::l=>markE m++marksE l
def seenE (s:PSeen):List UInt8:=[Wk.u8 s.user]++twoB s.cnt++be 4 (IntKind.u32.wrap ((nameF s.root).length:Int))++nameF s.root
def seensE:List PSeen→List UInt8
 | []=>[]
 | s::l=>seenE s++seensE l
def tailE3 (m:PMem):List UInt8:=Wk.u8 m.seen.length::seensE m.seen
def tailE2 (m:PMem):List UInt8:=Wk.u8 m.vers.length::marksE m.vers++tailE3 m
def tailE1 (m:PMem):List UInt8:=Wk.u8 m.seeds.length::marksE m.seeds++tailE2 m
def encM (m:PMem):List UInt8:=Wk.u8 m.user::twosB [m.leaf,m.counter,m.num]++tailE1 m
theorem nameF_short (t:Term):(nameF t).length≤84000:=by
 rw[nameF];split
 simp
 rename_i h;exact bytes_small h
theorem marksE_len:∀ l:List LMark,(∀ x∈l,x.key.length≤1000)→(marksE l).length≤1003*l.length
 | [],_=>by simp[marksE]
 | m::l,h=>by
  have h1:=h m (.head _)
  have h2:=marksE_len l fun x hx=>h x (.tail _ hx)
  simp only[marksE,markE,List.length_append,qqA,twoB_len];omega
theorem seensE_len:∀ l:List PSeen,(seensE l).length≤84007*l.length
 | []=>by simp[seensE]
 | s::l=>by
  have h1:=nameF_short s.root
  have h2:=seensE_len l
  simp only[seensE,seenE,List.length_append,qqA,qqB,twoB_len,be_len];omega
theorem encM_len {m:LMem} (hfit:FitM m):(encM m.m).length≤100000000:=by
 have h1:=marksE_len m.seeds hfit.names
 have h2:=marksE_len m.vers hfit.keys
 have h3:=seensE_len (ssP m.seen)
 have h4:=hfit.seeds
 have h5:=hfit.vers
 have h6:=hfit.seen
 rw[ssP,List.length_map]at h3
 rw[encM,tailE1,tailE2,tailE3]
 simp only[List.length_append,qqA,twosB_len,qqB,LMem.m,ssP];omega
def EncR (m:PMem) (v:Value) (w0 w:World):Prop:=(memB m=false∧v=.tuple ⟨[.slice none 0 0,.int .i64 300]⟩)∨
 (memB m=true∧∃ (p:Option Addr) (c:Nat),v=.tuple ⟨[.slice p (encM m).length c,.int .i64 0]⟩∧w.ownsRow 0 5 1 (.slice p (encM m).length c) (encM m).length (encL (encM m))∧∀ ad,p=some ad→w0.heap.size≤ad.block)
set_option maxHeartbeats 4000000 in
theorem mencode_c (m:LMem) (hfit:FitM m) (w0:World) (hm:Stable (fun _=>False) w0 (MemF m)):Ret Tryz.prog 36 [vMem m] w0 (fun _=>False) fun v w'=>EncR m.m v w0 w':=by
 have hl1:=hfit.seeds
 have hl2:=hfit.vers
 have hl3:=hfit.seen
 have hbig:=encM_len hfit
 obtain ⟨B,hB⟩:∃ B,B=encM m.m:=⟨_,rfl⟩
 rw[←hB]at hbig
 refine enter Tryz.func36 rfl rfl (Wd.begin (fs:=[MemF m,GlF m.sp m.seeds,GlF m.vp m.vers,GlF m.ep m.seen]) (by simp;exact ⟨hm,hm.imp fun _ h=>h.1,hm.imp fun _ h=>h.2.1,hm.imp fun _ h=>h.2.2⟩)) (fun a S=>?_)
 simp only[Tryz.ntmps36,qqA,qqB,Nat.reduceAdd,Nat.reduceSub,qqC,qqD,qqE,qqF]at S
 refine kS (kR ?_);refine sa S ?_;clear S;intro b1 a w S;(iterate 2 (refine sq S ?_;clear S;intro a S));refine kN (xtn (kS (kS (kR (sq S ?_)))));clear S;intro a S
 refine sr S (mcheck_c m hfit _ ((S.mem.fact (MemF m)).less fun _ _ h=>h.elim)) ?_;clear S;rintro _ a w rfl S
 refine sq S ?_;clear S;intro a S;refine kN (xtn (kS (kR ?_)));(iterate 2 (refine sq S ?_;clear S;intro a S))
 rw[mchk_dec]at S
 refine kN (xtn ?_)
 refine kC S (fun h2=>?_) (fun h2=>?_)
 refine kS (kR ?_);(iterate 3 (refine sq S ?_;clear S;intro a S));refine kN (xtn (kT (xtr ?_)))
 have hno:memB m.m=false:=by simpa using h2
 refine end2 S (fun _=>.inl ⟨hno,?_⟩)
 rw[mchkF,hno];rfl
 refine kK (xtn (kS ?_))
 have hyes:memB m.m=true:=by simpa using h2
 refine kR ?_;(iterate 3 (refine sq S ?_;clear S;intro a S));refine sn S ?_;clear S;intro b24 a w S
 replace S:=S.boxRow b24 1 1 rfl (by decide)
 rw[show [Value.int .u8 (IntKind.u8.wrap m.user)]=encL [Wk.u8 m.user] from by rw[u8_wrap];rfl]at S
 refine sa S ?_;clear S;intro b5 a w S;refine sw S ?_;clear S;intro a w S;refine kN (xtn (kS (kR ?_)));(iterate 2 (refine sq S ?_;clear S;intro a S));refine kN (xtn (kS (kR ?_)));(iterate 2 (refine sq S ?_;clear S;intro a S));refine kN (xtn (kS (kR ?_)));(iterate 7 (refine sq S ?_;clear S;intro a S));refine sn S ?_;clear S;intro b34 a w S
 replace S:=S.boxRow b34 1 3 rfl (by decide)
 rw[show [Value.int .i64 m.leaf,.int .i64 m.counter,.int .i64 m.num]=encL [m.leaf,m.counter,m.num] from rfl]at S
 replace S:=S.rowToGl (some ⟨b34,0,none⟩) [m.leaf,m.counter,m.num] (e:=3) (sz:=1) (n:=3) (c:=3) (fun _ _ _ _=>trivial)
 replace S:=((S.front (Wk.row 5 1 (some ⟨b24,0,none⟩) 1 1 (encL [Wk.u8 m.user]))).front (Wk.box b5 25 [.slice (some ⟨b24,0,none⟩) 1 1])).toBoth
 refine sit (bbI b5 (some ⟨b24,0,none⟩) 1 [Wk.u8 m.user]) S (menc1_c b5 (some ⟨b24,0,none⟩) 1 [Wk.u8 m.user] [m.leaf,m.counter,m.num] (some ⟨b34,0,none⟩) 3 3 w rfl (by decide) (by simp) (S.it (bbI b5 (some ⟨b24,0,none⟩) 1 [Wk.u8 m.user])) (S.lend (bbI b5 (some ⟨b24,0,none⟩) 1 [Wk.u8 m.user]) (S.mem.fact (GlF (some ⟨b34,0,none⟩) [m.leaf,m.counter,m.num])))) rfl ?_;clear S;rintro _ a w ⟨rfl,p1,c1,hh,hf⟩ hS
 obtain ⟨B1,hB1⟩:∃ B1,B1=[Wk.u8 m.user]++twosB [m.leaf,m.counter,m.num]:=⟨_,rfl⟩
 rw[←hB1]at hh hf
 have S:=hS (bbI b5 p1 c1 B1) hh hf
 clear hS
 replace S:=S.ofBoth
 have hB1l:B1.length=7:=by rw[hB1];simp[twosB_len]
 have hBB1:B=B1++tailE1 m.m:=by rw[hB,hB1,encM];rfl
 refine kN (xtn (kS (kR ?_)));(iterate 5 (refine sq S ?_;clear S;intro a S));refine sn S ?_;clear S;intro b41 a w S
 refine sap S (by simp[maxLen];omega) (by omega) ?_;clear S;rintro p2 c2 a w - S
 rw[show encL B1++[Value.int .u8 (IntKind.u8.wrap (m.seeds.length:Int))]=encL (B1++[Wk.u8 m.seeds.length]) from by rw[u8_wrap,encL_append];rfl,show B1.length+1=(B1++[Wk.u8 m.seeds.length]).length from by simp]at S
 refine sw S ?_;clear S;intro a w S;refine kN (xtn (kS (kS (kR ?_))));(iterate 4 (refine sq S ?_;clear S;intro a S));refine kN (xtn (kB ?_))
 refine c_fore4 S (fun(k:Nat) (b:List UInt8) (p':Option Addr) (c':Nat) uu=>[(9,uu 9),(36,.int .i64 (k:Nat)),(0,uu 47),(0,uu 48),(0,uu 49),(0,uu 50),(0,uu 51),(0,uu 52),(0,uu 53),(0,uu 54),(0,uu 55),(0,uu 56),(0,uu 57),(0,uu 58),(0,uu 59)]) (fun(k:Nat) (b:List UInt8) (p':Option Addr) (c':Nat)=>[Wk.box b5 25 [.slice p' b.length c'],Wk.row 5 1 p' b.length c' (encL b),Wk.box b1 67 (cMem m)]) (fun(k:Nat) (b:List UInt8) (p':Option Addr) (c':Nat)=>[GlF m.sp m.seeds,GlF m.vp m.vers,GlF m.ep m.seen]) (fun(k:Nat) (b:List UInt8) (p':Option Addr) (c':Nat)=>k≤m.seeds.length∧b++(marksE (m.seeds.drop k)++tailE2 m.m)=B) (fun(k:Nat) (b:List UInt8) (p':Option Addr) (c':Nat)=>m.seeds.length - k) (0) (B1++[Wk.u8 m.seeds.length]) (p2) (c2) ?_ S.uu ?_ ?_
 exact ⟨Nat.zero_le _,by rw[hBB1,tailE1,List.append_assoc];rfl⟩
 exact S.sub _ _
 clear S;rintro k b p' c' uu a w ⟨hk,hrel⟩ S
 refine kS (kR (sq S ?_));clear S;intro a S;refine kN (xtn (kS ?_))
 refine kC S (fun h10=>?_) (fun h10=>?_)
 refine kK (xtn (kS (kB (kS ?_))))
 have hkl:k < m.seeds.length:=by have:=of_decide_eq_true h10;omega
 have hK:KLt k m.seeds.length:=⟨hkl⟩
 have hkey:=hfit.names _ (nthG_mem hkl)
 rw[nthG_drop hkl,marksE,markE]at hrel
 have hbl:=congrArg List.length hrel
 simp only[List.length_append,qqA,twoB_len]at hbl
 refine kR ?_;(iterate 2 (refine sq S ?_;clear S;intro a S));refine sa S ?_;clear S;intro b9 a w S;refine sw S ?_;clear S;intro a w S;refine kN (xtn (kS (kR ?_)));(iterate 3 (refine sq S ?_;clear S;intro a S))
 replace S:=((S.front (Wk.row 5 1 p' b.length c' (encL b))).front (Wk.box b5 25 [.slice p' b.length c'])).toBoth
 refine sit (bbI b5 p' c' b) S (menc2_c b5 p' c' b (nthG m.seeds k).key w hkey (by omega) (S.it (bbI b5 p' c' b))) rfl ?_;clear S;rintro _ a w ⟨rfl,p3,c3,hh,hf⟩ hS
 obtain ⟨b3,hb3⟩:∃ b3,b3=b++Wk.u8 (nthG m.seeds k).key.length::(nthG m.seeds k).key:=⟨_,rfl⟩
 rw[←hb3]at hh hf
 have S:=hS (bbI b5 p3 c3 b3) hh hf
 clear hS
 have hb3l:=congrArg List.length hb3
 simp only[List.length_append,qqA]at hb3l
 refine kN (xtn (kR ?_));(iterate 3 (refine sq S ?_;clear S;intro a S));refine sn S ?_;clear S;intro b57 a w S
 replace S:=S.boxRow b57 1 1 rfl (by decide)
 rw[show [Value.int .i64 (nthG m.seeds k).ver]=encL [(nthG m.seeds k).ver] from rfl]at S
 replace S:=S.rowToGl (some ⟨b57,0,none⟩) [(nthG m.seeds k).ver] (e:=3) (sz:=1) (n:=1) (c:=1) (fun _ _ _ _=>trivial)
 replace S:=S.front (bbI b5 p3 c3 b3)
 refine sit (bbI b5 p3 c3 b3) S (menc1_c b5 p3 c3 b3 [(nthG m.seeds k).ver] (some ⟨b57,0,none⟩) 1 1 w rfl (by decide) (by omega) (S.it (bbI b5 p3 c3 b3)) (S.lend (bbI b5 p3 c3 b3) (S.mem.fact (GlF (some ⟨b57,0,none⟩) [(nthG m.seeds k).ver])))) rfl ?_;clear S;rintro _ a w ⟨rfl,p4,c4,hh,hf⟩ hS
 have S:=hS (bbI b5 p4 c4 (b3++twosB [(nthG m.seeds k).ver])) hh hf
 clear hS
 replace S:=(S.front (bbI b5 p4 c4 (b3++twosB [(nthG m.seeds k).ver]))).ofBoth
 refine kN (xbn (xtn (kR ?_)));(iterate 2 (refine sq S ?_;clear S;intro a S));refine kN (xtn ?_)
 rw[w64 ((k:Int)+1) (by omega) (by omega)]at S
 refine ⟨k+1,_,p4,c4,S.uu,⟨hkl,?_⟩,S.sub [Wk.box b5 25 [.slice p4 (b3++twosB [(nthG m.seeds k).ver]).length c4],Wk.row 5 1 p4 (b3++twosB [(nthG m.seeds k).ver]).length c4 (encL (b3++twosB [(nthG m.seeds k).ver])),Wk.box b1 67 (cMem m)] _,by omega⟩
 rw[←hrel,hb3];simp[twosB]
 refine kE (xte (xte (xbe (xtn (kS (kR ?_))))));(iterate 5 (refine sq S ?_;clear S;intro a S));refine sn S ?_;clear S;intro b65 a w S
 have hkl:m.seeds.length≤k:=by have:=of_decide_eq_false h10;omega
 rw[List.drop_of_length_le hkl,marksE,qqF,tailE2]at hrel
 have hbl:=congrArg List.length hrel
 simp only[List.length_append,qqA]at hbl
 refine sap S (by simp[maxLen];omega) (by omega) ?_;clear S;rintro p15 c15 a w - S
 rw[show encL b++[Value.int .u8 (IntKind.u8.wrap (m.vers.length:Int))]=encL (b++[Wk.u8 m.vers.length]) from by rw[u8_wrap,encL_append];rfl,show b.length+1=(b++[Wk.u8 m.vers.length]).length from by simp]at S
 replace hrel:(b++[Wk.u8 m.vers.length])++(marksE m.vers++tailE3 m.m)=B:=by rw[←hrel];simp[LMem.m]
 obtain ⟨B2,hB2⟩:∃ B2,B2=b++[Wk.u8 m.vers.length]:=⟨_,rfl⟩
 rw[←hB2]at S hrel
 refine sw S ?_;clear S;intro a w S;refine kN (xtn (kS (kS (kR ?_))));(iterate 4 (refine sq S ?_;clear S;intro a S));refine kN (xtn (kB ?_))
 refine c_fore4 S (fun(j:Nat) (bb:List UInt8) (pp:Option Addr) (cc:Nat) uu=>[(11,uu 11),(58,.int .i64 (j:Nat)),(0,uu 71),(0,uu 72),(0,uu 73),(0,uu 74),(0,uu 75),(0,uu 76),(0,uu 77),(0,uu 78),(0,uu 79),(0,uu 80),(0,uu 81),(0,uu 82),(0,uu 83)]) (fun(j:Nat) (bb:List UInt8) (pp:Option Addr) (cc:Nat)=>[Wk.box b5 25 [.slice pp bb.length cc],Wk.row 5 1 pp bb.length cc (encL bb),Wk.box b1 67 (cMem m)]) (fun(j:Nat) (bb:List UInt8) (pp:Option Addr) (cc:Nat)=>[GlF m.vp m.vers,GlF m.ep m.seen]) (fun(j:Nat) (bb:List UInt8) (pp:Option Addr) (cc:Nat)=>j≤m.vers.length∧bb++(marksE (m.vers.drop j)++tailE3 m.m)=B) (fun(j:Nat) (bb:List UInt8) (pp:Option Addr) (cc:Nat)=>m.vers.length - j) (0) (B2) (p15) (c15) ?_ S.uu ?_ ?_
 exact ⟨Nat.zero_le _,hrel⟩
 exact S.sub _ _
 clear S;rintro j bb pp cc uu a w ⟨hj,hrel2⟩ S
 refine kS (kR (sq S ?_));clear S;intro a S;refine kN (xtn (kS ?_))
 refine kC S (fun h17=>?_) (fun h17=>?_)
 refine kK (xtn (kS (kB (kS ?_))))
 have hjl:j < m.vers.length:=by have:=of_decide_eq_true h17;omega
 have hK:KLt j m.vers.length:=⟨hjl⟩
 have hkey:=hfit.keys _ (nthG_mem hjl)
 rw[nthG_drop hjl,marksE,markE]at hrel2
 have hbl2:=congrArg List.length hrel2
 simp only[List.length_append,qqA,twoB_len]at hbl2
 refine kR ?_;(iterate 2 (refine sq S ?_;clear S;intro a S));refine sa S ?_;clear S;intro b11 a w S;refine sw S ?_;clear S;intro a w S;refine kN (xtn (kS (kR ?_)));(iterate 3 (refine sq S ?_;clear S;intro a S))
 replace S:=((S.front (Wk.row 5 1 pp bb.length cc (encL bb))).front (Wk.box b5 25 [.slice pp bb.length cc])).toBoth
 refine sit (bbI b5 pp cc bb) S (menc2_c b5 pp cc bb (nthG m.vers j).key w hkey (by omega) (S.it (bbI b5 pp cc bb))) rfl ?_;clear S;rintro _ a w ⟨rfl,p3,c3,hh,hf⟩ hS
 obtain ⟨b3,hb3⟩:∃ b3,b3=bb++Wk.u8 (nthG m.vers j).key.length::(nthG m.vers j).key:=⟨_,rfl⟩
 rw[←hb3]at hh hf
 have S:=hS (bbI b5 p3 c3 b3) hh hf
 clear hS
 have hb3l:=congrArg List.length hb3
 simp only[List.length_append,qqA]at hb3l
 refine kN (xtn (kR ?_));(iterate 3 (refine sq S ?_;clear S;intro a S));refine sn S ?_;clear S;intro b57 a w S
 replace S:=S.boxRow b57 1 1 rfl (by decide)
 rw[show [Value.int .i64 (nthG m.vers j).ver]=encL [(nthG m.vers j).ver] from rfl]at S
 replace S:=S.rowToGl (some ⟨b57,0,none⟩) [(nthG m.vers j).ver] (e:=3) (sz:=1) (n:=1) (c:=1) (fun _ _ _ _=>trivial)
 replace S:=S.front (bbI b5 p3 c3 b3)
 refine sit (bbI b5 p3 c3 b3) S (menc1_c b5 p3 c3 b3 [(nthG m.vers j).ver] (some ⟨b57,0,none⟩) 1 1 w rfl (by decide) (by omega) (S.it (bbI b5 p3 c3 b3)) (S.lend (bbI b5 p3 c3 b3) (S.mem.fact (GlF (some ⟨b57,0,none⟩) [(nthG m.vers j).ver])))) rfl ?_;clear S;rintro _ a w ⟨rfl,p4,c4,hh,hf⟩ hS
 have S:=hS (bbI b5 p4 c4 (b3++twosB [(nthG m.vers j).ver])) hh hf
 clear hS
 replace S:=(S.front (bbI b5 p4 c4 (b3++twosB [(nthG m.vers j).ver]))).ofBoth
 refine kN (xbn (xtn (kR ?_)));(iterate 2 (refine sq S ?_;clear S;intro a S));refine kN (xtn ?_)
 rw[w64 ((j:Int)+1) (by omega) (by omega),show (j:Int)+1=((j+1:Nat):Int) from rfl]at S
 refine ⟨j+1,_,p4,c4,S.uu,⟨hjl,?_⟩,S.sub [Wk.box b5 25 [.slice p4 (b3++twosB [(nthG m.vers j).ver]).length c4],Wk.row 5 1 p4 (b3++twosB [(nthG m.vers j).ver]).length c4 (encL (b3++twosB [(nthG m.vers j).ver])),Wk.box b1 67 (cMem m)] _,by omega⟩
 rw[←hrel2,hb3];simp[twosB]
 refine kE (xte (xte (xbe (xtn (kS (kR ?_))))));(iterate 5 (refine sq S ?_;clear S;intro a S));refine sn S ?_;clear S;intro b89 a w S
 have hjl:m.vers.length≤j:=by have:=of_decide_eq_false h17;omega
 rw[List.drop_of_length_le hjl,marksE,qqF,tailE3]at hrel2
 have hbl2:=congrArg List.length hrel2
 simp only[List.length_append,qqA]at hbl2
 refine sap S (by simp[maxLen];omega) (by omega) ?_;clear S;rintro p22 c22 a w - S
 rw[show encL bb++[Value.int .u8 (IntKind.u8.wrap (m.seen.length:Int))]=encL (bb++[Wk.u8 m.seen.length]) from by rw[u8_wrap,encL_append];rfl,show bb.length+1=(bb++[Wk.u8 m.seen.length]).length from by simp]at S
 replace hrel2:(bb++[Wk.u8 m.seen.length])++seensE (ssP m.seen)=B:=by rw[←hrel2];simp[LMem.m,ssP]
 obtain ⟨B3,hB3⟩:∃ B3,B3=bb++[Wk.u8 m.seen.length]:=⟨_,rfl⟩
 rw[←hB3]at S hrel2
 refine sw S ?_;clear S;intro a w S;refine kN (xtn (kS (kS (kR ?_))));(iterate 4 (refine sq S ?_;clear S;intro a S));refine kN (xtn (kB ?_))
 refine c_fore4 S (fun(i:Nat) (bz:List UInt8) (pz:Option Addr) (cz:Nat) uu=>[(13,uu 13),(0,uu 14),(0,uu 15),(78,.int .i64 (i:Nat)),(0,uu 95),(0,uu 96),(0,uu 97),(0,uu 98),(0,uu 99),(0,uu 100),(0,uu 101),(0,uu 102),(0,uu 103),(0,uu 104),(0,uu 105),(0,uu 106),(0,uu 107),(0,uu 108),(0,uu 109),(0,uu 110),(0,uu 111),(0,uu 112),(0,uu 113),(0,uu 114),(0,uu 115),(0,uu 116),(0,uu 117),(0,uu 118),(0,uu 119),(0,uu 120),(0,uu 121),(0,uu 122)]) (fun(i:Nat) (bz:List UInt8) (pz:Option Addr) (cz:Nat)=>[Wk.box b5 25 [.slice pz bz.length cz],Wk.row 5 1 pz bz.length cz (encL bz),Wk.box b1 67 (cMem m)]) (fun(i:Nat) (bz:List UInt8) (pz:Option Addr) (cz:Nat)=>[GlF m.ep m.seen]) (fun(i:Nat) (bz:List UInt8) (pz:Option Addr) (cz:Nat)=>i≤m.seen.length∧bz++seensE (ssP (m.seen.drop i))=B) (fun(i:Nat) (bz:List UInt8) (pz:Option Addr) (cz:Nat)=>m.seen.length - i) (0) (B3) (p22) (c22) ?_ S.uu ?_ ?_
 exact ⟨Nat.zero_le _,hrel2⟩
 exact S.sub _ _
 clear S;rintro i bz pz cz uu a w ⟨hi,hrel3⟩ S
 refine kS (kR (sq S ?_));clear S;intro a S;refine kN (xtn (kS ?_))
 refine kC S (fun h24=>?_) (fun h24=>?_)
 refine kK (xtn (kS (kB (kS ?_))))
 have hil:i < m.seen.length:=by have:=of_decide_eq_true h24;omega
 have hK:KLt i m.seen.length:=⟨hil⟩
 obtain ⟨s,hs⟩:∃ s,s=nthG m.seen i:=⟨_,rfl⟩
 rw[nthG_drop hil,←hs,ssP,List.map_cons,seensE,seenE]at hrel3
 obtain ⟨X,hX⟩:∃ X,X=nameF s.root.t:=⟨_,rfl⟩
 have hXl:=nameF_short s.root.t
 rw[←hX]at hXl
 replace hrel3:bz++(([Wk.u8 s.user]++twoB s.cnt++be 4 (IntKind.u32.wrap (X.length:Int))++X)++seensE (ssP (m.seen.drop (i+1))))=B:=by rw[hX];exact hrel3
 have hbl3:=congrArg List.length hrel3
 simp only[List.length_append,qqA,qqB,twoB_len,be_len]at hbl3
 refine kR ?_;(iterate 2 (refine sq S ?_;clear S;intro a S))
 rw[←hs]at S
 refine sa S ?_;clear S;intro b13 a w S;refine sw S ?_;clear S;intro a w S;refine kN (xtn (kS (kR ?_)));(iterate 2 (refine sq S ?_;clear S;intro a S))
 replace S:=S.add (Φ:=LtF s.root) ((S.mem.fact (GlF m.ep m.seen)).imp fun _ h=>h.2 _ (hs▸nthG_mem hil))
 refine srn S (encode_c s.root _ (S.t0 s.root)) ?_;clear S;rintro _ a w ⟨p9,c9,rfl,hown,hnew⟩ hS -
 have S:=hS hown hnew
 clear hS
 rw[←hX]at S
 (iterate 5 (refine sq S ?_;clear S;intro a S));refine kN (xtn (kS (kR ?_)));(iterate 4 (refine sq S ?_;clear S;intro a S));refine sn S ?_;clear S;intro b108 a w S
 refine sap S (by simp[maxLen];omega) (by omega) ?_;clear S;rintro p27 c27 a w - S
 rw[show encL bz++[Value.int .u8 (IntKind.u8.wrap s.user)]=encL (bz++[Wk.u8 s.user]) from by rw[u8_wrap,encL_append];rfl,show bz.length+1=(bz++[Wk.u8 s.user]).length from by simp]at S
 refine sw S ?_;clear S;intro a w S;refine kN (xtn (kS (kR ?_)));(iterate 3 (refine sq S ?_;clear S;intro a S));refine sn S ?_;clear S;intro b57 a w S
 replace S:=S.boxRow b57 1 1 rfl (by decide)
 rw[show [Value.int .i64 s.cnt]=encL [s.cnt] from rfl]at S
 replace S:=S.rowToGl (some ⟨b57,0,none⟩) [s.cnt] (e:=3) (sz:=1) (n:=1) (c:=1) (fun _ _ _ _=>trivial)
 obtain ⟨b4,hb4⟩:∃ b4,b4=bz++[Wk.u8 s.user]:=⟨_,rfl⟩
 rw[←hb4]at S
 have hb4l:b4.length=bz.length+1:=by rw[hb4];simp
 replace S:=((S.front (Wk.row 5 1 p27 b4.length c27 (encL b4))).front (Wk.box b5 25 [.slice p27 b4.length c27])).toBoth
 refine sit (bbI b5 p27 c27 b4) S (menc1_c b5 p27 c27 b4 [s.cnt] (some ⟨b57,0,none⟩) 1 1 w rfl (by decide) (by omega) (S.it (bbI b5 p27 c27 b4)) (S.lend (bbI b5 p27 c27 b4) (S.mem.fact (GlF (some ⟨b57,0,none⟩) [s.cnt])))) rfl ?_;clear S;rintro _ a w ⟨rfl,p28,c28,hh,hf⟩ hS
 obtain ⟨b6,hb6⟩:∃ b6,b6=b4++twosB [s.cnt]:=⟨_,rfl⟩
 rw[←hb6]at hh hf
 have S:=hS (bbI b5 p28 c28 b6) hh hf
 clear hS
 have hb6l:b6.length=bz.length+3:=by rw[hb6,List.length_append,twosB_len,hb4l];rfl
 replace S:=(S.front (bbI b5 p28 c28 b6)).ofBoth
 refine kN (xtn (kR ?_));(iterate 4 (refine sq S ?_;clear S;intro a S))
 rw[wu32 (X.length:Int) (by omega) (by omega)]at S
 refine srn S (put32_c p28 b6.length c28 b6 (X.length:Int) w rfl (by omega) (by omega) (by omega) (sl_stable (S.row p28 b6.length))) ?_;clear S;rintro _ a w ⟨g,rfl,hg,hown⟩ hS -
 have S:=hS hown (fun ad had=>by cases had;exact hg)
 clear hS
 refine sq S ?_;clear S;intro a S
 refine sap S (by simp[maxLen];omega) (by omega) ?_;clear S;rintro p29 c29 a w - S
 rw[←encL_append,show b6.length+4+X.length=(b6++be 4 (X.length:Int)++X).length from by simp[be_len];omega]at S
 refine sw S ?_;clear S;intro a w S;refine kN (xbn (xtn (kR ?_)));(iterate 2 (refine sq S ?_;clear S;intro a S));refine kN (xtn ?_)
 rw[w64 ((i:Int)+1) (by omega) (by omega),show (i:Int)+1=((i+1:Nat):Int) from rfl]at S
 replace S:=(S.front (Wk.row 5 1 p29 (b6++be 4 (X.length:Int)++X).length c29 (encL (b6++be 4 (X.length:Int)++X)))).front (Wk.box b5 25 [.slice p29 (b6++be 4 (X.length:Int)++X).length c29])
 refine ⟨i+1,_,p29,c29,S.uu,⟨hil,?_⟩,S.sub [Wk.box b5 25 [.slice p29 (b6++be 4 (X.length:Int)++X).length c29],Wk.row 5 1 p29 (b6++be 4 (X.length:Int)++X).length c29 (encL (b6++be 4 (X.length:Int)++X)),Wk.box b1 67 (cMem m)] _,by omega⟩
 rw[←hrel3,hb6,hb4,wu32 (X.length:Int) (by omega) (by omega)];simp[twosB]
 refine kE (xte (xte (xbe (xtn (kS (kR ?_))))));(iterate 3 (refine sq S ?_;clear S;intro a S));refine kN (xtn (kT ?_))
 have hil:m.seen.length≤i:=by have:=of_decide_eq_false h24;omega
 rw[List.drop_of_length_le hil,ssP,List.map_nil,seensE,List.append_nil]at hrel3
 subst hrel3
 have hrow:=S.row pz bz.length
 have hnew:=S.rowNew pz bz.length
 refine end2 S (fun _=>.inr ⟨hyes,pz,cz,?_⟩)
 rw[←hB]
 exact ⟨rfl,hrow,fun ad h=>(hnew ad h).elim (fun h=>h.elim) id⟩
def encMQ (m:PMem):List UInt8:=if memB m then encM m else []
theorem mencode_q (m:LMem) (hfit:FitM m) (w0:World) (hm:Stable (fun _=>False) w0 (MemF m)):Ret Tryz.prog 36 [vMem m] w0 (fun _=>False) fun v w'=>
  ∃ (p:Option Addr) (c:Nat),v=.tuple ⟨[.slice p (encMQ m.m).length c,.int .i64 (mchkF m.m)]⟩∧w'.ownsRow 0 5 1 (.slice p (encMQ m.m).length c) (encMQ m.m).length (encL (encMQ m.m))∧∀ ad,p=some ad→w0.heap.size≤ad.block:=by
 refine (mencode_c m hfit w0 hm).mono fun v w' h=>?_
 rcases h with ⟨h1,rfl⟩ | ⟨h1,p,c,rfl,h2,h3⟩
 rw[encMQ,mchkF,h1]
 exact ⟨none,0,rfl,World.ownsRow_nil _ _ _ _,fun _ h=>by cases h⟩
 rw[encMQ,mchkF,h1]
 exact ⟨p,c,rfl,h2,h3⟩
structure CovP (a b:PMem):Prop where
 ok:memB a=true∧memB b=true
 user:a.user=b.user
 rises:a.leaf≤b.leaf∧a.counter≤b.counter∧a.num≤b.num
 seeds:∀ s∈a.seeds,s∈b.seeds
 vers:∀ m∈a.vers,∃ x∈b.vers,x.key=m.key∧m.ver≤x.ver
 seen:∀ s∈a.seen,∃ x,findP b.seen s.user=some x∧(s.cnt < x.cnt∨(x.cnt=s.cnt∧x.root=s.root))
theorem textD_err {k e:Int} {bs:List UInt8} (h:textD k bs=.error e):e≠0:=by
 unfold textD at h
 split at h
 split at h
 cases h;decide
 split at h
 cases h;decide
 split at h
 cases h;decide
 cases h
 cases h
theorem userD_err {k e:Int} {bs:List UInt8} (h:userD k bs=.error e):e≠0:=by
 unfold userD at h
 split at h
 split at h
 cases h;decide
 split at h
 cases h
 cases h;decide
 cases h
theorem numD_err {k e:Int} {bs:List UInt8} (h:numD k bs=.error e):e≠0:=by
 unfold numD at h
 split at h
 split at h
 cases h;decide
 cases h
 cases h
theorem kidsD_err {f:Nat→List UInt8→DecE (Term × Nat × List UInt8)} (hf:∀ l b e,f l b=.error e→e≠0):∀ (k l:Nat) (b:List UInt8) (e:Int),kidsD f k l b=.error e→e≠0
 | 0,l,b,e,h=>by rw[kidsD]at h;cases h
 | k+1,l,b,e,h=>by
  rw[kidsD]at h
  split at h
  rename_i e' he
  cases h;exact hf _ _ _ he
  split at h
  rename_i e' he
  cases h;exact kidsD_err hf _ _ _ _ he
  cases h
theorem decT_err:∀ (m left:Nat) (bs:List UInt8) (e:Int),decT m left bs=.error e→e≠0:=by
 intro m
 induction m with
 | zero=>
  intro left bs e h
  cases bs with
  | nil=>rw[decT_nil]at h;cases h;decide
  | cons c t=>rw[decT_cons,if_pos (.inl rfl)]at h;cases h;decide
 | succ m ih=>
  intro left bs e h
  cases bs with
  | nil=>rw[decT_nil]at h;cases h;decide
  | cons c t=>
   rw[decT_cons]at h
   split at h
   ·cases h;decide
   ·rw[show m+1 - 1=m from rfl,decB]at h
    split at h
    ·rename_i h1;cases h;exact textD_err h1
    ·split at h
     ·rename_i h1;cases h;exact userD_err h1
     ·split at h
      ·rename_i h1;cases h;exact numD_err h1
      ·split at h
       ·rename_i h1;cases h;exact kidsD_err ih _ _ _ _ h1
       ·cases h
theorem tcatch_ret (p2 p3 p4:Value) (w:World):CallsDIn (FW none) 0 Tryz.prog 168 #[p2,p3,p4] .returning w fun e u' w'=>(∃ v,e=.returned v)∧u'=.returning∧Agree (fun _=>False) w w':=by
 refine callsD_catch Tryz.func168 rfl (l:=[p2,p3,p4,undef,undef,undef,undef,undef,undef,undef,undef,undef,undef,undef,undef,undef,undef,undef,undef,undef]) (args:=[p2,p3,p4]) rfl (Wd.start w) (.inl rfl) ?_
 rintro x u' (⟨-,rfl,rfl⟩ | ⟨pv,h,-⟩) a S
 refine kS (kR ?_);(iterate 2 (refine sq S ?_;clear S;intro a S));refine kN (xtn ?_);refine c_condF S ?_;refine kK ?_
 exact ⟨.inl rfl,S.defers,.tuple #[],resC S,⟨_,rfl⟩,rfl,S.wd.agree⟩
 cases h
theorem tcatch_pan (g2 g3 g4:Nat) (x0 x1 x2 x3 x4 y z:Value) (e0:Int) (w0 w:World) (M0:Nat→Prop) (hw:Wd w0 M0 w [Wk.box g4 26 [z],Wk.box g3 3 [y],Wk.box g2 43 [x0,x1,x2,x3,x4]] []) :
  CallsDIn (FW none) 0 Tryz.prog 168 #[.pointer (some ⟨g2,0,none⟩),.pointer (some ⟨g3,0,none⟩),.pointer (some ⟨g4,0,none⟩)] (.panicking (pch (wrongE e0))) w fun e u' w'=>(∃ v,e=.returned v)∧u'=.panicking [{ v:=wrongE e0,recovered:=true }]∧
   Wd w0 M0 w' [Wk.box g4 26 [.int .i64 e0],Wk.box g3 3 [.int .i64 0],Wk.box g2 43 [.int .i64 0,.int .i64 0,.int .i64 0,.string ⟨#[]⟩,.slice none 0 0]] []:=by
 refine callsD_catch Tryz.func168 rfl (l:=[.pointer (some ⟨g2,0,none⟩),.pointer (some ⟨g3,0,none⟩),.pointer (some ⟨g4,0,none⟩),undef,undef,undef,undef,undef,undef,undef,undef,undef,undef,undef,undef,undef,undef,undef,undef,undef]) (args:=[.pointer (some ⟨g2,0,none⟩),.pointer (some ⟨g3,0,none⟩),.pointer (some ⟨g4,0,none⟩)]) rfl hw (.inr ⟨_,rfl⟩) ?_
 rintro x u' (⟨h,-⟩ | ⟨pv,h,rfl,rfl⟩) a S
 cases h
 obtain rfl:x=wrongE e0:=by injection h with h;injection h with h _;injection h with h;exact h.symm
 refine kS (kR ?_);(iterate 2 (refine sq S ?_;clear S;intro a S));refine kN (xtn ?_);refine c_condT S ?_;refine kS (kR ?_);(iterate 5 (refine sq S ?_;clear S;intro a S));refine sa S ?_;clear S;intro b4 a w S;refine sw S ?_;clear S;intro a w S;refine sq S ?_;clear S;intro a S;refine kN (xtn (kS (kS (kR ?_))));(iterate 2 (refine sq S ?_;clear S;intro a S))
 rw[show (!true)=false from rfl]at S
 refine kN (xtn ?_);refine c_condF S ?_;refine kK (xtn ?_);refine c_drawD [(0,true),(1,true),(2,true),(3,false),(4,false),(5,false)] [g2,g3,g4] S ?_;clear S;intro w S;(iterate 3 (refine dq S ?_;clear S;intro a S));refine dl (sw S ?_);clear S;intro a w S;refine de S ?_;refine dl (sw S ?_);clear S;intro a w S;refine de S ?_;refine dl (sw S ?_);clear S;intro a w S;refine de S ?_;refine dn ?_
 refine ⟨.inl rfl,S.defers,.tuple #[],resC S,⟨_,rfl⟩,rfl,?_⟩
 exact (S.sub _ _).wd
theorem leftG_c (b n c:Nat) (p:Option Addr) (why:Int) (w0:World) (hb:Stable (fun _=>False) w0 (BoxF b 238 [.slice p n c,.int .i64 why])):Ret Tryz.prog 72 [.pointer (some ⟨b,0,none⟩)] w0 (fun _=>False) fun v _=>v=.int .i64 (n:Nat):=by
 refine enter Tryz.func72 rfl rfl (Wd.begin (fs:=[BoxF b 238 [.slice p n c,.int .i64 why]]) (by simpa using hb)) (fun a S=>?_)
 simp only[Tryz.ntmps72,qqA,qqB,Nat.reduceAdd,Nat.reduceSub,qqC,qqD,qqE,qqF]at S
 refine kS (kR (sq S ?_));clear S;intro a S;refine kN (xtn (kS (kS (kR ?_))));(iterate 2 (refine sq S ?_;clear S;intro a S));refine kN (xtn ?_);refine c_condF S ?_;refine kK (xtn (kS (kR ?_)));(iterate 7 (refine sq S ?_;clear S;intro a S));refine kN (xtn ?_);refine kT ?_
 exact end1 S (fun _=>rfl)
instance {b n c:Nat} {p:Option Addr} {why:Int} {bs fs} [hb:HasBox bs b 238 [.slice p n c,.int .i64 why]]:CallV Tryz.prog 72 [.pointer (some ⟨b,0,none⟩)] bs fs (.int .i64 (n:Nat)):=⟨fun w m=>leftG_c b n c p why w (BoxF.stable m.box (fun h=>h))⟩
abbrev ptrT (b:Nat):Value:=.pointer (some ⟨b,0,none⟩)
abbrev defT (b2 b3 b4:Nat):Deferred:={ target:=.fn (.func 168) ⟨[ptrT b2,ptrT b3,ptrT b4]⟩,args:=#[] }
abbrev zTm:List Value:=[.int .i64 0,.int .i64 0,.int .i64 0,.string ⟨#[]⟩,.slice none 0 0]
theorem tdec_pan {a:Act} {w0 w:World} {M0:Nat→Prop} {Rr:Ending→World→Prop} (b2 b3 b4:Nat) (x0 x1 x2 x3 x4 y z:Value) (e0:Int) (hd:a.defers=[defT b2 b3 b4]) (h2:a.tmps[2]? = some (ptrT b2)) (h3:a.tmps[3]? = some (ptrT b3)) (h4:a.tmps[4]? = some (ptrT b4))
  (hw:Wd w0 M0 w [Wk.box b4 26 [z],Wk.box b3 3 [y],Wk.box b2 43 [x0,x1,x2,x3,x4]] [])
  (hR:∀ w',Agree M0 w0 w'→Rr (.returned (.tuple ⟨[vL zeroL,.int .i64 0,.int .i64 e0]⟩)) w'):bodyPostDIn (FW none) 0 Tryz.prog Tryz.f70 Rr (.panic (pch (wrongE e0))) a w:=by
 refine leavePan (ca:=[ptrT b2,ptrT b3,ptrT b4]) hd (tcatch_pan b2 b3 b4 x0 x1 x2 x3 x4 y z e0 w0 w M0 hw) fun w' hK=>⟨_,?_,hR w' hK.agree⟩
 have n2:Nth a.tmps.toList 2 (ptrT b2):=⟨by simpa using h2⟩
 have n3:Nth a.tmps.toList 3 (ptrT b3):=⟨by simpa using h3⟩
 have n4:Nth a.tmps.toList 4 (ptrT b4):=⟨by simpa using h4⟩
 exact res3 (l:=a.tmps.toList) rfl hK.held
def TDecR (M:Nat→Prop) (bs:List UInt8) (v:Value) (w:World):Prop:=∃ (z:LTerm) (n e:Int),v=.tuple ⟨[vL z,.int .i64 n,.int .i64 e]⟩∧Stable M w (LtF z)∧
 ((∃ left rest,decT 60 1200 bs=.ok (z.t,left,rest)∧n=(bs.length:Int) - rest.length∧e=0)∨(decT 60 1200 bs=.error e∧z=zeroL∧e≠0))
theorem tdec_c (bs:List UInt8) (p:Option Addr) (n c:Nat) (M:Nat→Prop) (w0:World) (hn:bs.length=n) (hl:n≤10000000) (hM:∀ k,M k→k < w0.heap.size) (hf:Stable M w0 (GlF p bs)) :
  Ret Tryz.prog 70 [.slice p n c] w0 (fun _=>False) fun v w'=>TDecR M bs v w':=by
 subst hn
 refine enterD Tryz.func70 rfl rfl (Wd.beginM (M:=M) (fs:=[GlF p bs]) hM (by simpa using hf)) (fun a S=>?_)
 simp only[Tryz.ntmps70,qqA,qqB,Nat.reduceAdd,Nat.reduceSub,qqC,qqD,qqE,qqF]at S
 refine kS (kR ?_);refine sa S ?_;clear S;intro b2 a w S;refine sa S ?_;clear S;intro b3 a w S;refine sa S ?_;clear S;intro b4 a w S;refine kN (xtn (kS (kR (sq S ?_))));clear S;intro a S
 refine snew S (readR_c bs p bs.length c _ rfl hl (S.gl0 p)) ?_;clear S;rintro _ a w - ⟨rd,p1,c1,rfl,hh,hnw⟩ hS -
 have S:=hS (both (rdI rd ⟨p1,c1,bs,0⟩) (Wk.row 5 1 p1 bs.length c1 (encL bs))) hh hnw
 clear hS
 replace S:=S.ofBoth
 have hc1:=own_le (S.row p1 bs.length)
 replace S:=(S.front (Wk.row 5 1 p1 bs.length c1 (encL bs))).rowToGl p1 bs (e:=5) (sz:=1) (n:=bs.length) (c:=c1) (fun _ _ _ _=>trivial)
 refine sq S ?_;clear S;intro a S;refine sa S ?_;clear S;intro b9 a w S;refine sq S ?_;clear S;intro a S;refine kN (xtn (kS (kR (sq S ?_))));clear S;intro a S;refine sdef S ?_;clear S;intro a S;refine kN (xtn (kS (kR (sq S ?_))));clear S;intro a S
 replace S:=((S.front (rdI rd ⟨p1,c1,bs,0⟩)).front (tmI b9 rd 1200)).toBoth
 refine sitMP (rtI b9 rd ((1200:Nat):Int) ⟨p1,c1,bs,0⟩) S (rterm_c0 61 60 b9 rd 1200 ⟨p1,c1,bs,0⟩ (restOf _ (rtI b9 rd ((1200:Nat):Int) ⟨p1,c1,bs,0⟩)) w (by decide) (by decide) (by decide) rfl hc1 hl (S.restOk _) (S.it (rtI b9 rd ((1200:Nat):Int) ⟨p1,c1,bs,0⟩)) ((S.mem.fact (GlF p1 bs)).split (rtI b9 rd ((1200:Nat):Int) ⟨p1,c1,bs,0⟩))) rfl (fun ch w' hx hS=>?_) ?_
 ·obtain ⟨e,rfl,he⟩:=hx
  have S:=hS (bs':=_)
  refine tdec_pan b2 b3 b4 _ _ _ _ _ _ _ e S.defers (by rw[S.slots];rfl) (by rw[S.slots];rfl) (by rw[S.slots];rfl) (S.sub [Wk.box b4 26 [.int .i64 0],Wk.box b3 3 [.int .i64 0],Wk.box b2 43 zTm] []).wd (fun w' ha=>⟨_,rfl,ha,zeroL,0,e,rfl,fun _ _=>zeroL_in _,.inr ⟨he,rfl,decT_err _ _ _ _ he⟩⟩)
 clear S;rintro _ a w ⟨z,lf,r6,rfl,hde,-,hw6,hsub6,hh6,hz⟩ hS
 have S:=hS (rtI b9 rd (lf:Nat) r6) [LtF z] hh6 (fun k h=>.inl h) (by simp only[List.mem_cons,List.not_mem_nil,or_false];rintro Φ rfl;exact hz)
 clear hS
 replace S:=S.ofBoth
 refine sw S ?_;clear S;intro a w S;refine kN (xtn (kS ?_))
 refine' c_drawT0 (.q 1 (.q 2 (.q 3 (.q 4 (.q 5 (.q 6 (.b2 0 7 (.l 7 (.q 8 (.l 9 (.l 10 (.l 11 (.e)))))) (.q 8 (.l 0 (.l 9 (.l 10 (.l 11 (.e))))))))))))) [b2,b3,b4] S ?_ ?_
 rotate_left 3
 ·intro w S
  (iterate 6 (refine tq S ?_;clear S;intro a S))
  refine tb2 ?_ ?_
  ·refine sq S ?_;clear S;intro a S;refine te S ?_;refine tl (sc S ?_);clear S;intro a w S;refine te S ?_;refine tq S ?_;clear S;intro a S
   rw[w64 ((bs.length:Int) - (r6.bs.length:Int)) (by have:=hsub6.len;have:r6.bs.length≤bs.length:=this;omega) (by omega)]at S
   refine tl (sw S ?_);clear S;intro a w S;refine te S ?_;refine tl (sw S ?_);clear S;intro a w S;refine te S ?_;refine tl (sw S ?_);clear S;intro a w S;refine te S ?_;refine tn ?_
   exact S
  ·refine sc S ?_;clear S;intro a w S;refine te S ?_;refine tq S ?_;clear S;intro a S
   rw[w64 ((bs.length:Int) - (r6.bs.length:Int)) (by have:=hsub6.len;have:r6.bs.length≤bs.length:=this;omega) (by omega)]at S
   refine tl (sq S ?_);clear S;intro a S;refine te S ?_;refine tl (sw S ?_);clear S;intro a w S;refine te S ?_;refine tl (sw S ?_);clear S;intro a w S;refine te S ?_;refine tl (sw S ?_);clear S;intro a w S;refine te S ?_;refine tn ?_
   exact S
 intro  a w S
 refine xtn (kT ?_)
 have hlat:=S.laterT (M:=M) z
 refine leaveRet S.defers (tcatch_ret _ _ _ w) (fun w' hw'=>⟨_,res3 S.slots (S.wd.step hw').held,_,rfl,(S.wd.step hw').agree,z,(bs.length:Int) - (r6.bs.length:Int),0,rfl,?_,.inl ⟨lf,r6.bs,hde,rfl,rfl⟩⟩)
 exact hlat.later (hw'.mono fun _ _ h=>h.elim)
class NamesOk (xs:List LRow):Prop where
 all:∀ x∈xs,x.name.length≤9223372036854775807
theorem up_turnV {t:Int} (h0:0≤t) (h1:t+1≤4294967295):upT t=t+1:=by rw[upT,wu32 _ (by omega) (by omega)]
theorem roomC_lv {V:LV} {n:Nat} {t:Int} {said:List (List UInt8)} (h:LvOk V n t said) (ht:t+1≤4294967295) (bs:List UInt8):roomC V.x bs=if 40000 < bs.length then 3 else if n < secN bs.length then 6 else 0:=by
 obtain ⟨q1,q2,q3,q4,q5,q6⟩:=h
 obtain ⟨s,n',turn,said',fin,broken⟩:=V
 simp only at q1 q2 q3 q4 q5 q6
 subst q1 q2 q3 q4 q5
 obtain ⟨s',hs,tail,hL,-⟩:=q6
 have hup:=up_turnV hL.ht.1 ht
 have ht0:=hL.ht.1
 by_cases hb:40000 < bs.length
 have e1:refF (LV.x ⟨s,n',turn,said',endF turn said',false⟩) bs=3:=by rw[refF,if_pos hb]
 rw[if_pos hb,roomC,if_neg (by rw[e1];decide),e1]
 have e1:refF (LV.x ⟨s,n',turn,said',endF turn said',false⟩) bs=0:=by rw[refF,if_neg hb];rfl
 rw[if_neg hb,roomC,if_pos e1]
 show (if n' < secN bs.length∨upT turn=0 then (6:Int) else 0)=_
 by_cases h6:n' < secN bs.length
 rw[if_pos (.inl h6),if_pos h6]
 rw[if_neg (by rintro (h | h);exact h6 h;omega),if_neg h6]
theorem chk_off {V:LV} {n:Nat} {t:Int} {said:List (List UInt8)} (h:LvOff V n t said) (ht:t+1≤4294967295) (bs:List UInt8) (hb:bs.length≤40000) (hr:secN bs.length≤n) :
  (chkV V bs).2=0∧LvOff (chkV V bs).1 n (t+1) [bs]:=by
 have hroom:=roomC_lv h.ok ht bs
 rw[if_neg (by omega),if_neg (by omega)]at hroom
 obtain ⟨⟨q1,q2,q3,q4,q5,q6⟩,hl,ho⟩:=h
 obtain ⟨s,n',turn,said',fin,broken⟩:=V
 simp only at q1 q2 q3 q4 q5 q6 hl ho hroom
 subst q1 q2 q3 q4 q5
 obtain ⟨s',hsim,tail,hL,hfr⟩:=id q6
 have hup:=up_turnV hL.ht.1 ht
 obtain ⟨a1,a2,a3⟩:=(chk_live hl bs hb hr ht).resolve_right (fun h=>by rw[ho]at h;cases h.1)
 unfold chkV
 rw[if_neg (fun h=>h hroom)]
 show ((if (begF n' (upT turn) _ s).2=0 then _ else _):LV × Int).2=0∧_
 rw[hup,if_pos a1]
 refine ⟨rfl,⟨⟨rfl,rfl,rfl,?_,rfl,a2.liveF (fun h=>by rw[a3 ho]at h;cases h)⟩,a2,a3 ho⟩⟩
 show secN bs.length=_
 rw[endF_sum];simp
structure Went (V:LV × Int) (n:Nat) (t t':Int) (said said':List (List UInt8)):Prop where
 yes:V.2=0→LvOk V.1 n t' said'
 no:V.2≠0→V.1.broken=true∧∀ keep,Able (crashD keep V.1.s) n t said∨Able (crashD keep V.1.s) n t' said'
end Go.Proofs.YtdakncgafdnjfaaGreat
namespace Go.Wk
open Go
section
variable {P:Program} {ops:Array Oper} {C:Nat→World→Prop} {R:Act→World→Prop}
def ACV (lv:Nat→Nat) (P:Program) (ops:Array Oper) (C:Nat→World→Prop) (R:Act→World→Prop):Nat→Array Bool→Act→World→Prop
 | 0,listed,a,w=>Region.ready .any ops listed=[]∧R a w
 | fuel+1,listed,a,w=>
  (Region.ready .any ops listed=[]→R a w)∧
  ∀ i∈Region.ready .any ops listed,WN P ops i (fun a' w'=>(∀ k,lv i≤k→C k w→C k w')∧ACV lv P ops C R fuel (listed.setIfInBounds i true) a' w') a w
def ClosedL (ops:Array Oper) (listed:Array Bool):Prop:=∀ k ok,ops[k]? = some ok→listed.getD k false=true→∀ e∈ok.after,Region.binds .any e=true→listed.getD e.on false=true
theorem ClosedL.set {listed:Array Bool} {j:Nat} (h:ClosedL ops listed) (hj:j∈Region.ready .any ops listed):ClosedL ops (listed.setIfInBounds j true):=by
 intro k ok hk hl e he hb
 obtain ⟨-,oj,hoj,hall⟩:=mem_ready.1 hj
 by_cases hkj:j=k
 subst hkj
 rw[hk]at hoj
 obtain rfl:=Option.some.inj hoj
 exact getD_set_true (hall e he hb)
 rw[getD_set_ne false hkj]at hl
 exact getD_set_true (h k ok hk hl e he hb)
theorem getD_un {listed:Array Bool} {i:Nat} (h:listed.getD i true=false):¬listed.getD i false=true:=by
 rcases Nat.lt_or_ge i listed.size with h' | h'
 simp[h']at h⊢;exact h
 simp[Array.getElem?_eq_none h']at h
theorem acv_first {lv:Nat→Nat} {k i:Nat} {oi:Oper} {v:Value} (hi:ops[i]? = some oi) (hsel:∀ (j:Nat) (o:Oper) cs b,ops[j]? = some o→o.op≠.select cs b) :
  (∀ j o listed,ops[j]? = some o→k < lv j→j≠i→ClosedL ops listed→(∀ e∈o.after,Region.binds .any e=true→listed.getD e.on false=true)→listed.getD i false=true)→∀ (fuel:Nat) (listed:Array Bool) (a:Act) (w:World),ClosedL ops listed→
   (∀ j oj,ops[j]? = some oj→j≠i→listed.getD j true=false→(∀ e∈oj.after,Region.binds .any e=true→e.on≠i)→oi.apart ops oj=true)→
   i∈Region.ready .any ops listed→YieldsC P ops (C k) oi v a→C k w→
   ACV lv P ops C R fuel (listed.setIfInBounds i true) (a.put oi.dst v) w→ACV lv P ops C R (fuel+1) listed a w:=by
 intro hlv fuel
 induction fuel with
 | zero=>
  intro listed a w _ _ hr hy hS H
  refine ⟨fun h=>(by rw[h]at hr;cases hr),fun j hj=>?_⟩
  by_cases hji:j=i
  ·subst hji;exact hy.wn hi hS ⟨fun _ _ h=>h,H⟩
  ·have:=ready_mono hj hji
   rw[H.1]at this
   cases this
 | succ fuel ih=>
  intro listed a w hcl hfree hr hy hS H
  refine ⟨fun h=>(by rw[h]at hr;cases hr),fun j hj=>?_⟩
  by_cases hji:j=i
  ·subst hji;exact hy.wn hi hS ⟨fun _ _ h=>h,H⟩
  ·have h1:=H.2 j (ready_mono hj hji)
   obtain ⟨hjun,oj,hoj,hall⟩:=mem_ready.1 hj
   have hiun:=getD_un (mem_ready.1 hr).1
   have hnot:∀ e∈oj.after,Region.binds .any e=true→e.on≠i:=fun e he hb heq=>hiun (heq▸hall e he hb)
   have hjl:lv j≤k:=Nat.le_of_not_lt fun e=>hiun (hlv j oj listed hoj e hji hcl hall)
   have h2:=wn_put hoj (hfree j oj hoj hji hjun hnot) (fun cs b=>hsel i oi cs b hi) (fun cs b=>hsel j oj cs b hoj) hy h1
   have hfree':∀ k ok,ops[k]? = some ok→k≠i→(listed.setIfInBounds j true).getD k true=false→
     (∀ e∈ok.after,Region.binds .any e=true→e.on≠i)→oi.apart ops ok=true:=fun k ok hk hki hun hno=>by
    refine hfree k ok hk hki ?_ hno
    by_cases hjk:j=k
    ·subst hjk;exact hjun
    ·rw[getD_set_ne true hjk]at hun;exact hun
   refine wpOpIn_mono (fun a' w' h3=>⟨h3.2.1,ih (listed.setIfInBounds j true) a' w' (hcl.set hj) hfree' (ready_mono hr (Ne.symm hji)) h3.1 (h3.2.1 k hjl hS) ?_⟩) h2
   rw[Array.setIfInBounds_comm _ _ hji]
   exact h3.2.2
variable {r:Option Nat} {Q:Exit→Act→World→Prop} {w0:World} {M0:Nat→Prop} {ds:List Deferred} {a:Act} {w:World} {l l':List Value} {bs bs' b0 b1 b2 bk:List Item} {fs fs0:List (World→Prop)}
 {d:Option Nat} {op:Op} {ty:TypeId} {pos:String} {af:Array Edge} {rest:List Oper} {v v' G:Value} {j g:Nat} {pol:Bool} {cs:List Bool} {n:Nat} {listed:Array Bool}
def CofV (w0:World) (M0:Nat→Prop) (b0 b1 b2:List Item) (fs:List (World→Prop)):Nat→World→Prop
 | 0,w=>Wd w0 M0 w b0 fs
 | 1,w=>Wd w0 M0 w b1 fs
 | _+2,w=>Wd w0 M0 w b2 fs
theorem cofV_mono [h1:SubL b1 b0] [h2:SubL b2 b1]:∀ p q w,p≤q→CofV w0 M0 b0 b1 b2 fs p w→CofV w0 M0 b0 b1 b2 fs q w
 | 0,0,_,_,h=>h
 | 0,1,_,_,h=>Wd.sub h h1.sub (List.Sublist.refl _)
 | 0,_+2,_,_,h=>Wd.sub (Wd.sub h h1.sub (List.Sublist.refl _)) h2.sub (List.Sublist.refl _)
 | 1,1,_,_,h=>h
 | 1,_+2,_,_,h=>Wd.sub h h2.sub (List.Sublist.refl _)
 | _+2,_+2,_,_,h=>h
 | 1,0,_,hle,_=>absurd hle (by omega)
 | _+2,0,_,hle,_=>absurd hle (by omega)
 | _+2,1,_,hle,_=>absurd hle (by omega)
def lvV (lv:List (Nat × Nat)) (i:Nat):Nat:=(lv.getD i (0,i)).1
def preV (lv:List (Nat × Nat)) (i:Nat):Nat:=(lv.getD i (0,i)).2
def ancB (ops:Array Oper) (lv:List (Nat × Nat)):Nat→Nat→Nat→Bool
 | 0,_,_=>false
 | f+1,j,i=>feeds ops j i||(feeds ops j (preV lv j)&&ancB ops lv f (preV lv j) i)
theorem anc_listed {lv:List (Nat × Nat)} {listed:Array Bool} (hc:ClosedL ops listed):∀ (f j i:Nat) (oj:Oper),ops[j]? = some oj→(∀ e∈oj.after,Region.binds .any e=true→listed.getD e.on false=true)→ancB ops lv f j i=true→listed.getD i false=true
 | 0,_,_,_,_,_,h=>by cases h
 | f+1,j,i,oj,hoj,hall,h=>by
  rw[ancB,Bool.or_eq_true,Bool.and_eq_true]at h
  rcases h with h | ⟨h1,h2⟩
  obtain ⟨e,he,hb,ho⟩:=(feeds_spec h).2 oj hoj
  exact ho▸hall e he hb
  obtain ⟨e,he,hb,ho⟩:=(feeds_spec h1).2 oj hoj
  have hl:=hall e he hb
  rw[ho]at hl
  cases hp:ops[preV lv j]? with
  | none=>
   cases f with
   | zero=>cases h2
   | succ f=>
    rw[ancB,Bool.or_eq_true,Bool.and_eq_true]at h2
    have hno:∀ x,feeds ops (preV lv j) x=true→False:=fun x hx=>by
     rw[feeds,hp]at hx;simp at hx
    rcases h2 with h2 | ⟨h2,-⟩
    exact (hno _ h2).elim
    exact (hno _ h2).elim
  | some op=>exact anc_listed hc f _ i op hp (hc _ op hp hl) h2
def feedsV (ops:Array Oper) (lv:List (Nat × Nat)) (k i:Nat):Bool:=(List.range ops.size).all fun j=>Nat.beq j i||(Nat.ble (lvV lv j) k||ancB ops lv ops.size j i)
theorem feedsV_spec {lv:List (Nat × Nat)} {k i:Nat} (h:feedsV ops lv k i=true):∀ j o listed,ops[j]? = some o→k < lvV lv j→j≠i→ClosedL ops listed→(∀ e∈o.after,Region.binds .any e=true→listed.getD e.on false=true)→listed.getD i false=true:=by
 rw[feedsV]at h
 refine fun j o listed ho hk hji hc hall=>?_
 have hj:j < ops.size:=(Array.getElem?_eq_some_iff.1 ho).1
 have:=List.all_eq_true.1 h j (List.mem_range.2 hj)
 simp only[Bool.or_eq_true]at this
 rcases this with h1 | h1 | h1
 exact absurd (Nat.eq_of_beq_eq_true h1) hji
 exact absurd (Nat.le_of_ble_eq_true h1) (by omega)
 exact anc_listed hc _ j i o ho hall h1
def flowV (lv:List (Nat × Nat)) (ops:Array Oper):List (Nat × Nat)→Array Bool→Bool
 | [],listed=>(Region.ready .any ops listed).isEmpty
 | (i,k)::ord,listed=>(if Nat.beq k 3 then (match Region.ready .any ops listed with | [j]=>Nat.beq j i | _=>false) else (((Region.ready .any ops listed).contains i&&Region.free .any ops listed i)&&feedsV ops lv k i))&&flowV lv ops ord (listed.setIfInBounds i true)
def AQV (lv:List (Nat × Nat)) (P:Program) (ops:Array Oper) (C:Nat→World→Prop) (R:Act→World→Prop) (ord:List (Nat × Nat)) (a:Act) (w:World):Prop:=
 ∀ listed,ClosedL ops listed→Region.noSelect ops=true→flowV lv ops ord listed=true→ACV (lvV lv) P ops C R ord.length listed a w
variable {ord:List (Nat × Nat)} {i:Nat} {lv:List (Nat × Nat)}
theorem dqVk (k:Nat) (hk3:Nat.beq k 3=false) (hC:∀ w,C k w↔Wd w0 M0 w bk fs0) (S:St w0 M0 ds a w l bs fs) [hb:SubL bk bs] [hf:SubL fs0 fs] [ho:OpAt ops i ⟨d,op,ty,pos,af,none⟩] [hq:OpQ P op ty ⟨[],l⟩ bk fs0 v] [hp:PutO l d v l']
  (K:∀ a,St w0 M0 ds a w l' bs fs→AQV lv P ops C R ord a w):AQV lv P ops C R ((i,k)::ord) a w:=by
 intro listed hcl hs hflow
 simp only[flowV,hk3,Bool.and_eq_true,Bool.false_eq_true,if_false]at hflow
 refine acv_first ho.eq (Region.noSelect_spec hs) (feedsV_spec hflow.1.2) _ listed a w hcl (Region.free_spec ho.eq hflow.1.1.2) (by simpa using hflow.1.1.1) (v:=v) (.inl ⟨rfl,fun w' hw'=>?_⟩) ((hC w).2 (S.wd.sub hb.sub hf.sub)) (K _ S.put _ (hcl.set (by simpa using hflow.1.1.1)) hs hflow.2)
 rw[execOp_eq]
 exact hq.run a.eval w' S.fr ((hC w').1 hw').mem
theorem dqV0 (S:St w0 M0 ds a w l bs fs) [hb:SubL b0 bs] [hf:SubL fs0 fs] [ho:OpAt ops i ⟨d,op,ty,pos,af,none⟩] [hq:OpQ P op ty ⟨[],l⟩ b0 fs0 v] [hp:PutO l d v l']
  (K:∀ a,St w0 M0 ds a w l' bs fs→AQV lv P ops (CofV w0 M0 b0 b1 b2 fs0) R ord a w):AQV lv P ops (CofV w0 M0 b0 b1 b2 fs0) R ((i,0)::ord) a w:=
 dqVk 0 rfl (fun _=>Iff.rfl) S K
theorem dqV1 (S:St w0 M0 ds a w l bs fs) [hb:SubL b1 bs] [hf:SubL fs0 fs] [ho:OpAt ops i ⟨d,op,ty,pos,af,none⟩] [hq:OpQ P op ty ⟨[],l⟩ b1 fs0 v] [hp:PutO l d v l']
  (K:∀ a,St w0 M0 ds a w l' bs fs→AQV lv P ops (CofV w0 M0 b0 b1 b2 fs0) R ord a w):AQV lv P ops (CofV w0 M0 b0 b1 b2 fs0) R ((i,1)::ord) a w:=
 dqVk 1 rfl (fun _=>Iff.rfl) S K
theorem dlV {o:Oper} [h1:SubL b1 b0] [h2:SubL b2 b1] [ho:OpAt ops i o] (h:WL P none ops (fun e a' w'=>e=.normal∧CofV w0 M0 b0 b1 b2 fs0 (lvV lv i) w'∧AQV lv P ops (CofV w0 M0 b0 b1 b2 fs0) R ord a' w') [o] a w):AQV lv P ops (CofV w0 M0 b0 b1 b2 fs0) R ((i,3)::ord) a w:=by
 intro listed hcl hs hflow
 simp only[flowV,Bool.and_eq_true]at hflow
 have hr:Region.ready .any ops listed=[i]:=by
  have:=hflow.1
  simp only[show Nat.beq 3 3=true from rfl,if_true]at this
  split at this
  rename_i k hk;rw[hk,Nat.eq_of_beq_eq_true this]
  cases this
 refine ⟨fun h0=>(by rw[h0]at hr;cases hr),fun k hk=>?_⟩
 rw[hr]at hk
 obtain rfl:k=i:=by simpa using hk
 exact wpOpIn_mono (fun a' w' h'=>⟨fun q hq _=>cofV_mono _ _ _ hq h'.1,h'.2 _ (hcl.set (by rw[hr];exact List.mem_cons_self ..)) hs hflow.2⟩) (wn_of h)
theorem deV0 [hb:SubL b0 bs] [hf:SubL fs0 fs] (S:St w0 M0 ds a w l bs fs) (h:AQV lv P ops (CofV w0 M0 b0 b1 b2 fs0) R ord a w) (hl:Nat.beq (lvV lv i) 0=true:=by rfl):WL P none ops (fun e a' w'=>e=.normal∧CofV w0 M0 b0 b1 b2 fs0 (lvV lv i) w'∧AQV lv P ops (CofV w0 M0 b0 b1 b2 fs0) R ord a' w') [] a w:=
 kN ⟨rfl,by rw[Nat.eq_of_beq_eq_true hl];exact S.wd.sub hb.sub hf.sub,h⟩
theorem deV1 [hb:SubL b1 bs] [hf:SubL fs0 fs] (S:St w0 M0 ds a w l bs fs) (h:AQV lv P ops (CofV w0 M0 b0 b1 b2 fs0) R ord a w) (hl:Nat.beq (lvV lv i) 1=true:=by rfl):WL P none ops (fun e a' w'=>e=.normal∧CofV w0 M0 b0 b1 b2 fs0 (lvV lv i) w'∧AQV lv P ops (CofV w0 M0 b0 b1 b2 fs0) R ord a' w') [] a w:=
 kN ⟨rfl,by rw[Nat.eq_of_beq_eq_true hl];exact S.wd.sub hb.sub hf.sub,h⟩
theorem deV2 [hb:SubL b2 bs] [hf:SubL fs0 fs] (S:St w0 M0 ds a w l bs fs) (h:AQV lv P ops (CofV w0 M0 b0 b1 b2 fs0) R ord a w) (hl:Nat.beq (lvV lv i) 2=true:=by rfl):WL P none ops (fun e a' w'=>e=.normal∧CofV w0 M0 b0 b1 b2 fs0 (lvV lv i) w'∧AQV lv P ops (CofV w0 M0 b0 b1 b2 fs0) R ord a' w') [] a w:=
 kN ⟨rfl,by rw[Nat.eq_of_beq_eq_true hl];exact S.wd.sub hb.sub hf.sub,h⟩
theorem dnV (h:R a w):AQV lv P ops C R [] a w:=fun listed _ _ hf=>⟨by simpa [flowV] using hf,h⟩
theorem any_of_acv {lv:Nat→Nat} (hd:∀ (i:Nat) o,ops[i]? = some o→isDefer o.op=false):∀ (fuel:Nat) (listed:Array Bool) (a:Act) (w:World),ACV lv P ops C (fun a w=>Q .normal a w) fuel listed a w→wpAnyIn (FW r) 0 P .any ops Q fuel listed a w
 | 0,_,_,_,h=>h
 | fuel+1,_,_,_,h=>⟨h.1,fun i hi=>wn_round hd (wpOpIn_mono (fun a' w' h'=>any_of_acv hd fuel _ a' w' h'.2) (h.2 i hi))⟩
theorem c_drawV {id:Nat} {lo:List Oper} (lv:List (Nat × Nat)) (ord:List (Nat × Nat)) (b0 b1 b2:List Item) (S:St w0 M0 ds a w l bs fs) (h:∀ w,St w0 M0 ds a w l bs fs→AQV lv P lo.toArray (CofV w0 M0 b0 b1 b2 fs) (fun a w=>Q .normal a w) ord a w)
  (hm:P.follows .mixedOrders=true:=by kernel_rfl) (hd:((lo.all fun o=>!isDefer o.op)&&(Nat.beq ord.length lo.length&&(Region.noSelect lo.toArray&&flowV lv lo.toArray ord (Array.replicate lo.length false))))=true:=by kernel_rfl):Wp P r (.region id lo.toArray true) Q a w:=by
 simp only[Bool.and_eq_true]at hd
 refine wpIn_region_any hm (any_of_acv (lv:=lvV lv) (C:=CofV w0 M0 b0 b1 b2 fs) (fun i o ho=>?_) _ _ _ _ ?_)
 have:=List.all_eq_true.1 hd.1 o (by
  rw[List.getElem?_toArray]at ho
  exact List.mem_of_getElem? ho)
 simpa using this
 have:=h { w with drawn:=w.drawn+1 } ⟨S.slots,S.defers,S.wd.step (Agree.drawn _ w _)⟩ (Array.replicate lo.length false) (fun k ok _ hl=>by simp[Array.getD]at hl) hd.2.2.1 hd.2.2.2
 rw[Nat.eq_of_beq_eq_true hd.2.1]at this
 simpa using this
end
end Go.Wk
namespace Go.Proofs.YtdakncgafdnjfaaGreat
open Go Go.Wk
set_option synthInstance.maxSize 100000
set_option synthInstance.maxHeartbeats 400000
set_option maxRecDepth 100000
theorem encL_setS (ys:List LSeen) (i:Nat) (x r:LSeen) (h:ys[i]? = some x) (hu:r.user=x.user) (hc:r.cnt=x.cnt):(encL ys).take (i*7+2)++r.root.cells++(encL ys).drop (i*7+2+r.root.cells.length)=encL (ys.set i r):=by
 induction ys generalizing i with
 | nil=>simp at h
 | cons y ys ih=>
  cases i with
  | zero=>
   obtain rfl:y=x:=by simpa using h
   obtain ⟨u,n,z⟩:=y
   obtain ⟨u',n',z'⟩:=r
   simp only at hu hc
   subst hu hc
   rw[List.set_cons_zero,encL_cons,encL_cons]
   rfl
  | succ i=>
   have:=ih i (by simpa using h)
   rw[List.set_cons_succ,encL_cons,encL_cons,←this]
   have h7:(Enc.cells y:List Value).length=7:=Enc.len y
   rw[List.take_append,List.drop_append,h7,List.take_of_length_le (by rw[h7];omega),List.drop_of_length_le (by rw[h7];omega),show (i+1)*7+2 - 7=i*7+2 from by omega,show (i+1)*7+2+r.root.cells.length - 7=i*7+2+r.root.cells.length from by omega]
   simp
theorem fclone_c (xs:List LSeen) (p:Option Addr) (n c:Nat) (w0:World) (hn:xs.length=n) (hl:n≤1000000) (hx:Stable (fun _=>False) w0 (GlF p xs)) :
  Ret Tryz.prog 220 [.slice p n c] w0 (fun _=>False) fun v w'=>∃ p' c',v=.slice p' n c'∧w'.ownsRow 0 179 7 (.slice p' n c') n (encL xs)∧∀ ad,p'=some ad→w0.heap.size≤ad.block:=by
 refine enter Tryz.func220 rfl rfl (Wd.begin (fs:=[GlF p xs]) (by simpa using hx)) (fun a S=>?_)
 simp only[Tryz.ntmps220,qqA,qqB,Nat.reduceAdd,Nat.reduceSub,qqC,qqD,qqE,qqF]at S
 refine kS (kR (sq S ?_));clear S;intro a S;refine kN (xtn (kS (kS (kR ?_))));(iterate 2 (refine sq S ?_;clear S;intro a S));refine kN (xtn ?_)
 refine kC S (fun h1=>?_) (fun h1=>?_)
 refine kS (kR (sq S ?_));clear S;intro a S;refine kN (xtn (kT (xtr ?_)))
 have hp:p=none:=by simpa using h1
 have hn0:xs=[]:=by
  rcases xs with _ | ⟨x,xs⟩
  rfl
  have h1:=congrArg List.length (hx.now.1.1 hp)
  rw[encL_len]at h1
  simp[Enc.sz]at h1
 subst hn0
 subst hn
 refine end1 S (fun _=>?_)
 exact ⟨none,0,rfl,World.ownsRow_nil _ _ _ _,fun _ h=>by cases h⟩
 refine kK (xtn (kS (kR ?_)));refine sn S ?_;clear S;intro b5 a w S;refine sq S ?_;clear S;intro a S
 replace S:=S.boxRow b5 7 0 rfl (by omega)
 have hN:LenN xs n:=⟨hn⟩
 refine sap S (by simp[maxLen];omega) (by omega) ?_;clear S;rintro p2 c2 a w - S
 rw[qqF,Nat.zero_add]at S
 refine sq S ?_;clear S;intro a S;refine kN (xtn (kT ?_))
 have hrow:=S.row p2 n
 have hnew:=S.rowNew p2 n
 refine end1 S (fun _=>?_)
 exact ⟨p2,c2,rfl,hrow,fun ad h=>(hnew ad h).elim (fun h=>h.elim) id⟩
theorem sdclone_c (xs:List LMark) (p:Option Addr) (n c:Nat) (w0:World) (hn:xs.length=n) (hl:n≤1000000) (hx:Stable (fun _=>False) w0 (GlF p xs)) :
  Ret Tryz.prog 218 [.slice p n c] w0 (fun _=>False) fun v w'=>∃ p' c',v=.slice p' n c'∧w'.ownsRow 0 175 2 (.slice p' n c') n (encL xs)∧∀ ad,p'=some ad→w0.heap.size≤ad.block:=by
 refine enter Tryz.func218 rfl rfl (Wd.begin (fs:=[GlF p xs]) (by simpa using hx)) (fun a S=>?_)
 simp only[Tryz.ntmps218,qqA,qqB,Nat.reduceAdd,Nat.reduceSub,qqC,qqD,qqE,qqF]at S
 refine kS (kR (sq S ?_));clear S;intro a S;refine kN (xtn (kS (kS (kR ?_))));(iterate 2 (refine sq S ?_;clear S;intro a S));refine kN (xtn ?_)
 refine kC S (fun h1=>?_) (fun h1=>?_)
 refine kS (kR (sq S ?_));clear S;intro a S;refine kN (xtn (kT (xtr ?_)))
 have hp:p=none:=by simpa using h1
 have hn0:xs=[]:=by
  rcases xs with _ | ⟨x,xs⟩
  rfl
  have h1:=congrArg List.length (hx.now.1.1 hp)
  rw[encL_len]at h1
  simp[Enc.sz]at h1
 subst hn0
 subst hn
 refine end1 S (fun _=>?_)
 exact ⟨none,0,rfl,World.ownsRow_nil _ _ _ _,fun _ h=>by cases h⟩
 refine kK (xtn (kS (kR ?_)));refine sn S ?_;clear S;intro b5 a w S;refine sq S ?_;clear S;intro a S
 replace S:=S.boxRow b5 2 0 rfl (by omega)
 have hN:LenN xs n:=⟨hn⟩
 refine sap S (by simp[maxLen];omega) (by omega) ?_;clear S;rintro p2 c2 a w - S
 rw[qqF,Nat.zero_add]at S
 refine sq S ?_;clear S;intro a S;refine kN (xtn (kT ?_))
 have hrow:=S.row p2 n
 have hnew:=S.rowNew p2 n
 refine end1 S (fun _=>?_)
 exact ⟨p2,c2,rfl,hrow,fun ad h=>(hnew ad h).elim (fun h=>h.elim) id⟩
theorem mkclone_c (xs:List LMark) (p:Option Addr) (n c:Nat) (w0:World) (hn:xs.length=n) (hl:n≤1000000) (hx:Stable (fun _=>False) w0 (GlF p xs)) :
  Ret Tryz.prog 219 [.slice p n c] w0 (fun _=>False) fun v w'=>∃ p' c',v=.slice p' n c'∧w'.ownsRow 0 177 2 (.slice p' n c') n (encL xs)∧∀ ad,p'=some ad→w0.heap.size≤ad.block:=by
 refine enter Tryz.func219 rfl rfl (Wd.begin (fs:=[GlF p xs]) (by simpa using hx)) (fun a S=>?_)
 simp only[Tryz.ntmps219,qqA,qqB,Nat.reduceAdd,Nat.reduceSub,qqC,qqD,qqE,qqF]at S
 refine kS (kR (sq S ?_));clear S;intro a S;refine kN (xtn (kS (kS (kR ?_))));(iterate 2 (refine sq S ?_;clear S;intro a S));refine kN (xtn ?_)
 refine kC S (fun h1=>?_) (fun h1=>?_)
 refine kS (kR (sq S ?_));clear S;intro a S;refine kN (xtn (kT (xtr ?_)))
 have hp:p=none:=by simpa using h1
 have hn0:xs=[]:=by
  rcases xs with _ | ⟨x,xs⟩
  rfl
  have h1:=congrArg List.length (hx.now.1.1 hp)
  rw[encL_len]at h1
  simp[Enc.sz]at h1
 subst hn0
 subst hn
 refine end1 S (fun _=>?_)
 exact ⟨none,0,rfl,World.ownsRow_nil _ _ _ _,fun _ h=>by cases h⟩
 refine kK (xtn (kS (kR ?_)));refine sn S ?_;clear S;intro b5 a w S;refine sq S ?_;clear S;intro a S
 replace S:=S.boxRow b5 2 0 rfl (by omega)
 have hN:LenN xs n:=⟨hn⟩
 refine sap S (by simp[maxLen];omega) (by omega) ?_;clear S;rintro p2 c2 a w - S
 rw[qqF,Nat.zero_add]at S
 refine sq S ?_;clear S;intro a S;refine kN (xtn (kT ?_))
 have hrow:=S.row p2 n
 have hnew:=S.rowNew p2 n
 refine end1 S (fun _=>?_)
 exact ⟨p2,c2,rfl,hrow,fun ad h=>(hnew ad h).elim (fun h=>h.elim) id⟩
theorem equalSd_c (xs ys:List LMark) (p q:Option Addr) (c e:Nat) (w0:World) (hl:xs.length≤1000000000) (hx:Stable (fun _=>False) w0 (GlF p xs)) (hy:Stable (fun _=>False) w0 (GlF q ys)) :
  Ret Tryz.prog 129 [.slice p xs.length c,.slice q ys.length e] w0 (fun _=>False) fun v _=>v=.bool (decide (xs=ys)):=by
 refine enter Tryz.func129 rfl rfl (Wd.begin (fs:=[GlF p xs,GlF q ys]) (by simp;exact ⟨hx,hy⟩)) (fun a S=>?_)
 simp only[Tryz.ntmps129,qqA,qqB,Nat.reduceAdd,Nat.reduceSub,qqC,qqD,qqE,qqF]at S
 refine kS (kR (sq S ?_));clear S;intro a S;refine kN (xtn (kS (kS (kR ?_))));(iterate 5 (refine sq S ?_;clear S;intro a S));refine kN (xtn ?_)
 refine kC S (fun h1=>?_) (fun h1=>?_)
 refine kS (kR (sq S ?_));clear S;intro a S;refine kN (xtn (kT (xtr ?_)))
 have hne:xs≠ys:=fun h=>by rw[h]at h1;simp at h1
 refine end1 S (fun _=>?_)
 rw[decide_eq_false hne]
 refine kK (xtn (kS (kS (kR ?_))));(iterate 3 (refine sq S ?_;clear S;intro a S));refine kN (xtn (kB ?_))
 have hle:xs.length=ys.length:=by simp at h1;omega
 refine c_forb1 S (fun(k:Nat) uu=>[(4,uu 4),(0,uu 5),(7,.int .i64 (k:Nat)),(0,uu 14),(0,uu 15),(0,uu 16),(0,uu 17),(0,uu 18),(0,uu 19),(0,uu 20),(0,uu 21),(0,uu 22),(0,uu 23),(0,uu 24),(0,uu 25)]) (fun(k:Nat)=>k≤xs.length∧xs.take k=ys.take k) (fun(k:Nat)=>xs.length - k) (0) ?_ S.uu ?_ ?_
 exact ⟨Nat.zero_le _,rfl⟩
 first | exact S | exact S.sub _ _
 clear S;rintro k uu a w ⟨hk,hrel⟩ S
 refine kS (kR (sq S ?_));clear S;intro a S;refine kN (xtn (kS ?_))
 refine kC S (fun h4=>?_) (fun h4=>?_)
 refine kK (xtn (kS (kB (kS ?_))))
 have hkl:k < xs.length:=by simpa using h4
 have hK1:KLt k xs.length:=⟨hkl⟩
 have hK2:KLt k ys.length:=⟨by omega⟩
 refine kR ?_;(iterate 2 (refine sq S ?_;clear S;intro a S));refine kN (xtn (kS ?_));refine c_drawD [(0,true),(1,true),(2,true),(3,true),(4,true),(5,true),(6,true),(7,true),(8,true)] [] S ?_;clear S;intro w S;(iterate 9 (refine dq S ?_;clear S;intro a S));refine dn (xtn ?_)
 refine kC S (fun h6=>?_) (fun h6=>?_)
 refine kS (kR (sq S ?_));clear S;intro a S;refine kN (xtn (kT (xbr (xtr (xtr (xbr (xtr ?_)))))))
 have h9:nthG xs k≠nthG ys k:=by simpa using h6
 have hne:xs≠ys:=fun h=>h9 (by rw[h])
 refine end1 S (fun _=>?_)
 rw[decide_eq_false hne]
 refine kK (xbn (xtn (kR ?_)));(iterate 2 (refine sq S ?_;clear S;intro a S));refine kN (xtn ?_)
 have h9:nthG xs k=nthG ys k:=by simpa using h6
 rw[w64 ((k:Int)+1) (by omega) (by omega)]at S
 exact ⟨k+1,S.uu,⟨hkl,by rw[nthG_take hkl,nthG_take (show k < ys.length by omega),hrel,h9]⟩,S.sub _ _,by omega⟩
 refine kE (xte (xte (xbe (xtn (kS (kR (sq S ?_)))))));clear S;intro a S;refine kN (xtn (kT ?_))
 have h9:xs.length≤k:=by simpa using h4
 rw[List.take_of_length_le h9,List.take_of_length_le (by omega)]at hrel
 refine end1 S (fun _=>?_)
 rw[decide_eq_true hrel]
theorem equalMk_c (xs ys:List LMark) (p q:Option Addr) (c e:Nat) (w0:World) (hl:xs.length≤1000000000) (hx:Stable (fun _=>False) w0 (GlF p xs)) (hy:Stable (fun _=>False) w0 (GlF q ys)) :
  Ret Tryz.prog 130 [.slice p xs.length c,.slice q ys.length e] w0 (fun _=>False) fun v _=>v=.bool (decide (xs=ys)):=by
 refine enter Tryz.func130 rfl rfl (Wd.begin (fs:=[GlF p xs,GlF q ys]) (by simp;exact ⟨hx,hy⟩)) (fun a S=>?_)
 simp only[Tryz.ntmps130,qqA,qqB,Nat.reduceAdd,Nat.reduceSub,qqC,qqD,qqE,qqF]at S
 refine kS (kR (sq S ?_));clear S;intro a S;refine kN (xtn (kS (kS (kR ?_))));(iterate 5 (refine sq S ?_;clear S;intro a S));refine kN (xtn ?_)
 refine kC S (fun h1=>?_) (fun h1=>?_)
 refine kS (kR (sq S ?_));clear S;intro a S;refine kN (xtn (kT (xtr ?_)))
 have hne:xs≠ys:=fun h=>by rw[h]at h1;simp at h1
 refine end1 S (fun _=>?_)
 rw[decide_eq_false hne]
 refine kK (xtn (kS (kS (kR ?_))));(iterate 3 (refine sq S ?_;clear S;intro a S));refine kN (xtn (kB ?_))
 have hle:xs.length=ys.length:=by simp at h1;omega
 refine c_forb1 S (fun(k:Nat) uu=>[(4,uu 4),(0,uu 5),(7,.int .i64 (k:Nat)),(0,uu 14),(0,uu 15),(0,uu 16),(0,uu 17),(0,uu 18),(0,uu 19),(0,uu 20),(0,uu 21),(0,uu 22),(0,uu 23),(0,uu 24),(0,uu 25)]) (fun(k:Nat)=>k≤xs.length∧xs.take k=ys.take k) (fun(k:Nat)=>xs.length - k) (0) ?_ S.uu ?_ ?_
 exact ⟨Nat.zero_le _,rfl⟩
 first | exact S | exact S.sub _ _
 clear S;rintro k uu a w ⟨hk,hrel⟩ S
 refine kS (kR (sq S ?_));clear S;intro a S;refine kN (xtn (kS ?_))
 refine kC S (fun h4=>?_) (fun h4=>?_)
 refine kK (xtn (kS (kB (kS ?_))))
 have hkl:k < xs.length:=by simpa using h4
 have hK1:KLt k xs.length:=⟨hkl⟩
 have hK2:KLt k ys.length:=⟨by omega⟩
 refine kR ?_;(iterate 2 (refine sq S ?_;clear S;intro a S));refine kN (xtn (kS ?_));refine c_drawD [(0,true),(1,true),(2,true),(3,true),(4,true),(5,true),(6,true),(7,true),(8,true)] [] S ?_;clear S;intro w S;(iterate 9 (refine dq S ?_;clear S;intro a S));refine dn (xtn ?_)
 refine kC S (fun h6=>?_) (fun h6=>?_)
 refine kS (kR (sq S ?_));clear S;intro a S;refine kN (xtn (kT (xbr (xtr (xtr (xbr (xtr ?_)))))))
 have h9:nthG xs k≠nthG ys k:=by simpa using h6
 have hne:xs≠ys:=fun h=>h9 (by rw[h])
 refine end1 S (fun _=>?_)
 rw[decide_eq_false hne]
 refine kK (xbn (xtn (kR ?_)));(iterate 2 (refine sq S ?_;clear S;intro a S));refine kN (xtn ?_)
 have h9:nthG xs k=nthG ys k:=by simpa using h6
 rw[w64 ((k:Int)+1) (by omega) (by omega)]at S
 exact ⟨k+1,S.uu,⟨hkl,by rw[nthG_take hkl,nthG_take (show k < ys.length by omega),hrel,h9]⟩,S.sub _ _,by omega⟩
 refine kE (xte (xte (xbe (xtn (kS (kR (sq S ?_)))))));clear S;intro a S;refine kN (xtn (kT ?_))
 have h9:xs.length≤k:=by simpa using h4
 rw[List.take_of_length_le h9,List.take_of_length_le (by omega)]at hrel
 refine end1 S (fun _=>?_)
 rw[decide_eq_true hrel]
theorem mcopied_c0 (N:Nat):∀ (t:LTerm) (M:Nat→Prop) (w0:World),SizeOf.sizeOf t < N→cnt t.t≤1200→(∀ k,M k→k < w0.heap.size)→Stable M w0 (LtF t)→Ret Tryz.prog 221 [vL t] w0 (fun _=>False) fun v w'=>IsT M w' v t.t:=by
 induction N with
 | zero=>intro t _ _ h;exact absurd h (Nat.not_lt_zero _)
 | succ N ih=>
 intro t M w0 hN hc hM hf
 have hlen:t.kids.length≤1200:=by have h1:=cnt_kids t;have h2:=cntL_len (t.kids.map LTerm.t);rw[List.length_map]at h2;omega
 have hkc:∀ x∈t.kids,cnt x.t≤1200:=fun x hx=>by have h1:=cnt_kids t;have h2:=cntL_mem (List.mem_map.2 ⟨x,hx,rfl⟩:x.t∈t.kids.map LTerm.t);omega
 refine enter Tryz.func221 rfl rfl (Wd.beginM (M:=M) (fs:=[LtF t]) hM (by simpa using hf)) (fun a S=>?_)
 simp only[Tryz.ntmps221,qqA,qqB,Nat.reduceAdd,Nat.reduceSub,qqC,qqD,qqE,qqF]at S
 refine kS (kR ?_);refine sa S ?_;clear S;intro b1 a w S;refine sa S ?_;clear S;intro b2 a w S;refine kN (xtn (kS (kR ?_)));(iterate 2 (refine sq S ?_;clear S;intro a S))
 refine srn S (clone_c t.kids t.p t.kids.length t.cap _ rfl (by omega) (ls_of_lt (S.t0 t))) ?_;clear S;rintro _ a w ⟨p',c',rfl,hown,hnew⟩ hS -
 have S:=hS hown hnew
 clear hS
 refine sq S ?_;clear S;intro a S;refine sw S ?_;clear S;intro a w S;refine kN (xtn (kS (kS (kR ?_))));(iterate 4 (refine sq S ?_;clear S;intro a S));refine kN (xtn (kB ?_))
 refine c_fore2 S (fun(k:Nat) (ys:List LTerm) uu=>[(3,uu 3),(7,.int .i64 (k:Nat)),(0,uu 12),(0,uu 13),(0,uu 14),(0,uu 15),(0,uu 16),(0,uu 17),(0,uu 18),(0,uu 19),(0,uu 20),(0,uu 21),(0,uu 22),(0,uu 23),(0,uu 24)]) (fun(k:Nat) (ys:List LTerm)=>[Wk.row 43 5 p' t.kids.length c' (encL ys),Wk.box b2 43 zeroL.cells,Wk.box b1 43 [.int .i64 t.kind,.int .i64 t.user,.int .i64 t.num,str t.text,.slice p' t.kids.length c'],ext M]) (fun(k:Nat) (ys:List LTerm)=>[AllL ys,LtF t]) (fun(k:Nat) (ys:List LTerm)=>k≤t.kids.length∧ys.length=t.kids.length∧ys.map LTerm.t=t.kids.map LTerm.t∧ys.drop k=t.kids.drop k) (fun(k:Nat) (ys:List LTerm)=>t.kids.length - k) (0) (t.kids) ?_ S.uu ?_ ?_
 ·exact ⟨Nat.zero_le _,rfl,rfl,rfl⟩
 ·exact S.add (Φ:=AllL t.kids) (AllL.stable fun x hx=>kid_st (S.t t) hx)
 ·clear S;rintro k ys uu a w ⟨hk,hyl,hym,hyd⟩ S
  refine kS (kR (sq S ?_));clear S;intro a S;refine kN (xtn (kS ?_))
  refine kC S (fun h3=>?_) (fun h3=>?_)
  ·refine kK (xtn (kS (kB (kS ?_))))
   have hkl:k < t.kids.length:=by simp at h3;omega
   have hK:KLt k t.kids.length:=⟨hkl⟩
   have hyk:ys[k]? = some (nthL t.kids k):=by
    have:=congrArg (fun l=>l[0]?) hyd
    simp only[List.getElem?_drop,Nat.add_zero]at this
    rw[this,nth_get hkl]
   refine kR ?_;(iterate 2 (refine sq S ?_;clear S;intro a S));refine kN (xtn ?_)
   refine c_drwe1 (.q 0 (.q 1 (.q 2 (.q 3 (.q 4 (.q 5 (.l 6 (.l 7 (.l 8 (.l 9 (.l 10 (.e)))))))))))) S (fun(ys':List LTerm) uu=>[(14,uu 14),(0,uu 15),(0,uu 16),(0,uu 17),(0,uu 18),(0,uu 19),(0,uu 20),(0,uu 21),(0,uu 22),(0,uu 23)]) [Wk.box b2 43 zeroL.cells,Wk.box b1 43 [.int .i64 t.kind,.int .i64 t.user,.int .i64 t.num,str t.text,.slice p' t.kids.length c'],ext M] (fun(ys':List LTerm)=>[Wk.row 43 5 p' t.kids.length c' (encL ys'),Wk.box b2 43 zeroL.cells,Wk.box b1 43 [.int .i64 t.kind,.int .i64 t.user,.int .i64 t.num,str t.text,.slice p' t.kids.length c'],ext M]) (fun(ys':List LTerm)=>[AllL ys',LtF t]) (fun(ys':List LTerm)=>ys'.length=t.kids.length∧ys'.map LTerm.t=t.kids.map LTerm.t∧ys'.drop (k+1)=t.kids.drop (k+1)) ?_ ?_
   ·intro w S
    (iterate 6 (refine tq S ?_;clear S;intro a S));refine tl (sq S ?_);clear S;intro a S;refine te S ?_;refine tl ?_
    refine slrA (nthL t.kids k).cells S t.kids.length (fun j v hj=>?_) ?_
    ·have hj5:j < 5:=(List.getElem?_eq_some_iff.1 hj).1
     rw[←hj];exact encL_get ys k _ hyk j hj5
    clear S;intro a S;refine te S ?_;refine tl ?_
    refine sr S (ih (nthL t.kids k) _ w (by have:=LTerm.kid_lt (nth_mem hkl);omega) (hkc _ (nth_mem hkl)) (foots_lt S) (kid_st (S.t t) (nth_mem hkl))) ?_;clear S;rintro _ a w ⟨r,rfl,hr,hrf⟩ S
    replace S:=S.add (Φ:=LtF r) hrf
    refine te S ?_;refine tl (sq S ?_);clear S;intro a S;refine te S ?_;refine tl ?_
    refine sws S t.kids.length (by omega) (by omega) ?_;clear S;intro a w S
    rw[encL_set ys k r (by omega)]at S
    refine te S ?_;refine tn ?_
    refine ⟨ys.set k r,S.uu,⟨by simpa using hyl,set_map ys k r _ hym (by rw[List.getElem?_map,nth_get hkl,hr];rfl),?_⟩,?_⟩
    ·rw[List.drop_set_of_lt (by omega),←List.drop_drop,hyd,List.drop_drop]
    ·have h1:Stable _ _ (AllL ys):=S.wd.facts (AllL ys) (by simp)
     have h2:=S.t r
     replace S:=S.add (Φ:=AllL (ys.set k r)) (fun w' hw' x hx=>by
      rcases List.mem_or_eq_of_mem_set hx with h | rfl
      ·exact h1 w' hw' x h
      ·exact h2 w' hw')
     exact S.sub _ _
   clear S;rintro ys' uu a w ⟨hyl',hym',hyd'⟩ S
   refine xbn (xtn (kR ?_));(iterate 2 (refine sq S ?_;clear S;intro a S));refine kN (xtn ?_)
   rw[w64 ((k:Int)+1) (by omega) (by omega)]at S
   exact ⟨k+1,ys',S.uu,⟨hkl,hyl',hym',hyd'⟩,S.sub _ _,by omega⟩
  ·refine kE (xte (xte (xbe (xtn (kS (kR (sq S ?_)))))));clear S;intro a S;refine sw S ?_;clear S;intro a w S;refine kN (xtn (kT ?_))
   have hrow:=S.row p' t.kids.length
   have hnew:=S.rowNew p' t.kids.length
   have hall:=S.laterFact (Φ:=AllL ys) (by simp)
   refine end1 S (fun _=>?_)
   refine ⟨.mk t.kind t.user t.num t.text p' c' ys,by simp only[vL,LTerm.kind,LTerm.user,LTerm.num,LTerm.text,LTerm.p,LTerm.cap,LTerm.kids,hyl],?_,fun w' hw'=>?_⟩
   ·rw[t.t_eq,←hym];exact LTerm.t_eq _
   ·have hls:=ls_of_own hrow (fun x hx=>AllL.get hall hx) (fun ad h hm=>(hnew ad h).elim id (fun h2=>by have:=hM _ hm;omega))
    exact ⟨by rw[hyl];exact own_le hrow,own_cap hrow,hls w' hw'⟩
theorem mcopied_c (t:LTerm) (M:Nat→Prop) (w0:World) (hc:cnt t.t≤1200) (hM:∀ k,M k→k < w0.heap.size) (hf:Stable M w0 (LtF t)):Ret Tryz.prog 221 [vL t] w0 (fun _=>False) fun v w'=>IsT M w' v t.t:=mcopied_c0 _ t M w0 (Nat.lt_succ_self _) hc hM hf
theorem msame1_c (x y:LSeen) (w0:World) (fx:Stable (fun _=>False) w0 (LtF x.root)) (fy:Stable (fun _=>False) w0 (LtF y.root)) :
  Ret Tryz.prog 128 [.agg ⟨cSeen x⟩,.agg ⟨cSeen y⟩] w0 (fun _=>False) fun v _=>v=.bool (decide (x.user=y.user)&&decide (x.cnt=y.cnt)&&sameF x.root.t y.root.t):=by
 refine enter Tryz.func128 rfl rfl (Wd.begin (fs:=[LtF x.root,LtF y.root]) (by simp;exact ⟨fx,fy⟩)) (fun a S=>?_)
 simp only[Tryz.ntmps128,qqA,qqB,Nat.reduceAdd,Nat.reduceSub,qqC,qqD,qqE,qqF]at S
 refine kS (kR ?_);refine sa S ?_;clear S;intro b2 a w S;refine sa S ?_;clear S;intro b3 a w S;refine sq S ?_;clear S;intro a S;refine kN (xtn (kS (kR ?_)));(iterate 6 (refine sq S ?_;clear S;intro a S));(iterate 5 (refine gQ S ?_;clear S;intro a S));(iterate 2 (refine sq S ?_;clear S;intro a S))
 refine gS S (fun hs S=>?_) (fun hs S=>?_)
 refine gT S ?_;refine sq S ?_;clear S;intro a S;refine gT S ?_;refine sq S ?_;clear S;intro a S;refine gT S ?_;refine sq S ?_;clear S;intro a S;refine gT S ?_;refine sq S ?_;clear S;intro a S;refine gT S ?_;refine sr S (same_c x.root y.root _ (S.t0 _) (S.t0 _)) ?_;clear S;rintro _ a w rfl S;(iterate 2 (refine sq S ?_;clear S;intro a S));refine kN (xtn (kT ?_))
 exact end1 S (fun _=>by rw[hs,Bool.true_and])
 refine gF S ?_;clear S;intro a S;(iterate 4 (refine gF S ?_;clear S;intro a S));(iterate 2 (refine sq S ?_;clear S;intro a S));refine kN (xtn (kT ?_))
 exact end1 S (fun _=>by rw[hs,Bool.false_and])
theorem same_s {x y:LSeen} : (decide (x.user=y.user)&&decide (x.cnt=y.cnt)&&sameF x.root.t y.root.t)=true↔x.s=y.s:=by
 rw[Bool.and_eq_true,Bool.and_eq_true,decide_eq_true_eq,decide_eq_true_eq,sameF_iff]
 constructor
 rintro ⟨⟨h1,h2⟩,h3⟩;rw[LSeen.s,LSeen.s,h1,h2,h3]
 intro h;rw[LSeen.s,LSeen.s]at h;injection h with h1 h2 h3;exact ⟨⟨h1,h2⟩,h3⟩
theorem seq_c (xs ys:List LSeen) (p q:Option Addr) (c d:Nat) (w0:World) (hl:xs.length≤1000000) (hx:Stable (fun _=>False) w0 (GlF p xs)) (hy:Stable (fun _=>False) w0 (GlF q ys)) :
  Ret Tryz.prog 131 [.slice p xs.length c,.slice q ys.length d,.func (.func 128) #[] #[]] w0 (fun _=>False) fun v _=>∃ b,v=.bool b∧(b=true↔ssP xs=ssP ys):=by
 refine enter Tryz.func131 rfl rfl (Wd.begin (fs:=[GlF p xs,GlF q ys]) (by simp;exact ⟨hx,hy⟩)) (fun a S=>?_)
 simp only[Tryz.ntmps131,qqA,qqB,Nat.reduceAdd,Nat.reduceSub,qqC,qqD,qqE,qqF]at S
 refine kS (kR (sq S ?_));clear S;intro a S;refine kN (xtn (kS (kS (kR ?_))));(iterate 5 (refine sq S ?_;clear S;intro a S));refine kN (xtn ?_)
 refine kC S (fun h1=>?_) (fun h1=>?_)
 refine kS (kR (sq S ?_));clear S;intro a S;refine kN (xtn (kT (xtr ?_)))
 refine end1 S (fun _=>⟨false,rfl,⟨nofun,fun he=>?_⟩⟩)
 have:=congrArg List.length he
 simp only[ssP,List.length_map]at this
 simp at h1;omega
 refine kK (xtn (kS (kS (kR ?_))));(iterate 3 (refine sq S ?_;clear S;intro a S));refine kN (xtn (kB ?_))
 have hle:xs.length=ys.length:=by simp at h1;omega
 refine c_fore1 S (fun(k:Nat) uu=>[(6,uu 6),(0,uu 7),(0,uu 8),(0,uu 9),(7,.int .i64 (k:Nat)),(0,uu 18),(0,uu 19),(0,uu 20),(0,uu 21),(0,uu 22),(0,uu 23),(0,uu 24),(0,uu 25),(0,uu 26),(0,uu 27),(0,uu 28),(0,uu 29),(0,uu 30),(0,uu 31)]) (fun(k:Nat)=>[]) (fun(k:Nat)=>[GlF p xs,GlF q ys]) (fun(k:Nat)=>k≤xs.length∧∀ a,a < k→(nthG xs a).s=(nthG ys a).s) (fun(k:Nat)=>xs.length - k) (0) ?_ S.uu ?_ ?_
 exact ⟨Nat.zero_le _,fun a h=>absurd h (Nat.not_lt_zero a)⟩
 first | exact S | exact S.sub _ _
 clear S;rintro k uu a w ⟨hk,hsm⟩ S
 refine kS (kR (sq S ?_));clear S;intro a S;refine kN (xtn (kS ?_))
 refine kC S (fun h4=>?_) (fun h4=>?_)
 refine kK (xtn (kS (kB (kS ?_))))
 have hkl:k < xs.length:=by have:=of_decide_eq_true h4;omega
 have hK:KLt k xs.length:=⟨hkl⟩
 have hK2:KLt k ys.length:=⟨by omega⟩
 refine kR ?_;(iterate 3 (refine sq S ?_;clear S;intro a S));refine sa S ?_;clear S;intro b8 a w S;refine sq S ?_;clear S;intro a S;refine sw S ?_;clear S;intro a w S;refine kN (xtn (kS (kR ?_)));(iterate 4 (refine sq S ?_;clear S;intro a S));refine sa S ?_;clear S;intro b9 a w S;refine sw S ?_;clear S;intro a w S;refine kN (xtn (kS (kR ?_)));(iterate 3 (refine sq S ?_;clear S;intro a S))
 refine sr S (msame1_c (nthG xs k) (nthG ys k) _ ((S.gl0 p).imp fun _ h=>h.2 _ (nthG_mem hkl)) ((S.gl0 q).imp fun _ h=>h.2 _ (nthG_mem (by omega)))) ?_;clear S;rintro _ a w rfl S
 refine sq S ?_;clear S;intro a S;refine kN (xtn ?_)
 refine kC S (fun h7=>?_) (fun h7=>?_)
 refine kS (kR (sq S ?_));clear S;intro a S;refine kN (xtn (kT (xbr (xtr (xtr (xbr (xtr ?_)))))))
 refine end1 S (fun _=>⟨false,rfl,⟨nofun,fun he=>?_⟩⟩)
 have e1:(ssP xs)[k]? = some (nthG xs k).s:=by rw[ssP,List.getElem?_map,nthG_get hkl];rfl
 have e2:(ssP ys)[k]? = some (nthG ys k).s:=by rw[ssP,List.getElem?_map,nthG_get (by omega)];rfl
 rw[he,e2]at e1
 rw[same_s.2 (Option.some.inj e1).symm]at h7;cases h7
 refine kK (xbn (xtn (kR ?_)));(iterate 2 (refine sq S ?_;clear S;intro a S));refine kN (xtn ?_)
 rw[w64 ((k:Int)+1) (by omega) (by omega)]at S
 refine ⟨k+1,S.uu,⟨hkl,fun b hb=>?_⟩,S.sub _ _,by omega⟩
 rcases Nat.lt_succ_iff_lt_or_eq.1 hb with h | rfl
 exact hsm b h
 exact same_s.1 (by simpa using h7)
 refine kE (xte (xte (xbe (xtn (kS (kR (sq S ?_)))))));clear S;intro a S;refine kN (xtn (kT ?_))
 refine end1 S (fun _=>⟨true,rfl,⟨fun _=>?_,fun _=>rfl⟩⟩)
 refine List.ext_getElem? fun i=>?_
 rcases Nat.lt_or_ge i xs.length with h | h
 rw[ssP,ssP,List.getElem?_map,List.getElem?_map,nthG_get h,nthG_get (by omega)]
 exact congrArg some (hsm i (by have:=of_decide_eq_false h4;omega))
 rw[List.getElem?_eq_none (by rw[ssP,List.length_map];omega),List.getElem?_eq_none (by rw[ssP,List.length_map];omega)]
theorem msame_c (x y:LMem) (hx:FitM x) (_hy:FitM y) (w0:World) (fx:Stable (fun _=>False) w0 (MemF x)) (fy:Stable (fun _=>False) w0 (MemF y)):Ret Tryz.prog 40 [vMem x,vMem y] w0 (fun _=>False) fun v _=>∃ b,v=.bool b∧(b=true↔x.m=y.m):=by
 have l1:=hx.seeds
 have l2:=hx.vers
 have l3:=hx.seen
 refine enter Tryz.func40 rfl rfl (Wd.begin (fs:=[GlF x.sp x.seeds,GlF x.vp x.vers,GlF x.ep x.seen,GlF y.sp y.seeds,GlF y.vp y.vers,GlF y.ep y.seen]) (by simp;exact ⟨fx.imp fun _ h=>h.1,fx.imp fun _ h=>h.2.1,fx.imp fun _ h=>h.2.2,fy.imp fun _ h=>h.1,fy.imp fun _ h=>h.2.1,fy.imp fun _ h=>h.2.2⟩)) (fun a S=>?_)
 simp only[Tryz.ntmps40,qqA,qqB,Nat.reduceAdd,Nat.reduceSub,qqC,qqD,qqE,qqF]at S
 refine kS (kR ?_);refine sa S ?_;clear S;intro b2 a w S;refine sa S ?_;clear S;intro b3 a w S;refine sq S ?_;clear S;intro a S;refine kN (xtn (kS (kR (sq S ?_))));clear S;intro a S;refine kN (xtn (kS (kR ?_)));(iterate 6 (refine sq S ?_;clear S;intro a S));(iterate 5 (refine gQ S ?_;clear S;intro a S));(iterate 2 (refine sq S ?_;clear S;intro a S));(iterate 5 (refine gQ S ?_;clear S;intro a S));(iterate 2 (refine sq S ?_;clear S;intro a S));(iterate 5 (refine gQ S ?_;clear S;intro a S));(iterate 2 (refine sq S ?_;clear S;intro a S));refine kN (xtn (kS (kR ?_)));(iterate 2 (refine sq S ?_;clear S;intro a S))
 refine gS S (fun hs1 S=>?_) (fun hs1 S=>?_)
 refine gT S ?_;refine sq S ?_;clear S;intro a S;refine gT S ?_;refine sq S ?_;clear S;intro a S;refine gT S ?_;refine sq S ?_;clear S;intro a S;refine gT S ?_;refine sq S ?_;clear S;intro a S;refine gT S ?_
 refine sr S (equalSd_c x.seeds y.seeds x.sp y.sp x.sc y.sc _ (by omega) (S.gl0 x.sp) (S.gl0 y.sp)) ?_;clear S;rintro _ a w rfl S
 (iterate 2 (refine sq S ?_;clear S;intro a S))
 refine gS S (fun hs2 S=>?_) (fun hs2 S=>?_)
 refine gT S ?_;refine sq S ?_;clear S;intro a S;refine gT S ?_;refine sq S ?_;clear S;intro a S;refine gT S ?_;refine sq S ?_;clear S;intro a S;refine gT S ?_;refine sq S ?_;clear S;intro a S;refine gT S ?_
 refine sr S (equalMk_c x.vers y.vers x.vp y.vp x.vc y.vc _ (by omega) (S.gl0 x.vp) (S.gl0 y.vp)) ?_;clear S;rintro _ a w rfl S
 (iterate 2 (refine sq S ?_;clear S;intro a S))
 refine gS S (fun hs3 S=>?_) (fun hs3 S=>?_)
 refine gT S ?_;refine sq S ?_;clear S;intro a S;refine gT S ?_;refine sq S ?_;clear S;intro a S;refine gT S ?_;refine sq S ?_;clear S;intro a S;refine gT S ?_;refine sq S ?_;clear S;intro a S;refine gT S ?_;refine sq S ?_;clear S;intro a S;refine gT S ?_
 refine sr S (seq_c x.seen y.seen x.ep y.ep x.ec y.ec _ (by omega) (S.gl0 x.ep) (S.gl0 y.ep)) ?_;clear S;rintro _ a w ⟨b,rfl,hb⟩ S
 (iterate 2 (refine sq S ?_;clear S;intro a S));refine kN (xtn (kT ?_))
 refine end1 S (fun _=>⟨b,rfl,?_⟩)
 simp only[Bool.and_eq_true,decide_eq_true_eq]at hs1
 rw[hb]
 constructor
 intro h
 rw[LMem.m,LMem.m,hs1.1.1.1,hs1.1.1.2,hs1.1.2,hs1.2,of_decide_eq_true hs2,of_decide_eq_true hs3,h]
 intro h;exact congrArg PMem.seen h
 refine gF S ?_;clear S;intro a S;(iterate 5 (refine gF S ?_;clear S;intro a S));(iterate 2 (refine sq S ?_;clear S;intro a S));refine kN (xtn (kT ?_))
 refine end1 S (fun _=>⟨false,rfl,⟨nofun,fun h=>?_⟩⟩)
 rw[decide_eq_true (show x.vers=y.vers from congrArg PMem.vers h)]at hs3;cases hs3
 refine gF S ?_;clear S;intro a S;(iterate 4 (refine gF S ?_;clear S;intro a S));(iterate 2 (refine sq S ?_;clear S;intro a S));(iterate 6 (refine gF S ?_;clear S;intro a S));(iterate 2 (refine sq S ?_;clear S;intro a S));refine kN (xtn (kT ?_))
 refine end1 S (fun _=>⟨false,rfl,⟨nofun,fun h=>?_⟩⟩)
 rw[decide_eq_true (show x.seeds=y.seeds from congrArg PMem.seeds h)]at hs2;cases hs2
 refine gF S ?_;clear S;intro a S;(iterate 4 (refine gF S ?_;clear S;intro a S));(iterate 2 (refine sq S ?_;clear S;intro a S));(iterate 5 (refine gF S ?_;clear S;intro a S));(iterate 2 (refine sq S ?_;clear S;intro a S));(iterate 6 (refine gF S ?_;clear S;intro a S));(iterate 2 (refine sq S ?_;clear S;intro a S));refine kN (xtn (kT ?_))
 refine end1 S (fun _=>⟨false,rfl,⟨nofun,fun h=>?_⟩⟩)
 rw[decide_eq_true (show x.user=y.user from congrArg PMem.user h),decide_eq_true (show x.leaf=y.leaf from congrArg PMem.leaf h),decide_eq_true (show x.counter=y.counter from congrArg PMem.counter h),decide_eq_true (show x.num=y.num from congrArg PMem.num h)]at hs1
 cases hs1
instance opFieldR {P:Program} {ty:TypeId} {lc:Cx} {bs:List Wk.Item} {fs:List (World→Prop)} {x:Operand} {p:Option Addr} {o off s f ft:Nat} [Ev lc x (.pointer (some (rAddr p o)))] [hf:Fld P s f off ft]:OpQ P (.fieldAddr s x f) ty lc bs fs (.pointer (some (rAddr p (o+off)))):=⟨fun ρ w h _=>by
 have e:(rAddr p o).add off=rAddr p (o+off):=by simp only[rAddr,add_add]
 simp[xop,execOp,h.ev (x:=x) (v:=.pointer (some (rAddr p o))),run_fieldAt,e]⟩
def IsM (M:Nat→Prop) (w:World) (v:Value) (m:PMem):Prop:=∃ x:LMem,v=vMem x∧x.m=m∧FitM x∧Stable M w (MemF x)
set_option maxHeartbeats 2000000 in
theorem mowned_c (m:LMem) (hfit:FitM m) (hok:memB m.m=true) (M:Nat→Prop) (w0:World) (hM:∀ k,M k→k < w0.heap.size) (hm:Stable M w0 (MemF m)):Ret Tryz.prog 143 [vMem m] w0 (fun _=>False) fun v w'=>IsM M w' v m.m:=by
 have hl1:=hfit.seeds
 have hl2:=hfit.vers
 have hl3:=hfit.seen
 have hgood:∀ x∈m.seen,Good x.root.t:=fun x hx=>by
  obtain ⟨i,hi,rfl⟩:=List.mem_iff_getElem.1 hx
  have h1:=(seenB_up m.seen 0 (memB_seen hok)).2.2 i hi
  have h2:=nthG_get hi
  rw[List.getElem?_eq_getElem hi]at h2
  rw[Option.some.inj h2]
  exact good_check.1 h1
 refine enter Tryz.func143 rfl rfl (Wd.beginM (M:=M) (fs:=[GlF m.sp m.seeds,GlF m.vp m.vers,GlF m.ep m.seen]) hM (by simp;exact ⟨hm.imp fun _ h=>h.1,hm.imp fun _ h=>h.2.1,hm.imp fun _ h=>h.2.2⟩)) (fun a S=>?_)
 simp only[Tryz.ntmps143,qqA,qqB,Nat.reduceAdd,Nat.reduceSub,qqC,qqD,qqE,qqF]at S
 refine kS (kR ?_);refine sa S ?_;clear S;intro b1 a w S;refine sa S ?_;clear S;intro b2 a w S;refine kN (xtn (kS ?_));refine c_drawV [(0,0),(0,0),(0,1),(0,3),(0,3),(0,2),(0,6),(0,6),(0,5),(0,2),(1,8),(0,10),(1,10),(0,12),(1,12)] [(0,0),(1,0),(3,0),(4,0),(6,0),(7,0),(2,3),(9,0),(5,3),(8,3),(10,3),(11,1),(12,3),(13,1),(14,3)] ([Wk.box b1 67 (cMem m)]) ([]) ([]) S ?_;clear S;intro w S;(iterate 6 (refine dqV0 S ?_;clear S;intro a S));refine dlV ?_
 refine srn S (sdclone_c m.seeds m.sp m.seeds.length m.sc _ rfl (by omega) (S.gl0 m.sp)) ?_;clear S;rintro _ a w ⟨p1,c1,rfl,hown,hnew⟩ hS -
 have S:=hS hown hnew
 clear hS
 refine deV0 S ?_;refine dqV0 S ?_;clear S;intro a S;refine dlV ?_
 refine srn S (mkclone_c m.vers m.vp m.vers.length m.vc _ rfl (by omega) (S.gl0 m.vp)) ?_;clear S;rintro _ a w ⟨p2,c2,rfl,hown,hnew⟩ hS -
 have S:=hS hown hnew
 clear hS
 refine deV0 S ?_;refine dlV ?_
 refine srn S (fclone_c m.seen m.ep m.seen.length m.ec _ rfl (by omega) (S.gl0 m.ep)) ?_;clear S;rintro _ a w ⟨p3,c3,rfl,hown,hnew⟩ hS -
 have S:=hS hown hnew
 clear hS
 refine deV0 S ?_;refine dlV (sw S ?_);clear S;intro a w S;refine deV1 S ?_;refine dqV1 S ?_;clear S;intro a S;refine dlV (sw S ?_);clear S;intro a w S;refine deV1 S ?_;refine dqV1 S ?_;clear S;intro a S;refine dlV (sw S ?_);clear S;intro a w S;refine deV1 S ?_;refine dnV (xtn (kS (kS (kR ?_))));(iterate 4 (refine sq S ?_;clear S;intro a S));refine kN (xtn (kB ?_))
 refine c_fore2 S (fun(k:Nat) (zs:List LSeen) uu=>[(3,uu 3),(15,.int .i64 (k:Nat)),(0,uu 20),(0,uu 21),(0,uu 22),(0,uu 23),(0,uu 24),(0,uu 25),(0,uu 26),(0,uu 27),(0,uu 28),(0,uu 29),(0,uu 30),(0,uu 31),(0,uu 32),(0,uu 33),(0,uu 34)]) (fun(k:Nat) (zs:List LSeen)=>[Wk.row 179 7 p3 m.seen.length c3 (encL zs),Wk.row 177 2 p2 m.vers.length c2 (encL m.vers),Wk.row 175 2 p1 m.seeds.length c1 (encL m.seeds),Wk.box b2 67 [.int .i64 0,.int .i64 0,.int .i64 0,.int .i64 0,.slice none 0 0,.slice none 0 0,.slice none 0 0],Wk.box b1 67 [.int .i64 m.user,.int .i64 m.leaf,.int .i64 m.counter,.int .i64 m.num,.slice p1 m.seeds.length c1,.slice p2 m.vers.length c2,.slice p3 m.seen.length c3],ext M]) (fun(k:Nat) (zs:List LSeen)=>[AllI zs,GlF m.sp m.seeds,GlF m.vp m.vers,GlF m.ep m.seen]) (fun(k:Nat) (zs:List LSeen)=>k≤m.seen.length∧zs.length=m.seen.length∧zs.drop k=m.seen.drop k∧ssP zs=ssP m.seen) (fun(k:Nat) (zs:List LSeen)=>m.seen.length - k) (0) (m.seen) ?_ S.uu ?_ ?_
 exact ⟨Nat.zero_le _,rfl,rfl,rfl⟩
 exact S.add (Φ:=AllI m.seen) ((S.mem.fact (GlF m.ep m.seen)).imp fun _ h=>h.2)
 clear S;rintro k zs uu a w ⟨hk,hzl,hzd,hzp⟩ S
 refine kS (kR (sq S ?_));clear S;intro a S;refine kN (xtn (kS ?_))
 refine kC S (fun h3=>?_) (fun h3=>?_)
 refine kK (xtn (kS (kB (kS ?_))))
 have hkl:k < m.seen.length:=by simp at h3;omega
 have hK:KLt k m.seen.length:=⟨hkl⟩
 have hzk:zs[k]? = some (nthG m.seen k):=by
  have:=congrArg (fun l=>l[0]?) hzd
  simp only[List.getElem?_drop,Nat.add_zero]at this
  rw[this,nthG_get hkl]
 refine kR ?_;(iterate 2 (refine sq S ?_;clear S;intro a S));refine kN (xtn ?_);refine c_drawL 12 [(0,true),(1,true),(2,true),(3,true),(4,true),(5,true),(6,true),(7,true),(8,false),(9,false),(10,false),(11,true),(12,false)] [Wk.row 179 7 p3 m.seen.length c3 (encL zs),Wk.box b1 67 [.int .i64 m.user,.int .i64 m.leaf,.int .i64 m.counter,.int .i64 m.num,.slice p1 m.seeds.length c1,.slice p2 m.vers.length c2,.slice p3 m.seen.length c3],ext M] S ?_;clear S;intro w S;(iterate 8 (refine dqL S ?_;clear S;intro a S));refine dlL ?_
 refine slrA (nthG m.seen k).root.cells S m.seen.length (fun j v hj=>?_) ?_
 have hj5:j < 5:=(List.getElem?_eq_some_iff.1 hj).1
 have:=encL_get zs k _ hzk (2+j) (by show _ < 7;omega)
 rw[show k*7+2+j=k*7+(2+j) from by omega]
 refine this.trans ?_
 rw[←hj]
 show (cSeen (nthG m.seen k))[2+j]? = _
 match j,hj5 with
 | 0,_=>rfl
 | 1,_=>rfl
 | 2,_=>rfl
 | 3,_=>rfl
 | 4,_=>rfl
 clear S;intro a S;refine deL S ?_;refine dlL ?_
 refine sr S (mcopied_c (nthG m.seen k).root _ w (good_le (hgood _ (nthG_mem hkl))) (foots_lt S) ((S.mem.fact (GlF m.ep m.seen)).imp fun _ h=>h.2 _ (nthG_mem hkl))) ?_;clear S;rintro _ a w ⟨z,rfl,hz,hzf⟩ S
 replace S:=S.add hzf
 refine deL S ?_;refine dlL (sq S ?_);clear S;intro a S;refine deL S ?_;refine dqL S ?_;clear S;intro a S;refine dlL ?_
 refine sws S m.seen.length (by omega) (by omega) ?_;clear S;intro a w S
 have e7:=encL_setS zs k (nthG m.seen k) ⟨(nthG m.seen k).user,(nthG m.seen k).cnt,z⟩ hzk rfl rfl
 rw[show (k*7+2+([.int .i64 z.kind,.int .i64 z.user,.int .i64 z.num,str z.text,.slice z.p z.kids.length z.cap]:List Value).length)=k*7+2+z.cells.length from rfl]at S
 rw[show ((encL zs).take (k*7+2)++[.int .i64 z.kind,.int .i64 z.user,.int .i64 z.num,str z.text,.slice z.p z.kids.length z.cap]++(encL zs).drop (k*7+2+z.cells.length))=encL (zs.set k ⟨(nthG m.seen k).user,(nthG m.seen k).cnt,z⟩) from e7]at S
 refine dzL (xbn (xtn (kR ?_)));(iterate 2 (refine sq S ?_;clear S;intro a S));refine kN (xtn ?_)
 have h1:Stable _ _ (AllI zs):=S.wd.facts (AllI zs) (by simp)
 have h2:=S.t z
 replace S:=S.add (Φ:=AllI (zs.set k ⟨(nthG m.seen k).user,(nthG m.seen k).cnt,z⟩)) (fun w' hw' x hx=>by
  rcases List.mem_or_eq_of_mem_set hx with h | rfl
  exact h1 w' hw' x h
  exact h2 w' hw')
 rw[w64 ((k:Int)+1) (by omega) (by omega)]at S
 refine ⟨k+1,zs.set k ⟨(nthG m.seen k).user,(nthG m.seen k).cnt,z⟩,S.uu,⟨hkl,by rw[List.length_set];exact hzl,?_,?_⟩,S.sub _ _,by omega⟩
 rw[List.drop_set_of_lt (by omega),←List.drop_drop,hzd,List.drop_drop]
 rw[←hzp]
 have hs:(zs.set k ⟨(nthG m.seen k).user,(nthG m.seen k).cnt,z⟩).map LSeen.s=(zs.map LSeen.s).set k (nthG m.seen k).s:=by
  rw[List.map_set];rw[LSeen.s,LSeen.s,hz]
 rw[ssP,hs]
 have hg:(zs.map LSeen.s)[k]? = some (nthG m.seen k).s:=by rw[List.getElem?_map,hzk];rfl
 obtain ⟨h3,h4⟩:=List.getElem?_eq_some_iff.1 hg
 rw[←h4,List.set_getElem_self]
 refine kE (xte (xte (xbe (xtn (kS (kR (sq S ?_)))))));clear S;intro a S;refine sw S ?_;clear S;intro a w S;refine kN (xtn (kT ?_))
 replace S:=S.rowToGl p3 zs (e:=179) (sz:=7) (n:=m.seen.length) (c:=c3) (S.wd.facts (AllI zs) (by simp))
 replace S:=S.rowToGl p2 m.vers (e:=177) (sz:=2) (n:=m.vers.length) (c:=c2) (fun _ _ _ _=>trivial)
 replace S:=S.rowToGl p1 m.seeds (e:=175) (sz:=2) (n:=m.seeds.length) (c:=c1) (fun _ _ _ _=>trivial)
 have g1:=S.laterFact (M:=M) (Φ:=GlF p1 m.seeds) (by simp)
 have g2:=S.laterFact (M:=M) (Φ:=GlF p2 m.vers) (by simp)
 have g3:=S.laterFact (M:=M) (Φ:=GlF p3 zs) (by simp)
 refine end1 S (fun _=>?_)
 refine ⟨⟨m.user,m.leaf,m.counter,m.num,p1,c1,m.seeds,p2,c2,m.vers,p3,c3,zs⟩,?_,?_,⟨hl1,hl2,by show zs.length≤1000;omega,hfit.names,hfit.keys⟩,fun w' hw'=>⟨g1 w' hw',g2 w' hw',g3 w' hw'⟩⟩
 show _=vMem _
 rw[vMem]
 show _=Value.agg ⟨[.int .i64 m.user,.int .i64 m.leaf,.int .i64 m.counter,.int .i64 m.num,.slice p1 m.seeds.length c1,.slice p2 m.vers.length c2,.slice p3 zs.length c3]⟩
 rw[hzl]
 show PMem.mk _ _ _ _ _ _ (ssP zs)=PMem.mk _ _ _ _ _ _ (ssP m.seen)
 rw[hzp]
theorem u32R_c (b:Nat) (r:RS) (w0:World) (hc:r.bs.length≤r.c) (hl:r.bs.length≤10000000) (hb:(rdI b r).holds w0) (hx:Stable (fun k=>k=b) w0 (GlF r.p r.bs)) :
  Ret Tryz.prog 217 [.pointer (some ⟨b,0,none⟩)] w0 (fun k=>k=b) fun v w'=>v=.int .u32 (numN (tookR r 4) 0:Nat)∧(rdI b (takeR r 4)).holds w':=by
 have hn:=took_num r 4 (by decide)
 refine enter Tryz.func217 rfl rfl (Wd.itLent (x:=rdI b r) (fs:=[GlF r.p r.bs]) hb (by intro Φ hΦ;obtain rfl:=List.mem_singleton.1 hΦ;exact hx)) (fun a S=>?_)
 simp only[Tryz.ntmps217,qqA,qqB,Nat.reduceAdd,Nat.reduceSub,qqC,qqD,qqE,qqF]at S
 refine kS (kR (sq S ?_));clear S;intro a S;refine kN (xtn (kS (kR (sq S ?_))));clear S;intro a S
 refine sit (rdI b r) S (weighR_c b r 4 _ (by decide) hc hl (S.it (rdI b r)) (S.lend (rdI b r) (S.mem.fact (GlF r.p r.bs)))) rfl ?_;clear S;rintro _ a w ⟨rfl,hh⟩ hS
 have S:=hS (rdI b (takeR r 4)) hh (fun k h=>.inl h)
 clear hS
 rw[hn.1]at S
 refine sq S ?_;clear S;intro a S
 rw[show IntKind.u32.wrap ((numN (tookR r 4) 0:Nat):Int)=((numN (tookR r 4) 0:Nat):Int) from by
  unfold IntKind.wrap
  simp only[IntKind.bits,IntKind.signed,Bool.false_and]
  simp;omega]at S
 refine sq S ?_;clear S;intro a S;refine kN (xtn (kT ?_))
 have hh:=S.it (rdI b (takeR r 4))
 exact end1 S (fun _=>⟨rfl,hh⟩)
abbrev mrX (h rd:Nat) (wr:Bool):Wk.Item:=Wk.box h 209 [.pointer (some ⟨rd,0,none⟩),.bool wr]
abbrev mrI (h rd:Nat) (wr:Bool) (r:RS):Wk.Item:=both (mrX h rd wr) (rdI rd r)
def textN (r:RS):Nat:=numN (tookR r 1) 0
def textS (r:RS):List UInt8:=tookR (takeR r 1) (textN r)
def textR (r:RS):RS:=takeR (takeR r 1) (textN r)
theorem textN_lt (r:RS):textN r < 256:=(took_num r 1 (by decide)).2
theorem textR_sub (r:RS):SubR r (textR r):=(SubR.take r 1).trans (SubR.take _ _)
theorem textS_len (r:RS):(textS r).length≤255:=by
 have h1:=(tookR_len (takeR r 1) (textN r)).1
 have h2:=textN_lt r
 unfold textS;omega
theorem mtext_c (h rd:Nat) (wr:Bool) (r:RS) (w0:World) (hc:r.bs.length≤r.c) (hl:r.bs.length≤10000000) (hd:(mrI h rd wr r).holds w0) (hx:Stable (mrI h rd wr r).foot w0 (GlF r.p r.bs)) :
  Ret Tryz.prog 139 [.pointer (some ⟨h,0,none⟩)] w0 (mrI h rd wr r).foot fun v w'=>v=str (textS r)∧(mrI h rd wr (textR r)).holds w':=by
 refine enter Tryz.func139 rfl rfl (Wd.it2Lent (x:=mrX h rd wr) (y:=rdI rd r) (fs:=[GlF r.p r.bs]) hd rfl rfl (by simpa using hx)) (fun a S=>?_)
 simp only[Tryz.ntmps139,qqA,qqB,Nat.reduceAdd,Nat.reduceSub,qqC,qqD,qqE,qqF]at S
 refine kS (kR (sq S ?_));clear S;intro a S;refine kN (xtn (kS ?_));refine c_drawL 12 [(0,true),(1,true),(2,true),(3,true),(4,true),(5,true),(6,true),(7,true),(8,false),(9,true),(10,false),(11,false),(12,false)] [mrX h rd wr] S ?_;clear S;intro w S;(iterate 8 (refine dqL S ?_;clear S;intro a S));refine dlL ?_
 refine sit (rdI rd r) S (u8R_c rd r _ hc hl (S.it (rdI rd r)) (S.lend (rdI rd r) (S.mem.fact (GlF r.p r.bs)))) rfl ?_;clear S;rintro _ a w ⟨rfl,hh⟩ hS
 have S:=hS (rdI rd (takeR r 1)) hh (fun k h=>.inl h)
 clear hS
 obtain ⟨nn,hnn⟩:∃ nn,nn=textN r:=⟨_,rfl⟩
 have hnl:=textN_lt r
 rw[show numN (tookR r 1) 0=nn from hnn.symm]at S
 rw[←hnn]at hnl
 replace S:=S.add (Φ:=GlF (takeR r 1).p (takeR r 1).bs) (takeR_gl hc (S.mem.fact (GlF r.p r.bs)))
 have hs1:=SubR.take r 1
 have hc1:=hs1.cap hc
 have hl1:=hs1.len
 refine deL S ?_;refine dqL S ?_;clear S;intro a S
 rw[w64 (nn:Int) (by omega) (by omega)]at S
 refine dlL ?_
 refine sit (rdI rd (takeR r 1)) S (rawR_c rd (takeR r 1) nn _ (by omega) hc1 (by omega) (S.it (rdI rd (takeR r 1))) (S.lend (rdI rd (takeR r 1)) (S.mem.fact (GlF (takeR r 1).p (takeR r 1).bs)))) rfl ?_;clear S;rintro _ a w ⟨p7,c7,rfl,hh,hf7⟩ hS
 have S:=hS (both (Wk.row 5 1 p7 (tookR (takeR r 1) nn).length c7 (encL (tookR (takeR r 1) nn))) (rdI rd (takeR (takeR r 1) nn))) hh hf7
 clear hS
 replace S:=(S.front (both (Wk.row 5 1 p7 (tookR (takeR r 1) nn).length c7 (encL (tookR (takeR r 1) nn))) (rdI rd (takeR (takeR r 1) nn)))).ofBoth
 have hLN:LenN (tookR (takeR r 1) nn) (tookR (takeR r 1) nn).length:=⟨rfl⟩
 refine deL S ?_;refine dlL (sq S ?_);clear S;intro a S;refine deL S ?_;refine dlL (sq S ?_);clear S;intro a S;refine dzL (xtn (kT ?_))
 replace S:=((S.front (rdI rd (takeR (takeR r 1) nn))).front (mrX h rd wr)).toBoth
 have hh:=S.it (mrI h rd wr (takeR (takeR r 1) nn))
 refine end1 S (fun _=>?_)
 rw[show textS r=tookR (takeR r 1) nn from by rw[textS,hnn],show textR r=takeR (takeR r 1) nn from by rw[textR,hnn]]
 exact ⟨rfl,hh⟩
def markD (x:RB):LMark × RB:=
 (⟨(tkB (numN (tkB 1 x).1 0) (tkB 1 x).2).1,(numN (tkB 2 (tkB (numN (tkB 1 x).1 0) (tkB 1 x).2).2).1 0:Nat)⟩,(tkB 2 (tkB (numN (tkB 1 x).1 0) (tkB 1 x).2).2).2)
def rootD (raw:List UInt8):Term × Bool:=match decT 60 1200 raw with
 | .ok (t,_,rest)=>(t,decide (rest=[]))
 | .error _=>(zeroT,false)
def rootX (x:RB):Term × Bool × RB:=
 if (tkB (numN (tkB 4 x).1 0) (tkB 4 x).2).2.2=true then (zeroT,true,(tkB (numN (tkB 4 x).1 0) (tkB 4 x).2).2)
 else ((rootD (tkB (numN (tkB 4 x).1 0) (tkB 4 x).2).1).1,(rootD (tkB (numN (tkB 4 x).1 0) (tkB 4 x).2).1).2,(tkB (numN (tkB 4 x).1 0) (tkB 4 x).2).2)
def seenD (x:RB):PSeen × Bool × RB:=
 (⟨(numN (tkB 1 x).1 0:Nat),(numN (tkB 2 (tkB 1 x).2).1 0:Nat),(rootX (tkB 2 (tkB 1 x).2).2).1⟩,(rootX (tkB 2 (tkB 1 x).2).2).2.1,(rootX (tkB 2 (tkB 1 x).2).2).2.2)
def marksD:Nat→RB→List LMark × RB
 | 0,x=>([],x)
 | k+1,x=>if x.2=true then ([],x) else ((markD x).1::(marksD k (markD x).2).1,(marksD k (markD x).2).2)
def seensD:Nat→RB→List PSeen × Bool × RB
 | 0,x=>([],true,x)
 | k+1,x=>if x.2=true then ([],true,x) else ((seenD x).1::(seensD k (seenD x).2.2).1,(seenD x).2.1&&(seensD k (seenD x).2.2).2.1,(seensD k (seenD x).2.2).2.2)
theorem RS.ab_why {r:RS} : r.ab.2=true↔r.why≠0:=by
 show (!decide (r.why=0))=true↔_
 simp
theorem text_ab (r:RS):textS r=(tkB (numN (tkB 1 r.ab).1 0) (tkB 1 r.ab).2).1∧(textR r).ab=(tkB (numN (tkB 1 r.ab).1 0) (tkB 1 r.ab).2).2:=by
 have h1:=tk_ab r 1
 have h2:=tk_ab (takeR r 1) (textN r)
 rw[h1.2]at h2
 rw[show textN r=numN (tkB 1 r.ab).1 0 from by rw[textN,h1.1]]at h2
 exact ⟨by rw[←h2.1,textS,textN,h1.1],by rw[←h2.2,textR,textN,h1.1]⟩
theorem mark_ab (r:RS):markD r.ab=(⟨textS r,(numN (tookR (textR r) 2) 0:Nat)⟩,(takeR (textR r) 2).ab):=by
 obtain ⟨h1,h2⟩:=text_ab r
 obtain ⟨h3,h4⟩:=tk_ab (textR r) 2
 rw[h2]at h3 h4
 rw[markD,←h1,←h3,←h4]
def rootN (r:RS):Nat:=numN (tookR r 4) 0
def rootW (r:RS):List UInt8:=tookR (takeR r 4) (rootN r)
def rootR (r:RS):RS:=takeR (takeR r 4) (rootN r)
theorem root_ab (r:RS):rootX r.ab=if (rootR r).why≠0 then (zeroT,true,(rootR r).ab) else ((rootD (rootW r)).1,(rootD (rootW r)).2,(rootR r).ab):=by
 have h1:=tk_ab r 4
 have h2:=tk_ab (takeR r 4) (rootN r)
 rw[h1.2]at h2
 rw[show rootN r=numN (tkB 4 r.ab).1 0 from by rw[rootN,h1.1]]at h2
 have e1:(tkB (numN (tkB 4 r.ab).1 0) (tkB 4 r.ab).2).1=rootW r:=by rw[←h2.1,rootW,rootN,h1.1]
 have e2:(tkB (numN (tkB 4 r.ab).1 0) (tkB 4 r.ab).2).2=(rootR r).ab:=by rw[←h2.2,rootR,rootN,h1.1]
 rw[rootX,e1,e2]
 by_cases h:(rootR r).why=0
 rw[if_neg (by rw[RS.ab_why];exact fun h2=>h2 h),if_neg (fun h2=>h2 h)]
 rw[if_pos (RS.ab_why.2 h),if_pos h]
theorem rootD_case {raw:List UInt8} {z:LTerm} {nz e:Int} (h:(∃ left rest,decT 60 1200 raw=.ok (z.t,left,rest)∧nz=(raw.length:Int) - rest.length∧e=0)∨(decT 60 1200 raw=.error e∧z=zeroL∧e≠0)):z.t=(rootD raw).1∧(rootD raw).2=(decide (e=0)&&decide (nz=raw.length)):=by
 rcases h with ⟨left,rest,h1,h2,h3⟩ | ⟨h1,h2,h3⟩
 rw[rootD,h1]
 refine ⟨rfl,?_⟩
 rw[h2,h3]
 show decide (rest=[])=(true&&_)
 rw[Bool.true_and,decide_eq_decide]
 constructor
 rintro rfl;simp
 intro h;exact List.eq_nil_of_length_eq_zero (by omega)
 rw[rootD,h1,h2]
 refine ⟨rfl,?_⟩
 rw[decide_eq_false h3];rfl
theorem rootR_sub (r:RS):SubR r (rootR r):=(SubR.take r 4).trans (SubR.take _ _)
theorem mroot_c (h rd:Nat) (wr:Bool) (r:RS) (Mr:Nat→Prop) (w0:World) (hc:r.bs.length≤r.c) (hl:r.bs.length≤10000000) (hMr:∀ k,Mr k→k < w0.heap.size∧¬(mrI h rd wr r).foot k) (hd:(mrI h rd wr r).holds w0) (hx:Stable (fun k=>(mrI h rd wr r).foot k∨Mr k) w0 (GlF r.p r.bs)) :
  Ret Tryz.prog 142 [.pointer (some ⟨h,0,none⟩)] w0 (mrI h rd wr r).foot fun v w'=>∃ z:LTerm,v=vL z∧z.t=(rootX r.ab).1∧(mrI h rd (wr||!(rootX r.ab).2.1) (rootR r)).holds w'∧Stable (fun k=>(mrI h rd wr r).foot k∨Mr k) w' (LtF z):=by
 have hrx:=root_ab r
 refine enter Tryz.func142 rfl rfl (Wd.it2LentM (x:=mrX h rd wr) (y:=rdI rd r) (Mr:=Mr) (fs:=[GlF r.p r.bs]) hd rfl rfl hMr (by simpa using hx)) (fun a S=>?_)
 simp only[Tryz.ntmps142,qqA,qqB,Nat.reduceAdd,Nat.reduceSub,qqC,qqD,qqE,qqF]at S
 refine kS (kR ?_);refine sa S ?_;clear S;intro b2 a w S;refine kN (xtn (kS ?_));refine c_drawL 11 [(0,true),(1,true),(2,true),(3,true),(4,true),(5,true),(6,true),(7,true),(8,false),(9,true),(10,false),(11,false)] [mrX h rd wr] S ?_;clear S;intro w S;(iterate 8 (refine dqL S ?_;clear S;intro a S));refine dlL ?_
 refine sit (rdI rd r) S (u32R_c rd r _ hc hl (S.it (rdI rd r)) (S.lend (rdI rd r) (S.mem.fact (GlF r.p r.bs)))) rfl ?_;clear S;rintro _ a w ⟨rfl,hh⟩ hS
 have S:=hS (rdI rd (takeR r 4)) hh (fun k h=>.inl h)
 clear hS
 obtain ⟨nn,hnn⟩:∃ nn,nn=rootN r:=⟨_,rfl⟩
 have hnl:rootN r < 4294967296:=(took_num r 4 (by decide)).2
 rw[show numN (tookR r 4) 0=nn from hnn.symm]at S
 rw[←hnn]at hnl
 replace S:=S.add (Φ:=GlF (takeR r 4).p (takeR r 4).bs) (takeR_gl hc (S.mem.fact (GlF r.p r.bs)))
 have hs1:=SubR.take r 4
 have hc1:=hs1.cap hc
 have hl1:=hs1.len
 refine deL S ?_;refine dqL S ?_;clear S;intro a S
 rw[w64 (nn:Int) (by omega) (by omega)]at S
 refine dlL ?_
 refine sit (rdI rd (takeR r 4)) S (rawR_c rd (takeR r 4) nn _ (by omega) hc1 (by omega) (S.it (rdI rd (takeR r 4))) (S.lend (rdI rd (takeR r 4)) (S.mem.fact (GlF (takeR r 4).p (takeR r 4).bs)))) rfl ?_;clear S;rintro _ a w ⟨p7,c7,rfl,hh,hf7⟩ hS
 have S:=hS (both (Wk.row 5 1 p7 (tookR (takeR r 4) nn).length c7 (encL (tookR (takeR r 4) nn))) (rdI rd (takeR (takeR r 4) nn))) hh hf7
 clear hS
 replace S:=(S.front (both (Wk.row 5 1 p7 (tookR (takeR r 4) nn).length c7 (encL (tookR (takeR r 4) nn))) (rdI rd (takeR (takeR r 4) nn)))).ofBoth
 obtain ⟨raw,hraw⟩:∃ raw,raw=tookR (takeR r 4) nn:=⟨_,rfl⟩
 obtain ⟨r5,hr5⟩:∃ r5,r5=takeR (takeR r 4) nn:=⟨_,rfl⟩
 have hrawl:raw.length≤10000000:=by have:=(tookR_len (takeR r 4) nn).2;rw[hraw];omega
 rw[←hraw,←hr5]at S
 have e5:rootR r=r5:=by rw[hr5,hnn];rfl
 have eW:rootW r=raw:=by rw[hraw,hnn];rfl
 rw[e5,eW]at hrx
 replace S:=(S.front (Wk.row 5 1 p7 raw.length c7 (encL raw))).rowToGl p7 raw (e:=5) (sz:=1) (n:=raw.length) (c:=c7) (fun _ _ _ _=>trivial)
 refine deL S ?_;refine dlL (sq S ?_);clear S;intro a S;refine dzL (xtn (kS (kS (kR ?_))));(iterate 4 (refine sq S ?_;clear S;intro a S))
 refine sr S (errR_c rd r5 _ (BoxF.stable (S.box rd) (fun h=>h))) ?_;clear S;rintro _ a w rfl S
 refine sq S ?_;clear S;intro a S;refine kN (xtn ?_)
 refine kC S (fun h2=>?_) (fun h2=>?_)
 refine kS (kR (sq S ?_));clear S;intro a S;refine sw S ?_;clear S;intro a w S;refine kN (xtn (kT (xtr ?_)))
 have hw:r5.why≠0:=by simpa using h2
 rw[if_pos hw]at hrx
 replace S:=((S.front (rdI rd r5)).front (mrX h rd wr)).toBoth
 have hh:=S.it (mrI h rd wr r5)
 refine end1 S (fun _=>⟨zeroL,rfl,?_,?_,fun w' _=>zeroL_in w'⟩)
 rw[hrx];rfl
 rw[hrx,e5,Bool.not_true,Bool.or_false];exact hh
 refine kK (xtn (kS ?_))
 have hw:r5.why=0:=by simpa using h2
 rw[if_neg (fun h=>h hw)]at hrx
 refine kR (sq S ?_);clear S;intro a S
 refine sr S (tdec_c raw p7 raw.length c7 _ w rfl hrawl (foots_lt S) (S.mem.fact (GlF p7 raw))) ?_;clear S;rintro _ a w ⟨z,nz,e,rfl,hzf,hcase⟩ S
 replace S:=S.add hzf
 (iterate 4 (refine sq S ?_;clear S;intro a S));refine sa S ?_;clear S;intro b4 a w S;refine sw S ?_;clear S;intro a w S;(iterate 2 (refine sq S ?_;clear S;intro a S));refine kN (xtn (kS (kR ?_)));(iterate 6 (refine sq S ?_;clear S;intro a S));(iterate 2 (refine gQ S ?_;clear S;intro a S));(iterate 2 (refine sq S ?_;clear S;intro a S));(iterate 4 (refine gQ S ?_;clear S;intro a S));(iterate 3 (refine sq S ?_;clear S;intro a S));refine sw S ?_;clear S;intro a w S;refine kN (xtn (kS (kR (sq S ?_))));clear S;intro a S;refine sw S ?_;clear S;intro a w S;refine kN (xtn (kT ?_))
 obtain ⟨hd1,hd2⟩:=rootD_case hcase
 rw[show (wr||!decide (e=0)||!decide (nz=(raw.length:Int)))=(wr||!(rootD raw).2) from by rw[hd2,Bool.not_and,Bool.or_assoc]]at S
 replace S:=((S.front (rdI rd r5)).front (mrX h rd (wr||!(rootD raw).2))).toBoth
 have hh:=S.it (mrI h rd (wr||!(rootD raw).2) r5)
 have hst:Stable (fun k=>(mrI h rd wr r).foot k∨Mr k) _ (LtF z):=(S.wd.facts (LtF z) (by simp)).less fun k _ hk=>hk.elim (fun h1=>⟨mrI h rd (wr||!(rootD raw).2) r5,by simp,h1⟩) (fun h1=>⟨ext Mr,by simp,h1⟩)
 refine end1 S (fun _=>⟨z,rfl,?_,?_,hst⟩)
 rw[hrx];exact hd1
 rw[hrx,e5];exact hh
abbrev mmX (b:Nat) (m:LMem):Wk.Item:=Wk.box b 67 (cMem m)
abbrev rwS (m:LMem):Wk.Item:=Wk.row 175 2 m.sp m.seeds.length m.sc (encL m.seeds)
abbrev rwV (m:LMem):Wk.Item:=Wk.row 177 2 m.vp m.vers.length m.vc (encL m.vers)
abbrev rwE (m:LMem):Wk.Item:=Wk.row 179 7 m.ep m.seen.length m.ec (encL m.seen)
abbrev dmI (b h rd:Nat) (m:LMem) (wr:Bool) (r:RS):Wk.Item:=both (mmX b m) (both (rwS m) (both (rwV m) (both (rwE m) (mrI h rd wr r))))
theorem St.dmOpen {w0:World} {M0:Nat→Prop} {ds:List Deferred} {a:Act} {w:World} {l:List Value} {bs:List Wk.Item} {fs:List (World→Prop)} {b h rd:Nat} {m:LMem} {wr:Bool} {r:RS} (S:St w0 M0 ds a w l (dmI b h rd m wr r::bs) fs):St w0 M0 ds a w l (mrX h rd wr::rdI rd r::rwE m::rwV m::rwS m::mmX b m::bs) fs:=by
 have S1:=S.ofBoth
 have S2:=(S1.perm (both (rwS m) (both (rwV m) (both (rwE m) (mrI h rd wr r)))::mmX b m::bs) (List.Perm.swap _ _ _)).ofBoth
 have S3:=(S2.perm (both (rwV m) (both (rwE m) (mrI h rd wr r))::rwS m::mmX b m::bs) (List.Perm.swap _ _ _)).ofBoth
 have S4:=(S3.perm (both (rwE m) (mrI h rd wr r)::rwV m::rwS m::mmX b m::bs) (List.Perm.swap _ _ _)).ofBoth
 exact (S4.perm (mrI h rd wr r::rwE m::rwV m::rwS m::mmX b m::bs) (List.Perm.swap _ _ _)).ofBoth
theorem St.dmClose {w0:World} {M0:Nat→Prop} {ds:List Deferred} {a:Act} {w:World} {l:List Value} {bs:List Wk.Item} {fs:List (World→Prop)} {b h rd:Nat} {m:LMem} {wr:Bool} {r:RS} (S:St w0 M0 ds a w l (mrX h rd wr::rdI rd r::rwE m::rwV m::rwS m::mmX b m::bs) fs):St w0 M0 ds a w l (dmI b h rd m wr r::bs) fs:=by
 have S1:=S.toBoth
 have S2:=(S1.perm (rwE m::mrI h rd wr r::rwV m::rwS m::mmX b m::bs) (List.Perm.swap _ _ _)).toBoth
 have S3:=(S2.perm (rwV m::both (rwE m) (mrI h rd wr r)::rwS m::mmX b m::bs) (List.Perm.swap _ _ _)).toBoth
 have S4:=(S3.perm (rwS m::both (rwV m) (both (rwE m) (mrI h rd wr r))::mmX b m::bs) (List.Perm.swap _ _ _)).toBoth
 exact (S4.perm (mmX b m::both (rwS m) (both (rwV m) (both (rwE m) (mrI h rd wr r)))::bs) (List.Perm.swap _ _ _)).toBoth
def DmR (Mr:Nat→Prop) (b h rd:Nat) (m:LMem) (wr:Bool) (r:RS) (Q:LMem→Bool→RS→Prop) (v:Value) (w0 w:World):Prop:=v=.tuple #[]∧∃ m' wr' r',Q m' wr' r'∧SubR r r'∧(dmI b h rd m' wr' r').holds w∧(∀ k,(dmI b h rd m' wr' r').foot k→(dmI b h rd m wr r).foot k∨w0.heap.size≤k)∧Stable (fun k=>(dmI b h rd m' wr' r').foot k∨Mr k) w (AllI m'.seen)
theorem mdec1_c (b b4 h rd:Nat) (m:LMem) (wr:Bool) (r:RS) (Mr:Nat→Prop) (w0:World) (hc:r.bs.length≤r.c) (hl:r.bs.length≤10000000) (hk:m.seeds.length≤1000) (hMr:∀ k,Mr k→k < w0.heap.size∧¬(dmI b h rd m wr r).foot k) (hd:(dmI b h rd m wr r).holds w0)
  (h4:Stable (fun k=>(dmI b h rd m wr r).foot k∨Mr k) w0 (BoxF b4 207 [.pointer (some ⟨h,0,none⟩)])) (hx:Stable (fun k=>(dmI b h rd m wr r).foot k∨Mr k) w0 (GlF r.p r.bs)) (hs:Stable (fun k=>(dmI b h rd m wr r).foot k∨Mr k) w0 (AllI m.seen)) :
  Ret Tryz.prog 138 [.pointer (some ⟨b,0,none⟩),.pointer (some ⟨b4,0,none⟩)] w0 (dmI b h rd m wr r).foot fun v w'=>DmR Mr b h rd m wr r (fun m' wr' r'=>wr'=wr∧r'.ab=(markD r.ab).2∧m'.m = { m.m with seeds:=m.seeds++[(markD r.ab).1] }) v w0 w':=by
 refine enter Tryz.func138 rfl rfl ((Wd.itLentM (x:=dmI b h rd m wr r) (Mr:=Mr) (fs:=[BoxF b4 207 [.pointer (some ⟨h,0,none⟩)],GlF r.p r.bs,AllI m.seen]) hd hMr (by simp;exact ⟨h4,hx,hs⟩))) (fun a S=>?_)
 simp only[Tryz.ntmps138,qqA,qqB,Nat.reduceAdd,Nat.reduceSub,qqC,qqD,qqE,qqF]at S
 replace S:=St.dmOpen S
 refine c_drawL 14 [(0,true),(1,true),(2,true),(4,true),(5,true),(6,true),(7,true),(3,false),(8,false),(9,true),(10,true),(11,false),(12,false),(13,true),(14,false)] [mrX h rd wr,mmX b m] S ?_;clear S;intro w S;(iterate 7 (refine dqL S ?_;clear S;intro a S));refine dlL ?_
 replace S:=((S.front (rdI rd r)).front (mrX h rd wr)).toBoth
 refine sit (mrI h rd wr r) S (mtext_c h rd wr r _ hc hl (S.it (mrI h rd wr r)) (S.lend (mrI h rd wr r) (S.mem.fact (GlF r.p r.bs)))) rfl ?_;clear S;rintro _ a w ⟨rfl,hh⟩ hS
 have S:=hS (mrI h rd wr (textR r)) hh (fun k h=>.inl h)
 clear hS
 replace S:=S.ofBoth
 have hs1:=textR_sub r
 have hc1:=hs1.cap hc
 have hl1:=hs1.len
 replace S:=S.add (Φ:=GlF (textR r).p (textR r).bs) ((S.mem.fact (GlF r.p r.bs)).imp fun _ h=>hs1.gl hc _ h)
 refine deL S ?_;refine dlL ?_
 refine sit (rdI rd (textR r)) S (u16R_c rd (textR r) _ hc1 (by omega) (S.it (rdI rd (textR r))) (S.lend (rdI rd (textR r)) (S.mem.fact (GlF (textR r).p (textR r).bs)))) rfl ?_;clear S;rintro _ a w ⟨rfl,hh⟩ hS
 have S:=hS (rdI rd (takeR (textR r) 2)) hh (fun k h=>.inl h)
 clear hS
 obtain ⟨n2,hn2⟩:∃ n2,n2=numN (tookR (textR r) 2) 0:=⟨_,rfl⟩
 rw[←hn2]at S
 have hn2l:n2 < 65536:=by rw[hn2];exact (took_num (textR r) 2 (by decide)).2
 refine deL S ?_;refine dqL S ?_;clear S;intro a S
 rw[w64 (n2:Int) (by omega) (by omega)]at S
 refine dqL S ?_;clear S;intro a S;refine dlL (sn S ?_);clear S;intro b13 a w S
 replace S:=S.boxRow b13 2 1 rfl (by decide)
 rw[show [str (textS r),.int .i64 (n2:Int)]=encL [(⟨textS r,n2⟩:LMark)] from rfl]at S
 refine deL S ?_;refine dlL ?_
 refine sap S (by simp[maxLen];omega) (by omega) ?_;clear S;rintro p7 c7 a w - S
 rw[←encL_append]at S
 refine deL S ?_;refine dqL S ?_;clear S;intro a S;refine dlL (sw S ?_);clear S;intro a w S;refine dzL ?_
 have hmk:=mark_ab r
 rw[←hn2]at hmk
 rw[show m.seeds.length+1=(m.seeds++[(⟨textS r,n2⟩:LMark)]).length from by simp]at S
 have S2:=St.dmClose (b:=b) (h:=h) (rd:=rd) (m:={ m with seeds:=m.seeds++[⟨textS r,n2⟩],sp:=p7,sc:=c7 }) (wr:=wr) (r:=takeR (textR r) 2) (bs:=[ext Mr]) (fs:=[AllI m.seen]) (S.sub _ _)
 obtain ⟨m1,hm1⟩:∃ m1:LMem,m1 = { m with seeds:=m.seeds++[⟨textS r,n2⟩],sp:=p7,sc:=c7 }:=⟨_,rfl⟩
 rw[←hm1]at S2
 have hh:=S2.it (dmI b h rd m1 wr (takeR (textR r) 2))
 have hnw:=S2.itNew (dmI b h rd m1 wr (takeR (textR r) 2)) rfl
 have hst:Stable (fun k=>(dmI b h rd m1 wr (takeR (textR r) 2)).foot k∨Mr k) _ (AllI m.seen):=(S2.wd.facts (AllI m.seen) (by simp)).less fun k _ hk=>hk.elim (fun h1=>⟨dmI b h rd m1 wr (takeR (textR r) 2),by simp,h1⟩) (fun h1=>⟨ext Mr,by simp,h1⟩)
 have e1:m1.seen=m.seen:=by rw[hm1]
 refine end0 S2 (fun _=>⟨rfl,m1,wr,takeR (textR r) 2,⟨rfl,by rw[hmk],by rw[hmk,hm1];rfl⟩,hs1.trans (SubR.take _ _),hh,hnw,by rw[e1];exact hst⟩)
theorem mdec2_c (b b4 h rd:Nat) (m:LMem) (wr:Bool) (r:RS) (Mr:Nat→Prop) (w0:World) (hc:r.bs.length≤r.c) (hl:r.bs.length≤10000000) (hk:m.vers.length≤1000) (hMr:∀ k,Mr k→k < w0.heap.size∧¬(dmI b h rd m wr r).foot k) (hd:(dmI b h rd m wr r).holds w0)
  (h4:Stable (fun k=>(dmI b h rd m wr r).foot k∨Mr k) w0 (BoxF b4 207 [.pointer (some ⟨h,0,none⟩)])) (hx:Stable (fun k=>(dmI b h rd m wr r).foot k∨Mr k) w0 (GlF r.p r.bs)) (hs:Stable (fun k=>(dmI b h rd m wr r).foot k∨Mr k) w0 (AllI m.seen)) :
  Ret Tryz.prog 140 [.pointer (some ⟨b,0,none⟩),.pointer (some ⟨b4,0,none⟩)] w0 (dmI b h rd m wr r).foot fun v w'=>DmR Mr b h rd m wr r (fun m' wr' r'=>wr'=wr∧r'.ab=(markD r.ab).2∧m'.m = { m.m with vers:=m.vers++[(markD r.ab).1] }) v w0 w':=by
 refine enter Tryz.func140 rfl rfl ((Wd.itLentM (x:=dmI b h rd m wr r) (Mr:=Mr) (fs:=[BoxF b4 207 [.pointer (some ⟨h,0,none⟩)],GlF r.p r.bs,AllI m.seen]) hd hMr (by simp;exact ⟨h4,hx,hs⟩))) (fun a S=>?_)
 simp only[Tryz.ntmps140,qqA,qqB,Nat.reduceAdd,Nat.reduceSub,qqC,qqD,qqE,qqF]at S
 replace S:=St.dmOpen S
 refine c_drawL 14 [(0,true),(1,true),(2,true),(4,true),(5,true),(6,true),(7,true),(3,false),(8,false),(9,true),(10,true),(11,false),(12,false),(13,true),(14,false)] [mrX h rd wr,mmX b m] S ?_;clear S;intro w S;(iterate 7 (refine dqL S ?_;clear S;intro a S));refine dlL ?_
 replace S:=((S.front (rdI rd r)).front (mrX h rd wr)).toBoth
 refine sit (mrI h rd wr r) S (mtext_c h rd wr r _ hc hl (S.it (mrI h rd wr r)) (S.lend (mrI h rd wr r) (S.mem.fact (GlF r.p r.bs)))) rfl ?_;clear S;rintro _ a w ⟨rfl,hh⟩ hS
 have S:=hS (mrI h rd wr (textR r)) hh (fun k h=>.inl h)
 clear hS
 replace S:=S.ofBoth
 have hs1:=textR_sub r
 have hc1:=hs1.cap hc
 have hl1:=hs1.len
 replace S:=S.add (Φ:=GlF (textR r).p (textR r).bs) ((S.mem.fact (GlF r.p r.bs)).imp fun _ h=>hs1.gl hc _ h)
 refine deL S ?_;refine dlL ?_
 refine sit (rdI rd (textR r)) S (u16R_c rd (textR r) _ hc1 (by omega) (S.it (rdI rd (textR r))) (S.lend (rdI rd (textR r)) (S.mem.fact (GlF (textR r).p (textR r).bs)))) rfl ?_;clear S;rintro _ a w ⟨rfl,hh⟩ hS
 have S:=hS (rdI rd (takeR (textR r) 2)) hh (fun k h=>.inl h)
 clear hS
 obtain ⟨n2,hn2⟩:∃ n2,n2=numN (tookR (textR r) 2) 0:=⟨_,rfl⟩
 rw[←hn2]at S
 have hn2l:n2 < 65536:=by rw[hn2];exact (took_num (textR r) 2 (by decide)).2
 refine deL S ?_;refine dqL S ?_;clear S;intro a S
 rw[w64 (n2:Int) (by omega) (by omega)]at S
 refine dqL S ?_;clear S;intro a S;refine dlL (sn S ?_);clear S;intro b13 a w S
 replace S:=S.boxRow b13 2 1 rfl (by decide)
 rw[show [str (textS r),.int .i64 (n2:Int)]=encL [(⟨textS r,n2⟩:LMark)] from rfl]at S
 refine deL S ?_;refine dlL ?_
 refine sap S (by simp[maxLen];omega) (by omega) ?_;clear S;rintro p7 c7 a w - S
 rw[←encL_append]at S
 refine deL S ?_;refine dqL S ?_;clear S;intro a S;refine dlL (sw S ?_);clear S;intro a w S;refine dzL ?_
 have hmk:=mark_ab r
 rw[←hn2]at hmk
 rw[show m.vers.length+1=(m.vers++[(⟨textS r,n2⟩:LMark)]).length from by simp]at S
 have S2:=St.dmClose (b:=b) (h:=h) (rd:=rd) (m:={ m with vers:=m.vers++[⟨textS r,n2⟩],vp:=p7,vc:=c7 }) (wr:=wr) (r:=takeR (textR r) 2) (bs:=[ext Mr]) (fs:=[AllI m.seen]) (S.sub _ _)
 obtain ⟨m1,hm1⟩:∃ m1:LMem,m1 = { m with vers:=m.vers++[⟨textS r,n2⟩],vp:=p7,vc:=c7 }:=⟨_,rfl⟩
 rw[←hm1]at S2
 have hh:=S2.it (dmI b h rd m1 wr (takeR (textR r) 2))
 have hnw:=S2.itNew (dmI b h rd m1 wr (takeR (textR r) 2)) rfl
 have hst:Stable (fun k=>(dmI b h rd m1 wr (takeR (textR r) 2)).foot k∨Mr k) _ (AllI m.seen):=(S2.wd.facts (AllI m.seen) (by simp)).less fun k _ hk=>hk.elim (fun h1=>⟨dmI b h rd m1 wr (takeR (textR r) 2),by simp,h1⟩) (fun h1=>⟨ext Mr,by simp,h1⟩)
 have e1:m1.seen=m.seen:=by rw[hm1]
 refine end0 S2 (fun _=>⟨rfl,m1,wr,takeR (textR r) 2,⟨rfl,by rw[hmk],by rw[hmk,hm1];rfl⟩,hs1.trans (SubR.take _ _),hh,hnw,by rw[e1];exact hst⟩)
set_option maxHeartbeats 2000000 in
theorem mdec3_c (b b4 h rd:Nat) (m:LMem) (wr:Bool) (r:RS) (Mr:Nat→Prop) (w0:World) (hc:r.bs.length≤r.c) (hl:r.bs.length≤10000000) (hk:m.seen.length≤1000) (hMr:∀ k,Mr k→k < w0.heap.size∧¬(dmI b h rd m wr r).foot k) (hd:(dmI b h rd m wr r).holds w0)
  (h4:Stable (fun k=>(dmI b h rd m wr r).foot k∨Mr k) w0 (BoxF b4 207 [.pointer (some ⟨h,0,none⟩)])) (hx:Stable (fun k=>(dmI b h rd m wr r).foot k∨Mr k) w0 (GlF r.p r.bs)) (hs:Stable (fun k=>(dmI b h rd m wr r).foot k∨Mr k) w0 (AllI m.seen)) :
  Ret Tryz.prog 141 [.pointer (some ⟨b,0,none⟩),.pointer (some ⟨b4,0,none⟩)] w0 (dmI b h rd m wr r).foot fun v w'=>DmR Mr b h rd m wr r (fun m' wr' r'=>wr'=(wr||!(seenD r.ab).2.1)∧r'.ab=(seenD r.ab).2.2∧m'.m = { m.m with seen:=ssP m.seen++[(seenD r.ab).1] }) v w0 w':=by
 have hs1:=SubR.take r 1
 have hc1:=hs1.cap hc
 have hl1:=hs1.len
 have hs2:=SubR.take (takeR r 1) 2
 have hc2:=hs2.cap hc1
 have hl2:=hs2.len
 have hrs:=rootR_sub (takeR (takeR r 1) 2)
 obtain ⟨eab1,eab2⟩:=tk_ab r 1
 obtain ⟨eab3,eab4⟩:=tk_ab (takeR r 1) 2
 have hrab:=root_ab (takeR (takeR r 1) 2)
 obtain ⟨n1,hn1⟩:∃ n1,n1=numN (tookR r 1) 0:=⟨_,rfl⟩
 obtain ⟨n2,hn2⟩:∃ n2,n2=numN (tookR (takeR r 1) 2) 0:=⟨_,rfl⟩
 obtain ⟨r2,hr2⟩:∃ r2,r2=takeR (takeR r 1) 2:=⟨_,rfl⟩
 have hn1l:n1 < 256:=by rw[hn1];exact (took_num r 1 (by decide)).2
 have hn2l:n2 < 65536:=by rw[hn2];exact (took_num (takeR r 1) 2 (by decide)).2
 have hsd:seenD r.ab=(⟨(n1:Nat),(n2:Nat),(rootX r2.ab).1⟩,(rootX r2.ab).2.1,(rootX r2.ab).2.2):=by
  rw[seenD,←eab1,←eab2,←eab3,←eab4,←hn1,←hn2,←hr2]
 have hrr:(rootX r2.ab).2.2=(rootR r2).ab:=by
  rw[root_ab r2];split <;> rfl
 rw[←hr2]at hs2 hc2 hl2 hrs
 refine enter Tryz.func141 rfl rfl ((Wd.itLentM (x:=dmI b h rd m wr r) (Mr:=Mr) (fs:=[BoxF b4 207 [.pointer (some ⟨h,0,none⟩)],GlF r.p r.bs,AllI m.seen]) hd hMr (by simp;exact ⟨h4,hx,hs⟩))) (fun a S=>?_)
 simp only[Tryz.ntmps141,qqA,qqB,Nat.reduceAdd,Nat.reduceSub,qqC,qqD,qqE,qqF]at S
 replace S:=St.dmOpen S
 refine c_drawV [(0,0),(0,0),(0,2),(0,2),(0,3),(0,4),(0,5),(0,6),(0,8),(0,8),(0,9),(0,10),(0,6),(0,12),(0,14),(1,12),(0,15),(1,16),(1,17),(0,18),(2,18)] [(0,1),(1,1),(2,0),(3,0),(4,0),(5,0),(8,1),(9,1),(10,1),(11,0),(14,0),(6,3),(7,1),(12,3),(13,1),(15,3),(16,1),(17,3),(18,3),(19,1),(20,3)] ([mrX h rd wr,mmX b m]) ([mmX b m]) ([]) S ?_;clear S;intro w S;(iterate 2 (refine dqV1 S ?_;clear S;intro a S));(iterate 4 (refine dqV0 S ?_;clear S;intro a S));(iterate 3 (refine dqV1 S ?_;clear S;intro a S));(iterate 2 (refine dqV0 S ?_;clear S;intro a S));refine dlV ?_
 refine sit (rdI rd r) S (u8R_c rd r _ hc hl (S.it (rdI rd r)) (S.lend (rdI rd r) (S.mem.fact (GlF r.p r.bs)))) rfl ?_;clear S;rintro _ a w ⟨rfl,hh⟩ hS
 have S:=hS (rdI rd (takeR r 1)) hh (fun k h=>.inl h)
 clear hS
 rw[←hn1]at S
 replace S:=S.add (Φ:=GlF (takeR r 1).p (takeR r 1).bs) (takeR_gl hc (S.mem.fact (GlF r.p r.bs)))
 refine deV0 S ?_;refine dqV1 S ?_;clear S;intro a S
 rw[w64 (n1:Int) (by omega) (by omega)]at S
 refine dlV ?_
 refine sit (rdI rd (takeR r 1)) S (u16R_c rd (takeR r 1) _ hc1 (by omega) (S.it (rdI rd (takeR r 1))) (S.lend (rdI rd (takeR r 1)) (S.mem.fact (GlF (takeR r 1).p (takeR r 1).bs)))) rfl ?_;clear S;rintro _ a w ⟨rfl,hh⟩ hS
 have S:=hS (rdI rd (takeR (takeR r 1) 2)) hh (fun k h=>.inl h)
 clear hS
 rw[←hn2]at S
 replace S:=S.add (Φ:=GlF (takeR (takeR r 1) 2).p (takeR (takeR r 1) 2).bs) (takeR_gl hc1 (S.mem.fact (GlF (takeR r 1).p (takeR r 1).bs)))
 rw[←hr2]at S
 refine deV0 S ?_;refine dqV1 S ?_;clear S;intro a S
 rw[w64 (n2:Int) (by omega) (by omega)]at S
 refine dlV ?_
 replace S:=((S.front (rdI rd r2)).front (mrX h rd wr)).toBoth
 refine sitM (mrI h rd wr r2) S (mroot_c h rd wr r2 (restOf _ (mrI h rd wr r2)) w hc2 (by omega) (S.restOk _) (S.it (mrI h rd wr r2)) ((S.mem.fact (GlF r2.p r2.bs)).split (mrI h rd wr r2))) rfl ?_;clear S;rintro _ a w ⟨z,rfl,hz,hh,hzf⟩ hS
 have S:=hS (mrI h rd (wr||!(rootX r2.ab).2.1) (rootR r2)) [LtF z] hh (fun k h=>.inl h) (by intro Φ hΦ;obtain rfl:=List.mem_singleton.1 hΦ;exact hzf)
 clear hS
 replace S:=S.ofBoth
 refine deV1 S ?_;refine dqV1 S ?_;clear S;intro a S;refine dlV (sn S ?_);clear S;intro b19 a w S
 replace S:=S.boxRow b19 7 1 rfl (by decide)
 rw[show [.int .i64 (n1:Int),.int .i64 (n2:Int),.int .i64 z.kind,.int .i64 z.user,.int .i64 z.num,str z.text,.slice z.p z.kids.length z.cap]=encL [(⟨n1,n2,z⟩:LSeen)] from rfl]at S
 refine deV1 S ?_;refine dlV ?_
 refine sap S (by simp[maxLen];omega) (by omega) ?_;clear S;rintro p7 c7 a w - S
 rw[←encL_append]at S
 refine deV1 S ?_;refine dqV1 S ?_;clear S;intro a S;refine dlV (sw S ?_);clear S;intro a w S;refine deV2 S ?_;refine dnV ?_
 rw[show m.seen.length+1=(m.seen++[(⟨n1,n2,z⟩:LSeen)]).length from by simp]at S
 have S2:=St.dmClose (b:=b) (h:=h) (rd:=rd) (m:={ m with seen:=m.seen++[⟨n1,n2,z⟩],ep:=p7,ec:=c7 }) (wr:=(wr||!(rootX r2.ab).2.1)) (r:=rootR r2) (bs:=[ext Mr]) (fs:=[LtF z,AllI m.seen]) (S.sub _ _)
 obtain ⟨m1,hm1⟩:∃ m1:LMem,m1 = { m with seen:=m.seen++[⟨n1,n2,z⟩],ep:=p7,ec:=c7 }:=⟨_,rfl⟩
 rw[←hm1]at S2
 have hh:=S2.it (dmI b h rd m1 (wr||!(rootX r2.ab).2.1) (rootR r2))
 have hnw:=S2.itNew (dmI b h rd m1 (wr||!(rootX r2.ab).2.1) (rootR r2)) rfl
 have hall:Stable _ _ (AllI (m.seen++[(⟨n1,n2,z⟩:LSeen)])):=AllI.snoc (r:=(⟨n1,n2,z⟩:LSeen)) (S2.wd.facts (AllI m.seen) (by simp)) (S2.wd.facts (LtF z) (by simp))
 have hst:Stable (fun k=>(dmI b h rd m1 (wr||!(rootX r2.ab).2.1) (rootR r2)).foot k∨Mr k) _ (AllI (m.seen++[(⟨n1,n2,z⟩:LSeen)])):=hall.less fun k _ hk=>hk.elim (fun h1=>⟨dmI b h rd m1 (wr||!(rootX r2.ab).2.1) (rootR r2),by simp,h1⟩) (fun h1=>⟨ext Mr,by simp,h1⟩)
 have e1:m1.seen=m.seen++[⟨n1,n2,z⟩]:=by rw[hm1]
 refine end0 S2 (fun _=>⟨rfl,m1,(wr||!(rootX r2.ab).2.1),rootR r2,⟨by rw[hsd],by rw[hsd];exact hrr.symm,?_⟩,(hs1.trans hs2).trans hrs,hh,hnw,by rw[e1];exact hst⟩)
 have e2:ssP (m.seen++[(⟨n1,n2,z⟩:LSeen)])=ssP m.seen++[⟨n1,n2,(rootX r2.ab).1⟩]:=by rw[ssP,ssP,List.map_append,←hz];rfl
 rw[hsd,hm1]
 exact congrArg (fun x=>PMem.mk m.user m.leaf m.counter m.num m.seeds m.vers x) e2
abbrev ptrV (b:Nat):Value:=.pointer (some ⟨b,0,none⟩)
def DmE (Mr:Nat→Prop) (b h rd:Nat) (m:LMem) (wr:Bool) (r:RS) (Q:LMem→Bool→RS→Prop) (v:Value) (w0 w:World):Prop:=v=.tuple #[]∧∃ m' wr' r',Q m' wr' r'∧SubR r r'∧(dmI b h rd m' wr' r').holds w∧(∀ k,(dmI b h rd m' wr' r').foot k→(dmI b h rd m wr r).foot k∨w0.heap.size≤k)∧Stable (fun k=>(dmI b h rd m' wr' r').foot k∨Mr k) w (AllI m'.seen)
set_option maxHeartbeats 2000000 in
theorem meach_c (gf:Nat) [EntF Tryz.prog gf] (b b4 h rd:Nat) (R:Nat→LMem→Bool→RS→Prop) (stp:LMem→Bool→RS→LMem→Bool→RS→Prop)
  (hstp:∀ k m wr r m' wr' r',R (k+1) m wr r→r.why=0→stp m wr r m' wr' r'→R k m' wr' r')
  (hcall:∀ k m wr r (Mr:Nat→Prop) (w0:World),R (k+1) m wr r→r.bs.length≤r.c→r.bs.length≤10000000→(∀ k,Mr k→k < w0.heap.size∧¬(dmI b h rd m wr r).foot k)→(dmI b h rd m wr r).holds w0→Stable (fun k=>(dmI b h rd m wr r).foot k∨Mr k) w0 (BoxF b4 207 [.pointer (some ⟨h,0,none⟩)])→Stable (fun k=>(dmI b h rd m wr r).foot k∨Mr k) w0 (GlF r.p r.bs)→Stable (fun k=>(dmI b h rd m wr r).foot k∨Mr k) w0 (AllI m.seen)→
   Ret Tryz.prog gf [ptrV b,ptrV b4] w0 (dmI b h rd m wr r).foot fun v w'=>DmR Mr b h rd m wr r (stp m wr r) v w0 w')
  (m:LMem) (wr:Bool) (r:RS) (Mr:Nat→Prop) (w0:World) (hR:R (numN (tookR r 1) 0) m wr (takeR r 1)) (hc:r.bs.length≤r.c) (hl:r.bs.length≤10000000) (hMr:∀ k,Mr k→k < w0.heap.size∧¬(dmI b h rd m wr r).foot k) (hd:(dmI b h rd m wr r).holds w0)
  (h4:Stable (fun k=>(dmI b h rd m wr r).foot k∨Mr k) w0 (BoxF b4 207 [.pointer (some ⟨h,0,none⟩)])) (hx:Stable (fun k=>(dmI b h rd m wr r).foot k∨Mr k) w0 (GlF r.p r.bs)) (hs:Stable (fun k=>(dmI b h rd m wr r).foot k∨Mr k) w0 (AllI m.seen)) :
  Ret Tryz.prog 137 [.pointer (some ⟨h,0,none⟩),.func (.func gf) #[] ⟨[ptrV b,ptrV b4]⟩] w0 (dmI b h rd m wr r).foot fun v w'=>DmE Mr b h rd m wr r (fun m' wr' r'=>∃ k,R k m' wr' r'∧(k=0∨r'.why≠0)) v w0 w':=by
 refine enter Tryz.func137 rfl rfl ((Wd.itLentM (x:=dmI b h rd m wr r) (Mr:=Mr) (fs:=[GlF r.p r.bs,AllI m.seen,BoxF b4 207 [.pointer (some ⟨h,0,none⟩)]]) hd hMr (by simp;exact ⟨hx,hs,h4⟩))) (fun a S=>?_)
 simp only[Tryz.ntmps137,qqA,qqB,Nat.reduceAdd,Nat.reduceSub,qqC,qqD,qqE,qqF]at S
 refine kS ?_
 replace S:=St.dmOpen S
 obtain ⟨n,hn⟩:∃ n,n=numN (tookR r 1) 0:=⟨_,rfl⟩
 rw[←hn]at hR
 refine kR ?_;(iterate 4 (refine sq S ?_;clear S;intro a S))
 refine sit (rdI rd r) S (u8R_c rd r _ hc hl (S.it (rdI rd r)) (S.lend (rdI rd r) (S.mem.fact (GlF r.p r.bs)))) rfl ?_;clear S;rintro _ a w ⟨rfl,hh⟩ hS
 have S:=hS (rdI rd (takeR r 1)) hh (fun k h=>.inl h)
 clear hS
 rw[←hn]at S
 have hnl:n < 256:=by rw[hn];exact (took_num r 1 (by decide)).2
 replace S:=S.add (Φ:=GlF (takeR r 1).p (takeR r 1).bs) (takeR_gl hc (S.mem.fact (GlF r.p r.bs)))
 have hs1:=SubR.take r 1
 replace S:=(((((S.front (mmX b m)).front (rwS m)).front (rwV m)).front (rwE m)).front (rdI rd (takeR r 1))).front (mrX h rd wr)
 replace S:=St.dmClose S
 refine sq S ?_;clear S;intro a S;refine kN (xtn (kB ?_))
 refine c_fore4 S (fun(k:Nat) (m1:LMem) (wr1:Bool) (r1:RS) uu=>[(4,.int .u8 (k:Nat)),(5,uu 10),(0,uu 11),(0,uu 12),(0,uu 13),(0,uu 14),(0,uu 15),(0,uu 16),(0,uu 17),(0,uu 18),(0,uu 19),(0,uu 20),(0,uu 21),(0,uu 22),(0,uu 23)]) (fun(k:Nat) (m1:LMem) (wr1:Bool) (r1:RS)=>[dmI b h rd m1 wr1 r1,ext Mr]) (fun(k:Nat) (m1:LMem) (wr1:Bool) (r1:RS)=>[GlF r1.p r1.bs,AllI m1.seen,BoxF b4 207 [.pointer (some ⟨h,0,none⟩)]]) (fun(k:Nat) (m1:LMem) (wr1:Bool) (r1:RS)=>R k m1 wr1 r1∧SubR r r1∧k < 256) (fun(k:Nat) (m1:LMem) (wr1:Bool) (r1:RS)=>k) (n) (m) (wr) (takeR r 1) ?_ S.uu ?_ ?_
 exact ⟨hR,hs1,hnl⟩
 first | exact S | exact S.sub _ _
 clear S;rintro k m1 wr1 r1 uu a w ⟨hRk,hsub,hk⟩ S
 refine kS (kS ?_)
 have hc1:=hsub.cap hc
 have hl1:=hsub.len
 refine kR ?_;(iterate 3 (refine sq S ?_;clear S;intro a S))
 refine gS S (fun hs1g S=>?_) (fun hs1g S=>?_)
 refine gT S ?_;refine sq S ?_;clear S;intro a S
 replace S:=St.dmOpen S
 refine gT S ?_;refine sq S ?_;clear S;intro a S;refine gT S ?_;refine sq S ?_;clear S;intro a S;refine gT S ?_;refine sq S ?_;clear S;intro a S;refine gT S ?_
 refine sr S (errR_c rd r1 _ (BoxF.stable (S.box rd) (fun h=>h))) ?_;clear S;rintro _ a w rfl S
 replace S:=(((((S.front (mmX b m1)).front (rwS m1)).front (rwV m1)).front (rwE m1)).front (rdI rd r1)).front (mrX h rd wr1)
 replace S:=St.dmClose S
 refine gT S ?_;(iterate 2 (refine sq S ?_;clear S;intro a S));refine kN (xtn ?_)
 refine kC S (fun h1=>?_) (fun h1=>?_)
 refine kK (xtn (kS (kB ?_)))
 obtain ⟨k',rfl⟩:∃ k',k=k'+1:=⟨k - 1,by have:=of_decide_eq_true hs1g;omega⟩
 refine kR (sq S ?_);clear S;intro a S
 refine sitM (dmI b h rd m1 wr1 r1) S (hcall k' m1 wr1 r1 (restOf _ (dmI b h rd m1 wr1 r1)) _ hRk hc1 (by omega) (S.restOk _) (S.it (dmI b h rd m1 wr1 r1)) ((S.mem.fact (BoxF b4 207 [.pointer (some ⟨h,0,none⟩)])).split (dmI b h rd m1 wr1 r1)) ((S.mem.fact (GlF r1.p r1.bs)).split (dmI b h rd m1 wr1 r1)) ((S.mem.fact (AllI m1.seen)).split (dmI b h rd m1 wr1 r1))) rfl ?_;clear S;rintro _ a w ⟨rfl,m2,wr2,r2,hq,hsb,hh,hf,hall⟩ hS
 have S:=hS (dmI b h rd m2 wr2 r2) [AllI m2.seen] hh hf (by intro Φ hΦ;obtain rfl:=List.mem_singleton.1 hΦ;exact hall)
 clear hS
 refine kN (xbn (xtn (kR ?_)));(iterate 2 (refine sq S ?_;clear S;intro a S))
 rw[show IntKind.u8.wrap (((k'+1:Nat):Int) - 1)=(k':Nat) from by
  rw[show (((k'+1:Nat):Int) - 1)=(k':Nat) from by omega]
  unfold IntKind.wrap
  simp only[IntKind.bits,IntKind.signed,Bool.false_and]
  simp;omega]at S
 refine sq S ?_;clear S;intro a S;refine kN (xtn ?_)
 replace S:=S.add (Φ:=GlF r2.p r2.bs) ((S.mem.fact (GlF r1.p r1.bs)).imp fun _ h=>hsb.gl hc1 _ h)
 refine ⟨k',m2,wr2,r2,S.uu,⟨hstp _ _ _ _ _ _ _ hRk (of_decide_eq_true h1) hq,hsub.trans hsb,by omega⟩,S.sub _ _,by omega⟩
 refine kE (xte (xte (xbe ?_)))
 have hh:=S.it (dmI b h rd m1 wr1 r1)
 have hnw:=S.itNew (dmI b h rd m1 wr1 r1) rfl
 have hst:Stable (fun k=>(dmI b h rd m1 wr1 r1).foot k∨Mr k) _ (AllI m1.seen):=(S.wd.facts (AllI m1.seen) (by simp)).less fun k _ hk=>hk.elim (fun h1=>⟨dmI b h rd m1 wr1 r1,by simp,h1⟩) (fun h1=>⟨ext Mr,by simp,h1⟩)
 exact end0 S (fun _=>⟨rfl,m1,wr1,r1,⟨k,hRk,.inr (of_decide_eq_false h1)⟩,hsub,hh,hnw,hst⟩)
 refine gF S ?_;clear S;intro a S;(iterate 5 (refine gF S ?_;clear S;intro a S));refine sq S ?_;clear S;intro a S;refine kN (xtn ?_);refine c_condF S ?_;refine kE (xte (xte (xbe ?_)))
 have hh:=S.it (dmI b h rd m1 wr1 r1)
 have hnw:=S.itNew (dmI b h rd m1 wr1 r1) rfl
 have hst:Stable (fun k=>(dmI b h rd m1 wr1 r1).foot k∨Mr k) _ (AllI m1.seen):=(S.wd.facts (AllI m1.seen) (by simp)).less fun k _ hk=>hk.elim (fun h1=>⟨dmI b h rd m1 wr1 r1,by simp,h1⟩) (fun h1=>⟨ext Mr,by simp,h1⟩)
 exact end0 S (fun _=>⟨rfl,m1,wr1,r1,⟨k,hRk,.inl (by have:=of_decide_eq_false hs1g;omega)⟩,hsub,hh,hnw,hst⟩)
mutual
def smallT:Term→Int→Term
 | .mk k u n s ks,d=>.mk k u n (s.take (min s.length 65)) (smallL ks 0 d)
def smallL:List Term→Nat→Int→List Term
 | [],_,_=>[]
 | t::ts,i,d=>if i < 3∧0 < d then smallT t (d - 1)::smallL ts (i+1) d else smallL ts (i+1) d
end
theorem small_c (N:Nat):∀ (t:LTerm) (d:Int) (M:Nat→Prop) (w0:World),SizeOf.sizeOf t < N→-1000≤d→d≤1000→(∀ k,M k→k < w0.heap.size)→Stable M w0 (LtF t)→
  Ret Tryz.prog 105 [vL t,.int .i64 d] w0 (fun _=>False) fun v w'=>IsT M w' v (smallT t.t d):=by
 induction N with
 | zero=>intro t _ _ _ h;exact absurd h (Nat.not_lt_zero _)
 | succ N ih=>
 intro t d M w0 hN hd1 hd2 hM hf
 have hlen:=LTerm.len_le hf
 have hL:LeC (min t.text.length 65) t.text.length:=⟨Nat.min_le_left _ _⟩
 refine enter Tryz.func105 rfl rfl (Wd.beginM (M:=M) (fs:=[LtF t]) hM (by simpa using hf)) (fun a S=>?_)
 simp only[Tryz.ntmps105,qqA,qqB,Nat.reduceAdd,Nat.reduceSub,qqC,qqD,qqE,qqF]at S
 refine kS (kR ?_);refine sa S ?_;clear S;intro b2 a w S;refine sa S ?_;clear S;intro b4 a w S;refine kN (xtn (kS (kR ?_)));(iterate 8 (refine sq S ?_;clear S;intro a S));refine sw S ?_;clear S;intro a w S;refine kN (xtn (kS (kR (sq S ?_))));clear S;intro a S;refine kN (xtn (kS (kS (kR ?_))));(iterate 4 (refine sq S ?_;clear S;intro a S));refine kN ?_;refine xtn (kB ?_)
 refine c_fore4 S (fun(k:Nat) (zs:List LTerm) (p5:Option Addr) (c5:Nat) uu=>[(5,.slice p5 zs.length c5),(0,uu 6),(0,uu 7),(11,.int .i64 (k:Nat)),(0,uu 20),(0,uu 21),(0,uu 22),(0,uu 23),(0,uu 24),(0,uu 25),(0,uu 26),(0,uu 27),(0,uu 28),(0,uu 29),(0,uu 30),(0,uu 31),(0,uu 32),(0,uu 33),(0,uu 34),(0,uu 35),(0,uu 36),(0,uu 37)]) (fun(k:Nat) (zs:List LTerm) (p5:Option Addr) (c5:Nat)=>[Wk.row 43 5 p5 zs.length c5 (encL zs),Wk.box b4 43 [.int .i64 0,.int .i64 0,.int .i64 0,.string ⟨#[]⟩,.slice none 0 0],Wk.box b2 43 [.int .i64 t.kind,.int .i64 t.user,.int .i64 t.num,str (t.text.take (min t.text.length 65)),.slice t.p t.kids.length t.cap],ext M]) (fun(k:Nat) (zs:List LTerm) (p5:Option Addr) (c5:Nat)=>[AllL zs,LtF t]) (fun(k:Nat) (zs:List LTerm) (p5:Option Addr) (c5:Nat)=>k≤t.kids.length∧zs.length≤3∧zs.length≤k∧zs.map LTerm.t++smallL ((t.kids.drop k).map LTerm.t) k d=smallL (t.kids.map LTerm.t) 0 d) (fun(k:Nat) (zs:List LTerm) (p5:Option Addr) (c5:Nat)=>t.kids.length - k) (0) ([]) (none) (0) ?_ S.uu ?_ ?_
 ·exact ⟨Nat.zero_le _,by simp,Nat.le_refl _,rfl⟩
 ·rw[List.drop_zero]at S
  replace S:=S.addNil 43 5
  replace S:=S.add (Φ:=AllL []) (fun _ _ _ hx=>by cases hx)
  rw[show Wk.row 43 5 none 0 0 []=Wk.row 43 5 none 0 0 (encL ([]:List LTerm)) from rfl]at S
  exact S.sub _ _
 ·clear S;rintro k zs p5 c5 uu a w ⟨hk,hz3,hzk,hrel⟩ S
  refine kS (kR (sq S ?_));clear S;intro a S;refine kN (xtn (kS ?_))
  refine kC S (fun h4=>?_) (fun h4=>?_)
  ·refine kK (xtn (kS (kB (kS ?_))))
   have hkl:k < t.kids.length:=by have:=of_decide_eq_true h4;omega
   have hK:KLt k t.kids.length:=⟨hkl⟩
   rw[nth_drop hkl,List.map_cons,smallL]at hrel
   refine kR ?_;(iterate 3 (refine sq S ?_;clear S;intro a S));refine sa S ?_;clear S;intro b7 a w S;refine sq S ?_;clear S;intro a S;refine sw S ?_;clear S;intro a w S;refine kN (xtn (kS (kR ?_)));(iterate 3 (refine sq S ?_;clear S;intro a S));(iterate 2 (refine gQ S ?_;clear S;intro a S));refine sq S ?_;clear S;intro a S;refine kN (xtn ?_)
   refine kC S (fun h6=>?_) (fun h6=>?_)
   ·refine kR ?_;(iterate 3 (refine sq S ?_;clear S;intro a S))
    have h6':(k:Int) < 3∧0 < d:=by simpa using h6
    refine sq S ?_;clear S;intro a S
    rw[w64 (d - 1) (by omega) (by omega)]at S
    refine sr S (ih (nthL t.kids k) (d - 1) _ w (by have:=LTerm.kid_lt (nth_mem hkl);omega) (by omega) (by omega) (foots_lt S) (kid_st (S.t t) (nth_mem hkl))) ?_;clear S;rintro _ a w ⟨z,rfl,hz,hzf⟩ S
    replace S:=S.add (Φ:=LtF z) hzf
    have hA1:Stable _ _ (AllL zs):=S.wd.facts (AllL zs) (by simp)
    have hA2:=S.t z
    replace S:=S.add (Φ:=AllL (zs++[z])) (fun w' hw' x hx=>by
     rcases List.mem_append.1 hx with h | h
     ·exact hA1 w' hw' x h
     ·rw[List.mem_singleton.1 h];exact hA2 w' hw')
    refine sn S ?_;clear S;intro b35 a w S
    refine sap S (by simp[maxLen];omega) (by omega) ?_;clear S;rintro p7 c7 a w - S
    rw[show encL zs++[Value.int .i64 z.kind,.int .i64 z.user,.int .i64 z.num,str z.text,.slice z.p z.kids.length z.cap]=encL (zs++[z]) from by rw[encL_append];rfl,show zs.length+1=(zs++[z]).length from by simp]at S
    refine sq S ?_;clear S;intro a S;refine kN (xbn (xtn (kR ?_)));(iterate 2 (refine sq S ?_;clear S;intro a S));refine kN (xtn ?_)
    rw[if_pos (show k < 3∧0 < d by omega)]at hrel
    rw[w64 ((k:Int)+1) (by omega) (by omega)]at S
    refine ⟨k+1,zs++[z],p7,c7,S.uu,⟨hkl,by simp;omega,by simp;omega,?_⟩,S.sub _ _,by omega⟩
    rw[List.map_append,List.append_assoc,←hrel]
    show _++(z.t::_)=_
    rw[hz];rfl
   ·refine kK (xbn (xtn (kR ?_)));(iterate 2 (refine sq S ?_;clear S;intro a S));refine kN (xtn ?_)
    have h6':¬(k < 3∧0 < d):=fun h=>by
     have:(decide ((k:Int) < 3)&&decide (0 < d))=true:=by rw[decide_eq_true (show (k:Int) < 3 by omega),decide_eq_true h.2];rfl
     rw[this]at h6;cases h6
    rw[if_neg h6']at hrel
    rw[w64 ((k:Int)+1) (by omega) (by omega)]at S
    exact ⟨k+1,zs,p5,c5,S.uu,⟨hkl,hz3,by omega,hrel⟩,S.sub _ _,by omega⟩
  ·refine kE (xte (xte (xbe (xtn (kS (kR ?_))))));(iterate 2 (refine sq S ?_;clear S;intro a S));refine sw S ?_;clear S;intro a w S;refine kN (xtn (kS (kR (sq S ?_))));clear S;intro a S;refine sw S ?_;clear S;intro a w S;refine kN (xtn (kT ?_))
   have hk2:t.kids.length≤k:=by have:=of_decide_eq_false h4;omega
   rw[List.drop_of_length_le hk2,List.map_nil,smallL,List.append_nil]at hrel
   have hrow:=S.row p5 zs.length
   have hall:Stable _ _ (AllL zs):=S.wd.facts (AllL zs) (by simp)
   have hap:∀ ad,p5=some ad→¬M ad.block:=fun ad had hm=>St.apart2 S (Wk.row 43 5 p5 zs.length c5 (encL zs)) (ext M) ad.block ⟨ad,had,rfl⟩ hm
   have hkids:Stable M _ (AllL zs):=hall.less fun k _ hm=>⟨ext M,by simp,hm⟩
   have hls:=ls_of_own hrow (fun x hx=>AllL.get hkids hx) hap
   refine end1 S (fun _=>⟨.mk t.kind t.user t.num (t.text.take (min t.text.length 65)) p5 c5 zs,rfl,?_,fun w' hw'=>?_⟩)
   ·rw[t.t_eq,smallT,←hrel];exact LTerm.t_eq _
   ·exact LtIn.iff.2 ⟨own_le hrow,own_capT hrow,hls w' hw'⟩
end Go.Proofs.YtdakncgafdnjfaaGreat