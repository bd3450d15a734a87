/- 4: a part of this claim's texts, joined: CapC CapD CapE CapF TermH MetaA TreeA TreeB PlainTree TreeC TreeD TreeE TreeF LaidA PlainTreeB TreeG TreeH FreshS LaidB TreeI W7 DataA DataB MetaB MetaC. -/
import Derived.Test.YtibkkbknnfehlaaGreatDoorPd3
import Derived.LaidLaws
import Derived.LaidHandle
import Derived.Stop.LaidErr
import Derived.Deep.DeepLaidRun
import Derived.Lib.ItoaLen
import Derived.Laws.StructEq
import Derived.Lib.LaidTab
import Derived.SizedLaws
import Derived.ChangeVars
import Derived.JoinedOf
import Derived.JoinedAt
import Derived.RecoverIn
import Derived.OpenShut
namespace Go.Proofs.YtibkkbknnfehlaaGreatDoor
open Go Go.Wk
set_option synthInstance.maxSize 100000
set_option synthInstance.maxHeartbeats 400000
set_option maxRecDepth 100000
def keyT (keys:List LKey)(g:Int):Term:=(findG (fun k=>decide (k.group=g)) keys).1.key.t
def uBox (s:Term)(n:Int):Term:=rowT (rowS [117] n) (sealT n s)
def gBox (s:Term)(kt:Int→Term)(g:Int):Term:=rowT (rowS [103] g) (lockT (kt g) s)
def boxesT (us gs:List Int)(s:Term)(kt:Int→Term):List Term:=us.map (uBox s)++gs.map (gBox s kt)
def MakeR (M:Nat→Prop)(p:LPerm)(s:Term)(keys:List LKey)(v:Value)(w:World):Prop:=
 (permB p=false∧v=.tuple ⟨[vL zeroL,.int .i64 210]⟩)∨(permB p=true∧∃ (us:List Int) (r:LTerm),us.Perm (p.owner::p.rd.xs)∧us.Pairwise (· < ·)∧v=.tuple ⟨[vL r,.int .i64 0]⟩∧r.t=listT (boxesT us p.gr.xs s (keyT keys))∧Good r.t∧Stable M w (LtF r))
def SmallT (t:Term):Prop:=Good t∧cnt t≤3∧dpt t≤3
theorem uBox_ok {s:Term}{n:Int}(hs:SmallT s)(hn:1≤n∧n≤6):Good (uBox s n)∧cnt (uBox s n)≤20∧dpt (uBox s n)≤20:=by
 obtain ⟨h1,h2,h3⟩:=hs;have e1:cnt (sealT n s)=1+cnt s:=by simp[sealT,cnt,cntL]
 have e2:dpt (sealT n s)=1+dpt s:=by simp[sealT,dpt,dptL]
 have e3:∀ x,cnt (textT x)=1:=fun x=>by simp[textT,cnt,cntL]
 have e4:∀ x,dpt (textT x)=1:=fun x=>by simp[textT,dpt,dptL]
 rw[uBox,rowT,cnt_pair,dpt_pair,e1,e2,e3,e4];exact ⟨good_pair (good_text (by simp[rowS])) (good_seal hn h1 (by omega) (by omega)) (by rw[e1,e3];omega) (by rw[e4];omega) (by rw[e2];omega),by omega,by omega⟩
theorem gBox_ok {s:Term}{kt:Int→Term}{g:Int}(hs:SmallT s)(hk:SmallT (kt g)):Good (gBox s kt g)∧cnt (gBox s kt g)≤20∧dpt (gBox s kt g)≤20:=by
 obtain ⟨h1,h2,h3⟩:=hs;obtain ⟨k1,k2,k3⟩:=hk;have e1:cnt (lockT (kt g) s)=1+(cnt (kt g)+cnt s):=by simp[lockT,cnt,cntL]
 have e2:dpt (lockT (kt g) s)=1+max (dpt (kt g)) (dpt s):=by simp[lockT,dpt,dptL]
 have e3:∀ x,cnt (textT x)=1:=fun x=>by simp[textT,cnt,cntL]
 have e4:∀ x,dpt (textT x)=1:=fun x=>by simp[textT,dpt,dptL]
 rw[gBox,rowT,cnt_pair,dpt_pair,e1,e2,e3,e4];exact ⟨good_pair (good_text (by simp[rowS])) (good_lock k1 h1 (by omega) (by omega) (by omega)) (by rw[e1,e3];omega) (by rw[e4];omega) (by rw[e2];omega),by omega,by omega⟩
theorem make_c (p:LPerm)(st:LTerm)(keys:List LKey)(kp:Option Addr)(kc:Nat)(M:Nat→Prop)(w0:World)(hM:∀ k,M k→k < w0.heap.size)(hp:Stable M w0 (InF p))(hst:Stable M w0 (LtF st))(hk:Stable M w0 (GlF kp keys))(hkl:keys.length≤1000)
  (hs:SmallT st.t) (hgk:∀ k∈keys,SmallT k.key.t) (hg:∀ g∈p.gr.xs,1≤g→g≤3→∃ k∈keys,k.group=g) :
  Ret Tryz.prog 17 [vPerm p,vL st,.slice kp keys.length kc] w0 (fun _=>False) (MakeR M p st.t keys):=by
 have hfind:∀ g∈p.gr.xs,1≤g→g≤3→∃ k∈keys,findG (fun k=>decide (k.group=g)) keys=(k,true):=fun g h1 h2 h3=>by
  obtain ⟨k,hk,hkg⟩:=hg g h1 h2 h3;unfold findG;cases h:keys.find? fun k=>decide (k.group=g) with
  | some x=>exact ⟨x,List.mem_of_find?_eq_some h,rfl⟩
  | none=>have:=List.find?_eq_none.1 h k hk;simp[hkg]at this
 have hany:(keys.any fun k=>!decide (checkF k.key.t=0))=false:=by
  rw[List.any_eq_false];intro k hk;simp[good_check.2 (hgk k hk).1]
 have hu1:LeC ([117]:List UInt8).length 1000:=⟨by decide⟩;have hg1:LeC ([103]:List UInt8).length 1000:=⟨by decide⟩;refine E1 Tryz.func17 rfl Tryz.ntmps17 (Wd.beginM (M:=M) (fs:=[InF p,LtF st,GlF kp keys]) hM (by simp;exact ⟨hp,hst,hk⟩)) ?_;intro a S;refine kS (kR ?_);refine sa S ?_;intro b3 a w S;refine sa S ?_;intro b4 a w S;refine sa S ?_;intro b6 a w S;refine Y17 ?_;intro a w S;refine kC S (fun h2=>?_) (fun h2=>?_)
 ·refine Y10 ?_;intro a w S
  have e:permB p=false:=by
   cases h:permB p with
   | false=>rfl
   | true=>simp[permF,h]at h2
  refine end2 S (fun _=>.inl ⟨e,?_⟩);rw[permF,e];rfl
 ·refine kK (xtn (kS (kS ?_)))
  have hP:permB p=true:=by
   cases h:permB p with
   | true=>rfl
   | false=>simp[permF,h]at h2
  have hO:=permOk hP;have hrl:(p.rd.xs.length:Int)≤max 0 (6 - 1+1):=rising_len hO.rd hO.rdU;have hgl:(p.gr.xs.length:Int)≤max 0 (3 - 1+1):=rising_len hO.gr hO.grU;refine Y3 ?_;intro a w S;rw[good_check.2 hs.1]at S;refine J1 ?_;intro a S;rw[show (!decide ((0:Int)=0))=false from rfl]at S;refine sq S ?_;intro a S;refine gT' S ?_;refine sq S ?_;intro a S;refine gT' S ?_;refine sr S (containsKey_c 47 [] (fun k=>!decide (checkF k.key.t=0)) keys kp keys.length kc _ rfl (by omega) (S.gl0 kp) fun x hx w' hw'=>make1_c x w' ?_) ?_
  ·exact ((S.gl0 kp (xs:=keys)).imp fun _ h=>h.2 x hx).later hw'
  clear S;rintro _ a w rfl S;rw[hany]at S;refine J8 ?_;intro a S;refine sa S ?_;intro b9 a w S;refine J12 ?_;intro a S;refine sn S ?_;intro b36 a w S;refine J2 ?_;intro a S;replace S:=S.boxRow b36 1 1 rfl (by simp[maxLen]);refine sap S (by simp[maxLen];omega) (by omega) ?_;rintro p8 c8 a w - S;rw[show [Value.int .i64 p.owner]++encL p.rd.xs=encL (p.owner::p.rd.xs) from rfl,show 1+p.rd.xs.length=(p.owner::p.rd.xs).length from by simp;omega]at S;refine J6 ?_;intro a S;refine sit (Wk.row 3 1 p8 (p.owner::p.rd.xs).length c8 (encL (p.owner::p.rd.xs))) S (sortI_c (p.owner::p.rd.xs) p8 c8 w (by simp) (by simp;omega) (S.row p8 _)) rfl ?_;rintro _ a w ⟨rfl,us,hperm,hsort,hown⟩ hS;have S:=hS (Wk.row 3 1 p8 (p.owner::p.rd.xs).length c8 (encL us)) hown (fun k hk=>.inl hk);clear hS;have hul:us.length=(p.owner::p.rd.xs).length:=hperm.length_eq;replace S:=S.rowToGl (e:=3) (sz:=1) (n:=(p.owner::p.rd.xs).length) (c:=c8) p8 us (fun _ _ _ _=>trivial);rw[←hul]at S;replace S:=S.boxToF b3;replace S:=S.boxToF b4;refine kN (xtn (kS (kS ?_)));have huU:∀ n∈us,1≤n∧n≤6:=fun n hn=>by
   rcases List.mem_cons.1 (hperm.mem_iff.1 hn) with rfl | h
   ·exact hO.owner
   ·exact hO.rdU n h
  have hul6:us.length≤7:=by rw[hul];simp;omega
  refine J7 ?_;intro a S;replace S:=(S.addNil 24 5).perm _ (List.Perm.swap _ _ _);replace S:=S.toBoth;refine c_fore4 S (fun(k:Nat) (os:List LTerm) (p':Option Addr) (c':Nat) uu=>[(13,uu 13),(30,.int .i64 (k:Nat)),(0,uu 45),(0,uu 46),(0,uu 47),(0,uu 48),(0,uu 49),(0,uu 50),(0,uu 51),(0,uu 52),(0,uu 53),(0,uu 54),(0,uu 55)]) (fun(k:Nat) (os:List LTerm) (p':Option Addr) (c':Nat)=>[lsI b9 p' c' os,Wk.box b6 24 zeroL.cells,ext M]) (fun(k:Nat) (os:List LTerm) (p':Option Addr) (c':Nat)=>[AllI os,BoxF b4 24 st.cells,BoxF b3 29 (cPerm p),GlF p8 us,InF p,LtF st,GlF kp keys]) (fun(k:Nat) (os:List LTerm) (p':Option Addr) (c':Nat)=>k≤us.length∧os.map LTerm.t=(us.take k).map (uBox st.t)) (fun(k:Nat) (os:List LTerm) (p':Option Addr) (c':Nat)=>us.length - k) (0) ([]) (none) (0) ?_ S.uu ?_ ?_
  ·exact ⟨Nat.zero_le _,rfl⟩
  ·exact S.add (Φ:=AllI (α:=LTerm) []) AllI.nil
  ·clear S;rintro k os p' c' uu a w ⟨hkk,hos⟩ S
   refine J6 ?_;intro a S;refine kC S (fun h11=>?_) (fun h11=>?_)
   ·refine kK (xtn (kS (kB (kS ?_))))
    have hkl1:k < us.length:=by simp at h11;omega
    have hK:KLt k us.length:=⟨hkl1⟩;have hD:Dig (nthG us k):=⟨by have:=huU _ (nthG_mem hkl1);omega,by have:=huU _ (nthG_mem hkl1);omega⟩;have hosl:os.length=k:=by have:=congrArg List.length hos;simpa [Nat.min_eq_left hkk] using this
    refine J6 ?_;intro a S;refine c_drawE [T9 0,T9 1,T9 3,T9 4,F9 2,F9 5,F9 6] [Wk.box b6 24 zeroL.cells,ext M] S ?_;intro w S;(iterate 4 (refine dq S ?_;intro a S));refine dl (sc S ?_);intro a w S;refine de S ?_;refine dl ?_;refine sr S (seal_c (nthG us k) st _ w (foots_lt S) (S.t st)) ?_;rintro _ a w ⟨r0,rfl,hr0,hrf⟩ S;replace S:=S.add hrf;refine de S ?_;refine dl ?_;have h1:=S.wd.facts (AllI os) (by simp);have h2:=S.t r0;refine sitM (lsI b9 p' c' os) S (make2_c b9 os (rowS [117] (nthG us k)) r0 p' c' (restOf _ (lsI b9 p' c' os)) w (by omega) (S.it (lsI b9 p' c' os)) (S.restOk _) (h2.split (lsI b9 p' c' os)) (h1.split (lsI b9 p' c' os))) rfl ?_;clear S h1 h2;rintro _ a w ⟨rfl,p2,c2,r,hr,hh,hft,hfa⟩ hS;have S:=hS (lsI b9 p2 c2 (os++[r])) [AllI (os++[r])] hh hft (by simpa using hfa);clear hS;refine de S ?_;refine dn (xbn (xtn (kR ?_)));(iterate 2 (refine sq S ?_;intro a S));refine kN (xtn ?_);rw[w6 ((k:Int)+1)]at S;exact ⟨k+1,os++[r],p2,c2,S.uu,⟨hkl1,by rw[List.map_append,hos,nthG_take hkl1,List.map_append];simp[hr,hr0,uBox]⟩,S.sub _ _,by omega⟩
   ·refine J15 ?_;intro a S
    have hos1:os.map LTerm.t=us.map (uBox st.t):=by rw[List.take_of_length_le (by simp at h11;omega)]at hos;exact hos
    refine c_fore4 S (fun(k:Nat) (os2:List LTerm) (q':Option Addr) (d':Nat) uu=>[(7,uu 7),(7,uu 15),(0,uu 16),(0,uu 17),(41,.int .i64 (k:Nat)),(0,uu 60),(0,uu 61),(0,uu 62),(0,uu 63),(0,uu 64),(0,uu 65),(0,uu 66),(0,uu 67),(0,uu 68),(0,uu 69),(0,uu 70),(0,uu 71),(0,uu 72),(0,uu 73),(0,uu 74),(0,uu 75),(0,uu 76),(0,uu 77),(0,uu 78),(0,uu 79),(0,uu 80)]) (fun(k:Nat) (os2:List LTerm) (q':Option Addr) (d':Nat)=>[lsI b9 q' d' os2,Wk.box b6 24 zeroL.cells,ext M]) (fun(k:Nat) (os2:List LTerm) (q':Option Addr) (d':Nat)=>[AllI os2,BoxF b4 24 st.cells,BoxF b3 29 (cPerm p),GlF p8 us,InF p,LtF st,GlF kp keys]) (fun(k:Nat) (os2:List LTerm) (q':Option Addr) (d':Nat)=>k≤p.gr.xs.length∧os2.map LTerm.t=us.map (uBox st.t)++(p.gr.xs.take k).map (gBox st.t (keyT keys))) (fun(k:Nat) (os2:List LTerm) (q':Option Addr) (d':Nat)=>p.gr.xs.length - k) (0) (os) (p') (c') ?_ S.uu ?_ ?_
    ·exact ⟨Nat.zero_le _,by simpa using hos1⟩
    ·first | exact S | exact S.sub _ _
    ·clear S;rintro k os2 q' d' uu a w ⟨hkk2,hos2⟩ S
     refine J6 ?_;intro a S;refine kC S (fun h16=>?_) (fun h16=>?_)
     ·refine kK (xtn (kS (kB (kS ?_))))
      have hkl2:k < p.gr.xs.length:=by simp at h16;omega
      have hK2:KLt k p.gr.xs.length:=⟨hkl2⟩;have hgU:=hO.grU _ (nthG_mem hkl2);have hD2:Dig (nthG p.gr.xs k):=⟨by omega,by omega⟩;obtain ⟨kk,hkm,hkf⟩:=hfind _ (nthG_mem hkl2) hgU.1 hgU.2;have hkT:keyT keys (nthG p.gr.xs k)=kk.key.t:=by rw[keyT,hkf]
      have hos2l:os2.length≤20:=by have:=congrArg List.length hos2;simp at this;omega
      refine J3 ?_;intro a S;refine sa S ?_;intro b15 a w S;refine Y7 ?_;intro a w S;refine sr S (findKey_c 54 [.pointer (some ⟨b15,0,none⟩)] (fun k'=>decide (k'.group=nthG p.gr.xs k)) keys kp keys.length kc _ rfl (by omega) (S.gl0 kp) fun x hx w' hw'=>make3_c b15 _ x w' ((BoxF.stable (S.boxF b15) (fun h=>h)).later hw')) ?_;clear S;rintro _ a w rfl S;rw[hkf]at S;replace S:=S.add (Φ:=InF kk) ((S.gl kp (xs:=keys)).imp fun _ h=>h.2 kk hkm);refine J3 ?_;intro a S;refine sa S ?_;intro b16 a w S;refine Y9 ?_;intro a w S;rw[show (!true)=false from rfl]at S;refine kN (xtn ?_);refine c_condF S ?_;refine kK (xtn ?_);refine c_drawE [T9 0,T9 1,T9 3,T9 4,T9 5,F9 2,F9 6,F9 7] [Wk.box b16 84 (cKey kk),Wk.box b15 3 [.int .i64 (nthG p.gr.xs k)],Wk.box b6 24 zeroL.cells,ext M] S ?_;intro w S;(iterate 5 (refine dq S ?_;intro a S));refine dl (sc S ?_);intro a w S;refine de S ?_;refine dl ?_;refine sr S (lock_c kk.key st _ w (foots_lt S) (S.t kk.key) (S.t st)) ?_;rintro _ a w ⟨r0,rfl,hr0,hrf⟩ S;replace S:=S.add hrf;refine de S ?_;refine dl ?_;have h1:=S.wd.facts (AllI os2) (by simp);have h2:=S.t r0;refine sitM (lsI b9 q' d' os2) S (make2_c b9 os2 (rowS [103] (nthG p.gr.xs k)) r0 q' d' (restOf _ (lsI b9 q' d' os2)) w (by omega) (S.it (lsI b9 q' d' os2)) (S.restOk _) (h2.split (lsI b9 q' d' os2)) (h1.split (lsI b9 q' d' os2))) rfl ?_;clear S h1 h2;rintro _ a w ⟨rfl,p2,c2,r,hr,hh,hft,hfa⟩ hS;have S:=hS (lsI b9 p2 c2 (os2++[r])) [AllI (os2++[r])] hh hft (by simpa using hfa)
      clear hS;refine de S ?_;refine dn (xbn (xtn (kR ?_)));(iterate 2 (refine sq S ?_;intro a S));refine kN (xtn ?_);rw[w6 ((k:Int)+1)]at S;exact ⟨k+1,os2++[r],p2,c2,S.uu,⟨hkl2,by rw[List.map_append,hos2,nthG_take hkl2,List.map_append,List.append_assoc];simp[hr,hr0,gBox,hkT]⟩,S.sub _ _,by omega⟩
     ·refine kE (xte (xte (xbe (xtn (kS ?_)))))
      rw[List.take_of_length_le (by simp at h16;omega)]at hos2;have hos2l:os2.length≤20:=by have:=congrArg List.length hos2;simp at this;omega
      have hgood:Good (listT (os2.map LTerm.t)):=by
       rw[hos2];refine (listT_good _ (fun t ht=>?_) (by simp;omega)).1;rcases List.mem_append.1 ht with ht | ht
       ·obtain ⟨n,hn,rfl⟩:=List.mem_map.1 ht
        exact uBox_ok hs (huU n hn)
       ·obtain ⟨g,hgm,rfl⟩:=List.mem_map.1 ht
        obtain ⟨kk,hkm,hkf⟩:=hfind g hgm (hO.grU g hgm).1 (hO.grU g hgm).2;exact gBox_ok hs (by rw[keyT,hkf];exact hgk kk hkm)
      replace S:=S.ofBoth;have hall:=S.wd.facts (AllI os2) (by simp);replace S:=S.rowToGl (e:=24) (sz:=5) (n:=os2.length) (c:=d') q' os2 hall;refine J2 ?_;intro a S;refine sr S (list_c os2 q' d' _ w (by omega) (foots_lt S) ((S.gl q' (xs:=os2)).imp fun _ h=>gl_ls h)) ?_;rintro _ a w ⟨r,rfl,hr,hrf⟩ S;replace S:=S.add hrf;refine sa S ?_;intro b18 a w S;refine Y8 ?_;intro a w S;rw[hr,good_check.2 hgood]at S;refine J1 ?_;intro a S;rw[show (!decide ((0:Int)=0))=false from rfl]at S;refine Y13 ?_;intro a w S;have hlat:=S.laterT (M:=M) r;refine end2 S (fun _=>.inr ⟨hP,us,r,hperm,?_,rfl,by rw[hr,hos2];rfl,by rw[hr];exact hgood,hlat⟩);have hnd:us.Nodup:=hperm.nodup_iff.2 (List.nodup_cons.2 ⟨hO.rdO,hO.rd.imp fun h=>by omega⟩);exact (List.Pairwise.and hsort hnd).imp fun ⟨h1,h2⟩=>by omega
theorem pair_shape {x:LTerm}{a b:Term}(h:x.t=.pair a b):x.kind=4∧x.kids.length=2∧(nthL x.kids 0).t=a∧(nthL x.kids 1).t=b:=by
 rw[x.t_eq]at h;simp only[Term.pair,Term.mk.injEq]at h;obtain ⟨h1,-,-,-,h5⟩:=h;have hl:x.kids.length=2:=by have:=congrArg List.length h5;simpa using this
 obtain ⟨u,v,huv⟩:∃ u v,x.kids=[u,v]:=by
  match h:x.kids,hl with
  | [u,v],_=>exact ⟨u,v,rfl⟩
 rw[huv]at h5;simp only[List.map_cons,List.map_nil,List.cons.injEq,and_true]at h5;refine ⟨h1,hl,?_,?_⟩;rw[huv];exact h5.1;rw[huv];exact h5.2
theorem text_shape {x:LTerm}{s:List UInt8}(h:x.t=textT s):x.kind=1∧x.text=s:=by
 rw[x.t_eq]at h;simp only[textT,Term.mk.injEq]at h;exact ⟨h.1,h.2.2.2.1⟩
structure LBox where
 user:Int
 group:Int
 term:LTerm
instance encBox:Enc LBox:=⟨7,fun b=>.int .i64 b.user::.int .i64 b.group::b.term.cells,fun _=>rfl,fun x u hu=>by
 rcases List.mem_cons.1 hu with rfl | hu
 rfl;rcases List.mem_cons.1 hu with rfl | hu
 rfl;exact encT.one x.term u hu⟩
instance layBox:Lay LBox:={ encBox with
 dflt:=⟨0,0,zeroL⟩
 inn:=fun w b=>LtIn w b.term
 mono:=fun _w _w' x h hx=>LtIn.mono h x.term hx }
instance:SzE LBox 7:=⟨rfl,by decide⟩
instance {b:LBox} : CellsOf b [.int .i64 b.user,.int .i64 b.group,.int .i64 b.term.kind,.int .i64 b.term.user,.int .i64 b.term.num,str b.term.text,.slice b.term.p b.term.kids.length b.term.cap]:=⟨rfl⟩
abbrev vBox (b:LBox):Value:=.agg ⟨[.int .i64 b.user,.int .i64 b.group,.int .i64 b.term.kind,.int .i64 b.term.user,.int .i64 b.term.num,str b.term.text,.slice b.term.p b.term.kids.length b.term.cap]⟩
def IsBox (t:Term)(n g:Int):Prop:=(1≤n∧n≤6∧g=0∧∃ s,t=uBox s n)∨(1≤g∧g≤3∧n=0∧∃ s kt,t=gBox s kt g)
theorem rowS_inj {s s':UInt8}{a b:Int}(ha:0≤a∧a≤9)(hb:0≤b∧b≤9):rowS [s] a=rowS [s'] b↔s=s'∧a=b:=by
 constructor;intro h;simp only[rowS,qqE,qqF,List.cons.injEq,and_true]at h;exact ⟨h.1,by have:=u8_inj (a:=48+a) (b:=48+b) (by omega) (by omega) h.2;omega⟩;rintro ⟨rfl,rfl⟩;rfl
def bxV (b:Nat):Value:=.func (.func 133) #[] ⟨[.pointer (some ⟨b,0,none⟩)]⟩
theorem boxes_f (p:Option Addr)(n c:Nat)(w0:World):Ret Tryz.prog 112 [.slice p n c] w0 (fun _=>False) fun v w'=>∃ b,v=bxV b∧w0.heap.size≤b∧BoxF b 22 [.slice p n c] w':=by
 refine E1 Tryz.func112 rfl Tryz.ntmps112 (Wd.start w0) ?_;intro a S;refine kS (kR ?_);refine sa S ?_;intro b1 a w S;refine J10 ?_;intro a S;have h1:=S.boxF b1;have n1:=S.boxNew b1;refine end1 S (fun _=>?_);exact ⟨b1,rfl,n1.elim (fun h=>h.elim) id,h1⟩
structure Boxes (xs:List LTerm)(bs:List LBox):Prop where
 len:bs.length=xs.length
 box:∀ i,i < xs.length→IsBox (nthL xs i).t (nthG bs i).user (nthG bs i).group
 term:∀ i,i < xs.length→(nthG bs i).term=nthL (nthL xs i).kids 1
def placeF (b:LBox):Int:=if 0 < b.user then b.user else 6+b.group
theorem place_c (b:LBox)(hg:0≤b.group∧b.group≤1000)(w0:World):Ret Tryz.prog 113 [vBox b] w0 (fun _=>False) fun v _=>v=.int .i64 (placeF b):=by
 refine E1 Tryz.func113 rfl Tryz.ntmps113 (Wd.start w0) ?_;intro a S;refine kS (kR ?_);refine sa S ?_;intro b1 a w S;refine J11 ?_;intro a S;refine kC S (fun h1=>?_) (fun h1=>?_);refine J9 ?_;intro a S;refine end1 S (fun _=>?_);rw[placeF,if_pos (by simpa using h1)];refine J7 ?_;intro a S;rw[w6 _]at S;refine J4 ?_;intro a S;refine end1 S (fun _=>?_);rw[placeF,if_neg (by simpa using h1)]
class GrpOk (b:LBox):Prop where
 lo:0≤b.group
 hi:b.group≤1000
instance {b:LBox}{bs fs}[h:GrpOk b]:CallV Tryz.prog 113 [.agg ⟨[.int .i64 b.user,.int .i64 b.group,.int .i64 b.term.kind,.int .i64 b.term.user,.int .i64 b.term.num,str b.term.text,.slice b.term.p b.term.kids.length b.term.cap]⟩] bs fs (.int .i64 (placeF b)):=⟨fun w _=>place_c b ⟨h.lo,h.hi⟩ w⟩
structure SBox where
 user:Int
 group:Int
 term:Term
def SBox.t (b:SBox):Term:=if 0 < b.user then rowT (rowS [117] b.user) b.term else rowT (rowS [103] b.group) b.term
def SBox.place (b:SBox):Int:=if 0 < b.user then b.user else 6+b.group
def SBox.ok (b:SBox):Prop:=(1≤b.user∧b.user≤6∧b.group=0∧∃ s,b.term=sealT b.user s)∨(b.user=0∧1≤b.group∧b.group≤3∧∃ k s,b.term=lockT k s)
def LBox.s (b:LBox):SBox:=⟨b.user,b.group,b.term.t⟩
theorem place_s (b:LBox):b.s.place=placeF b:=rfl
theorem SBox.isBox {b:SBox}(h:b.ok):IsBox b.t b.user b.group:=by
 rcases h with ⟨h1,h2,h3,s,h4⟩ | ⟨h1,h2,h3,k,s,h4⟩
 exact .inl ⟨h1,h2,h3,s,by rw[SBox.t,if_pos (by omega),h4];rfl⟩;refine .inr ⟨h2,h3,h1,s,fun _=>k,by rw[SBox.t,if_neg (by omega),h4];rfl⟩
theorem kid_in {w:World}{x:LTerm}(h:LtIn w x){y:LTerm}(hy:y∈x.kids):LtIn w y:=by
 have h1:Fx w (LtF x):=fun w' hw'=>LtIn.mono (fun ad v hc=>cell_agree hw' hc) x h
 exact (kid_st h1 hy).now
theorem goodP {k u n:Int}{s:List UInt8}{ks:List Term}(h:Good (.mk k u n s ks)):plainF k u n s ks.length=true:=by
 have hw:=good_walk.1 h;rw[walkF]at hw;cases hp:plainF k u n s ks.length with
 | true=>rfl
 | false=>simp[hp]at hw
theorem good_pr {x:LTerm}(h:Good x.t)(hk:x.kind=4):x.kids.length=2∧x.t=.pair (nthL x.kids 0).t (nthL x.kids 1).t:=by
 have h':=h;rw[x.t_eq]at h;have hp:=plain_shape (goodP h);have hl:x.kids.length=2:=by
  rcases hp with q | q | q | q | q | q | q
  all_goals first | (obtain ⟨-,-,-,-,q⟩:=q;simpa using q) | omega
 refine ⟨hl,?_⟩;obtain ⟨u,v,huv⟩:∃ u v,x.kids=[u,v]:=by
  match h:x.kids,hl with
  | [u,v],_=>exact ⟨u,v,rfl⟩
 have hz:x.user=0∧x.num=0∧x.text=[]:=by
  rcases hp with q | q | q | q | q | q | q
  all_goals first | exact ⟨q.2.1,q.2.2.1,q.2.2.2.1⟩ | omega
 have e0:nthL x.kids 0=u:=by rw[huv];rfl
 have e1:nthL x.kids 1=v:=by rw[huv];rfl
 rw[e0,e1,x.t_eq,hk,hz.1,hz.2.1,hz.2.2,huv];rfl
theorem listT_kind {x:LTerm}(hk:x.kind≠4)(l:List Term):x.t=listT l↔l=[]∧x.t=textT []:=by
 constructor;intro h;cases l with
 | nil=>exact ⟨rfl,h⟩
 | cons a l=>rw[x.t_eq]at h;simp only[listT,Term.pair,Term.mk.injEq]at h;exact absurd h.1 hk
 rintro ⟨rfl,h⟩;exact h
theorem unlist2_c (t:LTerm)(M:Nat→Prop)(w0:World)(hM:∀ k,M k→k < w0.heap.size)(hf:Stable M w0 (LtF t)) :
    Ret Tryz.prog 56 [vL t] w0 (fun _=>False) fun v w'=>∃ (p:Option Addr) (c:Nat) (os:List LTerm) (b:Bool),v=.tuple ⟨[.slice p os.length c,.bool b]⟩∧Stable M w' (LsF p 0 os)∧os.length≤1200∧(b=true→Good t.t∧t.t=listT (os.map LTerm.t))∧(b=false→os=[]∧∀ l,t.t=listT l→¬Good t.t):=by
  refine E1 Tryz.func56 rfl Tryz.ntmps56 (Wd.beginM (M:=M) (fs:=[LtF t]) hM (by simpa using hf)) ?_;intro a S;refine kS (kR ?_);refine sa S ?_;intro b1 a w S;refine Y12 ?_;intro a w S;refine kC S (fun h1=>?_) (fun h1=>?_)
  · refine J8 ?_;intro a S
    have hb : ¬ Good t.t := fun h => by have : sizeF t.t = 0 := by simpa using h1
                                        exact h this
    refine end2 S (fun _=>?_);exact ⟨none,0,[],false,rfl,fun w' _=>by simp[LsF,LsIn],by simp,nofun,fun _=>⟨rfl,fun _ _=>hb⟩⟩
  · refine J9 ?_;intro a S
    have hg : Good t.t := by have : ¬ sizeF t.t = 0 := by simpa using h1
                             exact this
    replace S:=(S.addNil 24 5);refine c_fore4 S (fun(x:LTerm) (os:List LTerm) (p':Option Addr) (c':Nat) uu=>[(4,.slice p' os.length c'),(3,uu 8),(0,uu 9),(0,uu 10),(0,uu 11),(0,uu 12),(0,uu 13),(0,uu 14),(0,uu 15),(0,uu 16),(0,uu 17),(0,uu 18),(0,uu 19),(0,uu 20),(0,uu 21)]) (fun(x:LTerm) (os:List LTerm) (p':Option Addr) (c':Nat)=>[Wk.row 24 5 p' os.length c' (encL os),Wk.box b1 24 x.cells,ext M]) (fun(x:LTerm) (os:List LTerm) (p':Option Addr) (c':Nat)=>[AllI os,LtF x]) (fun(x:LTerm) (os:List LTerm) (p':Option Addr) (c':Nat)=>Good x.t∧os.length+cnt x.t≤1200∧∀ l,t.t=listT l↔∃ l',l=os.map LTerm.t++l'∧x.t=listT l') (fun(x:LTerm) (os:List LTerm) (p':Option Addr) (c':Nat)=>cnt x.t) (t) ([]) (none) (0) ?_ S.uu ?_ ?_
    · exact ⟨hg,by simpa using good_le hg,fun l=>⟨fun h=>⟨l,rfl,h⟩,fun ⟨l',h1,h2⟩=>by rw[h1];exact h2⟩⟩
    · exact S.add (Φ:=AllI (α:=LTerm) []) AllI.nil
    · clear S;rintro x os p' c' uu a w ⟨hgx,hsz,hrel⟩ S
      refine J8 ?_;intro a S;refine kC S (fun h4=>?_) (fun h4=>?_)
      · refine kK (xtn (kB (kS ?_)))
        have hkind:x.kind=4:=by simpa using h4
        obtain ⟨hl2,hpr⟩:=good_pr hgx hkind;have hK0:KLt 0 x.kids.length:=⟨by omega⟩;have hK1:KLt 1 x.kids.length:=⟨by omega⟩;have hc:cnt x.t=1+(cnt (nthL x.kids 0).t+cnt (nthL x.kids 1).t):=by rw[hpr];simp[Term.pair,cnt,cntL]
        have hcp:=cnt_pos (nthL x.kids 0).t;refine J6 ?_;intro a S;refine sn S ?_;intro b16 a w S;refine sap S (by simp[maxLen];omega) (by omega) ?_;rintro p5 c5 a w - S;rw[show encL os++(nthL x.kids 0).cells=encL (os++[nthL x.kids 0]) from by rw[encL_append,encT_cells],show os.length+1=(os++[nthL x.kids 0]).length from by simp]at S;refine Y12 ?_;intro a w S;have h1:=S.wd.facts (AllI os) (by simp);have h2:=S.t (nthL x.kids 0);have h3:=S.t (nthL x.kids 1);replace S:=(S.add (Φ:=LtF (nthL x.kids 1)) h3).add (AllI.snoc h1 h2);have hg1:Good (nthL x.kids 1).t:=by rw[hpr]at hgx;exact good_kid hgx (by simp)
        refine ⟨nthL x.kids 1,os++[nthL x.kids 0],p5,c5,S.uu,⟨hg1,by simp only[List.length_append,List.length_singleton];omega,fun l=>?_⟩,S.sub _ _,by omega⟩;rw[hrel l];constructor
        · rintro ⟨l',e1,e2⟩
          rw[hpr]at e2;cases l' with
          | nil=>simp[listT,Term.pair,textT]at e2
          | cons a l'=>
            simp only[listT,Term.pair,Term.mk.injEq,List.cons.injEq,and_true,true_and]at e2;exact ⟨l',by rw[e1,List.map_append,List.append_assoc,←e2.1];rfl,e2.2⟩
        · rintro ⟨l',e1,e2⟩
          exact ⟨(nthL x.kids 0).t::l',by rw[e1,List.map_append,List.append_assoc];rfl,by rw[hpr,e2];rfl⟩
      · refine kE (xte (xte (xbe (xtn (kS (kS ?_))))))
        have hkind:x.kind≠4:=by simpa using h4
        refine c_drawD [T9 0,F9 1,F9 2,T9 3] [] S ?_;intro w S;refine dq S ?_;intro a S;refine dl (sc S ?_);intro a w S;refine de S ?_;refine dl (sc S ?_);intro a w S;refine de S ?_;refine dq S ?_;intro a S;refine dn (xtn ?_);refine kC S (fun h7=>?_) (fun h7=>?_)
        · refine J8 ?_;intro a S
          have hne:x.t≠textT []:=fun e=>by
            have:sameF x.t (textL []).t=true:=(sameF_iff _ _).2 (by rw[e];rfl);simp[this]at h7
          refine end2 S (fun _=>?_);refine ⟨none,0,[],false,rfl,fun w' _=>by simp[LsF,LsIn],by simp,nofun,fun _=>⟨rfl,fun l h=>?_⟩⟩;obtain ⟨l',-,e⟩:=(hrel l).1 h;exact absurd ((listT_kind hkind l').1 e).2 hne
        · refine J10 ?_;intro a S
          have hxe:x.t=textT []:=by
            have:sameF x.t (textL []).t=true:=by simpa using h7
            exact (sameF_iff _ _).1 this
          have hrow:=S.row p' os.length;have hnew:=S.rowNew p' os.length;have hall:=S.laterFact (Φ:=AllI os) (by simp);refine end2 S (fun _=>?_);refine ⟨p',c',os,true,rfl,?_,by omega,fun _=>⟨hg,(hrel _).2 ⟨[],by simp,by rw[hxe];rfl⟩⟩,nofun⟩;exact (gl_own hrow hall (fun ad h hm=>(hnew ad h).elim (fun h=>h.elim) (fun h2=>by have:=hM _ hm;omega))).imp fun _ h=>gl_ls h
theorem shape_of {y:LTerm}(h:Good y.t):plainF y.kind y.user y.num y.text y.kids.length=true:=by
 rw[y.t_eq]at h;have:=goodP h
 rwa [List.length_map]at this
theorem good1 {y:LTerm}(h:Good y.t)(hk:y.kind=1):y.t=textT y.text:=by
 have hp:=plain_shape (shape_of h);have hz:y.kids=[]:=List.length_eq_zero_iff.1 (by omega);rw[y.t_eq,hk,show y.user=0 from by omega,show y.num=0 from by omega,hz];rfl
theorem good7 {y:LTerm}(h:Good y.t)(hk:y.kind=7):∃ s,y.t=sealT y.user s:=by
 have hp:=plain_shape (shape_of h);have hl:y.kids.length=1:=by omega
 obtain ⟨a,ha⟩:=List.length_eq_one_iff.1 hl;refine ⟨a.t,?_⟩;have ht:y.text=[]:=by
  rcases hp with h | h | h | h | h | h | h <;> simp_all
 rw[y.t_eq,hk,show y.num=0 from by omega,ht,ha];rfl
theorem good6 {y:LTerm}(h:Good y.t)(hk:y.kind=6):∃ k s,y.t=lockT k s:=by
 have hp:=plain_shape (shape_of h);have hl:y.kids.length=2:=by omega
 obtain ⟨a,b,ha⟩:∃ a b,y.kids=[a,b]:=by
  match h:y.kids,hl with
  | [a,b],_=>exact ⟨a,b,rfl⟩
 refine ⟨a.t,b.t,?_⟩;have ht:y.text=[]:=by
  rcases hp with h | h | h | h | h | h | h <;> simp_all
 rw[y.t_eq,hk,show y.user=0 from by omega,show y.num=0 from by omega,ht,ha];rfl
theorem isBox_pair {x:LTerm}{n g:Int}(h:IsBox x.t n g):x.kind=4∧x.kids.length=2∧(nthL x.kids 0).kind=1:=by
 rcases h with ⟨-,-,-,s,h⟩ | ⟨-,-,-,s,kt,h⟩
 obtain ⟨h1,h2,h3,_⟩:=pair_shape (a:=textT (rowS [117] n)) h;exact ⟨h1,h2,(text_shape h3).1⟩;obtain ⟨h1,h2,h3,_⟩:=pair_shape (a:=textT (rowS [103] g)) h;exact ⟨h1,h2,(text_shape h3).1⟩
theorem isBox_iff {x:LTerm}(hx:Good x.t)(h4:x.kind=4)(h1:(nthL x.kids 0).kind=1){n g:Int} : IsBox x.t n g↔
  (1≤n∧n≤6∧g=0∧(nthL x.kids 0).text=rowS [117] n∧(nthL x.kids 1).kind=7∧(nthL x.kids 1).user=n)∨(1≤g∧g≤3∧n=0∧(nthL x.kids 0).text=rowS [103] g∧(nthL x.kids 1).kind=6):=by
 obtain ⟨hl,hp⟩:=good_pr hx h4;have hg0:Good (nthL x.kids 0).t:=by rw[x.t_eq]at hx;exact good_kid hx (List.mem_map.2 ⟨_,nth_mem (by omega),rfl⟩)
 have hg1:Good (nthL x.kids 1).t:=by rw[x.t_eq]at hx;exact good_kid hx (List.mem_map.2 ⟨_,nth_mem (by omega),rfl⟩)
 have e0:=good1 hg0 h1;constructor;rintro (⟨a1,a2,a3,s,h⟩ | ⟨a1,a2,a3,s,kt,h⟩);obtain ⟨-,-,q1,q2⟩:=pair_shape (a:=textT (rowS [117] n)) h;refine .inl ⟨a1,a2,a3,(text_shape q1).2,?_⟩;rw[(nthL x.kids 1).t_eq,sealT]at q2
 injection q2 with q2 q3
 exact ⟨q2,q3⟩;obtain ⟨-,-,q1,q2⟩:=pair_shape (a:=textT (rowS [103] g)) h;refine .inr ⟨a1,a2,a3,(text_shape q1).2,?_⟩;rw[(nthL x.kids 1).t_eq,lockT]at q2
 injection q2 with q2 q3
 rintro (⟨a1,a2,a3,b1,b2,b3⟩ | ⟨a1,a2,a3,b1,b2⟩);obtain ⟨s,hs⟩:=good7 hg1 b2;exact .inl ⟨a1,a2,a3,s,by rw[hp,e0,b1,hs,b3];rfl⟩;obtain ⟨k,s,hs⟩:=good6 hg1 b2;exact .inr ⟨a1,a2,a3,s,fun _=>k,by rw[hp,e0,b1,hs];rfl⟩
def BoxOk (x:LTerm)(b:LBox)(ok:Bool):Prop:=(ok=true→IsBox x.t b.user b.group∧b.term=nthL x.kids 1)∧(ok=false→∀ n g,¬IsBox x.t n g)
theorem cofG_c (x:LTerm)(hx:Good x.t)(w0:World)(hf:Fx w0 (LtF x)):Ret Tryz.prog 134 [vL x] w0 (fun _=>False) fun v _=>∃ (b:LBox) (ok:Bool),v=.tuple ⟨[vBox b,.bool ok]⟩∧GrpOk b∧BoxOk x b ok:=by
 have hu1:LeC ([117]:List UInt8).length 1000:=⟨by decide⟩;have hg1:LeC ([103]:List UInt8).length 1000:=⟨by decide⟩;refine E1 Tryz.func134 rfl Tryz.ntmps134 (Wd.begin (fs:=[LtF x]) (by simpa using hf)) ?_;intro a S;refine kS (kR ?_);refine sa S ?_;intro b1 a w S;refine sa S ?_;intro b2 a w S;refine J4 ?_;intro a S;refine c_mrgf1 S (fun(m1:Bool) uu=>[(8,uu 8),(0,uu 9),(0,uu 10),(0,uu 11),(0,uu 12),(0,uu 13),(0,uu 14),(0,uu 15),(0,uu 16),(0,uu 17),(0,.bool m1)]) (fun(m1:Bool)=>[Wk.box b2 124 [.int .i64 0,.int .i64 0,.int .i64 0,.int .i64 0,.int .i64 0,.string ⟨#[]⟩,.slice none 0 0],Wk.box b1 24 x.cells]) (fun(m1:Bool)=>m1=false↔x.kind=4∧(nthL x.kids 0).kind=1) ?_ ?_;refine J5 ?_;intro a S;refine gS S (fun hs S=>?_) (fun hs S=>?_);refine gF' S ?_;intro a S;(iterate 5 (refine gF' S ?_;intro a S));refine sq S ?_;intro a S;refine kN (xtn ?_);exact ⟨true,S.uu,⟨nofun,fun h=>by simp[h.1]at hs⟩,S.sub _ _⟩;refine gT' S ?_;refine sq S ?_;intro a S;refine gT' S ?_;refine sq S ?_;intro a S;refine gT' S ?_;have h4:x.kind=4:=by simpa using hs
 have hl2:=(good_pr hx h4).1;have hK0:KLt 0 x.kids.length:=⟨by omega⟩;refine sq S ?_;intro a S;refine gT' S ?_;refine sq S ?_;intro a S;refine gT' S ?_;refine sq S ?_;intro a S;refine gT' S ?_;(iterate 2 (refine sq S ?_;intro a S));refine kN (xtn ?_);exact ⟨_,S.uu,by simp[h4],S.sub _ _⟩;clear S;rintro m1 uu a w hm1 S;refine kC S (fun h1=>?_) (fun h1=>?_);refine Y9 ?_;intro a w S;refine end2 S (fun _=>⟨⟨0,0,zeroL⟩,false,rfl,⟨Int.le_refl _,by show (0:Int)≤1000;omega⟩,nofun,fun _ n g hb=>?_⟩);obtain ⟨q1,-,q2⟩:=isBox_pair hb;rw[hm1.2 ⟨q1,q2⟩]at h1;cases h1;refine kK (xtn (kS ?_));obtain ⟨h4,hk1⟩:=hm1.1 (by simpa using h1);have hl2:=(good_pr hx h4).1;have hK0:KLt 0 x.kids.length:=⟨by omega⟩;have hK1:KLt 1 x.kids.length:=⟨by omega⟩;have hiff:∀ n g,_:=fun n g=>isBox_iff (n:=n) (g:=g) hx h4 hk1
 refine c_drawD [T9 0,T9 1,T9 2,T9 3,T9 4,T9 5,T9 6,T9 7,T9 8,F9 9,T9 10,F9 11] [] S ?_;intro w S;(iterate 9 (refine dq S ?_;intro a S));refine dl (sa S ?_);intro b5 a w S;refine de S ?_;refine dq S ?_;intro a S;refine dl (sw S ?_);intro a w S;refine de S ?_;refine dn (xtn (kS (kS (kR (sq S ?_)))));intro a S;refine kN (xtn (kB ?_));refine c_forb1 S (fun(j':Nat) uu=>[(3,uu 3),(2,.int .i64 (j':Nat)),(22,uu 29),(0,uu 30),(0,uu 31),(0,uu 32),(0,uu 33),(0,uu 34),(0,uu 35),(0,uu 36),(0,uu 37),(0,uu 38),(0,uu 39),(0,uu 40),(0,uu 41),(0,uu 42),(0,uu 43),(0,uu 44),(0,uu 45),(0,uu 46),(0,uu 47),(0,uu 48)]) (fun(j':Nat)=>1≤j'∧j'≤7∧∀ m:Nat,1≤m→m < j'→(nthL x.kids 0).text≠rowS [117] m) (fun(j':Nat)=>7 - j') (1) ?_ S.uu ?_ ?_;exact ⟨Nat.le_refl _,by omega,fun m h1 h2=>by omega⟩
 first | exact S | exact S.sub _ _
 clear S;rintro j' uu a w ⟨hj1,hj7,hrel⟩ S;refine J7 ?_;intro a S;refine kC S (fun h5=>?_) (fun h5=>?_);refine kK (xtn (kS (kB (kS ?_))));have hj6:j'≤6:=by simp at h5;omega
 have hD:Dig (j':Nat):=⟨by omega,by omega⟩;refine Y7 ?_;intro a w S;refine kC S (fun h7=>?_) (fun h7=>?_);refine kS ?_;refine c_drawD [T9 0,T9 1,T9 2,T9 3,T9 4,T9 5,T9 6,T9 7,T9 8,T9 9,T9 10,T9 11,F9 12,T9 13] [b2] S ?_;intro w S;(iterate 7 (refine dq S ?_;intro a S));(iterate 4 (refine dqG S ?_;intro a S));refine dq S ?_;intro a S;refine dl (sw S ?_);intro a w S;refine de S ?_;refine dq S ?_;intro a S;refine dn (xtn (kT (xbr (xtr (xtr (xbr (xtr ?_)))))));have h7':(nthL x.kids 0).text=rowS [117] j':=by simpa using h7
 refine end2 S (fun _=>?_);refine ⟨⟨j',0,nthL x.kids 1⟩,_,rfl,⟨Int.le_refl _,by show (0:Int)≤1000;omega⟩,fun h=>⟨(hiff _ _).2 (.inl ⟨by show (1:Int)≤(j':Int);omega,by show (j':Int)≤6;omega,rfl,h7',?_⟩),rfl⟩,fun h n g hb=>?_⟩;simpa using h;rcases (hiff _ _).1 hb with ⟨c1,c2,c3,c4,c5,c6⟩ | ⟨c1,c2,c3,c4,c5⟩
 rw[h7',rowS_inj (by omega) (by omega)]at c4;rw[c5,c6,c4.2]at h;simp at h;rw[h7',rowS_inj (by omega) (by omega)]at c4;exact absurd c4.1 (by decide);refine J6 ?_;intro a S;rw[w6 _,show (j':Int)+1=((j'+1:Nat):Int) from rfl]at S;refine J3 ?_;intro a S;refine ⟨j'+1,S.uu,⟨by omega,by omega,fun m h1 h2=>?_⟩,S.sub _ _,by omega⟩;rcases Nat.lt_or_ge m j' with h | h
 exact hrel m h1 h;obtain rfl:m=j':=by omega
 simpa using h7;refine J12 ?_;intro a S;refine c_forb1 S (fun(j:Nat) uu=>[(3,uu 3),(3,.int .i64 (j:Nat)),(41,uu 49),(0,uu 50),(0,uu 51),(0,uu 52),(0,uu 53),(0,uu 54),(0,uu 55),(0,uu 56),(0,uu 57),(0,uu 58),(0,uu 59),(0,uu 60),(0,uu 61),(0,uu 62)]) (fun(j:Nat)=>1≤j∧j≤4∧∀ m:Nat,1≤m→m < j→(nthL x.kids 0).text≠rowS [103] m) (fun(j:Nat)=>4 - j) (1) ?_ S.uu ?_ ?_;exact ⟨Nat.le_refl _,by omega,fun m h1 h2=>by omega⟩
 first | exact S | exact S.sub _ _
 clear S;rintro j uu a w ⟨hj1',hj4,hrel2⟩ S;refine J7 ?_;intro a S;refine kC S (fun h10=>?_) (fun h10=>?_);refine kK (xtn (kS (kB (kS ?_))));have hj6:j≤3:=by simp at h10;omega
 have hD:Dig (j:Nat):=⟨by omega,by omega⟩;refine Y7 ?_;intro a w S;refine kC S (fun h12=>?_) (fun h12=>?_);refine kS ?_;refine c_drawD [T9 0,T9 1,T9 2,T9 3,T9 4,T9 5,F9 6,T9 7] [b2] S ?_;intro w S;(iterate 6 (refine dq S ?_;intro a S));refine dl (sw S ?_);intro a w S;refine de S ?_;refine dq S ?_;intro a S;refine dn (xtn (kT (xbr (xtr (xtr (xbr (xtr ?_)))))));have h7':(nthL x.kids 0).text=rowS [103] j:=by simpa using h12
 refine end2 S (fun _=>?_);refine ⟨⟨0,j,nthL x.kids 1⟩,_,rfl,⟨by show (0:Int)≤(j:Int);omega,by show (j:Int)≤1000;omega⟩,fun h=>⟨(hiff _ _).2 (.inr ⟨by show (1:Int)≤(j:Int);omega,by show (j:Int)≤3;omega,rfl,h7',?_⟩),rfl⟩,fun h n g hb=>?_⟩;simpa using h;rcases (hiff _ _).1 hb with ⟨c1,c2,c3,c4,c5,c6⟩ | ⟨c1,c2,c3,c4,c5⟩
 rw[h7',rowS_inj (by omega) (by omega)]at c4;exact absurd c4.1 (by decide);rw[c5]at h;simp at h;refine J6 ?_;intro a S;rw[w6 _,show (j:Int)+1=((j+1:Nat):Int) from rfl]at S;refine J3 ?_;intro a S;refine ⟨j+1,S.uu,⟨by omega,by omega,fun m h1 h2=>?_⟩,S.sub _ _,by omega⟩;rcases Nat.lt_or_ge m j with h | h
 exact hrel2 m h1 h;obtain rfl:m=j:=by omega
 simpa using h12;refine Y13 ?_;intro a w S;have e5:j'=7:=by simp at h5;omega
 have e10:j=4:=by simp at h10;omega
 refine end2 S (fun _=>⟨⟨0,0,zeroL⟩,false,rfl,⟨Int.le_refl _,by show (0:Int)≤1000;omega⟩,nofun,fun _ n g hb=>?_⟩);rcases (hiff _ _).1 hb with ⟨c1,c2,c3,c4,c5,c6⟩ | ⟨c1,c2,c3,c4,c5⟩
 exact hrel n.toNat (by omega) (by omega) (by rw[c4,show ((n.toNat:Nat):Int)=n from by omega]);exact hrel2 g.toNat (by omega) (by omega) (by rw[c4,show ((g.toNat:Nat):Int)=g from by omega])
def BoxE (x:LTerm)(vs:List Value):Prop:=∃ (b:LBox) (ok:Bool),vs=[vBox b,.bool ok]∧GrpOk b∧BoxOk x b ok
theorem boxesG_it (b:Nat)(xs:List LTerm)(hg:∀ x∈xs,Good x.t)(p:Option Addr)(c:Nat)(hl:xs.length≤1000000)(w0:World)(M:Nat→Prop)(hM:∀ k,M k→k < w0.heap.size)(f1:Stable M w0 (BoxF b 22 [.slice p xs.length c]))(f2:Stable M w0 (LsF p 0 xs)) :
  IterRet Tryz.prog 133 [.pointer (some ⟨b,0,none⟩)] w0 M (fun(y:LTerm) vs _ _=>BoxE y vs) xs:=by
 intro L J Jx hy hJ;have hF:∀ Φ∈[BoxF b 22 [.slice p xs.length c],LsF p 0 xs],Stable M w0 Φ:=by simp;exact ⟨f1,f2⟩
 refine (callsIn_wide (n:=0)).2 ?_;refine E1 Tryz.func133 rfl Tryz.ntmps133 (Wd.beginM (M:=M) (fs:=[BoxF b 22 [.slice p xs.length c],LsF p 0 xs]) hM hF) ?_;intro a S;refine J8 ?_;intro a S;refine c_loop (ι:=Nat) (fun k a w=>k≤xs.length∧∃ N w1,J k w1∧∃ uu:Nat→Value,St w1 (fun _=>False) [] a w ((.func (.yield L) #[] #[])::(.pointer (some ⟨b,0,none⟩))::uu 2::uu 3::uu 4::(.slice p xs.length c)::(.int .i64 xs.length)::(.int .i64 (k:Nat))::uu 8::uu 9::uu 10::uu 11::uu 12::uu 13::uu 14::uu 15::uu 16::uu 17::uu 18::[]) [ext N] [BoxF b 22 [.slice p xs.length c],LsF p 0 xs]) (fun k=>xs.length - k) 0 ?_ ?_;exact ⟨Nat.zero_le _,M,w0,hJ,S.uu,S⟩;clear S;rintro k a w ⟨hk,N,w1,hJk,uu,S⟩;refine J6 ?_;intro a S;refine kC S (fun h1=>?_) (fun h1=>?_);refine kK (xtn (kS (kB (kS ?_))));have hkl:k < xs.length:=by simp at h1;omega
 have hK:KLt k xs.length:=⟨hkl⟩;refine J3 ?_;intro a S;refine sa S ?_;intro b4 a w S;refine Y7 ?_;intro a w S;refine sr S (cofG_c (nthL xs k) (hg _ (nth_mem hkl)) w (S.t0 _)) ?_;rintro _ a w ⟨bx,okb,rfl,hgb,hbx⟩ S;refine J2 ?_;intro a S;refine sy S (M:=M) (wI:=w0) (fs0:=[BoxF b 22 [.slice p xs.length c],LsF p 0 xs]) hF (hy k _ _ w1 w (nth_get hkl) hJk S.wd.agree ⟨bx,okb,rfl,hgb,hbx⟩) ?_;intro ok N' a w2 hT hX S;refine J3 ?_;intro a S;refine kC S (fun h3=>?_) (fun h3=>?_);refine kT (xbr (xtr (xtr (xbr ?_))));exact endI S ⟨w2,S.wd.agree,.inr (hX (by simpa using h3))⟩;refine J8 ?_;intro a S;rw[w6 ((k:Int)+1)]at S;exact ⟨k+1,⟨hkl,N',w2,hT (by simpa using h3),S.uu,S⟩,by omega⟩;refine kE (xte (xte (xbe ?_)));refine endI S ⟨w1,S.wd.agree,.inl ?_⟩;have h9:k=xs.length:=by simp at h1;omega
 rw[←h9];exact hJk
structure LMark where
 key:List UInt8
 ver:Int
instance encMark:Enc LMark:=⟨2,fun m=>[str m.key,.int .i64 m.ver],fun _=>rfl,fun x u hu=>by simp only[List.mem_cons,List.not_mem_nil,or_false]at hu;rcases hu with rfl | rfl <;> rfl⟩
instance layMark:Lay LMark:={ encMark with
 dflt:=⟨[],0⟩
 inn:=fun _ _=>True
 mono:=fun _ _ _ _ h=>h }
def TabF : World → Prop := fun w => Lib.TabIs Tryz.prog w "internal/strconv.uint64pow10" .u64 Lib.pow10Tab
theorem var_agree {P:Program}{w w':World}{name:String}{cs:Array Value}(h:w.var? P name=some cs)(hw:Agree (fun _=>False) w w'):w'.var? P name=some cs:=by
 unfold World.var? at *;cases hg:P.globalNamed name with
 | none=>rw[hg]at h;cases h
 | some g=>
  rw[hg]at h;simp only[Option.bind_some]at h⊢;cases hb:w.heap[g]? with
  | none=>rw[hb]at h;cases h
  | some o=>rw[hw.blk (Array.getElem?_eq_some_iff.1 hb).1 (fun h=>h),hb];rw[hb]at h;exact h
theorem TabF.stable {w:World}(h:TabF w):Fx w TabF:=fun w' hw'=>var_agree h hw'
theorem itoa_c (n:Int)(h0 : -9223372036854775808≤n∧n≤9223372036854775807)(w0:World)(ht:TabF w0):Ret Tryz.prog 74 [.int .i64 n] w0 (fun _=>False) fun v _=>v=str (Lib.itoa n):=by
 refine Calls.mono (Any.strconv_Itoa Tryz.laysM171 n h0.1 h0.2 w0 ht) ?_;rintro e w' ⟨rfl,k,os,rfl⟩;refine ⟨_,rfl,⟨rfl,rfl,rfl,?_,fun k' hk _=>?_⟩,rfl⟩
 show w0.heap.size≤(w0.heap++os).size
 simp
 show (w0.heap++os)[k']? = w0.heap[k']?
 rw[Array.getElem?_append_left hk]
class I64 (n:Int):Prop where
 lo : -9223372036854775808≤n
 hi:n≤9223372036854775807
theorem parse_dec:∀ (N u:Nat) (r:List UInt8),u≤N→u < 1000000000000000000→Lib.parseUint10 0 (Lib.decDigits u++r)=Lib.parseUint10 u r:=by
 intro N
 induction N with
 | zero=>
  intro u r hu _;obtain rfl:u=0:=by omega
  rw[Lib.decDigits,dif_pos (by omega)]
  show Lib.parseUint10 0 (UInt8.ofNat 48::r)=_
  rw[Lib.parseUint10];rfl
 | succ N ih=>
  intro u r hu hb;have hd:∀ d:Nat,d < 10→(UInt8.ofNat (48+d)).toNat=48+d:=fun d hd=>by rw[UInt8.toNat_ofNat_of_lt' (by show 48+d < 256;omega)]
  rw[Lib.decDigits];split
  ·rename_i h
   show Lib.parseUint10 0 (UInt8.ofNat (48+u)::r)=_
   rw[Lib.parseUint10,hd u h,if_pos (by omega),if_neg (by omega),if_neg (by omega)]
   congr 1;omega
  ·rename_i h
   rw[List.append_assoc,ih (u / 10) _ (by omega) (by omega)]
   show Lib.parseUint10 (u / 10) (UInt8.ofNat (48+u % 10)::r)=_
   rw[Lib.parseUint10,hd (u % 10) (by omega),if_pos (by omega),if_neg (by omega),if_neg (by omega)]
   congr 1;omega
theorem dec_head:∀ (N u:Nat),u≤N→∃ c r,Lib.decDigits u=c::r∧48≤c.toNat∧c.toNat≤57:=by
 intro N
 induction N with
 | zero=>
  intro u hu;obtain rfl:u=0:=by omega
  rw[Lib.decDigits,dif_pos (by omega)];exact ⟨_,_,rfl,by decide,by decide⟩
 | succ N ih=>
  intro u hu;have hd:∀ d:Nat,d < 10→(UInt8.ofNat (48+d)).toNat=48+d:=fun d hd=>by rw[UInt8.toNat_ofNat_of_lt' (by show 48+d < 256;omega)]
  rw[Lib.decDigits];split
  ·rename_i h
   exact ⟨_,_,rfl,by rw[hd u h];omega,by rw[hd u h];omega⟩
  ·rename_i h
   obtain ⟨c,r,h1,h2,h3⟩:=ih (u / 10) (by omega);exact ⟨c,r++[UInt8.ofNat (48+u % 10)],by rw[h1];rfl,h2,h3⟩
theorem atoi_itoa {n:Int}(h:0≤n∧n≤65535):Lib.atoiAll (Lib.itoa n)=.ok n:=by
 have e:Lib.itoa n=Lib.decDigits n.toNat:=by rw[Lib.itoa,if_neg (by omega)]
 obtain ⟨c,r,h1,h2,h3⟩:=dec_head _ n.toNat (Nat.le_refl _);have hp:=parse_dec _ n.toNat [] (Nat.le_refl _) (by omega);rw[List.append_nil,Lib.parseUint10]at hp;have hc:¬(c.toNat=43∨c.toNat=45):=by omega
 have hm:Lib.parseMag (c::r)=.ok n.toNat:=by rw[Lib.parseMag,if_neg (by simp),←h1,hp]
 have hc2:¬c.toNat=45:=by omega
 rw[e,h1];have hb:¬9223372036854775808≤n.toNat:=by omega
 have hc1:¬c.toNat=43:=by omega
 simp only[Lib.atoiAll,hc1,hc2,or_self,if_false,hm,not_false_eq_true,true_and,false_and,hb];rw[show ((n.toNat:Nat):Int)=n from by omega]
instance:IfT Tryz.prog 116:=⟨by kernel_rfl⟩
def VarF (name:String):World→Prop:=fun w=>∃ tp p,w.var? Tryz.prog name=some #[.iface tp p]
theorem atoi_c (s : List UInt8)(hs : s.length ≤ 1000)(w0 : World)(h1 : VarF "strconv.ErrSyntax" w0)(h2 : VarF "strconv.ErrRange" w0) : Ret Tryz.prog 87 [str s] w0 (fun _ => False) fun v _ => ∃ (n : Int) (b : Bool) (te : TypeId) (pe : Value), v = .tuple ⟨[.int .i64 n, errV b te pe]⟩ ∧ (-9223372036854775808 ≤ n ∧ n ≤ 9223372036854775807) ∧ (b = true ↔ ∃ m, Lib.atoiAll s = .ok m) ∧ (∀ m, Lib.atoiAll s = .ok m → n = m) := by
 obtain ⟨tp1,p1,hv1⟩:=h1;obtain ⟨tp2,p2,hv2⟩:=h2;have hsz:(⟨s.toArray⟩:ByteArray).size=s.length:=rfl;rcases h:Lib.atoiAll s with m | _ | _
 refine Calls.mono (Any.strconv_Atoi_ok Tryz.laysC172 ⟨s.toArray⟩ (by rw[hsz];omega) m h w0) ?_;rintro e w' ⟨rfl,hw⟩;refine ⟨_,rfl,?_,m,true,0,.nilIface,rfl,Lib.atoiAll_bounds h,⟨fun _=>⟨m,rfl⟩,fun _=>rfl⟩,fun m' e=>by injection e⟩;rcases hw with rfl | ⟨t,rfl⟩
 exact Agree.refl _ _;exact ⟨rfl,rfl,rfl,by rw[Lib.bytesWorld_size];omega,fun k hk _=>Lib.bytesWorld_at_old _ _ _ k hk⟩;refine Calls.mono (Any.strconv_Atoi_syntax_var Tryz.laysC172 ⟨s.toArray⟩ (by rw[hsz];omega) h tp1 p1 w0 hv1) ?_;rintro e w' ⟨N,rfl,hN,-,hb⟩;refine ⟨_,rfl,?_,0,false,_,_,rfl,⟨by omega,by omega⟩,⟨nofun,fun ⟨m,e⟩=>by cases e⟩,fun m e=>by cases e⟩;exact Agree.ofBelow hb;refine Calls.mono (Any.strconv_Atoi_range_var Tryz.laysC172 ⟨s.toArray⟩ (by rw[hsz];omega) h tp2 p2 w0 hv2) ?_;rintro e w' ⟨N,rfl,hN,-,hb⟩;refine ⟨_,rfl,?_,Lib.atoiSat s,false,_,_,rfl,Lib.atoiSat_bounds s,⟨nofun,fun ⟨m,e⟩=>by cases e⟩,fun m e=>by cases e⟩;exact Agree.ofBelow hb
theorem VarF.stable {name:String}{w:World}(h:VarF name w):Fx w (VarF name):=fun w' hw'=>by
 obtain ⟨tp,p,hv⟩:=h;exact ⟨tp,p,var_agree hv hw'⟩
def LibF : World → Prop := fun w => TabF w ∧ VarF "strconv.ErrSyntax" w ∧ VarF "strconv.ErrRange" w
theorem LibF.stable {w:World}(h:LibF w):Fx w LibF:=fun w' hw'=>⟨h.1.stable w' hw',h.2.1.stable w' hw',h.2.2.stable w' hw'⟩
open Go.ChangeShapes Go.WideShapes Go.ChangeAt Go.RowKit
def laidL {H : Type} : List (String × DataW H) := [("math/bits.deBruijn32tab", Rows.laid_math_bits_deBruijn32tab), ("math/bits.deBruijn64tab", Rows.laid_math_bits_deBruijn64tab), ("internal/strconv.uint64pow10", Rows.laid_internal_strconv_uint64pow10), ("strconv.ErrRange", Rows.laid_strconv_ErrRange), ("strconv.ErrSyntax", Rows.laid_strconv_ErrSyntax)]
abbrev synS:ByteArray:={ data:=#[105,110,118,97,108,105,100,32,115,121,110,116,97,120] }
abbrev rngS:ByteArray:={ data:=#[118,97,108,117,101,32,111,117,116,32,111,102,32,114,97,110,103,101] }
noncomputable def low:Nat:=(World.holding Tryz.prog default ⟨#[],#[],[]⟩).heap.size
def setCells (cs:Array Value):Obj→Obj
 | .cells _ t frozen=>.cells cs t frozen
 | o=>o
noncomputable def laidWorld (os:Os):World:=
 let w0:=World.holding Tryz.prog os ⟨#[.cells #[.string synS] 184,.cells #[.string rngS] 184],#[],[]⟩
 { w0 with heap:=((((w0.heap.modify 0 (setCells #[.iface 182 (.pointer (some ⟨low,0,none⟩))])).modify 1 (setCells #[.iface 182 (.pointer (some ⟨low+1,0,none⟩))])).modify 2 (setCells #[.int .u64 1,.int .u64 10,.int .u64 100,.int .u64 1000,.int .u64 10000,.int .u64 100000,.int .u64 1000000,.int .u64 10000000,.int .u64 100000000,.int .u64 1000000000,.int .u64 10000000000,.int .u64 100000000000,.int .u64 1000000000000,.int .u64 10000000000000,.int .u64 100000000000000,.int .u64 1000000000000000,.int .u64 10000000000000000,.int .u64 100000000000000000,.int .u64 1000000000000000000,.int .u64 10000000000000000000])).modify 3 (setCells #[.int .u8 0,.int .u8 1,.int .u8 28,.int .u8 2,.int .u8 29,.int .u8 14,.int .u8 24,.int .u8 3,.int .u8 30,.int .u8 22,.int .u8 20,.int .u8 15,.int .u8 25,.int .u8 17,.int .u8 4,.int .u8 8,.int .u8 31,.int .u8 27,.int .u8 13,.int .u8 23,.int .u8 21,.int .u8 19,.int .u8 16,.int .u8 7,.int .u8 26,.int .u8 12,.int .u8 18,.int .u8 6,.int .u8 11,.int .u8 5,.int .u8 10,.int .u8 9])).modify 4 (setCells #[.int .u8 0,.int .u8 1,.int .u8 56,.int .u8 2,.int .u8 57,.int .u8 49,.int .u8 28,.int .u8 3,.int .u8 61,.int .u8 58,.int .u8 42,.int .u8 50,.int .u8 38,.int .u8 29,.int .u8 17,.int .u8 4,.int .u8 62,.int .u8 47,.int .u8 59,.int .u8 36,.int .u8 45,.int .u8 43,.int .u8 51,.int .u8 22,.int .u8 53,.int .u8 39,.int .u8 33,.int .u8 30,.int .u8 24,.int .u8 18,.int .u8 12,.int .u8 5,.int .u8 63,.int .u8 55,.int .u8 48,.int .u8 27,.int .u8 60,.int .u8 41,.int .u8 37,.int .u8 16,.int .u8 46,.int .u8 35,.int .u8 44,.int .u8 21,.int .u8 52,.int .u8 32,.int .u8 23,.int .u8 11,.int .u8 54,.int .u8 26,.int .u8 40,.int .u8 15,.int .u8 34,.int .u8 20,.int .u8 31,.int .u8 10,.int .u8 25,.int .u8 14,.int .u8 19,.int .u8 9,.int .u8 13,.int .u8 8,.int .u8 7,.int .u8 6]) }
theorem laidWorld_met (os:Os)(args:Array Value):laidMet Tryz.prog laidL ((laidWorld os).forCall (fun _ _=>0) ⟨#[],args,[]⟩).memory:=
 laidMet_of_run' 8 (by kernel_rfl) (by kernel_rfl)
theorem itoa_len {n:Int}(h:0≤n∧n≤65535):(Lib.itoa n).length≤64:=Nat.le_trans (Lib.itoa_length_le n (by omega) (by omega)) (by omega)
deriving instance DecidableEq for LMark
section
variable {l:Cx}{bs:List Wk.Item}{fs:List (World→Prop)}{x y:Operand}{m n:LMark}{t' ty:TypeId}
end
def signT (u n:Int)(a:Term):Term:=.mk 8 u n [] [a]
theorem good_signK {x:LTerm}(h:Good x.t)(hk:x.kind=8):x.kids.length=1∧x.t=signT x.user x.num (nthL x.kids 0).t∧(1≤x.user∧x.user≤6)∧(0≤x.num∧x.num≤65535):=by
 have h':=h;rw[x.t_eq]at h;have hp:=plain_shape (goodP h);rw[hk]at hp;have hq:1≤x.user∧x.user≤6∧0≤x.num∧x.num≤65535∧x.text=[]∧x.kids.length=1:=by
  rcases hp with q | q | q | q | q | q | q
  all_goals first | (obtain ⟨-,q⟩:=q;simpa using q) | omega
 obtain ⟨q1,q2,q3,q4,q5,q6⟩:=hq;refine ⟨q6,?_,⟨q1,q2⟩,⟨q3,q4⟩⟩;obtain ⟨u,hu⟩:∃ u,x.kids=[u]:=by
  match h:x.kids,q6 with
  | [u],_=>exact ⟨u,rfl⟩
 rw[x.t_eq,hk,q5,hu];rfl
theorem good_sign {u n:Int}{a:Term}(hu:1≤u∧u≤6)(hn:0≤n∧n≤65535)(ha:Good a)(hc:cnt a≤1199)(h1:dpt a≤59):Good (signT u n a):=by
 refine good_mk ?_ (by simp;exact ha) (by simp[cntL];omega) (by simp[dptL];omega);simp[plainF,show fieldsOf 8=14 from rfl,show hasF 14 1=false from by decide,show hasF 14 2=true from by decide,show hasF 14 4=true from by decide,show kidsF 14=1 from by decide,knownF,hu.1,hu.2,hn.1,hn.2]
theorem sign_c (u n:Int)(x:LTerm)(M:Nat→Prop)(w0:World)(hM:∀ k,M k→k < w0.heap.size)(hx:Stable M w0 (LtF x)):Ret Tryz.prog 15 [.int .i64 u,.int .i64 n,vL x] w0 (fun _=>False) fun v w'=>IsT M w' v (signT u n x.t):=by
 refine E1 Tryz.func15 rfl Tryz.ntmps15 (Wd.beginM (M:=M) (fs:=[LtF x]) hM (by simpa using hx)) ?_;intro a S;refine kS (kR ?_);refine sa S ?_;intro b5 a w S;refine sa S ?_;intro b6 a w S;refine J5 ?_;intro a S;refine sn S ?_;intro b9 a w S;refine Y1 ?_;intro a w S;refine sa S ?_;intro b7 a w S;refine Y20 ?_;intro a w S;refine end1 S (fun _=>?_);refine ⟨.mk 8 u n [] (some ⟨b9,0,none⟩) 1 [x],rfl,rfl,fun w' hw'=>?_⟩;have h1:=S.laterFact (Φ:=LtF x) (by simp) w' hw';exact ⟨by simp,by simp[maxLen],LsIn.of_block [x] (S.laterBox hw' b9) (fun y hy=>by obtain rfl:=List.mem_singleton.1 hy;exact h1)⟩
theorem good_textK {x:LTerm}(h:Good x.t)(hk:x.kind=1):x.t=textT x.text∧x.text.length≤64:=by
 rw[x.t_eq]at h;have hp:=plain_shape (goodP h);rw[hk]at hp;have hq:x.user=0∧x.num=0∧x.text.length≤64∧x.kids.length=0:=by
  rcases hp with q | q | q | q | q | q | q
  all_goals first | (obtain ⟨-,q⟩:=q;simpa using q) | omega
 have h0:x.kids=[]:=List.eq_nil_of_length_eq_zero hq.2.2.2;refine ⟨?_,hq.2.2.1⟩;rw[x.t_eq,hk,hq.1,hq.2.1,h0];rfl
theorem starE : "*" ++ "errors.errorString" = "*errors.errorString" := by decide
theorem rowE (u : TypeId)(h : Tryz.prog.typeName? 3 u = some "*errors.errorString") : u = 182 :=
 typeName_ptr_named (nm := "errors.errorString") (by rw [starE]; kernel_rfl) (by kernel_rfl) (by decide) u (by rw [starE]; exact h)
theorem pow10_data:(Rows.laid_internal_strconv_uint64pow10:DataW Unit)=Lib.tabData .u64 Lib.pow10Tab:=by kernel_rfl
theorem lib_of_laid {W:World}(h:laidMet Tryz.prog laidL W):LibF W:=by
 have h3:=h.tail.tail;have h4:=h3.tail;have h5:=h4.tail;refine ⟨?_,?_,?_⟩;refine Lib.tabIs_of_head (rest := [("strconv.ErrRange", Rows.laid_strconv_ErrRange), ("strconv.ErrSyntax", Rows.laid_strconv_ErrSyntax)]) (g := 2) (t := 178) (e := 139) (n := 20) (by kernel_rfl) (by kernel_rfl) (by kernel_rfl) (by kernel_rfl) (by kernel_rfl) (by kernel_rfl) ?_
 rw[←pow10_data];exact h3;obtain ⟨a,s,hv,-⟩:=laid_sentinel h5 (g:=0) (ti:=116) (by kernel_rfl) (by kernel_rfl) Tryz.underlying116 rowE Tryz.underlying182 Tryz.underlying184 rfl rfl Tryz.underlying9 (by kernel_rfl) (by kernel_rfl);exact ⟨_,_,hv⟩;obtain ⟨a,s,hv,-⟩:=laid_sentinel h4 (g:=1) (ti:=116) (by kernel_rfl) (by kernel_rfl) Tryz.underlying116 rowE Tryz.underlying182 Tryz.underlying184 rfl rfl Tryz.underlying9 (by kernel_rfl) (by kernel_rfl);exact ⟨_,_,hv⟩
end Go.Proofs.YtibkkbknnfehlaaGreatDoor
namespace Go.Wk
open Go
def RetP (P:Program)(f:Nat)(args:List Value)(w:World)(M:Nat→Prop)(R:Value→World→Prop)(X:List PanicEntry→World→Prop):Prop:=
 Calls P f args.toArray w fun e w'=>(∃ v,e=.returned v∧Agree M w w'∧R v w')∨∃ ch,e=.panicked ch∧Agree M w w'∧X ch w'
def pch (v:Value):List PanicEntry:=[{ v:=v,recovered:=false }]
section
variable {P:Program}{r:Option Nat}{ops:Array Oper}{Q:Exit→Act→World→Prop}{w0:World}{M0:Nat→Prop}{ds:List Deferred}{a:Act}{w:World}{l l':List Value}{bs bs':List Item}{fs:List (World→Prop)}
 {d:Option Nat} {op:Op} {ty:TypeId} {pos:String} {af:Array Edge} {rest:List Oper} {v v' G:Value} {f:Nat} {x:Operand} {xs:List Operand} {args:List Value} {ts:Array TypeId} {j g:Nat} {pol:Bool} {cs:List Bool}
theorem cv_anyP [EntF P f][CallTo ⟨[],l⟩ x xs f args](S:St w0 M0 ds a w l bs fs){R:Ending→World→Prop}(hc:Calls P f args.toArray w R)
  (K:∀ e w',R e w'→(∃ v,e=.returned v∧WL P r ops Q rest (a.put d v) w')∨∃ ch,e=.panicked ch∧Q (.panic ch) a w') :
  WL P r ops Q (⟨d,.call { callee:=.value x,args:=xs.toArray,argTypes:=ts },ty,pos,af,none⟩::rest) a w:=by
 refine wl_plain rfl ?_;rw[semAt_nd rfl];simp only[run_callto (f:=f) (args:=args) S.fr,Oper.uponIn];refine ⟨fun h=>(by cases h),trivial,fun cs _=>?_⟩;obtain ⟨e,w',fr,hR,hcm,h1,h2⟩:=hc cs;rcases K e w' hR with ⟨v,rfl,hk⟩ | ⟨ch,rfl,hk⟩
 exact ⟨.returned v,w',fr,hk,(comesIn_wide (m:=lone (Frame.enter P f args.toArray .normal) cs w) (e:=.returned v)).2 hcm,h1,h2⟩;exact ⟨.panicked ch,w',fr,hk,(comesIn_wide (m:=lone (Frame.enter P f args.toArray .normal) cs w) (e:=.panicked ch)).2 hcm,h1,h2⟩
theorem srP {l':Value→List Value}[EntF P f][CallTo ⟨[],l⟩ x xs f args][hp:∀ v,PutO l d v (l' v)](S:St w0 M0 ds a w l bs fs){R:Value→World→Prop}{X:List PanicEntry→World→Prop}(hc:RetP P f args w (fun _=>False) R X)
  (Kp:∀ ch w',X ch w'→St w0 M0 ds a w' l bs fs→Q (.panic ch) a w')
  (K:∀ v a w',R v w'→St w0 M0 ds a w' (l' v) bs fs→WL P r ops Q rest a w') :
  WL P r ops Q (⟨d,.call { callee:=.value x,args:=xs.toArray,argTypes:=ts },ty,pos,af,none⟩::rest) a w:=by
 refine cv_anyP S hc ?_;rintro e w' (⟨v,rfl,ha,hR⟩ | ⟨ch,rfl,ha,hX⟩);have:=hp v;have S':=S.put (d:=d) (v:=v);exact .inl ⟨v,rfl,K v _ w' hR ⟨S'.slots,S'.defers,S'.wd.step ha⟩⟩;exact .inr ⟨ch,rfl,Kp ch w' hX ⟨S.slots,S.defers,S.wd.step ha⟩⟩
theorem sPan {tp:TypeId}[hx:Ev ⟨[],l⟩ x (.iface tp v)](S:St w0 M0 ds a w l bs fs)(h:St w0 M0 ds a w l bs fs→Q (.panic (pch (.iface tp v))) a w):WL P r ops Q (⟨d,.panic x,ty,pos,af,none⟩::rest) a w:=by
 refine wl_plain rfl ?_;rw[semAt_nd rfl];have hf:a.eval x=.iface tp v:=S.fr.ev;have:(xop a.eval (.panic x) ty).run P w=.halt (.panic (.iface tp v)) w:=by
  simp[xop,execOp,hf,Instr.panic,goPanic,Sem.run]
 rw[this];exact h S
variable {fn:Func}{R:Value→World→Prop}{X:List PanicEntry→World→Prop}{e:Exit}
theorem endP (h:bodyPost P fn (fun e w'=>∃ v,e=.returned v∧Agree M0 w0 w'∧R v w') e a w) :
  bodyPost P fn (fun e w'=>(∃ v,e=.returned v∧Agree M0 w0 w'∧R v w')∨∃ ch,e=.panicked ch∧Agree M0 w0 w'∧X ch w') e a w:=by
 cases e <;> simp only[bodyPost]at h⊢<;> first | exact h | skip
 exact ⟨h.1,h.2.choose,h.2.choose_spec.1,.inl h.2.choose_spec.2⟩;exact ⟨h.1,h.2.choose,h.2.choose_spec.1,.inl h.2.choose_spec.2⟩;exact ⟨h.1,.inl h.2⟩;exact .inl h
theorem endX {ch:List PanicEntry}(S:St w0 M0 [] a w l bs fs)(h:X ch w) :
  bodyPost P fn (fun e w'=>(∃ v,e=.returned v∧Agree M0 w0 w'∧R v w')∨∃ ch,e=.panicked ch∧Agree M0 w0 w'∧X ch w') (.panic ch) a w:=
 ⟨S.defers,.inr ⟨ch,rfl,S.wd.agree,h⟩⟩
theorem enterD {f:Nat}{fn:Func}{c:Code}{args:List Value}{l:List Value}{R:Ending→World→Prop}{M0:Nat→Prop}{bs:List Item}{fs:List (World→Prop)}
  (hf:P.funcs[f]? = some fn) (hb:fn.body=some c) (hl:args++List.replicate (fn.ntmps - args.length) undef=l) (hw:Wd w M0 w bs fs)
  (h:∀ a,St w M0 [] a w l bs fs→Wp P none c (bodyPostDIn (FW none) 0 P fn R) a w):Calls P f args.toArray w R:=by
 refine (callsIn_wide (n:=0)).1 (callsIn_of_wp_defers (F:=FW none) (n:=0) hf hb trivial (h _ ⟨?_,rfl,hw⟩));simp[←hl]
theorem sdef {fi ca:List Value}{l':List Value}[hx:Ev ⟨[],l⟩ x (.func (.func f) ⟨fi⟩ ⟨ca⟩)][hp:PutO l d undef l'](S:St w0 M0 ds a w l bs fs)
  (K:∀ a,St w0 M0 ({ target:=.fn (.func f) ⟨ca⟩,args:=⟨fi⟩ }::ds) a w l' bs fs→WL P none ops Q rest a w) :
  WL P none ops Q (⟨d,.defer { callee:=.value x,args:=#[],argTypes:=ts },ty,pos,af,none⟩::rest) a w:=by
 refine wl_plain rfl ?_;have hf:a.eval x=.func (.func f) ⟨fi⟩ ⟨ca⟩:=S.fr.ev;rw[Oper.semAt_none];have:(execOp a.eval ⟨d,.defer { callee:=.value x,args:=#[],argTypes:=ts },ty,pos,af,none⟩).run P w=.ok (.defer { target:=.fn (.func f) ⟨ca⟩,args:=⟨fi⟩ }) w:=by
  simp[execOp,resolve,hf,Deferred.ofValue]
 rw[this];obtain ⟨t,dd⟩:=a;have:=S.slots;simp at this;subst this;have hd:=S.defers;simp at hd;subst hd
 show WL P none ops Q rest _ w
 rw[hp.eq];exact K _ ⟨rfl,rfl,S.wd⟩
theorem leaveRet {g:Nat}{ca:List Value}{K:World→Prop}{Rr:Ending→World→Prop}[he:EntF P g](hd:a.defers=[{ target:=.fn (.func g) ⟨ca⟩,args:=#[] }])
  (hc:CallsDIn (FW none) 0 P g ca.toArray .returning w fun e u' w'=>(∃ v,e=.returned v)∧u'=.returning∧K w')
  (hk:∀ w',K w'→∃ v,(results fn a.tmps).run P w'=.ok v w'∧Rr (.returned v) w') (hx:e=.ret∨e=.normal:=by simp):bodyPostDIn (FW none) 0 P fn Rr e a w:=by
 have key:LeavesIn (FW none) 0 P fn a.tmps Rr a.defers .returning w:=by
  rw[hd];refine leavesIn_cons (f:=g) (args:=ca.toArray) (by simp) (fun h=>by cases h) ?_ (fun _ _=>trivial) (hc.mono ?_);have:=he.run ca.toArray w;simpa [invoke] using this;rintro e u' w' ⟨⟨v,rfl⟩,rfl,hK⟩;obtain ⟨v,h1,h2⟩:=hk w' hK;exact ⟨v,h1,h2⟩
 rcases hx with rfl | rfl <;> exact key
theorem leavePan {g:Nat}{ca:List Value}{pv:Value}{K:World→Prop}{Rr:Ending→World→Prop}[he:EntF P g](hd:a.defers=[{ target:=.fn (.func g) ⟨ca⟩,args:=#[] }])
  (hc:CallsDIn (FW none) 0 P g ca.toArray (.panicking (pch pv)) w fun e u' w'=>(∃ v,e=.returned v)∧u'=.panicking [{ v:=pv,recovered:=true }]∧K w')
  (hk:∀ w',K w'→∃ v,(results fn a.tmps).run P w'=.ok v w'∧Rr (.returned v) w'):bodyPostDIn (FW none) 0 P fn Rr (.panic (pch pv)) a w:=by
 show LeavesIn (FW none) 0 P fn a.tmps Rr a.defers (.panicking (pch pv)) w
 rw[hd];refine leavesIn_cons (f:=g) (args:=ca.toArray) (by simp) (fun h=>by cases h) ?_ (fun _ _=>trivial) (hc.mono ?_);have:=he.run ca.toArray w;simpa [invoke] using this;rintro e u' w' ⟨⟨v,rfl⟩,rfl,hK⟩;obtain ⟨v,h1,h2⟩:=hk w' hK;exact ⟨v,h1,h2⟩
theorem callsD_catch {f:Nat}{fn:Func}{rest:Code}{id t6 t3:Nat}{ty0 ty1:TypeId}{pos0 pos1:String}{af0 af1:Array Edge}{args l:List Value}{l1 l2:Value→List Value}{u:FrameMode}{w0:World}{M0:Nat→Prop}{bs:List Item}{fs:List (World→Prop)}{Rr:Ending→FrameMode→World→Prop}
  (hf:P.funcs[f]? = some fn) (hb:fn.body=some (.seq (.region id #[⟨some t6,.call { callee:=.builtin .recover,args:=#[],argTypes:=#[] },ty0,pos0,af0,none⟩,⟨some t3,.assign (.tmp t6),ty1,pos1,af1,none⟩] false) rest))
  (hl:args++List.replicate (fn.ntmps - args.length) undef=l) (hw:Wd w0 M0 w bs fs) [hp1:∀ x,PutAt l t6 x (l1 x)] [hn1:∀ x,Nth (l1 x) t6 x] [hp2:∀ x,PutAt (l1 x) t3 x (l2 x)]
  (hu:u=.returning∨∃ pv,u=.panicking (pch pv))
  (h:∀ (x:Value) (u':FrameMode),(u=.returning∧x=.nilIface∧u'=u∨∃ pv,u=.panicking (pch pv)∧x=pv∧u'=.panicking [{ v:=pv,recovered:=true }])→
   ∀ a,St w0 M0 [] a w (l2 x) bs fs→Wp P none rest (fun e a' w'=>(e=.normal∨e=.ret)∧a'.defers=[]∧∃ v,(results fn a'.tmps).run P w'=.ok v w'∧Rr (.returned v) u' w') a w) :
  CallsDIn (FW none) 0 P f args.toArray u w Rr:=by
 have main:∀ (c₀:Frame) (cs:List Frame) (x:Value) (u':FrameMode),c₀.mode=u→
   (u=.returning∧x=.nilIface∧u'=u∨∃ pv,u=.panicking (pch pv)∧x=pv∧u'=.panicking [{ v:=pv,recovered:=true }])→
   rest.wpSIn (FW none) 0 P (bodyPostS P fn c₀ cs Rr) ⟨(l2 x).toArray,[]⟩ ({ c₀ with mode:=u' }::cs) w:=by
  intro c₀ cs x u' _ hx;refine wpSIn_of_wpIn rfl (wpIn_mono (h x u' hx ⟨(l2 x).toArray,[]⟩ ⟨rfl,rfl,hw⟩) fun e a' w' hq=>?_);obtain ⟨he,hd,v,h1,h2⟩:=hq;rcases he with rfl | rfl <;> exact ⟨hd,u',rfl,v,h1,h2⟩
 refine callsDIn_of_wpSIn hf hb trivial fun c₀ cs hc₀=>wpSIn_seq (wpSIn_region ?_)
 have hl':args.toArray++Array.replicate (fn.ntmps - args.toArray.size) undef=l.toArray:=by rw[←hl];simp
 rw[hl'];have step:∀ x,((⟨l.toArray,[]⟩:Act).put (some t6) x).put (some t3) (((⟨l.toArray,[]⟩:Act).put (some t6) x).eval (.tmp t6))=⟨(l2 x).toArray,[]⟩:=fun x=>by
  have e1:(⟨l.toArray,[]⟩:Act).put (some t6) x=⟨(l1 x).toArray,[]⟩:=(puto1 (l:=l) (l':=l1 x) (v:=x) (n:=t6)).eq [];have e2:(⟨(l1 x).toArray,[]⟩:Act).eval (.tmp t6)=x:=by
   have:=(hn1 x).eq;simp[Act.eval,Array.getD_eq_getD_getElem?,this]
  rw[e1,e2];exact (puto1 (l:=l1 x) (l':=l2 x) (v:=x) (n:=t3)).eq []
 have hr0:∀ (a:Act),(execOp a.eval ⟨some t6,.call { callee:=.builtin .recover,args:=#[],argTypes:=#[] },ty0,pos0,af0,none⟩).run P w=.ok .recover w:=fun a=>by
  simp[execOp,resolve,invoke,builtin]
 have hr1:∀ (a:Act),(execOp a.eval ⟨some t3,.assign (.tmp t6),ty1,pos1,af1,none⟩).run P w=.ok (.value (a.eval (.tmp t6))) w:=fun a=>by
  simp[execOp]
 have hcs:({ c₀ with mode:=u } : Frame)=c₀:=by subst hc₀;rfl
 rw[show List.range (#[(⟨some t6,.call { callee:=.builtin .recover,args:=#[],argTypes:=#[] },ty0,pos0,af0,none⟩:Oper),⟨some t3,.assign (.tmp t6),ty1,pos1,af1,none⟩]:Array Oper).size=[0,1] from rfl];simp only[wpOpsSIn,List.getElem?_toArray,List.getElem?_cons_zero,List.getElem?_cons_succ,hr0,hr1];refine ⟨fun _ _=>trivial,?_⟩;rw[if_pos (by rfl)];rcases hu with rfl | ⟨pv,rfl⟩
 have:recoverD (c₀::cs)=none:=by simp[recoverD,hc₀]
 rw[this];refine ⟨fun _ _=>trivial,?_⟩;rw[if_pos (by rfl)];have hm:=main c₀ cs .nilIface .returning hc₀ (.inl ⟨rfl,rfl,rfl⟩);rw[hcs]at hm;rw[←step]at hm;exact hm;have:recoverD (c₀::cs)=some (pv,{ c₀ with mode:=.panicking [{ v:=pv,recovered:=true }] }::cs):=by simp[recoverD,hc₀,pch]
 rw[this];refine ⟨fun _ _=>trivial,?_⟩;rw[if_pos (by rfl)];have hm:=main c₀ cs pv _ hc₀ (.inr ⟨pv,rfl,rfl,rfl⟩);rw[←step]at hm;exact hm
end
theorem resC {P:Program}{fn:Func}{w0:World}{M0:Nat→Prop}{a:Act}{w:World}{l:List Value}{bs:List Item}{fs:List (World→Prop)}[hr:FnRes fn []](S:St w0 M0 [] a w l bs fs):(results fn a.tmps).run P w=.ok (.tuple #[]) w:=by
 rw[S.slots,results_eq (rs:=[])];simp
theorem res3 {P:Program}{fn:Func}{t:Array Value}{w:World}{l:List Value}{bs:List Item}{r1 r2 r3:ResultVar}{v1 v2 v3:Value}[hr:FnRes fn [r1,r2,r3]](hs:t=l.toArray)[h1:ResV P l bs r1 v1][h2:ResV P l bs r2 v2][h3:ResV P l bs r3 v3](hh:∀ it∈bs,it.holds w):(results fn t).run P w=.ok (.tuple ⟨[v1,v2,v3]⟩) w:=by
 rw[hs,results_eq (rs:=[r1,r2,r3])];simp[run_res (P:=P) (l:=l) (bs:=bs) (rv:=r1) (v:=v1) w hh,run_res (P:=P) (l:=l) (bs:=bs) (rv:=r2) (v:=v2) w hh,run_res (P:=P) (l:=l) (bs:=bs) (rv:=r3) (v:=v3) w hh]
structure XP where
 keep:List (Nat × Value)
 dss:List Deferred
 XW:List PanicEntry→World→Prop
def XP.at (x:XP):Exit→Act→World→Prop
 | .panic ch,a,w=>(∀ p∈x.keep,a.tmps[p.1]? = some p.2)∧a.defers=x.dss∧x.XW ch w
 | _,_,_=>False
def XP.off (x:XP)(o:Oper):Prop:=∀ p∈x.keep,o.dst≠some p.1
theorem XP.put {x:XP}{o:Oper}(h:x.off o){ch:List PanicEntry}{a:Act}{v:Value}{w:World}(hp:x.at (.panic ch) (a.put o.dst v) w):x.at (.panic ch) a w:=by
 obtain ⟨h1,h2,h3⟩:=hp;refine ⟨fun p hpk=>?_,?_,h3⟩;have h1:=h1 p hpk;have h0:=h p hpk;cases hd:o.dst with
 | none=>rw[hd]at h1;exact h1
 | some n=>
  rw[hd]at h1;have hne:n≠p.1:=fun e=>h0 (by rw[hd,e])
  simpa [Act.put,Array.getElem?_setIfInBounds,hne] using h1
 cases hd:o.dst <;> rw[hd]at h2 <;> exact h2
section
variable {P:Program}{ops:Array Oper}{C:World→Prop}{X:XP}
abbrev WNX (P:Program)(ops:Array Oper)(X:XP)(i:Nat)(K:Act→World→Prop)(a:Act)(w:World):Prop:=wpOpIn (FW none) 0 P ops X.at i K a w
theorem YieldsC.wnx {i:Nat}{o:Oper}{v:Value}{a:Act}(hi:ops[i]? = some o)(hy:YieldsC P ops C o v a)
  {K:Act→World→Prop} {w:World} (hC:C w) (h:K (a.put o.dst v) w):WNX P ops X i K a w:=by
 unfold WNX wpOpIn;simp only[hi];rcases hy with ⟨hw,hv⟩ | ⟨hw,rfl⟩
 simp only[hw,if_true,Oper.wpIn,Oper.semAt_none,hv w hC,Oper.uponIn];exact ⟨fun _ _=>trivial,h⟩;simp only[hw,Bool.false_eq_true,if_false];exact ⟨fun _ _=>trivial,h⟩
theorem wnx_put {j:Nat}{oi oj:Oper}{v:Value}(hj:ops[j]? = some oj)(hap:oi.apart ops oj=true)(hoff:X.off oi)
  (hsi:∀ cs b,oi.op≠.select cs b) (hsj:∀ cs b,oj.op≠.select cs b) {K:Act→World→Prop} {a:Act} {w:World}
  (hy:YieldsC P ops C oi v a) (h:WNX P ops X j K (a.put oi.dst v) w) :
  WNX P ops X j (fun a' w'=>YieldsC P ops C oi v a'∧K (a'.put oi.dst v) w') a w:=by
 obtain ⟨h1,h2,h3⟩:=Oper.apart_spec hap;have keep:∀ (a:Act),YieldsC P ops C oi v a→∀ u,YieldsC P ops C oi v (a.put oj.dst u):=fun a hy u=>
  hy.of_same (execOp_put oi hsi a oj.dst u h3) (wanted_put oi a oj.dst u h3)
 have keepD:∀ d,YieldsC P ops C oi v { a with defers:=d::a.defers }:=fun d=>hy.of_same rfl rfl
 have lets:LetsOut X.at→LetsOut X.at:=id;unfold WNX wpOpIn at *;simp only[hj]at *;rw[wanted_put oj a oi.dst v h1]at h;split
 ·rename_i hw
  simp only[hw,if_true]at h;unfold Oper.wpIn at *;refine ⟨fun _ _=>trivial,?_⟩;have h:=h.2;rw[Oper.semAt_none,execOp_put oj hsj a oi.dst v h1]at h;rw[Oper.semAt_none]
  generalize (execOp a.eval oj).run P w=r at *
  cases r with
  | ok x w'=>
   cases x <;> simp only[Oper.uponIn]at h⊢
   case value u=>exact ⟨keep a hy u,by rw[←Act.put_comm a v u h2];exact h⟩
   case skip=>exact ⟨keep a hy _,by rw[←Act.put_comm a v undef h2];exact h⟩
   case defer d=>
    refine ⟨keep _ (keepD d) _,?_⟩;rw[←Act.put_comm _ v undef h2,←Act.put_defers];exact h
   case enter f args=>
    refine ⟨h.1,CallsIn.mono h.2 fun e w'' he=>?_⟩;cases e with
    | returned u=>exact ⟨keep a hy u,by rw[←Act.put_comm a v u h2];exact he⟩
    | panicked c=>exact XP.put hoff he
    | outgrown=>exact he
   case row row args=>exact ⟨h.1,RowsIn.mono h.2 fun u w'' he=>⟨keep a hy u,by rw[←Act.put_comm a v u h2];exact he⟩⟩
   case round l f tmps assign body=>
    refine ⟨h.1,RoundIn.mono h.2 fun e w'' he=>?_⟩;cases e with
    | returned u=>exact ⟨keep a hy u,by rw[←Act.put_comm a v u h2];exact he⟩
    | panicked c=>exact XP.put hoff he
    | outgrown=>exact he
  | halt x w'=>
   cases x <;> simp only[Oper.uponIn]at h⊢
   case panic u=>exact XP.put hoff h
 ·rename_i hw
  simp only[hw]at h;exact ⟨fun _ _=>trivial,keep a hy _,by rw[←Act.put_comm a v undef h2];exact h.2⟩
def ACX (P:Program)(ops:Array Oper)(X:XP)(C:World→Prop)(R:Act→World→Prop):Nat→Array Bool→Act→World→Prop
 | 0,listed,a,w=>Region.ready .any ops listed=[]∧R a w
 | fuel+1,listed,a,w=>
  (Region.ready .any ops listed=[]→R a w)∧
  ∀ i∈Region.ready .any ops listed,WNX P ops X i (fun a' w'=>C w'∧ACX P ops X C R fuel (listed.setIfInBounds i true) a' w') a w
variable {R:Act→World→Prop}
theorem acx_first {i:Nat}{oi:Oper}{v:Value}(hi:ops[i]? = some oi)(hoff:X.off oi)(hsel:∀ (j:Nat) (o:Oper) cs b,ops[j]? = some o→o.op≠.select cs b) :
  ∀ (fuel:Nat) (listed:Array Bool) (a:Act) (w:World),
   (∀ j oj,ops[j]? = some oj→j≠i→listed.getD j true=false→(∀ e∈oj.after,Region.binds .any e=true→e.on≠i)→oi.apart ops oj=true)→
   i∈Region.ready .any ops listed→YieldsC P ops C oi v a→C w→
   ACX P ops X C R fuel (listed.setIfInBounds i true) (a.put oi.dst v) w→ACX P ops X C R (fuel+1) listed a w:=by
 intro fuel
 induction fuel with
 | zero=>
  intro listed a w _ hr hy hS H;refine ⟨fun h=>(by rw[h]at hr;cases hr),fun j hj=>?_⟩
  by_cases hji:j=i
  ·subst hji;exact hy.wnx hi hS ⟨hS,H⟩
  ·have:=ready_mono hj hji
   rw[H.1]at this;cases this
 | succ fuel ih=>
  intro listed a w hfree hr hy hS H;refine ⟨fun h=>(by rw[h]at hr;cases hr),fun j hj=>?_⟩
  by_cases hji:j=i
  ·subst hji;exact hy.wnx hi hS ⟨hS,H⟩
  ·have h1:=H.2 j (ready_mono hj hji)
   obtain ⟨hjun,oj,hoj,hall⟩:=mem_ready.1 hj;have hnot:∀ e∈oj.after,Region.binds .any e=true→e.on≠i:=fun e he hb heq=>by
    have h1:=hall e he hb;have h0:=(mem_ready.1 hr).1;rw[heq]at h1;rcases Nat.lt_or_ge i listed.size with h' | h'
    ·simp[h']at h0 h1;rw[h0]at h1;cases h1
    ·simp[Array.getElem?_eq_none h']at h1
   have h2:=wnx_put hoj (hfree j oj hoj hji hjun hnot) hoff (fun cs b=>hsel i oi cs b hi) (fun cs b=>hsel j oj cs b hoj) hy h1;have hfree':∀ k ok,ops[k]? = some ok→k≠i→(listed.setIfInBounds j true).getD k true=false→
     (∀ e∈ok.after,Region.binds .any e=true→e.on≠i)→oi.apart ops ok=true:=fun k ok hk hki hun hno=>by
    refine hfree k ok hk hki ?_ hno
    by_cases hjk:j=k
    ·subst hjk;exact hjun
    ·rw[getD_set_ne true hjk]at hun;exact hun
   refine wpOpIn_mono (fun a' w' h3=>⟨h3.2.1,ih (listed.setIfInBounds j true) a' w' hfree' (ready_mono hr (Ne.symm hji)) h3.1 h3.2.1 ?_⟩) h2;rw[Array.setIfInBounds_comm _ _ hji];exact h3.2.2
variable {r:Option Nat}{Q:Exit→Act→World→Prop}{w0:World}{M0:Nat→Prop}{ds:List Deferred}{a:Act}{w:World}{l l':List Value}{bs bs' bs0:List Item}{fs fs0:List (World→Prop)}
 {d:Option Nat} {op:Op} {ty:TypeId} {pos:String} {af:Array Edge} {rest:List Oper} {v v' G:Value} {j g:Nat} {pol:Bool} {cs:List Bool} {n:Nat} {listed:Array Bool}
def XP.offB (x:XP)(ops:Array Oper):Bool:=ops.toList.all fun o=>x.keep.all fun p=>match o.dst with | some n=>!Nat.beq n p.1 | none=>true
theorem XP.offB_spec {x:XP}{ops:Array Oper}(h:x.offB ops=true){i:Nat}{o:Oper}(hi:ops[i]? = some o):x.off o:=by
 intro p hp e;have h1:=List.all_eq_true.1 (List.all_eq_true.1 h o (by rw[←Array.getElem?_toList]at hi;exact List.mem_of_getElem? hi)) p hp;rw[e]at h1;simp at h1
def AQX (P:Program)(ops:Array Oper)(X:XP)(C:World→Prop)(R:Act→World→Prop)(ord:List (Nat × Bool))(a:Act)(w:World):Prop:=
 ∀ listed,Region.noSelect ops=true→X.offB ops=true→flowFrom ops ord listed=true→ACX P ops X C R ord.length listed a w
variable {ord:List (Nat × Bool)}{i:Nat}
theorem dqX (S:St w0 M0 ds a w l bs fs)[hb:SubL bs0 bs][hf:SubL fs0 fs][ho:OpAt ops i ⟨d,op,ty,pos,af,none⟩][hq:OpQ P op ty ⟨[],l⟩ bs0 fs0 v][hp:PutO l d v l']
  (K:∀ a,St w0 M0 ds a w l' bs fs→AQX P ops X (fun w=>Wd w0 M0 w bs0 fs0) R ord a w) :
  AQX P ops X (fun w=>Wd w0 M0 w bs0 fs0) R ((i,true)::ord) a w:=by
 intro listed hs hx hflow;simp only[flowFrom,Bool.and_eq_true]at hflow;refine acx_first ho.eq (XP.offB_spec hx ho.eq) (Region.noSelect_spec hs) _ listed a w (Region.free_spec ho.eq hflow.1.2) (by simpa using hflow.1.1) (v:=v) (.inl ⟨rfl,fun w' hw'=>?_⟩) (S.wd.sub hb.sub hf.sub) (K _ S.put _ hs hx hflow.2);rw[execOp_eq];exact hq.run a.eval w' S.fr hw'.mem
theorem dlX {o:Oper}{C:World→Prop}[ho:OpAt ops i o](h:WL P none ops (fun e a' w'=>(e=.normal∧C w'∧AQX P ops X C R ord a' w')∨X.at e a' w') [o] a w):AQX P ops X C R ((i,false)::ord) a w:=by
 intro listed hs hx hflow;simp only[flowFrom,Bool.and_eq_true]at hflow;have hr:Region.ready .any ops listed=[i]:=by
  have:=hflow.1;split at this
  ·rename_i k hk;rw[hk,Nat.eq_of_beq_eq_true this]
  ·cases this
 refine ⟨fun h0=>(by rw[h0]at hr;cases hr),fun k hk=>?_⟩;rw[hr]at hk;obtain rfl:k=i:=by simpa using hk
 have nor:∀ {p:Prop} {a':Act} {w':World},((p∧C w'∧AQX P ops X C R ord a' w')∨X.at .normal a' w')→C w'∧ACX P ops X C R ord.length (listed.setIfInBounds k true) a' w':=by
  rintro p a' w' (⟨-,h1,h2⟩ | h)
  ·exact ⟨h1,h2 _ hs hx hflow.2⟩
  ·exact h.elim
 have pan:∀ {c:List PanicEntry} {a':Act} {w':World},((Exit.panic c=Exit.normal∧C w'∧AQX P ops X C R ord a' w')∨X.at (.panic c) a' w')→X.at (.panic c) a' w':=by
  rintro c a' w' (⟨h,-⟩ | h)
  ·cases h
  ·exact h
 unfold WNX wpOpIn;simp only[ho.eq];simp only[WL,wpListIn]at h;split
 ·rename_i hw
  rw[if_pos hw]at h;refine ⟨fun _ _=>trivial,?_⟩;have h:=h.2
  generalize (o.semAt (FW none).round a.eval).run P w=q at *
  cases q with
  | ok x w'=>
   cases x <;> simp only[Oper.uponIn]at h⊢
   case value u=>exact nor h
   case skip=>exact nor h
   case defer d=>exact nor h
   case enter f args=>
    refine ⟨h.1,CallsIn.mono h.2 fun e w'' he=>?_⟩;cases e with
    | returned u=>simp only[true_and]at he;exact nor (p:=True) (by simpa using he)
    | panicked c=>exact pan he
    | outgrown=>obtain ⟨_,_,he⟩:=he;rcases he with ⟨he,_⟩ | he <;> first | cases he | exact he.elim
   case row row args=>exact ⟨h.1,RowsIn.mono h.2 fun u w'' he=>nor he⟩
   case round l f tmps assign body=>
    refine ⟨h.1,RoundIn.mono h.2 fun e w'' he=>?_⟩;cases e with
    | returned u=>simp only[true_and]at he;exact nor (p:=True) (by simpa using he)
    | panicked c=>exact pan he
    | outgrown=>obtain ⟨_,_,he⟩:=he;rcases he with ⟨he,_⟩ | he <;> first | cases he | exact he.elim
  | halt x w'=>
   cases x <;> simp only[Oper.uponIn]at h⊢
   case panic u=>exact pan h
 ·rename_i hw
  rw[if_neg hw]at h;exact ⟨fun _ _=>trivial,nor h.2⟩
theorem deX [hb:SubL bs0 bs][hf:SubL fs0 fs](S:St w0 M0 ds a w l bs fs)(h:AQX P ops X (fun w=>Wd w0 M0 w bs0 fs0) R ord a w):WL P none ops (fun e a' w'=>(e=.normal∧Wd w0 M0 w' bs0 fs0∧AQX P ops X (fun w=>Wd w0 M0 w bs0 fs0) R ord a' w')∨X.at e a' w') [] a w:=
 kN (.inl ⟨rfl,S.wd.sub hb.sub hf.sub,h⟩)
theorem dnX {C:World→Prop}(h:R a w):AQX P ops X C R [] a w:=by
 intro listed hs _ hflow;have hr:Region.ready .any ops listed=[]:=by simpa [flowFrom] using hflow
 exact ⟨hr,h⟩
theorem XP.of {ch:List PanicEntry}{K:Prop}(S:St w0 M0 ds a w l bs fs)(hk:∀ p∈X.keep,l[p.1]? = some p.2)(hd:ds=X.dss)(h:X.XW ch w):K∨X.at (.panic ch) a w:=
 .inr ⟨fun p hp=>by rw[S.slots];simpa using hk p hp,by rw[S.defers,hd],h⟩
theorem wnx_round {i:Nat}{K:Act→World→Prop}(hQ:∀ ch a w,X.at (.panic ch) a w→Q (.panic ch) a w)(hd:∀ (i:Nat) o,ops[i]? = some o→isDefer o.op=false)(h:WNX P ops X i K a w):wpOpIn (FW r) 0 P ops Q i K a w:=by
 unfold WNX wpOpIn at *;cases ho:ops[i]? with
 | none=>simp only[ho]at h⊢;exact h
 | some o=>
  simp only[ho]at h⊢;split
  ·rename_i hw
   rw[if_pos hw]at h;refine ⟨fun _ _=>trivial,?_⟩;have h:=h.2;rw[show (FW none).round=none from rfl]at h;rw[show (FW r).round=r from rfl,semAt_any (hd i o ho)]
   generalize (o.semAt none a.eval).run P w=q at *
   cases q with
   | ok x w'=>
    cases x <;> simp only[Oper.uponIn]at h⊢<;> first | exact h | skip
    case enter f args=>
     refine ⟨fun h=>(by cases h),trivial,fun cs _=>?_⟩;obtain ⟨e,w',fr,hR,hcm,h1,h2⟩:=h.2.2 cs (room_wide _);refine ⟨e,w',fr,?_,hcm,h1,h2⟩;cases e with
     | returned v=>exact hR
     | panicked c=>exact hQ _ _ _ hR
     | outgrown=>obtain ⟨_,_,hR⟩:=hR;exact hR.elim
    case round l f tmps assign body=>
     refine ⟨fun h=>(by cases h),trivial,fun c cs _=>?_⟩;obtain ⟨e,w',hR,hcm⟩:=h.2.2 c cs (room_wide _);refine ⟨e,w',?_,hcm⟩;cases e with
     | returned v=>exact hR
     | panicked c=>exact hQ _ _ _ hR
     | outgrown=>obtain ⟨_,_,hR⟩:=hR;exact hR.elim
   | halt x w'=>
    cases x <;> simp only[Oper.uponIn]at h⊢
    case panic u=>exact hQ _ _ _ h
  ·rename_i hw
   rw[if_neg hw]at h;exact ⟨fun _ _=>trivial,h.2⟩
theorem any_of_acx (hQ:∀ ch a w,X.at (.panic ch) a w→Q (.panic ch) a w)(hd:∀ (i:Nat) o,ops[i]? = some o→isDefer o.op=false):∀ (fuel:Nat) (listed:Array Bool) (a:Act) (w:World),ACX P ops X C (fun a w=>Q .normal a w) fuel listed a w→wpAnyIn (FW r) 0 P .any ops Q fuel listed a w
 | 0,_,_,_,h=>h
 | fuel+1,_,_,_,h=>⟨h.1,fun i hi=>wnx_round hQ hd (wpOpIn_mono (fun a' w' h'=>any_of_acx hQ hd fuel _ a' w' h'.2) (h.2 i hi))⟩
theorem c_drawX {id:Nat}{lo:List Oper}(ord:List (Nat × Bool))(ids:List Nat)[DropBs bs ids bs0](X:XP)(S:St w0 M0 ds a w l bs fs)(hQ:∀ ch a w,X.at (.panic ch) a w→Q (.panic ch) a w)
  (h:∀ w,St w0 M0 ds a w l bs fs→AQX P lo.toArray X (fun w=>Wd w0 M0 w bs0 fs) (fun a w=>Q .normal a w) ord a w)
  (hm:P.follows .mixedOrders=true:=by kernel_rfl) (hx:X.offB lo.toArray=true:=by kernel_rfl) (hd:((lo.all fun o=>!isDefer o.op)&&(Nat.beq ord.length lo.length&&(Region.noSelect lo.toArray&&flowFrom lo.toArray ord (Array.replicate lo.length false))))=true:=by kernel_rfl):Wp P r (.region id lo.toArray true) Q a w:=by
 simp only[Bool.and_eq_true]at hd;refine wpIn_region_any hm (any_of_acx (C:=fun w=>Wd w0 M0 w bs0 fs) hQ (fun i o ho=>?_) _ _ _ _ ?_);have:=List.all_eq_true.1 hd.1 o (by
  rw[List.getElem?_toArray]at ho;exact List.mem_of_getElem? ho)
 simpa using this;have:=h { w with drawn:=w.drawn+1 } ⟨S.slots,S.defers,S.wd.step (Agree.drawn _ w _)⟩ _ hd.2.2.1 hx hd.2.2.2;rw[Nat.eq_of_beq_eq_true hd.2.1]at this;simpa using this
end
theorem decode_lo (s:ByteArray)(i:Nat)(h:(s.get! i).toNat < 128):Utf8.decode s i=((s.get! i).toNat,1):=by
 unfold Utf8.decode;simp only[Nat.add_zero];rw[if_pos h]
theorem decode_hi (s:ByteArray)(i:Nat)(h:¬(s.get! i).toNat < 128):128≤(Utf8.decode s i).1∧1≤(Utf8.decode s i).2:=by
 unfold Utf8.decode;simp only[Nat.add_zero];rw[if_neg h]
 repeat' split
 all_goals (try simp only[Bool.and_eq_true,decide_eq_true_eq,ge_iff_le]at *)
 all_goals (constructor <;> first | omega | (simp only[Utf8.runeError];omega))
def sti (r:Nat)(s:List UInt8)(i:Nat):Item where
 foot:=fun k=>k=r
 holds:=fun w=>w.heap[r]? = some (.stringIter ⟨s.toArray⟩ i)
theorem sti_loc (r:Nat)(s:List UInt8)(i:Nat)(w1 w2:World)(h:∀ k,(sti r s i).foot k→w2.heap[k]? = w1.heap[k]?)(h1:(sti r s i).holds w1):(sti r s i).holds w2:=(h r rfl).trans h1
class HasSti (bs:List Item)(r:Nat)(s:outParam (List UInt8))(i:outParam Nat):Prop where mem:sti r s i∈bs
instance hsti0 {r:Nat}{s:List UInt8}{i:Nat}{bs:List Item} : HasSti (sti r s i::bs) r s i:=⟨List.mem_cons_self ..⟩
section
variable {P:Program}{r0:Option Nat}{ops:Array Oper}{Q:Exit→Act→World→Prop}{w0:World}{M0:Nat→Prop}{ds:List Deferred}{a:Act}{w:World}{l:List Value}{bs:List Item}{fs:List (World→Prop)}
 {d:Option Nat} {op:Op} {ty:TypeId} {pos:String} {af:Array Edge} {rest:List Oper} {t kt et:TypeId} {x:Operand} {b r i:Nat} {s:List UInt8}
theorem sstr0 {l':Nat→List Value}(S:St w0 M0 ds a w l bs fs)[Ev ⟨[],l⟩ x (str s)][ht:Und P t .string][hp:∀ r,PutO l d (.pointer (some ⟨r,0,none⟩)) (l' r)]
  (K:∀ r a w,St w0 M0 ds a w (l' r) (sti r s 0::bs) fs→WL P r0 ops Q rest a w):WL P r0 ops Q (⟨d,.range t x,ty,pos,af,none⟩::rest) a w:=by
 refine wl_plain rfl ?_;rw[semAt_nd rfl];have e1:(xop a.eval (.range t x) ty).run P w=.ok (.value (.pointer (some ⟨w.heap.size,0,none⟩))) (w.alloc (.stringIter ⟨s.toArray⟩ 0)):=by
  have h2:(Instr.range t (str s)).run P w=.ok (.pointer (some ⟨w.heap.size,0,none⟩)) (w.alloc (.stringIter ⟨s.toArray⟩ 0)):=by
   simp[Instr.range,str,Sem.run_bind,run_und,newObj,Sem.run]
  simp[xop,execOp,S.fr.ev (x:=x) (v:=str s),h2]
 simp only[e1,Oper.uponIn];have:=hp w.heap.size;have S':=S.put (d:=d) (v:=.pointer (some ⟨w.heap.size,0,none⟩));refine K _ _ _ ⟨S'.slots,S'.defers,(S.wd.step (Agree.alloc _ w _)).more (y:=sti w.heap.size s 0) (heap_alloc_new w _) (fun k hk=>by cases hk;exact S.wd.agree.size) (fun k hk=>by cases hk;simp) (fun it hi k hk hk'=>by cases hk;exact absurd (S.wd.lt it hi _ hk') (Nat.lt_irrefl _)) ?_ (sti_loc _ _ _)⟩;intro Φ hΦ w' hw';refine S.wd.facts Φ hΦ w' ((Agree.alloc _ w _).trans' hw' fun i hi=>?_);rintro ⟨it,hm,hf⟩;rcases List.mem_cons.1 hm with rfl | hm
 cases hf;omega;exact ⟨it,hm,hf⟩
def nxS (more:Bool)(i c:Nat):Value:=bif more then .tuple ⟨[.bool true,.int .i64 (i:Int),.int .i32 (c:Int)]⟩ else .tuple ⟨[.bool false]⟩
instance (priority:=1100) opExtNxS {l:Cx}{more:Bool}{i c:Nat}[Ev l x (nxS more i c)]:OpQ P (.extract x 0) ty l bs fs (.bool more):=⟨fun ρ w h _=>by
 cases more <;> simp[xop,execOp,h.ev (x:=x) (v:=nxS _ i c),nxS,Instr.extract]⟩
instance (priority:=1100) opExtNxS2 {l:Cx}{i c:Nat}[Ev l x (nxS true i c)]:OpQ P (.extract x 2) ty l bs fs (.int .i32 (c:Int)):=⟨fun ρ w h _=>by
 simp[xop,execOp,h.ev (x:=x) (v:=nxS true i c),nxS,Instr.extract]⟩
theorem snxs {l':Bool→Nat→List Value}{bs':Nat→List Item}(S:St w0 M0 ds a w l bs fs)[Ev ⟨[],l⟩ x (.pointer (some ⟨r,0,none⟩))][hm:HasSti bs r s i][hrep:∀ j,ReplI bs (sti r s i) (sti r s j) (bs' j)][hp:∀ m c,PutO l d (nxS m i c) (l' m c)]
  (K:∀ (more:Bool) (c wd:Nat) a w,(more=false→s.length≤i)→(more=true→i < s.length∧((s.getD i 0).toNat < 128→c=(s.getD i 0).toNat∧wd=1)∧(¬(s.getD i 0).toNat < 128→128≤c))→St w0 M0 ds a w (l' more c) (bs' (bif more then i+wd else i)) fs→WL P r0 ops Q rest a w) :
  WL P r0 ops Q (⟨d,.next x true,ty,pos,af,none⟩::rest) a w:=by
 refine wl_plain rfl ?_;rw[semAt_nd rfl];have hold:w.heap[r]? = some (.stringIter ⟨s.toArray⟩ i):=S.wd.held _ hm.mem;have hx:a.eval x=.pointer (some ⟨r,0,none⟩):=S.fr.ev;have hlt:r < w.heap.size:=(Array.getElem?_eq_some_iff.1 hold).1;have hobj:(getObj r).run P w=.ok (.stringIter ⟨s.toArray⟩ i) w:=by simp[getObj,Sem.run,hold]
 have hget:(⟨s.toArray⟩:ByteArray).get! i=s.getD i 0:=by
  show s.toArray[i]! = _
  simp[List.getD_eq_getElem?_getD];rfl
 have hsz:(⟨s.toArray⟩:ByteArray).size=s.length:=by simp[ByteArray.size]
 by_cases hi:i < s.length
 ·have e1:(xop a.eval (.next x true) ty).run P w=.ok (.value (nxS true i (Utf8.decode ⟨s.toArray⟩ i).1)) (w.putObj r (.stringIter ⟨s.toArray⟩ (i+(Utf8.decode ⟨s.toArray⟩ i).2))):=by
   simp only[xop,execOp,hx,Instr.next,Sem.run_bind,hobj,Result.andThen,hsz,hi,if_true];simp[setObj,Sem.run,hold,World.putObj,nxS,goInt]
  simp only[e1,Oper.uponIn];have:=hp true (Utf8.decode ⟨s.toArray⟩ i).1;have S':=S.put (d:=d) (v:=nxS true i (Utf8.decode ⟨s.toArray⟩ i).1);refine K true _ _ _ _ (fun h=>by cases h) (fun _=>⟨hi,fun h=>?_,fun h=>?_⟩) (S.reput (x:=sti r s i) (y:=sti r s (i+(Utf8.decode ⟨s.toArray⟩ i).2)) S'.slots S'.defers (hr:=hrep _) rfl (Agree.putObj w r _ rfl) (World.putObj_heap_same hlt) (fun k hk=>.inl hk) (fun k hk=>by cases hk;simpa using hlt) (sti_loc _ _ _))
  ·rw[←hget]at h⊢
   rw[decode_lo _ _ h];exact ⟨rfl,rfl⟩
  ·rw[←hget]at h
   exact (decode_hi _ _ h).1
 ·have e1:(xop a.eval (.next x true) ty).run P w=.ok (.value (nxS false i 0)) w:=by
   simp only[xop,execOp,hx,Instr.next,Sem.run_bind,hobj,Result.andThen,hsz,hi,if_false];simp[nxS]
  simp only[e1,Oper.uponIn];have:=hp false 0;have S':=S.put (d:=d) (v:=nxS false i 0);have hr0:=hrep i;obtain ⟨pre,post,rfl,hb⟩:=hr0.ex;refine K false 0 0 _ _ (fun _=>by omega) (fun h=>by cases h) ?_
  show St _ _ _ _ _ _ (bs' i) _
  rw[hb];exact S'
end
instance opErrN {P:Program}{l:Cx}{bs:List Item}{fs:List (World→Prop)}{x:Operand}{t t' ty:TypeId}{b:Bool}{te:TypeId}{pe:Value}[Ev l x (errV b te pe)][hi:IfT P t]:OpQ P (.binOp .neq t x (.const .nilIface) t') ty l bs fs (.bool (!b)):=⟨fun ρ w h _=>by
 have e2:ρ (.const .nilIface)=.nilIface:=h.ev (x:=.const .nilIface) (v:=.nilIface);cases b <;> simp[xop,execOp,h.ev (x:=x) (v:=errV _ te pe),e2,errV,eqGuard,binOp,Sem.run_bind,run_equal_held_nil w t te pe hi.eq,run_equal_nil_nil w t hi.eq]⟩
instance opNilN {P:Program}{l:Cx}{bs:List Item}{fs:List (World→Prop)}{x:Operand}{t t' ty:TypeId}[Ev l x .nilIface][hi:IfT P t]:OpQ P (.binOp .neq t x (.const .nilIface) t') ty l bs fs (.bool false):=⟨fun ρ w h _=>by
 have e2:ρ (.const .nilIface)=.nilIface:=h.ev (x:=.const .nilIface) (v:=.nilIface);simp[xop,execOp,h.ev (x:=x) (v:=.nilIface),e2,eqGuard,binOp,run_equal_nil_nil w t hi.eq]⟩
instance opIfN {P:Program}{l:Cx}{bs:List Item}{fs:List (World→Prop)}{x:Operand}{t t' ty:TypeId}{te:TypeId}{pe:Value}[Ev l x (.iface te pe)][hi:IfT P t]:OpQ P (.binOp .neq t x (.const .nilIface) t') ty l bs fs (.bool true):=⟨fun ρ w h _=>by
 have e2:ρ (.const .nilIface)=.nilIface:=h.ev (x:=.const .nilIface) (v:=.nilIface);simp[xop,execOp,h.ev (x:=x) (v:=.iface te pe),e2,eqGuard,binOp,run_equal_held_nil w t te pe hi.eq]⟩
class StT (P:Program)(t:TypeId):Prop where ex:∃ fs,P.underlying t=some (.struct fs)
instance opAssert {P:Program}{l:Cx}{bs:List Item}{fs:List (World→Prop)}{x:Operand}{tx t ty:TypeId}{pe:Value}[Ev l x (.iface t pe)][hs:StT P t]:OpQ P (.typeAssert x tx t true) ty l bs fs (.tuple ⟨[pe,.bool true]⟩):=⟨fun ρ w h _=>by
 obtain ⟨fs,hf⟩:=hs.ex;simp[xop,execOp,h.ev (x:=x) (v:=.iface t pe),Instr.typeAssert,Sem.run_bind,run_underlying hf w]⟩
instance opMkIf {P:Program}{l:Cx}{bs:List Item}{fs:List (World→Prop)}{x:Operand}{t ty:TypeId}{v:Value}[Ev l x v][hs:StT P t]:OpQ P (.makeInterface t x) ty l bs fs (.iface t v):=⟨fun ρ w h _=>by
 obtain ⟨fs,hf⟩:=hs.ex;simp[xop,execOp,h.ev (x:=x) (v:=v),Instr.makeInterface,Sem.run_bind,run_underlying hf w]⟩
section
variable {P:Program}{ls:Cx}{bs:List Item}{fs:List (World→Prop)}{x y:Operand}{b off k n sz o o':Nat}{kk:IntKind}{m:Int}{t ty e:TypeId}{z:Value}{by_:Nat}
end
open Go Go.Deep Go.ChangeShapes Go.WideShapes Go.ChangeAt Go.RowKit
structure A3 (α:Type) where
 a:α
 b:α
 c:α
def A3.l {α:Type}(x:A3 α):List α:=[x.a,x.b,x.c]
instance encA3 {α:Type}[i:Lay α]:Enc (A3 α):=⟨3*Enc.sz α,fun x=>Enc.cells x.a++(Enc.cells x.b++Enc.cells x.c),fun x=>by simp[Enc.len];omega,fun x u hu=>by
 simp only[List.mem_append]at hu;rcases hu with h | h | h <;> exact Enc.one _ _ h⟩
instance layA3 {α:Type}[i:Lay α]:Lay (A3 α):={ encA3 with
 dflt:=⟨Lay.dflt,Lay.dflt,Lay.dflt⟩
 inn:=fun w x=>Lay.inn w x.a∧Lay.inn w x.b∧Lay.inn w x.c
 mono:=fun w w' _x h hx=>⟨Lay.mono w w' _ h hx.1,Lay.mono w w' _ h hx.2.1,Lay.mono w w' _ h hx.2.2⟩ }
end Go.Wk
namespace Go.Proofs.YtibkkbknnfehlaaGreatDoor
open Go Go.Wk
set_option synthInstance.maxSize 100000
set_option synthInstance.maxHeartbeats 400000
set_option maxRecDepth 100000
def chB (c:UInt8):Bool:=decide (33≤c.toNat)&&decide (c.toNat≤126)
def nameB (s:List UInt8):Bool:=s.all chB&&decide (1≤s.length)&&decide (s.length≤24)
theorem mname_c (s:List UInt8)(hl:s.length≤1000000)(w0:World):Ret Tryz.prog 58 [str s] w0 (fun _=>False) fun v _=>v=.bool (nameB s):=by
 refine E1 Tryz.func58 rfl Tryz.ntmps58 (Wd.start w0) ?_;intro a S;refine J9 ?_;intro a S;refine sstr0 S ?_;intro b6 a w S;refine kN (xtn (kB ?_));refine c_forf1 S (fun(i:Nat) uu=>[(2,uu 2),(1,uu 4),(2,uu 7),(0,uu 8),(0,uu 9),(0,uu 10),(0,uu 11),(0,uu 12),(0,uu 13),(0,uu 14),(0,uu 15)]) (fun(i:Nat)=>[Wk.sti b6 s i]) (fun(i:Nat)=>i≤s.length∧∀ j,j < i→chB (s.getD j 0)=true) (fun(i:Nat)=>s.length - i) (0) ?_ S.uu ?_ ?_;exact ⟨Nat.zero_le _,fun j hj=>by omega⟩
 first | exact S | exact S.sub _ _
 clear S;rintro i uu a w ⟨hi,hrel⟩ S;refine kS (kR ?_);refine snxs S ?_;intro more c wd a w hmf hmt S;refine J4 ?_;intro a S;refine kC S (fun h2=>?_) (fun h2=>?_);refine kK (xtn (kB (kS ?_)));obtain rfl:more=true:=h2;obtain ⟨hil,hlo,hhi⟩:=hmt rfl;refine J15 ?_;intro a S;refine kC S (fun h4=>?_) (fun h4=>?_);refine J10 ?_;intro a S;have hbad:chB (s.getD i 0)=false:=by
  simp only[Bool.or_eq_true,decide_eq_true_eq]at h4
  by_cases hc:(s.getD i 0).toNat < 128
  obtain ⟨rfl,-⟩:=hlo hc;simp only[chB,Bool.and_eq_false_iff,decide_eq_false_iff_not];omega;simp only[chB,Bool.and_eq_false_iff,decide_eq_false_iff_not];omega
 refine end1 S (fun _=>?_);have:nameB s=false:=by
  have hall:s.all chB=false:=List.all_eq_false.2 ⟨s.getD i 0,by rw[List.getD_eq_getElem?_getD,List.getElem?_eq_getElem hil];exact List.getElem_mem hil,by rw[hbad];simp⟩;rw[nameB,hall];rfl
 rw[this];refine kK (xbn (xtn ?_));simp only[Bool.or_eq_false_iff,decide_eq_false_iff_not]at h4;have hc:(s.getD i 0).toNat < 128:=Classical.byContradiction fun hc=>by have:=hhi hc;omega
 obtain ⟨rfl,rfl⟩:=hlo hc;rw[show (bif true then i+1 else i)=i+1 from rfl]at S;refine ⟨i+1,S.uu,⟨hil,fun j hj=>?_⟩,S.sub _ _,by omega⟩;rcases Nat.lt_or_ge j i with h | h
 exact hrel j h;obtain rfl:j=i:=by omega
 simp only[chB,Bool.and_eq_true,decide_eq_true_eq];omega;refine J19 ?_;intro a S;have hall:s.all chB=true:=by
  have hle:=hmf h2;refine List.all_eq_true.2 fun x hx=>?_
  obtain ⟨j,hj,rfl⟩:=List.getElem_of_mem hx;have:=hrel j (by omega)
  rwa [List.getD_eq_getElem?_getD,List.getElem?_eq_getElem hj]at this
 refine end1 S (fun _=>?_);rw[nameB,hall,Bool.true_and]
 congr 1
 rw[Bool.eq_iff_iff];simp only[Bool.and_eq_true,decide_eq_true_eq];omega
theorem mdigits_c (n:Int)(hI : -9223372036854775808≤n∧n≤9223372036854775807)(w0:World)(ht:Fx w0 TabF):Ret Tryz.prog 38 [.int .i64 n] w0 (fun _=>False) fun v _=>v=vL (textL (Lib.itoa (max n 0))):=by
 refine E1 Tryz.func38 rfl Tryz.ntmps38 (Wd.begin (fs:=[TabF]) (by simpa using ht)) ?_;intro a S;refine kS (kR ?_);refine sa S ?_;intro b2 a w S;refine J6 ?_;intro a S;refine sr S (itoa_c (max n 0) ⟨by omega,by omega⟩ _ (S.mem.fact0 TabF).now) ?_;rintro _ a w rfl S;refine Y5 ?_;intro a w S;refine end1 S (fun _=>rfl)
instance {n:Int}{bs fs}[h:I64 n][hf:HasFact fs TabF]:CallV Tryz.prog 38 [.int .i64 n] bs fs (vL (textL (Lib.itoa (max n 0)))):=⟨fun w m=>mdigits_c n ⟨h.lo,h.hi⟩ w (m.fact0 TabF)⟩
theorem textL_t (s:List UInt8):(textL s).t=textT s:=rfl
theorem mnumber_c (t:LTerm)(most:Int)(hs:t.text.length≤1000)(hm:most≤65535)(w0:World)(ht:Fx w0 LibF)(hf:Fx w0 (LtF t)) :
  Ret Tryz.prog 57 [vL t,.int .i64 most] w0 (fun _=>False) fun v _=>∃ (n:Int) (b:Bool),v=.tuple ⟨[.int .i64 n,.bool b]⟩∧(b=true→(0≤n∧n≤most)∧t.t=textT (Lib.itoa n))∧(b=false→n=0∧∀ m,0≤m→m≤most→t.t≠textT (Lib.itoa m)):=by
 refine E1 Tryz.func57 rfl Tryz.ntmps57 (Wd.begin (fs:=[TabF,LibF,LtF t]) (by simp;exact ⟨ht.imp fun _ h=>h.1,ht,hf⟩)) ?_;intro a S;refine kS (kR ?_);refine sa S ?_;intro b2 a w S;refine J8 ?_;intro a S;refine sr S (atoi_c t.text hs _ (S.mem.fact0 LibF).now.2.1 (S.mem.fact0 LibF).now.2.2) ?_;rintro _ a w ⟨n,b1,te,pe,rfl,hn,hbn,hv⟩ S;have hI:I64 n:=⟨hn.1,hn.2⟩;replace S:=S.add (Φ:=LtF (textL (Lib.itoa (max n 0)))) (fun _ _=>by simp[LtIn,textL,LsIn,LtF]);refine J9 ?_;intro a S;refine c_drawD [T9 0,T9 1,T9 2,T9 3,T9 4,T9 5,T9 6,T9 7,T9 8,T9 9,T9 10,T9 11,T9 12,T9 13,F9 14,F9 15,T9 16,T9 17] [] S ?_;intro w S;(iterate 3 (refine dq S ?_;intro a S));(iterate 2 (refine dqG S ?_;intro a S));(iterate 2 (refine dq S ?_;intro a S));(iterate 3 (refine dqG S ?_;intro a S));(iterate 2 (refine dq S ?_;intro a S));(iterate 2 (refine dqG S ?_;intro a S));refine dl ?_;refine gC S ?_;intro a w S;refine de S ?_;refine dl ?_;refine gC S ?_;intro a w S;refine de S ?_;refine dqG S ?_;intro a S;refine dq S ?_;intro a S;refine dn (xtn ?_);refine kC S (fun h2=>?_) (fun h2=>?_);refine J8 ?_;intro a S;have hno:∀ m,0≤m→m≤most→t.t≠textT (Lib.itoa m):=by
  intro m h0 h1 he;have e1:t.text=Lib.itoa m:=by
   rw[t.t_eq]at he;simp only[textT,Term.mk.injEq]at he;exact he.2.2.2.1
  have ha:=atoi_itoa (n:=m) ⟨h0,by omega⟩;rw[←e1]at ha;have e2:=hv _ ha;have e3:=hbn.2 ⟨_,ha⟩;subst e2;have e4:sameF t.t (textL (Lib.itoa (max n 0))).t=true:=(sameF_iff _ _).2 (by rw[textL_t,he,show max n 0=n from by omega]);rw[e3,e4]at h2;simp at h2;omega
 refine end2 S (fun _=>?_);exact ⟨0,false,rfl,nofun,fun _=>⟨rfl,hno⟩⟩;refine J10 ?_;intro a S;simp only[Bool.or_eq_false_iff,decide_eq_false_iff_not,Bool.not_eq_false']at h2;refine end2 S (fun _=>?_);refine ⟨n,true,rfl,fun _=>⟨⟨by omega,by omega⟩,?_⟩,nofun⟩;have:=(sameF_iff _ _).1 h2.2;rw[this,textL_t,show max n 0=n from by omega]
structure LMeta where
 name:List UInt8
 version:Int
 perm:LPerm
 past:Sl (Sl Int)
 boxes:LTerm
abbrev cMeta (m:LMeta):List Value:=[str m.name,.int .i64 m.version,.int .i64 m.perm.owner,.int .i64 m.perm.epoch,.slice m.perm.rd.p m.perm.rd.xs.length m.perm.rd.cap,.slice m.perm.wr.p m.perm.wr.xs.length m.perm.wr.cap,.slice m.perm.gr.p m.perm.gr.xs.length m.perm.gr.cap,
 .slice m.past.p m.past.xs.length m.past.cap,.int .i64 m.boxes.kind,.int .i64 m.boxes.user,.int .i64 m.boxes.num,str m.boxes.text,.slice m.boxes.p m.boxes.kids.length m.boxes.cap]
abbrev vMeta (m:LMeta):Value:=.agg ⟨cMeta m⟩
instance encMeta:Enc LMeta:=⟨13,fun m=>str m.name::.int .i64 m.version::(Enc.cells m.perm++m.past.v::m.boxes.cells),fun _=>rfl,fun x u hu=>by
 rcases List.mem_cons.1 hu with rfl | hu
 rfl;rcases List.mem_cons.1 hu with rfl | hu
 rfl;rcases List.mem_append.1 hu with hu | hu
 exact encPerm.one x.perm u hu;rcases List.mem_cons.1 hu with rfl | hu
 rfl;exact encT.one x.boxes u hu⟩
instance layMeta:Lay LMeta:={ encMeta with
 dflt:=⟨[],0,Lay.dflt,Lay.dflt,zeroL⟩
 inn:=fun w m=>Lay.inn w m.perm∧Lay.inn w m.past∧LtIn w m.boxes
 mono:=fun w w' x h hx=>⟨Lay.mono w w' _ h hx.1,Lay.mono w w' _ h hx.2.1,LtIn.mono h x.boxes hx.2.2⟩ }
instance (priority:=850) hasi_mperm {fs:List (World→Prop)}{m:LMeta}[h:HasI fs m]:HasI fs m.perm:=⟨fun M w hf=>(h.of M w hf).imp fun _ h=>h.1⟩
instance (priority:=850) hasi_mpast {fs:List (World→Prop)}{m:LMeta}[h:HasI fs m]:HasI fs m.past:=⟨fun M w hf=>(h.of M w hf).imp fun _ h=>h.2.1⟩
instance (priority:=850) hast_mbox {fs:List (World→Prop)}{m:LMeta}[h:HasI fs m]:HasT fs m.boxes:=⟨fun M w hf=>(h.of M w hf).imp fun _ h=>h.2.2⟩
structure Met where
 name:List UInt8
 version:Int
 owner:Int
 epoch:Int
 rd:List Int
 wr:List Int
 gr:List Int
 past:List (List Int)
 boxes:Term
def LMeta.m (m:LMeta):Met:=⟨m.name,m.version,m.perm.owner,m.perm.epoch,m.perm.rd.xs,m.perm.wr.xs,m.perm.gr.xs,m.past.xs.map Sl.xs,m.boxes.t⟩
def riseB (l:List Int)(no:Int):Bool:=risF (fun x=>okU x&&decide (x≠no)) none l
theorem gif_predM {c b:Bool}{k:Nat}(hb:b=true→1≤k)(hk:k≤9223372036854775807):gif c (gif b (.int .i64 (IntKind.i64.wrap ((k:Int) - 1))))=gif c (gif b (.int .i64 ((k - 1:Nat):Int))):=by
 cases b with
 | false=>rfl
 | true=>rw[w6 _,show (k:Int) - 1=((k - 1:Nat):Int) from by have:=hb rfl;omega]
def lastOk (o:Option Int)(x:Int):Bool:=match o with | none=>true | some y=>decide (y < x)
theorem risF_consL (q:Int→Bool)(o:Option Int)(x:Int)(xs:List Int):risF q o (x::xs)=((q x&&lastOk o x)&&risF q (some x) xs):=rfl
theorem last_l (l:List Int)(k:Nat):lastOk (lastG l k) (nthG l k) = !(decide (0 < (k:Int))&&decide (nthG l k≤nthG l (k - 1))):=by
 cases k with
 | zero=>rfl
 | succ j=>
  rw[show lastG l (j+1)=some (nthG l j) from rfl,show j+1 - 1=j from by omega,decide_eq_true (show (0:Int) < ((j+1:Nat):Int) by omega),Bool.true_and]
  by_cases h:nthG l j < nthG l (j+1)
  simp[lastOk,h];simp[lastOk,h];omega
theorem rise_step {a b c x y:Int}{k:Nat} : (!(((decide (x < a)||decide (b < x))||decide (x=c))||(decide (0 < (k:Int))&&decide (x≤y))))=((decide (a≤x)&&decide (x≤b)&&decide (x≠c))&&!(decide (0 < (k:Int))&&decide (x≤y))):=by
 by_cases h1:x < a
 simp[h1,show ¬a≤x from by omega]
 by_cases h2:b < x
 simp[h2,show ¬x≤b from by omega]
 by_cases h3:x=c
 simp[h3];simp[h1,h2,h3,show a≤x from by omega,show x≤b from by omega]
theorem mrising_c (l:List Int)(no:Int)(p:Option Addr)(c:Nat)(w0:World)(hl:l.length≤9223372036854775807)(hx:Fx w0 (GlF p l)) :
  Ret Tryz.prog 61 [.slice p l.length c,.int .i64 no] w0 (fun _=>False) fun v _=>v=.bool (riseB l no):=by
 refine E1 Tryz.func61 rfl Tryz.ntmps61 (Wd.begin (fs:=[GlF p l]) (by simpa using hx)) ?_;intro a S;refine J14 ?_;intro a S;refine c_fore1 S (fun(k:Nat) uu=>[(4,uu 4),(0,uu 5),(0,uu 6),(2,.int .i64 (k:Nat)),(0,uu 10),(0,uu 11),(0,uu 12),(0,uu 13),(0,uu 14),(0,uu 15),(0,uu 16),(0,uu 17),(0,uu 18),(0,uu 19),(0,uu 20),(0,uu 21),(0,uu 22),(0,uu 23),(0,uu 24),(0,uu 25),(0,uu 26),(0,uu 27),(0,uu 28),(0,uu 29),(0,uu 30),(0,uu 31),(0,uu 32),(0,uu 33),(0,uu 34),(0,uu 35),(0,uu 36),(0,uu 37),(0,uu 38)]) (fun(k:Nat)=>[]) (fun(k:Nat)=>[GlF p l]) (fun(k:Nat)=>k≤l.length∧risF (fun x=>okU x&&decide (x≠no)) (lastG l k) (l.drop k)=riseB l no) (fun(k:Nat)=>l.length - k) (0) ?_ S.uu ?_ ?_;exact ⟨Nat.zero_le _,rfl⟩
 first | exact S | exact S.sub _ _
 clear S;rintro k uu a w ⟨hk,hrel⟩ S;refine J6 ?_;intro a S;refine kC S (fun h2=>?_) (fun h2=>?_);refine kK (xtn (kS (kB (kS ?_))));have hkl:k < l.length:=by have:=of_decide_eq_true h2;omega
 have hK:KLt k l.length:=⟨hkl⟩;have hK1:KLt (k - 1) l.length:=⟨by omega⟩;rw[nthG_drop hkl,risF_consL,last_l l k]at hrel;refine J20 ?_;intro a S;refine J8 ?_;intro a S;rw[gif_predM (by simp;omega) (by omega)]at S;refine J8 ?_;intro a S;refine kC S (fun h4=>?_) (fun h4=>?_);refine J11 ?_;intro a S;refine end1 S (fun _=>?_);have e:=rise_step (a:=1) (b:=6) (c:=no) (x:=nthG l k) (y:=nthG l (k - 1)) (k:=k);rw[h4]at e;have e2:(okU (nthG l k)&&decide (nthG l k≠no)&&!(decide (0 < (k:Int))&&decide (nthG l k≤nthG l (k - 1))))=_:=e.symm;rw[←hrel,e2];rfl;refine J8 ?_;intro a S;rw[w6 ((k:Int)+1)]at S;refine ⟨k+1,S.uu,⟨hkl,?_⟩,S.sub _ _,by omega⟩;have e:=rise_step (a:=1) (b:=6) (c:=no) (x:=nthG l k) (y:=nthG l (k - 1)) (k:=k);rw[h4]at e;have e2:(okU (nthG l k)&&decide (nthG l k≠no)&&!(decide (0 < (k:Int))&&decide (nthG l k≤nthG l (k - 1))))=_:=e.symm;rw[←hrel,e2];rfl;refine J11 ?_;intro a S;refine end1 S (fun _=>?_);have hke:k=l.length:=by have:=of_decide_eq_false h2;omega
 rw[←hrel,hke,List.drop_length];rfl
theorem equalI_c (xs ys:List Int)(p q:Option Addr)(c e:Nat)(w0:World)(hl:xs.length≤1000000000)(hx:Fx w0 (GlF p xs))(hy:Fx w0 (GlF q ys)) :
  Ret Tryz.prog 76 [.slice p xs.length c,.slice q ys.length e] w0 (fun _=>False) fun v _=>v=.bool (decide (xs=ys)):=by
 refine E1 Tryz.func76 rfl Tryz.ntmps76 (Wd.begin (fs:=[GlF p xs,GlF q ys]) (by simp;exact ⟨hx,hy⟩)) ?_;intro a S;refine J15 ?_;intro a S;refine kC S (fun h1=>?_) (fun h1=>?_);refine J7 ?_;intro a S;have hne:xs≠ys:=fun h=>by rw[h]at h1;simp at h1
 refine end1 S (fun _=>?_);rw[decide_eq_false hne];refine J11 ?_;intro a S;have hle:xs.length=ys.length:=by simp at h1;omega
 refine c_forb1 S (fun(k:Nat) uu=>[(4,uu 4),(0,uu 5),(7,.int .i64 (k:Nat)),(0,uu 14),(0,uu 15),(0,uu 16),(0,uu 17),(0,uu 18),(0,uu 19),(0,uu 20),(0,uu 21),(0,uu 22),(0,uu 23),(0,uu 24),(0,uu 25)]) (fun(k:Nat)=>k≤xs.length∧xs.take k=ys.take k) (fun(k:Nat)=>xs.length - k) (0) ?_ S.uu ?_ ?_;exact ⟨Nat.zero_le _,rfl⟩
 first | exact S | exact S.sub _ _
 clear S;rintro k uu a w ⟨hk,hrel⟩ S;refine J6 ?_;intro a S;refine kC S (fun h4=>?_) (fun h4=>?_);refine kK (xtn (kS (kB (kS ?_))));have hkl:k < xs.length:=by simpa using h4
 have hK1:KLt k xs.length:=⟨hkl⟩;have hK2:KLt k ys.length:=⟨by omega⟩;refine J6 ?_;intro a S;refine c_drawD [T9 0,T9 1,T9 2,T9 3,T9 4,T9 5,T9 6,T9 7,T9 8] [] S ?_;intro w S;(iterate 9 (refine dq S ?_;intro a S));refine dn (xtn ?_);refine kC S (fun h6=>?_) (fun h6=>?_);refine J11 ?_;intro a S;have h9:nthG xs k≠nthG ys k:=by simpa using h6
 have hne:xs≠ys:=fun h=>h9 (by rw[h])
 refine end1 S (fun _=>?_);rw[decide_eq_false hne];refine J8 ?_;intro a S;have h9:nthG xs k=nthG ys k:=by simpa using h6
 rw[w6 ((k:Int)+1)]at S;exact ⟨k+1,S.uu,⟨hkl,by rw[nthG_take hkl,nthG_take (show k < ys.length by omega),hrel,h9]⟩,S.sub _ _,by omega⟩;refine J11 ?_;intro a S;have h9:xs.length≤k:=by simpa using h4
 rw[List.take_of_length_le h9,List.take_of_length_le (by omega)]at hrel;refine end1 S (fun _=>?_);rw[decide_eq_true hrel]
theorem mequal_c (xs ys:List Int)(p q:Option Addr)(c e:Nat)(w0:World)(hl:xs.length≤1000000000)(hx:Fx w0 (GlF p xs))(hy:Fx w0 (GlF q ys)) :
  Ret Tryz.prog 42 [.slice p xs.length c,.slice q ys.length e] w0 (fun _=>False) fun v _=>v=.bool (decide (xs=ys)):=by
 refine E1 Tryz.func42 rfl Tryz.ntmps42 (Wd.begin (fs:=[GlF p xs,GlF q ys]) (by simp;exact ⟨hx,hy⟩)) ?_;intro a S;refine J9 ?_;intro a S;refine sr S (equalI_c xs ys p q c e _ hl (S.mem.fact0 (GlF p xs)) (S.mem.fact0 (GlF q ys))) ?_;rintro _ a w rfl S;refine J4 ?_;intro a S;refine end1 S (fun _=>rfl)
def IsCap (t:Term)(sb:List SBox):Prop:=Good t∧t=listT (sb.map SBox.t)∧(∀ b∈sb,b.ok)∧(sb.map SBox.place).Pairwise (· < ·)∧sb≠[]
theorem listT_injC:∀ {a b:List Term},listT a=listT b→a=b
 | [],[],_=>rfl
 | [],y::ys,h=>by simp[listT,textT,Term.pair]at h
 | x::xs,[],h=>by simp[listT,textT,Term.pair]at h
 | x::xs,y::ys,h=>by
  simp only[listT,Term.pair,Term.mk.injEq,true_and,List.cons.injEq,and_true]at h;rw[h.1,listT_injC h.2]
theorem box_s {x:LTerm}{b:LBox}(h:IsBox x.t b.user b.group)(ht:b.term=nthL x.kids 1):b.s.ok∧x.t=b.s.t:=by
 rcases h with ⟨h1,h2,h3,s,h⟩ | ⟨h1,h2,h3,s,kt,h⟩
 obtain ⟨-,-,-,q⟩:=pair_shape (a:=textT (rowS [117] b.user)) h;rw[←ht]at q;refine ⟨.inl ⟨h1,h2,h3,s,q⟩,?_⟩;rw[h,SBox.t,if_pos (show 0 < b.s.user by show 0 < b.user;omega)]
 show _=rowT (rowS [117] b.user) b.term.t
 rw[q];rfl;obtain ⟨-,-,-,q⟩:=pair_shape (a:=textT (rowS [103] b.group)) h;rw[←ht]at q;refine ⟨.inr ⟨h3,h1,h2,_,_,q⟩,?_⟩;rw[h,SBox.t,if_neg (show ¬0 < b.s.user by show ¬0 < b.user;omega)]
 show _=rowT (rowS [103] b.group) b.term.t
 rw[q];rfl
theorem rowT_inj {s s':List UInt8}{t t':Term}(h:rowT s t=rowT s' t'):s=s'∧t=t':=by
 simp only[rowT,Term.pair,textT,Term.mk.injEq,true_and,List.cons.injEq,and_true]at h;exact h
theorem sbox_inj {a b:SBox}(ha:a.ok)(hb:b.ok)(h:a.t=b.t):a=b:=by
 obtain ⟨a1,a2,a3⟩:=a;obtain ⟨b1,b2,b3⟩:=b;rcases ha with ⟨h1,h2,h3,s,h4⟩ | ⟨h1,h2,h3,k,s,h4⟩ <;> rcases hb with ⟨g1,g2,g3,s',g4⟩ | ⟨g1,g2,g3,k',s',g4⟩ <;> simp only at h1 h2 h3 h4 g1 g2 g3 g4 <;> simp only[SBox.t]at h
 rw[if_pos (by omega),if_pos (by omega)]at h;obtain ⟨q1,q2⟩:=rowT_inj h;rw[rowS_inj (by omega) (by omega)]at q1;rw[q1.2,q2,h3,g3];rw[if_pos (by omega),if_neg (by omega)]at h;obtain ⟨q1,q2⟩:=rowT_inj h;rw[rowS_inj (by omega) (by omega)]at q1;exact absurd q1.1 (by decide);rw[if_neg (by omega),if_pos (by omega)]at h;obtain ⟨q1,q2⟩:=rowT_inj h;rw[rowS_inj (by omega) (by omega)]at q1;exact absurd q1.1 (by decide);rw[if_neg (by omega),if_neg (by omega)]at h;obtain ⟨q1,q2⟩:=rowT_inj h;rw[rowS_inj (by omega) (by omega)]at q1;rw[q1.2,q2,h1,g1]
theorem maps_inj:∀ {a b:List SBox},(∀ x∈a,x.ok)→(∀ x∈b,x.ok)→a.map SBox.t=b.map SBox.t→a=b
 | [],[],_,_,_=>rfl
 | [],y::ys,_,_,h=>by simp at h
 | x::xs,[],_,_,h=>by simp at h
 | x::xs,y::ys,ha,hb,h=>by
  simp only[List.map_cons,List.cons.injEq]at h;rw[sbox_inj (ha x (by simp)) (hb y (by simp)) h.1,maps_inj (fun z hz=>ha z (by simp[hz])) (fun z hz=>hb z (by simp[hz])) h.2]
theorem IsCap.uniq {t:Term}{a b:List SBox}(ha:IsCap t a)(hb:IsCap t b):a=b:=
 maps_inj ha.2.2.1 hb.2.2.1 (listT_injC (ha.2.1.symm.trans hb.2.1))
theorem list_good:∀ {ts:List Term} {t:Term},Good t→t=listT ts→∀ {x:Term},x∈ts→Good x
 | [],_,_,_,_,hx=>by cases hx
 | y::ys,t,hg,ht,x,hx=>by
  rw[ht,listT,Term.pair]at hg;rcases List.mem_cons.1 hx with rfl | hx
  exact good_kid hg (by simp);exact list_good (good_kid hg (by simp:listT ys∈[y,listT ys])) rfl hx
structure SoFar (os:List LTerm)(i:Nat)(bx:List LBox):Prop where
 len:bx.length=i
 ok:∀ j,j < i→IsBox (nthL os j).t (nthG bx j).user (nthG bx j).group∧(nthG bx j).term=nthL (nthL os j).kids 1
 grp:∀ b∈bx,GrpOk b
 rise:(bx.map placeF).Pairwise (· < ·)
theorem SoFar.same {os:List LTerm}{i:Nat}{bx:List LBox}(h:SoFar os i bx){sb:List SBox}(hsb:os.map LTerm.t=sb.map SBox.t)(hok:∀ b∈sb,b.ok){j:Nat}(hj:j < i)(hjo:j < os.length):sb[j]? = some (nthG bx j).s:=by
 have hl:os.length=sb.length:=by have:=congrArg List.length hsb;simpa using this
 have h1:=congrArg (fun l=>l[j]?) hsb;simp only[List.getElem?_map]at h1;rw[nth_get hjo,List.getElem?_eq_getElem (show j < sb.length by omega)]at h1;simp only[Option.map_some,Option.some.injEq]at h1;obtain ⟨q1,q2⟩:=h.ok j hj;obtain ⟨q3,q4⟩:=box_s q1 q2;rw[List.getElem?_eq_getElem (show j < sb.length by omega)];exact congrArg some (sbox_inj (hok _ (List.getElem_mem _)) q3 (h1.symm.trans q4))
theorem SoFar.push {os:List LTerm}{i:Nat}{bx:List LBox}(h:SoFar os i bx){y:LBox}(hi:i < os.length)(k1:IsBox (nthL os i).t y.user y.group)(k2:y.term=nthL (nthL os i).kids 1)(hg:GrpOk y)(hp:0 < i→placeF (nthG bx (i - 1)) < placeF y):SoFar os (i+1) (bx++[y]):=by
 have hl:=h.len;have hn:∀ j,j < i→nthG (bx++[y]) j=nthG bx j:=fun j hj=>by
  simp only[nthG,List.getD_eq_getElem?_getD];rw[List.getElem?_append_left (by omega)]
 have hy:nthG (bx++[y]) i=y:=by
  simp only[nthG,List.getD_eq_getElem?_getD];rw[List.getElem?_append_right (by omega),hl,Nat.sub_self];rfl
 refine ⟨by simp[hl],fun j hj=>?_,fun b hb=>?_,?_⟩;rcases Nat.lt_or_ge j i with hj2 | hj2
 rw[hn j hj2];exact h.ok j hj2;obtain rfl:j=i:=by omega
 rw[hy];exact ⟨k1,k2⟩;rcases List.mem_append.1 hb with hb | hb
 exact h.grp b hb;rw[List.mem_singleton.1 hb];exact hg;rw[List.map_append,List.pairwise_append];refine ⟨h.rise,by simp,fun u hu v hv=>?_⟩;obtain rfl:v=placeF y:=by simpa using hv
 obtain ⟨j,hj⟩:=List.getElem?_of_mem hu;have hjl:j < bx.length:=by have:=(List.getElem?_eq_some_iff.1 hj).1;simpa using this
 have hlast:=hp (by omega);have hi1:i - 1 < bx.length:=by omega
 have e1:(bx.map placeF)[i - 1]? = some (placeF (nthG bx (i - 1))):=by rw[List.getElem?_map,nthG_get hi1];rfl
 obtain ⟨q1,q2⟩:=List.getElem?_eq_some_iff.1 e1;obtain ⟨q3,q4⟩:=List.getElem?_eq_some_iff.1 hj;rcases Nat.lt_or_ge j (i - 1) with h9 | h9
 have:=List.pairwise_iff_getElem.1 h.rise j (i - 1) q3 q1 h9;rw[q4,q2]at this;omega;have:j=i - 1:=by omega
 subst this;rw[q4]at q2;omega
theorem SoFar.fin {t:LTerm}{os:List LTerm}{bx:List LBox}(h:SoFar os os.length bx)(hg:Good t.t)(ht:t.t=listT (os.map LTerm.t))(hne:0 < os.length):IsCap t.t (bx.map LBox.s):=by
 refine ⟨hg,?_,fun b hb=>?_,?_,fun he=>?_⟩;rw[ht]
 congr 1
 rw[List.map_map];refine List.ext_getElem? fun j=>?_
 rw[List.getElem?_map,List.getElem?_map];rcases Nat.lt_or_ge j os.length with hj | hj
 rw[nth_get hj,nthG_get (by rw[h.len];exact hj)];obtain ⟨q1,q2⟩:=h.ok j hj;simp only[Option.map_some,Function.comp];rw[(box_s q1 q2).2];rw[List.getElem?_eq_none hj,List.getElem?_eq_none (by rw[h.len];exact hj)];rfl;obtain ⟨b',hb',rfl⟩:=List.mem_map.1 hb;obtain ⟨j,hj⟩:=List.getElem?_of_mem hb';have hjl:=(List.getElem?_eq_some_iff.1 hj).1;have e1:nthG bx j=b':=by rw[nthG_get hjl]at hj;simpa using hj
 obtain ⟨q1,q2⟩:=h.ok j (by rw[←h.len];exact hjl);rw[←e1];exact (box_s q1 q2).1;rw[List.map_map];exact h.rise;have:(bx.map LBox.s).length=0:=by rw[he];rfl
 rw[List.length_map,h.len]at this;omega
theorem gif_predC {c b:Bool}{k:Nat}(hb:b=true→1≤k)(hk:k≤1000000):gif c (gif b (.int .i64 (IntKind.i64.wrap ((k:Int) - 1))))=gif c (gif b (.int .i64 ((k - 1:Nat):Int))):=by
 cases b with
 | false=>rfl
 | true=>rw[w6 _,show (k:Int) - 1=((k - 1:Nat):Int) from by have:=hb rfl;omega]
def ReadG (M:Nat→Prop)(T:Term)(v:Value)(w:World):Prop:=∃ (p:Option Addr) (c:Nat) (bx:List LBox) (ok:Bool),v=.tuple ⟨[.slice p bx.length c,.bool ok]⟩∧Stable M w (GlF p bx)∧bx.length≤1200∧(ok=true→IsCap T (bx.map LBox.s))∧(ok=false→bx=[]∧∀ sb,¬IsCap T sb)
set_option maxHeartbeats 1000000 in
theorem readG_c (t:LTerm)(M:Nat→Prop)(w0:World)(hM:∀ k,M k→k < w0.heap.size)(hf:Stable M w0 (LtF t)):Ret Tryz.prog 89 [vL t] w0 (fun _=>False) fun v w'=>ReadG M t.t v w':=by
 refine enterM Tryz.func89 rfl rfl (Wd.beginM (M:=M) (fs:=[LtF t]) hM (by simpa using hf)) (fun a S=>?_);refine E0 Tryz.ntmps89 ?_;clear S;intro S;refine kS (kR ?_);refine sa S ?_;clear S;intro b1 a w S;refine sa S ?_;clear S;intro b2 a w S;refine sa S ?_;clear S;intro b3 a w S;refine J5 ?_;clear S;intro a S;refine sr S (unlist2_c t _ w (foots_lt S) (S.t t)) ?_;clear S;rintro _ a w ⟨p,c,os,b,rfl,hls,hol,hub1,hub2⟩ S;replace S:=S.add hls;refine J19 ?_;clear S;intro a S;refine kC S (fun h2=>?_) (fun h2=>?_)
 ·refine Y8 ?_;clear S;intro a w S
  refine endM2 S (fun w hw=>⟨none,0,[],false,rfl,fun _ _=>gl_nil,by simp,nofun,fun _=>⟨rfl,fun sb hsb=>?_⟩⟩);cases b with
  | false=>exact (hub2 rfl).2 _ hsb.2.1 hsb.1
  | true=>
   have hl0:os.length=0:=by simpa using h2
   have h3:=(hub1 rfl).2;rw[List.length_eq_zero_iff.1 hl0,hsb.2.1]at h3;have:=listT_injC h3;exact hsb.2.2.2.2 (by simpa using this)
 ·refine kK (xtn (kS ?_))
  obtain ⟨hbt,hpos⟩:b=true∧0 < os.length:=by
   cases b with
   | false=>simp at h2
   | true=>exact ⟨rfl,by have:¬os.length=0:=(by simpa using h2);omega⟩
  obtain ⟨hg,htl⟩:=hub1 hbt;have hgo:∀ x∈os,Good x.t:=fun x hx=>list_good hg htl (List.mem_map.2 ⟨x,hx,rfl⟩)
  refine kR (sa S ?_);clear S;intro b6 a w S;refine J6 ?_;clear S;intro a S;have hlt:=foots_lt S;refine sr S (boxes_f p os.length c w) ?_;clear S;rintro _ a w ⟨g,rfl,n1,f1⟩ S;replace S:=S.add (Φ:=BoxF g 22 [.slice p os.length c]) (BoxF.stable f1 (fun hm=>by have:=hlt _ hm;omega));clear hlt n1 f1;refine kN (xtn (kB ?_));replace S:=S.addNil 124 7;replace S:=S.add (Φ:=AllI (α:=LBox) []) AllI.nil;replace S:=S.sub [Wk.row 124 7 none 0 0 [],Wk.box b6 120 [.slice none 0 0],Wk.box b3 4 [.bool false],Wk.box b2 120 [.slice none 0 0],marks [],ext M] [AllI (α:=LBox) [],BoxF g 22 [.slice p os.length c],LsF p 0 os];refine c_range (κ:=Option Addr × Nat × List LBox) (κx:=Unit) (Ds:=[]) os
   (fun i k=>[Wk.row 124 7 k.1 i k.2.1 (encL k.2.2),Wk.box b6 120 [.slice k.1 i k.2.1],Wk.box b3 4 [.bool false],Wk.box b2 120 [.slice none 0 0],marks [],ext M]) (fun _ k=>[AllI k.2.2,BoxF g 22 [.slice p os.length c],LsF p 0 os]) (fun i k=>SoFar os i k.2.2)
   (fun _=>[Wk.box b3 4 [.bool false],Wk.box b2 120 [.slice none 0 0],marks [],ext M]) (fun _=>[]) (fun c _=>c=.ret∧∀ sb,¬IsCap t.t sb) (none,0,[]) S
   (fun M w1 hM hF _=>boxesG_it g os hgo p c (by omega) w1 M hM (hF _ (by simp)) (hF _ (by simp))) ⟨⟨rfl,fun j h=>absurd h (Nat.not_lt_zero _),nofun,.nil⟩,rfl,rfl⟩ ?_ ?_ ?_ ?_
  ·clear S
   rintro L D bL M' w1 i x vs ⟨q,e,bx⟩ W0 w hx hso hW0 hgr ⟨y,ok,rfl,hgy,hby⟩;have hi:i < os.length:=(List.getElem?_eq_some_iff.1 hx).1;have hxe:x=nthL os i:=by rw[nth_get hi]at hx;exact (Option.some.inj hx).symm
   refine ⟨_,inferInstance,fun a S=>?_⟩;simp only at S hso;refine kS (kR ?_);refine sa S ?_;clear S;intro b7 a w S;refine Y7 ?_;clear S;intro a w S;refine rbegin (D:=D) (b:=bL) S ?_;clear S;intro a w S;refine kB (kS (kS ?_));obtain ⟨S1,hback⟩:=S.borrow (e:=124) (sz:=7) (n:=i) (c:=e) q bx (S.wd.facts (AllI bx) (by simp));have S:=S1;clear S1;have hbl:bx.length=i:=hso.len;have hC1:CLt [!(!ok),decide (0 < (i:Int))] (i - 1) i:=⟨fun h=>by have:=h (decide (0 < (i:Int))) (by simp);simp at this;omega⟩;have hC2:CLt [!(!ok),decide (0 < (i:Int))] (i - 1) bx.length:=⟨fun h=>by have:=h (decide (0 < (i:Int))) (by simp);simp at this;omega⟩;have hG1:GrpOk y:=hgy;have hG2:GrpOk (nthG bx (i - 1)):=by
    by_cases h0:i=0
    ·have:bx=[]:=List.length_eq_zero_iff.1 (by omega)
     rw[this];exact ⟨by simp[nthG,Lay.dflt],by simp[nthG,Lay.dflt]⟩
    ·exact hso.grp _ (nthG_mem (by omega))
   refine c_drawD [T9 0,T9 1,T9 2,T9 3,T9 4,T9 5,T9 6,T9 7,T9 8,T9 9,T9 10,T9 11,T9 12,T9 14,F9 13,F9 15,T9 16,T9 17,T9 18] [] S ?_;clear S;intro w S;(iterate 3 (refine dq S ?_;clear S;intro a S));(iterate 8 (refine dqG S ?_;clear S;intro a S));rw[gif_predC (by simp;omega) (by omega)]at S;(iterate 3 (refine dqG S ?_;clear S;intro a S));refine dl ?_;refine gC S ?_;clear S;intro a w S;refine de S ?_;refine dl ?_;refine gC S ?_;clear S;intro a w S;refine de S ?_;(iterate 2 (refine dqG S ?_;clear S;intro a S));refine dq S ?_;clear S;intro a S;refine dn (xtn ?_);refine kC S (fun h8=>?_) (fun h8=>?_)
   ·refine Y9 ?_;clear S;intro a w S
    have hno:∀ sb,¬IsCap t.t sb:=fun sb hsb=>by
     have hsbm:os.map LTerm.t=sb.map SBox.t:=listT_injC (htl.symm.trans hsb.2.1);have hl:os.length=sb.length:=by have:=congrArg List.length hsbm;simpa using this
     have his:i < sb.length:=by omega
     have hxb:(nthL os i).t=sb[i].t:=by
      have h1:=congrArg (fun l=>l[i]?) hsbm;simp only[List.getElem?_map]at h1;rw[nth_get hi,List.getElem?_eq_getElem his]at h1;simpa using h1
     have hsi:=hsb.2.2.1 _ (List.getElem_mem his);cases ok with
     | false=>exact hby.2 rfl _ _ (by rw[hxe,hxb];exact SBox.isBox hsi)
     | true=>
      obtain ⟨h0,hle⟩:0 < i∧placeF y≤placeF (nthG bx (i - 1)):=by simpa using h8
      obtain ⟨k1,k2⟩:=hby.1 rfl;obtain ⟨k3,k4⟩:=box_s k1 k2;have e1:sb[i]=y.s:=sbox_inj hsi k3 (by rw[←hxb,←hxe];exact k4);have e2:=hso.same hsbm hsb.2.2.1 (show i - 1 < i by omega) (by omega);have hi1:i - 1 < sb.length:=by omega
      rw[List.getElem?_eq_getElem hi1]at e2;have e3:sb[i - 1]=(nthG bx (i - 1)).s:=Option.some.inj e2;have:=List.pairwise_iff_getElem.1 hsb.2.2.2.1 (i - 1) i (by simpa using hi1) (by simpa using his) (by omega);rw[List.getElem_map,List.getElem_map,e1,e3,place_s,place_s]at this;omega
    exact rret (D:=D) (b:=bL) (S.sub [lpI L D (lpR bL .busy none),Wk.box b3 4 [.bool false],Wk.box b2 120 [.slice none 0 0],marks [],ext M] []) fun W hW=>⟨.inl rfl,(),⟨rfl,hno⟩,hW⟩
   ·refine kK (xtn ?_)
    replace S:=hback _ _ _ _ S (by simp);clear hback;refine J3 ?_;clear S;intro a S;refine sn S ?_;clear S;intro b46 a w S;refine sap S (by simp[maxLen];omega) (by omega) ?_;clear S;rintro p10 c10 a w - S;refine Y3 ?_;clear S;intro a w S;have hok:ok=true:=by
     cases ok with
     | true=>rfl
     | false=>simp at h8
    subst hok;obtain ⟨k1,k2⟩:=hby.1 rfl;have hpl:0 < i→placeF (nthG bx (i - 1)) < placeF y:=by simpa using h8
    rw[show encL bx++[Value.int .i64 y.user,.int .i64 y.group,.int .i64 y.term.kind,.int .i64 y.term.user,.int .i64 y.term.num,str y.term.text,.slice y.term.p y.term.kids.length y.term.cap]=encL (bx++[y]) from by rw[encL_append];simp[encL,Enc.cells]]at S;replace S:=S.add (Φ:=AllI (bx++[y])) (AllI.snoc (S.wd.facts (AllI bx) (by simp)) ((S.wd.facts (LsF p 0 os) (by simp)).imp fun w' h=>by
     show LtIn w' y.term
     rw[k2,hxe];have h2:=(LsIn.get h (nth_get hi)).2;refine kid_in h2 (nth_mem ?_);rw[hxe]at k1;rw[(isBox_pair k1).2.1];omega))
    replace S:=S.sub [lpI L D (lpR bL .busy none),Wk.row 124 7 p10 (i+1) c10 (encL (bx++[y])),Wk.box b6 120 [.slice p10 (i+1) c10],Wk.box b3 4 [.bool false],Wk.box b2 120 [.slice none 0 0],marks [],ext M] [AllI (bx++[y]),BoxF g 22 [.slice p os.length c],LsF p 0 os];have hso2:SoFar os (i+1) (bx++[y]):=hso.push hi (hxe▸k1) (hxe▸k2) hgy hpl;exact rnext (D:=D) (b:=bL) S fun W hW=>⟨(p10,c10,bx++[y]),hso2,hW⟩
  ·clear S
   rintro D ⟨q,e,bx⟩ a w hso S;refine Y10 ?_;clear S;intro a w S;simp only at S hso;have hbl:=hso.len;have hrow:=S.row q os.length;have hnew:=S.rowNew q os.length;replace S:=S.join (Ds:=[]);refine endM2 S (fun w hw=>?_);have h1:=hw.held (Wk.row 124 7 q os.length e (encL bx)) (by simp);have h2:Stable M w (AllI bx):=(hw.facts (AllI bx) (by simp)).less fun k _ hk=>⟨ext M,by simp,hk⟩
   refine ⟨q,e,bx,true,by rw[hbl],gl_own h1 h2 (fun ad h hm=>(hnew ad h).elim (fun h=>h.elim) (fun h2=>by have:=hM _ hm;omega)),by omega,fun _=>hso.fin hg htl hpos,nofun⟩
  ·clear S
   rintro D ⟨⟩ a w ⟨-,hno⟩ S;replace S:=S.join (Ds:=[])
   repeat (first | refine xbr ?_ | refine xtr ?_)
   refine endM2 S (fun w hw=>⟨none,0,[],false,rfl,fun _ _=>gl_nil,by simp,nofun,fun _=>⟨rfl,hno⟩⟩)
  ·intro id D k a w h;cases h.1
def usOf (sb:List SBox):List Int:=(sb.filter fun b=>decide (0 < b.user)).map SBox.user
def gsOf (sb:List SBox):List Int:=(sb.filter fun b=>!decide (0 < b.user)).map SBox.group
def UsersR (M:Nat→Prop)(T:Term)(v:Value)(w:World):Prop:=∃ (us gs:List Int) (pu pg:Option Addr) (cu cg:Nat) (e:Int),v=.tuple ⟨[.slice pu us.length cu,.slice pg gs.length cg,.int .i64 e]⟩∧Stable M w (GlF pu us)∧Stable M w (GlF pg gs)∧us.length≤1200∧gs.length≤1200∧
 (e=0→∃ sb,IsCap T sb∧us=usOf sb∧gs=gsOf sb)∧(e≠0→∀ sb,¬IsCap T sb)
theorem usersG_c (t:LTerm)(M:Nat→Prop)(w0:World)(hM:∀ k,M k→k < w0.heap.size)(hf:Stable M w0 (LtF t)):Ret Tryz.prog 62 [vL t] w0 (fun _=>False) fun v w'=>UsersR M t.t v w':=by
 refine E1 Tryz.func62 rfl Tryz.ntmps62 (Wd.beginM (M:=M) (fs:=[LtF t]) hM (by simpa using hf)) ?_;intro a S;refine kS (kR ?_);refine sa S ?_;intro b1 a w S;refine J8 ?_;intro a S;refine sr S (readG_c t _ w (foots_lt S) (S.t t)) ?_;rintro _ a w ⟨p,c,bx,ok,rfl,hfb,hbl,hyes,hno⟩ S;replace S:=S.add hfb;refine J14 ?_;intro a S;refine kC S (fun h2=>?_) (fun h2=>?_);refine J9 ?_;intro a S;refine end3 S (fun _=>⟨[],[],none,none,0,0,230,rfl,fun _ _=>gl_nil,fun _ _=>gl_nil,by simp,by simp,by simp,fun _=>(hno (by simpa using h2)).2⟩);refine kK (xtn (kS (kS ?_)));have hcap:=hyes (by simpa using h2);refine J7 ?_;intro a S;refine c_fore5 S (fun(k:Nat) (us:List Int) (gs:List Int) (qu:Option Addr × Nat) (qg:Option Addr × Nat) uu=>[(2,.slice qu.1 us.length qu.2),(0,.slice qg.1 gs.length qg.2),(4,uu 8),(9,.int .i64 (k:Nat)),(0,uu 19),(0,uu 20),(0,uu 21),(0,uu 22),(0,uu 23),(0,uu 24),(0,uu 25),(0,uu 26),(0,uu 27),(0,uu 28),(0,uu 29),(0,uu 30),(0,uu 31),(0,uu 32),(0,uu 33),(0,uu 34),(0,uu 35)]) (fun(k:Nat) (us:List Int) (gs:List Int) (qu:Option Addr × Nat) (qg:Option Addr × Nat)=>[Wk.row 3 1 qg.1 gs.length qg.2 (encL gs),Wk.row 3 1 qu.1 us.length qu.2 (encL us),Wk.box b1 24 t.cells,ext M]) (fun(k:Nat) (us:List Int) (gs:List Int) (qu:Option Addr × Nat) (qg:Option Addr × Nat)=>[GlF p bx,LtF t]) (fun(k:Nat) (us:List Int) (gs:List Int) (qu:Option Addr × Nat) (qg:Option Addr × Nat)=>k≤bx.length∧us.length≤k∧gs.length≤k∧us=usOf ((bx.take k).map LBox.s)∧gs=gsOf ((bx.take k).map LBox.s)) (fun(k:Nat) (us:List Int) (gs:List Int) (qu:Option Addr × Nat) (qg:Option Addr × Nat)=>bx.length - k) (0) ([]) ([]) ((none,0)) ((none,0)) ?_ S.uu ?_ ?_
 exact ⟨Nat.zero_le _,Nat.le_refl _,Nat.le_refl _,rfl,rfl⟩;replace S:=(S.addNil 3 1).addNil 3 1;rw[show Wk.row 3 1 none 0 0 []=Wk.row 3 1 none 0 0 (encL ([]:List Int)) from rfl]at S;exact S.sub _ _;clear S;rintro k us gs qu qg uu a w ⟨hk,hul,hgl,hus,hgs⟩ S;refine J6 ?_;intro a S;refine kC S (fun h5=>?_) (fun h5=>?_);refine kK (xtn (kS (kB (kS ?_))));have hkl:k < bx.length:=by have:=of_decide_eq_true h5;omega
 have hK:KLt k bx.length:=⟨hkl⟩;refine J3 ?_;intro a S;refine sa S ?_;intro b8 a w S;refine Y10 ?_;intro a w S;refine kC S (fun h7=>?_) (fun h7=>?_);refine J4 ?_;intro a S;refine sn S ?_;intro b28 a w S;refine sap S (by simp[maxLen];omega) (by omega) ?_;rintro p8 c8 a w - S;rw[show encL us++[Value.int .i64 (nthG bx k).user]=encL (us++[(nthG bx k).user]) from by rw[encL_append];rfl,show us.length+1=(us++[(nthG bx k).user]).length from by simp]at S;refine J9 ?_;intro a S;rw[w6 ((k:Int)+1)]at S;have hu:0 < (nthG bx k).s.user:=by show 0 < (nthG bx k).user;simpa using h7
 refine ⟨k+1,us++[(nthG bx k).user],gs,(p8,c8),qg,S.uu,⟨hkl,by simp;omega,by omega,?_,?_⟩,S.sub _ _,by omega⟩;rw[nthG_take hkl,List.map_append,usOf,List.filter_append,List.map_append,hus];simp[usOf,hu];rfl;rw[nthG_take hkl,List.map_append,gsOf,List.filter_append,List.map_append,hgs];simp[gsOf,hu];refine J4 ?_;intro a S;refine sn S ?_;intro b33 a w S;refine sap S (by simp[maxLen];omega) (by omega) ?_;rintro p8 c8 a w - S;rw[show encL gs++[Value.int .i64 (nthG bx k).group]=encL (gs++[(nthG bx k).group]) from by rw[encL_append];rfl,show gs.length+1=(gs++[(nthG bx k).group]).length from by simp]at S;refine J9 ?_;intro a S;rw[w6 ((k:Int)+1)]at S;have hu:¬0 < (nthG bx k).s.user:=by show ¬0 < (nthG bx k).user;simpa using h7
 refine ⟨k+1,us,gs++[(nthG bx k).group],qu,(p8,c8),S.uu,⟨hkl,by omega,by simp;omega,?_,?_⟩,S.sub _ _,by omega⟩;rw[nthG_take hkl,List.map_append,usOf,List.filter_append,List.map_append,hus];simp[usOf,hu];rw[nthG_take hkl,List.map_append,gsOf,List.filter_append,List.map_append,hgs];simp[gsOf,hu];rfl;refine J15 ?_;intro a S;have hke:k=bx.length:=by have:=of_decide_eq_false h5;omega
 subst hke;rw[List.take_length]at hus hgs;have hr1:=S.row qu.1 us.length;have hn1:=S.rowNew qu.1 us.length;have hr2:=S.row qg.1 gs.length;have hn2:=S.rowNew qg.1 gs.length;refine end3 S (fun _=>?_);exact ⟨us,gs,qu.1,qg.1,qu.2,qg.2,0,rfl,gl_own hr1 (fun _ _ _ _=>trivial) (fun ad h hm=>(hn1 ad h).elim (fun h=>h.elim) (fun h2=>by have:=hM _ hm;omega)),
  gl_own hr2 (fun _ _ _ _=>trivial) (fun ad h hm=>(hn2 ad h).elim (fun h=>h.elim) (fun h2=>by have:=hM _ hm;omega)),by omega,by omega,fun _=>⟨_,hcap,hus,hgs⟩,fun h=>absurd rfl h⟩
end Go.Proofs.YtibkkbknnfehlaaGreatDoor