/- 6: a part of this claim's texts, joined: RefMetaD RefMetaE W8 W9 W10 W11 W12 W13 MetaG MetaH MetaI MetaJ MetaK RefMetaF. -/
import Derived.Test.YtibkkbknnfehlaaGreatDoorPd5
import Derived.Lib.AppendZerosOnto
import Derived.Lib.Overlaps
import Derived.ChangeKeysEq
import Derived.Laws.StructEq
import Derived.SizedLaws
import Derived.OpenShut
namespace Go.Proofs.YtibkkbknnfehlaaGreatDoor
open Go Go.Wk
set_option synthInstance.maxSize 100000
set_option synthInstance.maxHeartbeats 400000
set_option maxRecDepth 100000
theorem encL_snocI (l:List Int)(x:Int):encL l++[Value.int .i64 x]=encL (l++[x]):=by rw[encL_append];rfl
def R13R (M:Nat→Prop)(T:Term)(v:Value)(w:World):Prop:=∃ (p q:Option Addr) (c d:Nat) (pl:List Int) (zs:List LTerm) (b:Bool),v=.tuple ⟨[.slice p pl.length c,.slice q zs.length d,.bool b]⟩∧Stable M w (GlF p pl)∧pl.length≤100000∧(b=true→∃ sb,IsCap T sb∧pl=sb.map SBox.place)∧(b=false→∀ sb,¬IsCap T sb)
set_option maxHeartbeats 1000000 in
theorem r13read_c (t:LTerm)(hg:Good t.t)(M:Nat→Prop)(w0:World)(hM:∀ k,M k→k < w0.heap.size)(hf:Stable M w0 (LtF t)):Ret Tryz.prog 68 [vL t] w0 (fun _=>False) fun v w'=>R13R M t.t v w':=by
 have hgd:=good_dpt hg;have hrt:rightF t.t=true:=check_zero.1 (good_check.2 hg);refine E1 Tryz.func68 rfl Tryz.ntmps68 (Wd.beginM (M:=M) (fs:=[LtF t]) hM (by simpa using hf)) ?_;intro a S;refine kS (kR ?_);refine sa S ?_;clear S;intro b1 a w S;refine Y10 ?_;clear S;intro a w S;rw[hrt]at S;refine J1 ?_;clear S;intro a S;rw[show (!true)=false from rfl]at S;refine J8 ?_;clear S;intro a S;refine sr S (runlist_c t (by omega) _ w (foots_lt S) (S.t t)) ?_;clear S;rintro _ a w ⟨p1,c1,os,b0,rfl,hls,hol,hun⟩ S;replace S:=S.add hls;obtain ⟨hun1,hun2⟩:=hun hg;refine J19 ?_;clear S;intro a S;refine kC S (fun h4=>?_) (fun h4=>?_);refine J9 ?_;clear S;intro a S;refine end3 S (fun _=>⟨none,none,0,0,[],[],false,rfl,fun _ _=>gl_nil,by simp,nofun,fun _ sb hsb=>?_⟩);cases b0 with
 | false=>exact (hun2 rfl).2 _ hsb.2.1
 | true=>
  have hl0:os.length=0:=by simpa using h4
  have h3:=hun1 rfl;rw[List.length_eq_zero_iff.1 hl0,hsb.2.1]at h3;have:=listT_injC h3;exact hsb.2.2.2.2 (by simpa using this)
 refine kK (xtn (kS ?_));obtain ⟨hbt,hpos⟩:b0=true∧0 < os.length:=by
  cases b0 with
  | false=>simp at h4
  | true=>exact ⟨rfl,by have:¬os.length=0:=(by simpa using h4);omega⟩
 have htl:=hun1 hbt;have hgo:∀ x∈os,Good x.t:=fun x hx=>list_good hg htl (List.mem_map.2 ⟨x,hx,rfl⟩)
 have holl:os.length≤1200:=by omega
 have hcap:∀ sb,IsCap t.t sb→∀ i,i < os.length→∃ h:i < sb.length,os.map LTerm.t=sb.map SBox.t∧(nthL os i).t=(sb[i]).t∧(sb[i]).ok:=fun sb hsb i hi=>by
  have hsbm:os.map LTerm.t=sb.map SBox.t:=listT_injC (htl.symm.trans hsb.2.1);have hl:os.length=sb.length:=by have:=congrArg List.length hsbm;simpa using this
  have his:i < sb.length:=by omega
  refine ⟨his,hsbm,?_,hsb.2.2.1 _ (List.getElem_mem his)⟩;have h1:=congrArg (fun l=>l[i]?) hsbm;simp only[List.getElem?_map]at h1;rw[nth_get hi,List.getElem?_eq_getElem his]at h1;simpa using h1
 refine J16 ?_;clear S;intro a S;refine c_fore5 S (fun(bx:List LBox) (p:Option Addr) (q:Option Addr) (c:Nat) (d:Nat) uu=>[(2,uu 2),(0,uu 3),(0,uu 4),(2,.slice p bx.length c),(0,.slice q bx.length d),(0,.int .i64 (bx.length:Nat)),(0,uu 10),(0,uu 11),(0,uu 12),(15,uu 28),(0,uu 29),(0,uu 30),(0,uu 31),(0,uu 32),(0,uu 33),(0,uu 34),(0,uu 35),(0,uu 36),(0,uu 37),(0,uu 38),(0,uu 39),(0,uu 40),(0,uu 41),(0,uu 42),(0,uu 43),(0,uu 44),(0,uu 45),(0,uu 46),(0,uu 47),(0,uu 48),(0,uu 49),(0,uu 50),(0,uu 51),(0,uu 52),(0,uu 53),(0,uu 54),(0,uu 55),(0,uu 56),(0,uu 57),(0,uu 58),(0,uu 59),(0,uu 60),(0,uu 61),(0,uu 62),(0,uu 63),(0,uu 64),(0,uu 65),(0,uu 66),(0,uu 67),(0,uu 68),(0,uu 69),(0,uu 70),(0,uu 71),(0,uu 72),(0,uu 73),(0,uu 74),(0,uu 75),(0,uu 76),(0,uu 77),(0,uu 78),(0,uu 79),(0,uu 80),(0,uu 81),(0,uu 82),(0,uu 83),(0,uu 84),(0,uu 85),(0,uu 86),(0,uu 87),(0,uu 88),(0,uu 89),(0,uu 90),(0,uu 91),(0,uu 92),(0,uu 93),(0,uu 94),(0,uu 95),(0,uu 96),(0,uu 97),(0,uu 98),(0,uu 99),(0,uu 100),(0,uu 101),(0,uu 102),(0,uu 103),(0,uu 104),(0,uu 105),(0,uu 106),(0,uu 107),(0,uu 108),(0,uu 109)]) (fun(bx:List LBox) (p:Option Addr) (q:Option Addr) (c:Nat) (d:Nat)=>[Wk.row 24 5 q bx.length d (encL (bx.map LBox.term)),Wk.row 3 1 p bx.length c (encL (bx.map placeF)),Wk.box b1 24 t.cells,ext M]) (fun(bx:List LBox) (p:Option Addr) (q:Option Addr) (c:Nat) (d:Nat)=>[LsF p1 0 os,LtF t]) (fun(bx:List LBox) (p:Option Addr) (q:Option Addr) (c:Nat) (d:Nat)=>bx.length≤os.length∧SoFar os bx.length bx) (fun(bx:List LBox) (p:Option Addr) (q:Option Addr) (c:Nat) (d:Nat)=>os.length - bx.length) ([]) (none) (none) (0) (0) ?_ S.uu ?_ ?_
 exact ⟨Nat.zero_le _,⟨rfl,fun j h=>absurd h (Nat.not_lt_zero _),nofun,.nil⟩⟩;replace S:=S.addNil 3 1;replace S:=S.addNil 24 5;rw[show Wk.row 3 1 none 0 0 []=Wk.row 3 1 none 0 0 (encL (([]:List LBox).map placeF)) from rfl,show Wk.row 24 5 none 0 0 []=Wk.row 24 5 none 0 0 (encL (([]:List LBox).map LBox.term)) from rfl]at S;exact S.sub _ _;clear S;rintro bx p q c d uu a w ⟨hk,hso⟩ S;refine J9 ?_;clear S;intro a S;refine kC S (fun h9=>?_) (fun h9=>?_);refine kK (xtn (kS (kB (kS (kS ?_)))));have hkl:bx.length < os.length:=by simp at h9;omega
 have hK:KLt bx.length os.length:=⟨hkl⟩;have hgx:Good (nthL os bx.length).t:=hgo _ (nth_mem hkl);refine J9 ?_;clear S;intro a S;refine kC S (fun h11=>?_) (fun h11=>?_);refine J14 ?_;clear S;intro a S;have h11':(nthL os bx.length).kind≠4:=by simpa using h11
 refine end3 S (fun _=>⟨none,none,0,0,[],[],false,rfl,fun _ _=>gl_nil,by simp,nofun,fun _ sb hsb=>?_⟩);obtain ⟨his,-,h1,h2⟩:=hcap sb hsb _ hkl;exact h11' (isBox_pair (by rw[h1];exact SBox.isBox h2)).1;refine kK (xtn (kS ?_));have hk4:(nthL os bx.length).kind=4:=by simpa using h11
 have hk2:=(good_pr hgx hk4).1;have hK0:KLt 0 (nthL os bx.length).kids.length:=⟨by omega⟩;have hK1:KLt 1 (nthL os bx.length).kids.length:=⟨by omega⟩;refine J11 ?_;clear S;intro a S;refine c_forb2 S (fun(n:Nat) (k:Nat) uu=>[(10,.int .i64 (k:Nat)),(0,.int .i64 (n:Nat)),(28,uu 40),(0,uu 41),(0,uu 42),(0,uu 43),(0,uu 44),(0,uu 45),(0,uu 46),(0,uu 47),(0,uu 48),(0,uu 49),(0,uu 50),(0,uu 51),(0,uu 52),(0,uu 53),(0,uu 54),(0,uu 55)]) (fun(n:Nat) (k:Nat)=>1≤n∧n≤10∧((k=0∧∀ m:Nat,1≤m→m < n→(nthL (nthL os bx.length).kids 0).t≠textT (nm13 (m:Nat)))∨((1≤k∧k < n)∧(nthL (nthL os bx.length).kids 0).t=textT (nm13 (k:Nat))))) (fun(n:Nat) (k:Nat)=>10 - n) (1) (0) ?_ S.uu ?_ ?_;exact ⟨Nat.le_refl _,by omega,.inl ⟨rfl,fun m h1 h2=>by omega⟩⟩
 first | exact S | exact S.sub _ _
 clear S;rintro n k uu a w ⟨hn1,hn10,hmt⟩ S;refine J7 ?_;clear S;intro a S;refine kC S (fun h15=>?_) (fun h15=>?_);refine kK (xtn (kS (kB (kS ?_))));have hn9:n≤9:=by simp at h15;omega
 have hN9:N9 n:=⟨by omega⟩;refine c_drawD [T9 0,T9 1,T9 2,T9 3,T9 4,T9 5,T9 6,T9 7,F9 8,F9 9,F9 10] [] S ?_;clear S;intro w S;(iterate 8 (refine dq S ?_;clear S;intro a S));refine dl (sc S ?_);clear S;intro a w S;refine de S ?_;refine dl (sc S ?_);clear S;intro a w S;refine de S ?_;refine dl (sc S ?_);clear S;intro a w S;refine de S ?_;refine dn (xtn ?_);refine kC S (fun h17=>?_) (fun h17=>?_);refine J9 ?_;clear S;intro a S;rw[w6 _,show (n:Int)+1=((n+1:Nat):Int) from rfl]at S;refine J3 ?_;clear S;intro a S;have h17':(nthL (nthL os bx.length).kids 0).t=textT (nm13 (n:Nat)):=(sameF_iff _ _).1 h17;exact ⟨n+1,n,S.uu,⟨by omega,by omega,.inr ⟨⟨by omega,by omega⟩,h17'⟩⟩,S.sub _ _,by omega⟩;refine J6 ?_;clear S;intro a S;rw[w6 _,show (n:Int)+1=((n+1:Nat):Int) from rfl]at S;refine J3 ?_;clear S;intro a S;have h17':(nthL (nthL os bx.length).kids 0).t≠textT (nm13 (n:Nat)):=fun h=>by
  rw[show sameF (nthL (nthL os bx.length).kids 0).t (textL (nm13 (n:Nat))).t=true from (sameF_iff _ _).2 h]at h17;cases h17
 refine ⟨n+1,k,S.uu,⟨by omega,by omega,?_⟩,S.sub _ _,by omega⟩;rcases hmt with ⟨q1,q2⟩ | ⟨q1,q2⟩
 refine .inl ⟨q1,fun m h1 h2=>?_⟩;rcases Nat.lt_or_ge m n with h | h
 exact q2 m h1 h;obtain rfl:m=n:=by omega
 exact h17';exact .inr ⟨by omega,q2⟩;refine kE (xte (xte (xbe (xtn (kS ?_)))));have hn:n=10:=by simp at h15;omega
 have hlast:0 < bx.length→placeF (nthG bx (bx.length - 1))=nthG (bx.map placeF) (bx.length - 1):=fun h=>by
  have h1:bx.length - 1 < bx.length:=by omega
  have h2:=nthG_get (xs:=bx.map placeF) (k:=bx.length - 1) (by rw[List.length_map];omega);rw[List.getElem?_map,nthG_get h1]at h2;simpa using h2
 refine J8 ?_;clear S;intro a S;refine sa S ?_;clear S;intro b12 a w S;refine Y5 ?_;clear S;intro a w S;obtain ⟨S1,hback⟩:=S.borrow (e:=3) (sz:=1) (n:=bx.length) (c:=c) p (bx.map placeF) (fun _ _ _ _=>trivial);have S:=S1;clear S1;have hC1:CLt [!decide ((k:Int)=0),decide (0 < (bx.length:Int))] (bx.length - 1) bx.length:=⟨fun h=>by have:=h (decide (0 < (bx.length:Int))) (by simp);simp at this;omega⟩;have hC2:CLt [!decide ((k:Int)=0),decide (0 < (bx.length:Int))] (bx.length - 1) (bx.map placeF).length:=⟨fun h=>by have:=h (decide (0 < (bx.length:Int))) (by simp);simp at this;rw[List.length_map];omega⟩;refine J11 ?_;clear S;intro a S;rw[gif_predC (by simp;omega) (by omega)]at S;refine J20 ?_;clear S;intro a S;refine J11 ?_;clear S;intro a S;refine kC S (fun h20=>?_) (fun h20=>?_);refine J14 ?_;clear S;intro a S;have hno:∀ sb,¬IsCap t.t sb:=fun sb hsb=>by
  obtain ⟨his,hsbm,h1,h2⟩:=hcap sb hsb _ hkl;have hib:=SBox.isBox h2;rw[←h1]at hib;obtain ⟨k',hk',e0,hk3⟩:=(box13 hgx hk4).1 hib;have hkk:k=k':=by
   rcases hmt with ⟨q1,q2⟩ | ⟨q1,q2⟩
   exact absurd e0 (q2 k' (by omega) (by omega));rw[q2]at e0;simp only[textT,Term.mk.injEq]at e0;exact nm13_inj (by omega) hk' e0.2.2.2.1
  subst hkk;have hpl:(sb[bx.length]).place=k:=by
   unfold SBox.place;rcases hk3 with ⟨b1,b2,b3,b4,b5⟩ | ⟨b1,b2,b3,b4⟩
   rw[if_pos (by omega),b2];rw[if_neg (by omega),b3];omega
  have hord:0 < bx.length∧(k:Int)≤nthG (bx.map placeF) (bx.length - 1):=by
   rcases hk3 with ⟨b1,b2,b3,b4,b5⟩ | ⟨b1,b2,b3,b4⟩
   have e1:¬(k:Int)=0:=by omega
   have e2:¬6 < (k:Int):=by omega
   simp[b4,b5,e1,e2]at h20;exact h20.resolve_left (by omega);have e1:¬(k:Int)=0:=by omega
   have e2:¬(k:Int)≤6:=by omega
   simp[b4,e1,e2]at h20;exact h20.resolve_left (by omega)
  have e2:=hso.same hsbm hsb.2.2.1 (show bx.length - 1 < bx.length by omega) (by omega);have hi1:bx.length - 1 < sb.length:=by omega
  rw[List.getElem?_eq_getElem hi1]at e2;have e3:sb[bx.length - 1]=(nthG bx (bx.length - 1)).s:=Option.some.inj e2;have:=List.pairwise_iff_getElem.1 hsb.2.2.2.1 (bx.length - 1) bx.length (by simpa using hi1) (by simpa using his) (by omega);rw[List.getElem_map,List.getElem_map,e3,place_s,hpl,hlast hord.1]at this;omega
 refine end3 S (fun _=>⟨none,none,0,0,[],[],false,rfl,fun _ _=>gl_nil,by simp,nofun,fun _=>hno⟩);refine kK (xtn (kS ?_));replace S:=hback _ _ _ _ S (by simp);clear hback;have hx4:1≤k∧k≤9∧(nthL (nthL os bx.length).kids 0).t=textT (nm13 (k:Nat)):=by
  rcases hmt with ⟨q1,q2⟩ | ⟨q1,q2⟩
  rw[q1]at h20;simp at h20;exact ⟨by omega,by omega,q2⟩
 obtain ⟨hk1,hk9,hkt⟩:=hx4;have hcond:(0 < bx.length→nthG (bx.map placeF) (bx.length - 1) < k)∧(k≤6→(nthL (nthL os bx.length).kids 1).kind=7∧(nthL (nthL os bx.length).kids 1).user=k)∧(6 < k→(nthL (nthL os bx.length).kids 1).kind=6):=by
  simp only[Bool.or_eq_false_iff,Bool.and_eq_false_iff,Bool.not_eq_false',decide_eq_false_iff_not,decide_eq_true_eq]at h20;obtain ⟨⟨⟨q0,q1⟩,q2⟩,q3⟩:=h20;refine ⟨fun h=>?_,fun h=>?_,fun h=>?_⟩;rcases q1 with q1 | q1 <;> omega
  rcases q2 with q2 | q2
  omega;exact q2;rcases q3 with q3 | q3
  omega;exact q3
 obtain ⟨y,hyt,hyp,hyb,hyg⟩:∃ y:LBox,y.term=nthL (nthL os bx.length).kids 1∧placeF y=k∧IsBox (nthL os bx.length).t y.user y.group∧GrpOk y:=by
  by_cases h6:k≤6
  exact ⟨⟨k,0,nthL (nthL os bx.length).kids 1⟩,rfl,by unfold placeF;rw[if_pos (show (0:Int) < (k:Int) by omega)],(box13 hgx hk4).2 ⟨k,⟨hk1,hk9⟩,hkt,.inl ⟨h6,rfl,rfl,hcond.2.1 h6⟩⟩,⟨Int.le_refl _,by show (0:Int)≤1000;omega⟩⟩;refine ⟨⟨0,(k:Int) - 6,nthL (nthL os bx.length).kids 1⟩,rfl,by unfold placeF;rw[if_neg (show ¬(0:Int) < 0 by omega)];show 6+((k:Int) - 6)=k;omega,(box13 hgx hk4).2 ⟨k,⟨hk1,hk9⟩,hkt,.inr ⟨by omega,rfl,rfl,hcond.2.2 (by omega)⟩⟩,⟨by show (0:Int)≤(k:Int) - 6;omega,by show (k:Int) - 6≤1000;omega⟩⟩
 have hso2:=hso.push hkl hyb hyt hyg (fun h=>by rw[hlast h,hyp];exact hcond.1 h);refine J3 ?_;clear S;intro a S;refine sn S ?_;clear S;intro b104 a w S;refine sap S (by simp[maxLen];omega) (by omega) ?_;clear S;rintro p5 c5 a w - S;rw[show encL (bx.map placeF)++[Value.int .i64 (k:Nat)]=encL ((bx++[y]).map placeF) from by rw[encL_snocI,List.map_append,List.map_cons,List.map_nil,hyp]]at S;refine J6 ?_;clear S;intro a S;refine sn S ?_;clear S;intro b108 a w S;refine sap S (by simp[maxLen];omega) (by omega) ?_;clear S;rintro p6 c6 a w - S;rw[show encL (bx.map LBox.term)++[Value.int .i64 (nthL (nthL os bx.length).kids 1).kind,.int .i64 (nthL (nthL os bx.length).kids 1).user,.int .i64 (nthL (nthL os bx.length).kids 1).num,str (nthL (nthL os bx.length).kids 1).text,.slice (nthL (nthL os bx.length).kids 1).p (nthL (nthL os bx.length).kids 1).kids.length (nthL (nthL os bx.length).kids 1).cap]=encL ((bx++[y]).map LBox.term) from by rw[List.map_append,encL_append,List.map_cons,List.map_nil,hyt];rfl,show bx.length+1=(bx++[y]).length from by simp]at S;refine J10 ?_;clear S;intro a S;rw[w6 ((bx.length:Int)+1),show (bx.length:Int)+1=(((bx++[y]).length:Nat):Int) from by simp]at S;refine ⟨bx++[y],p5,p6,c5,c6,S.uu,⟨by simp;omega,by rw[show (bx++[y]).length=bx.length+1 from by simp];exact hso2⟩,S.sub _ _,by simp;omega⟩;refine J15 ?_;clear S;intro a S;have hke:bx.length=os.length:=by simp at h9;omega
 rw[hke]at hso;replace S:=S.rowToGl p (bx.map placeF) (e:=3) (sz:=1) (n:=bx.length) (c:=c) (fun _ _ _ _=>trivial);have hfl:Stable M _ (GlF p (bx.map placeF)):=S.laterFact (Φ:=GlF p (bx.map placeF)) (by simp);refine end3 S (fun _=>?_);refine ⟨p,q,c,d,bx.map placeF,bx.map LBox.term,true,by rw[List.length_map,List.length_map],hfl,by rw[List.length_map];omega,fun _=>⟨bx.map LBox.s,hso.fin hg htl hpos,by rw[List.map_map];rfl⟩,nofun⟩
abbrev zSl:Sl Int:=⟨none,0,[]⟩
def hasB (o:Int)(rd gr:List Int)(x:Int):Bool:=(decide (x≤6)&&(decide (x=o)||decide (x∈rd)))||(decide (6 < x)&&decide (x - 6∈gr))
theorem place_rng {b:SBox}(h:b.ok):1≤b.place∧b.place≤9∧((b.place≤6∧0 < b.user∧b.user=b.place)∨(6 < b.place∧¬0 < b.user∧b.group=b.place - 6)):=by
 unfold SBox.place;rcases h with ⟨h1,h2,h3,s,h4⟩ | ⟨h1,h2,h3,k,s,h4⟩
 rw[if_pos (by omega)];exact ⟨h1,by omega,.inl ⟨h2,by omega,rfl⟩⟩;rw[if_neg (by omega)];exact ⟨by omega,by omega,.inr ⟨by omega,by omega,by omega⟩⟩
theorem mem_us {sb:List SBox}(hok:∀ b∈sb,b.ok)(x:Int):x∈usOf sb↔x≤6∧x∈sb.map SBox.place:=by
 rw[usOf,List.mem_map,List.mem_map];constructor;rintro ⟨b,hb,rfl⟩;obtain ⟨hb1,hb2⟩:=List.mem_filter.1 hb;have h0:0 < b.user:=of_decide_eq_true hb2;obtain ⟨h1,h2,h3 | h3⟩:=place_rng (hok b hb1);exact ⟨by omega,b,hb1,by omega⟩;exact absurd h0 h3.2.1;rintro ⟨h6,b,hb,rfl⟩;obtain ⟨h1,h2,h3 | h3⟩:=place_rng (hok b hb);exact ⟨b,List.mem_filter.2 ⟨hb,decide_eq_true h3.2.1⟩,h3.2.2⟩;omega
theorem mem_gs {sb:List SBox}(hok:∀ b∈sb,b.ok)(x:Int):x∈gsOf sb↔6 < x+6∧x+6∈sb.map SBox.place:=by
 rw[gsOf,List.mem_map,List.mem_map];constructor;rintro ⟨b,hb,rfl⟩;obtain ⟨hb1,hb2⟩:=List.mem_filter.1 hb;have h0:¬0 < b.user:=by simpa using hb2
 obtain ⟨h1,h2,h3 | h3⟩:=place_rng (hok b hb1);exact absurd h3.2.1 h0;exact ⟨by omega,b,hb1,by omega⟩;rintro ⟨h6,b,hb,hx⟩;obtain ⟨h1,h2,h3 | h3⟩:=place_rng (hok b hb);omega;exact ⟨b,List.mem_filter.2 ⟨hb,by simp;omega⟩,by omega⟩
theorem gsOf_rise {t:Term}{sb:List SBox}(h:IsCap t sb):(gsOf sb).Pairwise (· < ·):=by
 have h1:=List.pairwise_map.1 h.2.2.2.1;rw[gsOf,List.pairwise_map,List.pairwise_filter];refine h1.imp_of_mem fun {a b} ha hb hab qa qb=>?_
 have k1:=place_rng (h.2.2.1 a ha);have k2:=place_rng (h.2.2.1 b hb);simp only[Bool.not_eq_true',decide_eq_false_iff_not]at qa qb;omega
theorem nodup_lt {l:List Int}(h:l.Pairwise (· < ·)):l.Nodup:=h.imp fun h=>by omega
theorem cap_has {m:Met}{sb:List SBox}(hc:IsCap m.boxes sb)(hh:headM m=true):((usOf sb).Perm (m.owner::m.rd)∧gsOf sb=m.gr)↔∀ x:Int,1≤x→x≤9→(hasB m.owner m.rd m.gr x=true↔x∈sb.map SBox.place):=by
 have hok:=hc.2.2.1;simp only[headM,permLM,Bool.and_eq_true]at hh;obtain ⟨⟨⟨_,_⟩,q3⟩,_⟩:=hh;obtain ⟨⟨⟨⟨⟨⟨q4,_⟩,_⟩,q7⟩,_⟩,q9⟩,_⟩:=q3;have ho:1≤m.owner∧m.owner≤6:=by simpa [okU] using q4
 obtain ⟨r1,r2,-⟩:=risF_all _ _ _ q7;obtain ⟨g1,g2,-⟩:=risF_all _ _ _ q9;have r3:∀ x∈m.rd,(1≤x∧x≤6)∧x≠m.owner:=fun x hx=>by simpa [okU] using r1 x hx
 have g3:∀ x∈m.gr,1≤x∧x≤3:=fun x hx=>by simpa [okG] using g1 x hx
 have hnd:(m.owner::m.rd).Nodup:=List.nodup_cons.2 ⟨fun h=>(r3 _ h).2 rfl,nodup_lt r2⟩;have hpl:∀ x∈sb.map SBox.place,1≤x∧x≤9:=fun x hx=>by
  obtain ⟨b,hb,rfl⟩:=List.mem_map.1 hx;have:=place_rng (hok b hb);omega
 rw[List.perm_ext_iff_of_nodup (nodup_lt (usOf_rise hc)) hnd];constructor;rintro ⟨h1,h2⟩ x hx1 hx9;have k1:=h1 x;rw[mem_us hok,List.mem_cons]at k1;have k2:=mem_gs hok (x - 6);rw[h2,show x - 6+6=x from by omega]at k2
 by_cases h6:x≤6
 simp only[hasB,h6,show ¬6 < x from by omega,decide_true,decide_false,Bool.true_and,Bool.false_and,Bool.or_false,Bool.or_eq_true,decide_eq_true_eq];rw[←k1];simp[h6];simp only[hasB,h6,show 6 < x from by omega,decide_true,decide_false,Bool.true_and,Bool.false_and,Bool.false_or,decide_eq_true_eq];rw[k2];simp[show 6 < x from by omega];intro h;refine ⟨fun x=>?_,?_⟩;rw[mem_us hok,List.mem_cons];constructor;rintro ⟨h6,hx⟩;have h1:=(h x (hpl x hx).1 (hpl x hx).2).2 hx;simp only[hasB,h6,show ¬6 < x from by omega,decide_true,decide_false,Bool.true_and,Bool.false_and,Bool.or_false,Bool.or_eq_true,decide_eq_true_eq]at h1;exact h1;intro hx;have hx6:1≤x∧x≤6:=by
  rcases hx with rfl | hx
  exact ho;exact (r3 x hx).1
 refine ⟨hx6.2,(h x hx6.1 (by omega)).1 ?_⟩;simp only[hasB,hx6.2,decide_true,Bool.true_and,Bool.or_eq_true,decide_eq_true_eq];exact .inl hx;refine sorted_eq ((gsOf_rise hc).imp fun h=>Int.le_of_lt h) (g2.imp fun h=>Int.le_of_lt h) ((List.perm_ext_iff_of_nodup (nodup_lt (gsOf_rise hc)) (nodup_lt g2)).2 fun x=>?_);rw[mem_gs hok];constructor;rintro ⟨h6,hx⟩;have h1:=(h (x+6) (hpl _ hx).1 (hpl _ hx).2).2 hx;simp only[hasB,show ¬x+6≤6 from by omega,h6,decide_true,decide_false,Bool.true_and,Bool.false_and,Bool.false_or,decide_eq_true_eq]at h1
 rwa [show x+6 - 6=x from by omega]at h1
 intro hx;have hx3:=g3 x hx;refine ⟨by omega,(h (x+6) (by omega) (by omega)).1 ?_⟩;simp only[hasB,show ¬x+6≤6 from by omega,show 6 < x+6 from by omega,decide_true,decide_false,Bool.true_and,Bool.false_and,Bool.false_or,decide_eq_true_eq]
 rwa [show x+6 - 6=x from by omega]
theorem rhead_eq (m:LMeta):((((!nameB m.name||decide (m.version < 1))||decide (9999 < m.version))||!permB m.perm)||!decide ((m.past.xs.length:Int)=IntKind.i64.wrap (m.perm.epoch - 1))) = !headM m.m:=by
 rw[←head_eq];have hp:decide (permF m.perm=0)=permB m.perm:=by
  cases h:permB m.perm <;> simp[permF,h]
 rw[hp];cases nameB m.name <;> cases permB m.perm <;> by_cases h1:m.version < 1 <;> by_cases h2:9999 < m.version <;> simp[h1,h2] <;> omega
theorem perm_past (o:Int)(s:Sl Int)(h:okU o=true):permB (⟨o,1,s,zSl,zSl⟩:LPerm)=riseB s.xs o:=by
 simp[permB,h,riseB,risF]
theorem rright15_c (m:LMeta)(hfit:FitMeta m)(hgb:Good m.boxes.t)(M:Nat→Prop)(w0:World)(hM:∀ k,M k→k < w0.heap.size)(hf:Stable M w0 (InF m)):Ret Tryz.prog 32 [vMeta m] w0 (fun _=>False) fun v _=>∃ b,v=.bool b∧(b=true↔metOk m.m):=by
 have hL1:LeC m.name.length 1000000:=⟨hfit.name⟩;have hpl:=hfit.past;refine E1 Tryz.func32 rfl Tryz.ntmps32 (Wd.beginM (M:=M) (fs:=[InF m]) hM (by simpa using hf)) ?_;intro a S;refine kS (kR ?_);refine sa S ?_;intro b1 a w S;refine Y20 ?_;intro a w S;refine Y18 ?_;intro a w S;refine kC S (fun h1=>?_) (fun h1=>?_);refine J7 ?_;intro a S;rw[rhead_eq]at h1;refine end1 S (fun _=>⟨false,rfl,nofun,fun h=>?_⟩);rw[h.1]at h1;cases h1;refine kK (xtn (kS (kS ?_)));rw[rhead_eq]at h1;have hh:headM m.m=true:=by simpa using h1
 have hoU:okU m.perm.owner=true:=by
  have h2:=hh;simp only[headM,permLM,Bool.and_eq_true]at h2;exact h2.1.2.1.1.1.1.1.1
 refine J5 ?_;intro a S;refine c_forb1 S (fun(k:Nat) uu=>[(2,uu 2),(0,.int .i64 (k:Nat)),(37,uu 41),(0,uu 42),(0,uu 43),(0,uu 44),(0,uu 45),(0,uu 46),(0,uu 47),(0,uu 48),(0,uu 49),(0,uu 50),(0,uu 51),(0,uu 52),(0,uu 53),(0,uu 54),(0,uu 55),(0,uu 56),(0,uu 57),(0,uu 58)]) (fun(k:Nat)=>k≤m.past.xs.length∧∀ j,j < k→riseB (nthG m.past.xs j).xs m.perm.owner=true) (fun(k:Nat)=>m.past.xs.length - k) (0) ?_ S.uu ?_ ?_;exact ⟨Nat.zero_le _,fun j hj=>by omega⟩
 first | exact S | exact S.sub _ _
 clear S;rintro k uu a w ⟨hk,hrel⟩ S;refine J10 ?_;intro a S;refine kC S (fun h4=>?_) (fun h4=>?_);refine kK (xtn (kS (kB (kS ?_))));have hkl:k < m.past.xs.length:=by simp at h4;omega
 have hK:KLt k m.past.xs.length:=⟨hkl⟩;refine c_drawD [T9 0,T9 1,T9 2,T9 3,T9 4,T9 5,T9 6,T9 7,T9 8,F9 9,T9 10] [] S ?_;intro w S;(iterate 9 (refine dq S ?_;intro a S));refine dl ?_;have hss:Fx w (InF (nthG m.past.xs k)):=(S.mem.i0 m).imp fun _ h=>h.2.1.2.2.2 _ (nthG_mem hkl)
 refine sr S (rright11_c (⟨m.perm.owner,1,nthG m.past.xs k,zSl,zSl⟩:LPerm) _ (hss.imp fun _ h=>⟨h,⟨Nat.le_refl _,Nat.zero_le _,gl_nil⟩,⟨Nat.le_refl _,Nat.zero_le _,gl_nil⟩⟩)) ?_;clear S hss;rintro _ a w rfl S;rw[perm_past _ _ hoU]at S;refine de S ?_;refine dq S ?_;intro a S;refine dn (xtn ?_);refine kC S (fun h6=>?_) (fun h6=>?_);refine J11 ?_;intro a S;have h6':riseB (nthG m.past.xs k).xs m.perm.owner=false:=by simpa using h6
 refine end1 S (fun _=>⟨false,rfl,nofun,fun h=>?_⟩);have:=h.2.1 _ (List.mem_map.2 ⟨_,nthG_mem hkl,rfl⟩);rw[show m.m.owner=m.perm.owner from rfl,h6']at this;cases this;refine J9 ?_;intro a S;have h6':riseB (nthG m.past.xs k).xs m.perm.owner=true:=by simpa using h6
 rw[w6 ((k:Int)+1)]at S;refine ⟨k+1,S.uu,⟨hkl,fun j hj=>?_⟩,S.sub _ _,by omega⟩;rcases Nat.lt_or_ge j k with h | h
 exact hrel j h;obtain rfl:j=k:=by omega
 exact h6';refine kE (xte (xte (xbe (xtn (kS ?_)))));have hke:m.past.xs.length≤k:=by simp at h4;omega
 have hpast:∀ l∈m.m.past,riseB l m.m.owner=true:=fun l hl=>by
  obtain ⟨s,hs,rfl⟩:=List.mem_map.1 hl;obtain ⟨j,hj⟩:=List.getElem?_of_mem hs;have hjl:=(List.getElem?_eq_some_iff.1 hj).1;have:=hrel j (by omega)
  rwa [nthG_val hjl,(List.getElem?_eq_some_iff.1 hj).2]at this
 refine J3 ?_;intro a S;refine sr S (r13read_c m.boxes hgb _ w (foots_lt S) (S.t m.boxes)) ?_;rintro _ a w ⟨p,q,c,d,pl,zs,b0,rfl,hpf,hplen,hyes,hno⟩ S;replace S:=S.add hpf;refine J16 ?_;intro a S;refine kC S (fun h9=>?_) (fun h9=>?_);refine J7 ?_;intro a S;refine end1 S (fun _=>⟨false,rfl,nofun,fun h=>?_⟩);obtain ⟨sb,h2,-⟩:=h.2.2;exact absurd h2 (hno (by simpa using h9) sb);refine kK (xtn (kS ?_));obtain ⟨sb,hcap,rfl⟩:=hyes (by simpa using h9);have hpr:=hcap.2.2.2.1;have hiff:=cap_has hcap hh;have hokM:(∀ x:Int,1≤x→x≤9→(hasB m.perm.owner m.perm.rd.xs m.perm.gr.xs x=true↔x∈sb.map SBox.place))→metOk m.m:=fun h=>by
  obtain ⟨h1,h2⟩:=hiff.2 h;exact ⟨hh,hpast,sb,hcap,h1,h2⟩
 have hokN:metOk m.m→∀ x:Int,1≤x→x≤9→(hasB m.perm.owner m.perm.rd.xs m.perm.gr.xs x=true↔x∈sb.map SBox.place):=fun h=>by
  obtain ⟨-,-,sb',h3,h4,h5⟩:=h;have:=hcap.uniq h3;subst this;exact hiff.1 ⟨h4,h5⟩
 refine J11 ?_;intro a S;refine c_forb2 S (fun(n:Nat) (k2:Nat) uu=>[(2,uu 2),(4,.int .i64 (k2:Nat)),(0,.int .i64 (n:Nat)),(0,uu 9),(0,uu 10),(57,uu 68),(0,uu 69),(0,uu 70),(0,uu 71),(0,uu 72),(0,uu 73),(0,uu 74),(0,uu 75),(0,uu 76),(0,uu 77),(0,uu 78),(0,uu 79),(0,uu 80),(0,uu 81),(0,uu 82),(0,uu 83),(0,uu 84),(0,uu 85),(0,uu 86),(0,uu 87),(0,uu 88),(0,uu 89),(0,uu 90),(0,uu 91),(0,uu 92),(0,uu 93),(0,uu 94),(0,uu 95),(0,uu 96),(0,uu 97),(0,uu 98),(0,uu 99),(0,uu 100),(0,uu 101),(0,uu 102),(0,uu 103),(0,uu 104),(0,uu 105),(0,uu 106),(0,uu 107),(0,uu 108),(0,uu 109),(0,uu 110),(0,uu 111),(0,uu 112),(0,uu 113),(0,uu 114),(0,uu 115),(0,uu 116),(0,uu 117)]) (fun(n:Nat) (k2:Nat)=>1≤n∧n≤10∧k2≤(sb.map SBox.place).length∧(∀ j,j < k2→nthG (sb.map SBox.place) j < n)∧(∀ j,k2≤j→j < (sb.map SBox.place).length→n≤nthG (sb.map SBox.place) j)∧∀ x:Int,1≤x→x < n→(hasB m.perm.owner m.perm.rd.xs m.perm.gr.xs x=true↔x∈sb.map SBox.place)) (fun(n:Nat) (k2:Nat)=>10 - n) (1) (0) ?_ S.uu ?_ ?_;exact ⟨Nat.le_refl _,by omega,Nat.zero_le _,fun j hj=>by omega,fun j _ hj=>by
   have:=nthG_mem hj;obtain ⟨b,hb,hx⟩:=List.mem_map.1 this;have:=(place_rng (hcap.2.2.1 b hb)).1;rw[←hx];exact this,fun x h1 h2=>by omega⟩
 first | exact S | exact S.sub _ _
 clear S;rintro n k2 uu a w ⟨hn1,hn10,hk2,hlo,hhi,hrel2⟩ S;refine J7 ?_;intro a S;refine kC S (fun h13=>?_) (fun h13=>?_);refine kK (xtn (kS (kB (kS ?_))));have hn9:n≤9:=by simp at h13;omega
 have hCk:CLt [decide ((k2:Int) < ((sb.map SBox.place).length:Nat))] k2 (sb.map SBox.place).length:=⟨fun h=>by have:=h _ (List.mem_singleton_self _);simp at this;simp;omega⟩;have hthere:(decide ((k2:Int) < ((sb.map SBox.place).length:Nat))&&decide (nthG (sb.map SBox.place) k2=n))=decide ((n:Int)∈sb.map SBox.place):=by
  rw[Bool.eq_iff_iff];simp only[Bool.and_eq_true,decide_eq_true_eq];constructor;rintro ⟨q1,q2⟩;have:=nthG_mem (xs:=sb.map SBox.place) (k:=k2) (by omega)
  rwa [q2]at this
  intro hm;obtain ⟨j,hj⟩:=List.getElem?_of_mem hm;obtain ⟨hjl,hje⟩:=List.getElem?_eq_some_iff.1 hj;rw[←nthG_val hjl]at hje;have hkj:k2≤j:=Classical.byContradiction fun h=>by have:=hlo j (by omega);omega
  have h2:=hhi k2 (Nat.le_refl _) (by omega);rcases Nat.lt_or_ge k2 j with h | h
  have h3:=List.pairwise_iff_getElem.1 hpr k2 j (by omega) hjl h;rw[←nthG_val hjl,←nthG_val (by omega:k2 < (sb.map SBox.place).length)]at h3;omega;obtain rfl:j=k2:=by omega
  exact ⟨by omega,hje⟩
 refine Y20 ?_;intro a w S;refine J6 ?_;intro a S;rw[w6 ((n:Int) - 6)]at S;refine Y20 ?_;intro a w S;rw[hthere]at S;refine J11 ?_;intro a S;refine kC S (fun h17=>?_) (fun h17=>?_);refine J12 ?_;intro a S;refine end1 S (fun _=>⟨false,rfl,nofun,fun h=>?_⟩);have h2:=hokN h n (by omega) (by omega);have h3:hasB m.perm.owner m.perm.rd.xs m.perm.gr.xs n=decide ((n:Int)∈sb.map SBox.place):=by
  rw[Bool.eq_iff_iff,h2,decide_eq_true_eq]
 rw[show (decide ((n:Int)≤6)&&(decide ((n:Int)=m.perm.owner)||decide ((n:Int)∈m.perm.rd.xs))||decide (6 < (n:Int))&&decide ((n:Int) - 6∈m.perm.gr.xs))=hasB m.perm.owner m.perm.rd.xs m.perm.gr.xs n from rfl,h3]at h17;simp at h17;refine kK (xtn (kS ?_));have h3:hasB m.perm.owner m.perm.rd.xs m.perm.gr.xs n=decide ((n:Int)∈sb.map SBox.place):=by
  rw[show (decide ((n:Int)≤6)&&(decide ((n:Int)=m.perm.owner)||decide ((n:Int)∈m.perm.rd.xs))||decide (6 < (n:Int))&&decide ((n:Int) - 6∈m.perm.gr.xs))=hasB m.perm.owner m.perm.rd.xs m.perm.gr.xs n from rfl]at h17;simpa using h17
 have hrel3:∀ x:Int,1≤x→x < (n:Int)+1→(hasB m.perm.owner m.perm.rd.xs m.perm.gr.xs x=true↔x∈sb.map SBox.place):=fun x h1 h2=>by
  by_cases hx:x < n
  exact hrel2 x h1 hx;obtain rfl:x=n:=by omega
  rw[h3,decide_eq_true_eq]
 refine J4 ?_;intro a S;refine kC S (fun h19=>?_) (fun h19=>?_);refine J3 ?_;intro a S;rw[w6 ((k2:Int)+1),show (k2:Int)+1=((k2+1:Nat):Int) from rfl]at S;refine J7 ?_;intro a S;rw[w6 ((n:Int)+1),show (n:Int)+1=((n+1:Nat):Int) from rfl]at S;refine J3 ?_;intro a S;have hnm:(n:Int)∈sb.map SBox.place:=of_decide_eq_true h19;have hkn:=hthere;rw[decide_eq_true hnm]at hkn;simp only[Bool.and_eq_true,decide_eq_true_eq]at hkn;refine ⟨n+1,k2+1,S.uu,⟨by omega,by omega,by omega,fun j hj=>?_,fun j h1 h2=>?_,fun x h1 h2=>hrel3 x h1 (by omega)⟩,S.sub _ _,by omega⟩;rcases Nat.lt_or_ge j k2 with h | h
 have:=hlo j h;omega;obtain rfl:j=k2:=by omega
 omega;have h4:=List.pairwise_iff_getElem.1 hpr k2 j (by omega) h2 (by omega);rw[←nthG_val h2,←nthG_val (by omega:k2 < (sb.map SBox.place).length)]at h4;omega;refine J6 ?_;intro a S;rw[w6 ((n:Int)+1),show (n:Int)+1=((n+1:Nat):Int) from rfl]at S;refine J3 ?_;intro a S;have hnm:(n:Int) ∉ sb.map SBox.place:=of_decide_eq_false h19;refine ⟨n+1,k2,S.uu,⟨by omega,by omega,hk2,fun j hj=>by have:=hlo j hj;omega,fun j h1 h2=>?_,fun x h1 h2=>hrel3 x h1 (by omega)⟩,S.sub _ _,by omega⟩;have h4:=hhi j h1 h2;have h5:nthG (sb.map SBox.place) j≠n:=fun h=>hnm (h▸nthG_mem h2)
 omega;refine J11 ?_;intro a S;have hn:n=10:=by simp at h13;omega
 refine end1 S (fun _=>⟨true,rfl,fun _=>hokM fun x h1 h2=>hrel2 x h1 (by omega),fun _=>rfl⟩)
end Go.Proofs.YtibkkbknnfehlaaGreatDoor
namespace Go.Wk
open Go
section
variable {P:Program}{r:Option Nat}{ops:Array Oper}{Q:Exit→Act→World→Prop}{w0:World}{M0:Nat→Prop}{ds:List Deferred}{a:Act}{w:World}{l:List Value}{bs bs':List Item}{fs:List (World→Prop)}
 {d:Option Nat} {op:Op} {ty:TypeId} {pos:String} {af:Array Edge} {rest:List Oper} {v:Value} {t e:TypeId} {sz by_ c:Nat} {z:Value} {xs:List Value} {x y:Operand}
end
def mpn (b:Nat)(kv:List (Int × Value)):Item where
 foot:=fun k=>k=b
 holds:=fun w=>∃ es clock,w.heap[b]? = some (.map es clock)∧ents es=(kv.map fun x=>((.int .i64 x.1),x.2))∧(∀ e∈es.toList,e.born < clock)∧(es.toList.map (·.born)).Nodup
class HasMpn (bs:List Item)(b:Nat)(kv:outParam (List (Int × Value))):Prop where mem:mpn b kv∈bs
def MpnF (b:Nat)(kv:List (Int × Value)):World→Prop:=(mpn b kv).holds
class HasMpnF (fs:List (World→Prop))(b:Nat)(kv:outParam (List (Int × Value))):Prop where mem:MpnF b kv∈fs
class KiOf (bs:List Item)(fs:List (World→Prop))(b:Nat)(kv:outParam (List (Int × Value))):Prop where of:∀ w,Mem w bs fs→(mpn b kv).holds w
section
variable {P:Program}{r:Option Nat}{ops:Array Oper}{Q:Exit→Act→World→Prop}{w0:World}{M0:Nat→Prop}{ds:List Deferred}{a:Act}{w:World}{l l':List Value}{bs bs':List Item}{fs:List (World→Prop)}
 {d:Option Nat} {op:Op} {t ty:TypeId} {pos:String} {af:Array Edge} {rest:List Oper} {v z:Value} {e kt et:TypeId} {sz by_ b:Nat} {x y u:Operand} {lc:Cx} {k:Int} {kv:List (Int × Value)}
end
section
variable {P:Program}{ty t t':TypeId}{l:Cx}{bs:List Item}{fs:List (World→Prop)}{x y:Operand}{e:TypeId}
end
structure Blk where
 l:List UInt8
 h:l.length=64
deriving DecidableEq
abbrev Blk.cells (b:Blk):List Value:=encL b.l
theorem Blk.len (b:Blk):(encL b.l).length=64:=by rw[encL_len,b.h];rfl
instance encBlk:Enc Blk:=⟨64,fun b=>encL b.l,Blk.len,fun b u hu=>encL_one b.l u hu⟩
def u32s (l:List Int):List Value:=l.map (Value.int .u32)
instance (priority:=1100) addnZ {b:Nat} : AddN 0 b b:=⟨Nat.zero_add b⟩
section
variable {P:Program}{ty t t':TypeId}{l:Cx}{bs:List Item}{fs:List (World→Prop)}{x y:Operand}{e n k j:Nat}{kk kl:IntKind}{m i:Int}{xs:List Int}{z:Value}{by_:Nat}
end
def bxk (b:Nat)(T:TypeId)(l:List Int)(k:Nat):Item where
 foot:=fun i=>i=b
 holds:=fun w=>∃ v,w.heap[b]? = some (.cells (u32s (l.set k v)).toArray T (0,0))
class HasBxk (bs:List Item)(b:Nat)(T:outParam TypeId)(l:outParam (List Int))(k:outParam Nat):Prop where mem:bxk b T l k∈bs
class NeK (j k:Nat):Prop where ne:j≠k
section
variable {P:Program}{r:Option Nat}{ops:Array Oper}{Q:Exit→Act→World→Prop}{w0:World}{M0:Nat→Prop}{ds:List Deferred}{a:Act}{w:World}{l l':List Value}{bs bs':List Item}{fs:List (World→Prop)}
 {d:Option Nat} {ty t:TypeId} {pos:String} {af:Array Edge} {rest:List Oper} {x y:Operand} {z:Value} {by_ b k j:Nat} {T:TypeId} {xs:List Int}
end
section
variable {P:Program}{r:Option Nat}{Q:Exit→Act→World→Prop}{w0:World}{M0:Nat→Prop}{ds:List Deferred}{a:Act}{w:World}{l:List Value}{bs:List Item}{fs:List (World→Prop)}
end
section
variable {P:Program}{r:Option Nat}{ops:Array Oper}{Q:Exit→Act→World→Prop}{w0:World}{M0:Nat→Prop}{ds:List Deferred}{a:Act}{w:World}{l:List Value}{bs:List Item}{fs:List (World→Prop)}
 {d:Option Nat} {ty t e:TypeId} {pos:String} {af:Array Edge} {rest:List Oper} {x y:Operand} {by_ c:Nat} {xs:List Value}
end
def BlkF (ad:Addr)(b:Blk):World→Prop:=fun w=>∀ j v,(encL b.l)[j]? = some v→w.cell? (ad.add j)=some v
class HasBlkF (fs:List (World→Prop))(ad:Addr)(b:outParam Blk):Prop where mem:BlkF ad b∈fs
section
variable {P:Program}{ty t:TypeId}{lc:Cx}{bs:List Item}{fs:List (World→Prop)}{x:Operand}{ad:Addr}{z:Value}{by_:Nat}{b:Blk}
end
instance (priority:=1100) repl1 {zs:List Value} : RepL 1 zs zs:=⟨by simp⟩
section
variable {P:Program}{r:Option Nat}{ops:Array Oper}{Q:Exit→Act→World→Prop}{w0:World}{M0:Nat→Prop}{ds:List Deferred}{a:Act}{w:World}{l:List Value}{bs:List Item}{fs:List (World→Prop)}
 {d:Option Nat} {ty t tx e:TypeId} {pos:String} {af:Array Edge} {rest:List Oper} {x y:Operand} {by_ c sz m:Nat} {z:Value}
end
class EqG (P:Program)(t:TypeId):Prop where eq:P.eqGuardType P.depth t=false
section
variable {P:Program}{r:Option Nat}{ops:Array Oper}{Q:Exit→Act→World→Prop}{w0:World}{M0:Nat→Prop}{ds:List Deferred}{a:Act}{w:World}{l:List Value}{bs bs':List Item}{fs:List (World→Prop)}
 {d:Option Nat} {ty:TypeId} {pos:String} {af:Array Edge} {rest:List Oper} {f:Nat} {x:Operand} {ts:Array TypeId} {e:Exit}
variable {fn:Func}{R:Value→World→Prop}
end
section
variable {P:Program}{ops:Array Oper}{md:Region.Mode}{C:World→Prop}
variable {R:Act→World→Prop}
variable {r:Option Nat}{Q:Exit→Act→World→Prop}{w0:World}{M0:Nat→Prop}{ds:List Deferred}{a:Act}{w:World}{l l':List Value}{bs bs' bs0:List Item}{fs fs0:List (World→Prop)}
 {d:Option Nat} {op:Op} {ty:TypeId} {pos:String} {af:Array Edge} {rest:List Oper} {v v' G:Value} {j g:Nat} {pol:Bool} {cs:List Bool} {n:Nat} {listed:Array Bool}
def feeds (ops:Array Oper)(last i:Nat):Bool:=(!Nat.beq i last)&&(match ops[last]? with | some o=>o.after.toList.any fun e=>Region.binds .any e&&Nat.beq e.on i | none=>false)
theorem feeds_spec {ops:Array Oper}{last i:Nat}(h:feeds ops last i=true):i≠last∧∀ o,ops[last]? = some o→∃ e∈o.after,Region.binds .any e=true∧e.on=i:=by
 simp only[feeds,Bool.and_eq_true,Bool.not_eq_true']at h;refine ⟨fun e=>(by rw[e,Nat.beq_refl]at h;cases h.1),fun o ho=>?_⟩;rw[ho]at h;obtain ⟨e,he,h2⟩:=List.any_eq_true.1 h.2;simp only[Bool.and_eq_true]at h2;exact ⟨e,by simpa using he,h2.1,Nat.eq_of_beq_eq_true h2.2⟩
def flowFromL (last:Nat)(ops:Array Oper):List (Nat × Bool)→Array Bool→Bool
 | [],listed=>(Region.ready .any ops listed).isEmpty
 | (i,true)::ord,listed=>(((Region.ready .any ops listed).contains i&&Region.free .any ops listed i)&&feeds ops last i)&&flowFromL last ops ord (listed.setIfInBounds i true)
 | (i,false)::ord,listed=>(match Region.ready .any ops listed with | [j]=>Nat.beq j i | _=>false)&&flowFromL last ops ord (listed.setIfInBounds i true)
variable {ord:List (Nat × Bool)}{i last:Nat}
end
open Go Go.Deep Go.ChangeShapes Go.WideShapes Go.ChangeAt Go.RowKit
class TroZ (P:Program)(T:TypeId)(α:Type)[Lay α](Z:outParam (α→Prop)):Prop where
 of:∀ {H:Type} (enc:TypeId × Value→H) (w:World) (base:Nat) (spare:Nat→Bool) (held:Bool) (fuel:Nat) (cs:List Value) (x:DataW H × List MemPlace),DataW.trod enc P w base spare held fuel T cs=some x→∃ a:α,cs=Enc.cells a∧Lay.inn w a∧((∀ n∈x.1.weights P T,n≤reachBytes)→Z a)
 size:P.cellsOf T=Enc.sz α
def kvI (x:Int × Value):Value × Value:=(.int .i64 x.1,x.2)
def mpin (b r:Nat)(kv done:List (Int × Value)):Item where
 foot:=fun k=>k=b∨k=r
 holds:=fun w=>∃ (es:Array MapEntry) (clock:Nat) (ds:List MapEntry),w.heap[b]? = some (.map es clock)∧es.toList.map enKV=kv.map kvI∧(∀ e∈es.toList,e.born < clock)∧(es.toList.map (·.born)).Nodup∧
  w.heap[r]? = some (.mapIter (some b) clock (ds.map (·.born)).toArray clock)∧(∀ e∈ds,e∈es.toList)∧(ds.map (·.born)).Nodup∧ds.map enKV=done.map kvI
class HasMpin (bs:List Item)(r:Nat)(b:outParam Nat)(kv done:outParam (List (Int × Value))):Prop where mem:mpin b r kv done∈bs
class HasMpinnB (bs:List Item)(b:Nat)(kv:outParam (List (Int × Value))):Prop where mem:∃ r done,mpin b r kv done∈bs
section
variable {P:Program}{r0:Option Nat}{ops:Array Oper}{Q:Exit→Act→World→Prop}{w0:World}{M0:Nat→Prop}{ds:List Deferred}{a:Act}{w:World}{l:List Value}{bs:List Item}{fs:List (World→Prop)}
 {d:Option Nat} {op:Op} {ty:TypeId} {pos:String} {af:Array Edge} {rest:List Oper} {t kt et:TypeId} {x:Operand} {b:Nat} {kv:List (Int × Value)}
end
section
variable {P:Program}{ops:Array Oper}{C:World→Prop}{X:XP}
def ACXL (last:Nat)(P:Program)(ops:Array Oper)(X:XP)(C:World→Prop)(R:Act→World→Prop):Nat→Array Bool→Act→World→Prop
 | 0,listed,a,w=>Region.ready .any ops listed=[]∧R a w
 | fuel+1,listed,a,w=>
  (Region.ready .any ops listed=[]→R a w)∧
  ∀ i∈Region.ready .any ops listed,WNX P ops X i (fun a' w'=>(i≠last→C w')∧ACXL last P ops X C R fuel (listed.setIfInBounds i true) a' w') a w
variable {R:Act→World→Prop}
theorem acxl_first {last i:Nat}{oi:Oper}{v:Value}(hi:ops[i]? = some oi)(hoff:X.off oi)(hsel:∀ (j:Nat) (o:Oper) cs b,ops[j]? = some o→o.op≠.select cs b) :
  (i≠last∧∀ o,ops[last]? = some o→∃ e∈o.after,Region.binds .any e=true∧e.on=i)→∀ (fuel:Nat) (listed:Array Bool) (a:Act) (w:World),
   (∀ j oj,ops[j]? = some oj→j≠i→listed.getD j true=false→(∀ e∈oj.after,Region.binds .any e=true→e.on≠i)→oi.apart ops oj=true)→
   i∈Region.ready .any ops listed→YieldsC P ops C oi v a→C w→
   ACXL last P ops X C R fuel (listed.setIfInBounds i true) (a.put oi.dst v) w→ACXL last P ops X C R (fuel+1) listed a w:=by
 intro hlast fuel
 induction fuel with
 | zero=>
  intro listed a w _ hr hy hS H;refine ⟨fun h=>(by rw[h]at hr;cases hr),fun j hj=>?_⟩
  by_cases hji:j=i
  ·subst hji;exact hy.wnx hi hS ⟨fun _=>hS,H⟩
  ·have:=ready_mono hj hji
   rw[H.1]at this;cases this
 | succ fuel ih=>
  intro listed a w hfree hr hy hS H;refine ⟨fun h=>(by rw[h]at hr;cases hr),fun j hj=>?_⟩
  by_cases hji:j=i
  ·subst hji;exact hy.wnx hi hS ⟨fun _=>hS,H⟩
  ·have h1:=H.2 j (ready_mono hj hji)
   obtain ⟨hjun,oj,hoj,hall⟩:=mem_ready.1 hj;have hnot:∀ e∈oj.after,Region.binds .any e=true→e.on≠i:=fun e he hb heq=>by
    have h1:=hall e he hb;have h0:=(mem_ready.1 hr).1;rw[heq]at h1;rcases Nat.lt_or_ge i listed.size with h' | h'
    ·simp[h']at h0 h1;rw[h0]at h1;cases h1
    ·simp[Array.getElem?_eq_none h']at h1
   have hjl:j≠last:=fun e=>by
    obtain ⟨e',he',hb',ho'⟩:=hlast.2 oj (e▸hoj);exact hnot e' he' hb' ho'
   have h2:=wnx_put hoj (hfree j oj hoj hji hjun hnot) hoff (fun cs b=>hsel i oi cs b hi) (fun cs b=>hsel j oj cs b hoj) hy h1;have hfree':∀ k ok,ops[k]? = some ok→k≠i→(listed.setIfInBounds j true).getD k true=false→
     (∀ e∈ok.after,Region.binds .any e=true→e.on≠i)→oi.apart ops ok=true:=fun k ok hk hki hun hno=>by
    refine hfree k ok hk hki ?_ hno
    by_cases hjk:j=k
    ·subst hjk;exact hjun
    ·rw[getD_set_ne true hjk]at hun;exact hun
   refine wpOpIn_mono (fun a' w' h3=>⟨h3.2.1,ih (listed.setIfInBounds j true) a' w' hfree' (ready_mono hr (Ne.symm hji)) h3.1 (h3.2.1 hjl) ?_⟩) h2;rw[Array.setIfInBounds_comm _ _ hji];exact h3.2.2
variable {r:Option Nat}{Q:Exit→Act→World→Prop}{w0:World}{M0:Nat→Prop}{ds:List Deferred}{a:Act}{w:World}{l l':List Value}{bs bs' bs0:List Item}{fs fs0:List (World→Prop)}
 {d:Option Nat} {op:Op} {ty:TypeId} {pos:String} {af:Array Edge} {rest:List Oper} {v v' G:Value} {j g:Nat} {pol:Bool} {cs:List Bool} {n last:Nat} {listed:Array Bool}
def AQXL (last:Nat)(P:Program)(ops:Array Oper)(X:XP)(C:World→Prop)(R:Act→World→Prop)(ord:List (Nat × Bool))(a:Act)(w:World):Prop:=
 ∀ listed,Region.noSelect ops=true→X.offB ops=true→flowFromL last ops ord listed=true→ACXL last P ops X C R ord.length listed a w
variable {ord:List (Nat × Bool)}{i:Nat}
theorem dqXL (S:St w0 M0 ds a w l bs fs)[hb:SubL bs0 bs][hf:SubL fs0 fs][ho:OpAt ops i ⟨d,op,ty,pos,af,none⟩][hq:OpQ P op ty ⟨[],l⟩ bs0 fs0 v][hp:PutO l d v l']
  (K:∀ a,St w0 M0 ds a w l' bs fs→AQXL last P ops X (fun w=>Wd w0 M0 w bs0 fs0) R ord a w) :
  AQXL last P ops X (fun w=>Wd w0 M0 w bs0 fs0) R ((i,true)::ord) a w:=by
 intro listed hs hx hflow;simp only[flowFromL,Bool.and_eq_true]at hflow;refine acxl_first ho.eq (XP.offB_spec hx ho.eq) (Region.noSelect_spec hs) (feeds_spec hflow.1.2) _ listed a w (Region.free_spec ho.eq hflow.1.1.2) (by simpa using hflow.1.1.1) (v:=v) (.inl ⟨rfl,fun w' hw'=>?_⟩) (S.wd.sub hb.sub hf.sub) (K _ S.put _ hs hx hflow.2);rw[execOp_eq];exact hq.run a.eval w' S.fr hw'.mem
theorem dlXL {o:Oper}{C:World→Prop}[ho:OpAt ops i o](h:WL P none ops (fun e a' w'=>(e=.normal∧(i≠last→C w')∧AQXL last P ops X C R ord a' w')∨X.at e a' w') [o] a w):AQXL last P ops X C R ((i,false)::ord) a w:=by
 intro listed hs hx hflow;simp only[flowFromL,Bool.and_eq_true]at hflow;have hr:Region.ready .any ops listed=[i]:=by
  have:=hflow.1;split at this
  ·rename_i k hk;rw[hk,Nat.eq_of_beq_eq_true this]
  ·cases this
 refine ⟨fun h0=>(by rw[h0]at hr;cases hr),fun k hk=>?_⟩;rw[hr]at hk;obtain rfl:k=i:=by simpa using hk
 have nor:∀ {p:Prop} {a':Act} {w':World},((p∧(k≠last→C w')∧AQXL last P ops X C R ord a' w')∨X.at .normal a' w')→(k≠last→C w')∧ACXL last P ops X C R ord.length (listed.setIfInBounds k true) a' w':=by
  rintro p a' w' (⟨-,h1,h2⟩ | h)
  ·exact ⟨h1,h2 _ hs hx hflow.2⟩
  ·exact h.elim
 have pan:∀ {c:List PanicEntry} {a':Act} {w':World},((Exit.panic c=Exit.normal∧(k≠last→C w')∧AQXL last P ops X C R ord a' w')∨X.at (.panic c) a' w')→X.at (.panic c) a' w':=by
  rintro c a' w' (⟨h,-⟩ | h)
  ·cases h
  ·exact h
 unfold WNX wpOpIn;simp only[ho.eq];simp only[WL,wpListIn]at h;split
 ·rename_i hw
  rw[if_pos hw]at h;refine ⟨fun _ _=>trivial,?_⟩;have h:=h.2
  generalize (o.semAt (FW none).round a.eval).run P w=q at *
  cases q with
  | ok x w'=>
   cases x <;> simp only[Oper.uponIn]at h⊢
   case value u=>exact nor h
   case skip=>exact nor h
   case defer d=>exact nor h
   case enter f args=>
    refine ⟨h.1,CallsIn.mono h.2 fun e w'' he=>?_⟩;cases e with
    | returned u=>simp only[true_and]at he;exact nor (p:=True) (by simpa using he)
    | panicked c=>exact pan he
    | outgrown=>obtain ⟨_,_,he⟩:=he;rcases he with ⟨he,_⟩ | he <;> first | cases he | exact he.elim
   case row row args=>exact ⟨h.1,RowsIn.mono h.2 fun u w'' he=>nor he⟩
   case round l f tmps assign body=>
    refine ⟨h.1,RoundIn.mono h.2 fun e w'' he=>?_⟩;cases e with
    | returned u=>simp only[true_and]at he;exact nor (p:=True) (by simpa using he)
    | panicked c=>exact pan he
    | outgrown=>obtain ⟨_,_,he⟩:=he;rcases he with ⟨he,_⟩ | he <;> first | cases he | exact he.elim
  | halt x w'=>
   cases x <;> simp only[Oper.uponIn]at h⊢
   case panic u=>exact pan h
 ·rename_i hw
  rw[if_neg hw]at h;exact ⟨fun _ _=>trivial,nor h.2⟩
theorem deXL [hb:SubL bs0 bs][hf:SubL fs0 fs](S:St w0 M0 ds a w l bs fs)(h:AQXL last P ops X (fun w=>Wd w0 M0 w bs0 fs0) R ord a w):WL P none ops (fun e a' w'=>(e=.normal∧(i≠last→Wd w0 M0 w' bs0 fs0)∧AQXL last P ops X (fun w=>Wd w0 M0 w bs0 fs0) R ord a' w')∨X.at e a' w') [] a w:=
 kN (.inl ⟨rfl,fun _=>S.wd.sub hb.sub hf.sub,h⟩)
theorem dzXL {C:World→Prop}(h:R a w)(hr:∀ listed,Region.noSelect ops=true→flowFromL last ops [] listed=true→Region.ready .any ops listed=[]:=by intro listed _ h;simpa [flowFromL] using h):WL P none ops (fun e a' w'=>(e=.normal∧(last≠last→C w')∧AQXL last P ops X C R [] a' w')∨X.at e a' w') [] a w:=
 kN (.inl ⟨rfl,fun h=>absurd rfl h,fun listed hs _ hf=>⟨hr listed hs hf,h⟩⟩)
theorem any_of_acxl (hQ:∀ ch a w,X.at (.panic ch) a w→Q (.panic ch) a w)(hd:∀ (i:Nat) o,ops[i]? = some o→isDefer o.op=false):∀ (fuel:Nat) (listed:Array Bool) (a:Act) (w:World),ACXL last P ops X C (fun a w=>Q .normal a w) fuel listed a w→wpAnyIn (FW r) 0 P .any ops Q fuel listed a w
 | 0,_,_,_,h=>h
 | fuel+1,_,_,_,h=>⟨h.1,fun i hi=>wnx_round hQ hd (wpOpIn_mono (fun a' w' h'=>any_of_acxl hQ hd fuel _ a' w' h'.2) (h.2 i hi))⟩
theorem c_drawXL {id:Nat}{lo:List Oper}(last:Nat)(ord:List (Nat × Bool))(bs0:List Item)(X:XP)(S:St w0 M0 ds a w l bs fs)(hQ:∀ ch a w,X.at (.panic ch) a w→Q (.panic ch) a w)
  (h:∀ w,St w0 M0 ds a w l bs fs→AQXL last P lo.toArray X (fun w=>Wd w0 M0 w bs0 fs) (fun a w=>Q .normal a w) ord a w)
  (hm:P.follows .mixedOrders=true:=by kernel_rfl) (hx:X.offB lo.toArray=true:=by kernel_rfl) (hd:((lo.all fun o=>!isDefer o.op)&&(Nat.beq ord.length lo.length&&(Region.noSelect lo.toArray&&flowFromL last lo.toArray ord (Array.replicate lo.length false))))=true:=by kernel_rfl):Wp P r (.region id lo.toArray true) Q a w:=by
 simp only[Bool.and_eq_true]at hd;refine wpIn_region_any hm (any_of_acxl (last:=last) (C:=fun w=>Wd w0 M0 w bs0 fs) hQ (fun i o ho=>?_) _ _ _ _ ?_);have:=List.all_eq_true.1 hd.1 o (by
  rw[List.getElem?_toArray]at ho;exact List.mem_of_getElem? ho)
 simpa using this;have:=h { w with drawn:=w.drawn+1 } ⟨S.slots,S.defers,S.wd.step (Agree.drawn _ w _)⟩ _ hd.2.2.1 hx hd.2.2.2;rw[Nat.eq_of_beq_eq_true hd.2.1]at this;simpa using this
end
section
variable {P:Program}{r:Option Nat}{ops:Array Oper}{Q:Exit→Act→World→Prop}{w0:World}{M0:Nat→Prop}{ds:List Deferred}{a:Act}{w:World}{l:List Value}{bs bs':List Item}{fs:List (World→Prop)}
 {d:Option Nat} {ty:TypeId} {pos:String} {af:Array Edge} {rest:List Oper} {f:Nat} {x:Operand} {ys:List Operand} {args:List Value} {ts:Array TypeId}
theorem xtp {next:Act→World→Prop}{ch:List PanicEntry}(h:Q (.panic ch) a w):Exit.then next Q (.panic ch) a w:=h
theorem xbp {id:Nat}{ch:List PanicEntry}(h:Q (.panic ch) a w):Exit.inBlock id Q (.panic ch) a w:=h
abbrev noI:Item:=ext fun _=>False
theorem sitMP {l':Value→List Value}(it:Item)[EntF P f][CallTo ⟨[],l⟩ x ys f args][hp:∀ v,PutO l d v (l' v)](S:St w0 M0 ds a w l bs fs){R:Value→World→Prop}{X:List PanicEntry→World→Prop}(hc:RetP P f args w it.foot R X)(ho:it.own=true)
  (Kp:∀ ch w',X ch w'→(∀ {bs':List Item} [ReplI bs it noI bs'],St w0 M0 ds a w' l bs' fs)→Q (.panic ch) a w')
  (K:∀ v a w',R v w'→(∀ (y:Item) (fs2:List (World→Prop)) {fs3:List (World→Prop)} {bs':List Item} [AppL fs2 fs fs3] [ReplI bs it y bs'] [ItOk y],y.holds w'→(∀ k,y.foot k→it.foot k∨w.heap.size≤k)→(∀ Φ∈fs2,Stable (fun k=>y.foot k∨restOf bs it k) w' Φ)→St w0 M0 ds a w' (l' v) bs' fs3)→WL P r ops Q rest a w') :
  WL P r ops Q (⟨d,.call { callee:=.value x,args:=ys.toArray,argTypes:=ts },ty,pos,af,none⟩::rest) a w:=by
 have hap:=S.wd.apart;refine cv_anyP S hc ?_;rintro e w' (⟨v,rfl,ha,hR⟩ | ⟨ch,rfl,ha,hX⟩)
 ·have:=hp v
  have S':=S.put (d:=d) (v:=v);refine .inl ⟨v,rfl,K v _ w' hR fun y fs2 fs3 bs' happ hr oy hy hf hfs=>?_⟩;have hS:St w0 M0 ds (a.put d v) w' (l' v) bs' fs:=⟨S'.slots,S'.defers,by
   obtain ⟨pre,post,q1,q2⟩:=hr.ex;have hwd:=S'.wd;rw[q1]at hwd;rw[q2];exact hwd.swap ho ha hy hf (oy.lt w' hy) oy.loc⟩
  rw[←happ.eq];refine hS.addAll fs2 fun Φ hΦ=>(hfs Φ hΦ).less fun k _ hk=>?_
  obtain ⟨pre,post,rfl,rfl⟩:=hr.ex;obtain ⟨z,hz,hk⟩:=hk;have hp:=List.pairwise_append.1 hap;rcases List.mem_append.1 hz with hz | hz
  ·exact .inr ⟨⟨z,by simp[hz],hk⟩,hp.2.2 z hz it (by simp) k hk⟩
  ·rcases List.mem_cons.1 hz with rfl | hz
   ·exact .inl hk
   ·exact .inr ⟨⟨z,by simp[hz],hk⟩,fun hx=>(List.pairwise_cons.1 hp.2.1).1 z hz k hx hk⟩
 ·refine .inr ⟨ch,rfl,Kp ch w' hX fun {bs'} hr=>⟨S.slots,S.defers,?_⟩⟩
  obtain ⟨pre,post,q1,q2⟩:=hr.ex;have hwd:=S.wd;rw[q1]at hwd;rw[q2];exact hwd.swap ho ha trivial (fun _ h=>h.elim) (fun _ h=>h.elim) (fun _ _ _ _=>trivial)
end
end Go.Wk
namespace Go.Proofs.YtibkkbknnfehlaaGreatDoor
open Go Go.Wk
set_option synthInstance.maxSize 100000
set_option synthInstance.maxHeartbeats 400000
set_option maxRecDepth 100000
instance:StT Tryz.prog 52:=⟨⟨_,Tryz.underlying52⟩⟩
instance:IfT Tryz.prog 20:=⟨by kernel_rfl⟩
abbrev zMeta:List Value:=[str [],.int .i64 0,.int .i64 0,.int .i64 0,.slice none 0 0,.slice none 0 0,.slice none 0 0,.slice none 0 0,.int .i64 0,.int .i64 0,.int .i64 0,str [],.slice none 0 0]
abbrev wrongM:Value:=.iface 52 (.agg ⟨[]⟩)
theorem mneed_c (b:Bool)(w:World):RetP Tryz.prog 21 [.bool b] w (fun _=>False) (fun v _=>b=true) (fun ch _=>b=false∧ch=pch wrongM):=by
 refine E1 Tryz.func21 rfl Tryz.ntmps21 (Wd.start w) ?_;intro a S;refine J6 ?_;intro a S;refine kC S (fun h0=>?_) (fun h0=>?_);refine J3 ?_;intro a S;refine sPan S (fun S=>?_);exact endX S ⟨by simpa using h0,rfl⟩;refine kK ?_;refine endP (end0 S (fun _=>?_));simpa using h0
theorem mcatch_ret (p2 p3 p4:Value)(w:World):CallsDIn (FW none) 0 Tryz.prog 20 #[p2,p3,p4] .returning w fun e u' w'=>(∃ v,e=.returned v)∧u'=.returning∧Agree (fun _=>False) w w':=by
 refine callsD_catch Tryz.func20 rfl (l:=[p2,p3,p4,undef,undef,undef,undef,undef,undef,undef,undef,undef,undef,undef,undef,undef,undef,undef]) (args:=[p2,p3,p4]) rfl (Wd.start w) (.inl rfl) ?_;rintro x u' (⟨-,rfl,rfl⟩ | ⟨pv,h,-⟩) a S;refine J8 ?_;intro a S;exact ⟨.inl rfl,S.defers,.tuple #[],resC S,⟨_,rfl⟩,rfl,S.wd.agree⟩;cases h
theorem mcatch_pan (b2 b3 b4:Nat)(x0 x1 x2 x3 x4 x5 x6 x7 x8 x9 x10 x11 x12 y z:Value)(w0 w:World)(M0:Nat→Prop)(hw:Wd w0 M0 w [Wk.box b4 33 [z],Wk.box b3 3 [y],Wk.box b2 32 [x0,x1,x2,x3,x4,x5,x6,x7,x8,x9,x10,x11,x12]] []) :
  CallsDIn (FW none) 0 Tryz.prog 20 #[.pointer (some ⟨b2,0,none⟩),.pointer (some ⟨b3,0,none⟩),.pointer (some ⟨b4,0,none⟩)] (.panicking (pch wrongM)) w fun e u' w'=>(∃ v,e=.returned v)∧u'=.panicking [{ v:=wrongM,recovered:=true }]∧
   Wd w0 M0 w' [Wk.box b4 33 [.int .i64 251],Wk.box b3 3 [.int .i64 0],Wk.box b2 32 zMeta] []:=by
 refine callsD_catch Tryz.func20 rfl (l:=[.pointer (some ⟨b2,0,none⟩),.pointer (some ⟨b3,0,none⟩),.pointer (some ⟨b4,0,none⟩),undef,undef,undef,undef,undef,undef,undef,undef,undef,undef,undef,undef,undef,undef,undef]) (args:=[.pointer (some ⟨b2,0,none⟩),.pointer (some ⟨b3,0,none⟩),.pointer (some ⟨b4,0,none⟩)]) rfl hw (.inr ⟨_,rfl⟩) ?_;rintro x u' (⟨h,-⟩ | ⟨pv,h,rfl,rfl⟩) a S;cases h;obtain rfl:x=wrongM:=by injection h with h;injection h with h _;injection h with h;exact h.symm
 refine J15 ?_;intro a S;refine sa S ?_;intro b4 a w S;refine Y8 ?_;intro a w S;rw[show (!true)=false from rfl]at S;refine Y11 ?_;intro a w S;refine ⟨.inl rfl,S.defers,.tuple #[],resC S,⟨_,rfl⟩,rfl,?_⟩;exact (S.sub _ _).wd
abbrev mrI (b:Nat)(q:Option Addr)(c:Nat)(us:List LTerm):Wk.Item:=Wk.box b 62 [.slice q us.length c]
def NextR (b:Nat)(q:Option Addr)(us:List LTerm)(v:Value)(w:World):Prop:=∃ (x:LTerm) (us':List LTerm) (q':Option Addr) (c':Nat),us=x::us'∧v=vL x∧(mrI b q' c' us').holds w∧us'.length≤c'∧∀ w,LsF q 0 us w→LsF q' 0 us' w
theorem mnext_c (b:Nat)(q:Option Addr)(c:Nat)(us:List LTerm)(w0:World)(hc:us.length≤c)(hl:us.length≤1000000)(hd:(mrI b q c us).holds w0)(hf:Stable (mrI b q c us).foot w0 (LsF q 0 us)) :
  RetP Tryz.prog 23 [.pointer (some ⟨b,0,none⟩)] w0 (mrI b q c us).foot (fun v w'=>NextR b q us v w') (fun ch _=>ch=pch wrongM∧us=[]):=by
 refine E1 Tryz.func23 rfl Tryz.ntmps23 (Wd.itLent (x:=mrI b q c us) (fs:=[LsF q 0 us]) hd (by simpa using hf)) ?_;intro a S;refine kS (kR ?_);refine sa S ?_;intro b2 a w S;refine J10 ?_;intro a S;refine srP S (mneed_c _ _) (fun ch w' hx S=>?_) ?_
 ·obtain ⟨hb,rfl⟩:=hx
  repeat (first | refine xtp ?_ | refine xbp ?_)
  refine endX S ⟨rfl,?_⟩;have:¬0 < us.length:=by simpa using hb
  exact List.length_eq_zero_iff.1 (by omega)
 clear S;rintro _ a w hb S;have hpos:0 < us.length:=by simpa using hb
 have hK0:KLt 0 us.length:=⟨hpos⟩;have hLc:LeC us.length c:=⟨hc⟩;have hL1:LeC 1 us.length:=⟨hpos⟩;refine J10 ?_;intro a S;refine sa S ?_;intro b3 a w S;refine Y11 ?_;intro a w S;obtain ⟨q',hq'⟩:∃ q',q'=(if c=1 then q else Option.map (fun x=>x.add (1*5)) q):=⟨_,rfl⟩;rw[←hq',show us.length - 1=(us.drop 1).length from by rw[List.length_drop]]at S;refine Y12 ?_;intro a w S;have hb:=S.it (mrI b q' (c - 1) (us.drop 1));refine endP (end1 S (fun _=>?_));refine ⟨nthL us 0,us.drop 1,q',c - 1,?_,rfl,hb,by rw[List.length_drop];omega,fun w h=>?_⟩
 ·match us,hpos with
  | x::us,_=>rfl
 ·rw[hq']
  exact LsIn.cut h hc
theorem digT_inj {n m:Int}(hn:0≤n∧n≤65535)(hm:0≤m∧m≤65535)(h:digT n=digT m):n=m:=by
 rw[digT_pos hn.1,digT_pos hm.1]at h;simp only[textT,Term.mk.injEq]at h;have h1:=atoi_itoa hn;rw[h.2.2.2.1,atoi_itoa hm]at h1
 injection h1 with h1
 exact h1.symm
def NumberR (b:Nat)(q:Option Addr)(us:List LTerm)(v:Value)(w:World):Prop:=∃ (n:Int) (x:LTerm) (us':List LTerm) (q':Option Addr) (c':Nat),us=x::us'∧v=.int .i64 n∧(0≤n∧n≤9999)∧x.t=digT n∧(mrI b q' c' us').holds w∧us'.length≤c'∧∀ w,LsF q 0 us w→LsF q' 0 us' w
theorem mnum_c (b:Nat)(q:Option Addr)(c:Nat)(us:List LTerm)(w0:World)(hc:us.length≤c)(hl:us.length≤1000000)(hlen:∀ x∈us,x.text.length≤1000)(hlib:Stable (mrI b q c us).foot w0 LibF)(hd:(mrI b q c us).holds w0)(hf:Stable (mrI b q c us).foot w0 (LsF q 0 us)) :
  RetP Tryz.prog 25 [.pointer (some ⟨b,0,none⟩)] w0 (mrI b q c us).foot (fun v w'=>NumberR b q us v w') (fun ch _=>ch=pch wrongM∧∀ n x us',us=x::us'→0≤n∧n≤9999→x.t≠digT n):=by
 refine E1 Tryz.func25 rfl Tryz.ntmps25 (Wd.itLent (x:=mrI b q c us) (fs:=[LibF,LsF q 0 us]) hd (by simp;exact ⟨hlib,hf⟩)) ?_;intro a S;refine J8 ?_;intro a S;refine sitMP (mrI b q c us) S (mnext_c b q c us _ hc hl (S.it (mrI b q c us)) (S.lend (mrI b q c us) (S.mem.fact (LsF q 0 us)))) rfl (fun ch w' hx hS=>?_) ?_
 ·have S:=hS
  clear hS;obtain ⟨rfl,rfl⟩:=hx
  repeat (first | refine xtp ?_ | refine xbp ?_)
  refine endX S ⟨rfl,fun n x us' h=>by cases h⟩
 clear S;rintro _ a w ⟨x,us',q',c',rfl,rfl,hh,hc',hls⟩ hS;have S:=hS (mrI b q' c' us') [] hh (fun k h=>.inl h) (by simp);clear hS;have hxi:x.text.length≤1000:=hlen x (by simp);have hfx:Fx _ (LtF x):=(S.mem.fact0 (LsF q 0 (x::us'))).imp fun _ h=>(LsIn.get h (k:=0) rfl).2
 refine sr S (mnumber_c x 9999 hxi (by omega) _ (S.mem.fact0 LibF) hfx) ?_;clear S hfx;rintro _ a w ⟨n,b2,rfl,hn1,hn2⟩ S;refine J10 ?_;intro a S;refine srP S (mneed_c _ _) (fun ch w' hx S=>?_) ?_
 ·obtain ⟨hb,rfl⟩:=hx
  repeat (first | refine xtp ?_ | refine xbp ?_)
  refine endX S ⟨rfl,fun n x1 us1 h hr he=>?_⟩
  injection h with h1 h2
  subst h1;exact (hn2 hb).2 n hr.1 hr.2 (by rw[he,digT_pos hr.1])
 clear S;rintro _ a w hb S;obtain ⟨⟨hn3,hn4⟩,hn5⟩:=hn1 hb;refine J9 ?_;intro a S;have hbx:=S.it (mrI b q' c' us');refine endP (end1 S (fun _=>?_));exact ⟨n,x,us',q',c',rfl,rfl,⟨hn3,hn4⟩,by rw[hn5,digT_pos hn3],hbx,hc',hls⟩
theorem unlist3_c (t:LTerm)(M:Nat→Prop)(w0:World)(hM:∀ k,M k→k < w0.heap.size)(hf:Stable M w0 (LtF t)) :
  Ret Tryz.prog 56 [vL t] w0 (fun _=>False) fun v w'=>∃ (p:Option Addr) (c:Nat) (os:List LTerm) (b:Bool),v=.tuple ⟨[.slice p os.length c,.bool b]⟩∧os.length≤c∧Stable M w' (LsF p 0 os)∧os.length≤1200∧(b=true→Good t.t∧t.t=listT (os.map LTerm.t))∧(b=false→os=[]∧∀ l,t.t=listT l→¬Good t.t):=by
 refine E1 Tryz.func56 rfl Tryz.ntmps56 (Wd.beginM (M:=M) (fs:=[LtF t]) hM (by simpa using hf)) ?_;intro a S;refine kS (kR ?_);refine sa S ?_;intro b1 a w S;refine Y12 ?_;intro a w S;refine kC S (fun h1=>?_) (fun h1=>?_);refine J8 ?_;intro a S;have hb:¬Good t.t:=fun h=>h (by simpa using h1)
 refine end2 S (fun _=>?_);exact ⟨none,0,[],false,rfl,Nat.le_refl _,fun w' _=>by simp[LsF,LsIn],by simp,nofun,fun _=>⟨rfl,fun _ _=>hb⟩⟩;refine J9 ?_;intro a S;have hg:Good t.t:=by have h0:¬sizeF t.t=0:=(by simpa using h1);exact h0
 replace S:=(S.addNil 24 5);refine c_fore4 S (fun(x:LTerm) (os:List LTerm) (p':Option Addr) (c':Nat) uu=>[(4,.slice p' os.length c'),(3,uu 8),(0,uu 9),(0,uu 10),(0,uu 11),(0,uu 12),(0,uu 13),(0,uu 14),(0,uu 15),(0,uu 16),(0,uu 17),(0,uu 18),(0,uu 19),(0,uu 20),(0,uu 21)]) (fun(x:LTerm) (os:List LTerm) (p':Option Addr) (c':Nat)=>[Wk.row 24 5 p' os.length c' (encL os),Wk.box b1 24 x.cells,ext M]) (fun(x:LTerm) (os:List LTerm) (p':Option Addr) (c':Nat)=>[AllI os,LtF x]) (fun(x:LTerm) (os:List LTerm) (p':Option Addr) (c':Nat)=>Good x.t∧os.length+cnt x.t≤1200∧∀ l,t.t=listT l↔∃ l',l=os.map LTerm.t++l'∧x.t=listT l') (fun(x:LTerm) (os:List LTerm) (p':Option Addr) (c':Nat)=>cnt x.t) (t) ([]) (none) (0) ?_ S.uu ?_ ?_;exact ⟨hg,by simpa using good_le hg,fun l=>⟨fun h=>⟨l,rfl,h⟩,fun ⟨l',h1,h2⟩=>by rw[h1];exact h2⟩⟩;exact S.add (Φ:=AllI (α:=LTerm) []) AllI.nil;clear S;rintro x os p' c' uu a w ⟨hgx,hsz,hrel⟩ S;refine J8 ?_;intro a S;refine kC S (fun h4=>?_) (fun h4=>?_);refine kK (xtn (kB (kS ?_)));have hkind:x.kind=4:=by simpa using h4
 obtain ⟨hl2,hpr⟩:=good_pr hgx hkind;have hK0:KLt 0 x.kids.length:=⟨by omega⟩;have hK1:KLt 1 x.kids.length:=⟨by omega⟩;have hc:cnt x.t=1+(cnt (nthL x.kids 0).t+cnt (nthL x.kids 1).t):=by rw[hpr];simp[Term.pair,cnt,cntL]
 have hcp:=cnt_pos (nthL x.kids 0).t;refine J6 ?_;intro a S;refine sn S ?_;intro b16 a w S;refine sap S (by simp[maxLen];omega) (by omega) ?_;rintro p5 c5 a w - S;rw[show encL os++(nthL x.kids 0).cells=encL (os++[nthL x.kids 0]) from by rw[encL_append,encT_cells],show os.length+1=(os++[nthL x.kids 0]).length from by simp]at S;refine Y12 ?_;intro a w S;have h1:=S.wd.facts (AllI os) (by simp);have h2:=S.t (nthL x.kids 0);have h3:=S.t (nthL x.kids 1);replace S:=(S.add (Φ:=LtF (nthL x.kids 1)) h3).add (AllI.snoc h1 h2);have hg1:Good (nthL x.kids 1).t:=by rw[hpr]at hgx;exact good_kid hgx (by simp)
 refine ⟨nthL x.kids 1,os++[nthL x.kids 0],p5,c5,S.uu,⟨hg1,by simp only[List.length_append,List.length_singleton];omega,fun l=>?_⟩,S.sub _ _,by omega⟩;rw[hrel l];constructor;rintro ⟨l',e1,e2⟩;rw[hpr]at e2;cases l' with
 | nil=>simp[listT,Term.pair,textT]at e2
 | cons a l'=>
  simp only[listT,Term.pair,Term.mk.injEq,List.cons.injEq,and_true,true_and]at e2;exact ⟨l',by rw[e1,List.map_append,List.append_assoc,←e2.1];rfl,e2.2⟩
 rintro ⟨l',e1,e2⟩;exact ⟨(nthL x.kids 0).t::l',by rw[e1,List.map_append,List.append_assoc];rfl,by rw[hpr,e2];rfl⟩;refine kE (xte (xte (xbe (xtn (kS (kS ?_))))));have hkind:x.kind≠4:=by simpa using h4
 refine c_drawD [T9 0,F9 1,F9 2,T9 3] [] S ?_;intro w S;refine dq S ?_;intro a S;refine dl (sc S ?_);intro a w S;refine de S ?_;refine dl (sc S ?_);intro a w S;refine de S ?_;refine dq S ?_;intro a S;refine dn (xtn ?_);refine kC S (fun h7=>?_) (fun h7=>?_);refine J8 ?_;intro a S;have hne:x.t≠textT []:=fun e=>by
  have:sameF x.t (textL []).t=true:=(sameF_iff _ _).2 (by rw[e];rfl);simp[this]at h7
 refine end2 S (fun _=>?_);refine ⟨none,0,[],false,rfl,Nat.le_refl _,fun w' _=>by simp[LsF,LsIn],by simp,nofun,fun _=>⟨rfl,fun l h=>?_⟩⟩;obtain ⟨l',-,e⟩:=(hrel l).1 h;exact absurd ((listT_kind hkind l').1 e).2 hne;refine J10 ?_;intro a S;have hxe:x.t=textT []:=by
  have:sameF x.t (textL []).t=true:=by simpa using h7
  exact (sameF_iff _ _).1 this
 have hrow:=S.row p' os.length;have hnew:=S.rowNew p' os.length;have hall:=S.laterFact (Φ:=AllI os) (by simp);refine end2 S (fun _=>?_);refine ⟨p',c',os,true,rfl,own_le hrow,?_,by omega,fun _=>⟨hg,(hrel _).2 ⟨[],by simp,by rw[hxe];rfl⟩⟩,nofun⟩;exact (gl_own hrow hall (fun ad h hm=>(hnew ad h).elim (fun h=>h.elim) (fun h2=>by have:=hM _ hm;omega))).imp fun _ h=>gl_ls h
def ListR (M:Nat→Prop)(T:Term)(v:Value)(w0 w:World):Prop:=∃ (b:Nat) (q:Option Addr) (c:Nat) (us:List LTerm),v=.pointer (some ⟨b,0,none⟩)∧Grow w0 w∧w0.heap.size≤b∧(mrI b q c us).holds w∧Good T∧T=listT (us.map LTerm.t)∧us.length≤c∧us.length≤1200∧Stable (fun k=>k=b∨M k) w (LsF q 0 us)
theorem mlist_c (t:LTerm)(M:Nat→Prop)(w0:World)(hM:∀ k,M k→k < w0.heap.size)(hf:Stable M w0 (LtF t)) :
  RetP Tryz.prog 22 [vL t] w0 (fun _=>False) (fun v w'=>ListR M t.t v w0 w') (fun ch _=>ch=pch wrongM∧∀ l,t.t=listT l→¬Good t.t):=by
 refine E1 Tryz.func22 rfl Tryz.ntmps22 (Wd.beginM (M:=M) (fs:=[LtF t]) hM (by simpa using hf)) ?_;intro a S;refine kS (kR ?_);refine sa S ?_;intro b1 a w S;refine J6 ?_;intro a S;refine sr S (unlist3_c t _ w (foots_lt S) (S.t t)) ?_;rintro _ a w ⟨p,c,os,b0,rfl,hoc,hls,hol,hub1,hub2⟩ S;replace S:=S.add hls;refine J10 ?_;intro a S;refine srP S (mneed_c _ _) (fun ch w' hx S=>?_) ?_
 ·obtain ⟨hb,rfl⟩:=hx
  repeat (first | refine xtp ?_ | refine xbp ?_)
  exact endX S ⟨rfl,(hub2 hb).2⟩
 clear S;rintro _ a w hb S;obtain ⟨hg,htl⟩:=hub1 hb;refine J6 ?_;intro a S;refine sa S ?_;intro b14 a w S;refine J4 ?_;intro a S;have hbx:=S.it (mrI b14 p c os);have hbn:=S.boxNew b14;have hfl:Stable (fun k=>k=b14∨M k) _ (LsF p 0 os):=(S.wd.facts (LsF p 0 os) (by simp)).less fun k _ hk=>hk.elim (fun h=>⟨mrI b14 p c os,by simp,h⟩) (fun h=>⟨ext M,by simp,h⟩)
 have hgr:Grow w0 _:=S.wd.agree;refine endP (end1 S (fun _=>?_));exact ⟨b14,p,c,os,rfl,hgr,hbn.elim (fun h=>h.elim) id,hbx,hg,htl,hoc,hol,hfl⟩
theorem addNew {w0 wp w:World}{M0:Nat→Prop}{ds dp:List Deferred}{a ap:Act}{l lp:List Value}{bs:List Wk.Item}{fs:List (World→Prop)}(Sp:St w0 M0 dp ap wp lp bs fs)(S:St w0 M0 ds a w l bs fs)(hg:Grow wp w){y:Wk.Item}[oy:ItOk y](hy:y.holds w)(hn:∀ k,y.foot k→wp.heap.size≤k):St w0 M0 ds a w l (y::bs) fs:=by
 have hold:=Sp.wd;refine ⟨S.slots,S.defers,(hold.step hg).more hy (fun k hk=>Nat.le_trans hold.agree.size (hn k hk)) (oy.lt w hy) (fun it hi k hk hk'=>absurd (hold.lt it hi k hk') (by have:=hn k hk;omega)) (fun Φ hΦ w'' hw''=>?_) oy.loc⟩;refine hold.facts Φ hΦ w'' ((hg.mono (fun _ _ h=>h.elim)).trans' hw'' fun i hi ⟨it,hm,hk⟩=>?_);rcases List.mem_cons.1 hm with rfl | hm
 exact absurd (hn i hk) (by omega);exact ⟨it,hm,hk⟩
theorem good_lenM {x:LTerm}(h:Good x.t):x.text.length≤64:=by
 rw[x.t_eq]at h;have hp:=plain_shape (goodP h)
 by_cases hn:x.text=[]
 ·rw[hn];simp
 ·rcases hp with q | q | q | q | q | q | q
  ·exact q.2.2.2.1
  all_goals exact absurd (by first | exact q.2.2.2.1 | exact q.2.2.2.2.1 | exact q.2.2.2.2.2.1) hn
def NumsR (b:Nat)(q:Option Addr)(us:List LTerm)(Mr:Nat→Prop)(v:Value)(w:World):Prop:=∃ (l:List Int) (p:Option Addr) (cl:Nat) (x:LTerm) (us':List LTerm) (q':Option Addr) (c':Nat),us=x::us'∧v=.slice p l.length cl∧okI l∧x.t=numsT l∧l.length≤cl∧cl≤maxLen∧l.length≤1200∧(mrI b q' c' us').holds w∧us'.length≤c'∧(∀ w,LsF q 0 us w→LsF q' 0 us' w)∧Stable (fun k=>(mrI b q' c' us').foot k∨Mr k) w (GlF p l)
theorem mnums_c (b:Nat)(q:Option Addr)(c:Nat)(us:List LTerm)(Mr:Nat→Prop)(w0:World)(hc:us.length≤c)(hl:us.length≤1000000)(hMr:∀ k,Mr k→k < w0.heap.size∧¬(mrI b q c us).foot k)(hlib:Stable (fun k=>(mrI b q c us).foot k∨Mr k) w0 LibF)(hd:(mrI b q c us).holds w0)(hf:Stable (fun k=>(mrI b q c us).foot k∨Mr k) w0 (LsF q 0 us)) :
  RetP Tryz.prog 26 [.pointer (some ⟨b,0,none⟩)] w0 (mrI b q c us).foot (fun v w'=>NumsR b q us Mr v w') (fun ch _=>ch=pch wrongM∧∀ l x us',us=x::us'→okI l→Good x.t→x.t≠numsT l):=by
 refine E1 Tryz.func26 rfl Tryz.ntmps26 (Wd.itLentM (x:=mrI b q c us) (Mr:=Mr) (fs:=[LibF,LsF q 0 us]) hd hMr (by simp;exact ⟨hlib,hf⟩)) ?_;intro a S;refine J8 ?_;clear S;intro a S;refine sitMP (mrI b q c us) S (mnext_c b q c us _ hc hl (S.it (mrI b q c us)) (S.lend (mrI b q c us) (S.mem.fact (LsF q 0 us)))) rfl (fun ch w' hx hS=>?_) ?_
 ·have S:=hS
  clear hS;obtain ⟨rfl,rfl⟩:=hx
  repeat (first | refine xtp ?_ | refine xbp ?_)
  refine endX S ⟨rfl,fun l x us' h=>by cases h⟩
 clear S;rintro _ a w ⟨x,us',q',c',rfl,rfl,hh,hc',hls⟩ hS;have S:=hS (mrI b q' c' us') [] hh (fun k h=>.inl h) (by simp);clear hS;have hfx:Stable (foots _) _ (LtF x):=(S.mem.fact (LsF q 0 (x::us'))).imp fun _ h=>(LsIn.get h (k:=0) rfl).2
 have Sp:=S;refine srP S (mlist_c x _ w (foots_lt S) hfx) (fun ch w' hx S=>?_) ?_
 ·obtain ⟨rfl,hno⟩:=hx
  repeat (first | refine xtp ?_ | refine xbp ?_)
  refine endX S ⟨rfl,fun l x1 us1 h hok hg he=>?_⟩
  injection h with h1 h2
  subst h1;exact hno _ he hg
 clear S hfx;rintro _ a w ⟨b2,q2,c2,vs,rfl,hgr,hbn,hb2,hg,htl,hvc,hvl,hvs⟩ S;replace S:=addNew (y:=mrI b2 q2 c2 vs) Sp S hgr hb2 (fun k hk=>by obtain rfl:k=b2:=hk;exact hbn);clear Sp;replace S:=S.add (Φ:=LsF q2 0 vs) (hvs.less fun k _ ⟨it,hi,hk⟩=>by
  rcases List.mem_cons.1 hi with rfl | hi
  ·exact .inl hk
  ·exact .inr ⟨it,hi,hk⟩)
 have hgo:∀ y∈vs,Good y.t:=fun y hy=>list_good hg htl (List.mem_map.2 ⟨y,hy,rfl⟩)
 refine J10 ?_;clear S;intro a S;refine c_fore6 S (fun(l:List Int) (ys:List LTerm) (q3:Option Addr) (c3:Nat) (p:Option Addr) (cl:Nat) uu=>[(4,.slice p l.length cl),(3,uu 8),(0,uu 9),(0,uu 10),(0,uu 11),(0,uu 12),(0,uu 13),(0,uu 14),(0,uu 15),(0,uu 16),(0,uu 17),(0,uu 18)]) (fun(l:List Int) (ys:List LTerm) (q3:Option Addr) (c3:Nat) (p:Option Addr) (cl:Nat)=>[Wk.row 3 1 p l.length cl (encL l),mrI b2 q3 c3 ys,mrI b q' c' us',ext Mr]) (fun(l:List Int) (ys:List LTerm) (q3:Option Addr) (c3:Nat) (p:Option Addr) (cl:Nat)=>[LsF q3 0 ys,LibF]) (fun(l:List Int) (ys:List LTerm) (q3:Option Addr) (c3:Nat) (p:Option Addr) (cl:Nat)=>okI l∧vs.map LTerm.t=l.map digT++ys.map LTerm.t∧ys.length≤c3∧l.length+ys.length=vs.length∧∀ y∈ys,y∈vs) (fun(l:List Int) (ys:List LTerm) (q3:Option Addr) (c3:Nat) (p:Option Addr) (cl:Nat)=>ys.length) ([]) (vs) (q2) (c2) (none) (0) ?_ S.uu ?_ ?_
 ·exact ⟨nofun,rfl,hvc,by simp,fun y hy=>hy⟩
 ·replace S:=S.addNil 3 1
  rw[show Wk.row 3 1 none 0 0 []=Wk.row 3 1 none 0 0 (encL ([]:List Int)) from rfl]at S;exact S.sub _ _
 ·clear S;rintro l ys q3 c3 p cl uu a w ⟨hok,hmap,hyc,hyl,hyv⟩ S
  refine J11 ?_;clear S;intro a S;refine kC S (fun h3=>?_) (fun h3=>?_)
  ·refine kK (xtn (kB ?_))
   have hpos:0 < ys.length:=by simpa using h3
   refine J3 ?_;clear S;intro a S;refine sitMP (mrI b2 q3 c3 ys) S (mnum_c b2 q3 c3 ys _ hyc (by omega) (fun y hy=>by have:=good_lenM (hgo y (hyv y hy));omega) (S.lend (mrI b2 q3 c3 ys) (S.mem.fact LibF)) (S.it (mrI b2 q3 c3 ys)) (S.lend (mrI b2 q3 c3 ys) (S.mem.fact (LsF q3 0 ys)))) rfl (fun ch w' hx hS=>?_) ?_
   ·have S:=hS
    clear hS;obtain ⟨rfl,hno⟩:=hx
    repeat (first | refine xtp ?_ | refine xbp ?_)
    refine endX S ⟨rfl,fun l1 x1 us1 h hok1 hg1 he=>?_⟩
    injection h with h1 h2
    subst h1;rw[htl,numsT]at he;have he2:=listT_injM he
    match ys,hpos with
    | y::ys,_=>
     have hm:y.t∈l1.map digT:=by rw[←he2,hmap];simp
     obtain ⟨n,hn1,hn2⟩:=List.mem_map.1 hm;exact hno n y ys rfl (hok1 n hn1) hn2.symm
   clear S;rintro _ a w ⟨n,y,ys',q4,c4,rfl,rfl,hn,hy,hh,hc4,hls4⟩ hS;have S:=hS (mrI b2 q4 c4 ys') [] hh (fun k h=>.inl h) (by simp);clear hS;replace S:=S.add (Φ:=LsF q4 0 ys') ((S.mem.fact (LsF q3 0 (y::ys'))).imp fun w h=>hls4 w h);refine sn S ?_;clear S;intro b17 a w S;refine sap S (by simp[maxLen];omega) (by omega) ?_;clear S;rintro p4 c5 a w - S;rw[show encL l++[Value.int .i64 n]=encL (l++[n]) from by rw[encL_append];rfl,show l.length+1=(l++[n]).length from by simp]at S;refine J4 ?_;clear S;intro a S;refine ⟨l++[n],ys',q4,c4,p4,c5,S.uu,⟨fun z hz=>?_,by rw[hmap,List.map_append];simp[hy],hc4,by simp at hyl⊢;omega,fun z hz=>hyv z (by simp[hz])⟩,S.sub _ _,by simp⟩;rcases List.mem_append.1 hz with hz | hz
   ·exact hok z hz
   ·rw[List.mem_singleton.1 hz];exact hn
  ·refine J12 ?_;clear S;intro a S
   have hys:ys=[]:=by
    cases ys with
    | nil=>rfl
    | cons y ys=>simp at h3
   subst hys;have hle:=own_le (S.row p l.length);have hcm:=own_capM (S.row p l.length);replace S:=S.rowToGl p l (e:=3) (sz:=1) (n:=l.length) (c:=cl) (fun _ _ _ _=>trivial);have hbx:=S.it (mrI b q' c' us');have hfl:Stable (fun k=>(mrI b q' c' us').foot k∨Mr k) _ (GlF p l):=(S.wd.facts (GlF p l) (by simp)).less fun k _ hk=>hk.elim (fun h=>⟨mrI b q' c' us',by simp,h⟩) (fun h=>⟨ext Mr,by simp,h⟩)
   refine endP (end1 S (fun _=>?_));exact ⟨l,p,cl,x,us',q',c',rfl,rfl,hok,by rw[htl,hmap];simp[numsT],hle,hcm,by simp at hyl;omega,hbx,hc',hls,hfl⟩
def kindM:Term→Int | .mk k _ _ _ _=>k
theorem kindT_eq (t:LTerm):kindM t.t=t.kind:=by rw[t.t_eq];rfl
theorem text_inM (s:List UInt8)(w:World):LtIn w (textL s):=by simp[textL,LtIn,LsIn]
abbrev ptrM (b:Nat):Value:=.pointer (some ⟨b,0,none⟩)
abbrev defM (b2 b3 b4:Nat):Deferred:={ target:=.fn (.func 20) ⟨[ptrM b2,ptrM b3,ptrM b4]⟩,args:=#[] }
abbrev zMeta0:List Value:=[.string ⟨#[]⟩,.int .i64 0,.int .i64 0,.int .i64 0,.slice none 0 0,.slice none 0 0,.slice none 0 0,.slice none 0 0,.int .i64 0,.int .i64 0,.int .i64 0,.string ⟨#[]⟩,.slice none 0 0]
abbrev bxM (b2 b3 b4:Nat)(cs:List Value):List Wk.Item:=[Wk.box b4 33 [.int .i64 0],Wk.box b3 3 [.int .i64 0],Wk.box b2 32 cs]
abbrev zL:Sl Int:=⟨none,0,[]⟩
abbrev zM:LMeta:=⟨[],0,⟨0,0,zL,zL,zL⟩,⟨none,0,[]⟩,zeroL⟩
theorem zM_in (w:World):InF zM w:=⟨⟨⟨Nat.le_refl _,Nat.zero_le _,gl_nil⟩,⟨Nat.le_refl _,Nat.zero_le _,gl_nil⟩,⟨Nat.le_refl _,Nat.zero_le _,gl_nil⟩⟩,⟨Nat.le_refl _,Nat.zero_le _,gl_nil⟩,zeroL_in _⟩
theorem mread_pan {a:Act}{w0 w:World}{M0:Nat→Prop}{Rr:Ending→World→Prop}(b2 b3 b4:Nat)(x0 x1 x2 x3 x4 x5 x6 x7 x8 x9 x10 x11 x12 y z:Value)(hd:a.defers=[defM b2 b3 b4])(h2:a.tmps[2]? = some (ptrM b2))(h3:a.tmps[3]? = some (ptrM b3))(h4:a.tmps[4]? = some (ptrM b4))
  (hw:Wd w0 M0 w [Wk.box b4 33 [z],Wk.box b3 3 [y],Wk.box b2 32 [x0,x1,x2,x3,x4,x5,x6,x7,x8,x9,x10,x11,x12]] [])
  (hR:∀ w',Agree M0 w0 w'→Rr (.returned (.tuple ⟨[.agg ⟨zMeta⟩,.int .i64 0,.int .i64 251]⟩)) w'):bodyPostDIn (FW none) 0 Tryz.prog Tryz.f8 Rr (.panic (pch wrongM)) a w:=by
 refine leavePan (ca:=[ptrM b2,ptrM b3,ptrM b4]) hd (mcatch_pan b2 b3 b4 x0 x1 x2 x3 x4 x5 x6 x7 x8 x9 x10 x11 x12 y z w0 w M0 hw) fun w' hK=>⟨_,?_,hR w' hK.agree⟩
 have n2:Nth a.tmps.toList 2 (ptrM b2):=⟨by simpa using h2⟩;have n3:Nth a.tmps.toList 3 (ptrM b3):=⟨by simpa using h3⟩;have n4:Nth a.tmps.toList 4 (ptrM b4):=⟨by simpa using h4⟩;exact res3 (l:=a.tmps.toList) rfl hK.held
theorem map_cons_inv {us:List LTerm}{a:Term}{ts:List Term}(h:us.map LTerm.t=a::ts):∃ y ys,us=y::ys∧y.t=a∧ys.map LTerm.t=ts:=by
 cases us with
 | nil=>simp at h
 | cons y ys=>simp only[List.map_cons,List.cons.injEq]at h;exact ⟨y,ys,rfl,h.1,h.2⟩
theorem risF_ok {q:Int→Bool}(hq:∀ x,q x=true→0≤x∧x≤9999){l:List Int}(h:risF q none l=true):okI l:=fun x hx=>hq x ((risF_all q l none h).1 x hx)
theorem metOk_rng {m:Met}(h:metOk m):(1≤m.version∧m.version≤9999)∧(1≤m.owner∧m.owner≤6)∧(1≤m.epoch∧m.epoch≤8)∧okI m.rd∧okI m.wr∧okI m.gr∧(∀ l∈m.past,okI l)∧nameB m.name=true:=by
 obtain ⟨h1,h2,-⟩:=h;simp only[headM,permLM,Bool.and_eq_true]at h1;obtain ⟨⟨⟨⟨q0,q1⟩,q2⟩,q3⟩,_⟩:=h1;obtain ⟨⟨⟨⟨⟨⟨q4,q5⟩,q6⟩,q7⟩,q8⟩,q9⟩,_⟩:=q3;have hu:∀ (no x:Int),(okU x&&decide (x≠no))=true→0≤x∧x≤9999:=fun no x hx=>by
  simp only[okU,Bool.and_eq_true,decide_eq_true_eq]at hx;omega
 have ho:1≤m.owner∧m.owner≤6:=by
  simp only[okU,Bool.and_eq_true,decide_eq_true_eq]at q4;exact q4
 refine ⟨⟨of_decide_eq_true q1,of_decide_eq_true q2⟩,ho,⟨of_decide_eq_true q5,of_decide_eq_true q6⟩,risF_ok (hu _) q7,risF_ok (hu _) q8,risF_ok (fun x hx=>?_) q9,fun l hl=>risF_ok (hu m.owner) (h2 l hl),q0⟩;simp only[okG,Bool.and_eq_true,decide_eq_true_eq]at hx;omega
theorem numsT_inj:∀ {a b:List Int},okI a→okI b→numsT a=numsT b→a=b:=fun {a b} ha hb h=>by
 have h1:=listT_injM h;clear h
 induction a generalizing b with
 | nil=>cases b with
  | nil=>rfl
  | cons y ys=>simp at h1
 | cons x xs ih=>cases b with
  | nil=>simp at h1
  | cons y ys=>
   simp only[List.map_cons,List.cons.injEq]at h1;have k1:=ha x (by simp);have k2:=hb y (by simp);rw[digT_inj ⟨k1.1,by omega⟩ ⟨k2.1,by omega⟩ h1.1,ih (fun z hz=>ha z (by simp[hz])) (fun z hz=>hb z (by simp[hz])) h1.2]
theorem numsT_injL:∀ {a b:List (List Int)},(∀ l∈a,okI l)→(∀ l∈b,okI l)→a.map numsT=b.map numsT→a=b
 | [],[],_,_,_=>rfl
 | [],y::ys,_,_,h=>by simp at h
 | x::xs,[],_,_,h=>by simp at h
 | x::xs,y::ys,ha,hb,h=>by
  simp only[List.map_cons,List.cons.injEq]at h;rw[numsT_inj (ha x (by simp)) (hb y (by simp)) h.1,numsT_injL (fun l hl=>ha l (by simp[hl])) (fun l hl=>hb l (by simp[hl])) h.2]
theorem i64_ok {l:List Int}(h:okI l):I64s l:=fun x hx=>by have:=h x hx;omega
def MReadR (M:Nat→Prop)(T:Term)(v:Value)(w:World):Prop:=∃ (m:LMeta) (leaf e:Int),v=.tuple ⟨[vMeta m,.int .i64 leaf,.int .i64 e]⟩∧Stable M w (InF m)∧FitMeta m∧IntMeta m∧
 (e=0→metOk m.m∧T=metaT m.m leaf∧Good T)∧(e≠0→e=251∧leaf=0∧m=zM∧∀ m leaf,metOk m→T=metaT m leaf→¬Good T)
set_option maxHeartbeats 4000000 in
theorem mread_c (t:LTerm)(M:Nat→Prop)(w0:World)(hM:∀ k,M k→k < w0.heap.size)(ht:Stable M w0 LibF)(hf:Stable M w0 (LtF t)):Ret Tryz.prog 8 [vL t] w0 (fun _=>False) fun v w'=>MReadR M t.t v w':=by
 have hbad:∀ (w':World),(∀ m leaf,metOk m→t.t=metaT m leaf→¬Good t.t)→MReadR M t.t (.tuple ⟨[.agg ⟨zMeta⟩,.int .i64 0,.int .i64 251]⟩) w':=fun w' h=>⟨zM,0,251,rfl,fun w _=>zM_in w,⟨by simp,by simp,by simp,by simp,by simp,by simp⟩,⟨nofun,nofun,nofun,nofun⟩,nofun,fun _=>⟨rfl,rfl,rfl,h⟩⟩
 refine enterD Tryz.func8 rfl rfl (Wd.beginM (M:=M) (fs:=[LibF,LtF t]) hM (by simp;exact ⟨ht,hf⟩)) (fun a S=>?_);refine E0 Tryz.ntmps8 ?_;clear S;intro S;refine kS (kR ?_);refine sa S ?_;clear S;intro b1 a w S;refine sa S ?_;clear S;intro b2 a w S;refine sa S ?_;clear S;intro b3 a w S;refine sa S ?_;clear S;intro b4 a w S;refine kN (xtn (kS (kR (sq S ?_))));clear S;intro a S;refine sdef S ?_;clear S;intro a S;refine kN (xtn (kS (kR (sq S ?_))));clear S;intro a S;refine sc S ?_;clear S;intro a w S;(iterate 2 (refine sq S ?_;clear S;intro a S));(iterate 3 (refine gQ S ?_;clear S;intro a S));refine sq S ?_;clear S;intro a S;refine srP S (mneed_c _ _) (fun ch w' hx S=>?_) ?_
 ·obtain ⟨hb,rfl⟩:=hx
  refine mread_pan b2 b3 b4 _ _ _ _ _ _ _ _ _ _ _ _ _ _ _ S.defers (by rw[S.slots];rfl) (by rw[S.slots];rfl) (by rw[S.slots];rfl) (S.sub (bxM b2 b3 b4 zMeta0) []).wd (fun w' ha=>⟨_,rfl,ha,hbad w' fun m1 leaf1 hm1 he1 hg1=>?_⟩);have e1:t.kind=8:=by rw[←kindT_eq,he1];rfl
  rw[good_check.2 hg1,e1]at hb;simp at hb
 clear S;rintro _ a w hb S;have hg:Good t.t∧t.kind=8:=by
  have:checkF t.t=0∧t.kind=8:=by simpa using hb
  exact ⟨good_check.1 this.1,this.2⟩
 obtain ⟨hkl1,hst,hu1,hn1⟩:=good_signK hg.1 hg.2;have hK0:KLt 0 t.kids.length:=⟨by omega⟩;clear hb;refine J8 ?_;clear S;intro a S;have Sp:=S;refine srP S (mlist_c (nthL t.kids 0) _ w (foots_lt S) (S.t (nthL t.kids 0))) (fun ch w' hx S=>?_) ?_
 ·obtain ⟨rfl,hno⟩:=hx
  refine mread_pan b2 b3 b4 _ _ _ _ _ _ _ _ _ _ _ _ _ _ _ S.defers (by rw[S.slots];rfl) (by rw[S.slots];rfl) (by rw[S.slots];rfl) (S.sub (bxM b2 b3 b4 zMeta0) []).wd (fun w' ha=>⟨_,rfl,ha,hbad w' fun m1 leaf1 hm1 he1 hg1=>?_⟩);rw[hst,metaT,signT]at he1
  injection he1 with _ _ _ _ he2
  injection he2 with he2 _
  refine hno _ he2 ?_;have hg':=hg.1;rw[hst]at hg';exact good_kid hg' (by simp)
 clear S;rintro _ a w ⟨b22,q0,c0,us0,rfl,hgr,hbn,hb2,hgk,htl,hc0,hvl,hvs⟩ S;replace S:=addNew (y:=mrI b22 q0 c0 us0) Sp S hgr hb2 (fun k hk=>by obtain rfl:k=b22:=hk;exact hbn);clear Sp hb2;replace S:=S.add (Φ:=LsF q0 0 us0) (hvs.less fun k _ ⟨it,hi,hk⟩=>by
  rcases List.mem_cons.1 hi with rfl | hi
  ·exact .inl hk
  ·exact .inr ⟨it,hi,hk⟩)
 have hl0:us0.length≤1000000:=by omega
 have hgo:∀ y∈us0,Good y.t:=fun y hy=>list_good hgk htl (List.mem_map.2 ⟨y,hy,rfl⟩)
 have hfull:∀ m1 leaf1,t.t=metaT m1 leaf1→us0.map LTerm.t=metaL m1∧m1.owner=t.user∧leaf1=t.num:=fun m1 leaf1 he=>by
  rw[hst,metaT,signT]at he
  injection he with _ h2 h3 _ h5
  injection h5 with h5 _
  exact ⟨listT_injM (htl.symm.trans h5),h2.symm,h3.symm⟩
 have hshort:∀ (k:Nat) m1 leaf1,metOk m1→t.t=metaT m1 leaf1→k < 10→us0.length=k→False:=fun k m1 leaf1 _ he hk hl=>by
  have:=congrArg List.length (hfull m1 leaf1 he).1;rw[List.length_map,hl]at this;simp[metaL]at this;omega
 refine J6 ?_;clear S;intro a S;refine sitMP (mrI b22 q0 c0 us0) S (mnext_c b22 q0 c0 us0 _ hc0 hl0 (S.it (mrI b22 q0 c0 us0)) (S.lend (mrI b22 q0 c0 us0) (S.mem.fact (LsF q0 0 us0)))) rfl (fun ch w' hx hS=>?_) ?_
 ·have S:=hS
  clear hS;obtain ⟨rfl,hnil⟩:=hx;refine mread_pan b2 b3 b4 _ _ _ _ _ _ _ _ _ _ _ _ _ _ _ S.defers (by rw[S.slots];rfl) (by rw[S.slots];rfl) (by rw[S.slots];rfl) (S.sub (bxM b2 b3 b4 zMeta0) []).wd (fun w' ha=>⟨_,rfl,ha,hbad w' fun m1 leaf1 hm1 he1 hg1=>?_⟩);exact hshort 0 m1 leaf1 hm1 he1 (by omega) (by rw[hnil];rfl)
 clear S;rintro _ a w ⟨x0,us1,q1,c1,hus0,rfl,hh,hc1,hls⟩ hS;have S:=hS (mrI b22 q1 c1 us1) [] hh (fun k h=>.inl h) (by simp);clear hS hh;have hin1:∀ y∈us1,y∈us0:=fun y hy=>by rw[hus0];simp[hy]
 have hl1:us1.length≤1000000:=by rw[hus0]at hl0;simp at hl0;omega
 replace S:=S.add (Φ:=LsF q1 0 us1) ((S.mem.fact (LsF q0 0 us0)).imp fun w h=>hls w h);replace S:=S.add (Φ:=LtF x0) ((S.mem.fact (LsF q0 0 us0)).imp fun w h=>by rw[hus0]at h;exact (LsIn.get h (k:=0) rfl).2);clear hls;refine Y1 ?_;clear S;intro a w S;replace S:=S.add (Φ:=LtF (textL [109,101,116,97])) (fun w _=>text_inM _ w);refine Y1 ?_;clear S;intro a w S;refine srP S (mneed_c _ _) (fun ch w' hx S=>?_) ?_
 ·obtain ⟨hb,rfl⟩:=hx
  refine mread_pan b2 b3 b4 _ _ _ _ _ _ _ _ _ _ _ _ _ _ _ S.defers (by rw[S.slots];rfl) (by rw[S.slots];rfl) (by rw[S.slots];rfl) (S.sub (bxM b2 b3 b4 zMeta0) []).wd (fun w' ha=>⟨_,rfl,ha,hbad w' fun m1 leaf1 hm1 he1 hg1=>?_⟩);have h0:=(hfull m1 leaf1 he1).1;rw[hus0,metaL]at h0
  injection h0 with h0 _
  rw[(sameF_iff x0.t (textL [109,101,116,97]).t).2 h0]at hb;cases hb
 clear S;rintro _ a w hb S;have hx0:x0.t=textT metaS:=(sameF_iff _ _).1 hb;clear hb;refine J5 ?_;clear S;intro a S;refine sitMP (mrI b22 q1 c1 us1) S (mnext_c b22 q1 c1 us1 _ hc1 hl1 (S.it (mrI b22 q1 c1 us1)) (S.lend (mrI b22 q1 c1 us1) (S.mem.fact (LsF q1 0 us1)))) rfl (fun ch w' hx hS=>?_) ?_
 ·have S:=hS
  clear hS;obtain ⟨rfl,hnil⟩:=hx;refine mread_pan b2 b3 b4 _ _ _ _ _ _ _ _ _ _ _ _ _ _ _ S.defers (by rw[S.slots];rfl) (by rw[S.slots];rfl) (by rw[S.slots];rfl) (S.sub (bxM b2 b3 b4 zMeta0) []).wd (fun w' ha=>⟨_,rfl,ha,hbad w' fun m1 leaf1 hm1 he1 hg1=>?_⟩);exact hshort 1 m1 leaf1 hm1 he1 (by omega) (by rw[hus0,hnil];rfl)
 clear S;rintro _ a w ⟨x1,us2,q2,c2,hus1,rfl,hh,hc2,hls⟩ hS;have S:=hS (mrI b22 q2 c2 us2) [] hh (fun k h=>.inl h) (by simp);clear hS hh;have hin2:∀ y∈us2,y∈us0:=fun y hy=>hin1 y (by rw[hus1];simp[hy])
 have hl2:us2.length≤1000000:=by rw[hus1]at hl1;simp at hl1;omega
 replace S:=S.add (Φ:=LsF q2 0 us2) ((S.mem.fact (LsF q1 0 us1)).imp fun w h=>hls w h);replace S:=S.add (Φ:=LtF x1) ((S.mem.fact (LsF q1 0 us1)).imp fun w h=>by rw[hus1]at h;exact (LsIn.get h (k:=0) rfl).2);clear hls;refine sa S ?_;clear S;intro b6 a w S;refine Y8 ?_;clear S;intro a w S;refine srP S (mneed_c _ _) (fun ch w' hx S=>?_) ?_
 ·obtain ⟨hb,rfl⟩:=hx
  refine mread_pan b2 b3 b4 _ _ _ _ _ _ _ _ _ _ _ _ _ _ _ S.defers (by rw[S.slots];rfl) (by rw[S.slots];rfl) (by rw[S.slots];rfl) (S.sub (bxM b2 b3 b4 zMeta0) []).wd (fun w' ha=>⟨_,rfl,ha,hbad w' fun m1 leaf1 hm1 he1 hg1=>?_⟩);have h0:=(hfull m1 leaf1 he1).1;rw[hus0,metaL]at h0;simp only[List.map_cons,List.cons.injEq]at h0;obtain ⟨-,h0⟩:=h0;rw[hus1]at h0;simp only[List.map_cons,List.cons.injEq]at h0;have h1:x1.kind=1:=by rw[←kindT_eq,h0.1];rfl
  simp[h1]at hb
 clear S;rintro _ a w hb S;have hx1k:x1.kind=1:=by simpa using hb
 have hg1:Good x1.t:=hgo x1 (hin1 x1 (by rw[hus1];simp));have t1:=good_textK hg1 hx1k;clear hb;refine kN (xtn (kS ?_));refine c_drawX [T9 0,T9 1,T9 2,T9 4,F9 3,F9 5,T9 6,F9 7] [b22,b2] (⟨[(2,ptrM b2),(3,ptrM b3),(4,ptrM b4)],[defM b2 b3 b4],fun ch w=>ch=pch wrongM∧Wd w0 (fun _=>False) w (bxM b2 b3 b4 zMeta0) []∧∀ m leaf,metOk m→t.t=metaT m leaf→¬Good t.t⟩) S (fun ch a w ⟨hk,hd,hch,hw,hx⟩=>by subst hch;exact mread_pan b2 b3 b4 _ _ _ _ _ _ _ _ _ _ _ _ _ _ _ hd (hk (2,ptrM b2) (by simp)) (hk (3,ptrM b3) (by simp)) (hk (4,ptrM b4) (by simp)) hw (fun w' ha=>⟨_,rfl,ha,hbad w' hx⟩)) ?_;clear S;intro w S;(iterate 4 (refine dqX S ?_;clear S;intro a S));refine dlX ?_;refine sitMP (mrI b22 q2 c2 us2) S (mnum_c b22 q2 c2 us2 _ hc2 hl2 (fun y hy=>by have:=good_lenM (hgo y (hin2 y hy));omega) (S.lend (mrI b22 q2 c2 us2) (S.mem.fact LibF)) (S.it (mrI b22 q2 c2 us2)) (S.lend (mrI b22 q2 c2 us2) (S.mem.fact (LsF q2 0 us2)))) rfl (fun ch w' hx hS=>?_) ?_
 ·have S:=hS
  clear hS;obtain ⟨rfl,hno⟩:=hx;refine XP.of S (fun p hp=>by simp at hp;rcases hp with rfl | rfl | rfl <;> rfl) rfl ⟨rfl,(S.sub (bxM b2 b3 b4 zMeta0) []).wd,fun m1 leaf1 hm1 he1 hg1=>?_⟩;have h0:=(hfull m1 leaf1 he1).1;rw[hus0,hus1,metaL]at h0;simp only[List.map_cons,List.cons.injEq]at h0;obtain ⟨-,-,h0⟩:=h0;obtain ⟨y,ys,hy1,hy2,-⟩:=map_cons_inv h0;have hrg:=metOk_rng hm1;exact hno _ y ys hy1 ⟨by omega,by omega⟩ hy2
 clear S;rintro _ a w ⟨n2,x2,us3,q3,c3,hus2,rfl,hn2,hx2,hh,hc3,hls⟩ hS;have S:=hS (mrI b22 q3 c3 us3) [] hh (fun k h=>.inl h) (by simp);clear hS hh;have hl3:us3.length≤1000000:=by rw[hus2]at hl2;simp at hl2;omega
 have hin3:∀ y∈us3,y∈us0:=fun y hy=>hin2 y (by rw[hus2];simp[hy])
 replace S:=S.add (Φ:=LsF q3 0 us3) ((S.mem.fact (LsF q2 0 us2)).imp fun w h=>hls w h);clear hls;refine deX S ?_;refine dlX (sw S ?_);clear S;intro a w S;refine deX S ?_;refine dqX S ?_;clear S;intro a S;refine dlX (sw S ?_);clear S;intro a w S;refine deX S ?_;refine dnX (xtn (kS (kR (sq S ?_))));clear S;intro a S;refine sitMP (mrI b22 q3 c3 us3) S (mnum_c b22 q3 c3 us3 _ hc3 hl3 (fun y hy=>by have:=good_lenM (hgo y (hin3 y hy));omega) (S.lend (mrI b22 q3 c3 us3) (S.mem.fact LibF)) (S.it (mrI b22 q3 c3 us3)) (S.lend (mrI b22 q3 c3 us3) (S.mem.fact (LsF q3 0 us3)))) rfl (fun ch w' hx hS=>?_) ?_
 ·have S:=hS
  clear hS;obtain ⟨rfl,hno⟩:=hx;refine mread_pan b2 b3 b4 _ _ _ _ _ _ _ _ _ _ _ _ _ _ _ S.defers (by rw[S.slots];rfl) (by rw[S.slots];rfl) (by rw[S.slots];rfl) (S.sub (bxM b2 b3 b4 [str x1.text,.int .i64 n2,.int .i64 0,.int .i64 0,.slice none 0 0,.slice none 0 0,.slice none 0 0,.slice none 0 0,.int .i64 0,.int .i64 0,.int .i64 0,.string ⟨#[]⟩,.slice none 0 0]) []).wd (fun w' ha=>⟨_,rfl,ha,hbad w' fun m1 leaf1 hm1 he1 hg1=>?_⟩);have h0:=(hfull m1 leaf1 he1).1;rw[hus0,hus1,hus2,metaL]at h0;simp only[List.map_cons,List.cons.injEq]at h0;obtain ⟨-,-,-,h0⟩:=h0;obtain ⟨y,ys,hy1,hy2,-⟩:=map_cons_inv h0;have hrg:=metOk_rng hm1;exact hno _ y ys hy1 ⟨by omega,by omega⟩ hy2
 clear S;rintro _ a w ⟨n3,x3,us4,q4,c4,hus3,rfl,hn3,hx3,hh,hc4,hls⟩ hS;have S:=hS (mrI b22 q4 c4 us4) [] hh (fun k h=>.inl h) (by simp);clear hS hh;have hl4:us4.length≤1000000:=by rw[hus3]at hl3;simp at hl3;omega
 have hin4:∀ y∈us4,y∈us0:=fun y hy=>hin3 y (by rw[hus3];simp[hy])
 replace S:=S.add (Φ:=LsF q4 0 us4) ((S.mem.fact (LsF q3 0 us3)).imp fun w h=>hls w h);clear hls;refine J1 ?_;clear S;intro a S;refine sitMP (mrI b22 q4 c4 us4) S (mnum_c b22 q4 c4 us4 _ hc4 hl4 (fun y hy=>by have:=good_lenM (hgo y (hin4 y hy));omega) (S.lend (mrI b22 q4 c4 us4) (S.mem.fact LibF)) (S.it (mrI b22 q4 c4 us4)) (S.lend (mrI b22 q4 c4 us4) (S.mem.fact (LsF q4 0 us4)))) rfl (fun ch w' hx hS=>?_) ?_
 ·have S:=hS
  clear hS;obtain ⟨rfl,hno⟩:=hx;refine mread_pan b2 b3 b4 _ _ _ _ _ _ _ _ _ _ _ _ _ _ _ S.defers (by rw[S.slots];rfl) (by rw[S.slots];rfl) (by rw[S.slots];rfl) (S.sub (bxM b2 b3 b4 [str x1.text,.int .i64 n2,.int .i64 0,.int .i64 0,.slice none 0 0,.slice none 0 0,.slice none 0 0,.slice none 0 0,.int .i64 0,.int .i64 0,.int .i64 0,.string ⟨#[]⟩,.slice none 0 0]) []).wd (fun w' ha=>⟨_,rfl,ha,hbad w' fun m1 leaf1 hm1 he1 hg1=>?_⟩);have h0:=(hfull m1 leaf1 he1).1;rw[hus0,hus1,hus2,hus3,metaL]at h0;simp only[List.map_cons,List.cons.injEq]at h0;obtain ⟨-,-,-,-,h0⟩:=h0;obtain ⟨y,ys,hy1,hy2,-⟩:=map_cons_inv h0;have hrg:=metOk_rng hm1;exact hno _ y ys hy1 ⟨by omega,by omega⟩ hy2
 clear S;rintro _ a w ⟨n4,x4,us5,q5,c5,hus4,rfl,hn4,hx4,hh,hc5,hls⟩ hS;have S:=hS (mrI b22 q5 c5 us5) [] hh (fun k h=>.inl h) (by simp);clear hS hh;have hl5:us5.length≤1000000:=by rw[hus4]at hl4;simp at hl4;omega
 have hin5:∀ y∈us5,y∈us0:=fun y hy=>hin4 y (by rw[hus4];simp[hy])
 replace S:=S.add (Φ:=LsF q5 0 us5) ((S.mem.fact (LsF q4 0 us4)).imp fun w h=>hls w h);clear hls;refine Y8 ?_;clear S;intro a w S;refine sitMP (mrI b22 q5 c5 us5) S (mnums_c b22 q5 c5 us5 (restOf _ (mrI b22 q5 c5 us5)) w hc5 hl5 (S.restOk _) ((S.mem.fact LibF).split (mrI b22 q5 c5 us5)) (S.it (mrI b22 q5 c5 us5)) ((S.mem.fact (LsF q5 0 us5)).split (mrI b22 q5 c5 us5))) rfl (fun ch w' hx hS=>?_) ?_
 ·have S:=hS
  clear hS;obtain ⟨rfl,hno⟩:=hx;refine mread_pan b2 b3 b4 _ _ _ _ _ _ _ _ _ _ _ _ _ _ _ S.defers (by rw[S.slots];rfl) (by rw[S.slots];rfl) (by rw[S.slots];rfl) (S.sub (bxM b2 b3 b4 [str x1.text,.int .i64 n2,.int .i64 n3,.int .i64 n4,.slice none 0 0,.slice none 0 0,.slice none 0 0,.slice none 0 0,.int .i64 0,.int .i64 0,.int .i64 0,.string ⟨#[]⟩,.slice none 0 0]) []).wd (fun w' ha=>⟨_,rfl,ha,hbad w' fun m1 leaf1 hm1 he1 hg1=>?_⟩);have h0:=(hfull m1 leaf1 he1).1;rw[hus0,hus1,hus2,hus3,hus4,metaL]at h0;simp only[List.map_cons,List.cons.injEq]at h0;obtain ⟨-,-,-,-,-,h0⟩:=h0;obtain ⟨y,ys,hy1,hy2,-⟩:=map_cons_inv h0;exact hno _ y ys hy1 (metOk_rng hm1).2.2.2.1 (hgo y (hin5 y (by rw[hy1];simp))) hy2
 clear S;rintro _ a w ⟨l5,p5,e5,x5,us6,q6,c6,hus5,rfl,hok5,hx5,hle5,hcm5,hll5,hh,hc6,hls,hfl⟩ hS;have S:=hS (mrI b22 q6 c6 us6) [GlF p5 l5] hh (fun k h=>.inl h) (by simpa using hfl);clear hS hh hfl;have hl6:us6.length≤1000000:=by rw[hus5]at hl5;simp at hl5;omega
 have hin6:∀ y∈us6,y∈us0:=fun y hy=>hin5 y (by rw[hus5];simp[hy])
 replace S:=S.add (Φ:=LsF q6 0 us6) ((S.mem.fact (LsF q5 0 us5)).imp fun w h=>hls w h);clear hls;refine J1 ?_;clear S;intro a S;refine sitMP (mrI b22 q6 c6 us6) S (mnums_c b22 q6 c6 us6 (restOf _ (mrI b22 q6 c6 us6)) w hc6 hl6 (S.restOk _) ((S.mem.fact LibF).split (mrI b22 q6 c6 us6)) (S.it (mrI b22 q6 c6 us6)) ((S.mem.fact (LsF q6 0 us6)).split (mrI b22 q6 c6 us6))) rfl (fun ch w' hx hS=>?_) ?_
 ·have S:=hS
  clear hS;obtain ⟨rfl,hno⟩:=hx;refine mread_pan b2 b3 b4 _ _ _ _ _ _ _ _ _ _ _ _ _ _ _ S.defers (by rw[S.slots];rfl) (by rw[S.slots];rfl) (by rw[S.slots];rfl) (S.sub (bxM b2 b3 b4 [str x1.text,.int .i64 n2,.int .i64 n3,.int .i64 n4,.slice none 0 0,.slice none 0 0,.slice none 0 0,.slice none 0 0,.int .i64 0,.int .i64 0,.int .i64 0,.string ⟨#[]⟩,.slice none 0 0]) []).wd (fun w' ha=>⟨_,rfl,ha,hbad w' fun m1 leaf1 hm1 he1 hg1=>?_⟩);have h0:=(hfull m1 leaf1 he1).1;rw[hus0,hus1,hus2,hus3,hus4,hus5,metaL]at h0;simp only[List.map_cons,List.cons.injEq]at h0;obtain ⟨-,-,-,-,-,-,h0⟩:=h0;obtain ⟨y,ys,hy1,hy2,-⟩:=map_cons_inv h0;exact hno _ y ys hy1 (metOk_rng hm1).2.2.2.2.1 (hgo y (hin6 y (by rw[hy1];simp))) hy2
 clear S;rintro _ a w ⟨l6,p6,e6,x6,us7,q7,c7,hus6,rfl,hok6,hx6,hle6,hcm6,hll6,hh,hc7,hls,hfl⟩ hS;have S:=hS (mrI b22 q7 c7 us7) [GlF p6 l6] hh (fun k h=>.inl h) (by simpa using hfl);clear hS hh hfl;have hl7:us7.length≤1000000:=by rw[hus6]at hl6;simp at hl6;omega
 have hin7:∀ y∈us7,y∈us0:=fun y hy=>hin6 y (by rw[hus6];simp[hy])
 replace S:=S.add (Φ:=LsF q7 0 us7) ((S.mem.fact (LsF q6 0 us6)).imp fun w h=>hls w h);clear hls;refine J1 ?_;clear S;intro a S;refine sitMP (mrI b22 q7 c7 us7) S (mnums_c b22 q7 c7 us7 (restOf _ (mrI b22 q7 c7 us7)) w hc7 hl7 (S.restOk _) ((S.mem.fact LibF).split (mrI b22 q7 c7 us7)) (S.it (mrI b22 q7 c7 us7)) ((S.mem.fact (LsF q7 0 us7)).split (mrI b22 q7 c7 us7))) rfl (fun ch w' hx hS=>?_) ?_
 ·have S:=hS
  clear hS;obtain ⟨rfl,hno⟩:=hx;refine mread_pan b2 b3 b4 _ _ _ _ _ _ _ _ _ _ _ _ _ _ _ S.defers (by rw[S.slots];rfl) (by rw[S.slots];rfl) (by rw[S.slots];rfl) (S.sub (bxM b2 b3 b4 [str x1.text,.int .i64 n2,.int .i64 n3,.int .i64 n4,.slice none 0 0,.slice none 0 0,.slice none 0 0,.slice none 0 0,.int .i64 0,.int .i64 0,.int .i64 0,.string ⟨#[]⟩,.slice none 0 0]) []).wd (fun w' ha=>⟨_,rfl,ha,hbad w' fun m1 leaf1 hm1 he1 hg1=>?_⟩);have h0:=(hfull m1 leaf1 he1).1;rw[hus0,hus1,hus2,hus3,hus4,hus5,hus6,metaL]at h0;simp only[List.map_cons,List.cons.injEq]at h0;obtain ⟨-,-,-,-,-,-,-,h0⟩:=h0;obtain ⟨y,ys,hy1,hy2,-⟩:=map_cons_inv h0;exact hno _ y ys hy1 (metOk_rng hm1).2.2.2.2.2.1 (hgo y (hin7 y (by rw[hy1];simp))) hy2
 clear S;rintro _ a w ⟨l7,p7,e7,x7,us8,q8,c8,hus7,rfl,hok7,hx7,hle7,hcm7,hll7,hh,hc8,hls,hfl⟩ hS;have S:=hS (mrI b22 q8 c8 us8) [GlF p7 l7] hh (fun k h=>.inl h) (by simpa using hfl);clear hS hh hfl;have hl8:us8.length≤1000000:=by rw[hus7]at hl7;simp at hl7;omega
 have hin8:∀ y∈us8,y∈us0:=fun y hy=>hin7 y (by rw[hus7];simp[hy])
 replace S:=S.add (Φ:=LsF q8 0 us8) ((S.mem.fact (LsF q7 0 us7)).imp fun w h=>hls w h);clear hls;refine Y14 ?_;clear S;intro a w S;refine sitMP (mrI b22 q8 c8 us8) S (mnext_c b22 q8 c8 us8 _ hc8 hl8 (S.it (mrI b22 q8 c8 us8)) (S.lend (mrI b22 q8 c8 us8) (S.mem.fact (LsF q8 0 us8)))) rfl (fun ch w' hx hS=>?_) ?_
 ·have S:=hS
  clear hS;obtain ⟨rfl,hnil⟩:=hx;refine mread_pan b2 b3 b4 _ _ _ _ _ _ _ _ _ _ _ _ _ _ _ S.defers (by rw[S.slots];rfl) (by rw[S.slots];rfl) (by rw[S.slots];rfl) (S.sub (bxM b2 b3 b4 [str x1.text,.int .i64 n2,.int .i64 n3,.int .i64 n4,.slice p5 l5.length e5,.slice p6 l6.length e6,.slice p7 l7.length e7,.slice none 0 0,.int .i64 0,.int .i64 0,.int .i64 0,.string ⟨#[]⟩,.slice none 0 0]) []).wd (fun w' ha=>⟨_,rfl,ha,hbad w' fun m1 leaf1 hm1 he1 hg1=>?_⟩);exact hshort 8 m1 leaf1 hm1 he1 (by omega) (by rw[hus0,hus1,hus2,hus3,hus4,hus5,hus6,hus7,hnil];rfl)
 clear S;rintro _ a w ⟨x8,us9,q9,c9,hus8,rfl,hh,hc9,hls⟩ hS;have S:=hS (mrI b22 q9 c9 us9) [] hh (fun k h=>.inl h) (by simp);clear hS hh;have hl9:us9.length≤1000000:=by rw[hus8]at hl8;simp at hl8;omega
 replace S:=S.add (Φ:=LsF q9 0 us9) ((S.mem.fact (LsF q8 0 us8)).imp fun w h=>hls w h);replace S:=S.add (Φ:=LtF x8) ((S.mem.fact (LsF q8 0 us8)).imp fun w h=>by rw[hus8]at h;exact (LsIn.get h (k:=0) rfl).2);clear hls;have hgx8:Good x8.t:=hgo x8 (hin8 x8 (by rw[hus8];simp));have hparts:∀ m1 leaf1,metOk m1→t.t=metaT m1 leaf1→m1.owner=t.user∧leaf1=t.num∧x1.t=textT m1.name∧m1.version=n2∧m1.owner=n3∧m1.epoch=n4∧m1.rd=l5∧m1.wr=l6∧m1.gr=l7∧x8.t=listT (m1.past.map numsT)∧us9.map LTerm.t=[m1.boxes]:=fun m1 leaf1 hm1 he1=>by
  obtain ⟨h0,ho,hle⟩:=hfull m1 leaf1 he1;rw[hus0,hus1,hus2,hus3,hus4,hus5,hus6,hus7,hus8,metaL]at h0;simp only[List.map_cons,List.cons.injEq]at h0;obtain ⟨-,g1,g2,g3,g4,g5,g6,g7,g8,g9⟩:=h0;obtain ⟨r1,r2,r3,r4,r5,r6,-⟩:=metOk_rng hm1;refine ⟨ho,hle,g1,?_,?_,?_,?_,?_,?_,g8,g9⟩
  ·exact digT_inj ⟨by omega,by omega⟩ ⟨by omega,by omega⟩ (g2.symm.trans hx2)
  ·exact digT_inj ⟨by omega,by omega⟩ ⟨by omega,by omega⟩ (g3.symm.trans hx3)
  ·exact digT_inj ⟨by omega,by omega⟩ ⟨by omega,by omega⟩ (g4.symm.trans hx4)
  ·exact numsT_inj r4 hok5 (g5.symm.trans hx5)
  ·exact numsT_inj r5 hok6 (g6.symm.trans hx6)
  ·exact numsT_inj r6 hok7 (g7.symm.trans hx7)
 have Sp:=S;refine srP S (mlist_c x8 _ w (foots_lt S) (S.t x8)) (fun ch w' hx S=>?_) ?_
 ·obtain ⟨rfl,hno⟩:=hx
  refine mread_pan b2 b3 b4 _ _ _ _ _ _ _ _ _ _ _ _ _ _ _ S.defers (by rw[S.slots];rfl) (by rw[S.slots];rfl) (by rw[S.slots];rfl) (S.sub (bxM b2 b3 b4 [str x1.text,.int .i64 n2,.int .i64 n3,.int .i64 n4,.slice p5 l5.length e5,.slice p6 l6.length e6,.slice p7 l7.length e7,.slice none 0 0,.int .i64 0,.int .i64 0,.int .i64 0,.string ⟨#[]⟩,.slice none 0 0]) []).wd (fun w' ha=>⟨_,rfl,ha,hbad w' fun m1 leaf1 hm1 he1 hg1=>?_⟩);exact hno _ (hparts m1 leaf1 hm1 he1).2.2.2.2.2.2.2.2.2.1 hgx8
 clear S;rintro _ a w ⟨b9,qv,cv,vs,rfl,hgr9,hbn9,hb9,hgk9,htl9,hcv,hvl9,hvs9⟩ S;replace S:=addNew (y:=mrI b9 qv cv vs) Sp S hgr9 hb9 (fun k hk=>by obtain rfl:k=b9:=hk;exact hbn9);clear Sp hb9;replace S:=S.add (Φ:=LsF qv 0 vs) (hvs9.less fun k _ ⟨it,hi,hk⟩=>by
  rcases List.mem_cons.1 hi with rfl | hi
  ·exact .inl hk
  ·exact .inr ⟨it,hi,hk⟩)
 clear hvs9;have hgv:∀ y∈vs,Good y.t:=fun y hy=>list_good hgk9 htl9 (List.mem_map.2 ⟨y,hy,rfl⟩)
 have hpast:∀ m1 leaf1,metOk m1→t.t=metaT m1 leaf1→vs.map LTerm.t=m1.past.map numsT:=fun m1 leaf1 hm he=>listT_injM (htl9.symm.trans (hparts m1 leaf1 hm he).2.2.2.2.2.2.2.2.2.1)
 refine J5 ?_;clear S;intro a S;refine c_fore6 S (fun(ps:List (Sl Int)) (ys:List LTerm) (q3:Option Addr) (c3:Nat) (pp:Option Addr) (cp:Nat) uu=>[(61,uu 61),(0,uu 62),(0,uu 63),(0,uu 64),(0,uu 65),(0,uu 66),(0,uu 67),(0,uu 68),(0,uu 69),(0,uu 70),(0,uu 71),(0,uu 72),(0,uu 73)]) (fun(ps:List (Sl Int)) (ys:List LTerm) (q3:Option Addr) (c3:Nat) (pp:Option Addr) (cp:Nat)=>[Wk.row 27 1 pp ps.length cp (encL ps),mrI b9 q3 c3 ys,mrI b22 q9 c9 us9,Wk.box b4 33 [.int .i64 0],Wk.box b3 3 [.int .i64 0],Wk.box b2 32 [str x1.text,.int .i64 n2,.int .i64 n3,.int .i64 n4,.slice p5 l5.length e5,.slice p6 l6.length e6,.slice p7 l7.length e7,.slice pp ps.length cp,.int .i64 0,.int .i64 0,.int .i64 0,.string ⟨#[]⟩,.slice none 0 0],Wk.box b1 24 t.cells,ext M]) (fun(ps:List (Sl Int)) (ys:List LTerm) (q3:Option Addr) (c3:Nat) (pp:Option Addr) (cp:Nat)=>[AllI ps,LsF q3 0 ys,LsF q9 0 us9,GlF p7 l7,GlF p6 l6,GlF p5 l5,LibF]) (fun(ps:List (Sl Int)) (ys:List LTerm) (q3:Option Addr) (c3:Nat) (pp:Option Addr) (cp:Nat)=>vs.map LTerm.t=ps.map (fun s=>numsT s.xs)++ys.map LTerm.t∧ys.length≤c3∧ps.length+ys.length=vs.length∧(∀ y∈ys,y∈vs)∧∀ s∈ps,okI s.xs∧s.xs.length≤1200) (fun(ps:List (Sl Int)) (ys:List LTerm) (q3:Option Addr) (c3:Nat) (pp:Option Addr) (cp:Nat)=>ys.length) ([]) (vs) (qv) (cv) (none) (0) ?_ S.uu ?_ ?_
 ·exact ⟨rfl,hcv,by simp,fun y hy=>hy,nofun⟩
 ·replace S:=S.addNil 27 1
  rw[show Wk.row 27 1 none 0 0 []=Wk.row 27 1 none 0 0 (encL ([]:List (Sl Int))) from rfl]at S;replace S:=S.add (Φ:=AllI (α:=Sl Int) []) AllI.nil;exact S.sub _ _
 ·clear S;rintro ps ys q3 c3 pp cp uu a w ⟨hmap,hc3,hyl,hyv,hpok⟩ S
  refine J11 ?_;clear S;intro a S;refine kC S (fun h11=>?_) (fun h11=>?_)
  ·refine kK (xtn (kB ?_))
   have hpos:0 < ys.length:=by simpa using h11
   refine c_drawXL 7 [T9 0,T9 1,T9 2,F9 3,F9 4,F9 5,T9 6,F9 7] [Wk.box b2 32 [str x1.text,.int .i64 n2,.int .i64 n3,.int .i64 n4,.slice p5 l5.length e5,.slice p6 l6.length e6,.slice p7 l7.length e7,.slice pp ps.length cp,.int .i64 0,.int .i64 0,.int .i64 0,.string ⟨#[]⟩,.slice none 0 0]] (⟨[(2,ptrM b2),(3,ptrM b3),(4,ptrM b4)],[defM b2 b3 b4],fun ch w=>ch=pch wrongM∧Wd w0 (fun _=>False) w (bxM b2 b3 b4 [str x1.text,.int .i64 n2,.int .i64 n3,.int .i64 n4,.slice p5 l5.length e5,.slice p6 l6.length e6,.slice p7 l7.length e7,.slice pp ps.length cp,.int .i64 0,.int .i64 0,.int .i64 0,.string ⟨#[]⟩,.slice none 0 0]) []∧∀ m leaf,metOk m→t.t=metaT m leaf→¬Good t.t⟩) S (fun ch a w ⟨hk,hd,hch,hw,hx⟩=>by subst hch;repeat (first | refine xtp ?_ | refine xbp ?_);exact mread_pan b2 b3 b4 _ _ _ _ _ _ _ _ _ _ _ _ _ _ _ hd (hk (2,ptrM b2) (by simp)) (hk (3,ptrM b3) (by simp)) (hk (4,ptrM b4) (by simp)) hw (fun w' ha=>⟨_,rfl,ha,hbad w' hx⟩)) ?_;clear S;intro w S;(iterate 3 (refine dqXL S ?_;clear S;intro a S));refine dlXL ?_;refine sitMP (mrI b9 q3 c3 ys) S (mnums_c b9 q3 c3 ys (restOf _ (mrI b9 q3 c3 ys)) w hc3 (by omega) (S.restOk _) ((S.mem.fact LibF).split (mrI b9 q3 c3 ys)) (S.it (mrI b9 q3 c3 ys)) ((S.mem.fact (LsF q3 0 ys)).split (mrI b9 q3 c3 ys))) rfl (fun ch w' hx hS=>?_) ?_
   ·have S:=hS
    clear hS;obtain ⟨rfl,hno⟩:=hx;refine XP.of S (fun p hp=>by simp at hp;rcases hp with rfl | rfl | rfl <;> rfl) rfl ⟨rfl,(S.sub (bxM b2 b3 b4 [str x1.text,.int .i64 n2,.int .i64 n3,.int .i64 n4,.slice p5 l5.length e5,.slice p6 l6.length e6,.slice p7 l7.length e7,.slice pp ps.length cp,.int .i64 0,.int .i64 0,.int .i64 0,.string ⟨#[]⟩,.slice none 0 0]) []).wd,fun m1 leaf1 hm1 he1 hg1=>?_⟩;have r1:=hpast m1 leaf1 hm1 he1;rw[hmap]at r1
    match ys,hpos with
    | y::ys,_=>
     have hm:y.t∈m1.past.map numsT:=by rw[←r1];simp
     obtain ⟨l,hl1,hl2⟩:=List.mem_map.1 hm;exact hno l y ys rfl ((metOk_rng hm1).2.2.2.2.2.2.1 l hl1) (hgv y (hyv y (by simp))) hl2.symm
   clear S;rintro _ a w ⟨l,p,e,y,ys',q4,c4,rfl,rfl,hokl,hy,hle,hcm,hll,hh,hc4,hls4,hfl⟩ hS;have S:=hS (mrI b9 q4 c4 ys') [GlF p l] hh (fun k h=>.inl h) (by simpa using hfl);clear hS hh hfl;replace S:=S.add (Φ:=LsF q4 0 ys') ((S.mem.fact (LsF q3 0 (y::ys'))).imp fun w h=>hls4 w h);replace S:=S.add (Φ:=AllI (ps++[(⟨p,e,l⟩:Sl Int)])) (AllI.snoc (S.wd.facts (AllI ps) (by simp)) ((S.wd.facts (GlF p l) (by simp)).imp fun w h=>⟨hle,hcm,h⟩));refine deXL S ?_;refine dlXL (sn S ?_);clear S;intro b71 a w S;refine deXL S ?_;refine dlXL ?_;refine sap S (by simp[maxLen];omega) (by omega) ?_;clear S;rintro pq cq a w - S;rw[show encL ps++[Value.slice p l.length e]=encL (ps++[(⟨p,e,l⟩:Sl Int)]) from by rw[encL_append];rfl,show ps.length+1=(ps++[(⟨p,e,l⟩:Sl Int)]).length from by simp]at S;refine deXL S ?_;refine dqXL S ?_;clear S;intro a S;refine dlXL (sw S ?_);clear S;intro a w S;refine dzXL (xbn (xtn ?_));refine ⟨ps++[⟨p,e,l⟩],ys',q4,c4,pq,cq,S.uu,⟨by rw[hmap];simp[hy],hc4,by simp at hyl⊢;omega,fun z hz=>hyv z (by simp[hz]),fun s hs=>?_⟩,S.sub _ _,by simp⟩;rcases List.mem_append.1 hs with hs | hs
   ·exact hpok s hs
   ·rw[List.mem_singleton.1 hs];exact ⟨hokl,hll⟩
  ·refine kE (xte (xte (xbe (xtn (kS ?_)))))
   have hys:ys=[]:=by
    cases ys with
    | nil=>rfl
    | cons y ys=>simp at h11
   refine J2 ?_;clear S;intro a S;refine sitMP (mrI b22 q9 c9 us9) S (mnext_c b22 q9 c9 us9 _ hc9 hl9 (S.it (mrI b22 q9 c9 us9)) (S.lend (mrI b22 q9 c9 us9) (S.mem.fact (LsF q9 0 us9)))) rfl (fun ch w' hx hS=>?_) ?_
   ·have S:=hS
    clear hS;obtain ⟨rfl,hnil⟩:=hx;refine mread_pan b2 b3 b4 _ _ _ _ _ _ _ _ _ _ _ _ _ _ _ S.defers (by rw[S.slots];rfl) (by rw[S.slots];rfl) (by rw[S.slots];rfl) (S.sub (bxM b2 b3 b4 [str x1.text,.int .i64 n2,.int .i64 n3,.int .i64 n4,.slice p5 l5.length e5,.slice p6 l6.length e6,.slice p7 l7.length e7,.slice pp ps.length cp,.int .i64 0,.int .i64 0,.int .i64 0,.string ⟨#[]⟩,.slice none 0 0]) []).wd (fun w' ha=>⟨_,rfl,ha,hbad w' fun m1 leaf1 hm1 he1 hg1=>?_⟩);exact hshort 9 m1 leaf1 hm1 he1 (by omega) (by rw[hus0,hus1,hus2,hus3,hus4,hus5,hus6,hus7,hus8,hnil];rfl)
   clear S;rintro _ a w ⟨x9,us10,q10,c10,hus9,rfl,hh,hc10,hls⟩ hS;have S:=hS (mrI b22 q10 c10 us10) [] hh (fun k h=>.inl h) (by simp);clear hS hh;have hl10:us10.length≤1000000:=by rw[hus9]at hl9;simp at hl9;omega
   replace S:=S.add (Φ:=LsF q10 0 us10) ((S.mem.fact (LsF q9 0 us9)).imp fun w h=>hls w h);replace S:=S.add (Φ:=LtF x9) ((S.mem.fact (LsF q9 0 us9)).imp fun w h=>by rw[hus9]at h;exact (LsIn.get h (k:=0) rfl).2);clear hls;refine Y5 ?_;clear S;intro a w S;have hpl:=own_le (S.row pp ps.length);have hpm:=own_capM (S.row pp ps.length);have hpn:ps.length≤1200:=by omega
   replace S:=S.rowToGl pp ps (e:=27) (sz:=1) (n:=ps.length) (c:=cp) (S.wd.facts (AllI ps) (by simp));obtain ⟨mm,hmm⟩:∃ mm:LMeta,mm=⟨x1.text,n2,⟨n3,n4,⟨p5,e5,l5⟩,⟨p6,e6,l6⟩,⟨p7,e7,l7⟩⟩,⟨pp,cp,ps⟩,x9⟩:=⟨_,rfl⟩;replace S:=S.add (Φ:=InF mm) (by
    rw[hmm];intro w' hw';exact ⟨⟨⟨hle5,hcm5,S.wd.facts (GlF p5 l5) (by simp) w' hw'⟩,⟨hle6,hcm6,S.wd.facts (GlF p6 l6) (by simp) w' hw'⟩,⟨hle7,hcm7,S.wd.facts (GlF p7 l7) (by simp) w' hw'⟩⟩,⟨hpl,hpm,S.wd.facts (GlF pp ps) (by simp) w' hw'⟩,S.t x9 w' hw'⟩)
   have hfit:FitMeta mm:=by
    rw[hmm];exact ⟨by show x1.text.length≤_;have:=t1.2;omega,by show l5.length≤_;omega,by show l6.length≤_;omega,by show l7.length≤_;omega,by show ps.length≤_;omega,fun s hs=>by have:=(hpok s hs).2;omega⟩
   have hint:IntMeta mm:=by
    rw[hmm];exact ⟨i64_ok hok5,i64_ok hok6,i64_ok hok7,fun s hs=>i64_ok (hpok s hs).1⟩
   have hmmT:mm.m=⟨x1.text,n2,n3,n4,l5,l6,l7,ps.map Sl.xs,x9.t⟩:=by rw[hmm];rfl
   rw[hys,List.map_nil,List.append_nil]at hmap;have hwhole:∀ m1 leaf1,metOk m1→t.t=metaT m1 leaf1→us10=[]∧mm.m=m1∧t.user=n3:=fun m1 leaf1 hm1 he1=>by
    obtain ⟨r1,r2,r3,r4,r5,r6,r7,r8,r9,-,r10⟩:=hparts m1 leaf1 hm1 he1;have r11:=hpast m1 leaf1 hm1 he1;rw[hmap,show (fun s:Sl Int=>numsT s.xs)=numsT ∘ Sl.xs from rfl,←List.map_map]at r11;have r12:=numsT_injL (fun l hl=>by obtain ⟨s,hs,rfl⟩:=List.mem_map.1 hl;exact (hpok s hs).1) (metOk_rng hm1).2.2.2.2.2.2.1 r11;rw[hus9]at r10;simp only[List.map_cons,List.cons.injEq,List.map_eq_nil_iff]at r10;have rn:=t1.1.symm.trans r3;simp only[textT,Term.mk.injEq]at rn;refine ⟨r10.2,?_,by rw[←r1,r5]⟩;rw[hmmT,show m1=⟨m1.name,m1.version,m1.owner,m1.epoch,m1.rd,m1.wr,m1.gr,m1.past,m1.boxes⟩ from rfl,Met.mk.injEq];exact ⟨rn.2.2.2.1,r4.symm,r5.symm,r6.symm,r7.symm,r8.symm,r9.symm,r12,r10.1⟩
   have hT:us10=[]→t.user=n3→t.t=metaT mm.m t.num:=fun e1 e2=>by
    have hx8:x8.t=listT ((ps.map Sl.xs).map numsT):=by rw[htl9,hmap,List.map_map];rfl
    rw[hst,htl,hus0,hus1,hus2,hus3,hus4,hus5,hus6,hus7,hus8,hus9,e1,metaT,hmmT,metaL,e2];simp only[List.map_cons,List.map_nil,hx0,hx2,hx3,hx4,hx5,hx6,hx7,hx8];rw[←t1.1]
   refine J8 ?_;clear S;intro a S;refine gS S (fun hq1 S=>?_) (fun hq1 S=>?_)
   ·refine gT S ?_;refine sq S ?_;clear S;intro a S;refine gT S ?_
    refine sr S (mcheck_c ⟨x1.text,n2,⟨n3,n4,⟨p5,e5,l5⟩,⟨p6,e6,l6⟩,⟨p7,e7,l7⟩⟩,⟨pp,cp,ps⟩,x9⟩ (hmm▸hfit) _ (by rw[←hmm];exact S.mem.i0 mm)) ?_;clear S;rintro _ a w rfl S;rw[←hmm]at S;refine gT S ?_;(iterate 3 (refine sq S ?_;clear S;intro a S));refine gS S (fun hq2 S=>?_) (fun hq2 S=>?_)
    ·refine gT S ?_;refine sq S ?_;clear S;intro a S;refine gT S ?_;refine sq S ?_;clear S;intro a S;refine gT S ?_;refine sq S ?_;clear S;intro a S;refine gT S ?_;refine sq S ?_;clear S;intro a S;refine gT S ?_;refine sq S ?_;clear S;intro a S;refine gT S ?_;(iterate 2 (refine sq S ?_;clear S;intro a S))
     refine srP S (mneed_c _ _) (fun ch w' hx S=>?_) ?_
     ·obtain ⟨hb,rfl⟩:=hx
      refine mread_pan b2 b3 b4 _ _ _ _ _ _ _ _ _ _ _ _ _ _ _ S.defers (by rw[S.slots];rfl) (by rw[S.slots];rfl) (by rw[S.slots];rfl) (S.sub (bxM b2 b3 b4 [str x1.text,.int .i64 n2,.int .i64 n3,.int .i64 n4,.slice p5 l5.length e5,.slice p6 l6.length e6,.slice p7 l7.length e7,.slice pp ps.length cp,.int .i64 x9.kind,.int .i64 x9.user,.int .i64 x9.num,str x9.text,.slice x9.p x9.kids.length x9.cap]) []).wd (fun w' ha=>⟨_,rfl,ha,hbad w' fun m1 leaf1 hm1 he1 hg1=>?_⟩);obtain ⟨k1,k2,k3⟩:=hwhole m1 leaf1 hm1 he1;have k4:metF mm.m=0:=metF_zero.2 (by rw[k2];exact hm1);simp[k1,k3,k4]at hq1 hq2 hb
     clear S;rintro _ a w hb S;have hdone:us10=[]∧metOk mm.m∧t.user=n3:=by
      first
      | exact absurd hb Bool.false_ne_true
      | exact absurd hq2 Bool.false_ne_true
      | exact ⟨by simpa using hq1,metF_zero.1 (by simpa using hq2),by simpa using hb⟩
     refine kN (xtn (kS ?_))
     refine' c_drawT0 (.q 1 (.q 2 (.l 0 (.l 3 (.l 4 (.l 5 (.e))))))) [b2,b3,b4] S ?_ ?_
     rotate_left 3
     ·intro w S
      (iterate 2 (refine tq S ?_;clear S;intro a S));refine tl (sq S ?_);clear S;intro a S;refine te S ?_;refine tl (sw S ?_);clear S;intro a w S;refine te S ?_;refine tl (sw S ?_);clear S;intro a w S;refine te S ?_;refine tl (sw S ?_);clear S;intro a w S;refine te S ?_;refine tn ?_;exact S
     intro  a w S;refine xtn (kT ?_);have hlat:=S.laterFact (M:=M) (Φ:=InF mm) (by simp);refine leaveRet S.defers (mcatch_ret _ _ _ w) (fun w' hw'=>⟨_,res3 S.slots (S.wd.step hw').held,_,rfl,(S.wd.step hw').agree,mm,t.num,0,by rw[hmm],hlat.later (hw'.mono fun _ _ h=>h.elim),hfit,hint,fun _=>⟨hdone.2.1,hT hdone.1 hdone.2.2,hg.1⟩,fun h=>absurd rfl h⟩)
    ·refine gF S ?_;clear S;intro a S;(iterate 5 (refine gF S ?_;clear S;intro a S));refine sq S ?_;clear S;intro a S
     refine srP S (mneed_c _ _) (fun ch w' hx S=>?_) ?_
     ·obtain ⟨hb,rfl⟩:=hx
      refine mread_pan b2 b3 b4 _ _ _ _ _ _ _ _ _ _ _ _ _ _ _ S.defers (by rw[S.slots];rfl) (by rw[S.slots];rfl) (by rw[S.slots];rfl) (S.sub (bxM b2 b3 b4 [str x1.text,.int .i64 n2,.int .i64 n3,.int .i64 n4,.slice p5 l5.length e5,.slice p6 l6.length e6,.slice p7 l7.length e7,.slice pp ps.length cp,.int .i64 x9.kind,.int .i64 x9.user,.int .i64 x9.num,str x9.text,.slice x9.p x9.kids.length x9.cap]) []).wd (fun w' ha=>⟨_,rfl,ha,hbad w' fun m1 leaf1 hm1 he1 hg1=>?_⟩);obtain ⟨k1,k2,k3⟩:=hwhole m1 leaf1 hm1 he1;have k4:metF mm.m=0:=metF_zero.2 (by rw[k2];exact hm1);simp[k1,k3,k4]at hq1 hq2 hb
     clear S;rintro _ a w hb S;have hdone:us10=[]∧metOk mm.m∧t.user=n3:=by
      first
      | exact absurd hb Bool.false_ne_true
      | exact absurd hq2 Bool.false_ne_true
      | exact ⟨by simpa using hq1,metF_zero.1 (by simpa using hq2),by simpa using hb⟩
     refine kN (xtn (kS ?_))
     refine' c_drawT0 (.q 1 (.q 2 (.l 0 (.l 3 (.l 4 (.l 5 (.e))))))) [b2,b3,b4] S ?_ ?_
     rotate_left 3
     ·intro w S
      (iterate 2 (refine tq S ?_;clear S;intro a S));refine tl (sq S ?_);clear S;intro a S;refine te S ?_;refine tl (sw S ?_);clear S;intro a w S;refine te S ?_;refine tl (sw S ?_);clear S;intro a w S;refine te S ?_;refine tl (sw S ?_);clear S;intro a w S;refine te S ?_;refine tn ?_;exact S
     intro  a w S;refine xtn (kT ?_);have hlat:=S.laterFact (M:=M) (Φ:=InF mm) (by simp);refine leaveRet S.defers (mcatch_ret _ _ _ w) (fun w' hw'=>⟨_,res3 S.slots (S.wd.step hw').held,_,rfl,(S.wd.step hw').agree,mm,t.num,0,by rw[hmm],hlat.later (hw'.mono fun _ _ h=>h.elim),hfit,hint,fun _=>⟨hdone.2.1,hT hdone.1 hdone.2.2,hg.1⟩,fun h=>absurd rfl h⟩)
   ·refine gF S ?_;clear S;intro a S;(iterate 2 (refine gF S ?_;clear S;intro a S));(iterate 2 (refine sq S ?_;clear S;intro a S))
    refine gS S (fun hq2 S=>?_) (fun hq2 S=>?_)
    ·refine gT S ?_;refine sq S ?_;clear S;intro a S;refine gT S ?_;refine sq S ?_;clear S;intro a S;refine gT S ?_;refine sq S ?_;clear S;intro a S;refine gT S ?_;refine sq S ?_;clear S;intro a S;refine gT S ?_;refine sq S ?_;clear S;intro a S;refine gT S ?_;(iterate 2 (refine sq S ?_;clear S;intro a S))
     refine srP S (mneed_c _ _) (fun ch w' hx S=>?_) ?_
     ·obtain ⟨hb,rfl⟩:=hx
      refine mread_pan b2 b3 b4 _ _ _ _ _ _ _ _ _ _ _ _ _ _ _ S.defers (by rw[S.slots];rfl) (by rw[S.slots];rfl) (by rw[S.slots];rfl) (S.sub (bxM b2 b3 b4 [str x1.text,.int .i64 n2,.int .i64 n3,.int .i64 n4,.slice p5 l5.length e5,.slice p6 l6.length e6,.slice p7 l7.length e7,.slice pp ps.length cp,.int .i64 x9.kind,.int .i64 x9.user,.int .i64 x9.num,str x9.text,.slice x9.p x9.kids.length x9.cap]) []).wd (fun w' ha=>⟨_,rfl,ha,hbad w' fun m1 leaf1 hm1 he1 hg1=>?_⟩);obtain ⟨k1,k2,k3⟩:=hwhole m1 leaf1 hm1 he1;have k4:metF mm.m=0:=metF_zero.2 (by rw[k2];exact hm1);simp[k1,k3,k4]at hq1 hq2 hb
     clear S;rintro _ a w hb S;have hdone:us10=[]∧metOk mm.m∧t.user=n3:=by
      first
      | exact absurd hb Bool.false_ne_true
      | exact absurd hq2 Bool.false_ne_true
      | exact ⟨by simpa using hq1,metF_zero.1 (by simpa using hq2),by simpa using hb⟩
     refine kN (xtn (kS ?_))
     refine' c_drawT0 (.q 1 (.q 2 (.l 0 (.l 3 (.l 4 (.l 5 (.e))))))) [b2,b3,b4] S ?_ ?_
     rotate_left 3
     ·intro w S
      (iterate 2 (refine tq S ?_;clear S;intro a S));refine tl (sq S ?_);clear S;intro a S;refine te S ?_;refine tl (sw S ?_);clear S;intro a w S;refine te S ?_;refine tl (sw S ?_);clear S;intro a w S;refine te S ?_;refine tl (sw S ?_);clear S;intro a w S;refine te S ?_;refine tn ?_;exact S
     intro  a w S;refine xtn (kT ?_);have hlat:=S.laterFact (M:=M) (Φ:=InF mm) (by simp);refine leaveRet S.defers (mcatch_ret _ _ _ w) (fun w' hw'=>⟨_,res3 S.slots (S.wd.step hw').held,_,rfl,(S.wd.step hw').agree,mm,t.num,0,by rw[hmm],hlat.later (hw'.mono fun _ _ h=>h.elim),hfit,hint,fun _=>⟨hdone.2.1,hT hdone.1 hdone.2.2,hg.1⟩,fun h=>absurd rfl h⟩)
    ·refine gF S ?_;clear S;intro a S;(iterate 5 (refine gF S ?_;clear S;intro a S));refine sq S ?_;clear S;intro a S
     refine srP S (mneed_c _ _) (fun ch w' hx S=>?_) ?_
     ·obtain ⟨hb,rfl⟩:=hx
      refine mread_pan b2 b3 b4 _ _ _ _ _ _ _ _ _ _ _ _ _ _ _ S.defers (by rw[S.slots];rfl) (by rw[S.slots];rfl) (by rw[S.slots];rfl) (S.sub (bxM b2 b3 b4 [str x1.text,.int .i64 n2,.int .i64 n3,.int .i64 n4,.slice p5 l5.length e5,.slice p6 l6.length e6,.slice p7 l7.length e7,.slice pp ps.length cp,.int .i64 x9.kind,.int .i64 x9.user,.int .i64 x9.num,str x9.text,.slice x9.p x9.kids.length x9.cap]) []).wd (fun w' ha=>⟨_,rfl,ha,hbad w' fun m1 leaf1 hm1 he1 hg1=>?_⟩);obtain ⟨k1,k2,k3⟩:=hwhole m1 leaf1 hm1 he1;have k4:metF mm.m=0:=metF_zero.2 (by rw[k2];exact hm1);simp[k1,k3,k4]at hq1 hq2 hb
     clear S;rintro _ a w hb S;have hdone:us10=[]∧metOk mm.m∧t.user=n3:=by
      first
      | exact absurd hb Bool.false_ne_true
      | exact absurd hq2 Bool.false_ne_true
      | exact ⟨by simpa using hq1,metF_zero.1 (by simpa using hq2),by simpa using hb⟩
     refine kN (xtn (kS ?_))
     refine' c_drawT0 (.q 1 (.q 2 (.l 0 (.l 3 (.l 4 (.l 5 (.e))))))) [b2,b3,b4] S ?_ ?_
     rotate_left 3
     ·intro w S
      (iterate 2 (refine tq S ?_;clear S;intro a S));refine tl (sq S ?_);clear S;intro a S;refine te S ?_;refine tl (sw S ?_);clear S;intro a w S;refine te S ?_;refine tl (sw S ?_);clear S;intro a w S;refine te S ?_;refine tl (sw S ?_);clear S;intro a w S;refine te S ?_;refine tn ?_;exact S
     intro  a w S;refine xtn (kT ?_);have hlat:=S.laterFact (M:=M) (Φ:=InF mm) (by simp);refine leaveRet S.defers (mcatch_ret _ _ _ w) (fun w' hw'=>⟨_,res3 S.slots (S.wd.step hw').held,_,rfl,(S.wd.step hw').agree,mm,t.num,0,by rw[hmm],hlat.later (hw'.mono fun _ _ h=>h.elim),hfit,hint,fun _=>⟨hdone.2.1,hT hdone.1 hdone.2.2,hg.1⟩,fun h=>absurd rfl h⟩)
theorem metaL_inj {a b:Met}(ha:metOk a)(hb:metOk b)(h:metaL a=metaL b):a=b:=by
 obtain ⟨a1,a2,a3,a4,a5,a6,a7,-⟩:=metOk_rng ha;obtain ⟨b1,b2,b3,b4,b5,b6,b7,-⟩:=metOk_rng hb;simp only[metaL,List.cons.injEq,and_true]at h;obtain ⟨-,g1,g2,g3,g4,g5,g6,g7,g8,g9⟩:=h;simp only[textT,Term.mk.injEq]at g1;have n2:=digT_inj ⟨by omega,by omega⟩ ⟨by omega,by omega⟩ g2;have n3:=digT_inj ⟨by omega,by omega⟩ ⟨by omega,by omega⟩ g3;have n4:=digT_inj ⟨by omega,by omega⟩ ⟨by omega,by omega⟩ g4;have n5:=numsT_inj a4 b4 g5;have n6:=numsT_inj a5 b5 g6;have n7:=numsT_inj a6 b6 g7;have n8:=numsT_injL a7 b7 (listT_injM g8);rw[show a=⟨a.name,a.version,a.owner,a.epoch,a.rd,a.wr,a.gr,a.past,a.boxes⟩ from rfl,show b=⟨b.name,b.version,b.owner,b.epoch,b.rd,b.wr,b.gr,b.past,b.boxes⟩ from rfl,Met.mk.injEq];exact ⟨g1.2.2.2.1,n2,n3,n4,n5,n6,n7,n8,g9⟩
theorem signT_inj {u v n k:Int}{a b:Term}(h:signT u n a=signT v k b):u=v∧n=k∧a=b:=by
 simp only[signT,Term.mk.injEq,List.cons.injEq,and_true,true_and]at h;exact h
theorem metaT_inj {a b:Met}{l k:Int}(ha:metOk a)(hb:metOk b)(h:metaT a l=metaT b k):a=b∧l=k:=by
 obtain ⟨-,h2,h3⟩:=signT_inj h;exact ⟨metaL_inj ha hb (listT_injM h3),h2⟩
theorem large15_c (N:Nat):∀ (t:LTerm) (deep left:Int) (b:Nat) (w0:World),SizeOf.sizeOf t≤N→0≤deep→deep≤81→0≤left→left≤2000→Stable (fun k=>k=b) w0 (LtF t)→w0.heap[b]? = some (.cells #[.int .i64 left] 3 (0,0))→
  Ret Tryz.prog 19 [vL t,.int .i64 deep,.pointer (some ⟨b,0,none⟩)] w0 (fun k=>k=b) fun v w'=>∃ (r:Bool) (n:Int),v=.bool r∧n≤left∧(r=false→0≤n)∧w'.heap[b]? = some (.cells #[.int .i64 n] 3 (0,0)):=by
 induction N with
 | zero=>intro t _ _ _ _ h;cases t;simp at h
 | succ N ih=>
 intro t deep left b w0 hN hd hd' hl hl' hf hb;have hlen:=LTerm.len_le hf;refine E1 Tryz.func19 rfl Tryz.ntmps19 (Wd.lent (fs:=[LtF t]) hb (by simpa using hf)) ?_;intro a S;refine kS (kR ?_);refine sa S ?_;intro b3 a w S;refine J10 ?_;intro a S;rw[w6 (left - 1)]at S;refine Y20 ?_;intro a w S;refine J8 ?_;intro a S;refine kC S (fun h2=>?_) (fun h2=>?_)
 ·refine J7 ?_;intro a S
  have hbx:=S.box b;refine fin1 S (fun _=>?_);exact ⟨true,_,rfl,by omega,nofun,hbx⟩
 ·refine kK (xtn (kS (kS ?_)))
  have h2':0≤left - 1∧deep≤80:=by
   simp only[Bool.or_eq_false_iff,decide_eq_false_iff_not]at h2;omega
  refine J8 ?_;intro a S;refine c_fore2 S (fun(k:Nat) (lf:Int) uu=>[(6,uu 6),(1,uu 8),(28,.int .i64 (k:Nat)),(0,uu 38),(0,uu 39),(0,uu 40),(0,uu 41),(0,uu 42),(0,uu 43),(0,uu 44),(0,uu 45),(0,uu 46)]) (fun(k:Nat) (lf:Int)=>[Wk.box b3 24 t.cells,Wk.box b 3 [.int .i64 lf]]) (fun(k:Nat) (lf:Int)=>[LtF t]) (fun(k:Nat) (lf:Int)=>k≤t.kids.length∧0≤lf∧lf≤left) (fun(k:Nat) (lf:Int)=>t.kids.length - k) (0) (left - 1) ?_ S.uu ?_ ?_
  ·exact ⟨Nat.zero_le _,by omega,by omega⟩
  ·first | exact S | exact S.sub _ _
  ·clear S;rintro k lf uu a w ⟨hk,hlf,hlf'⟩ S
   refine J6 ?_;intro a S;refine kC S (fun h5=>?_) (fun h5=>?_)
   ·refine kK (xtn (kS (kB (kS ?_))))
    have hkl:k < t.kids.length:=by simp at h5;omega
    have hK:KLt k t.kids.length:=⟨hkl⟩;refine J3 ?_;intro a S;refine sa S ?_;intro b8 a w S;refine Y8 ?_;intro a w S;rw[w6 (deep+1)]at S;refine J1 ?_;intro a S;have hst:Stable (fun k=>k=b) w (LtF (nthL t.kids k)):=(S.t (nthL t.kids k)).less fun j _ hj=>⟨Wk.box b 3 [.int .i64 lf],by simp,by rw[hj];rfl⟩
    refine sb S (b:=b) (ih (nthL t.kids k) (deep+1) lf b w (by have:=LTerm.kid_lt (nth_mem hkl);omega) (by omega) (by omega) hlf (by omega) hst (S.box b)) ?_;clear S;rintro v a w ⟨r,n,rfl,hn1,hn2,hcb⟩ hS;have S:=hS [.int .i64 _] _ inferInstance hcb;clear hS;refine kN (xtn ?_);refine kC S (fun h7=>?_) (fun h7=>?_)
    ·refine J11 ?_;intro a S
     have hbx:=S.box b;refine fin1 S (fun _=>?_);exact ⟨true,_,rfl,by omega,nofun,hbx⟩
    ·refine J8 ?_;intro a S
     rw[w6 ((k:Int)+1)]at S;exact ⟨k+1,n,S.uu,⟨hkl,hn2 h7,by omega⟩,S.sub _ _,by omega⟩
   ·refine J11 ?_;intro a S
    have hbx:=S.box b;refine fin1 S (fun _=>?_);exact ⟨false,_,rfl,by omega,fun _=>hlf,hbx⟩
theorem over15_c (t:LTerm)(w0:World)(hf:Fx w0 (LtF t)):Ret Tryz.prog 7 [vL t] w0 (fun _=>False) fun v _=>∃ b,v=.bool b:=by
 refine E1 Tryz.func7 rfl Tryz.ntmps7 (Wd.begin (fs:=[LtF t]) (by simpa using hf)) ?_;intro a S;refine kS (kR ?_);refine sa S ?_;intro b1 a w S;refine J5 ?_;intro a S;refine sa S ?_;intro b3 a w S;refine Y6 ?_;intro a w S;have hst:Stable (fun k=>k=b3) w (LtF t):=(S.t t).less fun j _ hj=>⟨Wk.box b3 3 [.int .i64 1500],by simp,by rw[hj];rfl⟩
 refine sb S (b:=b3) (large15_c _ t 1 1500 b3 w (Nat.le_refl _) (by omega) (by omega) (by omega) (by omega) hst (S.box b3)) ?_;clear S;rintro v a w ⟨r,n,rfl,hn1,hn2,hcb⟩ hS;have S:=hS [.int .i64 _] _ inferInstance hcb;clear hS;refine J4 ?_;intro a S;refine end1 S (fun _=>⟨r,rfl⟩)
theorem int_ok {m:LMeta}(h:metOk m.m):IntMeta m:=by
 obtain ⟨-,-,-,h4,h5,h6,h7,-⟩:=metOk_rng h;exact ⟨i64_ok h4,i64_ok h5,i64_ok h6,fun s hs=>i64_ok (h7 _ (List.mem_map.2 ⟨s,hs,rfl⟩))⟩
theorem MReadR.yes {M:Nat→Prop}{m:Met}{leaf:Int}{v:Value}{w:World}(h:MReadR M (metaT m leaf) v w)(hm:metOk m)(hg:Good (metaT m leaf)):∃ n:LMeta,v=.tuple ⟨[vMeta n,.int .i64 leaf,.int .i64 0]⟩∧Stable M w (InF n)∧FitMeta n∧n.m=m:=by
 obtain ⟨n,l,e,rfl,hs,hf,-,h1,h2⟩:=h
 by_cases he:e=0
 subst he;obtain ⟨q1,q2,-⟩:=h1 rfl;obtain ⟨q3,q4⟩:=metaT_inj hm q1 q2;exact ⟨n,by rw[q4],hs,hf,q3.symm⟩;exact absurd hg ((h2 he).2.2.2 m leaf hm rfl)
theorem MMakeR.yes {M:Nat→Prop}{m:Met}{leaf:Int}{v:Value}{w:World}(h:MMakeR M m leaf v w)(hm:metOk m)(hl:0≤leaf∧leaf≤65535)(hg:Good (metaT m leaf)):∃ t:LTerm,v=.tuple ⟨[vL t,.int .i64 0]⟩∧Stable M w (LtF t)∧t.t=metaT m leaf:=by
 obtain ⟨t,e,rfl,hs,h1,h2⟩:=h
 by_cases he:e=0
 subst he;exact ⟨t,rfl,hs,(h1 rfl).2.2.2⟩;rcases (h2 he).2 with q | q | q
 exact absurd hm q.2;exact absurd hl q.2.2;exact absurd hg q.2.2.2
abbrev wkM (r:LTerm):LMeta:=⟨[102],2,⟨1,1,zL,zL,zL⟩,⟨none,0,[]⟩,r⟩
theorem wk_ok {r:LTerm}(hr:r.t=listT [uBox (freshL 1 1).t 1])(hg:Good r.t):metOk (wkM r).m:=by
 refine ⟨rfl,nofun,[⟨1,0,sealT 1 (freshL 1 1).t⟩],⟨hg,hr,fun b hb=>?_,by simp,by simp⟩,List.Perm.refl _,rfl⟩;rw[List.mem_singleton.1 hb];exact .inl ⟨show (1:Int)≤1 by omega,show (1:Int)≤6 by omega,rfl,_,rfl⟩
theorem wk_good {r:LTerm}(hr:r.t=listT [uBox (freshL 1 1).t 1])(hg:Good r.t):Good (metaT (wkM r).m 7):=by
 have hc:cnt r.t≤20∧dpt r.t≤20:=by rw[hr];decide
 have ht:∀ s:List UInt8,s.length≤64→Good (textT s)∧cnt (textT s)≤20∧dpt (textT s)≤20:=fun s hs=>⟨good_text hs,by simp[textT,cnt,cntL],by simp[textT,dpt,dptL]⟩
 obtain ⟨h1,h2,h3⟩:=listT_good (metaL (wkM r).m) (fun x hx=>by
  simp only[metaL,List.mem_cons,List.not_mem_nil,or_false]at hx;rcases hx with rfl | rfl | rfl | rfl | rfl | rfl | rfl | rfl | rfl | rfl
  exact ht _ (show metaS.length≤64 by decide);exact ht _ (show [(102:UInt8)].length≤64 by decide);exact ht _ (show (Lib.itoa (max 2 0)).length≤64 from itoa_len (by omega));exact ht _ (show (Lib.itoa (max 1 0)).length≤64 from itoa_len (by omega));exact ht _ (show (Lib.itoa (max 1 0)).length≤64 from itoa_len (by omega));exact ht [] (by decide);exact ht [] (by decide);exact ht [] (by decide);exact ht [] (by decide);exact ⟨hg,hc⟩) (by simp[metaL])
 simp only[metaL,qqA,qqB]at h2 h3;exact good_sign ⟨show (1:Int)≤1 by omega,show (1:Int)≤6 by omega⟩ ⟨by omega,by omega⟩ h1 (by simp only[metaL];omega) (by simp only[metaL];omega)
theorem wakes15_c (w0:World)(ht:Fx w0 LibF):Ret Tryz.prog 6 [] w0 (fun _=>False) fun v _=>v=.bool true:=by
 refine E1 Tryz.func6 rfl Tryz.ntmps6 (Wd.begin (fs:=[TabF,LibF]) (by simp;exact ⟨ht.imp fun _ h=>h.1,ht⟩)) ?_;intro a S;refine Y9 ?_;intro a w S;obtain ⟨pp,hpp⟩:∃ pp:LPerm,pp=⟨1,1,zL,zL,zL⟩:=⟨_,rfl⟩;have hs:SmallT (freshL 1 1).t:=⟨good_fresh (by omega) (by omega),by decide,by decide⟩;have hi:∀ M:Nat→Prop,Stable M w (InF pp):=fun _ w' _=>by rw[hpp];exact ⟨⟨Nat.le_refl 0,Nat.zero_le _,gl_nil⟩,⟨Nat.le_refl 0,Nat.zero_le _,gl_nil⟩,⟨Nat.le_refl 0,Nat.zero_le _,gl_nil⟩⟩
 have hst:∀ M:Nat→Prop,Stable M w (LtF (freshL 1 1)):=fun _ w' _=>by simp[freshL,LtIn,LsIn,LtF]
 have hmk:=make_c pp (freshL 1 1) [] none 0 _ w (foots_lt S) (hi _) (hst _) (fun _ _=>gl_nil) (by simp) hs nofun (by rw[hpp];nofun)
 have hpv:vPerm pp=.agg ⟨[.int .i64 1,.int .i64 1,.slice none 0 0,.slice none 0 0,.slice none 0 0]⟩:=by rw[hpp];rfl
 rw[hpv]at hmk;refine sr S hmk ?_;clear S hi hst hmk;rintro _ a w hmR S;rcases hmR with ⟨h,-⟩ | ⟨-,us,r,hper,hur,rfl,hr,hrg,hrf⟩
 rw[hpp]at h;cases h;replace S:=S.add hrf;rw[hpp]at hper hr;obtain rfl:us=[1]:=List.perm_singleton.1 hper;replace hr:r.t=listT [uBox (freshL 1 1).t 1]:=hr;have hok:=wk_ok hr hrg;have hgd:=wk_good hr hrg;refine J3 ?_;intro a S;refine sa S ?_;intro b1 a w S;refine Y9 ?_;intro a w S;refine sr S (mmake_c (wkM r) 7 ⟨by simp,by simp,by simp,by simp,by simp,nofun⟩ int_ok _ w (foots_lt S) (S.mem.fact TabF) ((S.t r).imp fun _ h=>⟨⟨⟨Nat.le_refl 0,Nat.zero_le _,gl_nil⟩,⟨Nat.le_refl 0,Nat.zero_le _,gl_nil⟩,⟨Nat.le_refl 0,Nat.zero_le _,gl_nil⟩⟩,⟨Nat.le_refl 0,Nat.zero_le _,gl_nil⟩,h⟩)) ?_;rintro _ a w hmR S;obtain ⟨t,rfl,htf,htt⟩:=hmR.yes hok (by omega) hgd;replace S:=S.add htf;refine J3 ?_;intro a S;refine sa S ?_;intro b3 a w S;refine Y7 ?_;intro a w S;refine sr S (mread_c t _ w (foots_lt S) (S.mem.fact LibF) (S.t t)) ?_;rintro _ a w hR S;rw[htt]at hR;obtain ⟨n,rfl,hnf,hnfit,hnm⟩:=hR.yes hok hgd;replace S:=S.add hnf;have q1:n.name=[102]:=congrArg Met.name hnm;have q2:n.version=2:=congrArg Met.version hnm;have q3:t.user=1:=by
  have:=htt;rw[t.t_eq,metaT,signT,Term.mk.injEq]at this;exact this.2.1
 refine J4 ?_;intro a S;refine sa S ?_;intro b5 a w S;refine Y20 ?_;intro a w S;refine J20 ?_;intro a S;refine end1 S (fun _=>?_);simp[q1,q2,q3]
end Go.Proofs.YtibkkbknnfehlaaGreatDoor
namespace Go.Wk
open Go
section
variable {P:Program}{r:Option Nat}{ops:Array Oper}{Q:Exit→Act→World→Prop}{w0:World}{M0:Nat→Prop}{ds:List Deferred}{a:Act}{w:World}{l:List Value}{bs:List Item}{fs:List (World→Prop)}
 {d:Option Nat} {ty:TypeId} {pos:String} {af:Array Edge} {rest:List Oper} {G:Value} {f:Nat} {x:Operand} {xs:List Operand} {args:List Value} {ts:Array TypeId} {j g:Nat} {pol:Bool} {cs:List Bool}
theorem gcr {c:Bool}{l':Value→List Value}[hg:GSlot ops j g][hn:Nth l g G][hc:Conds G pol [c]][EntF P f][he:CallTo ⟨[c],l⟩ x xs f args][hp:∀ v,PutO l d (gif c v) (l' v)](S:St w0 M0 ds a w l bs fs)(v0:Value){R:Value→World→Prop}
  (hq:c=true→Ret P f args w (fun _=>False) R)
  (K:∀ v a w',(c=true→R v w')→(c=false→v=v0)→St w0 M0 ds a w' (l' v) bs fs→WL P r ops Q rest a w'):WL P r ops Q (⟨d,.call { callee:=.value x,args:=xs.toArray,argTypes:=ts },ty,pos,af,some (j,pol)⟩::rest) a w:=by
 have hw:=wanted_iff (ops:=ops) (d:=d) (op:=.call { callee:=.value x,args:=xs.toArray,argTypes:=ts }) (ty:=ty) (pos:=pos) (af:=af) (pol:=pol) S hg.eq;refine wl_guard (fun ht=>?_) (fun hf=>?_);have hall:=hw.1 ht;have hct:c=true:=hall c (by simp);have:CallTo ⟨[],l⟩ x xs f args:=⟨by
  obtain ⟨fi,ca,vs,h0,h1,h2⟩:=he.ex;exact ⟨fi,ca,vs,⟨fun _ ds=>h0.eq hall ds⟩,⟨fun _ ds=>h1.eq hall ds⟩,h2⟩⟩
 refine cv_any S (hq hct) ?_;rintro e w' ⟨v,rfl,ha,hR⟩;have:=hp v;have S':=S.put (d:=d) (v:=gif c v);have e1:gif c v=v:=by rw[hct];rfl
 rw[e1]at S';exact ⟨v,rfl,K v _ w' (fun _=>hR) (fun h=>by rw[hct]at h;cases h) ⟨S'.slots,S'.defers,S'.wd.step ha⟩⟩;have hcf:c=false:=by
  cases q:c with
  | false=>rfl
  | true=>rw[hw.2 (by simp[q])]at hf;cases hf
 have:=hp v0;have S':=S.put (d:=d) (v:=gif c v0);have e:gif c v0=undef:=by rw[hcf];rfl
 rw[e]at S';exact K v0 _ _ (fun h=>by rw[hcf]at h;cases h) (fun _=>rfl) S'
end
end Go.Wk
namespace Go.Proofs.YtibkkbknnfehlaaGreatDoor
open Go Go.Wk
set_option synthInstance.maxSize 100000
set_option synthInstance.maxHeartbeats 400000
set_option maxRecDepth 100000
set_option maxHeartbeats 4000000 in
theorem rterm15_c (m:LMeta)(leaf:Int)(hfit:FitMeta m)(hok:metOk m.m)(M:Nat→Prop)(w0:World)(hM:∀ k,M k→k < w0.heap.size)(hf:Stable M w0 (InF m)) :
  Ret Tryz.prog 34 [vMeta m,.int .i64 leaf] w0 (fun _=>False) fun v w'=>IsT M w' v (metaT m.m leaf):=by
 have hpl:=hfit.past;obtain ⟨⟨hv1,hv2⟩,⟨hv3,hv4⟩,⟨hv5,hv6⟩,hrd,hwr,hgr,hpt,-⟩:=metOk_rng hok;have i63:∀ {l:List Int},okI l→∀ x∈l,x≤9223372036854775807:=fun h x hx=>by have:=h x hx;omega
 refine E1 Tryz.func34 rfl Tryz.ntmps34 (Wd.beginM (M:=M) (fs:=[InF m]) hM (by simpa using hf)) ?_;intro a S;refine kS (kR ?_);refine sa S ?_;intro b2 a w S;refine sa S ?_;intro b4 a w S;refine J14 ?_;intro a S;refine c_fore4 S (fun(k:Nat) (os:List LTerm) (q:Option Addr) (e:Nat) uu=>[(5,.slice q os.length e),(0,.int .i64 (k:Nat)),(2,uu 9),(0,uu 10),(0,uu 11),(0,uu 12),(0,uu 13),(0,uu 14),(0,uu 15),(0,uu 16),(0,uu 17),(0,uu 18),(0,uu 19),(0,uu 20),(0,uu 21),(0,uu 22),(0,uu 23),(0,uu 24)]) (fun(k:Nat) (os:List LTerm) (q:Option Addr) (e:Nat)=>[Wk.row 24 5 q os.length e (encL os),Wk.box b4 24 zT,Wk.box b2 32 (cMeta m),ext M]) (fun(k:Nat) (os:List LTerm) (q:Option Addr) (e:Nat)=>[AllI os,InF m]) (fun(k:Nat) (os:List LTerm) (q:Option Addr) (e:Nat)=>k≤m.past.xs.length∧os.length=k∧os.map LTerm.t=(m.past.xs.take k).map fun s=>numsT s.xs) (fun(k:Nat) (os:List LTerm) (q:Option Addr) (e:Nat)=>m.past.xs.length - k) (0) ([]) (none) (0) ?_ S.uu ?_ ?_;exact ⟨Nat.zero_le _,rfl,rfl⟩;replace S:=S.addNil 24 5;rw[show Wk.row 24 5 none 0 0 []=Wk.row 24 5 none 0 0 (encL ([]:List LTerm)) from rfl]at S;replace S:=S.add (Φ:=AllI (α:=LTerm) []) AllI.nil;exact S.sub _ _;clear S;rintro k os q e uu a w ⟨hk,hol,hos⟩ S;refine J10 ?_;intro a S;refine kC S (fun h3=>?_) (fun h3=>?_);refine kK (xtn (kS (kB ?_)));have hkl:k < m.past.xs.length:=by have:=of_decide_eq_true h3;omega
 have hK:KLt k m.past.xs.length:=⟨hkl⟩;have hsl:=hfit.pasts _ (nthG_mem hkl);refine J7 ?_;intro a S;have hss:Stable (foots _) _ (InF (nthG m.past.xs k)):=(S.wd.facts (InF m) (by simp)).imp fun _ h=>h.2.1.2.2.2 _ (nthG_mem hkl)
 refine sr S (rnums_c (nthG m.past.xs k).xs (nthG m.past.xs k).p (nthG m.past.xs k).cap _ w (by omega) (i63 (hpt _ (List.mem_map.2 ⟨_,nthG_mem hkl,rfl⟩))) (foots_lt S) (hss.imp fun _ h=>h.2.2)) ?_;clear S hss;rintro _ a w ⟨z,rfl,hz,hzf⟩ S;replace S:=S.add hzf;refine sn S ?_;intro b23 a w S;have e1:encL os++z.cells=encL (os++[z]):=by rw[encL_append,encT_cells]
 refine sap S (by simp[maxLen];omega) (by omega) ?_;rintro p5 c5 a w - S;rw[show encL os++[Value.int .i64 z.kind,Value.int .i64 z.user,Value.int .i64 z.num,str z.text,Value.slice z.p z.kids.length z.cap]=encL (os++[z]) from e1,show os.length+1=(os++[z]).length from by simp]at S;replace S:=S.add (Φ:=AllI (os++[z])) (AllI.snoc (S.wd.facts (AllI os) (by simp)) (S.t z));refine J10 ?_;intro a S;rw[w6 ((k:Int)+1)]at S;refine ⟨k+1,os++[z],p5,c5,S.uu,⟨hkl,by simp;omega,?_⟩,S.sub _ _,by omega⟩;rw[nthG_take hkl,List.map_append,List.map_append,hos,List.map_singleton,List.map_singleton,hz];refine kE (xte (xte (xbe (xtn (kS ?_)))));have hke:k=m.past.xs.length:=by have:=of_decide_eq_false h3;omega
 subst hke;rw[List.take_length]at hos;replace S:=S.rowToGl q os (e:=24) (sz:=5) (n:=os.length) (c:=e) (S.wd.facts (AllI os) (by simp));have hrl:=hfit.rd;have hwl:=hfit.wr;have hgl:=hfit.gr;replace S:=((((S.add (Φ:=LtF (textL metaS)) (fun _ _=>by simp[LtIn,textL,LsIn,LtF])).add (Φ:=LtF (textL m.name)) (fun _ _=>by simp[LtIn,textL,LsIn,LtF])).add (Φ:=LtF (textL (Lib.itoa (max m.version 0)))) (fun _ _=>by simp[LtIn,textL,LsIn,LtF])).add (Φ:=LtF (textL (Lib.itoa (max m.perm.owner 0)))) (fun _ _=>by simp[LtIn,textL,LsIn,LtF])).add (Φ:=LtF (textL (Lib.itoa (max m.perm.epoch 0)))) (fun _ _=>by simp[LtIn,textL,LsIn,LtF]);refine J3 ?_;intro a S;refine sa S ?_;intro b7 a w S;refine Y4 ?_;intro a w S;refine c_drawD [T9 1,T9 2,T9 4,T9 5,T9 7,T9 8,T9 10,T9 11,T9 13,T9 14,T9 16,T9 17,T9 19,T9 20,T9 22,T9 24,T9 25,F9 0,F9 3,F9 6,F9 9,F9 12,F9 15,F9 18,F9 21,F9 23,F9 26,T9 27] [] S ?_;intro w S;(iterate 17 (refine dq S ?_;intro a S));refine dl (sc S ?_);intro a w S;refine de S ?_;refine dl (sc S ?_);intro a w S;refine de S ?_;refine dl ?_;refine sr S (rnum15_c m.version _ (by show m.m.version≤_;omega)) ?_;rintro _ a w rfl S;refine de S ?_;refine dl ?_;refine sr S (rnum15_c m.perm.owner _ (by show m.m.owner≤_;omega)) ?_;rintro _ a w rfl S;refine de S ?_;refine dl ?_;refine sr S (rnum15_c m.perm.epoch _ (by show m.m.epoch≤_;omega)) ?_;rintro _ a w rfl S;refine de S ?_;refine dl ?_
 have hss:Stable (foots _) _ (InF m.perm):=(S.wd.facts (InF m) (by simp)).imp fun _ h=>h.1
 refine sr S (rnums_c m.perm.rd.xs m.perm.rd.p m.perm.rd.cap _ w (by omega) (i63 hrd) (foots_lt S) (hss.imp fun _ h=>h.1.2.2)) ?_;clear S hss;rintro _ a w ⟨z1,rfl,hz1,hz1f⟩ S;replace S:=S.add hz1f;refine de S ?_;refine dl ?_;have hss:Stable (foots _) _ (InF m.perm):=(S.wd.facts (InF m) (by simp)).imp fun _ h=>h.1
 refine sr S (rnums_c m.perm.wr.xs m.perm.wr.p m.perm.wr.cap _ w (by omega) (i63 hwr) (foots_lt S) (hss.imp fun _ h=>h.2.1.2.2)) ?_;clear S hss;rintro _ a w ⟨z2,rfl,hz2,hz2f⟩ S;replace S:=S.add hz2f;refine de S ?_;refine dl ?_;have hss:Stable (foots _) _ (InF m.perm):=(S.wd.facts (InF m) (by simp)).imp fun _ h=>h.1
 refine sr S (rnums_c m.perm.gr.xs m.perm.gr.p m.perm.gr.cap _ w (by omega) (i63 hgr) (foots_lt S) (hss.imp fun _ h=>h.2.2.2.2)) ?_;clear S hss;rintro _ a w ⟨z3,rfl,hz3,hz3f⟩ S;replace S:=S.add hz3f;refine de S ?_;refine dl ?_;refine sr S (rlist_c os q e _ w (by omega) (foots_lt S) ((S.wd.facts (GlF q os) (by simp)).imp fun _=>gl_ls)) ?_;rintro _ a w ⟨z4,rfl,hz4,hz4f⟩ S;replace S:=S.add hz4f;refine de S ?_;refine dl (sn S ?_);intro b53 a w S;refine de S ?_;refine dq S ?_;intro a S;refine dn (xtn (kS ?_));replace S:=S.frontLs b53 [textL metaS,textL m.name,textL (Lib.itoa (max m.version 0)),textL (Lib.itoa (max m.perm.owner 0)),textL (Lib.itoa (max m.perm.epoch 0)),z1,z2,z3,z4,m.boxes] rfl (fun t ht=>by simp only[List.mem_cons,List.not_mem_nil,or_false]at ht;rcases ht with rfl | rfl | rfl | rfl | rfl | rfl | rfl | rfl | rfl | rfl <;> exact S.t _);refine c_drawD [T9 0,T9 1,T9 2,T9 3,F9 4,F9 5,T9 6,F9 7] [b4] S ?_;intro w S;(iterate 4 (refine dq S ?_;intro a S));refine dl ?_;refine sr S (rlist_c [textL metaS,textL m.name,textL (Lib.itoa (max m.version 0)),textL (Lib.itoa (max m.perm.owner 0)),textL (Lib.itoa (max m.perm.epoch 0)),z1,z2,z3,z4,m.boxes] (some ⟨b53,0,none⟩) 10 _ w (by simp) (foots_lt S) (S.mem.fact (LsF (some ⟨b53,0,none⟩) 0 [textL metaS,textL m.name,textL (Lib.itoa (max m.version 0)),textL (Lib.itoa (max m.perm.owner 0)),textL (Lib.itoa (max m.perm.epoch 0)),z1,z2,z3,z4,m.boxes]))) ?_;rintro _ a w ⟨z5,rfl,hz5,hz5f⟩ S;replace S:=S.add hz5f
 refine de S ?_;refine dl (sn S ?_);intro b59 a w S;refine de S ?_;refine dq S ?_;intro a S;refine dl (sw S ?_);intro a w S;refine de S ?_;refine dn (xtn (kT ?_));refine end1 S (fun _=>?_);refine ⟨.mk 8 m.perm.owner leaf [] (some ⟨b59,0,none⟩) 1 [z5],rfl,?_,fun w' hw'=>?_⟩;have e1:os.map LTerm.t=(m.past.xs.map Sl.xs).map numsT:=by rw[hos,List.map_map];rfl
 rw[LTerm.t_eq]
 show signT m.perm.owner leaf z5.t=_
 rw[hz5,metaT,metaL];simp only[List.map_cons,List.map_nil,hz1,hz2,hz3,hz4,e1];rfl;have h1:=S.laterFact (Φ:=LtF z5) (by simp) w' hw';exact ⟨by simp,by simp[maxLen],LsIn.of_block [z5] (S.laterBox hw' b59) (fun y hy=>by obtain rfl:=List.mem_singleton.1 hy;exact h1)⟩
end Go.Proofs.YtibkkbknnfehlaaGreatDoor