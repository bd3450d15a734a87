/- 12: a part of this claim's texts, joined: RefMemC RefMemD RefMemE LawMemD MemDa MemDb RowMemA RowMemC W15 MemDc MemDd. -/
import Derived.Test.YtdakncgafdnjfaaGreatPm11
namespace Go.Proofs.YtdakncgafdnjfaaGreat
open Go.Proofs.Tryz
open Go Go.Wk
set_option synthInstance.maxSize 100000
set_option synthInstance.maxHeartbeats 400000
set_option maxRecDepth 100000
theorem zZ (n:Int)(w:World):aT prog 106 [.int .i64 n] w (fun _=>False) fun v _=>v=.bool (iK n):=by
 refine E1 func106 rfl ntmps106 (Wd.start w) ?_;intro a S;refine D8 ?_;intro a S;exact aD S (fun _=>rfl)
instance {n:Int}{bs fs} : cB prog 106 [.int .i64 n] bs fs (.bool (iK n)):=⟨fun w _=>zZ n w⟩
theorem rM (n:Int)(w0:World):aT prog 134 [.int .i64 n] w0 (fun _=>False) fun v w'=>
  ∃ (p':Option Addr) (c':Nat),v=.slice p' 2 c'∧w'.ownsRow 0 5 1 (.slice p' 2 c') 2 (aa (fS n))∧∀ ad,p'=some ad→w0.heap.size≤ad.block:=by
 obtain ⟨x7,RU,Qf,Qg⟩:=Bz n;refine E1 func134 rfl ntmps134 (Wd.start w0) ?_;intro a S;refine J9 ?_;intro a S;rw[RU]at S;refine jU S (yZ x7 2 _ Qf (by decide)) ?_;rintro _ a w ⟨p7,c7,rfl,hown,hnew⟩ hS -;have S:=hS hown hnew;clear hS;rw[Qg,bI]at S;refine J4 ?_;intro a S;have hrow:=S.row p7 2;have hnew:=S.cQ p7 2;exact aD S (fun _=>⟨p7,c7,rfl,hrow,fun ad h=>(hnew ad h).elim (fun h=>h.elim) id⟩)
theorem sL (s:List UInt8)(n:Nat)(hl:s.length≤100000000)(hn:n≤8)(w0:World):aT prog 135 [str s,.int .i64 (n:Int)] w0 (fun _=>False) fun v w'=>
  ∃ (p':Option Addr) (c':Nat),v=.slice p' (be n (s.length:Int)++s).length c'∧w'.ownsRow 0 5 1 (.slice p' (be n (s.length:Int)++s).length c') (be n (s.length:Int)++s).length (aa (be n (s.length:Int)++s))∧∀ ad,p'=some ad→w0.heap.size≤ad.block:=by
 refine E1 func135 rfl ntmps135 (Wd.start w0) ?_;intro a S;refine mJ ?_;intro a S;rw[show IntKind.u64.wrap (s.length:Int)=(s.length:Int) from by unfold IntKind.wrap;simp only[IntKind.bits,IntKind.signed,Bool.false_and];simp;omega]at S;refine J1 ?_;intro a S;refine jU S (yZ s.length n _ (by omega) (by omega)) ?_;rintro _ a w ⟨p7,c7,rfl,hown,hnew⟩ hS -;have S:=hS hown hnew;clear hS;rw[PJ,bI]at S;refine J1 ?_;intro a S;refine gA S (by simp[maxLen];omega) (by omega) ?_;rintro p1 c1 a w - S;rw[←aC,show n+s.length=(be n (s.length:Int)++s).length from by rw[List.length_append,bI]]at S;refine J4 ?_;intro a S;have hrow:=S.row p1 (be n (s.length:Int)++s).length;have hnew:=S.cQ p1 (be n (s.length:Int)++s).length;exact aD S (fun _=>⟨p1,c1,rfl,hrow,fun ad h=>(hnew ad h).elim (fun h=>h.elim) id⟩)
def wA (l:List aH):Nat→List UInt8
 | 0=>[]
 | j+1=>(aq l j).key
theorem DY (u:Int)(l:List aH)(k:Nat)(hk:k < l.length):iL u (wA l k) (l.drop k)=(kJ u (aq l k).key&&Op.bytesLess (wA l k) (aq l k).key&&decide (0 < (aq l k).dS)&&iK (aq l k).dS&&iL u (wA l (k+1)) (l.drop (k+1))):=by
 rw[bE hk];rfl
theorem G5 {u:Int}(hu:bX u=true)(s:List UInt8):kJ u s=decide (iT s=u):=by rw[kJ,hu,Bool.true_and]
theorem DZ (m:aW)(hfit:dY m)(w0:World)(hm:Fx w0 (aE m)):aT prog 35 [fJ m] w0 (fun _=>False) fun v _=>v=.bool (b_ m.m):=by
 have nw:=hfit.ah;have rU:=hfit.aA;have LY:=hfit.seen;have e0:b_ m.m=(nT m.m&&iL m.user [] m.ah&&EA m.aA&&eH 0 (cU m.seen)):=rfl;have eh:nT m.m=(decide (1≤m.user)&&decide (m.user≤6)&&(iK m.leaf&&(iK m.counter&&iK m.num))&&decide ((m.ah.length:Int)≤6)):=rfl;have K8:eS m.aA.length 1000000:=⟨by omega⟩;have Hs:eS m.seen.length 1000000:=⟨by omega⟩;refine E1 func35 rfl ntmps35 (Wd.begin (fs:=[av m.sp m.ah,av m.vp m.aA,av m.ep m.seen]) (by simp;exact ⟨hm.imp fun _ h=>h.1,hm.imp fun _ h=>h.2.1,hm.imp fun _ h=>h.2.2⟩)) ?_;intro a S;refine kS (kR ?_);refine sa S ?_;intro b1 a w S;refine sP ?_;intro a w S;refine sP ?_;intro a w S;refine kC S (fun h1=>?_) (fun h1=>?_);refine J7 ?_;intro a S;refine aD S (fun _=>?_);have:nT m.m=false:=by
  rw[eh];simp only[Bool.or_eq_true,Bool.not_eq_true',decide_eq_true_eq]at h1;simp only[Bool.and_eq_false_iff,decide_eq_false_iff_not];rcases h1 with ((((h | h) | h) | h) | h) | h
  exact .inl (.inl (.inl (by omega)));exact .inl (.inl (.inr (by omega)));exact .inl (.inr (.inl h));exact .inl (.inr (.inr (.inl h)));exact .inl (.inr (.inr (.inr h)));exact .inr (by omega)
 rw[e0,this];rfl;refine kK (aQ (kS (kS ?_)));simp only[Bool.or_eq_false_iff,Bool.not_eq_false',decide_eq_false_iff_not]at h1;have hu:1≤m.user∧m.user≤6:=⟨by have:=h1.1.1.1.1.1;omega,by have:=h1.1.1.1.1.2;omega⟩;have hhd:nT m.m=true:=by
  rw[eh];simp only[Bool.and_eq_true,decide_eq_true_eq];exact ⟨⟨hu,h1.1.1.1.2,h1.1.1.2,h1.1.2⟩,by have:=h1.2;omega⟩
 have hku:bX m.user=true:=by simp only[bX,Bool.and_eq_true,decide_eq_true_eq];exact hu
 refine J8 ?_;intro a S;refine fD S (fun(k:Nat) uu=>[(2,uu 2),(0,uu 3),(0,uu 4),(35,.int .i64 (k:Nat)),(0,uu 41),(0,uu 42),(0,uu 43),(0,uu 44),(0,uu 45),(0,uu 46),(0,uu 47),(0,uu 48),(0,uu 49),(0,uu 50),(0,uu 51),(0,uu 52),(0,uu 53),(0,uu 54),(0,uu 55),(0,uu 56),(0,uu 57),(0,uu 58),(0,uu 59),(0,uu 60),(0,uu 61),(0,uu 62),(0,uu 63),(0,uu 64),(0,uu 65),(0,uu 66),(0,uu 67),(0,uu 68),(0,uu 69),(0,uu 70),(0,uu 71),(0,uu 72),(0,uu 73),(0,uu 74),(0,uu 75),(0,uu 76),(0,uu 77)]) (fun(k:Nat)=>[Wk.box b1 67 (cN m)]) (fun(k:Nat)=>[av m.sp m.ah,av m.vp m.aA,av m.ep m.seen]) (fun(k:Nat)=>k≤m.ah.length∧iL m.user (wA m.ah k) (m.ah.drop k)=iL m.user [] m.ah) (fun(k:Nat)=>m.ah.length - k) (0) ?_ S.uu ?_ ?_;exact ⟨Nat.zero_le _,rfl⟩
 first | exact S | exact S.sub _ _
 clear S;rintro k uu a w ⟨hk,aI⟩ S;refine J6 ?_;intro a S;refine kC S (fun h4=>?_) (fun h4=>?_);refine kK (aQ (kS (kB (kS ?_))));have bn:k < m.ah.length:=by have:=of_decide_eq_true h4;omega
 have hK:cx k m.ah.length:=⟨bn⟩;have hN:eS (aq m.ah k).key.length 1000000:=⟨by have:=hfit.names _ (bh bn);omega⟩;rw[DY m.user m.ah k bn,G5 hku]at aI;have hC:K7 [!(!decide (iT (aq m.ah k).key=m.user)||decide ((aq m.ah k).dS < 1)||decide (65535 < (aq m.ah k).dS)),decide (0 < (k:Int))] (k - 1) m.ah.length:=⟨fun _=>by omega⟩;have nC:decide (iT (aq m.ah k).key=m.user)=true→Op.bytesLess (wA m.ah k) (aq m.ah k).key=(!(decide (0 < (k:Int))&&!Op.bytesLess (aq m.ah (k - 1)).key (aq m.ah k).key)):=fun hn=>by
  cases k with
  | zero=>
   have hne:(aq m.ah 0).key≠[]:=fun h=>by
    have h3:=(uN (s:=(aq m.ah 0).key) (by have:=of_decide_eq_true hn;omega)).1;rw[h]at h3;simp at h3
   rw[show wA m.ah 0=[] from rfl,JW hne];rfl
  | succ j=>
   rw[show wA m.ah (j+1)=(aq m.ah j).key from rfl,show j+1 - 1=j from by omega,decide_eq_true (by omega:(0:Int) < ((j+1:Nat):Int))];simp
 refine J4 ?_;intro a S;refine sa S ?_;intro b4 a w S;refine Y5 ?_;intro a w S;refine bM [T9 0,T9 1,T9 3,T9 4,F9 2,T9 5,T9 6,T9 7,T9 8,T9 9,T9 10,T9 11,T9 12,T9 13,T9 14,T9 15,T9 16,T9 17,T9 18,T9 19,T9 20,T9 21,T9 22,T9 23,T9 24,T9 25,T9 26,T9 27,T9 28,T9 29,T9 30,T9 31] [] S ?_;intro w S;(iterate 4 (refine dq S ?_;intro a S));refine dl (sc S ?_);intro a w S;refine de S ?_;(iterate 2 (refine dq S ?_;intro a S));(iterate 3 (refine iX S ?_;intro a S));(iterate 2 (refine dq S ?_;intro a S));(iterate 3 (refine iX S ?_;intro a S));(iterate 2 (refine dq S ?_;intro a S));(iterate 7 (refine iX S ?_;intro a S));rw[vT (by simp;omega) (by omega)]at S;(iterate 7 (refine iX S ?_;intro a S));refine dq S ?_;intro a S;refine dn (aQ ?_);refine kC S (fun h6=>?_) (fun h6=>?_);refine gM ?_;intro a S;refine aD S (fun _=>?_);have:iL m.user [] m.ah=false:=by
  rw[←aI];cases h1:decide (iT (aq m.ah k).key=m.user) with
  | false=>simp
  | true=>
   rw[nC h1];rw[h1]at h6
   by_cases h2:(aq m.ah k).dS < 1
   rw[decide_eq_false (show ¬0 < (aq m.ah k).dS by omega)];simp
   by_cases h3:65535 < (aq m.ah k).dS
   rw[show iK (aq m.ah k).dS=false from by rw[iK,decide_eq_false (show ¬(aq m.ah k).dS≤65535 by omega),Bool.and_false]];simp;rw[decide_eq_false h2,decide_eq_false h3]at h6;simp only[Bool.not_true,Bool.false_or]at h6;rw[h6];rfl
 rw[e0,this,Bool.and_false];rfl;refine J8 ?_;intro a S;rw[w6 ((k:Int)+1)]at S;refine ⟨k+1,S.uu,⟨bn,?_⟩,S.sub _ _,by omega⟩;simp only[Bool.or_eq_false_iff,Bool.not_eq_false']at h6;have h2:=of_decide_eq_false h6.1.1.2;have h3:=of_decide_eq_false h6.1.2;rw[←aI,nC h6.1.1.1,h6.1.1.1,h6.2,decide_eq_true (show 0 < (aq m.ah k).dS by omega),show iK (aq m.ah k).dS=true from by rw[iK,decide_eq_true (show 0≤(aq m.ah k).dS by omega),decide_eq_true (show (aq m.ah k).dS≤65535 by omega)];rfl];rfl;refine Rs ?_;intro a w S;rw[List.drop_of_length_le (by have:=of_decide_eq_false h4;omega),iL]at aI;refine aD S (fun _=>?_);rw[e0,hhd,←aI,Bool.true_and];rfl
instance {m:aW}{bs fs}[hf:dV m][h:gu fs (aE m)]:cB prog 35 [fJ m] bs fs (.bool (b_ m.m)):=⟨fun w mm=>DZ m hf.fit w ((mm.facts _ h.mem).less fun _ _ h=>h.elim)⟩
theorem D0 (x:aH)(l:List aH):(l.any fun y=>decide (y=x))=decide (x∈l):=by
 rw[Bool.eq_iff_iff,List.any_eq_true,decide_eq_true_eq];constructor;rintro ⟨y,hy,h⟩;rw[←of_decide_eq_true h];exact hy;intro h;exact ⟨x,h,decide_eq_true rfl⟩
theorem D1 (old now:List aH)(p q:Option Addr)(c e:Nat)(w0:World)(hl:old.length≤1000000)(rU:now.length≤1000000)(hx:Fx w0 (av p old))(hy:Fx w0 (av q now)) :
  aT prog 125 [.slice p old.length c,.slice q now.length e] w0 (fun _=>False) fun v _=>v=.bool (old.all fun s=>decide (s∈now)):=by
 refine E1 func125 rfl ntmps125 (Wd.begin (fs:=[av p old,av q now]) (by simp;exact ⟨hx,hy⟩)) ?_;intro a S;refine ug ?_;intro a S;refine fD S (fun(k:Nat) uu=>[(4,uu 4),(1,uu 6),(0,uu 7),(1,uu 9),(2,.int .i64 (k:Nat)),(0,uu 13),(0,uu 14),(0,uu 15),(0,uu 16),(0,uu 17),(0,uu 18),(0,uu 19),(0,uu 20),(0,uu 21),(0,uu 22),(0,uu 23),(0,uu 24),(0,uu 25),(0,uu 26),(0,uu 27),(0,uu 28),(0,uu 29),(0,uu 30),(0,uu 31)]) (fun(k:Nat)=>[]) (fun(k:Nat)=>[av p old,av q now]) (fun(k:Nat)=>k≤old.length∧((old.take k).all fun s=>decide (s∈now))=true) (fun(k:Nat)=>old.length - k) (0) ?_ S.uu ?_ ?_;exact ⟨Nat.zero_le _,rfl⟩
 first | exact S | exact S.sub _ _
 clear S;rintro k uu a w ⟨hk,aI⟩ S;refine J6 ?_;intro a S;refine kC S (fun h2=>?_) (fun h2=>?_);refine kK (aQ (kS (kB (kS ?_))));have bn:k < old.length:=by have:=of_decide_eq_true h2;omega
 have hK:cx k old.length:=⟨bn⟩;refine J3 ?_;intro a S;refine sa S ?_;intro b6 a w S;refine CD ?_;intro a w S;refine iI S (fun(j:Nat) (ok:Bool) uu=>[(7,.bool ok),(1,uu 9),(8,.int .i64 (j:Nat)),(0,uu 19),(0,uu 20),(0,uu 21),(0,uu 22),(0,uu 23),(0,uu 24),(0,uu 25),(0,uu 26),(0,uu 27),(0,uu 28)]) (fun(j:Nat) (ok:Bool)=>[Wk.box b6 175 [str (aq old k).key,.int .i64 (aq old k).dS]]) (fun(j:Nat) (ok:Bool)=>[av p old,av q now]) (fun(j:Nat) (ok:Bool)=>j≤now.length∧ok=(now.take j).any (fun y=>decide (y=aq old k))) (fun(j:Nat) (ok:Bool)=>now.length - j) (0) (false) ?_ S.uu ?_ ?_;exact ⟨Nat.zero_le _,rfl⟩
 first | exact S | exact S.sub _ _
 clear S;rintro j ok uu a w ⟨hj,hok⟩ S;refine J6 ?_;intro a S;refine kC S (fun h6=>?_) (fun h6=>?_);refine kK (aQ (kS (kB (kS ?_))));have hjl:j < now.length:=by have:=of_decide_eq_true h6;omega
 have hK:cx j now.length:=⟨hjl⟩;refine J3 ?_;intro a S;refine sa S ?_;intro b9 a w S;refine Rs ?_;intro a w S;rw[w6 ((j:Int)+1),show (j:Int)+1=((j+1:Nat):Int) from rfl]at S;refine ⟨j+1,_,S.uu,⟨hjl,?_⟩,S.sub _ _,by omega⟩;rw[wz _ _ _ hjl,←hok];refine kE (fT (fT (mM (aQ (kS ?_)))));have Td:j=now.length:=by have:=of_decide_eq_false h6;omega
 rw[List.take_of_length_le (by omega),D0]at hok;refine J5 ?_;intro a S;refine kC S (fun gi=>?_) (fun gi=>?_);refine gM ?_;intro a S;refine aD S (fun _=>?_);have:(old.all fun s=>decide (s∈now))=false:=List.all_eq_false.2 ⟨aq old k,bh bn,by rw[←hok];simpa using gi⟩;rw[this];refine J8 ?_;intro a S;rw[w6 ((k:Int)+1)]at S;refine ⟨k+1,S.uu,⟨bn,?_⟩,S.sub _ _,by omega⟩;rw[eC bn,List.all_append,aI];simp only[List.all_cons,List.all_nil,Bool.and_true,Bool.true_and];rw[←hok];simpa using gi;refine gM ?_;intro a S;refine aD S (fun _=>?_);rw[List.take_of_length_le (by have:=of_decide_eq_false h2;omega)]at aI;rw[aI]
instance {l l2:List aH}{p q:Option Addr}{n c n2 c2:Nat}{bs fs}[hg:lI fs p aH oJ l][hn:eu l n][hk:eS n 1000000][Ct:lI fs q aH oJ l2][hn2:eu l2 n2][hk2:eS n2 1000000]:cB prog 125 [.slice p n c,.slice q n2 c2] bs fs (.bool (l.all fun s=>decide (s∈l2))):=⟨fun w m=>by
 have h1:=hn.eq;have h2:=hn2.eq;subst h1;subst h2;exact D1 l l2 p q c c2 w hk.le hk2.le ((hg.of _ _ m.facts).less fun _ _ h=>h.elim) ((Ct.of _ _ m.facts).less fun _ _ h=>h.elim)⟩
instance {l l2:List aH}{p q:Option Addr}{n c n2 c2:Nat}{bs fs}[hg:lI fs p aH oJ l][hn:eu l n][hk:eS n 1000000][Ct:lI fs q aH oJ l2][hn2:eu l2 n2][hk2:eS n2 1000000]:cB prog 126 [.slice p n c,.slice q n2 c2] bs fs (.bool (Gx l l2)):=⟨fun w m=>by
 have h1:=hn.eq;have h2:=hn2.eq;subst h1;subst h2;exact B9 l l2 p q c c2 w hk.le hk2.le ((hg.of _ _ m.facts).less fun _ _ h=>h.elim) ((Ct.of _ _ m.facts).less fun _ _ h=>h.elim)⟩
theorem yx {now:List fV}{x s:aK}{b:Bool}(h:pM now x.user=if b then some s.s else none):vP now x.s = !(!b||decide (s.cnt < x.cnt)||(decide (s.cnt=x.cnt)&&!gw s.root.t x.root.t)):=by
 rw[vP,show x.s.user=x.user from rfl,h];cases b with
 | false=>rfl
 | true=>
  show (if s.cnt=x.cnt then gw s.root.t x.root.t else decide (x.cnt < s.cnt))=_
  by_cases h1:s.cnt=x.cnt
  rw[if_pos h1,decide_eq_true h1,decide_eq_false (by omega)];simp;rw[if_neg h1,decide_eq_false h1]
  by_cases h2:s.cnt < x.cnt
  rw[decide_eq_true h2,decide_eq_false (by omega)];rfl;rw[decide_eq_false h2,decide_eq_true (by omega)];rfl
theorem B_ (x y:aW)(hx:dY x)(hy:dY y)(w0:World)(fx:Fx w0 (aE x))(fy:Fx w0 (aE y)):aT prog 39 [fJ x,fJ y] w0 (fun _=>False) fun v _=>v=.bool (dQ x.m y.m):=by
 have hMx:dV x:=⟨hx⟩;have Wu:dV y:=⟨hy⟩;have l1:eS x.ah.length 1000000:=⟨by have:=hx.ah;omega⟩;have l2:eS x.aA.length 1000000:=⟨by have:=hx.aA;omega⟩;have l3:eS x.seen.length 1000000:=⟨by have:=hx.seen;omega⟩;have l4:eS y.ah.length 1000000:=⟨by have:=hy.ah;omega⟩;have l5:eS y.aA.length 1000000:=⟨by have:=hy.aA;omega⟩;have l6:eS y.seen.length 1000000:=⟨by have:=hy.seen;omega⟩;have l6':=l6.le;have l3':=l3.le;have e0:dQ x.m y.m=(b_ x.m&&b_ y.m&&decide (x.user=y.user)&&(decide (x.leaf≤y.leaf)&&decide (x.counter≤y.counter)&&decide (x.num≤y.num))&&(x.ah.all fun s=>decide (s∈y.ah))&&Gx x.aA y.aA&&(cU x.seen).all (vP (cU y.seen))):=rfl;refine E1 func39 rfl ntmps39 (Wd.begin (fs:=[aE x,aE y,av x.sp x.ah,av x.vp x.aA,av x.ep x.seen,av y.sp y.ah,av y.vp y.aA,av y.ep y.seen]) (by simp;exact ⟨fx,fy,fx.imp fun _ h=>h.1,fx.imp fun _ h=>h.2.1,fx.imp fun _ h=>h.2.2,fy.imp fun _ h=>h.1,fy.imp fun _ h=>h.2.1,fy.imp fun _ h=>h.2.2⟩)) ?_;intro a S;refine kS (kR ?_);refine sa S ?_;intro b2 a w S;refine sa S ?_;intro b3 a w S;refine sP ?_;intro a w S;refine mK ?_;intro a S;refine sP ?_;intro a w S;refine kC S (fun h1=>?_) (fun h1=>?_);refine J7 ?_;intro a S;refine aD S (fun _=>?_);rw[e0];simp only[Bool.or_eq_true,Bool.not_eq_true',decide_eq_true_eq,decide_eq_false_iff_not]at h1;rcases h1 with ((((((h | h) | h) | h) | h) | h) | h) | h
 rw[h];rfl;rw[h];simp;rw[decide_eq_false h];simp;rw[decide_eq_false (show ¬x.leaf≤y.leaf by omega)];simp;rw[decide_eq_false (show ¬x.counter≤y.counter by omega)];simp;rw[decide_eq_false (show ¬x.num≤y.num by omega)];simp;rw[h];simp;rw[h];simp;refine jq ?_;intro a S;refine fD S (fun(k:Nat) uu=>[(4,uu 4),(1,uu 6),(0,uu 7),(0,uu 8),(55,.int .i64 (k:Nat)),(0,uu 65),(0,uu 66),(0,uu 67),(0,uu 68),(0,uu 69),(0,uu 70),(0,uu 71),(0,uu 72),(0,uu 73),(0,uu 74),(0,uu 75),(0,uu 76),(0,uu 77),(0,uu 78),(0,uu 79),(0,uu 80),(0,uu 81),(0,uu 82),(0,uu 83),(0,uu 84),(0,uu 85),(0,uu 86),(0,uu 87),(0,uu 88),(0,uu 89),(0,uu 90),(0,uu 91),(0,uu 92),(0,uu 93),(0,uu 94),(0,uu 95),(0,uu 96),(0,uu 97),(0,uu 98),(0,uu 99),(0,uu 100)]) (fun(k:Nat)=>[Wk.box b3 67 (cN y),Wk.box b2 67 (cN x)]) (fun(k:Nat)=>[av x.ep x.seen,av y.ep y.seen]) (fun(k:Nat)=>k≤x.seen.length∧((cU (x.seen.take k)).all (vP (cU y.seen)))=true) (fun(k:Nat)=>x.seen.length - k) (0) ?_ S.uu ?_ ?_;exact ⟨Nat.zero_le _,rfl⟩
 first | exact S | exact S.sub _ _
 clear S;rintro k uu a w ⟨hk,aI⟩ S;refine J6 ?_;intro a S;refine kC S (fun h4=>?_) (fun h4=>?_);refine kK (aQ (kS (kB (kS ?_))));have bn:k < x.seen.length:=by have:=of_decide_eq_true h4;omega
 have hK:cx k x.seen.length:=⟨bn⟩;replace S:=S.add (Φ:=dc (aq x.seen k).root) ((S.mem.fact (av x.ep x.seen)).imp fun _ h=>h.2 _ (bh bn));refine J3 ?_;intro a S;refine sa S ?_;intro b6 a w S;refine Y9 ?_;intro a w S;refine sr S (G4 y.seen y.ep y.seen.length y.ec (aq x.seen k).user _ w rfl l6' (a_ S) (S.mem.fact (av y.ep y.seen))) ?_;rintro _ a w ⟨s,b,rfl,Tz,I6⟩ S;replace S:=S.add Tz;refine J3 ?_;intro a S;refine sa S ?_;intro b7 a w S;refine sP ?_;intro a w S;refine uh ?_;intro a w S;refine kC S (fun h7=>?_) (fun h7=>?_);refine gM ?_;intro a S;refine aD S (fun _=>?_);have:(cU x.seen).all (vP (cU y.seen))=false:=List.all_eq_false.2 ⟨(aq x.seen k).s,List.mem_map_of_mem (bh bn),by rw[yx I6,h7];simp⟩;rw[e0,this,Bool.and_false];refine J8 ?_;intro a S;rw[w6 ((k:Int)+1)]at S;refine ⟨k+1,S.uu,⟨bn,?_⟩,S.sub _ _,by omega⟩;rw[eC bn,cU,List.map_append,List.all_append];rw[show (x.seen.take k).map aK.s=cU (x.seen.take k) from rfl,aI];simp only[List.map_cons,List.map_nil,List.all_cons,List.all_nil,Bool.and_true,Bool.true_and];rw[yx I6,h7];rfl;refine gM ?_;intro a S;refine aD S (fun _=>?_);rw[List.take_of_length_le (by have:=of_decide_eq_false h4;omega)]at aI;simp only[Bool.or_eq_false_iff,Bool.not_eq_false',decide_eq_false_iff_not]at h1;obtain ⟨⟨⟨⟨⟨⟨⟨a1,a2⟩,a3⟩,a4⟩,a5⟩,a6⟩,a7⟩,a8⟩:=h1;rw[e0,a1,a2,a3,a7,a8,aI,decide_eq_true (show x.leaf≤y.leaf by omega),decide_eq_true (show x.counter≤y.counter by omega),decide_eq_true (show x.num≤y.num by omega)];rfl
open Classical in
theorem G6 (x y:aW)(hx:dY x)(hy:dY y)(w0:World)(fx:Fx w0 (aE x))(fy:Fx w0 (aE y)):aT prog 41 [fJ x,fJ y] w0 (fun _=>False) fun v _=>∃ b,v=.bool b∧(b=true↔x.m=y.m):=by
 have l1:=hx.ah;have l2:=hx.aA;have l3:=hx.seen;refine E1 func41 rfl ntmps41 (Wd.begin (fs:=[av x.sp x.ah,av x.vp x.aA,av x.ep x.seen,av y.sp y.ah,av y.vp y.aA,av y.ep y.seen]) (by simp;exact ⟨fx.imp fun _ h=>h.1,fx.imp fun _ h=>h.2.1,fx.imp fun _ h=>h.2.2,fy.imp fun _ h=>h.1,fy.imp fun _ h=>h.2.1,fy.imp fun _ h=>h.2.2⟩)) ?_;intro a S;refine kS (kR ?_);refine sa S ?_;intro b2 a w S;refine sa S ?_;intro b3 a w S;refine tI ?_;intro a S;refine kC S (fun h1=>?_) (fun h1=>?_);refine J7 ?_;intro a S;refine aD S (fun _=>⟨false,rfl,⟨nofun,fun h=>?_⟩⟩);have:=congrArg (fun m=>m.ah.length) h;simp only[aW.m]at this;simp at h1;omega;refine jq ?_;intro a S;have hle:x.ah.length=y.ah.length:=by simp at h1;omega
 refine fD S (fun(k:Nat) uu=>[(4,uu 4),(0,uu 5),(10,.int .i64 (k:Nat)),(0,uu 17),(0,uu 18),(0,uu 19),(0,uu 20),(0,uu 21),(0,uu 22),(0,uu 23),(0,uu 24),(0,uu 25),(0,uu 26),(0,uu 27),(0,uu 28),(0,uu 29),(0,uu 30)]) (fun(k:Nat)=>[Wk.box b3 67 (cN y),Wk.box b2 67 (cN x)]) (fun(k:Nat)=>[av x.sp x.ah,av x.vp x.aA,av x.ep x.seen,av y.sp y.ah,av y.vp y.aA,av y.ep y.seen]) (fun(k:Nat)=>k≤x.ah.length∧x.ah.take k=y.ah.take k) (fun(k:Nat)=>x.ah.length - k) (0) ?_ S.uu ?_ ?_;exact ⟨Nat.zero_le _,rfl⟩
 first | exact S | exact S.sub _ _
 clear S;rintro k uu a w ⟨hk,aI⟩ S;refine J6 ?_;intro a S;refine kC S (fun h4=>?_) (fun h4=>?_);refine kK (aQ (kS (kB (kS ?_))));have bn:k < x.ah.length:=by have:=of_decide_eq_true h4;omega
 have hK:cx k x.ah.length:=⟨bn⟩;have Cq:cx k y.ah.length:=⟨by omega⟩;refine J6 ?_;intro a S;refine bM [T9 0,T9 1,T9 2,T9 3,T9 4,T9 5,T9 6,T9 7,T9 8,T9 9,T9 10] [] S ?_;intro w S;(iterate 11 (refine dq S ?_;intro a S));refine dn (aQ ?_);refine kC S (fun h6=>?_) (fun h6=>?_);refine gM ?_;intro a S;refine aD S (fun _=>⟨false,rfl,⟨nofun,fun h=>?_⟩⟩);have:x.ah=y.ah:=congrArg bJ.ah h;rw[this]at h6;simp at h6;refine J8 ?_;intro a S;rw[w6 ((k:Int)+1)]at S;refine ⟨k+1,S.uu,⟨bn,?_⟩,S.sub _ _,by omega⟩;have he:aq x.ah k=aq y.ah k:=by simpa using h6
 rw[eC bn,eC (by omega),aI,he];refine kE (fT (fT (mM (aQ (kS ?_)))));have P3:x.ah=y.ah:=by
  have bn:k=x.ah.length:=by have:=of_decide_eq_false h4;omega
  rw[List.take_of_length_le (by omega),List.take_of_length_le (by omega)]at aI;exact aI
 refine mK ?_;intro a S;refine J8 ?_;intro a S;refine gS S (fun dZ S=>?_) (fun dZ S=>?_);refine gT S ?_;refine sq S ?_;intro a S;refine gT S ?_;refine sq S ?_;intro a S;refine gT S ?_;refine sq S ?_;intro a S;refine gT S ?_;refine sq S ?_;intro a S;refine gT S ?_;refine sr S (Gz x.aA y.aA x.vp y.vp x.vc y.vc _ (by omega) (S.j9 x.vp) (S.j9 y.vp)) ?_;rintro _ a w rfl S;refine J2 ?_;intro a S;refine gS S (fun j0 S=>?_) (fun j0 S=>?_);refine gT S ?_;refine sq S ?_;intro a S;refine gT S ?_;refine sq S ?_;intro a S;refine gT S ?_;refine sq S ?_;intro a S;refine gT S ?_;refine sq S ?_;intro a S;refine gT S ?_;refine sr S (yw x.seen y.seen x.ep y.ep x.ec y.ec _ (by omega) (S.j9 x.ep) (S.j9 y.ep)) ?_;rintro _ a w ⟨b,rfl,hb⟩ S;refine J5 ?_;intro a S;refine aD S (fun _=>⟨b,rfl,?_⟩);simp only[Bool.and_eq_true,decide_eq_true_eq]at dZ;rw[hb];constructor;intro h;rw[aW.m,aW.m,dZ.1.1.1,dZ.1.1.2,dZ.1.2,dZ.2,P3,of_decide_eq_true j0,h];intro h;exact congrArg bJ.seen h;refine gF S ?_;intro a S;(iterate 4 (refine gF S ?_;intro a S));(iterate 2 (refine sq S ?_;intro a S));refine kN (aQ (kT ?_));refine aD S (fun _=>⟨false,rfl,⟨nofun,fun h=>?_⟩⟩);rw[decide_eq_true (show x.aA=y.aA from congrArg bJ.aA h)]at j0;cases j0;refine gF S ?_;intro a S;(iterate 4 (refine gF S ?_;intro a S));(iterate 2 (refine sq S ?_;intro a S));refine gS S (fun j0 S=>?_) (fun j0 S=>?_);refine gT S ?_;refine sq S ?_;intro a S;refine gT S ?_;refine sq S ?_;intro a S;refine gT S ?_;refine sq S ?_;intro a S;refine gT S ?_;refine sq S ?_;intro a S;refine gT S ?_
 refine sr S (yw x.seen y.seen x.ep y.ep x.ec y.ec _ (by omega) (S.j9 x.ep) (S.j9 y.ep)) ?_;rintro _ a w ⟨b,rfl,hb⟩ S;refine J5 ?_;intro a S;exact absurd j0 (by decide);refine gF S ?_;intro a S;(iterate 4 (refine gF S ?_;intro a S));(iterate 2 (refine sq S ?_;intro a S));refine kN (aQ (kT ?_));refine aD S (fun _=>⟨false,rfl,⟨nofun,fun h=>?_⟩⟩);rw[decide_eq_true (show x.user=y.user from congrArg bJ.user h),decide_eq_true (show x.leaf=y.leaf from congrArg bJ.leaf h),decide_eq_true (show x.counter=y.counter from congrArg bJ.counter h),decide_eq_true (show x.num=y.num from congrArg bJ.num h)]at dZ;cases dZ
section
variable {P:Program}{l:Cx}{bs:List Wk.Item}{fs:List (World→Prop)}{x y:Operand}{kk:IntKind}{mm:Int}{k n:Nat}{t e ty:TypeId}{z:Value}{dy:Nat}
theorem G7 {xs:List Int}{k:Nat}(h:k < xs.length):(aa xs)[k]? = some (.int .i64 (aq xs k)):=by
 have h2:=eV xs k (aq xs k) (bu h) 0 (by decide);have h3:k*cX.sz Int+0=k:=Nat.mul_one k;rw[h3]at h2;rw[h2];rfl
instance Wx {xs:List Int}[hx:Ev l x (.agg ⟨aa xs⟩)][Ev l y (.int kk mm)][hm:ey mm k][ht:dN P t (.array n e)][o_:TI P e z 1 dy][ha:eU P e false][hk:cx k xs.length][hn:eu xs n]:dO P (.index t x y) ty l bs fs (.int .i64 (aq xs k)):=⟨fun ρ w h mm=>by
 have e1:=hm.eq;subst e1;exact qQ (aa xs) k _ (G7 hk.lt) (by rw[aU,hn.eq];exact Nat.mul_one _) h w⟩
end
theorem be1 (n:Int):be 1 n=[Wk.u8 n]:=by
 show [Wk.u8 (n.fdiv 1)]=_
 rw[Int.fdiv_one]
theorem D2 {t:Term}(h:cR t=0):dJ t=cn t:=by
 rw[dJ,if_neg (kz.1 h)]
set_option maxHeartbeats 4000000 in
theorem nk (m:aW)(hfit:dY m)(hok:b_ m.m=true)(w0:World)(hm:Fx w0 (aE m)):aT prog 43 [fJ m] w0 (fun _=>False) fun v w'=>
  ∃ (p':Option Addr) (c':Nat),v=.slice p' (aY m.m).length c'∧w'.ownsRow 0 5 1 (.slice p' (aY m.m).length c') (aY m.m).length (aa (aY m.m))∧∀ ad,p'=some ad→w0.heap.size≤ad.block:=by
 have nw:=hfit.ah;have rU:=hfit.aA;have LY:=hfit.seen;have Qs:=vR hfit;obtain ⟨B,hB⟩:∃ B,B=aY m.m:=⟨_,rfl⟩;rw[←hB]at Qs;have Ws:B=[Wk.u8 m.user]++(eK [m.leaf,m.counter,m.num]++ng m.m):=by rw[hB,aY];rfl
 have Wh:=(kU m.seen 0 (mD hok)).2.2;refine E1 func43 rfl ntmps43 (Wd.begin (fs:=[av m.sp m.ah,av m.vp m.aA,av m.ep m.seen]) (by simp;exact ⟨hm.imp fun _ h=>h.1,hm.imp fun _ h=>h.2.1,hm.imp fun _ h=>h.2.2⟩)) ?_;intro a S;refine kS (kR ?_);refine sa S ?_;intro b1 a w S;refine J8 ?_;intro a S;refine sn S ?_;intro HP a w S;replace S:=S.bT HP 1 1 rfl (by decide);rw[show [Value.int .u8 (IntKind.u8.wrap m.user)]=aa [Wk.u8 m.user] from by rw[cF];rfl]at S;refine rP ?_;intro a S;rw[show (Value.agg ⟨[.int .i64 m.leaf,.int .i64 m.counter,.int .i64 m.num]⟩)=.agg ⟨aa [m.leaf,m.counter,m.num]⟩ from rfl]at S;refine J4 ?_;intro a S;refine dI S (fun(i:Nat) (b:List UInt8) (p':Option Addr) (c':Nat) uu=>[(3,.slice p' b.length c'),(1,uu 5),(17,.int .i64 (i:Nat)),(0,uu 24),(0,uu 25),(0,uu 26),(0,uu 27),(0,uu 28),(0,uu 29),(0,uu 30)]) (fun(i:Nat) (b:List UInt8) (p':Option Addr) (c':Nat)=>[Wk.row 5 1 p' b.length c' (aa b),Wk.box b1 67 (cN m)]) (fun(i:Nat) (b:List UInt8) (p':Option Addr) (c':Nat)=>[av m.sp m.ah,av m.vp m.aA,av m.ep m.seen]) (fun(i:Nat) (b:List UInt8) (p':Option Addr) (c':Nat)=>i≤3∧b++(eK ([m.leaf,m.counter,m.num].drop i)++ng m.m)=B) (fun(i:Nat) (b:List UInt8) (p':Option Addr) (c':Nat)=>3 - i) (0) ([Wk.u8 m.user]) (some ⟨HP,0,none⟩) (1) ?_ S.uu ?_ ?_;exact ⟨Nat.zero_le _,Ws.symm⟩
 first | exact S | exact S.sub _ _
 clear S;rintro i b p' c' uu a w ⟨hi,aI⟩ S;refine J6 ?_;intro a S;refine kC S (fun h3=>?_) (fun h3=>?_);refine kK (aQ (kS (kB (kS ?_))));have Qz:i < 3:=by have:=of_decide_eq_true h3;omega
 have hK:cx i [m.leaf,m.counter,m.num].length:=⟨Qz⟩;have hLn:eu [m.leaf,m.counter,m.num] 3:=⟨rfl⟩;rw[bE (show i < [m.leaf,m.counter,m.num].length from Qz),eK]at aI;have wH:=congrArg List.length aI;simp only[List.length_append,dK]at wH;refine J8 ?_;intro a S;refine jU S (rM (aq [m.leaf,m.counter,m.num] i) _) ?_;rintro _ a w ⟨p8,c8,rfl,hown,hnew⟩ hS -;have S:=hS hown hnew;clear hS;refine gA S (by simp[maxLen];omega) (by omega) ?_;rintro p1 c1 a w - S;rw[←aC,show b.length+2=(b++fS (aq [m.leaf,m.counter,m.num] i)).length from by rw[List.length_append,dK]]at S;refine J9 ?_;intro a S;rw[w6 ((i:Int)+1),show (i:Int)+1=((i+1:Nat):Int) from rfl]at S;exact ⟨i+1,_,p1,c1,S.uu,⟨Qz,by rw[List.append_assoc,←List.append_assoc (fS _)];exact aI⟩,S.sub [Wk.row 5 1 p1 _ c1 _,Wk.box b1 67 (cN m)] _,by omega⟩;refine jq ?_;intro a S;have Qz:i=3:=by have:=of_decide_eq_false h3;omega
 subst Qz;rw[show [m.leaf,m.counter,m.num].drop 3=[] from rfl,eK,j6,ng]at aI;have wH:=congrArg List.length aI;simp only[List.length_append,jb]at wH;refine sn S ?_;intro FC a w S;replace S:=S.bT FC 1 1 rfl (by decide);rw[show [Value.int .u8 (IntKind.u8.wrap (m.ah.length:Int))]=aa [Wk.u8 m.ah.length] from by rw[cF];rfl]at S;refine gA S (by simp[maxLen];omega) (by omega) ?_;rintro p2 c2 a w - S;rw[←aC,show b.length+1=(b++[Wk.u8 m.ah.length]).length from by simp]at S;replace aI:(b++[Wk.u8 m.ah.length])++(bK m.ah++m_ m.m)=B:=by rw[←aI];simp[aW.m]
 obtain ⟨B1,Dz⟩:∃ B1,B1=b++[Wk.u8 m.ah.length]:=⟨_,rfl⟩;rw[←Dz]at S aI;refine rP ?_;intro a S;refine dI S (fun(k:Nat) (bb:List UInt8) (pp:Option Addr) (cc:Nat) uu=>[(3,.slice pp bb.length cc),(3,uu 7),(33,.int .i64 (k:Nat)),(0,uu 42),(0,uu 43),(0,uu 44),(0,uu 45),(0,uu 46),(0,uu 47),(0,uu 48),(0,uu 49),(0,uu 50),(0,uu 51),(0,uu 52),(0,uu 53),(0,uu 54)]) (fun(k:Nat) (bb:List UInt8) (pp:Option Addr) (cc:Nat)=>[Wk.row 5 1 pp bb.length cc (aa bb),Wk.box b1 67 (cN m)]) (fun(k:Nat) (bb:List UInt8) (pp:Option Addr) (cc:Nat)=>[av m.sp m.ah,av m.vp m.aA,av m.ep m.seen]) (fun(k:Nat) (bb:List UInt8) (pp:Option Addr) (cc:Nat)=>k≤m.ah.length∧bb++(bK (m.ah.drop k)++m_ m.m)=B) (fun(k:Nat) (bb:List UInt8) (pp:Option Addr) (cc:Nat)=>m.ah.length - k) (0) (B1) (p2) (c2) ?_ S.uu ?_ ?_;exact ⟨Nat.zero_le _,aI⟩
 first | exact S | exact S.sub _ _
 clear S;rintro k bb pp cc uu a w ⟨hk,fu⟩ S;refine J6 ?_;intro a S;refine kC S (fun h9=>?_) (fun h9=>?_);refine kK (aQ (kS (kB (kS ?_))));have bn:k < m.ah.length:=by have:=of_decide_eq_true h9;omega
 have hK:cx k m.ah.length:=⟨bn⟩;obtain ⟨x,hx⟩:∃ x,x=aq m.ah k:=⟨_,rfl⟩;have hkey:=hfit.names _ (bh bn);rw[bE bn,bK,nE,←hx]at fu;rw[←hx]at hkey;have vS:=congrArg List.length fu;simp only[List.length_append,jb,dK]at vS;obtain ⟨b2,xR⟩:∃ b2,b2=bb++(be 1 (x.key.length:Int)++x.key)++fS x.dS:=⟨_,rfl⟩;have Re:b2.length=bb.length+(1+x.key.length)+2:=by rw[xR];simp only[List.length_append,bI,dK]
 refine J3 ?_;intro a S;rw[←hx]at S;refine sa S ?_;intro b7 a w S;refine Y3 ?_;intro a w S;refine eY [T9 0,T9 1,T9 2,T9 5,T9 6,F9 3,F9 4,F9 7,F9 8,T9 9] [Wk.box b7 175 [str x.key,.int .i64 x.dS],Wk.box b1 67 (cN m)] S ?_;intro w S;(iterate 5 (refine dq S ?_;intro a S));refine dl ?_;refine jU S (sL x.key 1 (by omega) (by decide) _) ?_;rintro _ a w ⟨p7,c7,rfl,hown,hnew⟩ hS -;have S:=hS hown hnew;clear hS;refine de S ?_;refine dl ?_;have hpl:(be 1 (x.key.length:Int)++x.key).length=1+x.key.length:=by rw[List.length_append,bI]
 refine gA S (by simp only[maxLen];omega) (by omega) ?_;rintro p3 c3 a w - S;rw[←aC,show bb.length+(be 1 (x.key.length:Int)++x.key).length=(bb++(be 1 (x.key.length:Int)++x.key)).length from (List.length_append ..).symm]at S;refine de S ?_;refine dl ?_;refine jU S (rM x.dS _) ?_;rintro _ a w ⟨p8,c8,rfl,hown,hnew⟩ hS -;have S:=hS hown hnew;clear hS;refine de S ?_;refine dl ?_;have UX:(bb++(be 1 (x.key.length:Int)++x.key)).length=bb.length+(1+x.key.length):=by rw[List.length_append,hpl]
 refine gA S (by simp only[maxLen];omega) (by omega) ?_;rintro p5 c5 a w - S;rw[←aC,←xR,show (bb++(be 1 (x.key.length:Int)++x.key)).length+2=b2.length from by rw[xR];simp only[List.length_append,bI,dK]]at S;refine de S ?_;refine dq S ?_;intro a S;refine dn (qw (aQ (kR ?_)));(iterate 2 (refine sq S ?_;intro a S));refine kN (aQ ?_);rw[w6 ((k:Int)+1),show (k:Int)+1=((k+1:Nat):Int) from rfl]at S;refine ⟨k+1,_,p5,c5,S.uu,⟨bn,?_⟩,S.sub [Wk.row 5 1 p5 _ c5 _,Wk.box b1 67 (cN m)] _,by omega⟩;rw[xR,be1,←fu];simp;refine jq ?_;intro a S;have bn:m.ah.length≤k:=by have:=of_decide_eq_false h9;omega
 rw[List.drop_of_length_le bn,bK,j6,m_]at fu;have vS:=congrArg List.length fu;simp only[List.length_append,jb]at vS;refine sn S ?_;intro b26 a w S;replace S:=S.bT b26 1 1 rfl (by decide);rw[show [Value.int .u8 (IntKind.u8.wrap (m.aA.length:Int))]=aa [Wk.u8 m.aA.length] from by rw[cF];rfl]at S;refine gA S (by simp[maxLen];omega) (by omega) ?_;rintro p13 c13 a w - S;rw[←aC,show bb.length+1=(bb++[Wk.u8 m.aA.length]).length from by simp]at S;replace fu:(bb++[Wk.u8 m.aA.length])++(bK m.aA++lK m.m)=B:=by rw[←fu];simp[aW.m]
 obtain ⟨B2,Zs⟩:∃ B2,B2=bb++[Wk.u8 m.aA.length]:=⟨_,rfl⟩;rw[←Zs]at S fu;refine rP ?_;intro a S;refine dI S (fun(j:Nat) (bc:List UInt8) (pc:Option Addr) (cd:Nat) uu=>[(3,.slice pc bc.length cd),(5,uu 9),(55,.int .i64 (j:Nat)),(0,uu 66),(0,uu 67),(0,uu 68),(0,uu 69),(0,uu 70),(0,uu 71),(0,uu 72),(0,uu 73),(0,uu 74),(0,uu 75),(0,uu 76),(0,uu 77),(0,uu 78)]) (fun(j:Nat) (bc:List UInt8) (pc:Option Addr) (cd:Nat)=>[Wk.row 5 1 pc bc.length cd (aa bc),Wk.box b1 67 (cN m)]) (fun(j:Nat) (bc:List UInt8) (pc:Option Addr) (cd:Nat)=>[av m.sp m.ah,av m.vp m.aA,av m.ep m.seen]) (fun(j:Nat) (bc:List UInt8) (pc:Option Addr) (cd:Nat)=>j≤m.aA.length∧bc++(bK (m.aA.drop j)++lK m.m)=B) (fun(j:Nat) (bc:List UInt8) (pc:Option Addr) (cd:Nat)=>m.aA.length - j) (0) (B2) (p13) (c13) ?_ S.uu ?_ ?_;exact ⟨Nat.zero_le _,fu⟩
 first | exact S | exact S.sub _ _
 clear S;rintro j bc pc cd uu a w ⟨hj,jH⟩ S;refine J6 ?_;intro a S;refine kC S (fun w_=>?_) (fun w_=>?_);refine kK (aQ (kS (kB (kS ?_))));have hjl:j < m.aA.length:=by have:=of_decide_eq_true w_;omega
 have hK:cx j m.aA.length:=⟨hjl⟩;obtain ⟨x,hx⟩:∃ x,x=aq m.aA j:=⟨_,rfl⟩;have hkey:=hfit.keys _ (bh hjl);rw[bE hjl,bK,nE,←hx]at jH;rw[←hx]at hkey;have JT:=congrArg List.length jH;simp only[List.length_append,jb,dK]at JT;obtain ⟨b2,xR⟩:∃ b2,b2=bc++(be 1 (x.key.length:Int)++x.key)++fS x.dS:=⟨_,rfl⟩;have Re:b2.length=bc.length+(1+x.key.length)+2:=by rw[xR];simp only[List.length_append,bI,dK]
 refine J3 ?_;intro a S;rw[←hx]at S;refine sa S ?_;intro b9 a w S;refine Y3 ?_;intro a w S;refine eY [T9 0,T9 1,T9 2,T9 5,T9 6,F9 3,F9 4,F9 7,F9 8,T9 9] [Wk.box b9 177 [str x.key,.int .i64 x.dS],Wk.box b1 67 (cN m)] S ?_;intro w S;(iterate 5 (refine dq S ?_;intro a S));refine dl ?_;refine jU S (sL x.key 1 (by omega) (by decide) _) ?_;rintro _ a w ⟨p7,c7,rfl,hown,hnew⟩ hS -;have S:=hS hown hnew;clear hS;refine de S ?_;refine dl ?_;have hpl:(be 1 (x.key.length:Int)++x.key).length=1+x.key.length:=by rw[List.length_append,bI]
 refine gA S (by simp only[maxLen];omega) (by omega) ?_;rintro p3 c3 a w - S;rw[←aC,show bc.length+(be 1 (x.key.length:Int)++x.key).length=(bc++(be 1 (x.key.length:Int)++x.key)).length from (List.length_append ..).symm]at S;refine de S ?_;refine dl ?_;refine jU S (rM x.dS _) ?_;rintro _ a w ⟨p8,c8,rfl,hown,hnew⟩ hS -;have S:=hS hown hnew;clear hS;refine de S ?_;refine dl ?_;have UX:(bc++(be 1 (x.key.length:Int)++x.key)).length=bc.length+(1+x.key.length):=by rw[List.length_append,hpl]
 refine gA S (by simp only[maxLen];omega) (by omega) ?_;rintro p5 c5 a w - S;rw[←aC,←xR,show (bc++(be 1 (x.key.length:Int)++x.key)).length+2=b2.length from by rw[xR];simp only[List.length_append,bI,dK]]at S;refine de S ?_;refine dq S ?_;intro a S;refine dn (qw (aQ (kR ?_)));(iterate 2 (refine sq S ?_;intro a S));refine kN (aQ ?_);rw[w6 ((j:Int)+1),show (j:Int)+1=((j+1:Nat):Int) from rfl]at S;refine ⟨j+1,_,p5,c5,S.uu,⟨hjl,?_⟩,S.sub [Wk.row 5 1 p5 _ c5 _,Wk.box b1 67 (cN m)] _,by omega⟩;rw[xR,be1,←jH];simp;refine jq ?_;intro a S;have hjl:m.aA.length≤j:=by have:=of_decide_eq_false w_;omega
 rw[List.drop_of_length_le hjl,bK,j6,lK]at jH;have JT:=congrArg List.length jH;simp only[List.length_append,jb]at JT;refine sn S ?_;intro b27 a w S;replace S:=S.bT b27 1 1 rfl (by decide);rw[show [Value.int .u8 (IntKind.u8.wrap (m.seen.length:Int))]=aa [Wk.u8 m.seen.length] from by rw[cF];rfl]at S;refine gA S (by simp[maxLen];omega) (by omega) ?_;rintro p19 c19 a w - S;rw[←aC,show bc.length+1=(bc++[Wk.u8 m.seen.length]).length from by simp]at S;replace jH:(bc++[Wk.u8 m.seen.length])++cG (cU m.seen)=B:=by rw[←jH];simp[aW.m,cU]
 obtain ⟨B3,Zu⟩:∃ B3,B3=bc++[Wk.u8 m.seen.length]:=⟨_,rfl⟩;rw[←Zu]at S jH;refine rP ?_;intro a S;refine dI S (fun(i4:Nat) (bz:List UInt8) (pz:Option Addr) (cz:Nat) uu=>[(3,.slice pz bz.length cz),(7,uu 11),(77,.int .i64 (i4:Nat)),(0,uu 90),(0,uu 91),(0,uu 92),(0,uu 93),(0,uu 94),(0,uu 95),(0,uu 96),(0,uu 97),(0,uu 98),(0,uu 99),(0,uu 100),(0,uu 101),(0,uu 102),(0,uu 103),(0,uu 104),(0,uu 105),(0,uu 106),(0,uu 107),(0,uu 108),(0,uu 109),(0,uu 110)]) (fun(i4:Nat) (bz:List UInt8) (pz:Option Addr) (cz:Nat)=>[Wk.row 5 1 pz bz.length cz (aa bz),Wk.box b1 67 (cN m)]) (fun(i4:Nat) (bz:List UInt8) (pz:Option Addr) (cz:Nat)=>[av m.ep m.seen]) (fun(i4:Nat) (bz:List UInt8) (pz:Option Addr) (cz:Nat)=>i4≤m.seen.length∧bz++cG (cU (m.seen.drop i4))=B) (fun(i4:Nat) (bz:List UInt8) (pz:Option Addr) (cz:Nat)=>m.seen.length - i4) (0) (B3) (p19) (c19) ?_ S.uu ?_ ?_;exact ⟨Nat.zero_le _,jH⟩
 first | exact S | exact S.sub _ _
 clear S;rintro i4 bz pz cz uu a w ⟨hi4,wB⟩ S;refine J6 ?_;intro a S;refine kC S (fun Rf=>?_) (fun Rf=>?_);refine kK (aQ (kS (kB (kS ?_))));have hil:i4 < m.seen.length:=by have:=of_decide_eq_true Rf;omega
 have hK:cx i4 m.seen.length:=⟨hil⟩;have hch:=Wh i4 hil;obtain ⟨s,hs⟩:∃ s,s=aq m.seen i4:=⟨_,rfl⟩;rw[←hs]at hch;rw[bE hil,←hs,cU,List.map_cons,cG,rC]at wB;have hnb:=D2 hch;obtain ⟨X,hX⟩:∃ X,X=cn s.root.t:=⟨_,rfl⟩;have Zv:=lE s.root.t;rw[hnb,←hX]at Zv;replace wB:bz++(([Wk.u8 s.user]++fS s.cnt++be 4 (IntKind.u32.wrap (X.length:Int))++X)++cG (cU (m.seen.drop (i4+1))))=B:=by rw[hX,←hnb];exact wB
 have hbl4:=congrArg List.length wB;simp only[List.length_append,jb,FG,dK,bI]at hbl4;obtain ⟨b2,xR⟩:∃ b2,b2=bz++[Wk.u8 s.user]++fS s.cnt:=⟨_,rfl⟩;have Re:b2.length=bz.length+3:=by rw[xR];simp only[List.length_append,jb,FG,dK]
 replace S:=S.add (Φ:=dc s.root) ((S.mem.fact (av m.ep m.seen)).imp fun _ h=>h.2 _ (hs▸bh hil));refine J3 ?_;intro a S;rw[←hs]at S;refine sa S ?_;intro Zt a w S;refine Y4 ?_;intro a w S;refine eY [T9 0,T9 1,T9 2,T9 3,T9 6,T9 7,F9 4,F9 5,F9 8,F9 9,T9 10] [Wk.box Zt 179 (kH s),Wk.box b1 67 (cN m)] S ?_;intro w S;(iterate 6 (refine dq S ?_;intro a S));refine dl (sn S ?_);intro b28 a w S;replace S:=S.bT b28 1 1 rfl (by decide);rw[show [Value.int .u8 (IntKind.u8.wrap s.user)]=aa [Wk.u8 s.user] from by rw[cF];rfl]at S;refine de S ?_;refine dl ?_;refine gA S (by simp[maxLen];omega) (by omega) ?_;rintro p3 c3 a w - S;rw[←aC,show bz.length+1=(bz++[Wk.u8 s.user]).length from by simp]at S;refine de S ?_;refine dl ?_;refine jU S (rM s.cnt _) ?_;rintro _ a w ⟨p8,c8,rfl,hown,hnew⟩ hS -;have S:=hS hown hnew;clear hS;refine de S ?_;refine dl ?_;have UX:(bz++[Wk.u8 s.user]).length=bz.length+1:=by simp
 refine gA S (by simp only[maxLen];omega) (by omega) ?_;rintro p5 c5 a w - S;rw[←aC,←xR,show (bz++[Wk.u8 s.user]).length+2=b2.length from by rw[Re];simp]at S;refine de S ?_;refine dq S ?_;intro a S;refine dn (aQ (kR ?_));(iterate 3 (refine sq S ?_;intro a S));refine jU S (JB _ s.root w (Nat.le_refl _) (by rw[←hX];omega) (S.t0 s.root)) ?_;rintro _ a w ⟨p9,c9,rfl,hown,hnew⟩ hS -;have S:=hS hown hnew;clear hS;rw[←hX]at S;have TD:eu X X.length:=⟨rfl⟩;refine J1 ?_;intro a S;refine jU S (sL X 4 (by omega) (by decide) _) ?_;rintro _ a w ⟨p7,c7,rfl,hown,hnew⟩ hS -;have S:=hS hown hnew;clear hS;have hpl:(be 4 (X.length:Int)++X).length=4+X.length:=by rw[List.length_append,bI]
 refine gA S (by simp only[maxLen];omega) (by omega) ?_;rintro p24 c24 a w - S;rw[←aC,show b2.length+(be 4 (X.length:Int)++X).length=(b2++(be 4 (X.length:Int)++X)).length from (List.length_append ..).symm]at S;refine J9 ?_;intro a S;rw[w6 ((i4:Int)+1),show (i4:Int)+1=((i4+1:Nat):Int) from rfl]at S;refine ⟨i4+1,_,p24,c24,S.uu,⟨hil,?_⟩,S.sub [Wk.row 5 1 p24 _ c24 _,Wk.box b1 67 (cN m)] _,by omega⟩;rw[←wB,xR,wT (X.length:Int) (by omega) (by omega)];simp;refine jq ?_;intro a S;have hil:m.seen.length≤i4:=by have:=of_decide_eq_false Rf;omega
 rw[List.drop_of_length_le hil,cU,List.map_nil,cG,List.append_nil]at wB;subst wB;have hrow:=S.row pz bz.length;have hnew:=S.cQ pz bz.length;refine aD S (fun _=>?_);rw[←hB];exact ⟨pz,cz,rfl,hrow,fun ad h=>(hnew ad h).elim (fun h=>h.elim) id⟩
open Classical in
noncomputable def nF (a b:bJ):Bool:=decide (a=b)
theorem sM (a:bJ):nF a a=true:=by unfold nF;simp
theorem KT {b:Bool}{x y:bJ}(h:b=true↔x=y):b=nF x y:=by
 unfold nF;rw[Bool.eq_iff_iff];simp[h]
instance UY {x y:aW}{bs fs}[hx:dV x][hy:dV y][h1:gu fs (aE x)][h2:gu fs (aE y)]:cB prog 41 [fJ x,fJ y] bs fs (.bool (nF x.m y.m)):=⟨fun w mm=>
 (G6 x y hx.fit hy.fit w ((mm.facts _ h1.mem).less fun _ _ h=>h.elim) ((mm.facts _ h2.mem).less fun _ _ h=>h.elim)).mono fun _ _ ⟨_,hv,hb⟩=>by rw[hv,KT hb]⟩
instance Rg {x y:aW}{bs fs}[hx:dV x][hy:dV y][h1:gu fs (aE x)][h2:gu fs (aE y)]:cB prog 39 [fJ x,fJ y] bs fs (.bool (dQ x.m y.m)):=⟨fun w mm=>B_ x y hx.fit hy.fit w ((mm.facts _ h1.mem).less fun _ _ h=>h.elim) ((mm.facts _ h2.mem).less fun _ _ h=>h.elim)⟩
abbrev dX (b:Nat)(r:RS)(wr:Bool):Wk.Item:=Wk.box b 288 [.slice r.p r.bs.length r.c,.bool (!decide (r.why=0)),.bool wr]
def mI (r:RS)(k:Nat):Option Addr:=if u_ r k then r.p else none
def wC (r:RS)(k:Nat):Nat:=if u_ r k then r.c else 0
theorem z7 {r:RS}{k:Nat}{M:Nat→Prop}{w:World}(h:ag M w (av r.p r.bs)):ag M w (av (mI r k) (aM r k)):=by
 unfold mI aM;split;exact h.imp fun _ h=>h.take k
 exact fun _ _=>jd
theorem Ca {r:RS}{k:Nat}(h:r.bs.length≤r.c):(aM r k).length≤wC r k:=by
 unfold wC aM;split;rw[List.length_take];omega;exact Nat.le_refl _
theorem D3 (b:Nat)(r:RS)(wr:Bool)(k:Nat)(w0:World)(hk:k≤4294967295)(hc:r.bs.length≤r.c)(hl:r.bs.length≤10000000)(hd:(dX b r wr).holds w0) :
  aT prog 259 [.pointer (some ⟨b,0,none⟩),.int .i64 (k:Nat)] w0 (dX b r wr).aj fun v w'=>v=.slice (mI r k) (aM r k).length (wC r k)∧(dX b (ai r k) wr).holds w':=by
 refine E1 func259 rfl ntmps259 (Wd.bV (x:=dX b r wr) (fs:=[]) hd (by simp)) ?_;intro a S;refine mK ?_;clear S;intro a S;refine J3 ?_;clear S;intro a S;refine kC S (fun h1=>?_) (fun h1=>?_);refine Sa ?_;clear S;intro a w S;have hno:¬u_ r k:=fun h=>by
  simp only[Bool.or_eq_true,Bool.not_eq_true',decide_eq_true_eq,decide_eq_false_iff_not]at h1;rcases h1 with h1 | h1
  exact h1 h.1;have:=h.2;omega
 have hh:=S.it (Wk.box b 288 [.slice r.p r.bs.length r.c,.bool true,.bool wr]);have e:(!decide ((if r.why=0 then 7 else r.why)=0))=true:=by
  split;rfl
  rename_i h;rw[decide_eq_false h];rfl
 refine aD S (fun _=>⟨?_,?_⟩);rw[mI,if_neg hno,aM,if_neg hno,wC,if_neg hno];rfl;rw[jz hno]
 show (Wk.box b 288 [.slice r.p r.bs.length r.c,.bool (!decide ((if r.why=0 then 7 else r.why)=0)),.bool wr]).holds _
 rw[e];exact hh;refine kK (aQ (kS ?_));have hok:u_ r k:=by
  simp only[Bool.or_eq_false_iff,Bool.not_eq_false',decide_eq_true_eq,decide_eq_false_iff_not]at h1;exact ⟨h1.1,by have:=h1.2;omega⟩
 have sR:eS k r.bs.length:=⟨hok.2⟩;have K8:eS r.bs.length r.c:=⟨hc⟩;have Hs:eS k r.c:=⟨by have:=sR.le;omega⟩;refine mK ?_;clear S;intro a S;refine yA ?_;clear S;intro a w S;rw[show r.bs.length - k=(r.bs.drop k).length from (List.length_drop ..).symm,show (!decide (r.why=0))=(!decide ((0:Int)=0)) from by rw[hok.1]]at S;have hh:=S.it (dX b ⟨if r.c=k then r.p else r.p.map (·.add (k*1)),r.c - k,r.bs.drop k,0⟩ wr);refine aD S (fun _=>⟨?_,?_⟩);rw[mI,if_pos hok,aM,if_pos hok,wC,if_pos hok,List.length_take,Nat.min_eq_left hok.2];rw[iw hok];exact hh
theorem G8 (bs:List UInt8)(c:UInt8):∀ x:Nat,aV (bs++[c]) x=256*aV bs x+c.toNat:=by
 induction bs with
 | nil=>intro x;rfl
 | cons d bs ih=>intro x;rw[Cl,oM,oM,ih]
theorem Cb (N:Nat):∀ (bs:List UInt8) (p:Option Addr) (n c:Nat) (w0:World),bs.length=n→n < N→n≤7→n≤c→Fx w0 (av p bs)→
  aT prog 258 [.slice p n c] w0 (fun _=>False) fun v _=>v=.int .u64 (aV bs 0:Nat):=by
 induction N with
 | zero=>intro _ _ n _ _ _ h;exact absurd h (Nat.not_lt_zero _)
 | succ N ih=>
 intro bs p n c w0 hn hN h7 hc hx;subst hn;refine E1 func258 rfl ntmps258 (Wd.begin (fs:=[av p bs]) (by simpa using hx)) ?_;intro a S;refine rP ?_;intro a S;refine kC S (fun h1=>?_) (fun h1=>?_)
 ·refine J7 ?_;intro a S
  have h0:bs=[]:=List.eq_nil_of_length_eq_zero (by have:=of_decide_eq_true h1;omega);exact aD S (fun _=>by rw[h0];rfl)
 ·refine J6 ?_;intro a S
  have hpos:0 < bs.length:=by have:=of_decide_eq_false h1;omega
  refine J1 ?_;intro a S;rw[w6 ((bs.length:Int) - 1),show (bs.length:Int) - 1=((bs.length - 1:Nat):Int) from by omega]at S;refine J4 ?_;intro a S;obtain ⟨m,hm⟩:∃ m,m=bs.length - 1:=⟨_,rfl⟩;rw[←hm]at S;have hK:cx m bs.length:=⟨by omega⟩;have sR:eS m c:=⟨by omega⟩;have hsp:bs=bs.take m++[aq bs m]:=by rw[←eC (by omega),List.take_of_length_le (by omega)]
  have hval:aV bs 0=256*aV (bs.take m) 0+(aq bs m).toNat:=by
   have h2:=G8 (bs.take m) (aq bs m) 0;rw[←hsp]at h2;exact h2
  have hlt:=yV (bs.take m) 0;have hb:=UInt8.toNat_lt (aq bs m);have Lc:(bs.take m).length≤6:=by rw[List.length_take];omega
  have hpw:(256:Nat) ^ (bs.take m).length≤256 ^ 6:=Nat.pow_le_pow_right (by decide) Lc;have Wy:aV (bs.take m) 0 < 281474976710656:=by
   have:(256:Nat) ^ 6=281474976710656:=by decide
   omega
  refine bM [T9 0,T9 1,T9 2,T9 5,T9 6,T9 7,T9 8,T9 9,F9 3,T9 4,T9 10,T9 11] [] S ?_;intro w S;(iterate 8 (refine dq S ?_;intro a S));refine dl ?_;refine sr S (ih (bs.take m) p m c _ (by rw[List.length_take];omega) (by omega) (by omega) (by omega) ((S.j9 p).imp fun _ h=>h.take m)) ?_;rintro _ a w rfl S;refine de S ?_;(iterate 3 (refine dq S ?_;intro a S));refine dn (aQ (kT ?_));refine aD S (fun _=>?_);rw[jV (256*((aV (bs.take m) 0:Nat):Int)) (by omega) (by omega),jV ((aq bs m).toNat:Int) (by omega) (by omega),jV _ (by omega) (by omega),hval]
  norm_cast
theorem jm (b:Nat)(r:RS)(wr:Bool)(k:Nat)(hk:k≤4)(w0:World)(hc:r.bs.length≤r.c)(hl:r.bs.length≤10000000)(hd:(dX b r wr).holds w0)(hx:ag (dX b r wr).aj w0 (av r.p r.bs)) :
  aT prog 225 [.pointer (some ⟨b,0,none⟩),.int .i64 (k:Nat)] w0 (dX b r wr).aj fun v w'=>v=.int .i64 (aV (aM r k) 0:Nat)∧(dX b (ai r k) wr).holds w':=by
 have hn:=(ck r k (by omega)).2;have Np:256 ^ k≤256 ^ 4:=Nat.pow_le_pow_right (by decide) hk;have Wz:(256:Nat) ^ 4=4294967296:=by decide
 have Lc:=(me r k).1;have WA:=Ca (k:=k) hc;refine E1 func225 rfl ntmps225 (Wd.bV (x:=dX b r wr) (fs:=[av r.p r.bs]) hd (by intro Φ hΦ;obtain rfl:=List.mem_singleton.1 hΦ;exact hx)) ?_;intro a S;refine J9 ?_;intro a S;refine cM (dX b r wr) S (D3 b r wr k _ (by omega) hc hl (S.it (dX b r wr))) rfl ?_;rintro _ a w ⟨rfl,hh⟩ hS;have S:=hS (dX b (ai r k) wr) hh (fun k h=>.inl h);clear hS;replace S:=S.add (Φ:=av (mI r k) (aM r k)) (z7 (S.mem.fact (av r.p r.bs)));refine sr S (Cb _ (aM r k) (mI r k) (aM r k).length (wC r k) _ rfl (Nat.lt_succ_self _) (by omega) WA (S.j9 (mI r k))) ?_;rintro _ a w rfl S;refine J1 ?_;intro a S;rw[Ar ((aV (aM r k) 0:Nat):Int) (by omega) (by omega)]at S;refine J4 ?_;intro a S;have hh:=S.it (dX b (ai r k) wr);exact aD S (fun _=>⟨rfl,hh⟩)
theorem FD (b:Nat)(r:RS)(wr:Bool)(w0:World)(hc:r.bs.length≤r.c)(hl:r.bs.length≤10000000)(hd:(dX b r wr).holds w0)(hx:ag (dX b r wr).aj w0 (av r.p r.bs)) :
  aT prog 226 [.pointer (some ⟨b,0,none⟩),.int .i64 1] w0 (dX b r wr).aj fun v w'=>v=str (dL r)∧(dX b (aZ r) wr).holds w':=by
 refine E1 func226 rfl ntmps226 (Wd.bV (x:=dX b r wr) (fs:=[av r.p r.bs]) hd (by intro Φ hΦ;obtain rfl:=List.mem_singleton.1 hΦ;exact hx)) ?_;intro a S;refine mJ ?_;intro a S;refine cM (dX b r wr) S (jm b r wr 1 (by decide) _ hc hl (S.it (dX b r wr)) (S.bU (dX b r wr) (S.mem.fact (av r.p r.bs)))) rfl ?_;rintro _ a w ⟨rfl,hh⟩ hS;have S:=hS (dX b (ai r 1) wr) hh (fun k h=>.inl h);clear hS;obtain ⟨nn,sC⟩:∃ nn,nn=oe r:=⟨_,rfl⟩;have xD:=vV r;rw[show aV (aM r 1) 0=nn from sC.symm]at S;rw[←sC]at xD;replace S:=S.add (Φ:=av (ai r 1).p (ai r 1).bs) (cj hc (S.mem.fact (av r.p r.bs)));have dZ:=cK.take r 1;have lR:=dZ.cap hc;have nw:=dZ.len;refine cM (dX b (ai r 1) wr) S (D3 b (ai r 1) wr nn _ (by omega) lR (by omega) (S.it (dX b (ai r 1) wr))) rfl ?_;rintro _ a w ⟨rfl,hh⟩ hS;have S:=hS (dX b (ai (ai r 1) nn) wr) hh (fun k h=>.inl h);clear hS;replace S:=S.add (Φ:=av (mI (ai r 1) nn) (aM (ai r 1) nn)) (z7 (S.mem.fact (av (ai r 1).p (ai r 1).bs)));replace S:=S.add (Φ:=iE (mI (ai r 1) nn) (aa (aM (ai r 1) nn))) ((S.mem.fact (av (mI (ai r 1) nn) (aM (ai r 1) nn))).imp fun _ h=>h.1);have TD:eu (aM (ai r 1) nn) (aM (ai r 1) nn).length:=⟨rfl⟩;refine J5 ?_;intro a S;have hh:=S.it (dX b (ai (ai r 1) nn) wr);refine aD S (fun _=>?_);rw[show dL r=aM (ai r 1) nn from by rw[dL,sC],show aZ r=ai (ai r 1) nn from by rw[aZ,sC]]
 exact ⟨rfl,hh⟩
theorem KU {raw:List UInt8}{t:Term}{j k:Nat}{e:Int}(h:Ox raw 0 60 1200 t j k e):t=(fX raw).1∧(decide (e=0)&&decide (j=raw.length))=(fX raw).2:=by
 rcases h with ⟨rfl,hd,hk,hj⟩ | ⟨hd,he,rfl,rfl,rfl⟩
 rw[List.drop_zero]at hd;rw[fX,hd];refine ⟨rfl,?_⟩
 show (true&&decide (j=raw.length))=decide (raw.drop j=[])
 rw[Bool.true_and,decide_eq_decide,List.drop_eq_nil_iff];omega;rw[List.drop_zero]at hd;rw[fX,hd];exact ⟨rfl,by rw[decide_eq_false he];rfl⟩
def Rh (M:Nat→Prop)(b:Nat)(r:RS)(wr:Bool)(v:Value)(w:World):Prop:=∃ z:ak,v=vL z∧((cI r.ab).2.1=true→z.t=(cI r.ab).1)∧(dX b (ei r) (wr||!(cI r.ab).2.1)).holds w∧(∀ k,(dX b (ei r) (wr||!(cI r.ab).2.1)).aj k→k=b)∧ag (fun k=>k=b∨M k) w (dc z)
theorem KV (b:Nat)(r:RS)(wr:Bool)(M:Nat→Prop)(w0:World)(hM:∀ k,M k→k < w0.heap.size∧¬(dX b r wr).aj k)(hc:r.bs.length≤r.c)(hl:r.bs.length≤10000000)(hd:(dX b r wr).holds w0)(hx:ag (fun k=>(dX b r wr).aj k∨M k) w0 (av r.p r.bs)) :
  aT prog 227 [.pointer (some ⟨b,0,none⟩)] w0 (dX b r wr).aj fun v w'=>Rh M b r wr v w':=by
 have BK:=rE r;refine E1 func227 rfl ntmps227 ((Wd.ij (x:=dX b r wr) (Mr:=M) (fs:=[av r.p r.bs]) hd hM (by simpa using hx))) ?_;intro a S;refine kS (kR ?_);refine sa S ?_;intro b2 a w S;refine J6 ?_;intro a S;refine cM (dX b r wr) S (jm b r wr 4 (by decide) _ hc hl (S.it (dX b r wr)) (S.bU (dX b r wr) (S.mem.fact (av r.p r.bs)))) rfl ?_;rintro _ a w ⟨rfl,hh⟩ hS;have S:=hS (dX b (ai r 4) wr) hh (fun k h=>.inl h);clear hS;obtain ⟨nn,sC⟩:∃ nn,nn=og r:=⟨_,rfl⟩;have xD:nn < 4294967296:=by
  have:=(ck r 4 (by decide)).2;rw[show (256:Nat) ^ 4=4294967296 from by decide]at this;rw[sC,og];exact this
 rw[show aV (aM r 4) 0=nn from sC.symm]at S;replace S:=S.add (Φ:=av (ai r 4).p (ai r 4).bs) (cj hc (S.mem.fact (av r.p r.bs)));have dZ:=cK.take r 4;have lR:=dZ.cap hc;have nw:=dZ.len;refine cM (dX b (ai r 4) wr) S (D3 b (ai r 4) wr nn _ (by omega) lR (by omega) (S.it (dX b (ai r 4) wr))) rfl ?_;rintro _ a w ⟨rfl,hh⟩ hS;rw[show ai (ai r 4) nn=ei r from by rw[ei,sC]]at hh;have S:=hS (dX b (ei r) wr) hh (fun k h=>.inl h);clear hS;have WA:=Ca (k:=nn) lR;have Lc:=(me (ai r 4) nn).2;replace S:=S.add (Φ:=av (mI (ai r 4) nn) (aM (ai r 4) nn)) (z7 (S.mem.fact (av (ai r 4).p (ai r 4).bs)));obtain ⟨raw,BL⟩:∃ raw,raw=aM (ai r 4) nn:=⟨_,rfl⟩;have hrw:vW r=raw:=by rw[vW,BL,sC]
 rw[←BL]at S WA Lc;obtain ⟨q,hq⟩:∃ q,q=mI (ai r 4) nn:=⟨_,rfl⟩;rw[←hq]at S;rw[hrw]at BK;refine jq ?_;intro a S;refine kC S (fun h2=>?_) (fun h2=>?_);refine Y8 ?_;intro a w S;have hw:(ei r).why≠0:=by simpa using h2
 rw[if_pos hw]at BK;have hh:=S.it (dX b (ei r) wr);refine aD S (fun _=>⟨eO,rfl,fun _=>by rw[BK];rfl,?_,fun k hk=>hk,fun _ _=>eF _⟩);rw[BK,show (wr||!true)=wr from by cases wr <;> rfl];exact hh;refine J5 ?_;intro a S;have hw:(ei r).why=0:=by simpa using h2
 rw[if_neg (fun h=>h hw)]at BK;refine sr S (Qw _ 60 1200 0 raw q raw.length (wC (ai r 4) nn) _ w (Nat.lt_succ_self _) (by decide) (by decide) rfl (by omega) WA (Nat.zero_le _) (a_ S) (S.mem.fact (av q raw))) ?_;rintro _ a w ⟨z,j,k,e,rfl,hda,w5⟩ S;replace S:=S.add w5;obtain ⟨Ti,hz2⟩:=KU hda;have hj:j≤raw.length:=by
  rcases hda with ⟨-,-,-,h⟩ | ⟨-,-,-,h,-⟩
  exact h;omega
 refine J5 ?_;intro a S;refine sa S ?_;intro b4 a w S;refine Rs ?_;intro a w S;refine kC S (fun h5=>?_) (fun h5=>?_);refine WQ ?_;intro a w S;have hok:(fX raw).2=false:=by
  rw[←hz2];simp only[Bool.or_eq_true,Bool.not_eq_true',decide_eq_false_iff_not]at h5;rcases h5 with h5 | h5
  rw[decide_eq_false h5];rfl;rw[decide_eq_false (show ¬j=raw.length by omega),Bool.and_false]
 have hh:=S.it (dX b (ei r) true);refine aD S (fun _=>⟨eO,rfl,fun h=>?_,?_,fun k hk=>hk,fun _ _=>eF _⟩);rw[BK]at h;exact absurd (hok.symm.trans h) (by decide);rw[BK,hok,show (wr||!false)=true from by cases wr <;> rfl];exact hh;refine Y9 ?_;intro a w S;have hok:(fX raw).2=true:=by
  rw[←hz2];simp only[Bool.or_eq_false_iff,Bool.not_eq_false',decide_eq_true_eq]at h5;rw[decide_eq_true h5.1,decide_eq_true (show j=raw.length by omega)];rfl
 have hh:=S.it (dX b (ei r) wr);have hst:ag (fun k=>k=b∨M k) w (dc z):=(S.t z).less fun _ _ hk=>hk.elim (fun h=>⟨dX b (ei r) wr,pJ.mem,h⟩) (fun h=>⟨ext M,lG.mem,h⟩)
 refine aD S (fun _=>⟨z,rfl,fun _=>by rw[BK];exact Ti,?_,fun k hk=>hk,hst⟩);rw[BK,hok,show (wr||!true)=wr from by cases wr <;> rfl];exact hh
section
variable {P:Program}{r:Option Nat}{ops:Array Oper}{C:World→Prop}{R:Act→World→Prop}{w0:World}{M0:Nat→Prop}{ds:List Deferred}{a:Act}{w:World}{l l':List Value}{bs:List Wk.Item}{fs dz:List (World→Prop)}{d:Option Nat}{op:Op}{ty:TypeId}{pos:String}{af:Array Edge}{i j g:Nat}
theorem Cc {ord:List (Nat × Bool)}{eD:List Wk.Item}(S:St w0 M0 ds a w l bs fs)[hb:dj eD bs][hf:dj dz fs][ho:jL ops i ⟨d,op,ty,pos,af,some (j,false)⟩][hg:nr ops j g][hn:pF l g (.bool true)][hp:cZ l d undef l']
  (K:∀ a,St w0 M0 ds a w l' bs fs→AQ P ops (fun w=>Wd w0 M0 w eD dz) R ord a w) :
  AQ P ops (fun w=>Wd w0 M0 w eD dz) R ((i,true)::ord) a w:=by
 intro listed hs aS;simp only[hU,Bool.and_eq_true]at aS;have hw:=e_ (ops:=ops) (d:=d) (op:=op) (ty:=ty) (pos:=pos) (af:=af) (kZ:=false) S hg.eq;refine nL ho.eq (Region.noSelect_spec hs) _ listed a w (Region.free_spec ho.eq aS.1.2) (by simpa using aS.1.1) (v:=undef) (.inr ⟨?_,rfl⟩) (S.wd.sub hb.sub hf.sub) (K _ S.put _ hs aS.2);cases hx:Region.wanted _ (yielded ops a.tmps) with
 | true=>have:=hw.1 hx;simp at this
 | false=>rfl
end
abbrev Nt:List Value:=[.int .i64 0,.int .i64 0,.int .i64 0,.int .i64 0,.slice none 0 0,.slice none 0 0,.slice none 0 0]
theorem wD {N k:Nat}{r:RS}(hk:k < N)(hw:r.why=0):cC (N - k) r.ab=((eL r.ab).1::(cC (N - (k+1)) (eL r.ab).2).1,(cC (N - (k+1)) (eL r.ab).2).2):=by
 rw[show N - k=(N - (k+1))+1 from by omega,cC,if_neg (by rw[RS.lN];exact fun h=>h hw)]
theorem D4 {N k:Nat}{r:RS}(hk:k < N)(hw:r.why=0):cT (N - k) r.ab=((eA r.ab).1::(cT (N - (k+1)) (eA r.ab).2.2).1,(eA r.ab).2.1&&(cT (N - (k+1)) (eA r.ab).2.2).2.1,(cT (N - (k+1)) (eA r.ab).2.2).2.2):=by
 rw[show N - k=(N - (k+1))+1 from by omega,cT,if_neg (by rw[RS.lN];exact fun h=>h hw)]
theorem z8 {k N:Nat}{r:RS}(hk:k≤N)(h:(decide ((k:Int) < (N:Int))&&!!decide (r.why=0))=false):N - k=0∨r.why≠0:=by
 by_cases h1:k < N
 right;rw[decide_eq_true (show (k:Int) < (N:Int) by omega),Bool.true_and,Bool.not_not]at h;exact of_decide_eq_false h;left;omega
set_option maxHeartbeats 8000000 in
theorem s6 (bs:List UInt8)(p:Option Addr)(n c:Nat)(M:Nat→Prop)(w0:World)(hn:bs.length=n)(hl:n≤10000000)(UZ:n≤c)(hM:∀ k,M k→k < w0.heap.size)(hf:ag M w0 (av p bs)) :
    aT prog 150 [.slice p n c] w0 (fun _=>False) fun v w'=>OB M bs v w':=by
  subst hn;obtain ⟨r0,Af⟩:∃ r0:RS,r0=⟨p,c,bs,0⟩:=⟨_,rfl⟩;have hab:r0.ab=(bs,false):=by rw[Af];rfl
  have hc0:r0.bs.length≤r0.c:=by rw[Af];exact UZ
  have RQ:r0.bs.length≤10000000:=by rw[Af];exact hl
  obtain ⟨r1,Av⟩:∃ r1,r1=ai r0 1:=⟨_,rfl⟩;obtain ⟨r2,E6⟩:∃ r2,r2=ai r1 2:=⟨_,rfl⟩;obtain ⟨r3,Ua⟩:∃ r3,r3=ai r2 2:=⟨_,rfl⟩;obtain ⟨r4,hr4⟩:∃ r4,r4=ai r3 2:=⟨_,rfl⟩;obtain ⟨r5,RZ⟩:∃ r5,r5=ai r4 1:=⟨_,rfl⟩;have q1:cK r0 r1:=Av▸cK.take r0 1;have q2:cK r1 r2:=E6▸cK.take r1 2;have q3:cK r2 r3:=Ua▸cK.take r2 2;have q4:cK r3 r4:=hr4▸cK.take r3 2;have q5:cK r4 r5:=RZ▸cK.take r4 1;have c1:=q1.cap hc0;have c2:=q2.cap c1;have c3:=q3.cap c2;have c4:=q4.cap c3;have c5:=q5.cap c4;have l1:=q1.len;have l2:=q2.len;have l3:=q3.len;have l4:=q4.len;have l5:=q5.len;obtain ⟨n1,wG⟩:∃ n1,n1=aV (aM r0 1) 0:=⟨_,rfl⟩;obtain ⟨n2,hn2⟩:∃ n2,n2=aV (aM r1 2) 0:=⟨_,rfl⟩;obtain ⟨n3,Cu⟩:∃ n3,n3=aV (aM r2 2) 0:=⟨_,rfl⟩;obtain ⟨n4,Np⟩:∃ n4,n4=aV (aM r3 2) 0:=⟨_,rfl⟩;obtain ⟨N1,QI⟩:∃ N1,N1=aV (aM r4 1) 0:=⟨_,rfl⟩;have ZX:N1 < 256:=by rw[QI];exact (ck r4 1 (by decide)).2
  have t1:Lf bs=(aM r0 1,r1.ab):=by rw[Lf,←hab,Av];exact Prod.ext (eP r0 1).1.symm (eP r0 1).2.symm
  have t2:GP bs=(aM r1 2,r2.ab):=by rw[GP,t1,E6];exact Prod.ext (eP r1 2).1.symm (eP r1 2).2.symm
  have t3:GQ bs=(aM r2 2,r3.ab):=by rw[GQ,t2,Ua];exact Prod.ext (eP r2 2).1.symm (eP r2 2).2.symm
  have t4:Fm bs=(aM r3 2,r4.ab):=by rw[Fm,t3,hr4];exact Prod.ext (eP r3 2).1.symm (eP r3 2).2.symm
  have t5:Fo bs=(aM r4 1,r5.ab):=by rw[Fo,t4,RZ];exact Prod.ext (eP r4 1).1.symm (eP r4 1).2.symm
  have ts1:Al bs=cC N1 r5.ab:=by rw[Al,t5,QI]
  refine E1 func150 rfl ntmps150 (Wd.fE (M:=M) (fs:=[av p bs]) hM (by simpa using hf)) ?_;intro a S;refine kS (kR ?_);refine sa S ?_;intro b2 a w S;refine J7 ?_;intro a S;refine sa S ?_;intro fz a w S;refine J4 ?_;intro a S;rw[show Wk.box fz 288 [.slice p bs.length c,.bool false,.bool false]=dX fz r0 false from by rw[Af];rfl]at S;replace S:=S.add (Φ:=av r0.p r0.bs) (show ag _ w (av r0.p r0.bs) from by
    have h1:=S.mem.fact (av p bs);rw[show av r0.p r0.bs=av p bs from by rw[Af]];exact h1)
  refine J2 ?_;intro a S;refine cM (dX fz r0 false) S (jm fz r0 false 1 (by decide) _ hc0 RQ (S.it (dX fz r0 false)) (S.bU (dX fz r0 false) (S.mem.fact (av r0.p r0.bs)))) rfl ?_;rintro _ a w ⟨rfl,hh⟩ hS;have S:=hS (dX fz (ai r0 1) false) hh (fun k h=>.inl h);clear hS;rw[←wG,←Av]at S;replace S:=S.add (Φ:=av r1.p r1.bs) ((S.mem.fact (av r0.p r0.bs)).imp fun _ h=>q1.gl hc0 _ h);refine J1 ?_;intro a S;refine cM (dX fz r1 false) S (jm fz r1 false 2 (by decide) _ c1 (by omega) (S.it (dX fz r1 false)) (S.bU (dX fz r1 false) (S.mem.fact (av r1.p r1.bs)))) rfl ?_;rintro _ a w ⟨rfl,hh⟩ hS;have S:=hS (dX fz (ai r1 2) false) hh (fun k h=>.inl h);clear hS;rw[←hn2,←E6]at S;replace S:=S.add (Φ:=av r2.p r2.bs) ((S.mem.fact (av r1.p r1.bs)).imp fun _ h=>q2.gl c1 _ h);refine J1 ?_;intro a S;refine cM (dX fz r2 false) S (jm fz r2 false 2 (by decide) _ c2 (by omega) (S.it (dX fz r2 false)) (S.bU (dX fz r2 false) (S.mem.fact (av r2.p r2.bs)))) rfl ?_;rintro _ a w ⟨rfl,hh⟩ hS;have S:=hS (dX fz (ai r2 2) false) hh (fun k h=>.inl h);clear hS;rw[←Cu,←Ua]at S;replace S:=S.add (Φ:=av r3.p r3.bs) ((S.mem.fact (av r2.p r2.bs)).imp fun _ h=>q3.gl c2 _ h);refine J1 ?_;intro a S;refine cM (dX fz r3 false) S (jm fz r3 false 2 (by decide) _ c3 (by omega) (S.it (dX fz r3 false)) (S.bU (dX fz r3 false) (S.mem.fact (av r3.p r3.bs)))) rfl ?_;rintro _ a w ⟨rfl,hh⟩ hS;have S:=hS (dX fz (ai r3 2) false) hh (fun k h=>.inl h);clear hS
  rw[←Np,←hr4]at S;replace S:=S.add (Φ:=av r4.p r4.bs) ((S.mem.fact (av r3.p r3.bs)).imp fun _ h=>q4.gl c3 _ h);refine J1 ?_;intro a S;refine sa S ?_;intro b5 a w S;refine Y7 ?_;intro a w S;refine cM (dX fz r4 false) S (jm fz r4 false 1 (by decide) _ c4 (by omega) (S.it (dX fz r4 false)) (S.bU (dX fz r4 false) (S.mem.fact (av r4.p r4.bs)))) rfl ?_;rintro _ a w ⟨rfl,hh⟩ hS;have S:=hS (dX fz (ai r4 1) false) hh (fun k h=>.inl h);clear hS;rw[←QI,←RZ]at S;replace S:=S.add (Φ:=av r5.p r5.bs) ((S.mem.fact (av r4.p r4.bs)).imp fun _ h=>q5.gl c4 _ h);refine J5 ?_;intro a S;refine qI S (fun(k:Nat) (xs:List aH) (q:Option Addr) (d:Nat) (r:RS) uu=>[(6,.int .i64 (k:Nat)),(1,uu 8),(20,uu 29),(0,uu 30),(0,uu 31),(0,uu 32),(0,uu 33),(0,uu 34),(0,uu 35),(0,uu 36),(0,uu 37),(0,uu 38),(0,uu 39),(0,uu 40),(0,uu 41),(0,uu 42),(0,uu 43),(0,uu 44),(0,uu 45),(0,uu 46),(0,uu 47),(0,uu 48),(0,uu 49),(0,uu 50),(0,uu 51),(0,uu 52)]) (fun(k:Nat) (xs:List aH) (q:Option Addr) (d:Nat) (r:RS)=>[Wk.box b5 67 [.int .i64 (n1:Nat),.int .i64 (n2:Nat),.int .i64 (n3:Nat),.int .i64 (n4:Nat),.slice q xs.length d,.slice none 0 0,.slice none 0 0],Wk.row 175 2 q xs.length d (aa xs),dX fz r false,Wk.box b2 67 Nt,ext M]) (fun(k:Nat) (xs:List aH) (q:Option Addr) (d:Nat) (r:RS)=>[av r.p r.bs,av p bs]) (fun(k:Nat) (xs:List aH) (q:Option Addr) (d:Nat) (r:RS)=>k≤N1∧k=xs.length∧Al bs=(xs++(cC (N1 - k) r.ab).1,(cC (N1 - k) r.ab).2)∧r.bs.length≤r.c∧r.bs.length≤10000000∧∀ x∈xs,x.key.length≤1000) (fun(k:Nat) (xs:List aH) (q:Option Addr) (d:Nat) (r:RS)=>N1 - k) (0) ([]) (none) (0) (r5) ?_ S.uu ?_ ?_
  · exact ⟨Nat.zero_le _,rfl,ts1,c5,by omega,nofun⟩
  · replace S:=S.cP 175 2
    rw[show Wk.row 175 2 none 0 0 []=Wk.row 175 2 none 0 0 (aa ([]:List aH)) from rfl]at S;replace S:=S.front (Wk.box b5 67 [.int .i64 (n1:Nat),.int .i64 (n2:Nat),.int .i64 (n3:Nat),.int .i64 (n4:Nat),.slice none 0 0,.slice none 0 0,.slice none 0 0]);exact S.sub _ _
  · clear S;rintro k xs q d r uu a w ⟨hk,Tn,aI,hrc,hrl,hkey⟩ S
    refine tI ?_;intro a S;refine kC S (fun h4=>?_) (fun h4=>?_)
    · refine kK (aQ (kS (kB (kS ?_))))
      have E5:k < N1∧r.why=0:=by
        simp only[Bool.and_eq_true,decide_eq_true_eq,Bool.not_not]at h4;exact ⟨by omega,h4.2⟩
      have hst:=wD E5.1 E5.2;have hmk:=rD r;have dZ:=oY r;have lR:=dZ.cap hrc;have nw:=dZ.len;have j0:=cK.take (aZ r) 2;have Ak:=j0.cap lR;have rU:=j0.len;refine J2 ?_;intro a S;refine cM (dX fz r false) S (FD fz r false _ hrc hrl (S.it (dX fz r false)) (S.bU (dX fz r false) (S.mem.fact (av r.p r.bs)))) rfl ?_;rintro _ a w ⟨rfl,hh⟩ hS;have S:=hS (dX fz (aZ r) false) hh (fun k h=>.inl h);clear hS;replace S:=S.add (Φ:=av (aZ r).p (aZ r).bs) ((S.mem.fact (av r.p r.bs)).imp fun _ h=>dZ.gl hrc _ h);refine J1 ?_;intro a S;refine sa S ?_;intro b8 a w S;refine Y6 ?_;intro a w S;refine cM (dX fz (aZ r) false) S (jm fz (aZ r) false 2 (by decide) _ lR (by omega) (S.it (dX fz (aZ r) false)) (S.bU (dX fz (aZ r) false) (S.mem.fact (av (aZ r).p (aZ r).bs)))) rfl ?_;rintro _ a w ⟨rfl,hh⟩ hS;have S:=hS (dX fz (ai (aZ r) 2) false) hh (fun k h=>.inl h);clear hS;replace S:=S.add (Φ:=av (ai (aZ r) 2).p (ai (aZ r) 2).bs) ((S.mem.fact (av (aZ r).p (aZ r).bs)).imp fun _ h=>j0.gl lR _ h);obtain ⟨m2,hm2⟩:∃ m2,m2=aV (aM (aZ r) 2) 0:=⟨_,rfl⟩;rw[←hm2]at S hmk;refine Y8 ?_;intro a w S;refine sn S ?_;intro b50 a w S;replace S:=S.bT b50 2 1 rfl (by decide);rw[show [str (dL r),.int .i64 (m2:Int)]=aa [(⟨dL r,m2⟩:aH)] from rfl]at S;refine gA S (by simp[maxLen];omega) (by omega) ?_;rintro p8 c8 a w - S;rw[←aC,show xs.length+1=(xs++[(⟨dL r,m2⟩:aH)]).length from by simp]at S
      refine yA ?_;intro a w S;rw[w6 ((k:Int)+1),show (k:Int)+1=((k+1:Nat):Int) from rfl]at S;refine ⟨k+1,xs++[⟨dL r,m2⟩],p8,c8,ai (aZ r) 2,S.uu,⟨E5.1,by simp[Tn],?_,Ak,by omega,fun x hx=>?_⟩,?_,by omega⟩
      · rw[aI,hst,hmk,List.append_assoc];rfl
      · rcases List.mem_append.1 hx with h | h
        · exact hkey x h
        · rw[List.mem_singleton.1 h];have:=sE r;show (dL r).length≤1000;omega
      · replace S:=(S.front (Wk.row 175 2 p8 (xs++[(⟨dL r,m2⟩:aH)]).length c8 (aa (xs++[(⟨dL r,m2⟩:aH)])))).front (Wk.box b5 67 [.int .i64 (n1:Nat),.int .i64 (n2:Nat),.int .i64 (n3:Nat),.int .i64 (n4:Nat),.slice p8 (xs++[(⟨dL r,m2⟩:aH)]).length c8,.slice none 0 0,.slice none 0 0])
        exact S.sub _ _
    · refine kE (fT (fT (mM (aQ (kS (kS ?_))))))
      have hend:=ni (z8 hk h4);rw[hend,List.append_nil]at aI;have hx1:xs.length≤1000:=by omega
      obtain ⟨ra,OC⟩:∃ ra,ra=ai r 1:=⟨_,rfl⟩;have qa:cK r ra:=OC▸cK.take r 1;have ca:=qa.cap hrc;have la:=qa.len;obtain ⟨N2,QL⟩:∃ N2,N2=aV (aM r 1) 0:=⟨_,rfl⟩;have ZY:N2 < 256:=by rw[QL];exact (ck r 1 (by decide)).2
      have ta:DI bs=(aM r 1,ra.ab):=by rw[DI,aI,OC];exact Prod.ext (eP r 1).1.symm (eP r 1).2.symm
      have ts2:zM bs=cC N2 ra.ab:=by rw[zM,ta,QL]
      refine J2 ?_;intro a S;refine cM (dX fz r false) S (jm fz r false 1 (by decide) _ hrc hrl (S.it (dX fz r false)) (S.bU (dX fz r false) (S.mem.fact (av r.p r.bs)))) rfl ?_;rintro _ a w ⟨rfl,hh⟩ hS;have S:=hS (dX fz (ai r 1) false) hh (fun k h=>.inl h);clear hS;rw[←QL,←OC]at S;replace S:=S.add (Φ:=av ra.p ra.bs) ((S.mem.fact (av r.p r.bs)).imp fun _ h=>qa.gl hrc _ h);refine J5 ?_;intro a S;refine qI S (fun(j:Nat) (ys:List aH) (q2:Option Addr) (d2:Nat) (rb:RS) uu=>[(9,.int .i64 (j:Nat)),(1,uu 11),(43,uu 55),(0,uu 56),(0,uu 57),(0,uu 58),(0,uu 59),(0,uu 60),(0,uu 61),(0,uu 62),(0,uu 63),(0,uu 64),(0,uu 65),(0,uu 66),(0,uu 67),(0,uu 68),(0,uu 69),(0,uu 70),(0,uu 71),(0,uu 72),(0,uu 73),(0,uu 74),(0,uu 75),(0,uu 76),(0,uu 77),(0,uu 78)]) (fun(j:Nat) (ys:List aH) (q2:Option Addr) (d2:Nat) (rb:RS)=>[Wk.box b5 67 [.int .i64 (n1:Nat),.int .i64 (n2:Nat),.int .i64 (n3:Nat),.int .i64 (n4:Nat),.slice q xs.length d,.slice q2 ys.length d2,.slice none 0 0],Wk.row 177 2 q2 ys.length d2 (aa ys),Wk.row 175 2 q xs.length d (aa xs),dX fz rb false,Wk.box b2 67 Nt,ext M]) (fun(j:Nat) (ys:List aH) (q2:Option Addr) (d2:Nat) (rb:RS)=>[av rb.p rb.bs,av p bs]) (fun(j:Nat) (ys:List aH) (q2:Option Addr) (d2:Nat) (rb:RS)=>j≤N2∧j=ys.length∧zM bs=(ys++(cC (N2 - j) rb.ab).1,(cC (N2 - j) rb.ab).2)∧rb.bs.length≤rb.c∧rb.bs.length≤10000000∧∀ x∈ys,x.key.length≤1000) (fun(j:Nat) (ys:List aH) (q2:Option Addr) (d2:Nat) (rb:RS)=>N2 - j) (0) ([]) (none) (0) (ra) ?_ S.uu ?_ ?_
      · exact ⟨Nat.zero_le _,rfl,ts2,ca,by omega,nofun⟩
      · replace S:=S.cP 177 2
        rw[show Wk.row 177 2 none 0 0 []=Wk.row 177 2 none 0 0 (aa ([]:List aH)) from rfl]at S;replace S:=S.front (Wk.box b5 67 [.int .i64 (n1:Nat),.int .i64 (n2:Nat),.int .i64 (n3:Nat),.int .i64 (n4:Nat),.slice q xs.length d,.slice none 0 0,.slice none 0 0]);exact S.sub _ _
      · clear S;rintro j ys q2 d2 rb uu a w ⟨hj,hjy,fu,hbc,wH,OL⟩ S
        refine tI ?_;intro a S;refine kC S (fun gi=>?_) (fun gi=>?_)
        · refine kK (aQ (kS (kB (kS ?_))))
          have VX:j < N2∧rb.why=0:=by
            simp only[Bool.and_eq_true,decide_eq_true_eq,Bool.not_not]at gi;exact ⟨by omega,gi.2⟩
          have hst:=wD VX.1 VX.2;have hmk:=rD rb;have dZ:=oY rb;have lR:=dZ.cap hbc;have nw:=dZ.len;have j0:=cK.take (aZ rb) 2;have Ak:=j0.cap lR;have rU:=j0.len;refine J2 ?_;intro a S;refine cM (dX fz rb false) S (FD fz rb false _ hbc wH (S.it (dX fz rb false)) (S.bU (dX fz rb false) (S.mem.fact (av rb.p rb.bs)))) rfl ?_;rintro _ a w ⟨rfl,hh⟩ hS;have S:=hS (dX fz (aZ rb) false) hh (fun k h=>.inl h);clear hS;replace S:=S.add (Φ:=av (aZ rb).p (aZ rb).bs) ((S.mem.fact (av rb.p rb.bs)).imp fun _ h=>dZ.gl hbc _ h);refine J1 ?_;intro a S;refine sa S ?_;intro Zt a w S;refine Y6 ?_;intro a w S;refine cM (dX fz (aZ rb) false) S (jm fz (aZ rb) false 2 (by decide) _ lR (by omega) (S.it (dX fz (aZ rb) false)) (S.bU (dX fz (aZ rb) false) (S.mem.fact (av (aZ rb).p (aZ rb).bs)))) rfl ?_;rintro _ a w ⟨rfl,hh⟩ hS;have S:=hS (dX fz (ai (aZ rb) 2) false) hh (fun k h=>.inl h);clear hS;replace S:=S.add (Φ:=av (ai (aZ rb) 2).p (ai (aZ rb) 2).bs) ((S.mem.fact (av (aZ rb).p (aZ rb).bs)).imp fun _ h=>j0.gl lR _ h);obtain ⟨m2,hm2⟩:∃ m2,m2=aV (aM (aZ rb) 2) 0:=⟨_,rfl⟩;rw[←hm2]at S hmk;refine Y8 ?_;intro a w S;refine sn S ?_;intro b76 a w S;replace S:=S.bT b76 2 1 rfl (by decide);rw[show [str (dL rb),.int .i64 (m2:Int)]=aa [(⟨dL rb,m2⟩:aH)] from rfl]at S;refine gA S (by simp[maxLen];omega) (by omega) ?_;rintro p8 c8 a w - S;rw[←aC,show ys.length+1=(ys++[(⟨dL rb,m2⟩:aH)]).length from by simp]at S
          refine yA ?_;intro a w S;rw[w6 ((j:Int)+1),show (j:Int)+1=((j+1:Nat):Int) from rfl]at S;refine ⟨j+1,ys++[⟨dL rb,m2⟩],p8,c8,ai (aZ rb) 2,S.uu,⟨VX.1,by simp[hjy],?_,Ak,by omega,fun x hx=>?_⟩,?_,by omega⟩
          · rw[fu,hst,hmk,List.append_assoc];rfl
          · rcases List.mem_append.1 hx with h | h
            · exact OL x h
            · rw[List.mem_singleton.1 h];have:=sE rb;show (dL rb).length≤1000;omega
          · replace S:=(S.front (Wk.row 177 2 p8 (ys++[(⟨dL rb,m2⟩:aH)]).length c8 (aa (ys++[(⟨dL rb,m2⟩:aH)])))).front (Wk.box b5 67 [.int .i64 (n1:Nat),.int .i64 (n2:Nat),.int .i64 (n3:Nat),.int .i64 (n4:Nat),.slice q xs.length d,.slice p8 (ys++[(⟨dL rb,m2⟩:aH)]).length c8,.slice none 0 0])
            exact S.sub _ _
        · refine kE (fT (fT (mM (aQ (kS (kS ?_))))))
          have hend:=ni (z8 hj gi);rw[hend,List.append_nil]at fu;have hy1:ys.length≤1000:=by omega
          obtain ⟨rc,Ri⟩:∃ rc,rc=ai rb 1:=⟨_,rfl⟩;have qc:cK rb rc:=Ri▸cK.take rb 1;have cc:=qc.cap hbc;have lc:=qc.len;obtain ⟨N3,Nc⟩:∃ N3,N3=aV (aM rb 1) 0:=⟨_,rfl⟩;have ZZ:N3 < 256:=by rw[Nc];exact (ck rb 1 (by decide)).2
          have tc:Fp bs=(aM rb 1,rc.ab):=by rw[Fp,fu,Ri];exact Prod.ext (eP rb 1).1.symm (eP rb 1).2.symm
          have ts3:pN bs=cT N3 rc.ab:=by rw[pN,tc,Nc]
          refine J2 ?_;intro a S;refine cM (dX fz rb false) S (jm fz rb false 1 (by decide) _ hbc wH (S.it (dX fz rb false)) (S.bU (dX fz rb false) (S.mem.fact (av rb.p rb.bs)))) rfl ?_;rintro _ a w ⟨rfl,hh⟩ hS;have S:=hS (dX fz (ai rb 1) false) hh (fun k h=>.inl h);clear hS;rw[←Nc,←Ri]at S;replace S:=S.add (Φ:=av rc.p rc.bs) ((S.mem.fact (av rb.p rb.bs)).imp fun _ h=>qc.gl hbc _ h);refine J5 ?_;intro a S;refine tO S (fun(i:Nat) (zs:List aK) (q3:Option Addr) (d3:Nat) (rd:RS) (wr:Bool) uu=>[(12,.int .i64 (i:Nat)),(1,uu 14),(66,uu 81),(0,uu 82),(0,uu 83),(0,uu 84),(0,uu 85),(0,uu 86),(0,uu 87),(0,uu 88),(0,uu 89),(0,uu 90),(0,uu 91),(0,uu 92),(0,uu 93),(0,uu 94),(0,uu 95),(0,uu 96),(0,uu 97),(0,uu 98),(0,uu 99),(0,uu 100),(0,uu 101),(0,uu 102),(0,uu 103),(0,uu 104),(0,uu 105),(0,uu 106)]) (fun(i:Nat) (zs:List aK) (q3:Option Addr) (d3:Nat) (rd:RS) (wr:Bool)=>[Wk.box b5 67 [.int .i64 (n1:Nat),.int .i64 (n2:Nat),.int .i64 (n3:Nat),.int .i64 (n4:Nat),.slice q xs.length d,.slice q2 ys.length d2,.slice q3 zs.length d3],Wk.row 179 7 q3 zs.length d3 (aa zs),Wk.row 177 2 q2 ys.length d2 (aa ys),Wk.row 175 2 q xs.length d (aa xs),dX fz rd wr,Wk.box b2 67 Nt,ext M]) (fun(i:Nat) (zs:List aK) (q3:Option Addr) (d3:Nat) (rd:RS) (wr:Bool)=>[cA zs,av rd.p rd.bs,av p bs]) (fun(i:Nat) (zs:List aK) (q3:Option Addr) (d3:Nat) (rd:RS) (wr:Bool)=>i≤N3∧i=zs.length∧(pN bs).2.2=(cT (N3 - i) rd.ab).2.2∧(pN bs).2.1=(!wr&&(cT (N3 - i) rd.ab).2.1)∧(wr=false→(pN bs).1=cU zs++(cT (N3 - i) rd.ab).1)∧rd.bs.length≤rd.c∧rd.bs.length≤10000000) (fun(i:Nat) (zs:List aK) (q3:Option Addr) (d3:Nat) (rd:RS) (wr:Bool)=>N3 - i) (0) ([]) (none) (0) (rc) (false) ?_ S.uu ?_ ?_
          · exact ⟨Nat.zero_le _,rfl,by rw[ts3];rfl,by rw[ts3];rfl,fun _=>by rw[ts3];rfl,cc,by omega⟩
          · replace S:=S.cP 179 7
            replace S:=S.add (Φ:=cA ([]:List aK)) (fun _ _ _ hx=>by cases hx);rw[show Wk.row 179 7 none 0 0 []=Wk.row 179 7 none 0 0 (aa ([]:List aK)) from rfl]at S;replace S:=S.front (Wk.box b5 67 [.int .i64 (n1:Nat),.int .i64 (n2:Nat),.int .i64 (n3:Nat),.int .i64 (n4:Nat),.slice q xs.length d,.slice q2 ys.length d2,.slice none 0 0]);exact S.sub _ _
          · clear S;rintro i zs q3 d3 rd wr uu a w ⟨hi,hiz,zC,GO,QD,hdc,Tp⟩ S
            refine tI ?_;intro a S;refine kC S (fun Cv=>?_) (fun Cv=>?_)
            · refine kK (aQ (kS (kB (kS ?_))))
              have hi1:i < N3∧rd.why=0:=by
                simp only[Bool.and_eq_true,decide_eq_true_eq,Bool.not_not]at Cv;exact ⟨by omega,Cv.2⟩
              have hst:=D4 hi1.1 hi1.2;have dZ:=cK.take rd 1;have lR:=dZ.cap hdc;have nw:=dZ.len;have j0:=cK.take (ai rd 1) 2;have Ak:=j0.cap lR;have rU:=j0.len;obtain ⟨re,jC⟩:∃ re,re=ai (ai rd 1) 2:=⟨_,rfl⟩;rw[←jC]at j0 Ak rU;obtain ⟨m1,uD⟩:∃ m1,m1=aV (aM rd 1) 0:=⟨_,rfl⟩;obtain ⟨m2,hm2⟩:∃ m2,m2=aV (aM (ai rd 1) 2) 0:=⟨_,rfl⟩;have Kg:eA rd.ab=(⟨m1,m2,(cI re.ab).1⟩,(cI re.ab).2.1,(cI re.ab).2.2):=by
                obtain ⟨a1,a2⟩:=eP rd 1;obtain ⟨a3,a4⟩:=eP (ai rd 1) 2;rw[a2]at a3 a4;rw[eA,←a1,←a3,←a4,←uD,←hm2,←jC]
              have P8:(cI re.ab).2.2=(ei re).ab:=by rw[rE re];split <;> rfl
              have Le:cK re (ei re):=(cK.take re 4).trans (cK.take _ _);have Ub:=Le.cap Ak;have LY:=Le.len;refine J2 ?_;intro a S;refine cM (dX fz rd wr) S (jm fz rd wr 1 (by decide) _ hdc Tp (S.it (dX fz rd wr)) (S.bU (dX fz rd wr) (S.mem.fact (av rd.p rd.bs)))) rfl ?_;rintro _ a w ⟨rfl,hh⟩ hS;have S:=hS (dX fz (ai rd 1) wr) hh (fun k h=>.inl h);clear hS;rw[←uD]at S;replace S:=S.add (Φ:=av (ai rd 1).p (ai rd 1).bs) ((S.mem.fact (av rd.p rd.bs)).imp fun _ h=>dZ.gl hdc _ h);refine J1 ?_;intro a S;refine cM (dX fz (ai rd 1) wr) S (jm fz (ai rd 1) wr 2 (by decide) _ lR (by omega) (S.it (dX fz (ai rd 1) wr)) (S.bU (dX fz (ai rd 1) wr) (S.mem.fact (av (ai rd 1).p (ai rd 1).bs)))) rfl ?_;rintro _ a w ⟨rfl,hh⟩ hS;have S:=hS (dX fz (ai (ai rd 1) 2) wr) hh (fun k h=>.inl h);clear hS;rw[←hm2,←jC]at S;replace S:=S.add (Φ:=av re.p re.bs) ((S.mem.fact (av (ai rd 1).p (ai rd 1).bs)).imp fun _ h=>j0.gl lR _ h);refine J1 ?_;intro a S;refine sa S ?_;intro N5 a w S;refine Y6 ?_;intro a w S;refine kD (dX fz re wr) S (KV fz re wr (c_ _ (dX fz re wr)) w (S.dM _) Ak (by omega) (S.it (dX fz re wr)) ((S.mem.fact (av re.p re.bs)).split (dX fz re wr))) rfl ?_;rintro _ a w ⟨z,rfl,hz,hh,-,w5⟩ hS;have S:=hS (dX fz (ei re) (wr||!(cI re.ab).2.1)) [dc z] hh (fun k h=>.inl h) (by intro Φ hΦ;obtain rfl:=List.mem_singleton.1 hΦ;exact w5);clear hS;replace S:=S.add (Φ:=av (ei re).p (ei re).bs) ((S.mem.fact (av re.p re.bs)).imp fun _ h=>Le.gl Ak _ h)
              refine Y8 ?_;intro a w S;refine sn S ?_;intro b104 a w S;replace S:=S.bT b104 7 1 rfl (by decide);rw[show [.int .i64 (m1:Int),.int .i64 (m2:Int),.int .i64 z.kind,.int .i64 z.user,.int .i64 z.num,str z.text,.slice z.p z.kids.length z.cap]=aa [(⟨m1,m2,z⟩:aK)] from rfl]at S;refine gA S (by simp[maxLen];omega) (by omega) ?_;rintro p8 c8 a w - S;rw[←aC,show zs.length+1=(zs++[(⟨m1,m2,z⟩:aK)]).length from by simp]at S;refine yA ?_;intro a w S;rw[w6 ((i:Int)+1),show (i:Int)+1=((i+1:Nat):Int) from rfl]at S;replace S:=S.add (Φ:=cA (zs++[(⟨m1,m2,z⟩:aK)])) (cA.snoc (r:=(⟨m1,m2,z⟩:aK)) (S.mem.fact (cA zs)) (S.mem.fact (dc z)));refine ⟨i+1,zs++[⟨m1,m2,z⟩],p8,c8,ei re,wr||!(cI re.ab).2.1,S.uu,⟨hi1.1,by simp[hiz],?_,?_,fun hw=>?_,Ub,by omega⟩,?_,by omega⟩
              · rw[zC,hst,Kg,P8]
              · rw[GO,hst,Kg,P8];cases wr <;> cases (cI re.ab).2.1 <;> rfl
              · have wJ:wr=false∧(cI re.ab).2.1=true:=by simpa using hw
                have e2:cU (zs++[(⟨m1,m2,z⟩:aK)])=cU zs++[⟨m1,m2,(cI re.ab).1⟩]:=by rw[cU,cU,List.map_append,←hz wJ.2];rfl
                rw[QD wJ.1,hst,Kg,P8,e2,List.append_assoc];rfl
              · replace S:=(S.front (Wk.row 179 7 p8 (zs++[(⟨m1,m2,z⟩:aK)]).length c8 (aa (zs++[(⟨m1,m2,z⟩:aK)])))).front (Wk.box b5 67 [.int .i64 (n1:Nat),.int .i64 (n2:Nat),.int .i64 (n3:Nat),.int .i64 (n4:Nat),.slice q xs.length d,.slice q2 ys.length d2,.slice p8 (zs++[(⟨m1,m2,z⟩:aK)]).length c8])
                exact S.sub _ _
            · refine kE (fT (fT (mM (aQ (kS (kS ?_))))))
              have hend:=wg (z8 hi Cv);rw[hend]at zC GO QD;have Ti:zs.length≤1000:=by omega
              rw[Bool.and_true]at GO;replace QD:wr=false→(pN bs).1=cU zs:=fun h=>by rw[QD h,List.append_nil]
              obtain ⟨X,hX⟩:∃ X:aW,X=⟨n1,n2,n3,n4,q,d,xs,q2,d2,ys,q3,d3,zs⟩:=⟨_,rfl⟩;have WB:dY X:=by rw[hX];exact ⟨hx1,hy1,Ti,hkey,OL⟩
              have hMX:dV X:=⟨WB⟩;have hXm:wr=false→X.m=vY bs:=fun h=>by
                rw[hX,vY,t1,t2,t3,t4,aI,fu,QD h,←wG,←hn2,←Cu,←Np];rfl
              have OM:rd.why≠0→gL bs=(vZ,7):=fun h=>by rw[gL,if_pos (by rw[zC];exact RS.lN.2 h)]
              have Cd:rd.why=0→(wr||decide (0 < (rd.bs.length:Int))||!b_ X.m)=true→gL bs=(vZ,300):=fun hw h=>by
                have hno:¬(pN bs).2.2.2=true:=by rw[zC,RS.lN];exact fun h=>h hw
                rw[gL,if_neg hno,if_pos];cases RC:wr with
                | true=>left;rw[GO,RC];rfl
                | false=>
                  rw[RC,Bool.false_or,Bool.or_eq_true]at h;rcases h with h | h
                  · right;left;rw[zC];show 0 < rd.bs.length;have:=of_decide_eq_true h;omega
                  · right;right;rw[←hXm RC];simpa using h
              have s7:rd.why=0→(wr||decide (0 < (rd.bs.length:Int))||!b_ X.m)=false→gL bs=(X.m,0)∧b_ X.m=true∧aY X.m=bs:=fun hw h=>by
                have hno:¬(pN bs).2.2.2=true:=by rw[zC,RS.lN];exact fun h=>h hw
                simp only[Bool.or_eq_false_iff,Bool.not_eq_false']at h;obtain ⟨⟨a1,a2⟩,a3⟩:=h;have e:=hXm a1;have hd0:gL bs=(X.m,0):=by
                  rw[gL,if_neg hno,if_neg,←e];rintro (h | h | h)
                  · rw[GO,a1]at h;cases h
                  · rw[zC]at h;have h2:0 < rd.bs.length:=h;have:=of_decide_eq_false a2;omega
                  · rw[←e,a3]at h;cases h
                have hi:=Ks (bs:=bs) (by rw[hd0]);rw[hd0]at hi;exact ⟨hd0,a3,hi.2⟩
              replace S:=S.front (Wk.row 179 7 q3 zs.length d3 (aa zs));replace S:=S.bA q3 zs (e:=179) (sz:=7) (n:=zs.length) (c:=d3) (S.wd.facts (cA zs) (by simp));replace S:=S.front (Wk.row 177 2 q2 ys.length d2 (aa ys));replace S:=S.bA q2 ys (e:=177) (sz:=2) (n:=ys.length) (c:=d2) (fun _ _ _ _=>trivial);replace S:=S.front (Wk.row 175 2 q xs.length d (aa xs));replace S:=S.bA q xs (e:=175) (sz:=2) (n:=xs.length) (c:=d) (fun _ _ _ _=>trivial);replace S:=S.add (Φ:=aE X) (fun w' bP=>by rw[hX];exact ⟨S.mem.fact (av q xs) w' bP,S.mem.fact (av q2 ys) w' bP,S.mem.fact (av q3 zs) w' bP⟩);rw[show Wk.box b5 67 [.int .i64 (n1:Nat),.int .i64 (n2:Nat),.int .i64 (n3:Nat),.int .i64 (n4:Nat),.slice q xs.length d,.slice q2 ys.length d2,.slice q3 zs.length d3]=Wk.box b5 67 (cN X) from by rw[hX]]at S;have hby:rd.why=0→(wr||decide (0 < (rd.bs.length:Int))||!b_ X.m)=false→aY X.m=bs:=fun h1 h2=>(s7 h1 h2).2.2
              refine J7 ?_;intro a S;refine kC S (fun Rf=>?_) (fun Rf=>?_)
              · refine Y9 ?_;intro a w S
                have hw:rd.why≠0:=by simpa using Rf
                refine gO S (fun _=>⟨_,by rw[OM hw],?_⟩);rw[OM hw];exact rI _ _
              · refine kK (aQ (kS ?_))
                have hw0:rd.why=0:=by simpa using Rf
                obtain ⟨G,hG⟩:∃ G,G=(wr||decide (0 < (rd.bs.length:Int))||!b_ X.m):=⟨_,rfl⟩;replace Cd:=Cd hw0;replace s7:=s7 hw0;replace hby:=hby hw0;rw[←hG]at Cd s7 hby;have TD:eu bs bs.length:=⟨rfl⟩;replace S:=S.add (Φ:=iE p (aa bs)) ((S.mem.fact (av p bs)).imp fun _ h=>h.1);have wS:ag _ w (av p bs):=S.mem.fact (av p bs);cases G
                · refine kS ?_;refine bM [T9 0,T9 1,T9 2,T9 3,T9 4,T9 5,T9 6,T9 7,T9 8,T9 9,T9 10,T9 11,T9 12,T9 13,F9 14,T9 15,T9 16,T9 17,T9 18,T9 21,T9 22,F9 19,F9 20,T9 23,T9 24] [] S ?_;intro w S;(iterate 5 (refine dq S ?_;intro a S));(iterate 6 (refine iX S ?_;intro a S));(iterate 2 (refine dq S ?_;intro a S));refine iX S ?_;intro a S;refine dl ?_;refine gC S ?_;intro a w S;refine de S ?_;refine iX S ?_;intro a S;refine dq S ?_;intro a S
                  rw[←hG]at S;refine J1 ?_;intro a S
                  first
                    | (refine Cc S ?_;intro a S)
                    | (refine iX S ?_;intro a S)
                  first
                    | (refine Cc S ?_;intro a S)
                    | (refine iX S ?_;intro a S)
                  first
                    | (refine Cc S ?_;intro a S)
                    | (refine iX S ?_;intro a S)
                  refine dl ?_
                  first
                    | (refine Hj S ?_;intro a S)
                    | (refine jr S ?_
                       refine jU S (nk X WB (s7 rfl).2.1 _ ((S.mem.fact (aE X)).less fun _ _ h=>h.elim)) ?_;rintro _ a w ⟨p23,c23,rfl,hown,hnew⟩ hS -;have S:=hS hown hnew;clear hS;rw[hby rfl]at S)
                  refine de S ?_;refine dl ?_
                  first
                    | (refine Hj S ?_;intro a S)
                    | (refine jr S ?_
                       refine sq S ?_;intro a S)
                  refine de S ?_
                  first
                    | (refine Cc S ?_;intro a S)
                    | (refine iX S ?_;intro a S)
                  refine dq S ?_;intro a S;refine dn (aQ ?_);refine kC S (fun h23=>?_) (fun h23=>?_)
                  · refine Y9 ?_;intro a w S
                    exfalso;simp at h23
                  · refine NJ ?_;intro a w S
                    have hst:=(S.mem.fact (aE X)).less fun _ _ hk=>(⟨ext M,lG.mem,hk⟩:dR _ _)
                    refine gO S (fun _=>⟨fJ X,by rw[(s7 rfl).1],X,rfl,by rw[(s7 rfl).1],WB,hst⟩)
                · refine kS ?_;refine bM [T9 0,T9 1,T9 2,T9 3,T9 4,T9 5,T9 6,T9 7,T9 8,T9 9,T9 10,T9 11,T9 12,T9 13,F9 14,T9 15,T9 16,T9 17,T9 18,T9 21,T9 22,F9 19,F9 20,T9 23,T9 24] [] S ?_;intro w S;(iterate 5 (refine dq S ?_;intro a S));(iterate 6 (refine iX S ?_;intro a S));(iterate 2 (refine dq S ?_;intro a S));refine iX S ?_;intro a S;refine dl ?_;refine gC S ?_;intro a w S;refine de S ?_;refine iX S ?_;intro a S;refine dq S ?_;intro a S
                  rw[←hG]at S;refine J1 ?_;intro a S
                  first
                    | (refine Cc S ?_;intro a S)
                    | (refine iX S ?_;intro a S)
                  first
                    | (refine Cc S ?_;intro a S)
                    | (refine iX S ?_;intro a S)
                  first
                    | (refine Cc S ?_;intro a S)
                    | (refine iX S ?_;intro a S)
                  refine dl ?_
                  first
                    | (refine Hj S ?_;intro a S)
                    | (refine jr S ?_
                       refine jU S (nk X WB (s7 rfl).2.1 _ ((S.mem.fact (aE X)).less fun _ _ h=>h.elim)) ?_;rintro _ a w ⟨p23,c23,rfl,hown,hnew⟩ hS -;have S:=hS hown hnew;clear hS;rw[hby rfl]at S)
                  refine de S ?_;refine dl ?_
                  first
                    | (refine Hj S ?_;intro a S)
                    | (refine jr S ?_
                       refine sq S ?_;intro a S)
                  refine de S ?_
                  first
                    | (refine Cc S ?_;intro a S)
                    | (refine iX S ?_;intro a S)
                  refine dq S ?_;intro a S;refine dn (aQ ?_);refine kC S (fun h23=>?_) (fun h23=>?_)
                  · refine Y9 ?_;intro a w S
                    refine gO S (fun _=>⟨_,by rw[Cd rfl],?_⟩);rw[Cd rfl];exact rI _ _
                  · refine NJ ?_;intro a w S
                    exfalso;simp at h23
open Go.ChangeShapes Go.WideShapes Go.ChangeAt Go.RowKit
instance WC:uJ prog 9 (List UInt8):=XY underlying9 (by kernel_rfl)
instance U0:uJ prog 177 aH:=⟨fun enc w base spare held fuel cs x h=>by
 obtain ⟨hlen,hf⟩:=oG underlying177 h;rw[show Tryz.prog.cellsOf 177=2 from by kernel_rfl]at hlen;obtain ⟨n0,y0,g0⟩:=hf 0 9 0 rfl;obtain ⟨n1,y1,g1⟩:=hf 1 3 1 rfl;obtain ⟨u0,e0,i0⟩:=eZ (α:=List UInt8) g0 rfl;obtain ⟨u1,e1,i1⟩:=eZ (α:=Int) g1 rfl;refine ⟨⟨u0,u1⟩,?_,trivial⟩
 match cs,hlen with
 | [c0,c1],_=>
  have q0:[c0]=[str u0]:=e0;have q1:[c1]=[.int .i64 u1]:=e1;simp only[List.cons.injEq,and_true]at q0 q1;rw[q0,q1];rfl,by kernel_rfl⟩
instance U1:uJ prog 175 aH:=⟨fun enc w base spare held fuel cs x h=>by
 obtain ⟨hlen,hf⟩:=oG underlying175 h;rw[show Tryz.prog.cellsOf 175=2 from by kernel_rfl]at hlen;obtain ⟨n0,y0,g0⟩:=hf 0 9 0 rfl;obtain ⟨n1,y1,g1⟩:=hf 1 3 1 rfl;obtain ⟨u0,e0,i0⟩:=eZ (α:=List UInt8) g0 rfl;obtain ⟨u1,e1,i1⟩:=eZ (α:=Int) g1 rfl;refine ⟨⟨u0,u1⟩,?_,trivial⟩
 match cs,hlen with
 | [c0,c1],_=>
  have q0:[c0]=[str u0]:=e0;have q1:[c1]=[.int .i64 u1]:=e1;simp only[List.cons.injEq,and_true]at q0 q1;rw[q0,q1];rfl,by kernel_rfl⟩
instance U2:uJ prog 179 aK:=⟨fun enc w base spare held fuel cs x h=>by
 obtain ⟨hlen,hf⟩:=oG underlying179 h;rw[show Tryz.prog.cellsOf 179=7 from by kernel_rfl]at hlen;obtain ⟨n0,y0,g0⟩:=hf 0 3 0 rfl;obtain ⟨n1,y1,g1⟩:=hf 1 3 1 rfl;obtain ⟨n2,y2,g2⟩:=hf 2 43 2 rfl;obtain ⟨u,e0,i0⟩:=eZ (α:=Int) g0 rfl;obtain ⟨k,e1,i1⟩:=eZ (α:=Int) g1 rfl;obtain ⟨t,e2,i2⟩:=eZ (α:=ak) g2 rfl;refine ⟨⟨u,k,t⟩,?_,i2⟩
 match cs,hlen with
 | [c0,c1,d1,d2,d3,d4,d5],_=>
  have q0:[c0]=[.int .i64 u]:=e0;have q1:[c1]=[.int .i64 k]:=e1;have q2:[d1,d2,d3,d4,d5]=t.cells:=e2;simp only[List.cons.injEq,and_true]at q0 q1
  show [c0]++[c1]++[d1,d2,d3,d4,d5]=[.int .i64 u]++[.int .i64 k]++t.cells
  rw[q0,q1,q2],by kernel_rfl⟩
instance R2:uJ prog 64 (Sl aH):=AH underlying64 (by kernel_rfl)
instance R3:uJ prog 63 (Sl aH):=AH underlying63 (by kernel_rfl)
instance R4:uJ prog 65 (Sl aK):=AH underlying65 (by kernel_rfl)
instance Rj:uJ prog 67 aW:=⟨fun enc w base spare held fuel cs x h=>by
 obtain ⟨hlen,hf⟩:=oG underlying67 h;rw[show Tryz.prog.cellsOf 67=7 from by kernel_rfl]at hlen;obtain ⟨n0,y0,g0⟩:=hf 0 3 0 rfl;obtain ⟨n1,y1,g1⟩:=hf 1 3 1 rfl;obtain ⟨n2,y2,g2⟩:=hf 2 3 2 rfl;obtain ⟨n3,y3,g3⟩:=hf 3 3 3 rfl;obtain ⟨n4,y4,g4⟩:=hf 4 63 4 rfl;obtain ⟨n5,y5,g5⟩:=hf 5 64 5 rfl;obtain ⟨n6,y6,g6⟩:=hf 6 65 6 rfl;obtain ⟨u0,e0,i0⟩:=eZ (α:=Int) g0 rfl;obtain ⟨u1,e1,i1⟩:=eZ (α:=Int) g1 rfl;obtain ⟨u2,e2,i2⟩:=eZ (α:=Int) g2 rfl;obtain ⟨u3,e3,i3⟩:=eZ (α:=Int) g3 rfl;obtain ⟨u4,e4,i4⟩:=eZ (α:=Sl aH) g4 rfl;obtain ⟨u5,e5,i5⟩:=eZ (α:=Sl aH) g5 rfl;obtain ⟨u6,e6,i6⟩:=eZ (α:=Sl aK) g6 rfl;refine ⟨⟨u0,u1,u2,u3,u4.p,u4.cap,u4.xs,u5.p,u5.cap,u5.xs,u6.p,u6.cap,u6.xs⟩,?_,i4,i5,i6⟩
 match cs,hlen with
 | [c0,c1,c2,c3,c4,c5,c6],_=>
  have q0:[c0]=[.int .i64 u0]:=e0;have q1:[c1]=[.int .i64 u1]:=e1;have q2:[c2]=[.int .i64 u2]:=e2;have q3:[c3]=[.int .i64 u3]:=e3;have q4:[c4]=[u4.v]:=e4;have q5:[c5]=[u5.v]:=e5;have q6:[c6]=[u6.v]:=e6;simp only[List.cons.injEq,and_true]at q0 q1 q2 q3 q4 q5 q6;rw[q0,q1,q2,q3,q4,q5,q6];rfl,by kernel_rfl⟩
instance WD:wY prog 3 Int (fun _=>True):=zw (SM underlying3 (by kernel_rfl))
instance U3:wY prog 4 Bool (fun _=>True):=zw (SN underlying4 (by kernel_rfl))
instance R5:wY prog 58 (Sl Bool) (ZSl prog 4 (fun _=>True)):=MD underlying58 (by kernel_rfl)
instance WE:wY prog 67 aW (fun _=>True):=zw Rj
instance troKop:wY prog 90 DV (fun x=>x.keep.length≤140737488355328):=⟨fun enc w base spare held fuel cs x h=>by
 obtain ⟨hlen,hf⟩:=Dt underlying90 h;rw[show Tryz.prog.cellsOf 90=10 from by kernel_rfl]at hlen;obtain ⟨n0,y0,g0,k0⟩:=hf 0 3 0 rfl;obtain ⟨n1,y1,g1,k1⟩:=hf 1 3 1 rfl;obtain ⟨n2,y2,g2,k2⟩:=hf 2 67 2 rfl;obtain ⟨n3,y3,g3,k3⟩:=hf 3 58 9 rfl;obtain ⟨u0,e0,i0,-⟩:=oU (α:=Int) g0 rfl;obtain ⟨u1,e1,i1,-⟩:=oU (α:=Int) g1 rfl;obtain ⟨u2,e2,i2,-⟩:=oU (α:=aW) g2 rfl;obtain ⟨u3,e3,i3,z3⟩:=oU (α:=Sl Bool) g3 rfl;refine ⟨⟨u0,u1,u2,u3.p,u3.cap,u3.xs⟩,?_,⟨i2,i3⟩,fun hw=>?_⟩
 match cs,hlen with
 | [c0,c1,c2,c3,c4,c5,c6,c7,c8,c9],_=>
  have q0:[c0]=[.int .i64 u0]:=e0;have q1:[c1]=[.int .i64 u1]:=e1;have q2:[c2,c3,c4,c5,c6,c7,c8]=[.int .i64 u2.user,.int .i64 u2.leaf,.int .i64 u2.counter,.int .i64 u2.num,.slice u2.sp u2.ah.length u2.sc,.slice u2.vp u2.aA.length u2.vc,.slice u2.ep u2.seen.length u2.ec]:=e2;have q3:[c9]=[u3.v]:=e3;simp only[List.cons.injEq,and_true]at q0 q1 q2 q3;obtain ⟨r0,r1,r2,r3,r4,r5,r6⟩:=q2;rw[q0,q1,r0,r1,r2,r3,r4,r5,r6,q3];rfl
 have h1:=(z3 fun n hn=>hw n (k3 n hn)).1;rw[show Tryz.prog.bytesOf 4=1 from by kernel_rfl,Nat.mul_one]at h1;have:=reachBytes_lt
 show u3.xs.length≤_
 omega,by kernel_rfl⟩
end Go.Proofs.YtdakncgafdnjfaaGreat
namespace Go.Wk
open Go
inductive Lg where
 | e
 | q (i k:Nat) (t:Lg)
 | l (i:Nat) (t:Lg)
 | b (i j:Nat) (t u:Lg)
def Lg.len:Lg→Nat
 | .e=>0
 | .q _ _ t=>t.len+1
 | .l _ t=>t.len+1
 | .b _ _ t _=>t.len+1
def oA (lv:List (Nat × Nat))(ops:Array Oper):Lg→Array Bool→Bool
 | .e,listed=>(Region.ready .any ops listed).isEmpty
 | .q i k t,listed=>(((Region.ready .any ops listed).contains i&&Region.free .any ops listed i)&&zG ops lv k i)&&oA lv ops t (listed.setIfInBounds i true)
 | .l i t,listed=>(match Region.ready .any ops listed with | [j]=>Nat.beq j i | _=>false)&&oA lv ops t (listed.setIfInBounds i true)
 | .b i j t u,listed=>(match Region.ready .any ops listed with | [x,y]=>Nat.beq x i&&Nat.beq y j | _=>false)&&(Nat.beq u.len t.len&&(oA lv ops t (listed.setIfInBounds i true)&&oA lv ops u (listed.setIfInBounds j true)))
section
variable {P:Program}{ops:Array Oper}{C:Nat→World→Prop}{R:Act→World→Prop}
variable {r:Option Nat}{Q:Exit→Act→World→Prop}{w0:World}{M0:Nat→Prop}{ds:List Deferred}{a:Act}{w:World}{l l':List Value}{bs bs' b0 b1 b2 bk:List Item}{fs dz:List (World→Prop)}
 {d:Option Nat} {op:Op} {ty:TypeId} {pos:String} {af:Array Edge} {v:Value} {listed:Array Bool}
def Am (lv:List (Nat × Nat))(P:Program)(ops:Array Oper)(C:Nat→World→Prop)(R:Act→World→Prop)(t:Lg)(a:Act)(w:World):Prop:=
 ∀ listed,j3 ops listed→Region.noSelect ops=true→oA lv ops t listed=true→OA (yc lv) P ops C R t.len listed a w
variable {t u:Lg}{i j:Nat}{lv:List (Nat × Nat)}
theorem wqk (k:Nat)(hC:∀ w,C k w↔Wd w0 M0 w bk dz)(S:St w0 M0 ds a w l bs fs)[hb:dj bk bs][hf:dj dz fs][ho:jL ops i ⟨d,op,ty,pos,af,none⟩][hq:dO P op ty ⟨[],l⟩ bk dz v][hp:cZ l d v l']
  (K:∀ a,St w0 M0 ds a w l' bs fs→Am lv P ops C R t a w):Am lv P ops C R (.q i k t) a w:=by
 intro listed pg hs aS;simp only[oA,Bool.and_eq_true]at aS;refine yb ho.eq (Region.noSelect_spec hs) (s4 aS.1.2) _ listed a w pg (Region.free_spec ho.eq aS.1.1.2) (by simpa using aS.1.1.1) (v:=v) (.inl ⟨rfl,fun w' bP=>?_⟩) ((hC w).2 (S.wd.sub hb.sub hf.sub)) (K _ S.put _ (pg.set (by simpa using aS.1.1.1)) hs aS.2);rw[gN];exact hq.run a.eval w' S.fr ((hC w').1 bP).mem
theorem WG (S:St w0 M0 ds a w l bs fs)[hb:dj b0 bs][hf:dj dz fs][ho:jL ops i ⟨d,op,ty,pos,af,none⟩][hq:dO P op ty ⟨[],l⟩ b0 dz v][hp:cZ l d v l']
  (K:∀ a,St w0 M0 ds a w l' bs fs→Am lv P ops (fH w0 M0 b0 b1 b2 dz) R t a w):Am lv P ops (fH w0 M0 b0 b1 b2 dz) R (.q i 0 t) a w:=
 wqk 0 (fun _=>Iff.rfl) S K
theorem wq1 (S:St w0 M0 ds a w l bs fs)[hb:dj b1 bs][hf:dj dz fs][ho:jL ops i ⟨d,op,ty,pos,af,none⟩][hq:dO P op ty ⟨[],l⟩ b1 dz v][hp:cZ l d v l']
  (K:∀ a,St w0 M0 ds a w l' bs fs→Am lv P ops (fH w0 M0 b0 b1 b2 dz) R t a w):Am lv P ops (fH w0 M0 b0 b1 b2 dz) R (.q i 1 t) a w:=
 wqk 1 (fun _=>Iff.rfl) S K
theorem G9 {o:Oper}[h1:dj b1 b0][h2:dj b2 b1][ho:jL ops i o](h:WL P none ops (fun e a' w'=>e=.normal∧fH w0 M0 b0 b1 b2 dz (yc lv i) w'∧Am lv P ops (fH w0 M0 b0 b1 b2 dz) R t a' w') [o] a w):Am lv P ops (fH w0 M0 b0 b1 b2 dz) R (.l i t) a w:=by
 intro listed pg hs aS;simp only[oA,Bool.and_eq_true]at aS;have hr:Region.ready .any ops listed=[i]:=by
  have:=aS.1;split at this
  rename_i k hk;rw[hk,Nat.eq_of_beq_eq_true this]
  cases this
 refine ⟨fun h0=>(by rw[h0]at hr;cases hr),fun k hk=>?_⟩;rw[hr]at hk;obtain rfl:k=i:=by simpa using hk
 exact wpOpIn_mono (fun a' w' h'=>⟨fun q hq _=>oX _ _ _ hq h'.1,h'.2 _ (pg.set (by rw[hr];exact List.mem_cons_self ..)) hs aS.2⟩) (uI h)
theorem wb2 {oi oj:Oper}[h1:dj b1 b0][h2:dj b2 b1][hi:jL ops i oi][hj:jL ops j oj](g1:WL P none ops (fun e a' w'=>e=.normal∧fH w0 M0 b0 b1 b2 dz (yc lv i) w'∧Am lv P ops (fH w0 M0 b0 b1 b2 dz) R t a' w') [oi] a w)
  (g2:WL P none ops (fun e a' w'=>e=.normal∧fH w0 M0 b0 b1 b2 dz (yc lv j) w'∧Am lv P ops (fH w0 M0 b0 b1 b2 dz) R u a' w') [oj] a w):Am lv P ops (fH w0 M0 b0 b1 b2 dz) R (.b i j t u) a w:=by
 intro listed pg hs aS;simp only[oA,Bool.and_eq_true]at aS;have hr:Region.ready .any ops listed=[i,j]:=by
  have:=aS.1;split at this
  rename_i x y hk
  simp only[Bool.and_eq_true]at this;rw[hk,Nat.eq_of_beq_eq_true this.1,Nat.eq_of_beq_eq_true this.2];cases this
 have hlen:=Nat.eq_of_beq_eq_true aS.2.1;refine ⟨fun h0=>(by rw[h0]at hr;cases hr),fun k hk=>?_⟩;rw[hr]at hk;rcases List.mem_cons.1 hk with rfl | hk
 exact wpOpIn_mono (fun a' w' h'=>⟨fun q hq _=>oX _ _ _ hq h'.1,h'.2 _ (pg.set (by rw[hr];exact List.mem_cons_self ..)) hs aS.2.2.1⟩) (uI g1);obtain rfl:=List.mem_singleton.1 hk;refine wpOpIn_mono (fun a' w' h'=>⟨fun q hq _=>oX _ _ _ hq h'.1,?_⟩) (uI g2);have:=h'.2 _ (pg.set (by rw[hr];simp)) hs aS.2.2.2
 rwa [hlen]at this
theorem KW [hb:dj b0 bs][hf:dj dz fs](S:St w0 M0 ds a w l bs fs)(h:Am lv P ops (fH w0 M0 b0 b1 b2 dz) R t a w)(hl:Nat.beq (yc lv i) 0=true:=by rfl):WL P none ops (fun e a' w'=>e=.normal∧fH w0 M0 b0 b1 b2 dz (yc lv i) w'∧Am lv P ops (fH w0 M0 b0 b1 b2 dz) R t a' w') [] a w:=
 kN ⟨rfl,by rw[Nat.eq_of_beq_eq_true hl];exact S.wd.sub hb.sub hf.sub,h⟩
theorem R6 [hb:dj b1 bs][hf:dj dz fs](S:St w0 M0 ds a w l bs fs)(h:Am lv P ops (fH w0 M0 b0 b1 b2 dz) R t a w)(hl:Nat.beq (yc lv i) 1=true:=by rfl):WL P none ops (fun e a' w'=>e=.normal∧fH w0 M0 b0 b1 b2 dz (yc lv i) w'∧Am lv P ops (fH w0 M0 b0 b1 b2 dz) R t a' w') [] a w:=
 kN ⟨rfl,by rw[Nat.eq_of_beq_eq_true hl];exact S.wd.sub hb.sub hf.sub,h⟩
theorem wn1 (h:R a w):Am lv P ops C R .e a w:=fun listed _ _ hf=>⟨by simpa [oA] using hf,h⟩
theorem Ce {lv:Nat→Nat}{R':Act→World→Prop}(hR:∀ a w,R a w→R' a w):∀ (fuel:Nat) (listed:Array Bool) (a:Act) (w:World),OA lv P ops C R fuel listed a w→OA lv P ops C R' fuel listed a w
 | 0,_,_,_,h=>⟨h.1,hR _ _ h.2⟩
 | fuel+1,_,_,_,h=>⟨fun h0=>hR _ _ (h.1 h0),fun i hi=>wpOpIn_mono (fun _ _ h'=>⟨h'.1,Ce hR fuel _ _ _ h'.2⟩) (h.2 i hi)⟩
theorem Nu {id:Nat}{lo:List Oper}(lv:List (Nat × Nat))(t:Lg)(b0 b1 b2:List Item)(S:St w0 M0 ds a w l bs fs)(I:Act→World→Prop)(h:∀ w,St w0 M0 ds a w l bs fs→Am lv P lo.toArray (fH w0 M0 b0 b1 b2 fs) I t a w)
  (hk:∀ a w,I a w→Q .normal a w) (hm:P.follows .mixedOrders=true:=by kernel_rfl)
  (hd:((lo.all fun o=>!cE o.op)&&(Nat.beq t.len lo.length&&(Region.noSelect lo.toArray&&oA lv lo.toArray t (Array.replicate lo.length false))))=true:=by kernel_rfl):Wp P r (.region id lo.toArray true) Q a w:=by
 simp only[Bool.and_eq_true]at hd;refine wpIn_region_any hm (qp (lv:=yc lv) (C:=fH w0 M0 b0 b1 b2 fs) (fun i o ho=>?_) _ _ _ _ ?_);have:=List.all_eq_true.1 hd.1 o (by
  rw[List.getElem?_toArray]at ho;exact List.mem_of_getElem? ho)
 simpa using this;have:=h { w with drawn:=w.drawn+1 } ⟨S.slots,S.defers,S.wd.step (aJ.drawn _ w _)⟩ (Array.replicate lo.length false) (fun k ok _ hl=>by simp[Array.getD]at hl) hd.2.2.1 hd.2.2.2;rw[Nat.eq_of_beq_eq_true hd.2.1]at this;simpa using Ce hk _ _ _ _ this
theorem KX {id:Nat}{lo:List Oper}{ι1:Type}{ι2:Type}{ι3:Type}{ι4:Type}(lv:List (Nat × Nat))(t:Lg)(S:St w0 M0 ds a w l bs fs)(mods:ι1→ι2→ι3→ι4→(Nat→Value)→List (Nat × Value)){l1:ι1→ι2→ι3→ι4→(Nat→Value)→List Value}[∀ x1 x2 x3 x4 uu,jN l (mods x1 x2 x3 x4 uu) (l1 x1 x2 x3 x4 uu)](b0 b1 b2:List Item)(fU:ι1→ι2→ι3→ι4→List Item)(jo:ι1→ι2→ι3→ι4→List (World→Prop))(rel:ι1→ι2→ι3→ι4→Prop)
  (h:∀ w,St w0 M0 ds a w l bs fs→Am lv P lo.toArray (fH w0 M0 b0 b1 b2 fs) (fun a w=>∃ y1 y2 y3 y4 vv,rel y1 y2 y3 y4∧St w0 M0 ds a w (l1 y1 y2 y3 y4 vv) (fU y1 y2 y3 y4) (jo y1 y2 y3 y4)) t a w) (hK:∀ x1 x2 x3 x4 uu a w,rel x1 x2 x3 x4→St w0 M0 ds a w (l1 x1 x2 x3 x4 uu) (fU x1 x2 x3 x4) (jo x1 x2 x3 x4)→Q .normal a w) (hm:P.follows .mixedOrders=true:=by kernel_rfl)
  (hd:((lo.all fun o=>!cE o.op)&&(Nat.beq t.len lo.length&&(Region.noSelect lo.toArray&&oA lv lo.toArray t (Array.replicate lo.length false))))=true:=by kernel_rfl):Wp P r (.region id lo.toArray true) Q a w:=
 Nu lv t b0 b1 b2 S _ h (fun a w h=>by obtain ⟨y1,y2,y3,y4,vv,h1,h2⟩:=h;exact hK y1 y2 y3 y4 vv a w h1 h2) hm hd
end
end Go.Wk
namespace Go.Proofs.YtdakncgafdnjfaaGreat
open Go.Proofs.Tryz
open Go Go.Wk
set_option synthInstance.maxSize 100000
set_option synthInstance.maxHeartbeats 400000
set_option maxRecDepth 100000
theorem Nv (N:Nat):∀ (t:ak) (M:Nat→Prop) (w0:World),SizeOf.sizeOf t < N→cnt t.t≤1200→(∀ k,M k→k < w0.heap.size)→ag M w0 (dc t)→
  aT prog 271 [vL t] w0 (fun _=>False) fun v w'=>Xi M w' v t.t:=by
 induction N with
 | zero=>intro t _ _ h;exact absurd h (Nat.not_lt_zero _)
 | succ N ih=>
 intro t M w0 hN hc hM hf;have hlen:t.kids.length≤1200:=by have h1:=mC t;have h2:=vO (t.kids.map ak.t);rw[List.length_map]at h2;omega
 have hkc:∀ x∈t.kids,cnt x.t≤1200:=fun x hx=>by have h1:=mC t;have h2:=uE (List.mem_map.2 ⟨x,hx,rfl⟩:x.t∈t.kids.map ak.t);omega
 refine E1 func271 rfl ntmps271 (Wd.fE (M:=M) (fs:=[dc t]) hM (by simpa using hf)) ?_;intro a S;refine kS (kR ?_);refine sa S ?_;intro b1 a w S;refine sa S ?_;intro b2 a w S;refine ug ?_;intro a S;refine dI S (fun(k:Nat) (zs:List ak) (p5:Option Addr) (c5:Nat) uu=>[(3,.slice p5 zs.length c5),(0,.int .i64 (k:Nat)),(0,uu 5),(0,uu 6),(0,uu 7),(0,uu 8),(0,uu 9),(0,uu 10),(0,uu 11),(0,uu 12),(0,uu 13),(0,uu 14),(0,uu 15),(0,uu 16),(0,uu 17),(0,uu 18),(0,uu 19),(0,uu 20)]) (fun(k:Nat) (zs:List ak) (p5:Option Addr) (c5:Nat)=>[Wk.row 43 5 p5 zs.length c5 (aa zs),Wk.box b2 43 [.int .i64 0,.int .i64 0,.int .i64 0,.string ⟨#[]⟩,.slice none 0 0],Wk.box b1 43 t.cells,ext M]) (fun(k:Nat) (zs:List ak) (p5:Option Addr) (c5:Nat)=>[dA zs,dc t]) (fun(k:Nat) (zs:List ak) (p5:Option Addr) (c5:Nat)=>k≤t.kids.length∧zs.length=k∧zs.map ak.t++(t.kids.drop k).map ak.t=t.kids.map ak.t) (fun(k:Nat) (zs:List ak) (p5:Option Addr) (c5:Nat)=>t.kids.length - k) (0) ([]) (none) (0) ?_ S.uu ?_ ?_
 ·exact ⟨Nat.zero_le _,rfl,rfl⟩
 ·replace S:=S.cP 43 5
  replace S:=S.add (Φ:=dA []) (fun _ _ _ hx=>by cases hx);rw[show Wk.row 43 5 none 0 0 []=Wk.row 43 5 none 0 0 (aa ([]:List ak)) from rfl]at S;exact S.sub _ _
 ·clear S;rintro k zs p5 c5 uu a w ⟨hk,Kf,aI⟩ S
  refine mJ ?_;intro a S;refine kC S (fun h3=>?_) (fun h3=>?_)
  ·refine kK (aQ (kS (kB ?_)))
   have bn:k < t.kids.length:=by have:=of_decide_eq_true h3;omega
   have hK:cx k t.kids.length:=⟨bn⟩;rw[js bn,List.map_cons]at aI;refine J7 ?_;intro a S;refine sr S (ih (gP t.kids k) _ w (by have:=ak.lH (fC bn);omega) (hkc _ (fC bn)) (a_ S) (rV (S.t t) (fC bn))) ?_;rintro _ a w ⟨z,rfl,hz,w5⟩ S;replace S:=S.add (Φ:=dc z) w5;have JI:ag _ _ (dA zs):=S.wd.facts (dA zs) (by simp);have JJ:=S.t z;replace S:=S.add (Φ:=dA (zs++[z])) (fun w' bP x hx=>by
    rcases List.mem_append.1 hx with h | h
    ·exact JI w' bP x h
    ·rw[List.mem_singleton.1 h];exact JJ w' bP)
   refine sn S ?_;intro b19 a w S;refine gA S (by simp[maxLen];omega) (by omega) ?_;rintro p7 c7 a w - S;rw[show aa zs++[Value.int .i64 z.kind,.int .i64 z.user,.int .i64 z.num,str z.text,.slice z.p z.kids.length z.cap]=aa (zs++[z]) from by rw[aC];rfl,show zs.length+1=(zs++[z]).length from by simp]at S;refine mJ ?_;intro a S;rw[w6 ((k:Int)+1)]at S;refine ⟨k+1,zs++[z],p7,c7,S.uu,⟨bn,by simp;omega,?_⟩,S.sub _ _,by omega⟩;rw[List.map_append,List.append_assoc,←aI]
   show _++(z.t::_)=_
   rw[hz];rfl
  ·refine Rs ?_;intro a w S
   have hk2:t.kids.length≤k:=by have:=of_decide_eq_false h3;omega
   rw[List.drop_of_length_le hk2,List.map_nil,List.append_nil]at aI;have hrow:=S.row p5 zs.length;have hall:ag _ _ (dA zs):=S.wd.facts (dA zs) (by simp);have hap:∀ ad,p5=some ad→¬M ad.block:=fun ad had hm=>St.gj S (Wk.row 43 5 p5 zs.length c5 (aa zs)) (ext M) ad.block ⟨ad,had,rfl⟩ hm
   have vK:ag M _ (dA zs):=hall.less fun k _ hm=>⟨ext M,by simp,hm⟩
   have hls:=j8 hrow (fun x hx=>dA.get vK hx) hap;refine aD S (fun _=>⟨.mk t.kind t.user t.num t.text p5 c5 zs,rfl,?_,fun w' bP=>?_⟩)
   ·rw[t.mN,←aI];exact ak.mN _
   ·exact f_.iff.2 ⟨gm hrow,mB hrow,hls w' bP⟩
theorem G_ (xs:List aK)(p:Option Addr)(n c:Nat)(M:Nat→Prop)(w0:World)(hn:xs.length=n)(hl:n≤1000000)(UZ:∀ x∈xs,cnt x.root.t≤1200)(hM:∀ k,M k→k < w0.heap.size)(hx:ag M w0 (av p xs)) :
  aT prog 260 [.slice p n c] w0 (fun _=>False) fun v w'=>∃ (zs:List aK) (q:Option Addr) (d:Nat),v=.slice q zs.length d∧cU zs=cU xs∧ag M w' (av q zs):=by
 subst hn;refine E1 func260 rfl ntmps260 (Wd.fE (M:=M) (fs:=[av p xs]) hM (by simpa using hx)) ?_;intro a S;refine OP ?_;intro a S;refine dI S (fun(k:Nat) (zs:List aK) (q:Option Addr) (d:Nat) uu=>[(3,.slice q zs.length d),(1,uu 5),(2,.int .i64 (k:Nat)),(0,uu 9),(0,uu 10),(0,uu 11),(0,uu 12),(0,uu 13),(0,uu 14),(0,uu 15),(0,uu 16),(0,uu 17),(0,uu 18),(0,uu 19),(0,uu 20)]) (fun(k:Nat) (zs:List aK) (q:Option Addr) (d:Nat)=>[Wk.row 179 7 q zs.length d (aa zs),ext M]) (fun(k:Nat) (zs:List aK) (q:Option Addr) (d:Nat)=>[cA zs,av p xs]) (fun(k:Nat) (zs:List aK) (q:Option Addr) (d:Nat)=>k≤xs.length∧zs.length=k∧cU zs=cU (xs.take k)) (fun(k:Nat) (zs:List aK) (q:Option Addr) (d:Nat)=>xs.length - k) (0) ([]) (none) (0) ?_ S.uu ?_ ?_;exact ⟨Nat.zero_le _,rfl,rfl⟩;replace S:=S.cP 179 7;rw[show Wk.row 179 7 none 0 0 []=Wk.row 179 7 none 0 0 (aa ([]:List aK)) from rfl]at S;replace S:=S.add (Φ:=cA ([]:List aK)) (fun _ _ _ hx=>by cases hx);exact S.sub _ _;clear S;rintro k zs q d uu a w ⟨hk,Kf,aI⟩ S;refine J6 ?_;intro a S;refine kC S (fun h3=>?_) (fun h3=>?_);refine kK (aQ (kS (kB (kS ?_))));have bn:k < xs.length:=by have:=of_decide_eq_true h3;omega
 have hK:cx k xs.length:=⟨bn⟩;refine J3 ?_;intro a S;refine sa S ?_;intro b5 a w S;refine Y7 ?_;intro a w S;refine sr S (Nv _ (aq xs k).root _ w (Nat.lt_succ_self _) (UZ _ (bh bn)) (a_ S) ((S.mem.fact (av p xs)).imp fun _ h=>h.2 _ (bh bn))) ?_;rintro _ a w ⟨z,rfl,hz,w5⟩ S;replace S:=S.add (Φ:=dc z) w5;have JI:ag _ _ (cA zs):=S.wd.facts (cA zs) (by simp);have JJ:=S.t z;replace S:=S.add (Φ:=cA (zs++[(⟨(aq xs k).user,(aq xs k).cnt,z⟩:aK)])) (cA.snoc (r:=(⟨(aq xs k).user,(aq xs k).cnt,z⟩:aK)) JI JJ);refine Y7 ?_;intro a w S;refine sn S ?_;intro b18 a w S;replace S:=S.bT b18 7 1 rfl (by decide);rw[show [.int .i64 (aq xs k).user,.int .i64 (aq xs k).cnt,.int .i64 z.kind,.int .i64 z.user,.int .i64 z.num,str z.text,.slice z.p z.kids.length z.cap]=aa [(⟨(aq xs k).user,(aq xs k).cnt,z⟩:aK)] from rfl]at S;refine gA S (by simp[maxLen];omega) (by omega) ?_;rintro p7 c7 a w - S;rw[←aC,show zs.length+1=(zs++[(⟨(aq xs k).user,(aq xs k).cnt,z⟩:aK)]).length from by simp]at S;refine J9 ?_;intro a S;rw[w6 ((k:Int)+1)]at S;refine ⟨k+1,zs++[⟨(aq xs k).user,(aq xs k).cnt,z⟩],p7,c7,S.uu,⟨bn,by simp;omega,?_⟩,S.sub _ _,by omega⟩;rw[eC bn,cU,cU,List.map_append,List.map_append,show zs.map aK.s=cU zs from rfl,aI]
 show _++[(⟨_,_,z.t⟩:fV)]=_
 rw[hz];rfl;refine jq ?_;intro a S;have bn:xs.length≤k:=by have:=of_decide_eq_false h3;omega
 rw[List.take_of_length_le bn]at aI;replace S:=S.bA q zs (e:=179) (sz:=7) (n:=zs.length) (c:=d) (S.wd.facts (cA zs) (by simp));have hg:ag M _ (av q zs):=(S.wd.facts (av q zs) (by simp)).less fun k _ hk=>⟨ext M,by simp,hk⟩
 exact aD S (fun _=>⟨zs,q,d,rfl,aI,hg⟩)
theorem He (m:aW)(hfit:dY m)(hok:b_ m.m=true)(M:Nat→Prop)(w0:World)(hM:∀ k,M k→k < w0.heap.size)(hm:ag M w0 (aE m)):aT prog 228 [fJ m] w0 (fun _=>False) fun v w'=>Wi M w' v m.m:=by
 have nw:=hfit.ah;have rU:=hfit.aA;have LY:=hfit.seen;have UZ:∀ x∈m.seen,cnt x.root.t≤1200:=fun x hx=>by
  obtain ⟨i,hi,rfl⟩:=List.mem_iff_getElem.1 hx;have h1:=(kU m.seen 0 (mD hok)).2.2 i hi;have h2:=bu hi;rw[List.getElem?_eq_getElem hi]at h2;rw[Option.some.inj h2];exact yH (kz.1 h1)
 refine E1 func228 rfl ntmps228 (Wd.fE (M:=M) (fs:=[av m.sp m.ah,av m.vp m.aA,av m.ep m.seen]) hM (by simp;exact ⟨hm.imp fun _ h=>h.1,hm.imp fun _ h=>h.2.1,hm.imp fun _ h=>h.2.2⟩)) ?_;intro a S;refine kS (kR ?_);refine sa S ?_;intro b1 a w S;refine sa S ?_;intro b2 a w S;refine kN (aQ (kS ?_));refine KX [(0,0),(0,1),(0,1),(0,0),(0,4),(0,5),(0,5),(0,4),(0,3),(1,7),(0,9),(1,9)] (.q 1 0 (.q 2 0 (.q 5 0 (.q 6 0 (.b 0 4 (.b 3 4 (.q 8 0 (.l 4 (.l 7 (.l 9 (.q 10 1 (.l 11 (.e))))))) (.l 3 (.q 8 0 (.l 7 (.l 9 (.q 10 1 (.l 11 (.e)))))))) (.l 0 (.l 3 (.q 8 0 (.l 7 (.l 9 (.q 10 1 (.l 11 (.e))))))))))))) S (fun(p1:Option Addr) (c1:Nat) (p2:Option Addr) (c2:Nat) uu=>[(3,uu 3),(0,uu 4),(0,uu 5),(0,uu 6),(0,uu 7),(0,uu 8),(0,uu 9),(0,uu 10),(0,uu 11),(0,uu 12)]) ([Wk.box b2 67 Nt,Wk.box b1 67 (cN m),ext M]) ([Wk.box b2 67 Nt,ext M]) ([]) (fun(p1:Option Addr) (c1:Nat) (p2:Option Addr) (c2:Nat)=>[Wk.row 175 2 p1 m.ah.length c1 (aa m.ah),Wk.row 177 2 p2 m.aA.length c2 (aa m.aA),Wk.box b2 67 Nt,Wk.box b1 67 [.int .i64 m.user,.int .i64 m.leaf,.int .i64 m.counter,.int .i64 m.num,.slice p1 m.ah.length c1,.slice p2 m.aA.length c2,.slice m.ep m.seen.length m.ec],ext M]) (fun(p1:Option Addr) (c1:Nat) (p2:Option Addr) (c2:Nat)=>[av m.sp m.ah,av m.vp m.aA,av m.ep m.seen]) (fun(p1:Option Addr) (c1:Nat) (p2:Option Addr) (c2:Nat)=>True) ?_ ?_;intro w S;(iterate 4 (refine WG S ?_;intro a S));refine wb2 ?_ ?_;refine sn S ?_;intro b3 a w S
 replace S:=S.bT b3 2 0 rfl (by decide);refine KW S ?_;refine wb2 ?_ ?_;refine gA S (by simp only[maxLen];omega) (by omega) ?_;rintro p3 c3 a w - S;rw[j6,Nat.zero_add]at S;refine KW S ?_;refine WG S ?_;intro a S;refine G9 (sn S ?_);intro b7 a w S;replace S:=S.bT b7 2 0 rfl (by decide);refine KW S ?_;refine G9 ?_;refine gA S (by simp only[maxLen];omega) (by omega) ?_;rintro p7 c7 a w - S;rw[j6,Nat.zero_add]at S;refine KW S ?_;refine G9 (sw S ?_);intro a w S;refine R6 S ?_;refine wq1 S ?_;intro a S;refine G9 (sw S ?_);intro a w S;refine R6 S ?_;refine wn1 ?_;replace S:=(((S.front (Wk.box b1 67 [.int .i64 m.user,.int .i64 m.leaf,.int .i64 m.counter,.int .i64 m.num,.slice p3 m.ah.length c3,.slice p7 m.aA.length c7,.slice m.ep m.seen.length m.ec])).front (Wk.box b2 67 Nt)).front (Wk.row 177 2 p7 m.aA.length c7 (aa m.aA))).front (Wk.row 175 2 p3 m.ah.length c3 (aa m.ah));exact ⟨p3,c3,p7,c7,S.uu,trivial,S.sub _ _⟩;refine sn S ?_;intro b7 a w S;replace S:=S.bT b7 2 0 rfl (by decide);refine KW S ?_;refine G9 ?_;refine gA S (by simp only[maxLen];omega) (by omega) ?_;rintro p3 c3 a w - S;rw[j6,Nat.zero_add]at S;refine KW S ?_;refine WG S ?_;intro a S;refine G9 ?_;refine gA S (by simp only[maxLen];omega) (by omega) ?_;rintro p7 c7 a w - S;rw[j6,Nat.zero_add]at S;refine KW S ?_;refine G9 (sw S ?_);intro a w S;refine R6 S ?_;refine wq1 S ?_;intro a S;refine G9 (sw S ?_);intro a w S;refine R6 S ?_;refine wn1 ?_
 replace S:=(((S.front (Wk.box b1 67 [.int .i64 m.user,.int .i64 m.leaf,.int .i64 m.counter,.int .i64 m.num,.slice p3 m.ah.length c3,.slice p7 m.aA.length c7,.slice m.ep m.seen.length m.ec])).front (Wk.box b2 67 Nt)).front (Wk.row 177 2 p7 m.aA.length c7 (aa m.aA))).front (Wk.row 175 2 p3 m.ah.length c3 (aa m.ah));exact ⟨p3,c3,p7,c7,S.uu,trivial,S.sub _ _⟩;refine sn S ?_;intro b7 a w S;replace S:=S.bT b7 2 0 rfl (by decide);refine KW S ?_;refine G9 (sn S ?_);intro b3 a w S;replace S:=S.bT b3 2 0 rfl (by decide);refine KW S ?_;refine G9 ?_;refine gA S (by simp only[maxLen];omega) (by omega) ?_;rintro p3 c3 a w - S;rw[j6,Nat.zero_add]at S;refine KW S ?_;refine WG S ?_;intro a S;refine G9 ?_;refine gA S (by simp only[maxLen];omega) (by omega) ?_;rintro p7 c7 a w - S;rw[j6,Nat.zero_add]at S;refine KW S ?_;refine G9 (sw S ?_);intro a w S;refine R6 S ?_;refine wq1 S ?_;intro a S;refine G9 (sw S ?_);intro a w S;refine R6 S ?_;refine wn1 ?_;replace S:=(((S.front (Wk.box b1 67 [.int .i64 m.user,.int .i64 m.leaf,.int .i64 m.counter,.int .i64 m.num,.slice p3 m.ah.length c3,.slice p7 m.aA.length c7,.slice m.ep m.seen.length m.ec])).front (Wk.box b2 67 Nt)).front (Wk.row 177 2 p7 m.aA.length c7 (aa m.aA))).front (Wk.row 175 2 p3 m.ah.length c3 (aa m.ah));exact ⟨p3,c3,p7,c7,S.uu,trivial,S.sub _ _⟩;clear S;rintro p1 c1 p2 c2 uu a w - S;refine J5 ?_;intro a S;refine sr S (G_ m.seen m.ep m.seen.length m.ec _ w rfl (by omega) UZ (a_ S) (S.mem.fact (av m.ep m.seen))) ?_;rintro _ a w ⟨zs,q,d,rfl,hzs,w5⟩ S
 replace S:=S.add w5;refine yA ?_;intro a w S;have hzl:zs.length≤1000:=by
  have:=congrArg List.length hzs;rw[cU,cU,List.length_map,List.length_map]at this;omega
 replace S:=(S.front (Wk.row 175 2 p1 m.ah.length c1 (aa m.ah))).bA p1 m.ah (e:=175) (sz:=2) (n:=m.ah.length) (c:=c1) (fun _ _ _ _=>trivial);replace S:=(S.front (Wk.row 177 2 p2 m.aA.length c2 (aa m.aA))).bA p2 m.aA (e:=177) (sz:=2) (n:=m.aA.length) (c:=c2) (fun _ _ _ _=>trivial);have g1:ag M _ (av p1 m.ah):=(S.mem.fact (av p1 m.ah)).less fun k _ hk=>⟨ext M,lG.mem,hk⟩
 have g2:ag M _ (av p2 m.aA):=(S.mem.fact (av p2 m.aA)).less fun k _ hk=>⟨ext M,lG.mem,hk⟩
 have g3:ag M _ (av q zs):=(S.mem.fact (av q zs)).less fun k _ hk=>⟨ext M,lG.mem,hk⟩
 refine aD S (fun _=>⟨⟨m.user,m.leaf,m.counter,m.num,p1,c1,m.ah,p2,c2,m.aA,q,d,zs⟩,rfl,?_,⟨nw,rU,hzl,hfit.names,hfit.keys⟩,fun w' bP=>⟨g1 w' bP,g2 w' bP,g3 w' bP⟩⟩)
 show bJ.mk _ _ _ _ m.ah m.aA (cU zs)=_
 rw[hzs];rfl
theorem Nw {a b:bJ}(h:nF a b=true):a=b:=by unfold nF at h;simpa using h
theorem Nx {a b:bJ}(h:nF a b=false):a≠b:=by unfold nF at h;simpa using h
abbrev yy (h g:Nat)(x:aW):Wk.Item:=Wk.box h 226 [.pointer (some ⟨g,0,none⟩),.int .i64 x.user,.int .i64 x.leaf,.int .i64 x.counter,.int .i64 x.num,.slice x.sp x.ah.length x.sc,.slice x.vp x.aA.length x.vc,.slice x.ep x.seen.length x.ec]
abbrev fI (h b g:Nat)(L:LG)(x:aW):Wk.Item:=both (yy h g x) (ct b g L)
def Rk (Mr:Nat→Prop)(h b g:Nat)(L:LG)(x:aW)(m:bJ)(v:Value)(w0 w:World):Prop:=∃ L' x',v=.int .i64 (cJ L.v x.m m).2.2∧(fI h b g L' x').holds w∧(∀ k,(fI h b g L' x').aj k→(fI h b g L x).aj k∨w0.heap.size≤k)∧L'.m=L.m∧L'.v=(cJ L.v x.m m).1∧x'.m=(cJ L.v x.m m).2.1∧dY x'∧b_ x'.m=true∧ag (fun k=>(fI h b g L' x').aj k∨Mr k) w (aE x')
set_option maxHeartbeats 2000000 in
theorem Ny (h b g:Nat)(L:LG)(x:aW)(k:Nat)(hst:QT L x k)(hk:k≤970000)(m:aW)(hfit:dY m)(Mr:Nat→Prop)(w0:World)(jI:∀ k,Mr k→k < w0.heap.size∧¬(fI h b g L x).aj k)(hd:(fI h b g L x).holds w0)(fx:ag (fun k=>(fI h b g L x).aj k∨Mr k) w0 (aE x))(fm:ag (fun k=>(fI h b g L x).aj k∨Mr k) w0 (aE m)) :
  aT prog 153 [.pointer (some ⟨h,0,none⟩),fJ m] w0 (fI h b g L x).aj fun v w'=>Rk Mr h b g L x m.m v w0 w':=by
 obtain ⟨hwf,s_,nI⟩:=hst;have wG:=hwf.n;have hn2:=hwf.fin;have hMm:dV m:=⟨hfit⟩;have hMx:dV x:=⟨s_⟩;refine E1 func153 rfl ntmps153 (Wd.nR (x:=yy h g x) (y:=ct b g L) (Mr:=Mr) (fs:=[aE x,aE m]) hd rfl rfl jI (by simp;exact ⟨fx,fm⟩)) ?_;intro a S;refine kS (kR ?_);refine sa S ?_;intro b3 a w S;refine J3 ?_;intro a S;refine qH S (fun(zz:Unit) uu=>[(4,uu 4),(2,uu 7),(0,uu 8),(0,uu 9),(0,uu 10),(0,uu 11),(0,uu 12),(0,uu 13),(0,uu 14),(0,uu 15),(0,uu 16),(0,uu 17),(0,uu 18),(0,uu 19),(0,uu 20),(0,uu 21),(0,uu 22),(0,uu 23),(0,uu 24),(0,uu 25),(0,uu 26),(0,uu 27),(0,uu 28),(0,uu 29),(0,uu 30),(0,uu 31)]) (fun(zz:Unit)=>[ct b g L,Wk.box b3 67 (cN m),yy h g x,ext Mr]) (fun(zz:Unit)=>[aE x,aE m]) (fun(zz:Unit)=>¬L.v.broken=true∧b_ m.m=true∧dQ x.m m.m=true∧¬x.m=m.m) ?_ ?_;refine J7 ?_;intro a S;refine sr S (vF b g L _ (S.it (ct b g L))) ?_;rintro _ a w rfl S;refine J3 ?_;intro a S;refine kC S (fun h1=>?_) (fun h1=>?_);refine J8 ?_;intro a S;have hv:cJ L.v x.m m.m=(L.v,x.m,8):=by rw[cJ,if_pos h1]
 replace S:=((S.front (ct b g L)).front (yy h g x)).aL;have hh:=S.it (fI h b g L x);have kV:=S.bH (fI h b g L x) rfl;have hst:ag (fun k=>(fI h b g L x).aj k∨Mr k) _ (aE x):=(S.wd.facts (aE x) (by simp)).less fun k _ hk=>hk.elim (fun h1=>⟨fI h b g L x,by simp,h1⟩) (fun h1=>⟨ext Mr,by simp,h1⟩)
 exact aD S (fun _=>⟨L,x,by rw[hv],hh,kV,rfl,by rw[hv],by rw[hv],s_,nI,hst⟩);refine Y8 ?_;intro a w S;refine kC S (fun h3=>?_) (fun h3=>?_);refine J8 ?_;intro a S;have pL:¬L.v.broken=true:=by simpa using h1
 have Wr:b_ m.m=false:=by simpa using h3
 have hv:cJ L.v x.m m.m=(L.v,x.m,300):=by rw[cJ,if_neg pL,if_pos Wr]
 replace S:=((S.front (ct b g L)).front (yy h g x)).aL;have hh:=S.it (fI h b g L x);have kV:=S.bH (fI h b g L x) rfl;have hst:ag (fun k=>(fI h b g L x).aj k∨Mr k) _ (aE x):=(S.wd.facts (aE x) (by simp)).less fun k _ hk=>hk.elim (fun h1=>⟨fI h b g L x,by simp,h1⟩) (fun h1=>⟨ext Mr,by simp,h1⟩)
 exact aD S (fun _=>⟨L,x,by rw[hv],hh,kV,rfl,by rw[hv],by rw[hv],s_,nI,hst⟩);refine kS ?_;refine bM [T9 0,T9 1,T9 2,T9 3,T9 4,F9 5,T9 6,T9 7] [] S ?_;intro w S;(iterate 5 (refine dq S ?_;intro a S));refine dl (sc S ?_);intro a w S;refine de S ?_;(iterate 2 (refine dq S ?_;intro a S));refine dn (aQ ?_);refine kC S (fun h5=>?_) (fun h5=>?_);refine J8 ?_;intro a S;have pL:¬L.v.broken=true:=by simpa using h1
 have hok:b_ m.m=true:=by simpa using h3
 have hC:dQ x.m m.m=false:=by simpa using h5
 have hv:cJ L.v x.m m.m=(L.v,x.m,301):=by rw[cJ,if_neg pL,if_neg (by rw[hok];simp),if_pos hC]
 replace S:=((S.front (ct b g L)).front (yy h g x)).aL;have hh:=S.it (fI h b g L x);have kV:=S.bH (fI h b g L x) rfl;have hst:ag (fun k=>(fI h b g L x).aj k∨Mr k) _ (aE x):=(S.wd.facts (aE x) (by simp)).less fun k _ hk=>hk.elim (fun h1=>⟨fI h b g L x,by simp,h1⟩) (fun h1=>⟨ext Mr,by simp,h1⟩)
 exact aD S (fun _=>⟨L,x,by rw[hv],hh,kV,rfl,by rw[hv],by rw[hv],s_,nI,hst⟩);refine kS ?_;refine bM [T9 0,T9 1,T9 2,T9 3,T9 4,F9 5,T9 6] [] S ?_;intro w S;(iterate 5 (refine dq S ?_;intro a S));refine dl (sc S ?_);intro a w S;refine de S ?_;refine dq S ?_;intro a S;refine dn (aQ ?_);refine kC S (fun h7=>?_) (fun h7=>?_);refine J8 ?_;intro a S;have pL:¬L.v.broken=true:=by simpa using h1
 have hok:b_ m.m=true:=by simpa using h3
 have hC:¬dQ x.m m.m=false:=by simpa using h5
 have hE:x.m=m.m:=Nw h7;have hv:cJ L.v x.m m.m=(L.v,x.m,0):=by rw[cJ,if_neg pL,if_neg (by rw[hok];simp),if_neg hC,if_pos (by rw[hE])]
 replace S:=((S.front (ct b g L)).front (yy h g x)).aL;have hh:=S.it (fI h b g L x);have kV:=S.bH (fI h b g L x) rfl;have hst:ag (fun k=>(fI h b g L x).aj k∨Mr k) _ (aE x):=(S.wd.facts (aE x) (by simp)).less fun k _ hk=>hk.elim (fun h1=>⟨fI h b g L x,by simp,h1⟩) (fun h1=>⟨ext Mr,by simp,h1⟩)
 exact aD S (fun _=>⟨L,x,by rw[hv],hh,kV,rfl,by rw[hv],by rw[hv],s_,nI,hst⟩);refine kK (qw (aQ ?_));have hne:¬x.m=m.m:=Nx h7;exact ⟨(),S.uu,⟨by simpa using h1,by simpa using h3,by simpa using h5,hne⟩,(S.front (ct b g L)).sub _ _⟩;clear S;rintro zz uu a w ⟨pL,hok,hC,hne⟩ S;refine J3 ?_;intro a S;refine jU S (nk m hfit hok _ ((S.mem.fact (aE m)).less fun _ _ h=>h.elim)) ?_;rintro _ a w ⟨p3,c3,rfl,hown,hnew⟩ hS -;have S:=hS hown hnew;clear hS;obtain ⟨B,hB⟩:∃ B,B=aY m.m:=⟨_,rfl⟩;rw[←hB]at S;have Ws:B.length≤1000000:=by rw[hB];exact qv hok
 replace S:=(S.front (Wk.row 5 1 p3 B.length c3 (aa B))).bA p3 B (e:=5) (sz:=1) (n:=B.length) (c:=c3) (fun _ _ _ _=>trivial);have hneE:¬aY x.m=aY m.m:=fun h=>hne (KM nI hok h)
 have hW:QS L:=⟨k,hwf⟩;refine J8 ?_;intro a S;refine lq S (fun(L2:LG) (e:Int) uu=>[(6,.int .i64 e),(27,uu 34),(0,uu 35),(0,uu 36),(0,uu 37),(0,uu 38),(0,uu 39),(0,uu 40),(0,uu 41),(0,uu 42),(0,uu 43),(0,uu 44),(0,uu 45),(0,uu 46),(0,uu 47),(0,uu 48),(0,uu 49),(0,uu 50),(0,uu 51),(0,uu 52),(0,uu 53),(0,uu 54),(0,uu 55),(0,uu 56),(0,uu 57),(0,uu 58),(0,uu 59)]) (fun(L2:LG) (e:Int)=>[ct b g L2,Wk.box b3 67 (cN m),yy h g x,ext Mr]) (fun(L2:LG) (e:Int)=>[aE x,aE m]) (fun(L2:LG) (e:Int)=>L2.m=L.m∧L2.v=(eM L.v (aY m.m)).1∧e=(eM L.v (aY m.m)).2) ?_ ?_;refine kS ?_;refine bM [T9 0,T9 1,T9 2,T9 3,T9 4,T9 5,T9 7,T9 8,T9 9,T9 10,F9 6,F9 11,T9 12,T9 13] [] S ?_;intro w S;(iterate 4 (refine dq S ?_;intro a S));(iterate 6 (refine iX S ?_;intro a S));refine dl ?_;refine gC S ?_;intro a w S;refine de S ?_;refine dl ?_;refine gC S ?_;intro a w S;refine de S ?_;refine iX S ?_;intro a S;refine dq S ?_;intro a S;refine dn (aQ ?_);refine kC S (fun wF=>?_) (fun wF=>?_);refine J6 ?_;intro a S;have lV:ot L.v (aY m.m)=true:=by rw[ot,←hB,←show decide ((B.length:Int)≤40000)=decide (B.length≤40000) from decide_eq_decide.2 (by omega)];exact wF
 refine cM (ct b g L) S (vE b g L k ⟨p3,c3,B⟩ hwf (by omega) (by show B.length≤_;omega) w (S.it (ct b g L)) (S.bU (ct b g L) (S.mem.fact (av p3 B)))) rfl ?_;rintro _ a w ⟨L2,rfl,u7,iF,hm2,qu⟩ hS;have S:=hS (ct b g L2) u7 iF;clear hS;refine J3 ?_;intro a S;replace S:=S.front (ct b g L2);exact ⟨L2,_,S.uu,⟨hm2,by rw[eM,if_pos lV,←hB];exact qu,by rw[eM,if_pos lV,←hB]⟩,S.sub _ _⟩;refine J6 ?_;intro a S;have lV:ot L.v (aY m.m)=false:=by rw[ot,←hB,←show decide ((B.length:Int)≤40000)=decide (B.length≤40000) from decide_eq_decide.2 (by omega)];exact wF
 refine cM (ct b g L) S (Bk b g L k ⟨p3,c3,B⟩ hwf (by omega) (by show B.length≤_;omega) w (S.it (ct b g L)) (S.bU (ct b g L) (S.mem.fact (av p3 B)))) rfl ?_;rintro _ a w ⟨L2,rfl,u7,iF,hm2,qu⟩ hS;have S:=hS (ct b g L2) u7 iF;clear hS;refine J3 ?_;intro a S;replace S:=S.front (ct b g L2);exact ⟨L2,_,S.uu,⟨hm2,by rw[eM,lV,←hB];exact qu,by rw[eM,lV,←hB];rfl⟩,S.sub _ _⟩;clear S;rintro L2 e uu a w ⟨hm2,qu,n7⟩ S;refine kS (kS ?_);have hv:cJ L.v x.m m.m=((eM L.v (aY m.m)).1,if (eM L.v (aY m.m)).2=0 then m.m else x.m,(eM L.v (aY m.m)).2):=by rw[cJ,if_neg pL,if_neg (by rw[hok];simp),if_neg (by rw[hC];simp),if_neg hneE]
 refine J5 ?_;intro a S;refine kC S (fun GF=>?_) (fun GF=>?_);refine J3 ?_;intro a S;refine sr S (He m hfit hok _ w (a_ S) (S.mem.fact (aE m))) ?_;rintro _ a w ⟨x',rfl,hx',QV,QW⟩ S;replace S:=S.add (Φ:=aE x') QW;refine uh ?_;intro a w S;have Ad:(eM L.v (aY m.m)).2=0:=by rw[←n7];simpa using GF
 rw[if_pos Ad]at hv;replace S:=((S.front (ct b g L2)).front (yy h g x')).aL;have hh:=S.it (fI h b g L2 x');have kV:=S.bH (fI h b g L2 x') rfl;have hst:ag (fun k=>(fI h b g L2 x').aj k∨Mr k) _ (aE x'):=(S.wd.facts (aE x') (by simp)).less fun k _ hk=>hk.elim (fun h1=>⟨fI h b g L2 x',by simp,h1⟩) (fun h1=>⟨ext Mr,by simp,h1⟩)
 exact aD S (fun _=>⟨L2,x',by rw[hv,n7],hh,kV,hm2,by rw[hv];exact qu,by rw[hv];exact hx',QV,by rw[hx'];exact hok,hst⟩);refine J9 ?_;intro a S;have Ad:¬(eM L.v (aY m.m)).2=0:=by rw[←n7];simpa using GF
 rw[if_neg Ad]at hv;replace S:=((S.front (ct b g L2)).front (yy h g x)).aL;have hh:=S.it (fI h b g L2 x);have kV:=S.bH (fI h b g L2 x) rfl;have hst:ag (fun k=>(fI h b g L2 x).aj k∨Mr k) _ (aE x):=(S.wd.facts (aE x) (by simp)).less fun k _ hk=>hk.elim (fun h1=>⟨fI h b g L2 x,by simp,h1⟩) (fun h1=>⟨ext Mr,by simp,h1⟩)
 exact aD S (fun _=>⟨L2,x,by rw[hv,n7],hh,kV,hm2,by rw[hv];exact qu,by rw[hv],s_,nI,hst⟩)
end Go.Proofs.YtdakncgafdnjfaaGreat