/- 11: a part of this claim's texts, joined: MemM MemS MemPc MemT MemU PlainMemC MemW LawMemA PlainMemD MemX LawMemC MemOs RefMemB. -/
import Derived.Test.YtdakncgafdnjfaaGreatPm10
namespace Go.Proofs.YtdakncgafdnjfaaGreat
open Go.Proofs.Tryz
open Go Go.Wk
set_option synthInstance.maxSize 100000
set_option synthInstance.maxHeartbeats 400000
set_option maxRecDepth 100000
class dV (m:aW):Prop where
 fit:dY m
instance Wo {m:aW}{bs fs}[hf:dV m][h:gu fs (aE m)]:cB prog 37 [fJ m] bs fs (.int .i64 (jQ m.m)):=⟨fun w mm=>qK m hf.fit w ((mm.facts _ h.mem).less fun _ _ h=>h.elim)⟩
class Wq (fs:List (World→Prop))(b:Nat)(r:outParam RS):Prop where mem:az b 238 (La r)∈fs
instance rdf0 {b:Nat}{r:RS}{fs:List (World→Prop)} : Wq (az b 238 (La r)::fs) b r:=⟨List.mem_cons_self ..⟩
instance (priority:=900) rdf1 {b:Nat}{r:RS}{Φ:World→Prop}{fs:List (World→Prop)}[h:Wq fs b r]:Wq (Φ::fs) b r:=⟨List.mem_cons_of_mem _ h.mem⟩
instance ZV {b:Nat}{r:RS}{bs fs}[h:Wq fs b r]:cB prog 72 [.pointer (some ⟨b,0,none⟩)] bs fs (.int .i64 (r.bs.length:Nat)):=⟨fun w mm=>Mc b r w ((mm.facts _ h.mem).less fun _ _ h=>h.elim)⟩
theorem rI (M:Nat→Prop)(w:World):Wi M w (.agg ⟨[.int .i64 0,.int .i64 0,.int .i64 0,.int .i64 0,.slice none 0 0,.slice none 0 0,.slice none 0 0]⟩) vZ:=
 ⟨⟨0,0,0,0,none,0,[],none,0,[],none,0,[]⟩,rfl,rfl,⟨Nat.zero_le _,Nat.zero_le _,Nat.zero_le _,nofun,nofun⟩,fun _ _=>⟨jd,jd,jd⟩⟩
def OB (M:Nat→Prop)(bs:List UInt8)(v:Value)(w:World):Prop:=∃ vm,v=.tuple ⟨[vm,.int .i64 (gL bs).2]⟩∧Wi M w vm (gL bs).1
set_option maxHeartbeats 4000000 in
theorem yj (bs:List UInt8)(p:Option Addr)(n c:Nat)(M:Nat→Prop)(w0:World)(hn:bs.length=n)(hl:n≤10000000)(hM:∀ k,M k→k < w0.heap.size)(hf:ag M w0 (av p bs)) :
  aT prog 44 [.slice p n c] w0 (fun _=>False) fun v w'=>OB M bs v w':=by
 subst hn;refine E1 func44 rfl ntmps44 (Wd.fE (M:=M) (fs:=[av p bs]) hM (by simpa using hf)) ?_;intro a S;refine kS (kR ?_);refine sa S ?_;clear S;intro b2 a w S;refine J6 ?_;clear S;intro a S;refine td S (EL bs p bs.length c _ rfl hl (S.j9 p)) ?_;clear S;rintro _ a w - ⟨rd,p1,c1,rfl,hh,kV⟩ hS -;have S:=hS (both (bw rd ⟨p1,c1,bs,0⟩) (Wk.row 5 1 p1 bs.length c1 (aa bs))) hh kV;clear hS;replace S:=S.aP;have lR:=gm (S.row p1 bs.length);replace S:=(S.front (Wk.row 5 1 p1 bs.length c1 (aa bs))).bA p1 bs (e:=5) (sz:=1) (n:=bs.length) (c:=c1) (fun _ _ _ _=>trivial);obtain ⟨r0,Af⟩:∃ r0:RS,r0=⟨p1,c1,bs,0⟩:=⟨_,rfl⟩;rw[←Af,show av p1 bs=av r0.p r0.bs from by rw[Af]]at S;have hc0:r0.bs.length≤r0.c:=by rw[Af];exact lR
 have RQ:r0.bs.length≤10000000:=by rw[Af];exact hl
 have hab:r0.ab=(bs,false):=by rw[Af];rfl
 have q1:=cK.take r0 1;have q2:=cK.take (ai r0 1) 2;have q3:=cK.take (ai (ai r0 1) 2) 2;have q4:=cK.take (ai (ai (ai r0 1) 2) 2) 2;obtain ⟨ra,OC⟩:∃ ra,ra=ai r0 1:=⟨_,rfl⟩;rw[←OC]at q1 q2 q3 q4;obtain ⟨rb,hrb⟩:∃ rb,rb=ai ra 2:=⟨_,rfl⟩;rw[←hrb]at q2 q3 q4;obtain ⟨rc,hrc⟩:∃ rc,rc=ai rb 2:=⟨_,rfl⟩;rw[←hrc]at q3 q4;obtain ⟨re,jC⟩:∃ re,re=ai rc 2:=⟨_,rfl⟩;rw[←jC]at q4;have hca:=q1.cap hc0;have hcb:=q2.cap hca;have Kt:=q3.cap hcb;have hce:=q4.cap Kt;have hla:=q1.len;have hlb:=q2.len;have hlc:=q3.len;have hle:=q4.len;obtain ⟨na,hna⟩:∃ na,na=aV (aM r0 1) 0:=⟨_,rfl⟩;obtain ⟨nb,hnb⟩:∃ nb,nb=aV (aM ra 2) 0:=⟨_,rfl⟩;obtain ⟨nc,hnc⟩:∃ nc,nc=aV (aM rb 2) 0:=⟨_,rfl⟩;obtain ⟨nd,k_⟩:∃ nd,nd=aV (aM rc 2) 0:=⟨_,rfl⟩;have hnal:na < 256:=by rw[hna];exact (ck r0 1 (by decide)).2
 have hnbl:nb < 65536:=by rw[hnb];exact (ck ra 2 (by decide)).2
 have hncl:nc < 65536:=by rw[hnc];exact (ck rb 2 (by decide)).2
 have hndl:nd < 65536:=by rw[k_];exact (ck rc 2 (by decide)).2
 obtain ⟨xa1,ZW⟩:=eP r0 1;obtain ⟨xb1,xb2⟩:=eP ra 2;obtain ⟨xc1,xc2⟩:=eP rb 2;obtain ⟨xd1,xd2⟩:=eP rc 2;rw[hab]at xa1 ZW;rw[←OC]at ZW;rw[←hrb]at xb2;rw[←hrc]at xc2;rw[←jC]at xd2;have y1:Lf bs=(aM r0 1,ra.ab):=by rw[Lf,xa1,ZW]
 have y2:GP bs=(aM ra 2,rb.ab):=by rw[GP,y1,xb1,xb2]
 have y3:GQ bs=(aM rb 2,rc.ab):=by rw[GQ,y2,xc1,xc2]
 have y4:Fm bs=(aM rc 2,re.ab):=by rw[Fm,y3,xd1,xd2]
 refine J1 ?_;clear S;intro a S;refine sa S ?_;clear S;intro b9 a w S;refine sa S ?_;clear S;intro b4 a w S;refine Y4 ?_;clear S;intro a w S;refine tN (.q 0 (.q 1 (.q 2 (.q 3 (.q 6 (.q 7 (.q 8 (.q 9 (.q 12 (.q 13 (.q 14 (.q 15 (.q 18 (.q 19 (.q 20 (.q 21 (.b2 4 25 (.q 5 (.b2 10 25 (.q 11 (.b2 16 25 (.q 17 (.b2 22 25 (.q 23 (.q 24 (.l 25 (.l 26 (.e))))) (.l 22 (.q 23 (.q 24 (.l 26 (.e))))))) (.l 16 (.q 17 (.l 22 (.q 23 (.q 24 (.l 26 (.e))))))))) (.l 10 (.q 11 (.l 16 (.q 17 (.l 22 (.q 23 (.q 24 (.l 26 (.e))))))))))) (.l 4 (.q 5 (.l 10 (.q 11 (.l 16 (.q 17 (.l 22 (.q 23 (.q 24 (.l 26 (.e)))))))))))))))))))))))))))) S (fun(b5:Nat) uu=>[(5,.pointer (some ⟨b5,0,none⟩)),(4,uu 10),(0,uu 11),(0,uu 12),(0,uu 13),(0,uu 14),(0,uu 15),(0,uu 16),(0,uu 17),(0,uu 18),(0,uu 19),(0,uu 20),(0,uu 21),(0,uu 22),(0,uu 23),(0,uu 24),(0,uu 25),(0,uu 26),(0,uu 27),(0,uu 28),(0,uu 29),(0,uu 30),(0,uu 31),(0,uu 32),(0,uu 33),(0,uu 34)]) [Wk.box b4 207 [.pointer (some ⟨b9,0,none⟩)],Wk.box b9 209 [.pointer (some ⟨rd,0,none⟩),.bool false]] (fun(b5:Nat)=>[zJ b5 ⟨na,nb,nc,nd,none,0,[],none,0,[],none,0,[]⟩,Wk.box b4 207 [.pointer (some ⟨b9,0,none⟩)],ye b9 rd false,bw rd re,Wk.box b2 67 [.int .i64 0,.int .i64 0,.int .i64 0,.int .i64 0,.slice none 0 0,.slice none 0 0,.slice none 0 0],ext M]) (fun(b5:Nat)=>[av re.p re.bs]) (fun(b5:Nat)=>True) ?_ ?_
 ·intro w S
  (iterate 16 (refine tq S ?_;clear S;intro a S));refine Hp ?_ ?_
  ·refine cM (bw rd r0) S (sV rd r0 _ hc0 RQ (S.it (bw rd r0)) (S.bU (bw rd r0) (S.mem.fact (av r0.p r0.bs)))) rfl ?_;clear S;rintro _ a w ⟨rfl,hh⟩ hS
   have S:=hS (bw rd (ai r0 1)) hh (fun k h=>.inl h);clear hS;rw[←hna]at S;replace S:=S.add (Φ:=av (ai r0 1).p (ai r0 1).bs) (cj hc0 (S.mem.fact (av r0.p r0.bs)));rw[←OC]at S;refine te S ?_;refine tq S ?_;clear S;intro a S;rw[w6 (na:Int)]at S;refine Hp ?_ ?_
   ·refine cM (bw rd ra) S (hH rd ra _ hca (by omega) (S.it (bw rd ra)) (S.bU (bw rd ra) (S.mem.fact (av ra.p ra.bs)))) rfl ?_;clear S;rintro _ a w ⟨rfl,hh⟩ hS
    have S:=hS (bw rd (ai ra 2)) hh (fun k h=>.inl h);clear hS;rw[←hnb]at S;replace S:=S.add (Φ:=av (ai ra 2).p (ai ra 2).bs) (cj hca (S.mem.fact (av ra.p ra.bs)));rw[←hrb]at S;refine te S ?_;refine tq S ?_;clear S;intro a S;rw[w6 (nb:Int)]at S;refine Hp ?_ ?_
    ·refine cM (bw rd rb) S (hH rd rb _ hcb (by omega) (S.it (bw rd rb)) (S.bU (bw rd rb) (S.mem.fact (av rb.p rb.bs)))) rfl ?_;clear S;rintro _ a w ⟨rfl,hh⟩ hS
     have S:=hS (bw rd (ai rb 2)) hh (fun k h=>.inl h);clear hS;rw[←hnc]at S;replace S:=S.add (Φ:=av (ai rb 2).p (ai rb 2).bs) (cj hcb (S.mem.fact (av rb.p rb.bs)));rw[←hrc]at S;refine te S ?_;refine tq S ?_;clear S;intro a S;rw[w6 (nc:Int)]at S;refine Hp ?_ ?_
     ·refine cM (bw rd rc) S (hH rd rc _ Kt (by omega) (S.it (bw rd rc)) (S.bU (bw rd rc) (S.mem.fact (av rc.p rc.bs)))) rfl ?_;clear S;rintro _ a w ⟨rfl,hh⟩ hS
      have S:=hS (bw rd (ai rc 2)) hh (fun k h=>.inl h);clear hS;rw[←k_]at S;replace S:=S.add (Φ:=av (ai rc 2).p (ai rc 2).bs) (cj Kt (S.mem.fact (av rc.p rc.bs)));rw[←jC]at S;refine te S ?_;refine tq S ?_;clear S;intro a S;rw[w6 (nd:Int)]at S;refine tq S ?_;clear S;intro a S;refine tl (sa S ?_);clear S;intro b5 a w S;refine te S ?_;refine tl (sw S ?_);clear S;intro a w S;refine te S ?_;refine tn ?_;exact ⟨b5,S.uu,trivial,S.sub _ _⟩
     ·refine sa S ?_;clear S;intro b5 a w S;refine te S ?_;refine tl ?_
      refine cM (bw rd rc) S (hH rd rc _ Kt (by omega) (S.it (bw rd rc)) (S.bU (bw rd rc) (S.mem.fact (av rc.p rc.bs)))) rfl ?_;clear S;rintro _ a w ⟨rfl,hh⟩ hS;have S:=hS (bw rd (ai rc 2)) hh (fun k h=>.inl h);clear hS;rw[←k_]at S;replace S:=S.add (Φ:=av (ai rc 2).p (ai rc 2).bs) (cj Kt (S.mem.fact (av rc.p rc.bs)));rw[←jC]at S;refine te S ?_;refine tq S ?_;clear S;intro a S;rw[w6 (nd:Int)]at S;refine tq S ?_;clear S;intro a S;refine tl (sw S ?_);clear S;intro a w S;refine te S ?_;refine tn ?_;exact ⟨b5,S.uu,trivial,S.sub _ _⟩
    ·refine sa S ?_;clear S;intro b5 a w S;refine te S ?_;refine tl ?_
     refine cM (bw rd rb) S (hH rd rb _ hcb (by omega) (S.it (bw rd rb)) (S.bU (bw rd rb) (S.mem.fact (av rb.p rb.bs)))) rfl ?_;clear S;rintro _ a w ⟨rfl,hh⟩ hS;have S:=hS (bw rd (ai rb 2)) hh (fun k h=>.inl h);clear hS;rw[←hnc]at S;replace S:=S.add (Φ:=av (ai rb 2).p (ai rb 2).bs) (cj hcb (S.mem.fact (av rb.p rb.bs)));rw[←hrc]at S;refine te S ?_;refine tq S ?_;clear S;intro a S;rw[w6 (nc:Int)]at S;refine tl ?_;refine cM (bw rd rc) S (hH rd rc _ Kt (by omega) (S.it (bw rd rc)) (S.bU (bw rd rc) (S.mem.fact (av rc.p rc.bs)))) rfl ?_;clear S;rintro _ a w ⟨rfl,hh⟩ hS;have S:=hS (bw rd (ai rc 2)) hh (fun k h=>.inl h);clear hS;rw[←k_]at S;replace S:=S.add (Φ:=av (ai rc 2).p (ai rc 2).bs) (cj Kt (S.mem.fact (av rc.p rc.bs)));rw[←jC]at S;refine te S ?_;refine tq S ?_;clear S;intro a S;rw[w6 (nd:Int)]at S;refine tq S ?_;clear S;intro a S;refine tl (sw S ?_);clear S;intro a w S;refine te S ?_;refine tn ?_;exact ⟨b5,S.uu,trivial,S.sub _ _⟩
   ·refine sa S ?_;clear S;intro b5 a w S;refine te S ?_;refine tl ?_
    refine cM (bw rd ra) S (hH rd ra _ hca (by omega) (S.it (bw rd ra)) (S.bU (bw rd ra) (S.mem.fact (av ra.p ra.bs)))) rfl ?_;clear S;rintro _ a w ⟨rfl,hh⟩ hS;have S:=hS (bw rd (ai ra 2)) hh (fun k h=>.inl h);clear hS;rw[←hnb]at S;replace S:=S.add (Φ:=av (ai ra 2).p (ai ra 2).bs) (cj hca (S.mem.fact (av ra.p ra.bs)));rw[←hrb]at S;refine te S ?_;refine tq S ?_;clear S;intro a S;rw[w6 (nb:Int)]at S;refine tl ?_;refine cM (bw rd rb) S (hH rd rb _ hcb (by omega) (S.it (bw rd rb)) (S.bU (bw rd rb) (S.mem.fact (av rb.p rb.bs)))) rfl ?_;clear S;rintro _ a w ⟨rfl,hh⟩ hS;have S:=hS (bw rd (ai rb 2)) hh (fun k h=>.inl h);clear hS;rw[←hnc]at S;replace S:=S.add (Φ:=av (ai rb 2).p (ai rb 2).bs) (cj hcb (S.mem.fact (av rb.p rb.bs)));rw[←hrc]at S;refine te S ?_;refine tq S ?_;clear S;intro a S;rw[w6 (nc:Int)]at S;refine tl ?_;refine cM (bw rd rc) S (hH rd rc _ Kt (by omega) (S.it (bw rd rc)) (S.bU (bw rd rc) (S.mem.fact (av rc.p rc.bs)))) rfl ?_;clear S;rintro _ a w ⟨rfl,hh⟩ hS;have S:=hS (bw rd (ai rc 2)) hh (fun k h=>.inl h);clear hS;rw[←k_]at S;replace S:=S.add (Φ:=av (ai rc 2).p (ai rc 2).bs) (cj Kt (S.mem.fact (av rc.p rc.bs)));rw[←jC]at S;refine te S ?_;refine tq S ?_;clear S;intro a S;rw[w6 (nd:Int)]at S;refine tq S ?_;clear S;intro a S;refine tl (sw S ?_);clear S;intro a w S;refine te S ?_;refine tn ?_;exact ⟨b5,S.uu,trivial,S.sub _ _⟩
  ·refine sa S ?_;clear S;intro b5 a w S;refine te S ?_;refine tl ?_
   refine cM (bw rd r0) S (sV rd r0 _ hc0 RQ (S.it (bw rd r0)) (S.bU (bw rd r0) (S.mem.fact (av r0.p r0.bs)))) rfl ?_;clear S;rintro _ a w ⟨rfl,hh⟩ hS;have S:=hS (bw rd (ai r0 1)) hh (fun k h=>.inl h);clear hS;rw[←hna]at S;replace S:=S.add (Φ:=av (ai r0 1).p (ai r0 1).bs) (cj hc0 (S.mem.fact (av r0.p r0.bs)));rw[←OC]at S;refine te S ?_;refine tq S ?_;clear S;intro a S;rw[w6 (na:Int)]at S;refine tl ?_;refine cM (bw rd ra) S (hH rd ra _ hca (by omega) (S.it (bw rd ra)) (S.bU (bw rd ra) (S.mem.fact (av ra.p ra.bs)))) rfl ?_;clear S;rintro _ a w ⟨rfl,hh⟩ hS;have S:=hS (bw rd (ai ra 2)) hh (fun k h=>.inl h);clear hS;rw[←hnb]at S;replace S:=S.add (Φ:=av (ai ra 2).p (ai ra 2).bs) (cj hca (S.mem.fact (av ra.p ra.bs)));rw[←hrb]at S;refine te S ?_;refine tq S ?_;clear S;intro a S;rw[w6 (nb:Int)]at S;refine tl ?_;refine cM (bw rd rb) S (hH rd rb _ hcb (by omega) (S.it (bw rd rb)) (S.bU (bw rd rb) (S.mem.fact (av rb.p rb.bs)))) rfl ?_;clear S;rintro _ a w ⟨rfl,hh⟩ hS;have S:=hS (bw rd (ai rb 2)) hh (fun k h=>.inl h);clear hS;rw[←hnc]at S;replace S:=S.add (Φ:=av (ai rb 2).p (ai rb 2).bs) (cj hcb (S.mem.fact (av rb.p rb.bs)));rw[←hrc]at S;refine te S ?_;refine tq S ?_;clear S;intro a S;rw[w6 (nc:Int)]at S;refine tl ?_;refine cM (bw rd rc) S (hH rd rc _ Kt (by omega) (S.it (bw rd rc)) (S.bU (bw rd rc) (S.mem.fact (av rc.p rc.bs)))) rfl ?_;clear S;rintro _ a w ⟨rfl,hh⟩ hS
   have S:=hS (bw rd (ai rc 2)) hh (fun k h=>.inl h);clear hS;rw[←k_]at S;replace S:=S.add (Φ:=av (ai rc 2).p (ai rc 2).bs) (cj Kt (S.mem.fact (av rc.p rc.bs)));rw[←jC]at S;refine te S ?_;refine tq S ?_;clear S;intro a S;rw[w6 (nd:Int)]at S;refine tq S ?_;clear S;intro a S;refine tl (sw S ?_);clear S;intro a w S;refine te S ?_;refine tn ?_;exact ⟨b5,S.uu,trivial,S.sub _ _⟩
 clear S;rintro b5 uu a w - S;refine aQ (kS ?_);replace S:=S.iJ b4;replace S:=((S.cP 179 7).cP 177 2).cP 175 2;obtain ⟨m0,hm0⟩:∃ m0:aW,m0=⟨na,nb,nc,nd,none,0,[],none,0,[],none,0,[]⟩:=⟨_,rfl⟩;rw[show Wk.row 175 2 none 0 0 []=CA m0 from by rw[hm0];rfl,show Wk.row 177 2 none 0 0 []=CB m0 from by rw[hm0];rfl,show Wk.row 179 7 none 0 0 []=CC m0 from by rw[hm0];rfl,←hm0]at S;have w7:m0.user=(na:Int)∧m0.leaf=(nb:Int)∧m0.counter=(nc:Int)∧m0.num=(nd:Int)∧m0.ah=[]∧m0.aA=[]∧m0.seen=[]:=by rw[hm0];exact ⟨rfl,rfl,rfl,rfl,rfl,rfl,rfl⟩
 clear hm0;replace S:=(((((S.front (zJ b5 m0)).front (CA m0)).front (CB m0)).front (CC m0)).front (bw rd re)).front (ye b9 rd false);replace S:=St.oZ S;replace S:=S.add (Φ:=cA m0.seen) (fun _ _ x hx=>by rw[w7.2.2.2.2.2.2]at hx;cases hx);obtain ⟨N1,QI⟩:∃ N1,N1=aV (aM re 1) 0:=⟨_,rfl⟩;have ZX:N1 < 256:=by rw[QI];exact (ck re 1 (by decide)).2
 obtain ⟨z1,z2⟩:=eP re 1;have y5:Fo bs=(aM re 1,(ai re 1).ab):=by rw[Fo,y4,z1,z2]
 have Mh:BR N1 (ai re 1).ab na nb nc nd N1 m0 false (ai re 1):=⟨rfl,⟨w7.1,w7.2.1,w7.2.2.1,w7.2.2.2.1,w7.2.2.2.2.2.1,w7.2.2.2.2.2.2⟩,by rw[w7.2.2.2.2.1];rfl,by rw[w7.2.2.2.2.1];simp;omega,by rw[w7.2.2.2.2.1];nofun⟩;refine J3 ?_;clear S;intro a S;refine kD (eN b5 b9 rd m0 false re) S (zK 138 b5 b4 b9 rd (BR N1 (ai re 1).ab na nb nc nd) (fun m wr r m' wr' r'=>wr'=wr∧r'.ab=(eL r.ab).2∧m'.m = { m.m with ah:=m.ah++[(eL r.ab).1] }) (fun k m wr r m' wr' r' h hw ⟨h1,h2,h3⟩=>h.next hw h1 h2 h3 (yg r)) (fun k m wr r Mr w0 hR hc hl jI hd h4 hx hs=>M5 b5 b4 b9 rd m wr r Mr w0 hc hl (by have:=hR.rO;omega) jI hd h4 hx hs) m0 false re (c_ _ (eN b5 b9 rd m0 false re)) _ (by rw[←QI];exact Mh) hce (by omega) (S.dM _) (S.it (eN b5 b9 rd m0 false re)) ((S.mem.fact (az b4 207 [.pointer (some ⟨b9,0,none⟩)])).split (eN b5 b9 rd m0 false re)) ((S.mem.fact (av re.p re.bs)).split (eN b5 b9 rd m0 false re)) ((S.mem.fact (cA m0.seen)).split (eN b5 b9 rd m0 false re))) rfl ?_;clear S;rintro _ a w ⟨rfl,m1,sH,r1,⟨k1,UD,E5⟩,QJ,hh,hf,hall⟩ hS;have S:=hS (eN b5 b9 rd m1 sH r1) [cA m1.seen] hh hf (by intro Φ hΦ;obtain rfl:=List.mem_singleton.1 hΦ;exact hall);clear hS;replace S:=S.add (Φ:=av r1.p r1.bs) ((S.mem.fact (av re.p re.bs)).imp fun _ h=>QJ.gl hce _ h);have QK:=QJ.cap hce;have hlr1:=QJ.len;obtain rfl:=UD.wr;have y6:Al bs=(m1.ah,r1.ab):=by rw[Al,y5,←QI,UD.rel,ni E5];simp
 obtain ⟨N2,QL⟩:∃ N2,N2=aV (aM r1 1) 0:=⟨_,rfl⟩;have ZY:N2 < 256:=by rw[QL];exact (ck r1 1 (by decide)).2
 obtain ⟨z3,z4⟩:=eP r1 1;have y7:DI bs=(aM r1 1,(ai r1 1).ab):=by rw[DI,y6,z3,z4]
 have kr:=UD.flat;have sR:BS N2 (ai r1 1).ab na nb nc nd m1.ah N2 m1 false (ai r1 1):=⟨rfl,⟨kr.1,kr.2.1,kr.2.2.1,kr.2.2.2.1,rfl,kr.2.2.2.2.2⟩,by rw[kr.2.2.2.2.1];rfl,by rw[kr.2.2.2.2.1];simp;omega,by rw[kr.2.2.2.2.1];nofun⟩;refine J6 ?_;clear S;intro a S;refine kD (eN b5 b9 rd m1 false r1) S (zK 140 b5 b4 b9 rd (BS N2 (ai r1 1).ab na nb nc nd m1.ah) (fun m wr r m' wr' r'=>wr'=wr∧r'.ab=(eL r.ab).2∧m'.m = { m.m with aA:=m.aA++[(eL r.ab).1] }) (fun k m wr r m' wr' r' h hw ⟨h1,h2,h3⟩=>h.next hw h1 h2 h3 (yg r)) (fun k m wr r Mr w0 hR hc hl jI hd h4 hx hs=>M6 b5 b4 b9 rd m wr r Mr w0 hc hl (by have:=hR.rO;omega) jI hd h4 hx hs) m1 false r1 (c_ _ (eN b5 b9 rd m1 false r1)) _ (by rw[←QL];exact sR) QK (by omega) (S.dM _) (S.it (eN b5 b9 rd m1 false r1)) ((S.mem.fact (az b4 207 [.pointer (some ⟨b9,0,none⟩)])).split (eN b5 b9 rd m1 false r1)) ((S.mem.fact (av r1.p r1.bs)).split (eN b5 b9 rd m1 false r1)) ((S.mem.fact (cA m1.seen)).split (eN b5 b9 rd m1 false r1))) rfl ?_;clear S;rintro _ a w ⟨rfl,m2,Wn,r2,⟨k2,zo,hk2⟩,QM,hh,hf,hall⟩ hS;have S:=hS (eN b5 b9 rd m2 Wn r2) [cA m2.seen] hh hf (by intro Φ hΦ;obtain rfl:=List.mem_singleton.1 hΦ;exact hall);clear hS;replace S:=S.add (Φ:=av r2.p r2.bs) ((S.mem.fact (av r1.p r1.bs)).imp fun _ h=>QM.gl QK _ h);have QN:=QM.cap QK;have hlr2:=QM.len;obtain rfl:=zo.wr;have y8:zM bs=(m2.aA,r2.ab):=by rw[zM,y7,←QL,zo.rel,ni hk2];simp
 obtain ⟨N3,Nc⟩:∃ N3,N3=aV (aM r2 1) 0:=⟨_,rfl⟩;have ZZ:N3 < 256:=by rw[Nc];exact (ck r2 1 (by decide)).2
 obtain ⟨z5,z6⟩:=eP r2 1;have y9:Fp bs=(aM r2 1,(ai r2 1).ab):=by rw[Fp,y8,z5,z6]
 have iF:=zo.flat;have K8:BT N3 (ai r2 1).ab na nb nc nd m1.ah m2.aA N3 m2 false (ai r2 1):=⟨⟨iF.1,iF.2.1,iF.2.2.1,iF.2.2.2.1,iF.2.2.2.2.1,rfl⟩,by rw[iF.2.2.2.2.2];simp[cU],by rw[iF.2.2.2.2.2];simp;omega⟩;refine J6 ?_;clear S;intro a S;refine kD (eN b5 b9 rd m2 false r2) S (zK 141 b5 b4 b9 rd (BT N3 (ai r2 1).ab na nb nc nd m1.ah m2.aA) (fun m wr r m' wr' r'=>wr'=(wr||!(eA r.ab).2.1)∧r'.ab=(eA r.ab).2.2∧m'.m = { m.m with seen:=cU m.seen++[(eA r.ab).1] }) (fun k m wr r m' wr' r' h hw ⟨h1,h2,h3⟩=>h.next hw h1 h2 h3) (fun k m wr r Mr w0 hR hc hl jI hd h4 hx hs=>M7 b5 b4 b9 rd m wr r Mr w0 hc hl (by have:=hR.rO;omega) jI hd h4 hx hs) m2 false r2 (c_ _ (eN b5 b9 rd m2 false r2)) _ (by rw[←Nc];exact K8) QN (by omega) (S.dM _) (S.it (eN b5 b9 rd m2 false r2)) ((S.mem.fact (az b4 207 [.pointer (some ⟨b9,0,none⟩)])).split (eN b5 b9 rd m2 false r2)) ((S.mem.fact (av r2.p r2.bs)).split (eN b5 b9 rd m2 false r2)) ((S.mem.fact (cA m2.seen)).split (eN b5 b9 rd m2 false r2))) rfl ?_;clear S;rintro _ a w ⟨rfl,m3,Z0,r3,⟨k3,Z1,ZI⟩,QO,hh,hf,hall⟩ hS;have S:=hS (eN b5 b9 rd m3 Z0 r3) [cA m3.seen] hh hf (by intro Φ hΦ;obtain rfl:=List.mem_singleton.1 hΦ;exact hall);clear hS;replace S:=S.add (Φ:=av r3.p r3.bs) ((S.mem.fact (av r2.p r2.bs)).imp fun _ h=>QO.gl QN _ h);have hcr3:=QO.cap QN;have hlr3:=QO.len;have y10:pN bs=(cU m3.seen,!Z0,r3.ab):=by rw[pN,y9,←Nc,Z1.rel,wg ZI];simp
 have Bd:=Z1.flat;have hmem:vY bs=m3.m:=by
  rw[vY,y1,y2,y3,y4,y6,y8,y10,aW.m,←hna,←hnb,←hnc,←k_,Bd.1,Bd.2.1,Bd.2.2.1,Bd.2.2.2.1,Bd.2.2.2.2.1,Bd.2.2.2.2.2]
 have hfit:dY m3:=⟨by rw[Bd.2.2.2.2.1];have:=UD.rO;omega,by rw[Bd.2.2.2.2.2];have:=zo.rO;omega,by have:=Z1.rO;omega,by rw[Bd.2.2.2.2.1];intro x hx;have:=UD.names x hx;omega,by rw[Bd.2.2.2.2.2];intro x hx;have:=zo.names x hx;omega⟩;have hMF:dV m3:=⟨hfit⟩;have ji:gL bs=if r3.why≠0 then (vZ,7) else if Z0=true∨0 < r3.bs.length∨b_ m3.m=false then (vZ,300) else (m3.m,0):=by
  rw[gL,y10,hmem];simp only[RS.lN,Bool.not_eq_false'];rfl
 replace S:=St.sG S;replace S:=S.front (CC m3);replace S:=S.bA m3.ep m3.seen (e:=179) (sz:=7) (n:=m3.seen.length) (c:=m3.ec) (S.wd.facts (cA m3.seen) (by simp));replace S:=(S.front (CB m3)).bA m3.vp m3.aA (e:=177) (sz:=2) (n:=m3.aA.length) (c:=m3.vc) (fun _ _ _ _=>trivial);replace S:=(S.front (CA m3)).bA m3.sp m3.ah (e:=175) (sz:=2) (n:=m3.ah.length) (c:=m3.sc) (fun _ _ _ _=>trivial);replace S:=S.iJ rd;replace S:=S.add (Φ:=aE m3) (fun w' h=>⟨S.mem.fact (av m3.sp m3.ah) w' h,S.mem.fact (av m3.vp m3.aA) w' h,S.mem.fact (av m3.ep m3.seen) w' h⟩);refine J9 ?_;clear S;intro a S;refine sr S (yW rd r3 _ ((S.mem.fact (az rd 238 (La r3))).less fun _ _ h=>h.elim)) ?_;clear S;rintro _ a w rfl S;refine J3 ?_;clear S;intro a S;refine kC S (fun h6=>?_) (fun h6=>?_)
 ·refine Y9 ?_;clear S;intro a w S
  have hw:r3.why≠0:=by simpa using h6
  rw[if_pos hw]at ji;exact gO S (fun _=>⟨_,by rw[ji],by rw[ji];exact rI M _⟩)
 ·refine sP ?_;clear S;intro a w S;refine J4 ?_;clear S;intro a S
  refine kC S (fun h8=>?_) (fun h8=>?_)
  ·refine Y9 ?_;clear S;intro a w S
   have hw:r3.why=0:=by simpa using h6
   rw[if_neg (fun h=>h hw),if_pos (by
    simp only[Bool.or_eq_true,decide_eq_true_eq,Bool.not_eq_true',decide_eq_false_iff_not]at h8;rcases h8 with (h | h) | h
    ·exact .inl h
    ·exact .inr (.inl (by omega))
    ·refine .inr (.inr ?_)
     cases hb:b_ m3.m with
     | false=>rfl
     | true=>rw[jQ,hb]at h;exact absurd rfl h)]at ji
   exact gO S (fun _=>⟨_,by rw[ji],by rw[ji];exact rI M _⟩)
  ·refine NJ ?_;clear S;intro a w S
   have hw:r3.why=0:=by simpa using h6
   rw[if_neg (fun h=>h hw),if_neg (by
    simp only[Bool.or_eq_false_iff,decide_eq_false_iff_not,Bool.not_eq_false',decide_eq_true_eq]at h8;rintro (h | h | h)
    ·rw[h]at h8;exact absurd h8.1.1 (by simp)
    ·omega
    ·rw[jQ,h]at h8;exact absurd h8.2 (by decide))]at ji
   have Yi:=S.fY (M:=M) (Φ:=aE m3) (by simp);refine gO S (fun _=>⟨fJ m3,by rw[ji],?_⟩);rw[ji];exact ⟨m3,rfl,rfl,hfit,Yi⟩
def ot (V:LV)(bs:List UInt8):Bool:=decide (bs.length≤40000)&&decide (kO (bs.length:Int)≤(V.n:Int) - V.fin)
def eM (V:LV)(bs:List UInt8):LV × Int:=if ot V bs then m6 V bs else jG V bs
def cJ (V:LV)(now m:bJ):LV × bJ × Int:=
 if V.broken then (V,now,8) else
 if b_ m=false then (V,now,300) else
 if dQ now m=false then (V,now,301) else
 if aY now=aY m then (V,now,0) else
 ((eM V (aY m)).1,if (eM V (aY m)).2=0 then m else now,(eM V (aY m)).2)
theorem Ku {V:LV}{k:Nat}(h:V.Wf k)(bs:List UInt8):(eM V bs).1.Wf (k+840):=by
 unfold eM;split;exact tX h _;exact zv h _
theorem Kv {V:LV}{k:Nat}(h:V.Wf k)(now m:bJ):(cJ V now m).1.Wf (k+840):=by
 unfold cJ;split;exact h.more (by omega);split;exact h.more (by omega);split;exact h.more (by omega);split;exact h.more (by omega);exact Ku h _
theorem nj:∀ l:List aH,(∀ x∈l,qq x)→(bK l).length≤258*l.length
 | [],_=>by simp[bK]
 | m::l,h=>by
  have h1:=(h m (.head _)).key;have h2:=nj l fun x hx=>h x (.tail _ hx)
  simp only[bK,nE,List.length_append,jb,dK];omega
theorem qv {m:bJ}(h:b_ m=true):(aY m).length≤1000000:=by
 have ok:=zO h;have h1:=nj m.ah ok.ah.2;have h2:=nj m.aA ok.aA.2;have h3:=qo m.seen;have h4:=ok.ah.1;have h5:=ok.aA.1;have h6:=ok.seen.1;rw[aY,ng,m_,lK];simp only[List.length_append,jb,ki,FG];omega
class QS (L:LG):Prop where
 wf:∃ k,L.v.Wf k
class Nf (bs:List Wk.Item)(g:Nat)(b:outParam Nat)(L:outParam LG):Prop where mem:ct b g L∈bs
instance lgat0 {g b:Nat}{L:LG}{bs:List Wk.Item} : Nf (ct b g L::bs) g b L:=⟨List.mem_cons_self ..⟩
instance (priority:=900) lgat1 {g b:Nat}{L:LG}{x:Wk.Item}{bs:List Wk.Item}[h:Nf bs g b L]:Nf (x::bs) g b L:=⟨List.mem_cons_of_mem _ h.mem⟩
instance UE {n:Int}{bs fs} : cB prog 78 [.int .i64 n] bs fs (.int .i64 (kO n)):=⟨fun w _=>ke n w⟩
instance Z2 {g b:Nat}{L:LG}{bs fs}[h:Nf bs g b L][hw:QS L]:cB prog 100 [.pointer (some ⟨g,0,none⟩)] bs fs (.int .i64 ((L.v.n:Int) - L.v.fin)):=⟨fun w m=>by
 obtain ⟨k,hk⟩:=hw.wf;exact P4 b g L k hk w (m.held _ h.mem)⟩
abbrev BU (h g:Nat)(x:aW):Wk.Item:=Wk.box h 214 [.pointer (some ⟨g,0,none⟩),.int .i64 x.user,.int .i64 x.leaf,.int .i64 x.counter,.int .i64 x.num,.slice x.sp x.ah.length x.sc,.slice x.vp x.aA.length x.vc,.slice x.ep x.seen.length x.ec]
abbrev cD (h b g:Nat)(L:LG)(x:aW):Wk.Item:=both (BU h g x) (ct b g L)
structure QT (L:LG)(x:aW)(k:Nat):Prop where
 wf:L.v.Wf k
 fit:dY x
 ok:b_ x.m=true
def UF (Mr:Nat→Prop)(h b g:Nat)(L:LG)(x:aW)(m:bJ)(v:Value)(w0 w:World):Prop:=∃ L' x',v=.int .i64 (cJ L.v x.m m).2.2∧(cD h b g L' x').holds w∧(∀ k,(cD h b g L' x').aj k→(cD h b g L x).aj k∨w0.heap.size≤k)∧L'.m=L.m∧L'.v=(cJ L.v x.m m).1∧x'.m=(cJ L.v x.m m).2.1∧dY x'∧b_ x'.m=true∧ag (fun k=>(cD h b g L' x').aj k∨Mr k) w (aE x')
def QU (Mr:Nat→Prop)(h b g:Nat)(L:LG)(x:aW)(m:bJ)(v:Value)(w0 w:World):Prop:=∃ L' x',v=.int .i64 (cJ L.v x.m m).2.2∧(cD h b g L' x').holds w∧(∀ k,(cD h b g L' x').aj k→(cD h b g L x).aj k∨w0.heap.size≤k)∧L'.m=L.m∧L'.v=(cJ L.v x.m m).1∧x'.m=(cJ L.v x.m m).2.1∧dY x'∧b_ x'.m=true∧ag (fun k=>(cD h b g L' x').aj k∨Mr k) w (aE x')∧(x'=x∨wQ w0.heap.size x')
set_option maxHeartbeats 2000000 in
theorem Fq (h b g:Nat)(L:LG)(x:aW)(k:Nat)(hst:QT L x k)(hk:k≤970000)(m:aW)(hfit:dY m)(Mr:Nat→Prop)(w0:World)(jI:∀ k,Mr k→k < w0.heap.size∧¬(cD h b g L x).aj k)(hd:(cD h b g L x).holds w0)(fx:ag (fun k=>(cD h b g L x).aj k∨Mr k) w0 (aE x))(fm:ag (fun k=>(cD h b g L x).aj k∨Mr k) w0 (aE m)) :
  aT prog 50 [.pointer (some ⟨h,0,none⟩),fJ m] w0 (cD h b g L x).aj fun v w'=>QU Mr h b g L x m.m v w0 w':=by
 obtain ⟨hwf,s_,nI⟩:=hst;have wG:=hwf.n;have hn2:=hwf.fin;refine E1 func50 rfl ntmps50 (Wd.nR (x:=BU h g x) (y:=ct b g L) (Mr:=Mr) (fs:=[aE x,aE m]) hd rfl rfl jI (by simp;exact ⟨fx,fm⟩)) ?_;intro a S;refine kS (kR ?_);refine sa S ?_;intro b3 a w S;refine FF ?_;intro a S;refine jU S (sD m hfit _ ((S.mem.fact (aE m)).less fun _ _ h=>h.elim)) ?_;rintro _ a w ⟨p3,c3,rfl,hown,hnew⟩ hS -;have S:=hS hown hnew;clear hS;obtain ⟨B,hB⟩:∃ B,B=mE m.m:=⟨_,rfl⟩;rw[←hB]at S;have hBl:B.length≤100000000:=by
  rw[hB,mE];split;exact vR hfit;simp
 replace S:=(S.front (Wk.row 5 1 p3 B.length c3 (aa B))).bA p3 B (e:=5) (sz:=1) (n:=B.length) (c:=c3) (fun _ _ _ _=>trivial);refine tI ?_;intro a S;refine sr S (vF b g L _ (S.it (ct b g L))) ?_;rintro _ a w rfl S;refine J3 ?_;intro a S;refine kC S (fun h4=>?_) (fun h4=>?_);refine J8 ?_;intro a S;have hv:cJ L.v x.m m.m=(L.v,x.m,8):=by rw[cJ,if_pos h4]
 replace S:=((S.front (ct b g L)).front (BU h g x)).aL;have hh:=S.it (cD h b g L x);have kV:=S.bH (cD h b g L x) rfl;have hst:ag (fun k=>(cD h b g L x).aj k∨Mr k) _ (aE x):=(S.wd.facts (aE x) (by simp)).less fun k _ hk=>hk.elim (fun h1=>⟨cD h b g L x,by simp,h1⟩) (fun h1=>⟨ext Mr,by simp,h1⟩)
 exact aD S (fun _=>⟨L,x,by rw[hv],hh,kV,rfl,by rw[hv],by rw[hv],s_,nI,hst,.inl rfl⟩);refine kS ?_;have pL:¬L.v.broken=true:=by simpa using h4
 refine J3 ?_;intro a S;rw[rB]at S;refine J3 ?_;intro a S;refine kC S (fun h6=>?_) (fun h6=>?_);refine J9 ?_;intro a S;have Wr:b_ m.m=false:=by simpa using h6
 have hv:cJ L.v x.m m.m=(L.v,x.m,300):=by rw[cJ,if_neg pL,if_pos Wr]
 have he:jQ m.m=300:=by rw[jQ,Wr];rfl
 replace S:=((S.front (ct b g L)).front (BU h g x)).aL;have hh:=S.it (cD h b g L x);have kV:=S.bH (cD h b g L x) rfl;have hst:ag (fun k=>(cD h b g L x).aj k∨Mr k) _ (aE x):=(S.wd.facts (aE x) (by simp)).less fun k _ hk=>hk.elim (fun h1=>⟨cD h b g L x,by simp,h1⟩) (fun h1=>⟨ext Mr,by simp,h1⟩)
 exact aD S (fun _=>⟨L,x,by rw[hv,he],hh,kV,rfl,by rw[hv],by rw[hv],s_,nI,hst,.inl rfl⟩);refine kS ?_;have hok:b_ m.m=true:=by simpa using h6
 have Dz:B=aY m.m:=by rw[hB,mE,if_pos hok]
 have Ws:B.length≤1000000:=by rw[Dz];exact qv hok
 refine bM [T9 0,T9 1,T9 2,T9 3,T9 4,F9 5,T9 6,T9 7] [] S ?_;intro w S;(iterate 5 (refine dq S ?_;intro a S));refine dl ?_;refine sr S (x_ x m s_ hfit _ ((S.mem.fact (aE x)).less fun _ _ h=>h.elim) ((S.mem.fact (aE m)).less fun _ _ h=>h.elim)) ?_;rintro _ a w rfl S;refine de S ?_;(iterate 2 (refine dq S ?_;intro a S));refine dn (aQ ?_);refine kC S (fun h8=>?_) (fun h8=>?_);refine J8 ?_;intro a S;have hC:dQ x.m m.m=false:=by simpa using h8
 have hv:cJ L.v x.m m.m=(L.v,x.m,301):=by rw[cJ,if_neg pL,if_neg (by rw[hok];simp),if_pos hC]
 replace S:=((S.front (ct b g L)).front (BU h g x)).aL;have hh:=S.it (cD h b g L x);have kV:=S.bH (cD h b g L x) rfl;have hst:ag (fun k=>(cD h b g L x).aj k∨Mr k) _ (aE x):=(S.wd.facts (aE x) (by simp)).less fun k _ hk=>hk.elim (fun h1=>⟨cD h b g L x,by simp,h1⟩) (fun h1=>⟨ext Mr,by simp,h1⟩)
 exact aD S (fun _=>⟨L,x,by rw[hv],hh,kV,rfl,by rw[hv],by rw[hv],s_,nI,hst,.inl rfl⟩);refine kK (qw (aQ (kS ?_)));have hC:¬dQ x.m m.m=false:=by simpa using h8
 refine J5 ?_;intro a S;refine jU S (sD x s_ _ ((S.mem.fact (aE x)).less fun _ _ h=>h.elim)) ?_;rintro _ a w ⟨p7,c7,rfl,UG,UH⟩ hS -;have S:=hS UG UH;clear hS;rw[show mE x.m=aY x.m from by rw[mE,if_pos nI]]at S;have hXs:(aY x.m).length≤1000000:=qv nI;replace S:=(S.front (Wk.row 5 1 p7 (aY x.m).length c7 (aa (aY x.m)))).bA p7 (aY x.m) (e:=5) (sz:=1) (n:=(aY x.m).length) (c:=c7) (fun _ _ _ _=>trivial);refine J7 ?_;intro a S;refine lq S (fun(L2:LG) (e:Int) uu=>[(4,uu 4),(1,.int .i64 e),(35,uu 42),(0,uu 43),(0,uu 44),(0,uu 45),(0,uu 46),(0,uu 47),(0,uu 48),(0,uu 49),(0,uu 50),(0,uu 51),(0,uu 52),(0,uu 53),(0,uu 54),(0,uu 55),(0,uu 56),(0,uu 57),(0,uu 58),(0,uu 59),(0,uu 60),(0,uu 61),(0,uu 62),(0,uu 63),(0,uu 64),(0,uu 65),(0,uu 66),(0,uu 67),(0,uu 68),(0,uu 69),(0,uu 70),(0,uu 71),(0,uu 72)]) (fun(L2:LG) (e:Int)=>[ct b g L2,Wk.box b3 67 (cN m),BU h g x,ext Mr]) (fun(L2:LG) (e:Int)=>[aE x,aE m]) (fun(L2:LG) (e:Int)=>L2.m=L.m∧L2.v=(eM L.v (aY m.m)).1∧e=(eM L.v (aY m.m)).2∧¬aY x.m=aY m.m) ?_ ?_;refine J5 ?_;intro a S;refine sr S (TS p7 p3 c7 c3 (aY x.m) B ⟨hXs,Ws⟩ _ (S.j9 p7) (S.j9 p3)) ?_;rintro _ a w rfl S;refine J3 ?_;intro a S;refine kC S (fun h12=>?_) (fun h12=>?_);refine J8 ?_;intro a S;have hE:aY x.m=aY m.m:=by rw[←Dz];exact of_decide_eq_true h12
 have hv:cJ L.v x.m m.m=(L.v,x.m,0):=by rw[cJ,if_neg pL,if_neg (by rw[hok];simp),if_neg hC,if_pos hE]
 replace S:=((S.front (ct b g L)).front (BU h g x)).aL;have hh:=S.it (cD h b g L x);have kV:=S.bH (cD h b g L x) rfl;have hst:ag (fun k=>(cD h b g L x).aj k∨Mr k) _ (aE x):=(S.wd.facts (aE x) (by simp)).less fun k _ hk=>hk.elim (fun h1=>⟨cD h b g L x,by simp,h1⟩) (fun h1=>⟨ext Mr,by simp,h1⟩)
 exact aD S (fun _=>⟨L,x,by rw[hv],hh,kV,rfl,by rw[hv],by rw[hv],s_,nI,hst,.inl rfl⟩);refine kS ?_;have hne:¬aY x.m=aY m.m:=by rw[←Dz];exact of_decide_eq_false h12
 have hW:QS L:=⟨k,hwf⟩;refine bM [T9 0,T9 1,T9 2,T9 3,T9 4,T9 5,T9 7,T9 8,T9 9,T9 10,F9 6,F9 11,T9 12,T9 13,T9 14] [] S ?_;intro w S;(iterate 4 (refine dq S ?_;intro a S));(iterate 6 (refine iX S ?_;intro a S));refine dl ?_;refine gC S ?_;intro a w S;refine de S ?_;refine dl ?_;refine gC S ?_;intro a w S;refine de S ?_;refine iX S ?_;intro a S;(iterate 2 (refine dq S ?_;intro a S));refine dn (aQ ?_);refine kC S (fun GF=>?_) (fun GF=>?_);refine J6 ?_;intro a S;have lV:ot L.v (aY m.m)=true:=by rw[ot,←Dz,←show decide ((B.length:Int)≤40000)=decide (B.length≤40000) from decide_eq_decide.2 (by omega)];exact GF
 refine cM (ct b g L) S (vE b g L k ⟨p3,c3,B⟩ hwf (by omega) (by show B.length≤_;omega) w (S.it (ct b g L)) (S.bU (ct b g L) (S.mem.fact (av p3 B)))) rfl ?_;rintro _ a w ⟨L2,rfl,u7,iF,hm2,qu⟩ hS;have S:=hS (ct b g L2) u7 iF;clear hS;refine J4 ?_;intro a S;replace S:=S.front (ct b g L2);exact ⟨L2,_,S.uu,⟨hm2,by rw[eM,if_pos lV,←Dz];exact qu,by rw[eM,if_pos lV,←Dz],hne⟩,S.sub _ _⟩;refine J6 ?_;intro a S;have lV:ot L.v (aY m.m)=false:=by rw[ot,←Dz,←show decide ((B.length:Int)≤40000)=decide (B.length≤40000) from decide_eq_decide.2 (by omega)];exact GF
 refine cM (ct b g L) S (Bk b g L k ⟨p3,c3,B⟩ hwf (by omega) (by show B.length≤_;omega) w (S.it (ct b g L)) (S.bU (ct b g L) (S.mem.fact (av p3 B)))) rfl ?_;rintro _ a w ⟨L2,rfl,u7,iF,hm2,qu⟩ hS;have S:=hS (ct b g L2) u7 iF;clear hS;refine J4 ?_;intro a S;replace S:=S.front (ct b g L2);exact ⟨L2,_,S.uu,⟨hm2,by rw[eM,lV,←Dz];exact qu,by rw[eM,lV,←Dz];rfl,hne⟩,S.sub _ _⟩;clear S;rintro L2 e uu a w ⟨hm2,qu,n7,hne⟩ S;refine kS (kS ?_);have hv:cJ L.v x.m m.m=((eM L.v (aY m.m)).1,if (eM L.v (aY m.m)).2=0 then m.m else x.m,(eM L.v (aY m.m)).2):=by rw[cJ,if_neg pL,if_neg (by rw[hok];simp),if_neg hC,if_neg hne]
 refine J5 ?_;intro a S;refine kC S (fun Cv=>?_) (fun Cv=>?_);refine J3 ?_;intro a S;have tv:w0.heap.size≤w.heap.size:=S.wd.agree.size;refine sr S (BJ m hfit hok _ w (a_ S) (S.mem.fact (aE m))) ?_;rintro _ a w ⟨x',rfl,hx',QV,QW,-,Z3⟩ S;replace Z3:=Z3.up tv;replace S:=S.add (Φ:=aE x') QW;refine uh ?_;intro a w S;have Ad:(eM L.v (aY m.m)).2=0:=by rw[←n7];simpa using Cv
 rw[if_pos Ad]at hv;replace S:=((S.front (ct b g L2)).front (BU h g x')).aL;have hh:=S.it (cD h b g L2 x');have kV:=S.bH (cD h b g L2 x') rfl;have hst:ag (fun k=>(cD h b g L2 x').aj k∨Mr k) _ (aE x'):=(S.wd.facts (aE x') (by simp)).less fun k _ hk=>hk.elim (fun h1=>⟨cD h b g L2 x',by simp,h1⟩) (fun h1=>⟨ext Mr,by simp,h1⟩)
 exact aD S (fun _=>⟨L2,x',by rw[hv,n7],hh,kV,hm2,by rw[hv];exact qu,by rw[hv];exact hx',QV,by rw[hx'];exact hok,hst,.inr Z3⟩);refine J9 ?_;intro a S;have Ad:¬(eM L.v (aY m.m)).2=0:=by rw[←n7];simpa using Cv
 rw[if_neg Ad]at hv;replace S:=((S.front (ct b g L2)).front (BU h g x)).aL;have hh:=S.it (cD h b g L2 x);have kV:=S.bH (cD h b g L2 x) rfl;have hst:ag (fun k=>(cD h b g L2 x).aj k∨Mr k) _ (aE x):=(S.wd.facts (aE x) (by simp)).less fun k _ hk=>hk.elim (fun h1=>⟨cD h b g L2 x,by simp,h1⟩) (fun h1=>⟨ext Mr,by simp,h1⟩)
 exact aD S (fun _=>⟨L2,x,by rw[hv,n7],hh,kV,hm2,by rw[hv];exact qu,by rw[hv],s_,nI,hst,.inl rfl⟩)
theorem Fs (h b g:Nat)(L:LG)(x:aW)(k:Nat)(hst:QT L x k)(hk:k≤970000)(m:aW)(hfit:dY m)(Mr:Nat→Prop)(w0:World)(jI:∀ k,Mr k→k < w0.heap.size∧¬(cD h b g L x).aj k)(hd:(cD h b g L x).holds w0)(fx:ag (fun k=>(cD h b g L x).aj k∨Mr k) w0 (aE x))(fm:ag (fun k=>(cD h b g L x).aj k∨Mr k) w0 (aE m)) :
  aT prog 50 [.pointer (some ⟨h,0,none⟩),fJ m] w0 (cD h b g L x).aj fun v w'=>UF Mr h b g L x m.m v w0 w':=
 (Fq h b g L x k hst hk m hfit Mr w0 jI hd fx fm).mono fun _ _ ⟨L',x',h1,h2,h3,h4,h5,h6,h7,h8,h9,_⟩=>⟨L',x',h1,h2,h3,h4,h5,h6,h7,h8,h9⟩
def Kp (s s':DS):Prop:=(Nd s→Nd s')∧s'.size=s.size
theorem Kp.refl (s:DS):Kp s s:=⟨id,rfl⟩
theorem Kp.trans {a b c:DS}(h:Kp a b)(k:Kp b c):Kp a c:=⟨fun x=>k.1 (h.1 x),k.2.trans h.2⟩
theorem BV {s s':DS}(h1:s'.cg=s.cg)(h2:s'.size=s.size):Kp s s':=⟨fun h=>by rw[Nd,h1];exact h,h2⟩
theorem BW (k:Int)(v:bF):∀ f:List (Int × bF),(qO k v f).map Prod.fst=if k∈f.map Prod.fst then f.map Prod.fst else f.map Prod.fst++[k]
 | []=>by simp[qO]
 | (u,x)::f=>by
  rw[qO]
  by_cases h:k=u
  subst h;simp;rw[if_neg h,List.map_cons,BW k v f,List.map_cons]
  by_cases h2:k∈f.map Prod.fst
  rw[if_pos h2,if_pos (List.mem_cons_of_mem _ h2)];rw[if_neg h2,if_neg (by simp only[List.mem_cons,not_or];exact ⟨h,h2⟩)];rfl
theorem QX {k:Int}{v:bF}{f:List (Int × bF)}(h:(f.map Prod.fst).Nodup):((qO k v f).map Prod.fst).Nodup:=by
 rw[BW];split;exact h
 rename_i hn
 exact List.nodup_append.2 ⟨h,by simp,fun x hx y hy hxy=>hn (by obtain rfl:=List.mem_singleton.1 hy;exact hxy▸hx)⟩
theorem o5 {st:Nat→Bool}{l:List rN}{f:List (Int × bF)}(h:(f.map Prod.fst).Nodup):∀ k,((cL st l f k).map Prod.fst).Nodup
 | 0=>h
 | k+1=>by
  rw[cL];split;exact QX (o5 h k);exact o5 h k
theorem GW (st:Nat→Bool)(s:DS):Kp s (gy st s):=⟨fun h=>o5 h _,rfl⟩
theorem zP (s:DS)(k:Int)(b:Bool):Kp s (fe s k b):=BV (xQ s k b).cg (xQ s k b).size
theorem OD (s:DS):Kp s (oK s):=BV rfl rfl
theorem BX (g:DS→DS)(hg:∀ s,Kp s (g s))(s:DS)(k:Int):Kp s (g_ g s k):=by
 unfold g_;split;exact (zP s k true).trans ((hg _).trans (OD _));exact zP s k true
theorem BY (s:DS)(k:Int)(x:bF):Kp s (l_ s k x):=BX (fun s=>dU s k x) (fun _=>BV rfl rfl) s k
theorem OE (s:DS):Kp s (oL s):=BX _ (fun s=>GW _ s) s 0
theorem Ft (s:DS)(k:Int):Kp s (lA s k):=by
 unfold lA;split;exact (zP s k false).trans (OD _);exact zP s k false
theorem ud:∀ (xs:List bF) (s:DS) (k:Int),Kp s (gB s k xs).1
 | [],s,_=>Kp.refl s
 | x::xs,s,k=>by
  rw[gB];split;exact (BY s k x).trans (ud xs _ _);exact BY s k x
theorem j4 (s:DS)(k:Int)(xs:List bF):Kp s (bg s k xs).1:=by
 rw[bg];split;exact (ud xs s k).trans (OE _);exact ud xs s k
theorem DK (n:Nat)(t:Int)(bs:List UInt8)(s:DS):Kp s (eT n t bs s).1:=by
 have e:eT n t bs s=if (bg s (aB n t:Nat) (aG t 0 bs)).2=0 then bg (bg s (aB n t:Nat) (aG t 0 bs)).1 ((t % 2).toNat:Nat) [bW t n] else bg s (aB n t:Nat) (aG t 0 bs):=rfl
 rw[e];split;exact (j4 _ _ _).trans (j4 _ _ _);exact j4 _ _ _
theorem Kw (n:Nat)(s:DS):Kp s (gK n s).1:=by
 rw[gK];split;exact (j4 _ _ _).trans (DK _ _ _ _);exact j4 _ _ _
theorem Kx:∀ (k i:Nat) (s:DS) (B:Bb),Kp s (jZ k i s B).1
 | 0,_,s,B=>by rw[jZ];split <;> exact Kp.refl s
 | k+1,i,s,B=>by
  rw[jZ];split;exact (Ft s i).trans (Kx k _ _ _);exact Ft s i
theorem wj (fr:Nat):∀ (k i:Nat) (s:DS),Kp s (cq fr k i s).1
 | 0,_,s=>Kp.refl s
 | k+1,i,s=>by
  rw[cq];split;exact (Ft s _).trans (wj fr k _ _);exact Ft s _
theorem zQ (fr:Nat):∀ (xs:List bF) (i:Nat) (sy:Bool) (s:DS),Kp s (gp fr xs i sy s).1
 | [],_,_,s=>Kp.refl s
 | x::xs,i,sy,s=>by
  rw[gp];split;exact zQ fr xs _ _ _;split;exact (BY s _ _).trans (zQ fr xs _ _ _);exact BY s _ _
theorem Ky (fr fin:Nat)(f:List bF)(s:DS):Kp s (jF fr fin f s).1:=by
 have h:=zQ fr (f.drop fin) fin (decide (0 < s.loose.length)) s;unfold jF n9;split;split;exact h.trans (OE _);exact h;exact h
theorem rJ (s:DS):Kp s (aR s).1:=by
 have h:=Kx 2 0 s ⟨false,0,0⟩;rw[aR];split;refine Kp.trans h ?_
 show Kp (cw s).1 _
 rw[mu];split;refine (wj (aB (cw s).2.2.n.toNat (cw s).2.2.t) (cw s).2.2.n.toNat 0 (cw s).1).trans ?_;rw[lC];split;exact Kp.refl _;split;exact Ky _ _ _ _;exact Ky _ _ _ _;exact wj _ _ _ _;exact h
theorem Kz (l:List Bool)(s:DS):Kp s (bp l s):=⟨fun h=>o5 h _,rfl⟩
theorem Ng (s:DS)(n:Int):Kp s (jy s n):=by unfold jy;split <;> exact BV rfl rfl
theorem QY (s:DS)(n:Int):Kp s (nV s n):=by unfold nV;split <;> exact BV rfl rfl
theorem DL (V:LV)(bs:List UInt8):Kp V.s (m6 V bs).1.s:=by
 unfold m6;split;exact Kp.refl _;split;exact j4 _ _ _;exact j4 _ _ _
theorem zR (V:LV)(bs:List UInt8):Kp V.s (jG V bs).1.s:=by
 unfold jG;split;exact Kp.refl _;split;exact DK _ _ _ _;exact DK _ _ _ _
structure Calm (s:DS):Prop where
 out:s.out=false
 bD:s.bD.on=false
 bC:s.bC.on=false
def Kc (s s':DS):Prop:=Calm s→Calm s'
theorem Kc.refl (s:DS):Kc s s:=id
theorem Kc.trans {a b c:DS}(h:Kc a b)(k:Kc b c):Kc a c:=fun x=>k (h x)
theorem zS (s:DS)(k:Int)(b:Bool):Kc s (fe s k b):=fun h=>by
 unfold fe;rw[if_neg (by rw[h.out];exact Bool.false_ne_true),m4 h.bD,m4 h.bC];split;exact h;rw[if_neg (by exact Bool.false_ne_true)];split;rw[if_neg (by exact Bool.false_ne_true)];exact ⟨h.out,h.bD,h.bC⟩;exact ⟨h.out,h.bD,h.bC⟩
theorem OF (s:DS):Kc s (oK s):=fun h=>⟨h.out,h.bD,h.bC⟩
theorem BZ (g:DS→DS)(hg:∀ s,Kc s (g s))(s:DS)(k:Int):Kc s (g_ g s k):=by
 unfold g_;split;exact (zS s k true).trans ((hg _).trans (OF _));exact zS s k true
theorem B0 (s:DS)(k:Int)(x:bF):Kc s (l_ s k x):=BZ (fun s=>dU s k x) (fun _ h=>⟨h.out,h.bD,h.bC⟩) s k
theorem OG (s:DS):Kc s (oL s):=BZ (gy fun _=>true) (fun _ h=>⟨h.out,h.bD,h.bC⟩) s 0
theorem Fu (s:DS)(k:Int):Kc s (lA s k):=by
 unfold lA;split;exact (zS s k false).trans (OF _);exact zS s k false
theorem ue:∀ (xs:List bF) (s:DS) (k:Int),Kc s (gB s k xs).1
 | [],s,_=>Kc.refl s
 | x::xs,s,k=>by
  rw[gB];split;exact (B0 s k x).trans (ue xs _ _);exact B0 s k x
theorem o6 (s:DS)(k:Int)(xs:List bF):Kc s (bg s k xs).1:=by
 rw[bg];split;exact (ue xs s k).trans (OG _);exact ue xs s k
theorem KA (n:Nat)(t:Int)(bs:List UInt8)(s:DS):Kc s (eT n t bs s).1:=by
 have e:eT n t bs s=if (bg s (aB n t:Nat) (aG t 0 bs)).2=0 then bg (bg s (aB n t:Nat) (aG t 0 bs)).1 ((t % 2).toNat:Nat) [bW t n] else bg s (aB n t:Nat) (aG t 0 bs):=rfl
 rw[e];split;exact (o6 _ _ _).trans (o6 _ _ _);exact o6 _ _ _
theorem KB:∀ (k i:Nat) (s:DS) (B:Bb),Kc s (jZ k i s B).1
 | 0,_,s,B=>by rw[jZ];split <;> exact Kc.refl s
 | k+1,i,s,B=>by
  rw[jZ];split;exact (Fu s i).trans (KB k _ _ _);exact Fu s i
theorem wk (fr:Nat):∀ (k i:Nat) (s:DS),Kc s (cq fr k i s).1
 | 0,_,s=>Kc.refl s
 | k+1,i,s=>by
  rw[cq];split;exact (Fu s _).trans (wk fr k _ _);exact Fu s _
theorem zT (fr:Nat):∀ (xs:List bF) (i:Nat) (sy:Bool) (s:DS),Kc s (gp fr xs i sy s).1
 | [],_,_,s=>Kc.refl s
 | x::xs,i,sy,s=>by
  rw[gp];split;exact zT fr xs _ _ _;split;exact (B0 s _ _).trans (zT fr xs _ _ _);exact B0 s _ _
theorem KC (fr fin:Nat)(f:List bF)(s:DS):Kc s (jF fr fin f s).1:=by
 have h:=zT fr (f.drop fin) fin (decide (0 < s.loose.length)) s;unfold jF n9;split;split;exact h.trans (OG _);exact h;exact h
theorem Fv (s:DS):Kc s (aR s).1:=by
 have h:=KB 2 0 s ⟨false,0,0⟩;rw[aR];split;refine Kc.trans h ?_
 show Kc (cw s).1 _
 rw[mu];split;refine (wk (aB (cw s).2.2.n.toNat (cw s).2.2.t) (cw s).2.2.n.toNat 0 (cw s).1).trans ?_;rw[lC];split;exact Kc.refl _;split;exact KC _ _ _ _;exact KC _ _ _ _;exact wk _ _ _ _;exact h
theorem KD (V:LV)(bs:List UInt8):Kc V.s (m6 V bs).1.s:=by
 unfold m6;split;exact Kc.refl _;split;exact o6 _ _ _;exact o6 _ _ _
theorem QZ (V:LV)(bs:List UInt8):Kc V.s (jG V bs).1.s:=by
 unfold jG;split;exact Kc.refl _;split;exact KA _ _ _ _;exact KA _ _ _ _
theorem Calm.up {s:DS}(h:Calm s):Up s:=⟨h.out,h.bD⟩
theorem B4 {s:DS}(h:Calm s){k:Int}(hk:0≤k∧k < s.size):cS s k true=0:=by rw[Dj h.up hk,tW h.bC];rfl
theorem yl:∀ (xs:List bF) (s:DS) (k:Nat),Calm s→((k+xs.length:Nat):Int)≤s.size→(gB s k xs).2=0
 | [],_,_,_,_=>rfl
 | x::xs,s,k,h,hk=>by
  rw[jb]at hk;rw[gB,if_pos (B4 h (by omega))];have:=yl xs (l_ s k x) (k+1) (B0 s k x h) (by rw[(BY s k x).2];omega);exact this
theorem ym (xs:List bF)(s:DS)(k:Nat)(h:Calm s)(h0:0 < s.size)(hk:((k+xs.length:Nat):Int)≤s.size):(bg s k xs).2=0:=by
 have h1:=yl xs s k h hk;rw[bg,if_pos h1];exact B4 (ue xs s k h) (by rw[(ud xs s k).2];omega)
theorem KE (n:Nat)(t:Int)(bs:List UInt8)(s:DS)(h:Calm s)(hn:n≤1000)(hb:bN bs.length≤n)(hk:((2*n+2:Nat):Int)≤s.size):(eT n t bs s).2=0:=by
 have YV:=fq t hn;have e:eT n t bs s=if (bg s (aB n t:Nat) (aG t 0 bs)).2=0 then bg (bg s (aB n t:Nat) (aG t 0 bs)).1 ((t % 2).toNat:Nat) [bW t n] else bg s (aB n t:Nat) (aG t 0 bs):=rfl
 rw[e,if_pos (ym _ s _ h (by omega) (by rw[bB];omega))];refine ym _ _ _ (o6 _ _ _ h) (by rw[(j4 _ _ _).2];omega) ?_;rw[(j4 _ _ _).2,List.length_singleton];omega
theorem KF (V:LV)(bs:List UInt8)(h:Calm V.s)(hn:V.n≤1000)(hb:bN bs.length≤V.n)(hl:bs.length≤40000)(ht:mL V.au≠0)(pL:V.broken=false)(hk:((2*V.n+2:Nat):Int)≤V.s.size):(jG V bs).2=0:=by
 have hroom:gY V.x bs=0:=by
  have e1:jD V.x bs=0:=by rw[jD,if_neg (by omega)];show (if V.broken=true then (8:Int) else 0)=0;rw[pL];rfl
  rw[gY,if_pos e1,if_neg];rintro (h | h);exact absurd (show V.n < bN bs.length from h) (by omega);exact ht h
 unfold jG;rw[if_neg (fun h=>h hroom),if_pos (KE V.n (mL V.au) bs V.s h hn hb hk)]
instance Wt {P:Program}{ty t e:TypeId}{l:Cx}{bs:List Wk.Item}{fs:List (World→Prop)}{x y:Operand}{kk:IntKind}{i b1 b2:Nat}{z:Value}{dy:Nat}[hx:Ev l x (.agg ⟨[.pointer (some ⟨b1,0,none⟩),.pointer (some ⟨b2,0,none⟩)]⟩)][hy:Ev l y (.int kk (i:Int))][ht:dN P t (.array 2 e)][o_:TI P e z 1 dy][ha:eU P e false][hk:cx i 2]:dO P (.index t x y) ty l bs fs (.pointer (some ⟨if i=0 then b1 else b2,0,none⟩)):=⟨fun ρ w h _=>
 qQ [.pointer (some ⟨b1,0,none⟩),.pointer (some ⟨b2,0,none⟩)] i _ (by have:=hk.lt;rcases (show i=0∨i=1 by omega) with rfl | rfl <;> rfl) rfl h w⟩
def iW (n:Nat)(l:List UInt8):List UInt8:=l.take (min l.length n)
theorem ov (n:Nat)(l:List UInt8):(iW n l).length=min l.length n:=by rw[iW,List.length_take];omega
def tw (V:LV):List (List UInt8)→LV
 | []=>V
 | b::bs=>if (m6 V b).2=0 then tw (m6 V b).1 bs else (m6 V b).1
theorem Fw:∀ (bs:List (List UInt8)) (V:LV),Kp V.s (tw V bs).s
 | [],V=>Kp.refl _
 | b::bs,V=>by
  rw[tw];split;exact (DL V b).trans (Fw bs _);exact DL V b
theorem Fy:∀ (bs:List (List UInt8)) (V:LV),Kc V.s (tw V bs).s
 | [],V=>Kc.refl _
 | b::bs,V=>by
  rw[tw];split;exact (KD V b).trans (Fy bs _);exact KD V b
theorem Fz:∀ (bs:List (List UInt8)) (V:LV) (k:Nat),V.Wf k→(tw V bs).Wf (k+840*bs.length)
 | [],V,k,h=>h
 | b::bs,V,k,h=>by
  rw[tw,jb];split;exact (Fz bs _ _ (tX h b)).more (by omega);exact (tX h b).more (by omega)
theorem KG (h b g:Nat)(L:LG)(x:aW)(s_:dY x)(nI:b_ x.m=true)(Mr:Nat→Prop)(w0:World)(jI:∀ k,Mr k→k < w0.heap.size∧¬(cD h b g L x).aj k)(hd:(cD h b g L x).holds w0)(fx:ag (fun k=>(cD h b g L x).aj k∨Mr k) w0 (aE x)) :
  aT prog 47 [.pointer (some ⟨h,0,none⟩)] w0 (cD h b g L x).aj fun v w'=>(cD h b g L x).holds w'∧Pu (fun k=>(cD h b g L x).aj k∨Mr k) w0.heap.size w' v x.m:=by
 refine E1 func47 rfl ntmps47 (Wd.nR (x:=BU h g x) (y:=ct b g L) (Mr:=Mr) (fs:=[aE x]) hd rfl rfl jI (by simpa using fx)) ?_;intro a S;refine kS (kR ?_);refine sa S ?_;intro b2 a w S;refine Lh ?_;intro a S;have tv:w0.heap.size≤w.heap.size:=S.wd.agree.size;refine sr S (BJ x s_ nI _ w (a_ S) (S.mem.fact (aE x))) ?_;rintro _ a w ⟨y,rfl,hy,AA,zU,hoy,KH⟩ S;replace KH:=KH.up tv;replace S:=S.add (Φ:=kL y) hoy;replace S:=S.add (Φ:=aE y) zU;refine Y4 ?_;intro a w S;replace S:=((S.front (ct b g L)).front (BU h g x)).aL;have hh:=S.it (cD h b g L x);have hst:ag (fun k=>(cD h b g L x).aj k∨Mr k) _ (aE y):=(S.wd.facts (aE y) (by simp)).less fun k _ hk=>hk.elim (fun h1=>⟨cD h b g L x,by simp,h1⟩) (fun h1=>⟨ext Mr,by simp,h1⟩)
 have Fe:ag (fun k=>(cD h b g L x).aj k∨Mr k) _ (kL y):=(S.wd.facts (kL y) (by simp)).less fun k _ hk=>hk.elim (fun h1=>⟨cD h b g L x,by simp,h1⟩) (fun h1=>⟨ext Mr,by simp,h1⟩)
 exact aD S (fun _=>⟨hh,y,rfl,hy,AA,hst,Fe,KH⟩)
theorem DM (h b g:Nat)(L:LG)(x:aW)(s_:dY x)(nI:b_ x.m=true)(Mr:Nat→Prop)(w0:World)(jI:∀ k,Mr k→k < w0.heap.size∧¬(cD h b g L x).aj k)(hd:(cD h b g L x).holds w0)(fx:ag (fun k=>(cD h b g L x).aj k∨Mr k) w0 (aE x)) :
  aT prog 47 [.pointer (some ⟨h,0,none⟩)] w0 (cD h b g L x).aj fun v w'=>(cD h b g L x).holds w'∧Wi (fun k=>(cD h b g L x).aj k∨Mr k) w' v x.m:=
 (KG h b g L x s_ nI Mr w0 jI hd fx).mono fun _ _ ⟨h0,y,h1,h2,h3,h4,_⟩=>⟨h0,y,h1,h2,h3,h4⟩
theorem Nh (h b g:Nat)(L:LG)(x:aW)(w0:World)(hd:(cD h b g L x).holds w0):aT prog 151 [.pointer (some ⟨h,0,none⟩)] w0 (fun _=>False) fun v _=>v=.bool L.v.broken:=by
 have f1:Fx w0 (az h 214 [.pointer (some ⟨g,0,none⟩),.int .i64 x.user,.int .i64 x.leaf,.int .i64 x.counter,.int .i64 x.num,.slice x.sp x.ah.length x.sc,.slice x.vp x.aA.length x.vc,.slice x.ep x.seen.length x.ec]):=az.aO hd.1 (fun h=>h);have hl:(ct b g L).holds w0:=hd.2.1;have f2:Fx w0 (az g 134 (dB b L.q L.e L.x)):=az.aO hl.2.1.1 (fun h=>h);refine E1 func151 rfl ntmps151 (Wd.begin (fs:=[az h 214 [.pointer (some ⟨g,0,none⟩),.int .i64 x.user,.int .i64 x.leaf,.int .i64 x.counter,.int .i64 x.num,.slice x.sp x.ah.length x.sc,.slice x.vp x.aA.length x.vc,.slice x.ep x.seen.length x.ec],az g 134 (dB b L.q L.e L.x)]) (by simp;exact ⟨f1,f2⟩)) ?_;intro a S;refine kS (kR (sq S ?_));intro a S;refine kN (aQ (kS (kR ?_)));(iterate 3 (refine sq S ?_;intro a S));refine jr S ?_;refine sq S ?_;intro a S;refine jr S ?_;refine sq S ?_;intro a S;refine jr S ?_;refine sq S ?_;intro a S;refine jr S ?_;refine sq S ?_;intro a S;refine jr S ?_;refine sr S (xG g b L.q L.e L.x _ ((S.mem.fact (az g 134 (dB b L.q L.e L.x))).less fun _ _ h=>h.elim)) ?_;rintro _ a w rfl S;refine J5 ?_;intro a S;exact aD S (fun _=>rfl)
abbrev cW (u:Int):aW:=⟨u,0,0,0,none,0,[],none,0,[],none,0,[]⟩
abbrev fK (u:Int):bJ:=⟨u,0,0,0,[],[],[]⟩
theorem DN (u:Int):(cW u).m=fK u:=rfl
theorem ow (u:Int):dY (cW u):=⟨Nat.zero_le _,Nat.zero_le _,Nat.zero_le _,nofun,nofun⟩
theorem rK (u:Int)(M:Nat→Prop)(w:World):ag M w (aE (cW u)):=fun _ _=>⟨jd,jd,jd⟩
theorem rL {u:Int}(h:1≤u∧u≤6):b_ (fK u)=true:=by
 simp[b_,nT,iL,EA,kG,eH,iK,h.1,h.2]
theorem ie (u:Int):(aY (fK u)).length=10:=rfl
theorem wm {n:Nat}{s:DS}(hm:jY s n=true):(r_ n s).Wf (s.loose.length+3000):=by
 have hn:4≤n∧n≤1000:=by simp[jY]at hm;omega
 refine ⟨hn.2,show 1≤n by omega,Nat.zero_lt_one,Nat.le_refl 1,?_,⟨Int.le_refl _,by show (0:Int)≤4294967295;decide⟩,?_⟩;intro b hb;obtain rfl:=List.mem_singleton.1 hb;simp;have h1:=iu s 0 (List.replicate (2*n+2) zB);rw[List.length_replicate]at h1;have h2:=vC n 0 [] (by simp) (bg s 0 (List.replicate (2*n+2) zB)).1
 show (gK n s).1.loose.length≤_
 unfold gK;split <;> omega
theorem wo (b m n:Nat)(p:Option Addr)(c:Nat)(s:DS)(u:Int)(hu:1≤u∧u≤6)(hm:jY s n=true)(hl:s.loose.length≤900000)(h0:(gK n s).2=0)(hc:(jG (r_ n s) (aY (fK u))).2=0)(w0:World)(hd:(ay b m p c s).holds w0) :
  aT prog 46 [.pointer (some ⟨b,0,none⟩),.int .i64 (n:Int),.int .i64 u] w0 (ay b m p c s).aj fun v w'=>∃ h g L,v=.tuple ⟨[.pointer (some ⟨h,0,none⟩),.int .i64 0]⟩∧L.m=m∧L.v=(jG (r_ n s) (aY (fK u))).1∧(cD h b g L (cW u)).holds w'∧∀ k,(cD h b g L (cW u)).aj k→(ay b m p c s).aj k∨w0.heap.size≤k:=by
 have hok:=rL hu;refine E1 func46 rfl ntmps46 (Wd.bV (x:=ay b m p c s) (fs:=[]) hd (by simp)) ?_;intro a S;refine mJ ?_;intro a S;refine sa S ?_;intro b8 a w S;refine Y6 ?_;intro a w S;refine jU S (sD (cW u) (ow u) _ (rK u _ _)) ?_;rintro _ a w ⟨p3,c3,rfl,hown,hnew⟩ hS -;have S:=hS hown hnew;clear hS;rw[show mE (cW u).m=aY (fK u) from by rw[DN,mE,if_pos hok],show jQ (cW u).m=0 from by rw[DN,jQ,if_pos hok]]at S;replace S:=(S.front (Wk.row 5 1 p3 (aY (fK u)).length c3 (aa (aY (fK u))))).bA p3 (aY (fK u)) (e:=5) (sz:=1) (n:=(aY (fK u)).length) (c:=c3) (fun _ _ _ _=>trivial);refine mK ?_;intro a S;refine J1 ?_;intro a S;refine cM (ay b m p c s) S (Bm b m n p c s hm (by omega) _ (S.it (ay b m p c s))) rfl ?_;rintro _ a w (⟨h9,-⟩ | ⟨-,g,L,rfl,GX,yo,hh,hf⟩) hS;exact absurd h0 h9;have S:=hS (ct b g L) hh hf;clear hS;have hwf:L.v.Wf (s.loose.length+3000):=by rw[yo];exact wm hm
 refine Lh ?_;intro a S;have hr:=Bk b g L (s.loose.length+3000) ⟨p3,c3,aY (fK u)⟩ hwf (by omega) (by show (aY (fK u)).length≤_;rw[ie];omega) w (S.it (ct b g L)) (S.bU (ct b g L) (S.mem.fact (av p3 (aY (fK u)))));rw[yo]at hr;refine cM (ct b g L) S hr rfl ?_;rintro _ a w ⟨L2,rfl,u7,iF,hm2,qu⟩ hS;have S:=hS (ct b g L2) u7 iF;clear hS;rw[show (jG (r_ n s) (jK.bs ⟨p3,c3,aY (fK u)⟩)).2=0 from hc]at S;refine Lh ?_;intro a S;refine sa S ?_;intro Mo a w S;refine J5 ?_;intro a S;rw[show [Value.pointer (some ⟨g,0,none⟩),.int .i64 u,.int .i64 0,.int .i64 0,.int .i64 0,.slice none 0 0,.slice none 0 0,.slice none 0 0]=[.pointer (some ⟨g,0,none⟩),.int .i64 (cW u).user,.int .i64 (cW u).leaf,.int .i64 (cW u).counter,.int .i64 (cW u).num,.slice (cW u).sp (cW u).ah.length (cW u).sc,.slice (cW u).vp (cW u).aA.length (cW u).vc,.slice (cW u).ep (cW u).seen.length (cW u).ec] from rfl]at S;replace S:=((S.front (ct b g L2)).front (BU Mo g (cW u))).aL;have h1:=S.it (cD Mo b g L2 (cW u));have h2:=S.bH (cD Mo b g L2 (cW u)) rfl;exact gO S (fun _=>⟨Mo,g,L2,rfl,hm2.trans GX,qu,h1,h2⟩)
def jl:bJ→List (List UInt8)→Option bJ
 | m,[]=>some m
 | m,b::bs=>if (gL b).2≠0∨dQ m (gL b).1=false then none else jl (gL b).1 bs
def iP:List (List UInt8)→Option bJ
 | []=>none
 | b::bs=>if (gL b).2≠0 then none else jl (gL b).1 bs
theorem o7 {b:List UInt8}(h:(gL b).2=0):b_ (gL b).1=true:=by
 unfold gL at h⊢;split at h;cases h;split at h;cases h
 rename_i h1 h2
 rw[if_neg h1,if_neg h2];cases h3:b_ (vY b) with
 | true=>rfl
 | false=>exact absurd (.inr (.inr h3)) h2
theorem FA:∀ (bs:List (List UInt8)) (m x:bJ),b_ m=true→jl m bs=some x→b_ x=true
 | [],m,x,h,he=>by rw[jl]at he;cases he;exact h
 | b::bs,m,x,h,he=>by
  rw[jl]at he;split at he;cases he
  rename_i h1
  exact FA bs _ x (o7 (by rcases Classical.em ((gL b).2=0) with h2 | h2;exact h2;exact absurd (.inl h2) h1)) he
theorem B5 {bs:List (List UInt8)}{x:bJ}(he:iP bs=some x):b_ x=true:=by
 cases bs with
 | nil=>cases he
 | cons b bs=>
  rw[iP]at he;split at he;cases he
  rename_i h1
  exact FA bs _ x (o7 (by rcases Classical.em ((gL b).2=0) with h2 | h2;exact h2;exact absurd h2 h1)) he
instance UI {x y:aW}{bs fs}[hx:dV x][hy:dV y][h1:gu fs (aE x)][h2:gu fs (aE y)]:cB prog 38 [fJ x,fJ y] bs fs (.bool (dQ x.m y.m)):=⟨fun w mm=>x_ x y hx.fit hy.fit w ((mm.facts _ h1.mem).less fun _ _ h=>h.elim) ((mm.facts _ h2.mem).less fun _ _ h=>h.elim)⟩
theorem yp {M:Nat→Prop}{w:World}{b g:Nat}{L:LG}(h:ag M w (ct b g L).holds):ag M w (az g 134 (dB b L.q L.e L.x))∧ag M w (av L.q L.x.said)∧ag M w (n8 L.x.said):=
 ⟨h.imp fun _ h=>(az.aO (M:=fun _=>False) h.2.1.1 (fun h=>h)).now,h.imp fun _ h=>(gJ (M:=fun _=>False) h.2.1.2.1.1 (fun _ _ _ _=>trivial) (fun _ _ h=>h)).now,h.imp fun _ h y hy=>(h.2.1.2.1.2.1 y hy).2⟩
def Q0 (Mr:Nat→Prop)(b m:Nat)(p:Option Addr)(c:Nat)(s:DS)(v:Value)(w0 w:World):Prop:=
 (iP (iz s).said=none∧v=.tuple ⟨[.pointer none,.int .i64 300]⟩∧∃ p' c',(ay b m p' c' (aR s).1).holds w∧∀ k,(ay b m p' c' (aR s).1).aj k→(ay b m p c s).aj k∨w0.heap.size≤k)∨
 (∃ h g L x,iP (iz s).said=some x.m∧v=.tuple ⟨[.pointer (some ⟨h,0,none⟩),.int .i64 0]⟩∧L.m=m∧L.v=iz s∧dY x∧(cD h b g L x).holds w∧(∀ k,(cD h b g L x).aj k→(ay b m p c s).aj k∨w0.heap.size≤k)∧ag (fun k=>(cD h b g L x).aj k∨Mr k) w (aE x))
set_option maxHeartbeats 2000000 in
theorem B6 (b m:Nat)(p:Option Addr)(c:Nat)(s:DS)(Mr:Nat→Prop)(hl:s.loose.length≤980000)(h0:(aR s).2.1=0)(w0:World)(jI:∀ k,Mr k→k < w0.heap.size∧¬(ay b m p c s).aj k)(hd:(ay b m p c s).holds w0) :
  aT prog 52 [.pointer (some ⟨b,0,none⟩)] w0 (ay b m p c s).aj fun v w'=>Q0 Mr b m p c s v w0 w':=by
 refine pX func52 rfl rfl (Wd.ij (x:=ay b m p c s) (Mr:=Mr) (fs:=[]) hd jI (by simp)) (fun a S=>?_);refine E0 ntmps52 ?_;intro S;refine kS (kR ?_);refine sa S ?_;intro b2 a w S;refine sa S ?_;intro b3 a w S;refine J5 ?_;intro a S;refine cM (ay b m p c s) S (rf b m p c s hl _ (S.it (ay b m p c s))) rfl ?_;rintro _ a w (⟨h,-⟩ | ⟨-,g,L,rfl,GX,yo,hh,hf⟩) hS
 ·exact absurd h0 h
 have S:=hS (ct b g L) hh hf;clear hS;refine Lh ?_;intro a S;have hwf:=oT h0;rw[←yo]at hwf;have hown:=S.bH (ct b g L) rfl;have hcap:=Dm (S.it (ct b g L));obtain ⟨bs,r,hr⟩:∃ bs r,L.v.said=bs::r:=by
  have h4:=hwf.some_;cases h:L.v.said with
  | nil=>rw[h]at h4;simp at h4
  | cons b0 r=>exact ⟨b0,r,rfl⟩
 have Z4:bs.length≤40000:=hwf.short bs (by rw[hr];exact .head _);have hop:iP (iz s).said=if (gL bs).2≠0 then none else jl (gL bs).1 r:=by rw[←yo,hr];rfl
 refine J2 ?_;intro a S;refine jU S (Jm b g L _ hwf _ (S.it (ct b g L))) ?_;rintro _ a w ⟨bs',p1,c1,hb0,rfl,hrow,hnew⟩ hS -;have S:=hS hrow hnew;clear hS;obtain rfl:bs=bs':=by rw[hr]at hb0;simpa using hb0
 replace S:=S.bA p1 bs (e:=5) (sz:=1) (n:=bs.length) (c:=c1) (fun _ _ _ _=>trivial);refine sr S (yj bs p1 bs.length c1 _ w rfl (by omega) (a_ S) (S.mem.fact (av p1 bs))) ?_;rintro _ a w ⟨vm,rfl,x0,rfl,hx0,Q1,KI⟩ S;replace S:=S.add (Φ:=aE x0) KI;obtain ⟨e0,Ad⟩:∃ e0,e0=(gL bs).2:=⟨_,rfl⟩;rw[←Ad,←hx0]at hop;rw[←Ad]at S;refine J3 ?_;intro a S;refine sa S ?_;intro b6 a w S;refine yA ?_;intro a w S;refine kC S (fun h5=>?_) (fun h5=>?_)
 ·refine Y8 ?_;intro a w S
  have hno:e0≠0:=by simpa using h5
  have hs:L.s=(aR s).1:=congrArg LV.s yo;subst GX;refine nx S (fun w hw=>.inl ⟨by rw[hop,if_pos hno],rfl,L.p,L.c,?_⟩);have hd:=(hw.held (ct b g L) (by simp)).1;rw[←hs];exact ⟨hd,fun k hk=>hown k (.inl hk)⟩
 ·refine kK (aQ (kS (kS ?_)))
  have KJ:e0=0:=by simpa using h5
  rw[if_neg (fun h=>h KJ)]at hop;have AM:b_ x0.m=true:=by rw[hx0];exact o7 (by rw[←Ad];exact KJ)
  refine J2 ?_;intro a S;have Mh:0 < L.x.said.length:=by have:=hwf.some_;rwa [vD]at this
  have sR:L.x.said.length≤1000000:=by have h1:=hwf.rO;have h2:=hwf.fin;have h3:=hwf.n;rw[vD]at h1;omega
  obtain ⟨cl,oz⟩:∃ cl,cl=L.x.said.drop 1:=⟨_,rfl⟩;have pg:cl.length=L.x.said.length - 1:=by rw[oz,List.length_drop]
  have hcb:∀ y∈cl,y.bs.length≤1000000:=fun y hy=>by have:=hwf.short y.bs (List.mem_map_of_mem (List.mem_of_mem_drop (oz▸hy)));omega
  have Mu:xP cl=r:=by
   have:L.v.said=xP L.x.said:=rfl;rw[oz,xP,List.map_drop,←xP,←this,hr];rfl
  have hlt:=a_ S;refine sr S (Oc g b L.q L.e L.x Mh hcap _ (az.aO (S.it (ct b g L)).2.1.1 (fun h=>h))) ?_;rintro _ a w ⟨h2,rfl,n0,Z5⟩ S;replace S:=S.add (Φ:=az h2 33 [.slice (if L.e=1 then L.q else L.q.map (·.add (1*1))) (L.x.said.length - 1) (L.e - 1)]) (az.aO Z5 (fun hm=>by have:=hlt _ hm;omega));rw[←pg]at S;obtain ⟨q2,IP⟩:∃ q2,q2=(if L.e=1 then L.q else L.q.map (·.add (1*1))):=⟨_,rfl⟩;rw[←IP]at S;refine kN (aQ (kB ?_));replace S:=S.SE (x:=ct b g L);replace S:=(((((S.front (ext Mr)).front ((ct b g L).ro)).front (marks [])).front (Wk.box b2 84 [.pointer none])).front (Wk.box b3 26 [.int .i64 0])).front (Wk.box b6 67 (cN x0));replace S:=(S.add (Φ:=aE x0) (S.wd.facts (aE x0) (by simp))).sub [Wk.box b6 67 (cN x0),Wk.box b3 26 [.int .i64 0],Wk.box b2 84 [.pointer none],marks [],(ct b g L).ro,ext Mr] [aE x0,az h2 33 [.slice q2 cl.length (L.e - 1)]];refine qE (κ:=aW) (κx:=Unit) (Ds:=[]) (nB cl)
   (fun _ k=>[Wk.box b6 67 (cN k),Wk.box b3 26 [.int .i64 0],Wk.box b2 84 [.pointer none],marks [],(ct b g L).ro,ext Mr])
   (fun _ k=>[aE k,az h2 33 [.slice q2 cl.length (L.e - 1)]])
   (fun i k=>jl x0.m r=jl k.m (r.drop i)∧dY k∧b_ k.m=true)
   (fun _=>[Wk.box b3 26 [.int .i64 300],Wk.box b2 84 [.pointer none],marks [],(ct b g L).ro,ext Mr])
   (fun _=>[]) (fun cd _=>cd=.ret∧jl x0.m r=none) x0 S
   (fun M w1 hM hF hro=>by
    obtain ⟨z1,z2,z3⟩:=yp (b:=b) (g:=g) (L:=L) (hro (ct b g L).ro (by simp) rfl);exact IZ h2 cl q2 (L.e - 1) (by omega) hcb w1 M hM (hF _ (by simp)) (z2.imp fun _ h=>by rw[IP,oz];exact h.drop 1 hcap) (z3.imp fun _ h y hy=>h y (by rw[oz]at hy;exact List.mem_of_mem_drop hy))) ⟨⟨rfl,Q1,AM⟩,rfl,rfl⟩ ?_ ?_ ?_ ?_
  ·clear S
   rintro L2 D bL M' w1 i z vs xk W0 w hz ⟨aI,Q2,Q3⟩ RL Ho ⟨p2,c2,rfl,lp,hnew2⟩;obtain ⟨hi,rfl⟩:=Bh hz;obtain ⟨y2,zV⟩:∃ y2:jK,y2=⟨p2,c2,(aq cl i).bs⟩:=⟨_,rfl⟩;have Dq:(dr [y2]).holds w:=by rw[zV];exact zm (y:=⟨p2,c2,(aq cl i).bs⟩) lp
   have hO:=RL.addItem Ho Dq (fun k ⟨u,hu,ad,hp,hk⟩=>by
    obtain rfl:=List.mem_singleton.1 hu;rw[zV]at hp;exact hk▸hnew2 ad hp) (cV.lt w Dq) cV.loc
   have hx:r[i]? = some (aq cl i).bs:=by rw[←Mu,xP,List.getElem?_map,bu hi];rfl
   have hil:=(List.getElem?_eq_some_iff.1 hx).1;have Cn:r.drop i=(aq cl i).bs::r.drop (i+1):=by rw[List.drop_eq_getElem_cons hil,(List.getElem?_eq_some_iff.1 hx).2]
   have vS:(aq cl i).bs.length≤1000000:=hcb _ (bh hi);obtain ⟨uH,GY⟩:∃ uH,uH=(aq cl i).bs:=⟨_,rfl⟩;rw[←GY]at Cn zV vS;rw[Cn,jl]at aI;refine ⟨_,inferInstance,fun a S=>?_⟩;replace S:St w1 M' [] a w _ (dr [y2]::lP L2 D (kW bL .ready none)::_) _:=⟨S.slots,S.defers,hO⟩;replace S:=St.E4 S [y2];replace S:=S.add (Φ:=av p2 uH) ((S.mem.fact (n8 [y2])).imp fun _ h=>by have:=h y2 (by simp);rw[zV]at this;exact this);rw[←GY]at S;have hMk:dV xk:=⟨Q2⟩
   try dsimp only at S
   refine J4 ?_;intro a S;refine uG (D:=D) (b:=bL) S ?_;intro a w S;refine J4 ?_;intro a S;refine sr S (yj uH p2 uH.length c2 _ _ rfl (by omega) (a_ S) (S.mem.fact (av p2 uH))) ?_;rintro _ a w ⟨vm,rfl,y,rfl,CN,AA,zU⟩ S;replace S:=S.add (Φ:=aE y) zU;obtain ⟨e2,n7⟩:∃ e2,e2=(gL uH).2:=⟨_,rfl⟩;rw[←n7,←CN]at aI;rw[←n7]at S;have Wu:dV y:=⟨AA⟩;refine J3 ?_;intro a S;refine sa S ?_;intro b9 a w S;refine CD ?_;intro a w S;refine kC S (fun gi=>?_) (fun gi=>?_)
   ·refine Y9 ?_;intro a w S
    have hno:jl x0.m r=none:=by
     rw[aI,if_pos];simp only[Bool.or_eq_true,Bool.not_eq_true',decide_eq_false_iff_not]at gi;exact gi
    exact LB (D:=D) (b:=bL) (S.sub [lP L2 D (kW bL .busy none),Wk.box b3 26 [.int .i64 300],Wk.box b2 84 [.pointer none],marks [],(ct b g L).ro,ext Mr] []) fun W hW=>⟨.inl rfl,(),⟨rfl,hno⟩,hW⟩
   ·refine Y7 ?_;intro a w S
    simp only[Bool.or_eq_false_iff,Bool.not_eq_false',decide_eq_true_eq]at gi;have fu:jl x0.m r=jl y.m (r.drop (i+1)):=by
     rw[aI,if_neg];rintro (h | h)
     ·exact h gi.1
     ·rw[gi.2]at h;cases h
    have Q4:b_ y.m=true:=by rw[CN];exact o7 (by rw[←n7];exact gi.1)
    replace S:=((((((S.front (ext Mr)).front ((ct b g L).ro)).front (marks [])).front (Wk.box b2 84 [.pointer none])).front (Wk.box b3 26 [.int .i64 0])).front (Wk.box b6 67 (cN y))).front (lP L2 D (kW bL .busy none));replace S:=S.add (Φ:=aE y) (S.wd.facts (aE y) (by simp));exact AE (D:=D) (b:=bL) (S.sub [lP L2 D (kW bL .busy none),Wk.box b6 67 (cN y),Wk.box b3 26 [.int .i64 0],Wk.box b2 84 [.pointer none],marks [],(ct b g L).ro,ext Mr] [aE y,az h2 33 [.slice q2 cl.length (L.e - 1)]]) fun W hW=>⟨y,⟨fu,AA,Q4⟩,hW⟩
  ·clear S
   rintro D xk a w ⟨aI,Q2,Q3⟩ S;have hlen:(nB cl).length=r.length:=by rw[←Mu];simp[nB,xP]
   rw[hlen]at aI;simp only[List.drop_length,jl]at aI
   try dsimp only at S
   replace S:=S.join (Ds:=[]);replace S:=S.LD (x:=ct b g L) hown;refine J7 ?_;intro a S;refine sa S ?_;intro vq a w S;refine Y5 ?_;intro a w S;subst GX;replace S:=((S.front (ct b g L)).front (BU vq g xk)).aL;refine nx S (fun w hw=>.inr ⟨vq,g,L,xk,by rw[hop];exact aI,rfl,rfl,yo,Q2,hw.held (cD vq b g L xk) (by simp),hw.own (cD vq b g L xk) (by simp) rfl,?_⟩);exact (hw.facts (aE xk) (by simp)).less fun k _ hk=>hk.elim (fun h=>⟨cD vq b g L xk,by simp,h⟩) (fun h=>⟨ext Mr,by simp,h⟩)
  ·rintro D _ a w ⟨-,hno⟩ S
   replace S:=S.join (Ds:=[]);replace S:=S.LD (x:=ct b g L) hown
   repeat (first | refine Ac ?_ | refine tG ?_)
   have hs:L.s=(aR s).1:=congrArg LV.s yo;subst GX;refine nx S (fun w hw=>.inl ⟨by rw[hop];exact hno,rfl,L.p,L.c,?_⟩);have hd:=(hw.held (ct b g L) (by simp)).1;rw[←hs];exact ⟨hd,fun k hk=>hown k (.inl hk)⟩
  ·rintro id D _ a w ⟨h,-⟩;cases h
theorem KK {V:LV}{n:Nat}{t:Int}{said:List (List UInt8)}(h:Bn V n t said)(bs:List UInt8):ot V bs=true↔bs.length≤40000∧bY t said+bN bs.length≤n:=by
 obtain ⟨s',hs,tail,hL,-⟩:=h.live;have hlen:=hL.len;have Gd:=n_ t said 0;rw[ot,Bool.and_eq_true,decide_eq_true_eq,decide_eq_true_eq,h.num,h.fin];constructor;rintro ⟨h1,h2⟩;rw[kQ _ h1]at h2;exact ⟨h1,by omega⟩;rintro ⟨h1,h2⟩;rw[kQ _ h1];exact ⟨h1,by omega⟩
theorem GZ {V:LV}{n:Nat}{t:Int}{said:List (List UInt8)}(h:vG V n t said)(now m:bJ)(hm:b_ m=true)(hc:dQ now m=true)(hne:aY now≠aY m)(hb:(aY m).length≤40000)(hr:bY t said+bN (aY m).length≤n) :
  (cJ V now m).2.2=0∧(cJ V now m).2.1=m∧vG (cJ V now m).1 n t (said++[aY m]):=by
 have hf:=(KK h.ok (aY m)).2 ⟨hb,hr⟩;obtain ⟨a1,a2⟩:=MC h (aY m) hb hr;have e:eM V (aY m)=m6 V (aY m):=by rw[eM,if_pos hf]
 rw[cJ,if_neg (by rw[h.ok.whole];simp),if_neg (by rw[hm];simp),if_neg (by rw[hc];simp),if_neg hne,e];exact ⟨a1,by rw[if_pos a1],a2⟩
theorem DO {V:LV}{now m:bJ}(hb:V.broken=false)(hm:b_ m=true)(hc:dQ now m=false):cJ V now m=(V,now,301):=by
 rw[cJ,if_neg (by rw[hb];simp),if_neg (by rw[hm];simp),if_pos hc]
abbrev DP:bJ:=⟨1,3,0,0,[⟨[49,47,102],7⟩],[],[]⟩
abbrev wm2:bJ:=⟨1,2,0,0,[⟨[49,47,102],7⟩],[],[]⟩
theorem DQ:b_ DP=true:=by decide
theorem Q5:b_ wm2=true:=by decide
theorem zW:(aY DP).length=16:=rfl
theorem UJ:aY (fK 1)≠aY DP:=fun h=>by have:=congrArg List.length h;rw[ie,zW]at this;cases this
theorem FB:dQ (fK 1) DP=true:=by decide
theorem Ni:dQ DP wm2=false:=by decide
theorem Nj:iP [aY (fK 1),aY DP]=some DP:=by
 have h1:=rG (rL (u:=1) (by omega));have h2:=rG DQ;rw[iP,h1]
 show (if (0:Int)≠0 then none else jl (fK 1) [aY DP])=_
 rw[if_neg (fun h=>h rfl),jl,h2]
 show (if (0:Int)≠0∨dQ (fK 1) DP=false then none else jl DP [])=_
 rw[if_neg,jl];rintro (h | h);exact h rfl;rw[FB]at h;cases h
instance UK {P:Program}{ty:TypeId}{l:Cx}{bs:List Wk.Item}{fs:List (World→Prop)}{s f off ft:Nat}{x:Operand}{vs:List Value}{v:Value}[Ev l x (.agg ⟨vs⟩)][hf:fZ P s f off ft][ha:eU P ft false][hn:pF vs off v]:dO P (.field s x f) ty l bs fs v:=⟨fun ρ w h _=>by
 obtain ⟨fields,F,hu,hF,rfl,rfl,hs⟩:=hf.ex;simp[cu,execOp,h.ev (x:=x) (v:=.agg ⟨vs⟩),Instr.field,run_underlying hu,Sem.run_bind,hF,asAgg,part,ha.run,hn.eq]⟩
abbrev Q6:aH:=⟨[49,47,102],7⟩
abbrev Q7 (b:Nat)(k:Int):aW:=⟨1,k,0,0,some ⟨b,0,none⟩,1,[Q6],none,0,[],none,0,[]⟩
theorem zX (b:Nat)(k:Int):dY (Q7 b k):=⟨by show 1≤1000;omega,Nat.zero_le _,Nat.zero_le _,fun x hx=>by rw[List.mem_singleton.1 hx];decide,nofun⟩
theorem DR {b:Nat}{k:Int}{M:Nat→Prop}{w:World}(h:ag M w (av (some ⟨b,0,none⟩) [Q6])):ag M w (aE (Q7 b k)):=fun w' bP=>⟨h w' bP,jd,jd⟩
set_option maxHeartbeats 4000000 in
theorem KL (w0:World):aT prog 33 [] w0 (fun _=>False) fun v _=>v=.bool true:=by
 have h0:=Dr 40 (by omega);obtain ⟨e1,g1⟩:=zF h0 (by decide) (aY (fK 1)) (by rw[ie];omega) (by rw[ie];decide);obtain ⟨e2,f2,g2⟩:=GZ g1 (fK 1) DP DQ FB UJ (by rw[zW];omega) (by rw[zW,q_,List.map_cons,List.map_nil,ie];decide);obtain ⟨V1,hV1⟩:∃ V1,V1=(jG (r_ 40 (gZ ((2*40+2:Nat):Int))) (aY (fK 1))).1:=⟨_,rfl⟩;rw[←hV1]at g1 e2 f2 g2;obtain ⟨V2,hV2⟩:∃ V2,V2=(cJ V1 (fK 1) DP).1:=⟨_,rfl⟩;rw[←hV2]at g2;obtain ⟨o1,o2,o3,o4⟩:=(xO g2.live.Gh).resolve_right (fun h=>by rw[g2.off]at h;cases h.1);have ho:iP (iz V2.s).said=some DP:=by
  show iP (aR V2.s).2.2.said=_
  rw[o3];exact Nj
 have how:=oT o1;have Z6:=g2.ok.wf.loose;refine enter func33 rfl rfl (Wd.start w0) (fun a S=>?_);simp only[ntmps33,FG,Nat.reduceSub,rQ,Lj,j6]at S;refine J7 ?_;intro a S;refine td S (zj 82 (by omega) _) ?_;rintro _ a w - ⟨b,m,rfl,hh,kV⟩ hS -;have S:=hS (ay b m none 0 (gZ 82)) hh kV;clear hS;refine mK ?_;intro a S;refine cM (ay b m none 0 (gZ 82)) S (wo b m 40 none 0 (gZ 82) 1 (by omega) (by simp[jY,gZ]) (by simp[gZ]) (lD 40 (by omega)).1 e1 _ (S.it (ay b m none 0 (gZ 82)))) rfl ?_;rintro _ a w ⟨h,g,L,rfl,hm2,qu,u7,iF⟩ hS;have S:=hS (cD h b g L (cW 1)) u7 iF;clear hS;replace qu:L.v=V1:=qu.trans hV1.symm;refine mK ?_;intro a S;refine J4 ?_;intro a S;refine sn S ?_;intro FC a w S;replace S:=S.bT FC 2 1 rfl (by decide);rw[show ([.string ⟨#[49,47,102]⟩,.int .i64 7]:List Value)=aa [Q6] from rfl]at S;replace S:=S.bA (some ⟨FC,0,none⟩) [Q6] (e:=175) (sz:=2) (n:=1) (c:=1) (fun _ _ _ _=>trivial);refine J1 ?_;intro a S;refine sa S ?_;intro b4 a w S;refine Y8 ?_;intro a w S;refine kD (cD h b g L (cW 1)) S (Fs h b g L (cW 1) 0 ⟨by rw[qu];exact g1.ok.wf,ow 1,rL (u:=1) (by omega)⟩ (by omega) (Q7 FC 3) (zX _ _) (c_ _ (cD h b g L (cW 1))) w (S.dM _) (S.it (cD h b g L (cW 1))) (rK 1 _ _) (DR ((S.mem.fact (av (some ⟨FC,0,none⟩) [Q6])).split (cD h b g L (cW 1))))) rfl ?_;rintro _ a w ⟨L2,x2,rfl,DT,Bd,R1,B7,UL,Q8,UM,DU⟩ hS
 have S:=hS (cD h b g L2 x2) [aE x2] DT Bd (by intro Φ hΦ;obtain rfl:=List.mem_singleton.1 hΦ;exact DU);clear hS;rw[qu]at B7 UL;rw[show (cJ L.v (cW 1).m (Q7 FC 3).m).2.2=0 from by rw[qu];exact e2]at S;replace B7:L2.v=V2:=B7.trans hV2.symm;refine J9 ?_;intro a S;refine sa S ?_;intro b5 a w S;refine uh ?_;intro a w S;have j0:L2.s=V2.s:=congrArg LV.s B7;replace S:=(S.front (cD h b g L2 x2)).aP;replace S:=(S.front (ct b g L2)).aP;refine kD (ay b L2.m L2.p L2.c L2.s) S (B6 b L2.m L2.p L2.c L2.s (c_ _ (ay b L2.m L2.p L2.c L2.s)) (by rw[j0];omega) (by rw[j0];exact o1) w (S.dM _) (S.it (ay b L2.m L2.p L2.c L2.s))) rfl ?_;rintro _ a w (⟨hno,-⟩ | ⟨h5,g5,L5,x5,Z7,rfl,Z8,OH,UN,Q9,Z9,Z_⟩) hS;rw[j0,ho]at hno;cases hno;have S:=hS (cD h5 b g5 L5 x5) [aE x5] Q9 Z9 (by intro Φ hΦ;obtain rfl:=List.mem_singleton.1 hΦ;exact Z_);clear hS;rw[j0]at OH Z7;have UO:x5.m=DP:=by rw[ho]at Z7;exact (Option.some.inj Z7).symm
 have Nk:b_ x5.m=true:=by rw[UO];exact DQ
 refine J8 ?_;intro a S;refine eY [T9 0,T9 1,T9 2,T9 3,T9 4,T9 5,T9 6,T9 7,T9 9,F9 8,F9 10,T9 11,T9 12,T9 13,T9 14,F9 15,T9 16,T9 17,T9 18,T9 19,F9 20,T9 21,T9 22,T9 23,T9 24,T9 25] [Wk.box b5 67 [.int .i64 1,.int .i64 2,.int .i64 0,.int .i64 0,.slice (some ⟨FC,0,none⟩) 1 1,.slice none 0 0,.slice none 0 0],Wk.box b4 67 [.int .i64 1,.int .i64 3,.int .i64 0,.int .i64 0,.slice (some ⟨FC,0,none⟩) 1 1,.slice none 0 0,.slice none 0 0]] S ?_;intro w S;refine J2 ?_;intro a S;rw[show decide ((0:Int)=0)=true from rfl]at S;refine dq S ?_;intro a S;(iterate 2 (refine iX S ?_;intro a S));(iterate 2 (refine dq S ?_;intro a S));(iterate 2 (refine iX S ?_;intro a S));refine dl (gT S ?_);refine kD (cD h5 b g5 L5 x5) S (DM h5 b g5 L5 x5 UN Nk (c_ _ (cD h5 b g5 L5 x5)) _ (S.dM _) (S.it (cD h5 b g5 L5 x5)) ((S.mem.fact (aE x5)).split (cD h5 b g5 L5 x5))) rfl ?_;rintro _ a w ⟨Qk,y,rfl,hy,AA,zU⟩ hS;have S:=hS (cD h5 b g5 L5 x5) [aE y] Qk (fun k h=>.inl h) (by intro Φ hΦ;obtain rfl:=List.mem_singleton.1 hΦ;exact zU);clear hS;refine de S ?_;refine dl (gT S ?_);refine sr S (MZ y (Q7 FC 3) AA (zX _ _) _ ((S.mem.fact (aE y)).less fun _ _ h=>h.elim) (DR ((S.mem.fact (av (some ⟨FC,0,none⟩) [Q6])).less fun _ _ h=>h.elim))) ?_;rintro _ a w ⟨bb,rfl,hbb⟩ S;obtain rfl:bb=true:=hbb.2 (by rw[hy,UO];rfl);refine de S ?_;(iterate 2 (refine dq S ?_;intro a S));(iterate 2 (refine iX S ?_;intro a S));refine dl (gT S ?_)
 refine kD (cD h5 b g5 L5 x5) S (Fs h5 b g5 L5 x5 (V2.s.loose.length+1000) ⟨by rw[OH];exact how,UN,Nk⟩ (by omega) (Q7 FC 2) (zX _ _) (c_ _ (cD h5 b g5 L5 x5)) _ (S.dM _) (S.it (cD h5 b g5 L5 x5)) ((S.mem.fact (aE x5)).split (cD h5 b g5 L5 x5)) (DR ((S.mem.fact (av (some ⟨FC,0,none⟩) [Q6])).split (cD h5 b g5 L5 x5)))) rfl ?_;rintro _ a w ⟨L7,x7,rfl,hh7,Uu,hm7,hv7,RU,hfx7,hok7,hst7⟩ hS;have S:=hS (cD h5 b g5 L7 x7) [aE x7] hh7 Uu (by intro Φ hΦ;obtain rfl:=List.mem_singleton.1 hΦ;exact hst7);clear hS;have hsv:cJ L5.v x5.m (Q7 FC 2).m=(L5.v,DP,301):=by rw[UO];exact DO (by rw[OH];rfl) Q5 Ni
 rw[hsv]at hv7 RU S;refine de S ?_;refine iX S ?_;intro a S;rw[show decide ((301:Int)=301)=true from rfl]at S;(iterate 2 (refine dq S ?_;intro a S));refine iX S ?_;intro a S;refine dl (gT S ?_);refine kD (cD h5 b g5 L7 x7) S (DM h5 b g5 L7 x7 hfx7 hok7 (c_ _ (cD h5 b g5 L7 x7)) _ (S.dM _) (S.it (cD h5 b g5 L7 x7)) ((S.mem.fact (aE x7)).split (cD h5 b g5 L7 x7))) rfl ?_;rintro _ a w ⟨Tx,y7,rfl,hy7,hfy7,UP⟩ hS;have S:=hS (cD h5 b g5 L7 x7) [aE y7] Tx (fun k h=>.inl h) (by intro Φ hΦ;obtain rfl:=List.mem_singleton.1 hΦ;exact UP);clear hS;have hl7:y7.ah.length=1:=by
  have:y7.m.ah.length=1:=by rw[hy7,RU];rfl
  exact this
 refine de S ?_;(iterate 3 (refine iX S ?_;intro a S));rw[show decide ((y7.ah.length:Int)=1)=true from by rw[hl7];rfl]at S;(iterate 2 (refine dq S ?_;intro a S));refine dn (aQ (kT ?_));exact aD S (fun _=>rfl)
instance Q_:cX aW:=⟨7,fun m=>cN m,fun _=>rfl,fun x u hu=>by simp only[List.mem_cons,List.not_mem_nil,or_false]at hu;rcases hu with rfl | rfl | rfl | rfl | rfl | rfl | rfl <;> rfl⟩
instance layMem:dW aW:={ Q_ with
 dflt:=cW 0
 ny:=fun w m=>dW.ny w (⟨m.sp,m.sc,m.ah⟩:Sl aH)∧dW.ny w (⟨m.vp,m.vc,m.aA⟩:Sl aH)∧dW.ny w (⟨m.ep,m.ec,m.seen⟩:Sl aK)
 mono:=fun w w' _x h hx=>⟨dW.mono w w' _ h hx.1,dW.mono w w' _ h hx.2.1,dW.mono w w' _ h hx.2.2⟩ }
theorem Ra {w:World}{m:aW}(h:dW.ny w m):aE m w:=⟨h.1.2.2,h.2.1.2.2,h.2.2.2.2⟩
theorem Nl {w:World}{m:aW}(h:dW.ny w m):DH m:=by
 have h1:m.ah.length≤m.sc∧m.sc≤maxLen:=⟨h.1.1,h.1.2.1⟩;have h2:m.aA.length≤m.vc∧m.vc≤maxLen:=⟨h.2.1.1,h.2.1.2.1⟩;have h3:m.seen.length≤m.ec∧m.ec≤maxLen:=⟨h.2.2.1,h.2.2.2.1⟩;unfold maxLen at *;exact ⟨by omega,by omega,by omega⟩
theorem KM {a b:bJ}(ha:b_ a=true)(hb:b_ b=true)(h:aY a=aY b):a=b:=by
 have h1:=rG ha;rw[h,rG hb]at h1;exact (congrArg Prod.fst h1).symm
def UQ (V:LV)(now may:bJ)(OI:Bool)(T:Int):Prop:=
  b_ now=true∧
  ((OI=false∧∃ n t said,Bn V n t said∧iP said=some now∧t≤T)∨
   (OI=true∧V.broken=true∧V.Wf 2000∧∀ keep,∃ n t said x,vA (bp keep V.s) n t said∧iP said=some x∧(x=now∨x=may)∧t≤T))
theorem yq:∀ (ts:List Term) (i:Nat) (d:Int),lO ts i d=if 0 < d then (ts.take (3 - i)).map (fun t=>jk t (d - 1)) else []
 | [],i,d=>by rw[lO];split <;> simp
 | t::ts,i,d=>by
  rw[lO,yq ts (i+1) d]
  by_cases hd:0 < d
  rw[if_pos hd,if_pos hd]
  by_cases hi:i < 3
  rw[if_pos ⟨hi,hd⟩,show 3 - i=(3 - (i+1))+1 from by omega,List.take_succ_cons,List.map_cons];rw[if_neg (fun h=>hi h.1),show 3 - (i+1)=0 from by omega,show 3 - i=0 from by omega];simp;rw[if_neg hd,if_neg hd,if_neg (fun h=>hd h.2)]
theorem yt (k u n:Int)(s:List UInt8)(ks:List Term)(d:Int):jk (.mk k u n s ks) d=.mk k u n (s.take (min s.length 65)) (if 0 < d then (ks.take 3).map (fun t=>jk t (d - 1)) else []):=by
 rw[jk,yq]
theorem Nn (s:List UInt8)(n:Nat):(s.take (min s.length n)).take (min (s.take (min s.length n)).length n)=s.take (min s.length n):=by
 rw[List.take_take,List.length_take];congr 1;omega
theorem s5:∀ (f:Nat) (t:Term) (d:Int),SizeOf.sizeOf t < f→jk (jk t d) d=jk t d
 | 0,_,_,h=>absurd h (Nat.not_lt_zero _)
 | f+1,.mk k u n s ks,d,h=>by
  rw[yt,yt,Nn]
  by_cases hd:0 < d
  rw[if_pos hd,if_pos hd,←List.map_take,List.take_take,Nat.min_self,List.map_map]
  congr 1
  refine List.map_congr_left fun t ht=>?_
  refine s5 f t (d - 1) ?_;have h1:=List.sizeOf_lt_of_mem (List.mem_of_mem_take ht);have h2:SizeOf.sizeOf (Term.mk k u n s ks)=1+SizeOf.sizeOf k+SizeOf.sizeOf u+SizeOf.sizeOf n+SizeOf.sizeOf s+SizeOf.sizeOf ks:=by simp
  omega;rw[if_neg hd,if_neg hd]
structure wq (m:bJ):Prop where
 ah:m.ah.length≤7∧∀ x∈m.ah,x.key.length≤25
 aA:m.aA.length≤17∧∀ x∈m.aA,x.key.length≤65
 seen:m.seen.length≤8∧∀ s∈m.seen,jk s.root 10=s.root
theorem yu {n:Nat}{l:List aH}{k:Nat}(h1:l.length≤k)(h2:∀ x∈l,x.key.length≤n):(l.take k).map (pq n)=l:=by
 rw[List.take_of_length_le h1];refine (List.map_congr_left (g:=id) fun x hx=>?_).trans (List.map_id l);have:=h2 x hx;rw[pq,List.take_of_length_le (by omega)];rfl
theorem wq.eq {m:bJ}(h:wq m):nh m=m:=by
 have e3:(m.seen.take 8).map vX=m.seen:=by
  rw[List.take_of_length_le h.seen.1];refine (List.map_congr_left (g:=id) fun x hx=>?_).trans (List.map_id _);rw[vX,h.seen.2 x hx];rfl
 rw[nh,yu h.ah.1 h.ah.2,yu h.aA.1 h.aA.2,e3]
theorem iQ (m:bJ):wq (nh m):=by
 refine ⟨⟨by simp[nh];omega,ua 7⟩,⟨by simp[nh];omega,ua 17⟩,by simp[nh];omega,fun s hs=>?_⟩;obtain ⟨y,-,rfl⟩:=List.mem_map.1 hs;exact s5 _ y.root 10 (Nat.lt_succ_self _)
theorem KN (b:Nat)(x0 x1 x2 x3:Int)(p1 p2 p3:Option Addr)(n1 n2 n3 c1 c2 c3:Nat)(n:Int)(w0:World)(hd:(Wk.box b 67 [.int .i64 x0,.int .i64 x1,.int .i64 x2,.int .i64 x3,.slice p1 n1 c1,.slice p2 n2 c2,.slice p3 n3 c3]).holds w0) :
  aT prog 144 [.pointer (some ⟨b,1,none⟩),.int .i64 n] w0 (Wk.box b 67 [.int .i64 x0,.int .i64 x1,.int .i64 x2,.int .i64 x3,.slice p1 n1 c1,.slice p2 n2 c2,.slice p3 n3 c3]).aj fun _ w'=>∃ y:Int,(Wk.box b 67 [.int .i64 x0,.int .i64 y,.int .i64 x2,.int .i64 x3,.slice p1 n1 c1,.slice p2 n2 c2,.slice p3 n3 c3]).holds w':=by
 refine E1 func144 rfl ntmps144 (Wd.bV (x:=Wk.box b 67 [.int .i64 x0,.int .i64 x1,.int .i64 x2,.int .i64 x3,.slice p1 n1 c1,.slice p2 n2 c2,.slice p3 n3 c3]) (fs:=[]) hd (by simp)) ?_;intro a S;refine Hi ?_;intro a w S;have hh:=S.it (Wk.box b 67 [.int .i64 x0,.int .i64 (min (IntKind.i64.wrap (x1+min (max n 0) 65535)) 65535),.int .i64 x2,.int .i64 x3,.slice p1 n1 c1,.slice p2 n2 c2,.slice p3 n3 c3]);exact iD S (fun _=>⟨_,hh⟩)
theorem KO (b:Nat)(x0 x1 x2 x3:Int)(p1 p2 p3:Option Addr)(n1 n2 n3 c1 c2 c3:Nat)(n:Int)(w0:World)(hd:(Wk.box b 67 [.int .i64 x0,.int .i64 x1,.int .i64 x2,.int .i64 x3,.slice p1 n1 c1,.slice p2 n2 c2,.slice p3 n3 c3]).holds w0) :
  aT prog 144 [.pointer (some ⟨b,2,none⟩),.int .i64 n] w0 (Wk.box b 67 [.int .i64 x0,.int .i64 x1,.int .i64 x2,.int .i64 x3,.slice p1 n1 c1,.slice p2 n2 c2,.slice p3 n3 c3]).aj fun _ w'=>∃ y:Int,(Wk.box b 67 [.int .i64 x0,.int .i64 x1,.int .i64 y,.int .i64 x3,.slice p1 n1 c1,.slice p2 n2 c2,.slice p3 n3 c3]).holds w':=by
 refine E1 func144 rfl ntmps144 (Wd.bV (x:=Wk.box b 67 [.int .i64 x0,.int .i64 x1,.int .i64 x2,.int .i64 x3,.slice p1 n1 c1,.slice p2 n2 c2,.slice p3 n3 c3]) (fs:=[]) hd (by simp)) ?_;intro a S;refine Hi ?_;intro a w S;have hh:=S.it (Wk.box b 67 [.int .i64 x0,.int .i64 x1,.int .i64 (min (IntKind.i64.wrap (x2+min (max n 0) 65535)) 65535),.int .i64 x3,.slice p1 n1 c1,.slice p2 n2 c2,.slice p3 n3 c3]);exact iD S (fun _=>⟨_,hh⟩)
theorem KP (b:Nat)(x0 x1 x2 x3:Int)(p1 p2 p3:Option Addr)(n1 n2 n3 c1 c2 c3:Nat)(n:Int)(w0:World)(hd:(Wk.box b 67 [.int .i64 x0,.int .i64 x1,.int .i64 x2,.int .i64 x3,.slice p1 n1 c1,.slice p2 n2 c2,.slice p3 n3 c3]).holds w0) :
  aT prog 144 [.pointer (some ⟨b,3,none⟩),.int .i64 n] w0 (Wk.box b 67 [.int .i64 x0,.int .i64 x1,.int .i64 x2,.int .i64 x3,.slice p1 n1 c1,.slice p2 n2 c2,.slice p3 n3 c3]).aj fun _ w'=>∃ y:Int,(Wk.box b 67 [.int .i64 x0,.int .i64 x1,.int .i64 x2,.int .i64 y,.slice p1 n1 c1,.slice p2 n2 c2,.slice p3 n3 c3]).holds w':=by
 refine E1 func144 rfl ntmps144 (Wd.bV (x:=Wk.box b 67 [.int .i64 x0,.int .i64 x1,.int .i64 x2,.int .i64 x3,.slice p1 n1 c1,.slice p2 n2 c2,.slice p3 n3 c3]) (fs:=[]) hd (by simp)) ?_;intro a S;refine Hi ?_;intro a w S;have hh:=S.it (Wk.box b 67 [.int .i64 x0,.int .i64 x1,.int .i64 x2,.int .i64 (min (IntKind.i64.wrap (x3+min (max n 0) 65535)) 65535),.slice p1 n1 c1,.slice p2 n2 c2,.slice p3 n3 c3]);exact iD S (fun _=>⟨_,hh⟩)
theorem G0 (ys:List aH)(i:Nat)(x:aH)(y:Int)(h:ys[i]? = some x):(aa ys).take (i*2+1)++[.int .i64 y]++(aa ys).drop (i*2+1 + [Value.int .i64 y].length)=aa (ys.set i ⟨x.key,y⟩):=by
 induction ys generalizing i with
 | nil=>simp at h
 | cons z ys ih=>
  cases i with
  | zero=>
   obtain rfl:z=x:=by simpa using h
   obtain ⟨k,v⟩:=z;rw[List.set_cons_zero,bf,bf];rfl
  | succ i=>
   have:=ih i (by simpa using h);rw[List.set_cons_succ,bf,bf,←this];have h2:(cX.cells z:List Value).length=2:=cX.len z;rw[List.take_append,List.drop_append,h2,List.take_of_length_le (by rw[h2];omega),List.drop_of_length_le (by rw[h2];omega),show (i+1)*2+1 - 2=i*2+1 from by omega,show (i+1)*2+1 + [Value.int IntKind.i64 y].length - 2=i*2+1 + [Value.int IntKind.i64 y].length from by omega];simp
def UR (M:Nat→Prop)(n:Nat)(v:Value)(w:World):Prop:=∃ x:aW,v=fJ x∧wq x.m∧dY x∧ag M w (aE x)∧ag M w (kL x)∧wQ n x
set_option maxHeartbeats 4000000 in
theorem Rb (A B:aW)(hA:DH A)(hB:DH B)(M:Nat→Prop)(w0:World)(hM:∀ k,M k→k < w0.heap.size)(fA:ag M w0 (aE A))(fB:ag M w0 (aE B)):aT prog 49 [fJ A,fJ B] w0 (fun _=>False) fun v w'=>UR M w0.heap.size v w':=by
 refine E1 func49 rfl ntmps49 (Wd.fE (M:=M) (fs:=[aE A,aE B]) hM (by simp;exact ⟨fA,fB⟩)) ?_;intro a S;refine kS (kR ?_);refine sa S ?_;intro b2 a w S;refine sa S ?_;intro b3 a w S;refine sa S ?_;intro b4 a w S;refine J5 ?_;intro a S;have tv:w0.heap.size≤w.heap.size:=S.wd.agree.size;refine td S (zL A hA _ w (a_ S) (S.mem.fact (aE A))) ?_;rintro _ a w - ⟨x1,rfl,hx1,hfx1,hown,kV,g1,g3,wG⟩ hS -;have S:=hS (Wk.row 177 2 x1.vp x1.aA.length x1.vc (aa x1.aA)) hown (fun k ⟨ad,h1,h2⟩=>h2▸(kV ad h1).1);clear hS;replace wG:=wG.up tv;replace S:=S.add (Φ:=K9 x1.ep x1.ec x1.seen) (g3.less fun k _ ⟨it,hi,hk⟩=>(List.mem_cons.1 hi).elim (fun h=>.inr (by rw[h]at hk;exact hk)) (fun h=>.inl ⟨it,h,hk⟩));replace S:=S.add (Φ:=NU x1.sp x1.sc x1.ah) (g1.less fun k _ ⟨it,hi,hk⟩=>(List.mem_cons.1 hi).elim (fun h=>.inr (by rw[h]at hk;exact hk)) (fun h=>.inl ⟨it,h,hk⟩));have KQ:=iQ A.m;rw[←hx1]at KQ;refine sa S ?_;intro b5 a w S;refine Sa ?_;intro a w S;refine cM (Wk.box b5 67 [.int .i64 x1.user,.int .i64 x1.leaf,.int .i64 x1.counter,.int .i64 x1.num,.slice x1.sp x1.ah.length x1.sc,.slice x1.vp x1.aA.length x1.vc,.slice x1.ep x1.seen.length x1.ec]) S (KN b5 x1.user x1.leaf x1.counter x1.num x1.sp x1.vp x1.ep x1.ah.length x1.aA.length x1.seen.length x1.sc x1.vc x1.ec _ _ (S.it (Wk.box b5 67 [.int .i64 x1.user,.int .i64 x1.leaf,.int .i64 x1.counter,.int .i64 x1.num,.slice x1.sp x1.ah.length x1.sc,.slice x1.vp x1.aA.length x1.vc,.slice x1.ep x1.seen.length x1.ec]))) rfl ?_;rintro _ a w ⟨y1,hh⟩ hS
 have S:=hS (Wk.box b5 67 [.int .i64 x1.user,.int .i64 y1,.int .i64 x1.counter,.int .i64 x1.num,.slice x1.sp x1.ah.length x1.sc,.slice x1.vp x1.aA.length x1.vc,.slice x1.ep x1.seen.length x1.ec]) hh (fun k h=>.inl h);clear hS;refine J9 ?_;intro a S;refine cM (Wk.box b5 67 [.int .i64 x1.user,.int .i64 y1,.int .i64 x1.counter,.int .i64 x1.num,.slice x1.sp x1.ah.length x1.sc,.slice x1.vp x1.aA.length x1.vc,.slice x1.ep x1.seen.length x1.ec]) S (KO b5 x1.user y1 x1.counter x1.num x1.sp x1.vp x1.ep x1.ah.length x1.aA.length x1.seen.length x1.sc x1.vc x1.ec _ _ (S.it (Wk.box b5 67 [.int .i64 x1.user,.int .i64 y1,.int .i64 x1.counter,.int .i64 x1.num,.slice x1.sp x1.ah.length x1.sc,.slice x1.vp x1.aA.length x1.vc,.slice x1.ep x1.seen.length x1.ec]))) rfl ?_;rintro _ a w ⟨y2,hh⟩ hS;have S:=hS (Wk.box b5 67 [.int .i64 x1.user,.int .i64 y1,.int .i64 y2,.int .i64 x1.num,.slice x1.sp x1.ah.length x1.sc,.slice x1.vp x1.aA.length x1.vc,.slice x1.ep x1.seen.length x1.ec]) hh (fun k h=>.inl h);clear hS;refine J9 ?_;intro a S;refine cM (Wk.box b5 67 [.int .i64 x1.user,.int .i64 y1,.int .i64 y2,.int .i64 x1.num,.slice x1.sp x1.ah.length x1.sc,.slice x1.vp x1.aA.length x1.vc,.slice x1.ep x1.seen.length x1.ec]) S (KP b5 x1.user y1 y2 x1.num x1.sp x1.vp x1.ep x1.ah.length x1.aA.length x1.seen.length x1.sc x1.vc x1.ec _ _ (S.it (Wk.box b5 67 [.int .i64 x1.user,.int .i64 y1,.int .i64 y2,.int .i64 x1.num,.slice x1.sp x1.ah.length x1.sc,.slice x1.vp x1.aA.length x1.vc,.slice x1.ep x1.seen.length x1.ec]))) rfl ?_;rintro _ a w ⟨y3,hh⟩ hS
 have S:=hS (Wk.box b5 67 [.int .i64 x1.user,.int .i64 y1,.int .i64 y2,.int .i64 y3,.slice x1.sp x1.ah.length x1.sc,.slice x1.vp x1.aA.length x1.vc,.slice x1.ep x1.seen.length x1.ec]) hh (fun k h=>.inl h);clear hS;refine kN (aQ ?_);refine jX S (fun(p1:Option Addr) (c1:Nat) (sd:List aH) uu=>[(28,uu 28),(0,uu 29),(0,uu 30),(0,uu 31),(0,uu 32),(0,uu 33),(0,uu 34),(0,uu 35)]) (fun(p1:Option Addr) (c1:Nat) (sd:List aH)=>[Wk.row 177 2 x1.vp x1.aA.length x1.vc (aa x1.aA),Wk.box b5 67 [.int .i64 x1.user,.int .i64 y1,.int .i64 y2,.int .i64 y3,.slice p1 sd.length c1,.slice x1.vp x1.aA.length x1.vc,.slice x1.ep x1.seen.length x1.ec],Wk.box b4 67 [.int .i64 0,.int .i64 0,.int .i64 0,.int .i64 0,.slice none 0 0,.slice none 0 0,.slice none 0 0],Wk.box b3 67 (cN B),ext M]) (fun(p1:Option Addr) (c1:Nat) (sd:List aH)=>[NU p1 c1 sd,K9 x1.ep x1.ec x1.seen,aE B]) (fun(p1:Option Addr) (c1:Nat) (sd:List aH)=>(sd.length≤7∧∀ x∈sd,x.key.length≤25)∧nU w0.heap.size p1) ?_ ?_;refine J8 ?_;intro a S;refine kC S (fun h6=>?_) (fun h6=>?_);refine J2 ?_;intro a S;have tv:w0.heap.size≤w.heap.size:=S.wd.agree.size;refine sr S (rF B hB _ w (a_ S) (S.mem.fact (aE B))) ?_;rintro _ a w ⟨x2,rfl,RO,hfx2,hst2,hso2,hn2⟩ S;replace hn2:=hn2.up tv;replace S:=S.add (Φ:=aE x2) hst2;replace S:=S.add (Φ:=kL x2) hso2;refine Y5 ?_;intro a w S;have hsh:=iQ B.m;rw[←RO]at hsh;replace S:=S.add (Φ:=NU x2.sp x2.sc x2.ah) (fun w' bP=>⟨(S.mem.fact (aE x2) w' bP).1,(S.mem.fact (kL x2) w' bP).1⟩)
 exact ⟨x2.sp,x2.sc,x2.ah,S.uu,⟨hsh.ah,hn2.sp⟩,(S.front (Wk.row 177 2 x1.vp x1.aA.length x1.vc (aa x1.aA))).sub _ _⟩;refine kK (aQ ?_);exact ⟨x1.sp,x1.sc,x1.ah,S.uu,⟨KQ.ah,wG.sp⟩,(S.front (Wk.row 177 2 x1.vp x1.aA.length x1.vc (aa x1.aA))).sub _ _⟩;clear S;rintro p1 c1 sd uu a w ⟨Kg,hnsd⟩ S;refine jX S (fun(vp:Option Addr) (vc:Nat) (vs:List aH) uu=>[(36,uu 36),(0,uu 37),(0,uu 38),(0,uu 39),(0,uu 40),(0,uu 41),(0,uu 42),(0,uu 43)]) (fun(vp:Option Addr) (vc:Nat) (vs:List aH)=>[Wk.row 177 2 vp vs.length vc (aa vs),Wk.box b5 67 [.int .i64 x1.user,.int .i64 y1,.int .i64 y2,.int .i64 y3,.slice p1 sd.length c1,.slice vp vs.length vc,.slice x1.ep x1.seen.length x1.ec],Wk.box b4 67 [.int .i64 0,.int .i64 0,.int .i64 0,.int .i64 0,.slice none 0 0,.slice none 0 0,.slice none 0 0],Wk.box b3 67 (cN B),ext M]) (fun(vp:Option Addr) (vc:Nat) (vs:List aH)=>[NU p1 c1 sd,K9 x1.ep x1.ec x1.seen,aE B]) (fun(vp:Option Addr) (vc:Nat) (vs:List aH)=>(vs.length≤17∧∀ x∈vs,x.key.length≤65)∧nU w0.heap.size vp) ?_ ?_;refine J8 ?_;intro a S;refine kC S (fun h8=>?_) (fun h8=>?_);refine J2 ?_;intro a S;have tv:w0.heap.size≤w.heap.size:=S.wd.agree.size;refine td S (zL B hB _ w (a_ S) (S.mem.fact (aE B))) ?_;rintro _ a w - ⟨x3,rfl,UL,Q8,IU,hnw3,-,-,Cu⟩ hS -;replace Cu:=Cu.up tv;have S:=hS (Wk.row 177 2 x3.vp x3.aA.length x3.vc (aa x3.aA)) IU (fun k ⟨ad,h1,h2⟩=>h2▸(hnw3 ad h1).1);clear hS;refine Y5 ?_;intro a w S;have hsh:=iQ B.m
 rw[←UL]at hsh;exact ⟨x3.vp,x3.vc,x3.aA,S.uu,⟨hsh.aA,Cu.vp⟩,S.sub _ _⟩;refine kK (aQ ?_);exact ⟨x1.vp,x1.vc,x1.aA,S.uu,⟨KQ.aA,wG.vp⟩,S.sub _ _⟩;clear S;rintro vp vc vs uu a w ⟨hvs,US⟩ S;refine mJ ?_;intro a S;refine iI S (fun(k:Nat) (zs:List aH) uu=>[(7,uu 7),(39,.int .i64 (k:Nat)),(0,uu 48),(0,uu 49),(0,uu 50),(0,uu 51),(0,uu 52),(0,uu 53),(0,uu 54),(0,uu 55),(0,uu 56),(0,uu 57),(0,uu 58),(0,uu 59),(0,uu 60),(0,uu 61),(0,uu 62),(0,uu 63),(0,uu 64),(0,uu 65)]) (fun(k:Nat) (zs:List aH)=>[Wk.row 177 2 vp vs.length vc (aa zs),Wk.box b5 67 [.int .i64 x1.user,.int .i64 y1,.int .i64 y2,.int .i64 y3,.slice p1 sd.length c1,.slice vp vs.length vc,.slice x1.ep x1.seen.length x1.ec],Wk.box b4 67 [.int .i64 0,.int .i64 0,.int .i64 0,.int .i64 0,.slice none 0 0,.slice none 0 0,.slice none 0 0],Wk.box b3 67 (cN B),ext M]) (fun(k:Nat) (zs:List aH)=>[NU p1 c1 sd,K9 x1.ep x1.ec x1.seen,aE B]) (fun(k:Nat) (zs:List aH)=>k≤vs.length∧zs.length=vs.length∧∀ x∈zs,x.key.length≤65) (fun(k:Nat) (zs:List aH)=>vs.length - k) (0) (vs) ?_ S.uu ?_ ?_;exact ⟨Nat.zero_le _,rfl,hvs.2⟩
 first | exact S | exact S.sub _ _
 clear S;rintro k zs uu a w ⟨hk,hzl,Kf⟩ S;refine J6 ?_;intro a S;refine kC S (fun wF=>?_) (fun wF=>?_);refine kK (aQ (kS (kB (kS ?_))));have bn:k < vs.length:=by have:=of_decide_eq_true wF;omega
 have MK:k < zs.length:=by omega
 have hK:cx k vs.length:=⟨bn⟩;have hvl:=hvs.1;refine J5 ?_;intro a S;refine zH [(0,0),(0,0),(0,2),(0,3),(0,3),(0,5),(0,5),(0,6),(0,7),(0,9),(0,9),(0,8),(0,11),(0,8),(0,13),(1,14)] [(0,0),(1,0),(2,0),(3,0),(4,0),(5,0),(6,0),(7,0),(9,0),(10,0),(8,3),(11,0),(12,0),(13,3),(14,3),(15,3)] ([Wk.row 177 2 vp vs.length vc (aa zs),Wk.box b5 67 [.int .i64 x1.user,.int .i64 y1,.int .i64 y2,.int .i64 y3,.slice p1 sd.length c1,.slice vp vs.length vc,.slice x1.ep x1.seen.length x1.ec]]) ([]) ([]) S ?_;intro w S;(iterate 10 (refine GG S ?_;intro a S));refine Cz ?_;refine OS (.int .i64 (aq zs k).dS) S vs.length (eV zs k _ (bu MK) 1 (by show 1 < 2;omega)) ?_;intro a S;refine BI S ?_;(iterate 2 (refine GG S ?_;intro a S));refine Cz (sq S ?_);intro a S;refine BI S ?_;refine Cz (sq S ?_);intro a S;refine BI S ?_;refine Cz ?_;refine CJ S vs.length (by omega) (by omega) ?_;intro a w S;have e7:=G0 zs k (aq zs k) (min (IntKind.i64.wrap ((aq zs k).dS+(k:Int).tmod 2)) 65535) (bu MK);rw[e7]at S;refine DE S ?_;refine ZK (qw (aQ (kR ?_)));(iterate 2 (refine sq S ?_;intro a S));refine kN (aQ ?_);rw[w6 ((k:Int)+1)]at S;refine ⟨k+1,zs.set k ⟨(aq zs k).key,min (IntKind.i64.wrap ((aq zs k).dS+(k:Int).tmod 2)) 65535⟩,S.uu,⟨bn,by rw[List.length_set];exact hzl,fun x hx=>?_⟩,S.sub _ _,by omega⟩;rcases List.mem_or_eq_of_mem_set hx with h | rfl
 exact Kf x h;exact Kf (aq zs k) (bh MK);refine kE (fT (fT (mM (aQ ?_))));refine jX S (fun(ep:Option Addr) (ec:Nat) (se:List aK) uu=>[(66,uu 66),(0,uu 67),(0,uu 68),(0,uu 69),(0,uu 70),(0,uu 71),(0,uu 72),(0,uu 73)]) (fun(ep:Option Addr) (ec:Nat) (se:List aK)=>[Wk.row 177 2 vp vs.length vc (aa zs),Wk.box b5 67 [.int .i64 x1.user,.int .i64 y1,.int .i64 y2,.int .i64 y3,.slice p1 sd.length c1,.slice vp vs.length vc,.slice ep se.length ec],Wk.box b4 67 [.int .i64 0,.int .i64 0,.int .i64 0,.int .i64 0,.slice none 0 0,.slice none 0 0,.slice none 0 0],Wk.box b3 67 (cN B),ext M]) (fun(ep:Option Addr) (ec:Nat) (se:List aK)=>[K9 ep ec se,NU p1 c1 sd]) (fun(ep:Option Addr) (ec:Nat) (se:List aK)=>(se.length≤8∧∀ s∈cU se,jk s.root 10=s.root)∧nU w0.heap.size ep∧uQ w0.heap.size se) ?_ ?_;refine J8 ?_;intro a S;refine kC S (fun w_=>?_) (fun w_=>?_);refine J2 ?_;intro a S;have tv:w0.heap.size≤w.heap.size:=S.wd.agree.size;refine sr S (rF B hB _ w (a_ S) (S.mem.fact (aE B))) ?_;rintro _ a w ⟨x4,rfl,Wv,UT,B8,hso4,Np⟩ S;replace Np:=Np.up tv;replace S:=S.add (Φ:=aE x4) B8;replace S:=S.add (Φ:=kL x4) hso4;refine Y5 ?_;intro a w S;have hsh:=iQ B.m;rw[←Wv]at hsh;have hl8:x4.seen.length≤8:=by have:=hsh.seen.1;rw[show x4.m.seen=cU x4.seen from rfl,cU,List.length_map]at this;exact this
 replace S:=S.add (Φ:=K9 x4.ep x4.ec x4.seen) (fun w' bP=>⟨(S.mem.fact (aE x4) w' bP).2.2,(S.mem.fact (kL x4) w' bP).2.2.1,(S.mem.fact (kL x4) w' bP).2.2.2⟩);exact ⟨x4.ep,x4.ec,x4.seen,S.uu,⟨⟨hl8,hsh.seen.2⟩,Np.ep,Np.kids⟩,S.sub _ _⟩;refine kK (aQ ?_);have hl8:x1.seen.length≤8:=by have:=KQ.seen.1;rw[show x1.m.seen=cU x1.seen from rfl,cU,List.length_map]at this;exact this
 replace S:=S.add (Φ:=K9 x1.ep x1.ec x1.seen) (S.mem.fact (K9 x1.ep x1.ec x1.seen));exact ⟨x1.ep,x1.ec,x1.seen,S.uu,⟨⟨hl8,KQ.seen.2⟩,wG.ep,wG.kids⟩,S.sub _ _⟩;clear S;rintro ep ec se uu a w ⟨P3,hnep,hnse⟩ S;refine Y7 ?_;intro a w S;have rv:=S.row vp vs.length;have nv:∀ ad,vp=some ad→¬M ad.block:=fun ad had hm=>by have:=hM _ hm;have:=US ad had;omega
 replace S:=S.bA vp zs (e:=177) (sz:=2) (n:=vs.length) (c:=vc) (fun _ _ _ _=>trivial);have g1:=S.fY (M:=M) (Φ:=NU p1 c1 sd) (by simp);have g2:=S.fY (M:=M) (Φ:=av vp zs) (by simp);have g3:=S.fY (M:=M) (Φ:=K9 ep ec se) (by simp);refine aD S (fun _=>?_);refine ⟨⟨x1.user,y1,y2,y3,p1,c1,sd,vp,vc,zs,ep,ec,se⟩,?_,⟨Kg,⟨by show zs.length≤17;have:=hvs.1;omega,Kf⟩,by show (cU se).length≤8;rw[cU,List.length_map];exact P3.1,P3.2⟩,⟨by show sd.length≤1000;have:=Kg.1;omega,by show zs.length≤1000;have:=hvs.1;omega,by show se.length≤1000;have:=P3.1;omega,fun x hx=>by have:=Kg.2 x hx;omega,fun x hx=>by have:=Kf x hx;omega⟩,fun w' bP=>⟨(g1 w' bP).1,g2 w' bP,(g3 w' bP).1⟩,fun w' bP=>⟨(g1 w' bP).2,by show L6 _ 2 vp zs.length vc w';rw[hzl];exact uP rv nv w' bP,(g3 w' bP).2.1,(g3 w' bP).2.2⟩,⟨hnsd,US,hnep,hnse⟩⟩
 show _=Value.agg ⟨[.int .i64 x1.user,.int .i64 y1,.int .i64 y2,.int .i64 y3,.slice p1 sd.length c1,.slice vp zs.length vc,.slice ep se.length ec]⟩
 rw[hzl]
instance nzM8:NZ 8:=⟨by decide⟩
instance nzM40:NZ 40:=⟨by decide⟩
instance nzM120:NZ 120:=⟨by decide⟩
structure DV where
 kind:Int
 n:Int
 m:aW
 p:Option Addr
 c:Nat
 keep:List Bool
abbrev nJ (x:DV):List Value:=[.int .i64 x.kind,.int .i64 x.n,.int .i64 x.m.user,.int .i64 x.m.leaf,.int .i64 x.m.counter,.int .i64 x.m.num,.slice x.m.sp x.m.ah.length x.m.sc,.slice x.m.vp x.m.aA.length x.m.vc,.slice x.m.ep x.m.seen.length x.m.ec,.slice x.p x.keep.length x.c]
instance Rc:cX DV:=⟨10,nJ,fun _=>rfl,fun x u hu=>by simp only[List.mem_cons,List.not_mem_nil,or_false]at hu;rcases hu with rfl | rfl | rfl | rfl | rfl | rfl | rfl | rfl | rfl | rfl <;> rfl⟩
instance layKop:dW DV:={ Rc with
 dflt:=⟨0,0,cW 0,none,0,[]⟩
 ny:=fun w x=>dW.ny w x.m∧x.keep.length≤x.c∧x.c≤maxLen∧av x.p x.keep w
 mono:=fun w w' x h hx=>⟨dW.mono w w' x.m h hx.1,hx.2.1,hx.2.2.1,hx.2.2.2.mono h⟩ }
def sK (wu:Int):Nat:=6+((IntKind.u64.wrap wu) % 120).toNat
theorem Nq (wu:Int):IntKind.i64.wrap (6+IntKind.i64.wrap ((IntKind.u64.wrap wu).tmod 120))=(sK wu:Int):=by
 have h0:0≤IntKind.u64.wrap wu:=by unfold IntKind.wrap;simp only[IntKind.bits,IntKind.signed,Bool.false_and];simp;omega
 rw[Int.tmod_eq_emod_of_nonneg h0,w6 (IntKind.u64.wrap wu % 120),w6 (6+IntKind.u64.wrap wu % 120),sK];omega
structure KSt where
 h:Nat
 g:Nat
 L:LG
 x:aW
 y:aW
 z:aW
 d:Bool
structure KOk (T:KSt)(t:Int):Prop where
 same:T.x.m=T.y.m
 x:dY T.x
 y:dY T.y
 z:dY T.z
 keep:UQ T.L.v T.y.m T.z.m T.d t
theorem Nr {w w':World}{g:Nat}{e e':TypeId}{sz n c:Nat}{p:Option Addr}{cur cur':Array Value}(hw:w.heap[g]? = some (.cells cur e' (0,0)))(bP:w'.heap[g]? = some (.cells cur' e' (0,0)))(hs:cur'.size=cur.size)(iR:aJ (fun k=>k=g) w w')(h:L6 e sz p n c w):L6 e sz p n c w':=by
 obtain ⟨xs,h1,h2⟩:=h;rcases h2 with ⟨hv,h0⟩ | ⟨g2,cap,Rd,hv,hb,hg,hnc,nM,hcs,ht⟩
 exact ⟨xs,h1,.inl ⟨hv,h0⟩⟩
 by_cases Ww:g2=g
 subst Ww;rw[hw]at hg;cases hg;refine ⟨cur'.toList.take (n*sz),?_,.inr ⟨g2,cap,cur',hv,hb,bP,hnc,nM,by rw[hs];exact hcs,rfl⟩⟩;rw[List.length_take,Array.length_toList,hs,hcs];exact Nat.min_eq_left (Nat.mul_le_mul_right _ hnc);exact ⟨xs,h1,.inr ⟨g2,cap,Rd,hv,hb,by rw[iR.iB (Array.getElem?_eq_some_iff.1 hg).1 Ww];exact hg,hnc,nM,hcs,ht⟩⟩
def kI (zs:List aK):Wk.Item:=⟨fun k=>∃ z∈zs,∃ ad,z.root.p=some ad∧k=ad.block,je zs,true⟩
theorem KR (zs:List aK)(w1 w2:World)(h:∀ k,(kI zs).aj k→w2.heap[k]? = w1.heap[k]?)(hh:je zs w1):je zs w2:=fun z hz=>by
 obtain ⟨xs,hx⟩:=hh z hz;exact ⟨xs,gv _ _ _ _ _ _ w1 w2 (fun k ⟨ad,h1,h2⟩=>h k ⟨z,hz,ad,h1,h2⟩) hx⟩
theorem OJ (zs:List aK)(w:World)(hh:je zs w):∀ k,(kI zs).aj k→k < w.heap.size:=by
 rintro k ⟨z,hz,ad,h1,rfl⟩;obtain ⟨xs,hx⟩:=hh z hz;exact bS (e:=43) (sz:=5) (p:=z.root.p) (n:=z.root.kids.length) (c:=z.root.cap) (xs:=xs) hx _ ⟨ad,h1,rfl⟩
instance itKI {zs:List aK} : cV (kI zs):=⟨KR zs,OJ zs⟩
section
variable {P:Program}{r:Option Nat}{ops:Array Oper}{Q:Exit→Act→World→Prop}{w0:World}{M0:Nat→Prop}{ds:List Deferred}{a:Act}{w:World}{l l':List Value}{bs bs':List Wk.Item}{fs:List (World→Prop)}{d:Option Nat}{x y:Operand}{t ty:TypeId}{pos:String}{af:Array Edge}{rest:List Oper}{v z:Value}{dy:Nat}
theorem skid {zs:List aK}{s:aK}{o OT:Nat}{vs:List Value}(S:St w0 M0 ds a w l bs fs)[Ev ⟨[],l⟩ x (.pointer (some (dx s.root.p o)))][Ev ⟨[],l⟩ y v][hc:Cells v vs][TI P t z OT dy][hl:gW vs OT][hf:Flat vs]
  [hr:pJ bs (kI zs)] [k4:dD bs (kI zs) (kI zs) bs'] [hp:cZ l d undef l'] (hs:s∈zs) (hn:0 < s.root.kids.length) (ho:o+OT≤s.root.kids.length*5)
  (K:∀ a w,St w0 M0 ds a w l' bs' fs→WL P r ops Q rest a w):WL P r ops Q (⟨d,.store t x y,ty,pos,af,none⟩::rest) a w:=by
 refine bR rfl ?_;rw[bQ rfl];have hall:je zs w:=S.it (kI zs);obtain ⟨xs,hrow⟩:=hall s hs;obtain ⟨g,cur,Ef,hg,hnc,hcs,-,-⟩:=eB hrow hn;obtain ⟨w',hrun,iR,hown⟩:=tL (P:=P) hrow (vs:=vs) Ef (by rw[hl.eq];exact ho) hf.all;obtain ⟨g',cur',UU,hg',-,hcs',-,-⟩:=eB hown hn;have Ww:g'=g:=by rw[Ef]at UU;cases UU;rfl
 rw[Ww]at hg';have hag':aJ (fun k=>k=g) w w':=iR.mono fun k _ ⟨ad,h1,h2⟩=>by rw[Ef]at h1;cases h1;exact h2
 have hcsv:v.cells=vs.toArray:=by rw[←hc.eq]
 have e1:(cu a.eval (.store t x y) ty).run P w=.ok .skip w':=by
  have:dx s.root.p o=⟨g,o,none⟩:=by rw[Ef];simp[dx,add_lit]
  have hx:=S.fr.ev (x:=x) (v:=.pointer (some (dx s.root.p o)));rw[this]at hx;simp[cu,execOp,Instr.storeAt,hx,S.fr.ev (x:=y) (v:=v),Instr.sureAddr,storeVar,cv,Sem.run_bind,hcsv,hl.eq,hrun]
 simp only[e1,Oper.uponIn];have S':=S.put (d:=d) (v:=undef) (l':=l');have OK:je zs w':=fun z hz=>Nr hg hg' (by rw[hcs,hcs']) hag' (hall z hz)
 exact K _ _ (S.lg (x:=kI zs) (y:=kI zs) S'.slots S'.defers rfl (iR.mono fun k _ ⟨ad,h1,h2⟩=>⟨s,hs,ad,h1,h2⟩) OK (fun k h=>.inl h) (OJ zs w' OK) (KR zs))
end
theorem G1 (ys:List aK)(i:Nat)(x:aK)(y:Int)(h:ys[i]? = some x):(aa ys).take (i*7+1)++[.int .i64 y]++(aa ys).drop (i*7+1 + [Value.int .i64 y].length)=aa (ys.set i ⟨x.user,y,x.root⟩):=by
 induction ys generalizing i with
 | nil=>simp at h
 | cons z ys ih=>
  cases i with
  | zero=>
   obtain rfl:z=x:=by simpa using h
   obtain ⟨k,v,u⟩:=z;rw[List.set_cons_zero,bf,bf];rfl
  | succ i=>
   have:=ih i (by simpa using h);rw[List.set_cons_succ,bf,bf,←this];have h2:(cX.cells z:List Value).length=7:=cX.len z;rw[List.take_append,List.drop_append,h2,List.take_of_length_le (by rw[h2];omega),List.drop_of_length_le (by rw[h2];omega),show (i+1)*7+1 - 7=i*7+1 from by omega,show (i+1)*7+1 + [Value.int IntKind.i64 y].length - 7=i*7+1 + [Value.int IntKind.i64 y].length from by omega];simp
abbrev UW (m:aW)(xS xV:List Value):Wk.Item:=both (Wk.row 175 2 m.sp m.ah.length m.sc xS) (both (Wk.row 177 2 m.vp m.aA.length m.vc xV) (both (Wk.row 179 7 m.ep m.seen.length m.ec (aa m.seen)) (kI m.seen)))
theorem KS (m:aW)(hfit:dY m)(xS xV:List Value)(w0:World)(hd:(UW m xS xV).holds w0):aT prog 152 [fJ m] w0 (UW m xS xV).aj fun _ _=>True:=by
 have nw:=hfit.ah;have rU:=hfit.aA;have LY:=hfit.seen;have hkn:∀ x∈m.seen,x.root.kids.length≤9223372036854775807:=fun x hx=>by
  obtain ⟨ys,hy⟩:=hd.2.1.2.1.2.1 x hx;have:=gm hy;have h2:=mB hy;unfold maxLen at h2;omega
 refine E1 func152 rfl ntmps152 (Wd.bV (x:=UW m xS xV) (fs:=[]) hd (by simp)) ?_;intro a S;refine kS (kR ?_);refine sa S ?_;intro b1 a w S;refine kN (aQ (kS (kS ?_)));replace S:=S.front (UW m xS xV);replace S:=S.aP;replace S:=S.front (both (Wk.row 177 2 m.vp m.aA.length m.vc xV) (both (Wk.row 179 7 m.ep m.seen.length m.ec (aa m.seen)) (kI m.seen)));replace S:=S.aP;replace S:=S.front (both (Wk.row 179 7 m.ep m.seen.length m.ec (aa m.seen)) (kI m.seen));replace S:=S.aP;replace S:=((((S.front (Wk.box b1 67 (cN m))).front (kI m.seen)).front (Wk.row 179 7 m.ep m.seen.length m.ec (aa m.seen))).front (Wk.row 177 2 m.vp m.aA.length m.vc xV)).front (Wk.row 175 2 m.sp m.ah.length m.sc xS);refine J8 ?_;intro a S;refine yM S (fun(k:Nat) (xs:List Value) uu=>[(2,uu 2),(6,.int .i64 (k:Nat)),(0,uu 10),(0,uu 11),(0,uu 12),(0,uu 13),(0,uu 14),(0,uu 15),(0,uu 16),(0,uu 17)]) (fun(k:Nat) (xs:List Value)=>[Wk.row 175 2 m.sp m.ah.length m.sc xs,Wk.row 177 2 m.vp m.aA.length m.vc xV,Wk.row 179 7 m.ep m.seen.length m.ec (aa m.seen),kI m.seen,Wk.box b1 67 (cN m)]) (fun(k:Nat) (xs:List Value)=>k≤m.ah.length) (fun(k:Nat) (xs:List Value)=>m.ah.length - k) (0) (xS) ?_ S.uu ?_ ?_;exact Nat.zero_le _
 first | exact S | exact S.sub _ _
 clear S;rintro k xs uu a w hk S;refine J6 ?_;intro a S;refine kC S (fun h2=>?_) (fun h2=>?_);refine kK (aQ (kS (kB (kS ?_))));have bn:k < m.ah.length:=by have:=of_decide_eq_true h2;omega
 have hK:cx k m.ah.length:=⟨bn⟩;refine gM ?_;intro a S;refine CJ S m.ah.length (by omega) (by omega) ?_;intro a w S;refine J8 ?_;intro a S;rw[w6 ((k:Int)+1)]at S;exact ⟨k+1,_,S.uu,bn,S,by omega⟩;refine tI ?_;intro a S;refine yM S (fun(j:Nat) (ys:List Value) uu=>[(3,uu 3),(17,.int .i64 (j:Nat)),(0,uu 22),(0,uu 23),(0,uu 24),(0,uu 25),(0,uu 26),(0,uu 27),(0,uu 28),(0,uu 29)]) (fun(j:Nat) (ys:List Value)=>[Wk.row 177 2 m.vp m.aA.length m.vc ys,Wk.row 179 7 m.ep m.seen.length m.ec (aa m.seen),kI m.seen,Wk.box b1 67 (cN m)]) (fun(j:Nat) (ys:List Value)=>j≤m.aA.length) (fun(j:Nat) (ys:List Value)=>m.aA.length - j) (0) (xV) ?_ S.uu ?_ ?_;exact Nat.zero_le _
 first | exact S | exact S.sub _ _
 clear S;rintro j ys uu a w hj S;refine J6 ?_;intro a S;refine kC S (fun h7=>?_) (fun h7=>?_);refine kK (aQ (kS (kB (kS ?_))));have hjl:j < m.aA.length:=by have:=of_decide_eq_true h7;omega
 have hK:cx j m.aA.length:=⟨hjl⟩;refine gM ?_;intro a S;refine CJ S m.aA.length (by omega) (by omega) ?_;intro a w S;refine J8 ?_;intro a S;rw[w6 ((j:Int)+1),show (j:Int)+1=((j+1:Nat):Int) from rfl]at S;exact ⟨j+1,_,S.uu,hjl,S,by omega⟩;refine ug ?_;intro a S;refine yM S (fun(i:Nat) (zs:List aK) uu=>[(4,uu 4),(0,uu 5),(27,.int .i64 (i:Nat)),(0,uu 34),(0,uu 35),(0,uu 36),(0,uu 37),(0,uu 38),(0,uu 39),(0,uu 40),(0,uu 41),(0,uu 42),(0,uu 43),(0,uu 44),(0,uu 45),(0,uu 46),(0,uu 47),(0,uu 48),(0,uu 49),(0,uu 50),(0,uu 51),(0,uu 52),(0,uu 53),(0,uu 54),(0,uu 55),(0,uu 56),(0,uu 57),(0,uu 58),(0,uu 59),(0,uu 60),(0,uu 61),(0,uu 62),(0,uu 63)]) (fun(i:Nat) (zs:List aK)=>[Wk.row 179 7 m.ep m.seen.length m.ec (aa zs),kI m.seen,Wk.box b1 67 (cN m)]) (fun(i:Nat) (zs:List aK)=>i≤m.seen.length∧zs.length=m.seen.length∧∀ a,(aq zs a).root=(aq m.seen a).root) (fun(i:Nat) (zs:List aK)=>m.seen.length - i) (0) (m.seen) ?_ S.uu ?_ ?_;exact ⟨Nat.zero_le _,rfl,fun _=>rfl⟩
 first | exact S | exact S.sub _ _
 clear S;rintro i zs uu a w ⟨hi,hzl,V5⟩ S;refine J6 ?_;intro a S;refine kC S (fun h12=>?_) (fun h12=>?_);refine kK (aQ (kS (kB (kS ?_))));have hil:i < m.seen.length:=by have:=of_decide_eq_true h12;omega
 have hK:cx i m.seen.length:=⟨hil⟩;obtain ⟨s,hs⟩:∃ s,s=aq m.seen i:=⟨_,rfl⟩;have K6:s∈m.seen:=hs▸bh hil;have hk63:=hkn s K6;have hzg:zs[i]? = some (aq zs i):=bu (by omega);have hzi:(aq zs i).root=s.root:=by rw[hs];exact V5 i
 have hcell:(aa zs)[i*7+2+4]? = some (.slice s.root.p s.root.kids.length s.root.cap):=by
  have h1:=eV zs i _ hzg 6 (by show 6 < 7;omega);rw[show i*7+2+4=i*cX.sz aK+6 from rfl,h1]
  show some (Value.slice (aq zs i).root.p (aq zs i).root.kids.length (aq zs i).root.cap)=_
  rw[hzi]
 refine ug ?_;intro a S;refine OS (.slice s.root.p s.root.kids.length s.root.cap) S m.seen.length hcell ?_;intro a S;refine J5 ?_;intro a S;refine yK S (fun(q:Nat) uu=>[(5,uu 5),(38,.int .i64 (q:Nat)),(0,uu 45),(0,uu 46),(0,uu 47),(0,uu 48),(0,uu 49),(0,uu 50),(0,uu 51),(0,uu 52),(0,uu 53),(0,uu 54),(0,uu 55),(0,uu 56),(0,uu 57)]) (fun(q:Nat)=>[Wk.row 179 7 m.ep m.seen.length m.ec (aa zs),kI m.seen,Wk.box b1 67 (cN m)]) (fun(q:Nat)=>q≤s.root.kids.length) (fun(q:Nat)=>s.root.kids.length - q) (0) ?_ S.uu ?_ ?_;exact Nat.zero_le _
 first | exact S | exact S.sub _ _
 clear S;rintro q uu a w hq S;refine J6 ?_;intro a S;refine kC S (fun w_=>?_) (fun w_=>?_);refine kK (aQ (kS (kB (kS ?_))));have hql:q < s.root.kids.length:=by have:=of_decide_eq_true w_;omega
 have hKq:cx q s.root.kids.length:=⟨hql⟩;have hPS:PS s.root.p:=by
  have hall:je m.seen w:=S.it (kI m.seen);obtain ⟨ys,hy⟩:=hall s K6;exact PS.of hy (by omega)
 refine jq ?_;intro a S;refine OS (.slice s.root.p s.root.kids.length s.root.cap) S m.seen.length hcell ?_;intro a S;refine J3 ?_;intro a S;refine skid (s:=s) S K6 (by omega) (by omega) ?_;intro a w S;refine J8 ?_;intro a S;rw[w6 ((q:Int)+1),show (q:Int)+1=((q+1:Nat):Int) from rfl]at S;exact ⟨q+1,S.uu,hql,S.sub _ _,by omega⟩;refine gM ?_;intro a S;refine CJ S m.seen.length (by omega) (by omega) ?_;intro a w S;rw[G1 zs i (aq zs i) 99 hzg]at S;refine J8 ?_;intro a S;rw[w6 ((i:Int)+1),show (i:Int)+1=((i+1:Nat):Int) from rfl]at S;refine ⟨i+1,zs.set i ⟨(aq zs i).user,99,(aq zs i).root⟩,S.uu,⟨hil,by rw[List.length_set];exact hzl,fun b=>?_⟩,S.sub _ _,by omega⟩;rw[←V5 b];unfold aq;simp only[List.getD_eq_getElem?_getD,List.getElem?_set]
 by_cases hb:i=b
 subst hb;rw[if_pos rfl,if_pos (by omega),hzg];rfl;rw[if_neg hb];refine kE (fT (fT (mM ?_)));exact iD S (fun _=>trivial)
theorem uf {M:Nat→Prop}{w:World}{e:TypeId}{sz:Nat}{p:Option Addr}{n c:Nat}(h:ag M w (L6 e sz p n c)):∀ ad,p=some ad→¬M ad.block:=fun ad had hm=>by
 subst had;obtain ⟨xs,h1,h2⟩:=h.now;rcases h2 with ⟨hv,-⟩ | ⟨g,cap,cur,hv,hb,hg,-⟩
 cases hv;cases hv;have wK:=(Array.getElem?_eq_some_iff.1 hg).1;obtain ⟨ys,h3,h4⟩:=h { w with heap:=w.heap.set g (.cells #[] (e+1) (0,0)) wK } ⟨rfl,rfl,rfl,by simp,fun k hk hkm=>by
  have:k≠g:=fun h=>hkm (h▸hm)
  simp[Array.getElem?_set,this.symm]⟩
 rcases h4 with ⟨hv,-⟩ | ⟨g2,cap2,Rd,qu,-,Ct,-⟩
 cases hv;cases qu;simp at Ct
theorem G2 (n:Int)(w:World):aT prog 194 [.int .i64 n] w (fun _=>False) fun v _=>v=.bool (bX n):=by
 refine E1 func194 rfl ntmps194 (Wd.start w) ?_;intro a S;refine D8 ?_;intro a S;exact aD S (fun _=>rfl)
instance {n:Int}{bs fs} : cB prog 194 [.int .i64 n] bs fs (.bool (bX n)):=⟨fun w _=>G2 n w⟩
theorem zY (n:Int)(w:World):aT prog 195 [.int .i64 n] w (fun _=>False) fun v _=>v=.bool (pY n):=by
 refine E1 func195 rfl ntmps195 (Wd.start w) ?_;intro a S;refine D8 ?_;intro a S;exact aD S (fun _=>rfl)
instance {n:Int}{bs fs} : cB prog 195 [.int .i64 n] bs fs (.bool (pY n)):=⟨fun w _=>zY n w⟩
def wv (l:List aK):Nat→Int
 | 0=>0
 | j+1=>(aq l j).user
theorem DW (l:List aK)(k:Nat)(hk:k < l.length):eH (wv l k) (cU (l.drop k))=(decide (wv l k < (aq l k).user)&&bX (aq l k).user&&pY (aq l k).cnt&&decide (cR (aq l k).root.t=0)&&eH (wv l (k+1)) (cU (l.drop (k+1)))):=by
 rw[bE hk];rfl
theorem G3 (t:Term):decide (cR t=0)=ku t:=by
 rw[Bool.eq_iff_iff,decide_eq_true_eq];exact CO
theorem DX (l:List aK)(p:Option Addr)(n c:Nat)(w0:World)(hn:l.length=n)(hl:n≤1000000)(hx:Fx w0 (av p l)) :
  aT prog 109 [.slice p n c] w0 (fun _=>False) fun v _=>v=.bool (eH 0 (cU l)):=by
 subst hn;refine E1 func109 rfl ntmps109 (Wd.begin (fs:=[av p l]) (by simpa using hx)) ?_;intro a S;refine ug ?_;intro a S;refine fD S (fun(k:Nat) uu=>[(2,uu 2),(0,uu 3),(0,uu 4),(2,.int .i64 (k:Nat)),(0,uu 8),(0,uu 9),(0,uu 10),(0,uu 11),(0,uu 12),(0,uu 13),(0,uu 14),(0,uu 15),(0,uu 16),(0,uu 17),(0,uu 18),(0,uu 19),(0,uu 20),(0,uu 21),(0,uu 22),(0,uu 23),(0,uu 24),(0,uu 25),(0,uu 26),(0,uu 27),(0,uu 28),(0,uu 29),(0,uu 30),(0,uu 31),(0,uu 32),(0,uu 33),(0,uu 34),(0,uu 35),(0,uu 36),(0,uu 37),(0,uu 38),(0,uu 39),(0,uu 40),(0,uu 41),(0,uu 42),(0,uu 43)]) (fun(k:Nat)=>[]) (fun(k:Nat)=>[av p l]) (fun(k:Nat)=>k≤l.length∧eH (wv l k) (cU (l.drop k))=eH 0 (cU l)) (fun(k:Nat)=>l.length - k) (0) ?_ S.uu ?_ ?_;exact ⟨Nat.zero_le _,rfl⟩
 first | exact S | exact S.sub _ _
 clear S;rintro k uu a w ⟨hk,aI⟩ S;refine J6 ?_;intro a S;refine kC S (fun h2=>?_) (fun h2=>?_);refine kK (aQ (kS (kB (kS ?_))));have bn:k < l.length:=by simp at h2;omega
 have hK:cx k l.length:=⟨bn⟩;replace S:=S.add (Φ:=dc (aq l k).root) ((S.mem.fact (av p l)).imp fun _ h=>h.2 _ (bh bn));rw[DW l k bn,G3]at aI;have hC:K7 [!(!bX (aq l k).user||!pY (aq l k).cnt||!ku (aq l k).root.t),decide (0 < (k:Int))] (k - 1) l.length:=⟨fun _=>by omega⟩;have nC:bX (aq l k).user=true→decide (wv l k < (aq l k).user) = !(decide (0 < (k:Int))&&decide ((aq l k).user≤(aq l (k - 1)).user)):=fun hm=>by
  have h1:1≤(aq l k).user:=by simp only[bX,Bool.and_eq_true,decide_eq_true_eq]at hm;exact hm.1
  cases k with
  | zero=>rw[show wv l 0=0 from rfl,decide_eq_true (show (0:Int) < (aq l 0).user by omega)];rfl
  | succ j=>
   rw[show wv l (j+1)=(aq l j).user from rfl,show j+1 - 1=j from by omega,decide_eq_true (show (0:Int) < ((j+1:Nat):Int) by omega),Bool.true_and]
   by_cases h:(aq l j).user < (aq l (j+1)).user
   rw[decide_eq_true h,decide_eq_false (by omega)];rfl;rw[decide_eq_false h,decide_eq_true (by omega)];rfl
 refine J4 ?_;intro a S;refine sa S ?_;intro b4 a w S;refine Y5 ?_;intro a w S;refine bM [T9 0,T9 1,F9 2,T9 3,T9 4,T9 5,T9 6,F9 7,T9 8,T9 9,T9 10,T9 11,T9 12,F9 13,T9 14,T9 15,T9 16,T9 17,T9 18,T9 19,T9 20,T9 21,T9 22,T9 23,T9 24,T9 25,T9 26,T9 27,T9 28,T9 29,T9 30] [] S ?_;intro w S;(iterate 2 (refine dq S ?_;intro a S));refine dl (sc S ?_);intro a w S;refine de S ?_;(iterate 2 (refine dq S ?_;intro a S));(iterate 2 (refine iX S ?_;intro a S));refine dl ?_;refine gC S ?_;intro a w S;refine de S ?_;refine iX S ?_;intro a S;(iterate 2 (refine dq S ?_;intro a S));(iterate 2 (refine iX S ?_;intro a S));refine dl ?_;refine gC S ?_;intro a w S;refine de S ?_;refine iX S ?_;intro a S;(iterate 2 (refine dq S ?_;intro a S));(iterate 6 (refine iX S ?_;intro a S));rw[vT (by simp;omega) (by omega)]at S;(iterate 7 (refine iX S ?_;intro a S));refine dq S ?_;intro a S;refine dn (aQ ?_);refine kC S (fun h4=>?_) (fun h4=>?_);refine gM ?_;intro a S;refine aD S (fun _=>?_);rw[←aI];cases h1:bX (aq l k).user with
 | false=>simp
 | true=>
  rw[nC h1];rw[h1]at h4;cases h2:pY (aq l k).cnt with
  | false=>simp
  | true=>
   rw[h2]at h4;cases h3:ku (aq l k).root.t with
   | false=>simp
   | true=>
    rw[h3]at h4;simp only[Bool.not_true,Bool.false_or]at h4;rw[h4];rfl
 refine J8 ?_;intro a S;rw[w6 ((k:Int)+1)]at S;refine ⟨k+1,S.uu,⟨bn,?_⟩,S.sub _ _,by omega⟩;simp only[Bool.or_eq_false_iff,Bool.not_eq_false']at h4;rw[←aI,nC h4.1.1.1,h4.1.1.1,h4.1.1.2,h4.1.2,h4.2];rfl;refine gM ?_;intro a S;rw[List.drop_of_length_le (by simp at h2;omega)]at aI;refine aD S (fun _=>?_);rw[←aI];rfl
instance {l:List aK}{p:Option Addr}{n c:Nat}{bs fs}[hg:lI fs p aK ED l][hn:eu l n][hk:eS n 1000000]:cB prog 109 [.slice p n c] bs fs (.bool (eH 0 (cU l))):=⟨fun w m=>DX l p n c w hn.eq hk.le ((hg.of _ _ m.facts).less fun _ _ h=>h.elim)⟩
def Ns (M:Nat→Prop)(l:List aK)(u:Int)(v:Value)(w:World):Prop:=∃ (s:aK) (b:Bool),v=.tuple ⟨[.agg ⟨kH s⟩,.bool b]⟩∧ag M w (dc s.root)∧(pM (cU l) u=if b then some s.s else none)
theorem G4 (l:List aK)(p:Option Addr)(n c:Nat)(u:Int)(M:Nat→Prop)(w0:World)(hn:l.length=n)(hl:n≤1000000)(hM:∀ k,M k→k < w0.heap.size)(hx:ag M w0 (av p l)) :
  aT prog 127 [.slice p n c,.int .i64 u] w0 (fun _=>False) fun v w'=>Ns M l u v w':=by
 subst hn;refine E1 func127 rfl ntmps127 (Wd.fE (M:=M) (fs:=[av p l]) hM (by simpa using hx)) ?_;intro a S;refine kS (kR ?_);refine sa S ?_;intro b4 a w S;refine jq ?_;intro a S;refine iH S (fun(k:Nat) uu=>[(5,uu 5),(1,uu 7),(2,.int .i64 (k:Nat)),(0,uu 11),(0,uu 12),(0,uu 13),(0,uu 14),(0,uu 15),(0,uu 16),(0,uu 17),(0,uu 18),(0,uu 19)]) (fun(k:Nat)=>k≤l.length∧∀ a,a < k→(aq l a).user≠u) (fun(k:Nat)=>l.length - k) (0) ?_ S.uu ?_ ?_;exact ⟨Nat.zero_le _,fun a h=>absurd h (Nat.not_lt_zero a)⟩
 first | exact S | exact S.sub _ _
 clear S;rintro k uu a w ⟨hk,aI⟩ S;refine J6 ?_;intro a S;refine kC S (fun h2=>?_) (fun h2=>?_);refine kK (aQ (kS (kB (kS ?_))));have bn:k < l.length:=by have:=of_decide_eq_true h2;omega
 have hK:cx k l.length:=⟨bn⟩;replace S:=S.add (Φ:=dc (aq l k).root) ((S.mem.fact (av p l)).imp fun _ h=>h.2 _ (bh bn));refine J3 ?_;intro a S;refine sa S ?_;intro b7 a w S;refine yA ?_;intro a w S;refine kC S (fun h4=>?_) (fun h4=>?_);refine Hi ?_;intro a w S;have hf:=S.CG (M:=M) (aq l k).root;refine gO S (fun _=>⟨aq l k,true,rfl,hf,?_⟩);exact ql l u k bn (of_decide_eq_true h4) aI;refine J8 ?_;intro a S;rw[w6 ((k:Int)+1)]at S;refine ⟨k+1,S.uu,⟨bn,fun a ha=>?_⟩,S.sub _ _,by omega⟩;rcases Nat.lt_succ_iff_lt_or_eq.1 ha with h | rfl
 exact aI a h;exact of_decide_eq_false h4;refine Hi ?_;intro a w S;refine gO S (fun _=>⟨JN,false,rfl,fun _ _=>eF _,?_⟩);exact qm l u fun a ha=>aI a (by have:=of_decide_eq_false h2;omega)
theorem wz {α:Type}[dW α](f:α→Bool)(l:List α)(k:Nat)(hk:k < l.length):(l.take (k+1)).any f=((l.take k).any f||f (aq l k)):=by
 rw[eC hk,List.any_append];simp
theorem B9 (old now:List aH)(p q:Option Addr)(c e:Nat)(w0:World)(hl:old.length≤1000000)(rU:now.length≤1000000)(hx:Fx w0 (av p old))(hy:Fx w0 (av q now)) :
  aT prog 126 [.slice p old.length c,.slice q now.length e] w0 (fun _=>False) fun v _=>v=.bool (Gx old now):=by
 refine E1 func126 rfl ntmps126 (Wd.begin (fs:=[av p old,av q now]) (by simp;exact ⟨hx,hy⟩)) ?_;intro a S;refine ug ?_;intro a S;refine fD S (fun(k:Nat) uu=>[(4,uu 4),(1,uu 6),(0,uu 7),(1,uu 9),(2,.int .i64 (k:Nat)),(0,uu 13),(0,uu 14),(0,uu 15),(0,uu 16),(0,uu 17),(0,uu 18),(0,uu 19),(0,uu 20),(0,uu 21),(0,uu 22),(0,uu 23),(0,uu 24),(0,uu 25),(0,uu 26),(0,uu 27),(0,uu 28),(0,uu 29),(0,uu 30),(0,uu 31),(0,uu 32),(0,uu 33),(0,uu 34),(0,uu 35),(0,uu 36),(0,uu 37),(0,uu 38),(0,uu 39),(0,uu 40)]) (fun(k:Nat)=>[]) (fun(k:Nat)=>[av p old,av q now]) (fun(k:Nat)=>k≤old.length∧((old.take k).any fun m=>!now.any (vN m))=false) (fun(k:Nat)=>old.length - k) (0) ?_ S.uu ?_ ?_;exact ⟨Nat.zero_le _,rfl⟩
 first | exact S | exact S.sub _ _
 clear S;rintro k uu a w ⟨hk,aI⟩ S;refine J6 ?_;intro a S;refine kC S (fun h2=>?_) (fun h2=>?_);refine kK (aQ (kS (kB (kS ?_))));have bn:k < old.length:=by have:=of_decide_eq_true h2;omega
 have hK:cx k old.length:=⟨bn⟩;refine J3 ?_;intro a S;refine sa S ?_;intro b6 a w S;refine CD ?_;intro a w S;refine iI S (fun(j:Nat) (ok:Bool) uu=>[(7,.bool ok),(1,uu 9),(8,.int .i64 (j:Nat)),(0,uu 19),(0,uu 20),(0,uu 21),(0,uu 22),(0,uu 23),(0,uu 24),(0,uu 25),(0,uu 26),(0,uu 27),(0,uu 28),(0,uu 29),(0,uu 30),(0,uu 31),(0,uu 32),(0,uu 33),(0,uu 34),(0,uu 35),(0,uu 36),(0,uu 37)]) (fun(j:Nat) (ok:Bool)=>[Wk.box b6 177 [str (aq old k).key,.int .i64 (aq old k).dS]]) (fun(j:Nat) (ok:Bool)=>[av p old,av q now]) (fun(j:Nat) (ok:Bool)=>j≤now.length∧ok=(now.take j).any (vN (aq old k))) (fun(j:Nat) (ok:Bool)=>now.length - j) (0) (false) ?_ S.uu ?_ ?_;exact ⟨Nat.zero_le _,rfl⟩
 first | exact S | exact S.sub _ _
 clear S;rintro j ok uu a w ⟨hj,hok⟩ S;refine J6 ?_;intro a S;refine kC S (fun h6=>?_) (fun h6=>?_);refine kK (aQ (kS (kB (kS ?_))));have hjl:j < now.length:=by have:=of_decide_eq_true h6;omega
 have hK:cx j now.length:=⟨hjl⟩;refine J3 ?_;intro a S;refine sa S ?_;intro b9 a w S;refine sP ?_;intro a w S;refine J8 ?_;intro a S;rw[w6 ((j:Int)+1),show (j:Int)+1=((j+1:Nat):Int) from rfl]at S;refine ⟨j+1,_,S.uu,⟨hjl,?_⟩,S.sub _ _,by omega⟩;rw[wz _ _ _ hjl,←hok];rfl;refine kE (fT (fT (mM (aQ (kS ?_)))));have Td:j=now.length:=by have:=of_decide_eq_false h6;omega
 rw[List.take_of_length_le (by omega)]at hok;refine J5 ?_;intro a S;refine kC S (fun gi=>?_) (fun gi=>?_);refine gM ?_;intro a S;refine aD S (fun _=>?_);have:(old.any fun m=>!now.any (vN m))=true:=List.any_eq_true.2 ⟨aq old k,bh bn,by rw[←hok];simpa using gi⟩;rw[Gx,this];rfl;refine J8 ?_;intro a S;rw[w6 ((k:Int)+1)]at S;refine ⟨k+1,S.uu,⟨bn,?_⟩,S.sub _ _,by omega⟩;rw[wz _ _ _ bn,aI,←hok];simpa using gi;refine gM ?_;intro a S;refine aD S (fun _=>?_);rw[List.take_of_length_le (by have:=of_decide_eq_false h2;omega)]at aI;rw[Gx,aI];rfl
theorem yw (xs ys:List aK)(p q:Option Addr)(c e:Nat)(w0:World)(hl:xs.length≤1000000)(hx:Fx w0 (av p xs))(hy:Fx w0 (av q ys)) :
  aT prog 133 [.slice p xs.length c,.slice q ys.length e] w0 (fun _=>False) fun v _=>∃ b,v=.bool b∧(b=true↔cU xs=cU ys):=by
 refine E1 func133 rfl ntmps133 (Wd.begin (fs:=[av p xs,av q ys]) (by simp;exact ⟨hx,hy⟩)) ?_;intro a S;refine tI ?_;intro a S;refine kC S (fun h1=>?_) (fun h1=>?_);refine J7 ?_;intro a S;refine aD S (fun _=>⟨false,rfl,⟨nofun,fun he=>?_⟩⟩);have:=congrArg List.length he;simp only[cU,List.length_map]at this;simp at h1;omega;refine gM ?_;intro a S;have hle:xs.length=ys.length:=by simp at h1;omega
 refine fD S (fun(k:Nat) uu=>[(4,uu 4),(0,uu 5),(7,.int .i64 (k:Nat)),(0,uu 14),(0,uu 15),(0,uu 16),(0,uu 17),(0,uu 18),(0,uu 19),(0,uu 20),(0,uu 21),(0,uu 22),(0,uu 23),(0,uu 24),(0,uu 25),(0,uu 26),(0,uu 27),(0,uu 28),(0,uu 29),(0,uu 30),(0,uu 31),(0,uu 32),(0,uu 33),(0,uu 34),(0,uu 35),(0,uu 36),(0,uu 37),(0,uu 38),(0,uu 39),(0,uu 40),(0,uu 41),(0,uu 42),(0,uu 43),(0,uu 44),(0,uu 45),(0,uu 46),(0,uu 47),(0,uu 48),(0,uu 49),(0,uu 50),(0,uu 51),(0,uu 52),(0,uu 53),(0,uu 54)]) (fun(k:Nat)=>[]) (fun(k:Nat)=>[av p xs,av q ys]) (fun(k:Nat)=>k≤xs.length∧∀ a,a < k→(aq xs a).s=(aq ys a).s) (fun(k:Nat)=>xs.length - k) (0) ?_ S.uu ?_ ?_;exact ⟨Nat.zero_le _,fun a h=>absurd h (Nat.not_lt_zero a)⟩
 first | exact S | exact S.sub _ _
 clear S;rintro k uu a w ⟨hk,K6⟩ S;refine J6 ?_;intro a S;refine kC S (fun h4=>?_) (fun h4=>?_);refine kK (aQ (kS (kB (kS ?_))));have bn:k < xs.length:=by have:=of_decide_eq_true h4;omega
 have hK:cx k xs.length:=⟨bn⟩;have Cq:cx k ys.length:=⟨by omega⟩;replace S:=S.add (Φ:=dc (aq xs k).root) ((S.mem.fact (av p xs)).imp fun _ h=>h.2 _ (bh bn));replace S:=S.add (Φ:=dc (aq ys k).root) ((S.mem.fact (av q ys)).imp fun _ h=>h.2 _ (bh (by omega)));refine J6 ?_;intro a S;refine bM [T9 0,T9 1,T9 2,T9 3,T9 4,T9 5,T9 6,T9 7,T9 8,T9 9,T9 10,T9 11,T9 12,T9 13,T9 14,T9 15,T9 16,T9 17,T9 18,T9 19,T9 20,T9 21,T9 22,T9 23,T9 24,T9 25,T9 26,T9 27,T9 28,T9 29,T9 30,T9 31,T9 32,T9 33,T9 34,F9 35,T9 36,T9 37] [] S ?_;intro w S;(iterate 12 (refine dq S ?_;intro a S));(iterate 11 (refine iX S ?_;intro a S));(iterate 2 (refine dq S ?_;intro a S));(iterate 10 (refine iX S ?_;intro a S));refine dl ?_;refine gC S ?_;intro a w S;refine de S ?_;refine iX S ?_;intro a S;refine dq S ?_;intro a S;refine dn (aQ ?_);refine kC S (fun h6=>?_) (fun h6=>?_);refine gM ?_;intro a S;refine aD S (fun _=>⟨false,rfl,⟨nofun,fun he=>?_⟩⟩);have e1:(cU xs)[k]? = some (aq xs k).s:=by rw[cU,List.getElem?_map,bu bn];rfl
 have e2:(cU ys)[k]? = some (aq ys k).s:=by rw[cU,List.getElem?_map,bu (by omega)];rfl
 rw[he,e2]at e1;have h7:=zI.2 (Option.some.inj e1).symm;simp only[Bool.and_eq_true]at h7;rw[h7.1.1,h7.1.2,h7.2]at h6;cases h6;refine J8 ?_;intro a S;rw[w6 ((k:Int)+1)]at S;refine ⟨k+1,S.uu,⟨bn,fun b hb=>?_⟩,S.sub _ _,by omega⟩;rcases Nat.lt_succ_iff_lt_or_eq.1 hb with h | rfl
 exact K6 b h;refine zI.1 ?_;simp only[Bool.or_eq_false_iff,Bool.not_eq_false']at h6;rw[h6.1.1,h6.1.2,h6.2];rfl;refine gM ?_;intro a S;refine aD S (fun _=>⟨true,rfl,⟨fun _=>?_,fun _=>rfl⟩⟩);refine List.ext_getElem? fun i=>?_
 rcases Nat.lt_or_ge i xs.length with h | h
 rw[cU,cU,List.getElem?_map,List.getElem?_map,bu h,bu (by omega)];exact congrArg some (K6 i (by have:=of_decide_eq_false h4;omega));rw[List.getElem?_eq_none (by rw[cU,List.length_map];omega),List.getElem?_eq_none (by rw[cU,List.length_map];omega)]
end Go.Proofs.YtdakncgafdnjfaaGreat