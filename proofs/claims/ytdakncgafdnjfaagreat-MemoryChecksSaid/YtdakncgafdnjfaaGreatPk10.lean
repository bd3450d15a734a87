/- 10: a part of this claim's texts, joined: MemM MemS MemT MemU PlainMemC MemW LawMemA RefMemB RefMemC RefMemD RefMemE. -/
import Derived.Test.YtdakncgafdnjfaaGreatPk9
namespace Go.Proofs.YtdakncgafdnjfaaGreat
open Go Go.Wk
set_option synthInstance.maxSize 100000
set_option synthInstance.maxHeartbeats 400000
set_option maxRecDepth 100000
class MemFit (m:LMem):Prop where
 fit:FitM m
instance mcheckI {m:LMem} {bs fs} [hf:MemFit m] [h:HasFact fs (MemF m)]:CallV Tryz.prog 37 [vMem m] bs fs (.int .i64 (mchkF m.m)):=⟨fun w mm=>mcheck_c m hf.fit w ((mm.facts _ h.mem).less fun _ _ h=>h.elim)⟩
class RdF (fs:List (World→Prop)) (b:Nat) (r:outParam RS):Prop where mem:BoxF b 238 (cRS r)∈fs
instance rdf0 {b:Nat} {r:RS} {fs:List (World→Prop)} : RdF (BoxF b 238 (cRS r)::fs) b r:=⟨List.mem_cons_self ..⟩
instance (priority:=900) rdf1 {b:Nat} {r:RS} {Φ:World→Prop} {fs:List (World→Prop)} [h:RdF fs b r]:RdF (Φ::fs) b r:=⟨List.mem_cons_of_mem _ h.mem⟩
instance leftRI {b:Nat} {r:RS} {bs fs} [h:RdF fs b r]:CallV Tryz.prog 72 [.pointer (some ⟨b,0,none⟩)] bs fs (.int .i64 (r.bs.length:Nat)):=⟨fun w mm=>leftR_c b r w ((mm.facts _ h.mem).less fun _ _ h=>h.elim)⟩
theorem zeroM_is (M:Nat→Prop) (w:World):IsM M w (.agg ⟨[.int .i64 0,.int .i64 0,.int .i64 0,.int .i64 0,.slice none 0 0,.slice none 0 0,.slice none 0 0]⟩) zeroM:=
 ⟨⟨0,0,0,0,none,0,[],none,0,[],none,0,[]⟩,rfl,rfl,⟨Nat.zero_le _,Nat.zero_le _,Nat.zero_le _,nofun,nofun⟩,fun _ _=>⟨gl_nil,gl_nil,gl_nil⟩⟩
def MDecR (M:Nat→Prop) (bs:List UInt8) (v:Value) (w:World):Prop:=∃ vm,v=.tuple ⟨[vm,.int .i64 (decM bs).2]⟩∧IsM M w vm (decM bs).1
set_option maxHeartbeats 4000000 in
theorem mdecode_c (bs:List UInt8) (p:Option Addr) (n c:Nat) (M:Nat→Prop) (w0:World) (hn:bs.length=n) (hl:n≤10000000) (hM:∀ k,M k→k < w0.heap.size) (hf:Stable M w0 (GlF p bs)) :
  Ret Tryz.prog 44 [.slice p n c] w0 (fun _=>False) fun v w'=>MDecR M bs v w':=by
 subst hn
 refine enter Tryz.func44 rfl rfl (Wd.beginM (M:=M) (fs:=[GlF p bs]) hM (by simpa using hf)) (fun a S=>?_)
 simp only[Tryz.ntmps44,qqA,qqB,Nat.reduceAdd,Nat.reduceSub,qqC,qqD,qqE,qqF]at S
 refine kS (kR ?_);refine sa S ?_;clear S;intro b2 a w S;refine sq S ?_;clear S;intro a S;refine kN (xtn (kS (kR (sq S ?_))));clear S;intro a S
 refine snew S (readR_c bs p bs.length c _ rfl hl (S.gl0 p)) ?_;clear S;rintro _ a w - ⟨rd,p1,c1,rfl,hh,hnw⟩ hS -
 have S:=hS (both (rdI rd ⟨p1,c1,bs,0⟩) (Wk.row 5 1 p1 bs.length c1 (encL bs))) hh hnw
 clear hS
 replace S:=S.ofBoth
 have hc1:=own_le (S.row p1 bs.length)
 replace S:=(S.front (Wk.row 5 1 p1 bs.length c1 (encL bs))).rowToGl p1 bs (e:=5) (sz:=1) (n:=bs.length) (c:=c1) (fun _ _ _ _=>trivial)
 obtain ⟨r0,hr0⟩:∃ r0:RS,r0=⟨p1,c1,bs,0⟩:=⟨_,rfl⟩
 rw[←hr0,show GlF p1 bs=GlF r0.p r0.bs from by rw[hr0]]at S
 have hc0:r0.bs.length≤r0.c:=by rw[hr0];exact hc1
 have hl0:r0.bs.length≤10000000:=by rw[hr0];exact hl
 have hab:r0.ab=(bs,false):=by rw[hr0];rfl
 have q1:=SubR.take r0 1
 have q2:=SubR.take (takeR r0 1) 2
 have q3:=SubR.take (takeR (takeR r0 1) 2) 2
 have q4:=SubR.take (takeR (takeR (takeR r0 1) 2) 2) 2
 obtain ⟨ra,hra⟩:∃ ra,ra=takeR r0 1:=⟨_,rfl⟩
 rw[←hra]at q1 q2 q3 q4
 obtain ⟨rb,hrb⟩:∃ rb,rb=takeR ra 2:=⟨_,rfl⟩
 rw[←hrb]at q2 q3 q4
 obtain ⟨rc,hrc⟩:∃ rc,rc=takeR rb 2:=⟨_,rfl⟩
 rw[←hrc]at q3 q4
 obtain ⟨re,hre⟩:∃ re,re=takeR rc 2:=⟨_,rfl⟩
 rw[←hre]at q4
 have hca:=q1.cap hc0
 have hcb:=q2.cap hca
 have hcc:=q3.cap hcb
 have hce:=q4.cap hcc
 have hla:=q1.len
 have hlb:=q2.len
 have hlc:=q3.len
 have hle:=q4.len
 obtain ⟨na,hna⟩:∃ na,na=numN (tookR r0 1) 0:=⟨_,rfl⟩
 obtain ⟨nb,hnb⟩:∃ nb,nb=numN (tookR ra 2) 0:=⟨_,rfl⟩
 obtain ⟨nc,hnc⟩:∃ nc,nc=numN (tookR rb 2) 0:=⟨_,rfl⟩
 obtain ⟨nd,hnd⟩:∃ nd,nd=numN (tookR rc 2) 0:=⟨_,rfl⟩
 have hnal:na < 256:=by rw[hna];exact (took_num r0 1 (by decide)).2
 have hnbl:nb < 65536:=by rw[hnb];exact (took_num ra 2 (by decide)).2
 have hncl:nc < 65536:=by rw[hnc];exact (took_num rb 2 (by decide)).2
 have hndl:nd < 65536:=by rw[hnd];exact (took_num rc 2 (by decide)).2
 obtain ⟨xa1,xa2⟩:=tk_ab r0 1
 obtain ⟨xb1,xb2⟩:=tk_ab ra 2
 obtain ⟨xc1,xc2⟩:=tk_ab rb 2
 obtain ⟨xd1,xd2⟩:=tk_ab rc 2
 rw[hab]at xa1 xa2
 rw[←hra]at xa2;rw[←hrb]at xb2;rw[←hrc]at xc2;rw[←hre]at xd2
 have y1:e1D bs=(tookR r0 1,ra.ab):=by rw[e1D,xa1,xa2]
 have y2:e2D bs=(tookR ra 2,rb.ab):=by rw[e2D,y1,xb1,xb2]
 have y3:e3D bs=(tookR rb 2,rc.ab):=by rw[e3D,y2,xc1,xc2]
 have y4:e4D bs=(tookR rc 2,re.ab):=by rw[e4D,y3,xd1,xd2]
 refine sq S ?_;clear S;intro a S;refine sa S ?_;clear S;intro b9 a w S;refine sa S ?_;clear S;intro b4 a w S;refine sw S ?_;clear S;intro a w S;refine kN (xtn (kS ?_))
 refine c_drwe1 (.q 0 (.q 1 (.q 2 (.q 3 (.q 6 (.q 7 (.q 8 (.q 9 (.q 12 (.q 13 (.q 14 (.q 15 (.q 18 (.q 19 (.q 20 (.q 21 (.b2 4 25 (.q 5 (.b2 10 25 (.q 11 (.b2 16 25 (.q 17 (.b2 22 25 (.q 23 (.q 24 (.l 25 (.l 26 (.e))))) (.l 22 (.q 23 (.q 24 (.l 26 (.e))))))) (.l 16 (.q 17 (.l 22 (.q 23 (.q 24 (.l 26 (.e))))))))) (.l 10 (.q 11 (.l 16 (.q 17 (.l 22 (.q 23 (.q 24 (.l 26 (.e))))))))))) (.l 4 (.q 5 (.l 10 (.q 11 (.l 16 (.q 17 (.l 22 (.q 23 (.q 24 (.l 26 (.e)))))))))))))))))))))))))))) S (fun(b5:Nat) uu=>[(5,.pointer (some ⟨b5,0,none⟩)),(4,uu 10),(0,uu 11),(0,uu 12),(0,uu 13),(0,uu 14),(0,uu 15),(0,uu 16),(0,uu 17),(0,uu 18),(0,uu 19),(0,uu 20),(0,uu 21),(0,uu 22),(0,uu 23),(0,uu 24),(0,uu 25),(0,uu 26),(0,uu 27),(0,uu 28),(0,uu 29),(0,uu 30),(0,uu 31),(0,uu 32),(0,uu 33),(0,uu 34)]) [Wk.box b4 207 [.pointer (some ⟨b9,0,none⟩)],Wk.box b9 209 [.pointer (some ⟨rd,0,none⟩),.bool false]] (fun(b5:Nat)=>[mmX b5 ⟨na,nb,nc,nd,none,0,[],none,0,[],none,0,[]⟩,Wk.box b4 207 [.pointer (some ⟨b9,0,none⟩)],mrX b9 rd false,rdI rd re,Wk.box b2 67 [.int .i64 0,.int .i64 0,.int .i64 0,.int .i64 0,.slice none 0 0,.slice none 0 0,.slice none 0 0],ext M]) (fun(b5:Nat)=>[GlF re.p re.bs]) (fun(b5:Nat)=>True) ?_ ?_
 ·intro w S
  (iterate 16 (refine tq S ?_;clear S;intro a S))
  refine tb2 ?_ ?_
  ·refine sit (rdI rd r0) S (u8R_c rd r0 _ hc0 hl0 (S.it (rdI rd r0)) (S.lend (rdI rd r0) (S.mem.fact (GlF r0.p r0.bs)))) rfl ?_;clear S;rintro _ a w ⟨rfl,hh⟩ hS
   have S:=hS (rdI rd (takeR r0 1)) hh (fun k h=>.inl h)
   clear hS
   rw[←hna]at S
   replace S:=S.add (Φ:=GlF (takeR r0 1).p (takeR r0 1).bs) (takeR_gl hc0 (S.mem.fact (GlF r0.p r0.bs)))
   rw[←hra]at S
   refine te S ?_;refine tq S ?_;clear S;intro a S
   rw[w64 (na:Int) (by omega) (by omega)]at S
   refine tb2 ?_ ?_
   ·refine sit (rdI rd ra) S (u16R_c rd ra _ hca (by omega) (S.it (rdI rd ra)) (S.lend (rdI rd ra) (S.mem.fact (GlF ra.p ra.bs)))) rfl ?_;clear S;rintro _ a w ⟨rfl,hh⟩ hS
    have S:=hS (rdI rd (takeR ra 2)) hh (fun k h=>.inl h)
    clear hS
    rw[←hnb]at S
    replace S:=S.add (Φ:=GlF (takeR ra 2).p (takeR ra 2).bs) (takeR_gl hca (S.mem.fact (GlF ra.p ra.bs)))
    rw[←hrb]at S
    refine te S ?_;refine tq S ?_;clear S;intro a S
    rw[w64 (nb:Int) (by omega) (by omega)]at S
    refine tb2 ?_ ?_
    ·refine sit (rdI rd rb) S (u16R_c rd rb _ hcb (by omega) (S.it (rdI rd rb)) (S.lend (rdI rd rb) (S.mem.fact (GlF rb.p rb.bs)))) rfl ?_;clear S;rintro _ a w ⟨rfl,hh⟩ hS
     have S:=hS (rdI rd (takeR rb 2)) hh (fun k h=>.inl h)
     clear hS
     rw[←hnc]at S
     replace S:=S.add (Φ:=GlF (takeR rb 2).p (takeR rb 2).bs) (takeR_gl hcb (S.mem.fact (GlF rb.p rb.bs)))
     rw[←hrc]at S
     refine te S ?_;refine tq S ?_;clear S;intro a S
     rw[w64 (nc:Int) (by omega) (by omega)]at S
     refine tb2 ?_ ?_
     ·refine sit (rdI rd rc) S (u16R_c rd rc _ hcc (by omega) (S.it (rdI rd rc)) (S.lend (rdI rd rc) (S.mem.fact (GlF rc.p rc.bs)))) rfl ?_;clear S;rintro _ a w ⟨rfl,hh⟩ hS
      have S:=hS (rdI rd (takeR rc 2)) hh (fun k h=>.inl h)
      clear hS
      rw[←hnd]at S
      replace S:=S.add (Φ:=GlF (takeR rc 2).p (takeR rc 2).bs) (takeR_gl hcc (S.mem.fact (GlF rc.p rc.bs)))
      rw[←hre]at S
      refine te S ?_;refine tq S ?_;clear S;intro a S
      rw[w64 (nd:Int) (by omega) (by omega)]at S
      refine tq S ?_;clear S;intro a S;refine tl (sa S ?_);clear S;intro b5 a w S;refine te S ?_;refine tl (sw S ?_);clear S;intro a w S;refine te S ?_;refine tn ?_
      exact ⟨b5,S.uu,trivial,S.sub _ _⟩
     ·refine sa S ?_;clear S;intro b5 a w S;refine te S ?_;refine tl ?_
      refine sit (rdI rd rc) S (u16R_c rd rc _ hcc (by omega) (S.it (rdI rd rc)) (S.lend (rdI rd rc) (S.mem.fact (GlF rc.p rc.bs)))) rfl ?_;clear S;rintro _ a w ⟨rfl,hh⟩ hS
      have S:=hS (rdI rd (takeR rc 2)) hh (fun k h=>.inl h)
      clear hS
      rw[←hnd]at S
      replace S:=S.add (Φ:=GlF (takeR rc 2).p (takeR rc 2).bs) (takeR_gl hcc (S.mem.fact (GlF rc.p rc.bs)))
      rw[←hre]at S
      refine te S ?_;refine tq S ?_;clear S;intro a S
      rw[w64 (nd:Int) (by omega) (by omega)]at S
      refine tq S ?_;clear S;intro a S;refine tl (sw S ?_);clear S;intro a w S;refine te S ?_;refine tn ?_
      exact ⟨b5,S.uu,trivial,S.sub _ _⟩
    ·refine sa S ?_;clear S;intro b5 a w S;refine te S ?_;refine tl ?_
     refine sit (rdI rd rb) S (u16R_c rd rb _ hcb (by omega) (S.it (rdI rd rb)) (S.lend (rdI rd rb) (S.mem.fact (GlF rb.p rb.bs)))) rfl ?_;clear S;rintro _ a w ⟨rfl,hh⟩ hS
     have S:=hS (rdI rd (takeR rb 2)) hh (fun k h=>.inl h)
     clear hS
     rw[←hnc]at S
     replace S:=S.add (Φ:=GlF (takeR rb 2).p (takeR rb 2).bs) (takeR_gl hcb (S.mem.fact (GlF rb.p rb.bs)))
     rw[←hrc]at S
     refine te S ?_;refine tq S ?_;clear S;intro a S
     rw[w64 (nc:Int) (by omega) (by omega)]at S
     refine tl ?_
     refine sit (rdI rd rc) S (u16R_c rd rc _ hcc (by omega) (S.it (rdI rd rc)) (S.lend (rdI rd rc) (S.mem.fact (GlF rc.p rc.bs)))) rfl ?_;clear S;rintro _ a w ⟨rfl,hh⟩ hS
     have S:=hS (rdI rd (takeR rc 2)) hh (fun k h=>.inl h)
     clear hS
     rw[←hnd]at S
     replace S:=S.add (Φ:=GlF (takeR rc 2).p (takeR rc 2).bs) (takeR_gl hcc (S.mem.fact (GlF rc.p rc.bs)))
     rw[←hre]at S
     refine te S ?_;refine tq S ?_;clear S;intro a S
     rw[w64 (nd:Int) (by omega) (by omega)]at S
     refine tq S ?_;clear S;intro a S;refine tl (sw S ?_);clear S;intro a w S;refine te S ?_;refine tn ?_
     exact ⟨b5,S.uu,trivial,S.sub _ _⟩
   ·refine sa S ?_;clear S;intro b5 a w S;refine te S ?_;refine tl ?_
    refine sit (rdI rd ra) S (u16R_c rd ra _ hca (by omega) (S.it (rdI rd ra)) (S.lend (rdI rd ra) (S.mem.fact (GlF ra.p ra.bs)))) rfl ?_;clear S;rintro _ a w ⟨rfl,hh⟩ hS
    have S:=hS (rdI rd (takeR ra 2)) hh (fun k h=>.inl h)
    clear hS
    rw[←hnb]at S
    replace S:=S.add (Φ:=GlF (takeR ra 2).p (takeR ra 2).bs) (takeR_gl hca (S.mem.fact (GlF ra.p ra.bs)))
    rw[←hrb]at S
    refine te S ?_;refine tq S ?_;clear S;intro a S
    rw[w64 (nb:Int) (by omega) (by omega)]at S
    refine tl ?_
    refine sit (rdI rd rb) S (u16R_c rd rb _ hcb (by omega) (S.it (rdI rd rb)) (S.lend (rdI rd rb) (S.mem.fact (GlF rb.p rb.bs)))) rfl ?_;clear S;rintro _ a w ⟨rfl,hh⟩ hS
    have S:=hS (rdI rd (takeR rb 2)) hh (fun k h=>.inl h)
    clear hS
    rw[←hnc]at S
    replace S:=S.add (Φ:=GlF (takeR rb 2).p (takeR rb 2).bs) (takeR_gl hcb (S.mem.fact (GlF rb.p rb.bs)))
    rw[←hrc]at S
    refine te S ?_;refine tq S ?_;clear S;intro a S
    rw[w64 (nc:Int) (by omega) (by omega)]at S
    refine tl ?_
    refine sit (rdI rd rc) S (u16R_c rd rc _ hcc (by omega) (S.it (rdI rd rc)) (S.lend (rdI rd rc) (S.mem.fact (GlF rc.p rc.bs)))) rfl ?_;clear S;rintro _ a w ⟨rfl,hh⟩ hS
    have S:=hS (rdI rd (takeR rc 2)) hh (fun k h=>.inl h)
    clear hS
    rw[←hnd]at S
    replace S:=S.add (Φ:=GlF (takeR rc 2).p (takeR rc 2).bs) (takeR_gl hcc (S.mem.fact (GlF rc.p rc.bs)))
    rw[←hre]at S
    refine te S ?_;refine tq S ?_;clear S;intro a S
    rw[w64 (nd:Int) (by omega) (by omega)]at S
    refine tq S ?_;clear S;intro a S;refine tl (sw S ?_);clear S;intro a w S;refine te S ?_;refine tn ?_
    exact ⟨b5,S.uu,trivial,S.sub _ _⟩
  ·refine sa S ?_;clear S;intro b5 a w S;refine te S ?_;refine tl ?_
   refine sit (rdI rd r0) S (u8R_c rd r0 _ hc0 hl0 (S.it (rdI rd r0)) (S.lend (rdI rd r0) (S.mem.fact (GlF r0.p r0.bs)))) rfl ?_;clear S;rintro _ a w ⟨rfl,hh⟩ hS
   have S:=hS (rdI rd (takeR r0 1)) hh (fun k h=>.inl h)
   clear hS
   rw[←hna]at S
   replace S:=S.add (Φ:=GlF (takeR r0 1).p (takeR r0 1).bs) (takeR_gl hc0 (S.mem.fact (GlF r0.p r0.bs)))
   rw[←hra]at S
   refine te S ?_;refine tq S ?_;clear S;intro a S
   rw[w64 (na:Int) (by omega) (by omega)]at S
   refine tl ?_
   refine sit (rdI rd ra) S (u16R_c rd ra _ hca (by omega) (S.it (rdI rd ra)) (S.lend (rdI rd ra) (S.mem.fact (GlF ra.p ra.bs)))) rfl ?_;clear S;rintro _ a w ⟨rfl,hh⟩ hS
   have S:=hS (rdI rd (takeR ra 2)) hh (fun k h=>.inl h)
   clear hS
   rw[←hnb]at S
   replace S:=S.add (Φ:=GlF (takeR ra 2).p (takeR ra 2).bs) (takeR_gl hca (S.mem.fact (GlF ra.p ra.bs)))
   rw[←hrb]at S
   refine te S ?_;refine tq S ?_;clear S;intro a S
   rw[w64 (nb:Int) (by omega) (by omega)]at S
   refine tl ?_
   refine sit (rdI rd rb) S (u16R_c rd rb _ hcb (by omega) (S.it (rdI rd rb)) (S.lend (rdI rd rb) (S.mem.fact (GlF rb.p rb.bs)))) rfl ?_;clear S;rintro _ a w ⟨rfl,hh⟩ hS
   have S:=hS (rdI rd (takeR rb 2)) hh (fun k h=>.inl h)
   clear hS
   rw[←hnc]at S
   replace S:=S.add (Φ:=GlF (takeR rb 2).p (takeR rb 2).bs) (takeR_gl hcb (S.mem.fact (GlF rb.p rb.bs)))
   rw[←hrc]at S
   refine te S ?_;refine tq S ?_;clear S;intro a S
   rw[w64 (nc:Int) (by omega) (by omega)]at S
   refine tl ?_
   refine sit (rdI rd rc) S (u16R_c rd rc _ hcc (by omega) (S.it (rdI rd rc)) (S.lend (rdI rd rc) (S.mem.fact (GlF rc.p rc.bs)))) rfl ?_;clear S;rintro _ a w ⟨rfl,hh⟩ hS
   have S:=hS (rdI rd (takeR rc 2)) hh (fun k h=>.inl h)
   clear hS
   rw[←hnd]at S
   replace S:=S.add (Φ:=GlF (takeR rc 2).p (takeR rc 2).bs) (takeR_gl hcc (S.mem.fact (GlF rc.p rc.bs)))
   rw[←hre]at S
   refine te S ?_;refine tq S ?_;clear S;intro a S
   rw[w64 (nd:Int) (by omega) (by omega)]at S
   refine tq S ?_;clear S;intro a S;refine tl (sw S ?_);clear S;intro a w S;refine te S ?_;refine tn ?_
   exact ⟨b5,S.uu,trivial,S.sub _ _⟩
 clear S;rintro b5 uu a w - S;refine xtn (kS ?_)
 replace S:=S.boxToF b4
 replace S:=((S.addNil 179 7).addNil 177 2).addNil 175 2
 obtain ⟨m0,hm0⟩:∃ m0:LMem,m0=⟨na,nb,nc,nd,none,0,[],none,0,[],none,0,[]⟩:=⟨_,rfl⟩
 rw[show Wk.row 175 2 none 0 0 []=rwS m0 from by rw[hm0];rfl,show Wk.row 177 2 none 0 0 []=rwV m0 from by rw[hm0];rfl,show Wk.row 179 7 none 0 0 []=rwE m0 from by rw[hm0];rfl,←hm0]at S
 have hm0u:m0.user=(na:Int)∧m0.leaf=(nb:Int)∧m0.counter=(nc:Int)∧m0.num=(nd:Int)∧m0.seeds=[]∧m0.vers=[]∧m0.seen=[]:=by rw[hm0];exact ⟨rfl,rfl,rfl,rfl,rfl,rfl,rfl⟩
 clear hm0
 replace S:=(((((S.front (mmX b5 m0)).front (rwS m0)).front (rwV m0)).front (rwE m0)).front (rdI rd re)).front (mrX b9 rd false)
 replace S:=St.dmClose S
 replace S:=S.add (Φ:=AllI m0.seen) (fun _ _ x hx=>by rw[hm0u.2.2.2.2.2.2]at hx;cases hx)
 obtain ⟨N1,hN1⟩:∃ N1,N1=numN (tookR re 1) 0:=⟨_,rfl⟩
 have hN1l:N1 < 256:=by rw[hN1];exact (took_num re 1 (by decide)).2
 obtain ⟨z1,z2⟩:=tk_ab re 1
 have y5:c1D bs=(tookR re 1,(takeR re 1).ab):=by rw[c1D,y4,z1,z2]
 have hL0:LeftS N1 (takeR re 1).ab na nb nc nd N1 m0 false (takeR re 1):=⟨rfl,⟨hm0u.1,hm0u.2.1,hm0u.2.2.1,hm0u.2.2.2.1,hm0u.2.2.2.2.2.1,hm0u.2.2.2.2.2.2⟩,by rw[hm0u.2.2.2.2.1];rfl,by rw[hm0u.2.2.2.2.1];simp;omega,by rw[hm0u.2.2.2.2.1];nofun⟩
 refine kR ?_;(iterate 2 (refine sq S ?_;clear S;intro a S))
 refine sitM (dmI b5 b9 rd m0 false re) S (meach_c 138 b5 b4 b9 rd (LeftS N1 (takeR re 1).ab na nb nc nd) (fun m wr r m' wr' r'=>wr'=wr∧r'.ab=(markD r.ab).2∧m'.m = { m.m with seeds:=m.seeds++[(markD r.ab).1] }) (fun k m wr r m' wr' r' h hw ⟨h1,h2,h3⟩=>h.next hw h1 h2 h3 (markD_key r)) (fun k m wr r Mr w0 hR hc hl hMr hd h4 hx hs=>mdec1_c b5 b4 b9 rd m wr r Mr w0 hc hl (by have:=hR.few;omega) hMr hd h4 hx hs) m0 false re (restOf _ (dmI b5 b9 rd m0 false re)) _ (by rw[←hN1];exact hL0) hce (by omega) (S.restOk _) (S.it (dmI b5 b9 rd m0 false re)) ((S.mem.fact (BoxF b4 207 [.pointer (some ⟨b9,0,none⟩)])).split (dmI b5 b9 rd m0 false re)) ((S.mem.fact (GlF re.p re.bs)).split (dmI b5 b9 rd m0 false re)) ((S.mem.fact (AllI m0.seen)).split (dmI b5 b9 rd m0 false re))) rfl ?_;clear S;rintro _ a w ⟨rfl,m1,wr1,r1,⟨k1,hR1,hk1⟩,hsb1,hh,hf,hall⟩ hS
 have S:=hS (dmI b5 b9 rd m1 wr1 r1) [AllI m1.seen] hh hf (by intro Φ hΦ;obtain rfl:=List.mem_singleton.1 hΦ;exact hall)
 clear hS
 replace S:=S.add (Φ:=GlF r1.p r1.bs) ((S.mem.fact (GlF re.p re.bs)).imp fun _ h=>hsb1.gl hce _ h)
 have hcr1:=hsb1.cap hce
 have hlr1:=hsb1.len
 obtain rfl:=hR1.wr
 have y6:s1D bs=(m1.seeds,r1.ab):=by rw[s1D,y5,←hN1,hR1.rel,marksD_end hk1];simp
 obtain ⟨N2,hN2⟩:∃ N2,N2=numN (tookR r1 1) 0:=⟨_,rfl⟩
 have hN2l:N2 < 256:=by rw[hN2];exact (took_num r1 1 (by decide)).2
 obtain ⟨z3,z4⟩:=tk_ab r1 1
 have y7:c2D bs=(tookR r1 1,(takeR r1 1).ab):=by rw[c2D,y6,z3,z4]
 have hf1:=hR1.flat
 have hL1:LeftV N2 (takeR r1 1).ab na nb nc nd m1.seeds N2 m1 false (takeR r1 1):=⟨rfl,⟨hf1.1,hf1.2.1,hf1.2.2.1,hf1.2.2.2.1,rfl,hf1.2.2.2.2.2⟩,by rw[hf1.2.2.2.2.1];rfl,by rw[hf1.2.2.2.2.1];simp;omega,by rw[hf1.2.2.2.2.1];nofun⟩
 refine kN (xtn (kS (kR ?_)));(iterate 2 (refine sq S ?_;clear S;intro a S))
 refine sitM (dmI b5 b9 rd m1 false r1) S (meach_c 140 b5 b4 b9 rd (LeftV N2 (takeR r1 1).ab na nb nc nd m1.seeds) (fun m wr r m' wr' r'=>wr'=wr∧r'.ab=(markD r.ab).2∧m'.m = { m.m with vers:=m.vers++[(markD r.ab).1] }) (fun k m wr r m' wr' r' h hw ⟨h1,h2,h3⟩=>h.next hw h1 h2 h3 (markD_key r)) (fun k m wr r Mr w0 hR hc hl hMr hd h4 hx hs=>mdec2_c b5 b4 b9 rd m wr r Mr w0 hc hl (by have:=hR.few;omega) hMr hd h4 hx hs) m1 false r1 (restOf _ (dmI b5 b9 rd m1 false r1)) _ (by rw[←hN2];exact hL1) hcr1 (by omega) (S.restOk _) (S.it (dmI b5 b9 rd m1 false r1)) ((S.mem.fact (BoxF b4 207 [.pointer (some ⟨b9,0,none⟩)])).split (dmI b5 b9 rd m1 false r1)) ((S.mem.fact (GlF r1.p r1.bs)).split (dmI b5 b9 rd m1 false r1)) ((S.mem.fact (AllI m1.seen)).split (dmI b5 b9 rd m1 false r1))) rfl ?_;clear S;rintro _ a w ⟨rfl,m2,wr2,r2,⟨k2,hR2,hk2⟩,hsb2,hh,hf,hall⟩ hS
 have S:=hS (dmI b5 b9 rd m2 wr2 r2) [AllI m2.seen] hh hf (by intro Φ hΦ;obtain rfl:=List.mem_singleton.1 hΦ;exact hall)
 clear hS
 replace S:=S.add (Φ:=GlF r2.p r2.bs) ((S.mem.fact (GlF r1.p r1.bs)).imp fun _ h=>hsb2.gl hcr1 _ h)
 have hcr2:=hsb2.cap hcr1
 have hlr2:=hsb2.len
 obtain rfl:=hR2.wr
 have y8:s2D bs=(m2.vers,r2.ab):=by rw[s2D,y7,←hN2,hR2.rel,marksD_end hk2];simp
 obtain ⟨N3,hN3⟩:∃ N3,N3=numN (tookR r2 1) 0:=⟨_,rfl⟩
 have hN3l:N3 < 256:=by rw[hN3];exact (took_num r2 1 (by decide)).2
 obtain ⟨z5,z6⟩:=tk_ab r2 1
 have y9:c3D bs=(tookR r2 1,(takeR r2 1).ab):=by rw[c3D,y8,z5,z6]
 have hf2:=hR2.flat
 have hL2:LeftE N3 (takeR r2 1).ab na nb nc nd m1.seeds m2.vers N3 m2 false (takeR r2 1):=⟨⟨hf2.1,hf2.2.1,hf2.2.2.1,hf2.2.2.2.1,hf2.2.2.2.2.1,rfl⟩,by rw[hf2.2.2.2.2.2];simp[ssP],by rw[hf2.2.2.2.2.2];simp;omega⟩
 refine kN (xtn (kS (kR ?_)));(iterate 2 (refine sq S ?_;clear S;intro a S))
 refine sitM (dmI b5 b9 rd m2 false r2) S (meach_c 141 b5 b4 b9 rd (LeftE N3 (takeR r2 1).ab na nb nc nd m1.seeds m2.vers) (fun m wr r m' wr' r'=>wr'=(wr||!(seenD r.ab).2.1)∧r'.ab=(seenD r.ab).2.2∧m'.m = { m.m with seen:=ssP m.seen++[(seenD r.ab).1] }) (fun k m wr r m' wr' r' h hw ⟨h1,h2,h3⟩=>h.next hw h1 h2 h3) (fun k m wr r Mr w0 hR hc hl hMr hd h4 hx hs=>mdec3_c b5 b4 b9 rd m wr r Mr w0 hc hl (by have:=hR.few;omega) hMr hd h4 hx hs) m2 false r2 (restOf _ (dmI b5 b9 rd m2 false r2)) _ (by rw[←hN3];exact hL2) hcr2 (by omega) (S.restOk _) (S.it (dmI b5 b9 rd m2 false r2)) ((S.mem.fact (BoxF b4 207 [.pointer (some ⟨b9,0,none⟩)])).split (dmI b5 b9 rd m2 false r2)) ((S.mem.fact (GlF r2.p r2.bs)).split (dmI b5 b9 rd m2 false r2)) ((S.mem.fact (AllI m2.seen)).split (dmI b5 b9 rd m2 false r2))) rfl ?_;clear S;rintro _ a w ⟨rfl,m3,wr3,r3,⟨k3,hR3,hk3⟩,hsb3,hh,hf,hall⟩ hS
 have S:=hS (dmI b5 b9 rd m3 wr3 r3) [AllI m3.seen] hh hf (by intro Φ hΦ;obtain rfl:=List.mem_singleton.1 hΦ;exact hall)
 clear hS
 replace S:=S.add (Φ:=GlF r3.p r3.bs) ((S.mem.fact (GlF r2.p r2.bs)).imp fun _ h=>hsb3.gl hcr2 _ h)
 have hcr3:=hsb3.cap hcr2
 have hlr3:=hsb3.len
 have y10:s3D bs=(ssP m3.seen,!wr3,r3.ab):=by rw[s3D,y9,←hN3,hR3.rel,seensD_end hk3];simp
 have hf3:=hR3.flat
 have hmem:memD bs=m3.m:=by
  rw[memD,y1,y2,y3,y4,y6,y8,y10,LMem.m,←hna,←hnb,←hnc,←hnd,hf3.1,hf3.2.1,hf3.2.2.1,hf3.2.2.2.1,hf3.2.2.2.2.1,hf3.2.2.2.2.2]
 have hfit:FitM m3:=⟨by rw[hf3.2.2.2.2.1];have:=hR1.few;omega,by rw[hf3.2.2.2.2.2];have:=hR2.few;omega,by have:=hR3.few;omega,by rw[hf3.2.2.2.2.1];intro x hx;have:=hR1.names x hx;omega,by rw[hf3.2.2.2.2.2];intro x hx;have:=hR2.names x hx;omega⟩
 have hMF:MemFit m3:=⟨hfit⟩
 have hdec:decM bs=if r3.why≠0 then (zeroM,7) else if wr3=true∨0 < r3.bs.length∨memB m3.m=false then (zeroM,300) else (m3.m,0):=by
  rw[decM,y10,hmem]
  simp only[RS.ab_why,Bool.not_eq_false']
  rfl
 replace S:=St.dmOpen S
 replace S:=S.front (rwE m3)
 replace S:=S.rowToGl m3.ep m3.seen (e:=179) (sz:=7) (n:=m3.seen.length) (c:=m3.ec) (S.wd.facts (AllI m3.seen) (by simp))
 replace S:=(S.front (rwV m3)).rowToGl m3.vp m3.vers (e:=177) (sz:=2) (n:=m3.vers.length) (c:=m3.vc) (fun _ _ _ _=>trivial)
 replace S:=(S.front (rwS m3)).rowToGl m3.sp m3.seeds (e:=175) (sz:=2) (n:=m3.seeds.length) (c:=m3.sc) (fun _ _ _ _=>trivial)
 replace S:=S.boxToF rd
 replace S:=S.add (Φ:=MemF m3) (fun w' h=>⟨S.mem.fact (GlF m3.sp m3.seeds) w' h,S.mem.fact (GlF m3.vp m3.vers) w' h,S.mem.fact (GlF m3.ep m3.seen) w' h⟩)
 refine kN (xtn (kS (kS (kR ?_))));(iterate 4 (refine sq S ?_;clear S;intro a S))
 refine sr S (errR_c rd r3 _ ((S.mem.fact (BoxF rd 238 (cRS r3))).less fun _ _ h=>h.elim)) ?_;clear S;rintro _ a w rfl S
 refine sq S ?_;clear S;intro a S;refine kN (xtn ?_)
 refine kC S (fun h6=>?_) (fun h6=>?_)
 ·refine kS (kR (sq S ?_));clear S;intro a S;refine sw S ?_;clear S;intro a w S;refine sq S ?_;clear S;intro a S;refine kN (xtn (kT (xtr ?_)))
  have hw:r3.why≠0:=by simpa using h6
  rw[if_pos hw]at hdec
  exact end2 S (fun _=>⟨_,by rw[hdec],by rw[hdec];exact zeroM_is M _⟩)
 ·refine kK (xtn (kS (kS (kR ?_))));(iterate 5 (refine sq S ?_;clear S;intro a S));(iterate 4 (refine gQ S ?_;clear S;intro a S));refine gC S ?_;clear S;intro a w S;refine gQ S ?_;clear S;intro a S;(iterate 2 (refine sq S ?_;clear S;intro a S));refine gQ S ?_;clear S;intro a S;refine gC S ?_;clear S;intro a w S;refine gQ S ?_;clear S;intro a S;refine sq S ?_;clear S;intro a S;refine kN (xtn ?_)
  refine kC S (fun h8=>?_) (fun h8=>?_)
  ·refine kS (kR (sq S ?_));clear S;intro a S;refine sw S ?_;clear S;intro a w S;refine sq S ?_;clear S;intro a S;refine kN (xtn (kT (xtr ?_)))
   have hw:r3.why=0:=by simpa using h6
   rw[if_neg (fun h=>h hw),if_pos (by
    simp only[Bool.or_eq_true,decide_eq_true_eq,Bool.not_eq_true',decide_eq_false_iff_not]at h8
    rcases h8 with (h | h) | h
    ·exact .inl h
    ·exact .inr (.inl (by omega))
    ·refine .inr (.inr ?_)
     cases hb:memB m3.m with
     | false=>rfl
     | true=>rw[mchkF,hb]at h;exact absurd rfl h)]at hdec
   exact end2 S (fun _=>⟨_,by rw[hdec],by rw[hdec];exact zeroM_is M _⟩)
  ·refine kK (xtn (kS (kR (sq S ?_))));clear S;intro a S;refine sw S ?_;clear S;intro a w S;refine sq S ?_;clear S;intro a S;refine kN (xtn (kT ?_))
   have hw:r3.why=0:=by simpa using h6
   rw[if_neg (fun h=>h hw),if_neg (by
    simp only[Bool.or_eq_false_iff,decide_eq_false_iff_not,Bool.not_eq_false',decide_eq_true_eq]at h8
    rintro (h | h | h)
    ·rw[h]at h8;exact absurd h8.1.1 (by simp)
    ·omega
    ·rw[mchkF,h]at h8;exact absurd h8.2 (by decide))]at hdec
   have hmf:=S.laterFact (M:=M) (Φ:=MemF m3) (by simp)
   refine end2 S (fun _=>⟨vMem m3,by rw[hdec],?_⟩)
   rw[hdec]
   exact ⟨m3,rfl,rfl,hfit,hmf⟩
def fitsM (V:LV) (bs:List UInt8):Bool:=decide (bs.length≤40000)&&decide (secF (bs.length:Int)≤(V.n:Int) - V.fin)
def mputR (V:LV) (bs:List UInt8):LV × Int:=if fitsM V bs then appV V bs else chkV V bs
def saveM (V:LV) (now m:PMem):LV × PMem × Int:=
 if V.broken then (V,now,8) else
 if memB m=false then (V,now,300) else
 if coversB now m=false then (V,now,301) else
 if encM now=encM m then (V,now,0) else
 ((mputR V (encM m)).1,if (mputR V (encM m)).2=0 then m else now,(mputR V (encM m)).2)
theorem marksE_small:∀ l:List LMark,(∀ x∈l,MarkOk x)→(marksE l).length≤258*l.length
 | [],_=>by simp[marksE]
 | m::l,h=>by
  have h1:=(h m (.head _)).key
  have h2:=marksE_small l fun x hx=>h x (.tail _ hx)
  simp only[marksE,markE,List.length_append,qqA,twoB_len];omega
theorem encM_small {m:PMem} (h:memB m=true):(encM m).length≤1000000:=by
 have ok:=memB_ok h
 have h1:=marksE_small m.seeds ok.seeds.2
 have h2:=marksE_small m.vers ok.vers.2
 have h3:=seensE_len m.seen
 have h4:=ok.seeds.1
 have h5:=ok.vers.1
 have h6:=ok.seen.1
 rw[encM,tailE1,tailE2,tailE3]
 simp only[List.length_append,qqA,twosB_len,qqB];omega
class WfAt (L:LG):Prop where
 wf:∃ k,L.v.Wf k
class LgAt (bs:List Wk.Item) (g:Nat) (b:outParam Nat) (L:outParam LG):Prop where mem:lgI b g L∈bs
instance lgat0 {g b:Nat} {L:LG} {bs:List Wk.Item} : LgAt (lgI b g L::bs) g b L:=⟨List.mem_cons_self ..⟩
instance (priority:=900) lgat1 {g b:Nat} {L:LG} {x:Wk.Item} {bs:List Wk.Item} [h:LgAt bs g b L]:LgAt (x::bs) g b L:=⟨List.mem_cons_of_mem _ h.mem⟩
instance sectorsI {n:Int} {bs fs} : CallV Tryz.prog 78 [.int .i64 n] bs fs (.int .i64 (secF n)):=⟨fun w _=>sectors_c n w⟩
instance leftVI {g b:Nat} {L:LG} {bs fs} [h:LgAt bs g b L] [hw:WfAt L]:CallV Tryz.prog 100 [.pointer (some ⟨g,0,none⟩)] bs fs (.int .i64 ((L.v.n:Int) - L.v.fin)):=⟨fun w m=>by
 obtain ⟨k,hk⟩:=hw.wf
 exact left_v b g L k hk w (m.held _ h.mem)⟩
abbrev msX (h g:Nat) (x:LMem):Wk.Item:=Wk.box h 214 [.pointer (some ⟨g,0,none⟩),.int .i64 x.user,.int .i64 x.leaf,.int .i64 x.counter,.int .i64 x.num,.slice x.sp x.seeds.length x.sc,.slice x.vp x.vers.length x.vc,.slice x.ep x.seen.length x.ec]
abbrev msI (h b g:Nat) (L:LG) (x:LMem):Wk.Item:=both (msX h g x) (lgI b g L)
structure StOk (L:LG) (x:LMem) (k:Nat):Prop where
 wf:L.v.Wf k
 fit:FitM x
 ok:memB x.m=true
def SaveR (Mr:Nat→Prop) (h b g:Nat) (L:LG) (x:LMem) (m:PMem) (v:Value) (w0 w:World):Prop:=∃ L' x',v=.int .i64 (saveM L.v x.m m).2.2∧(msI h b g L' x').holds w∧(∀ k,(msI h b g L' x').foot k→(msI h b g L x).foot k∨w0.heap.size≤k)∧L'.m=L.m∧L'.v=(saveM L.v x.m m).1∧x'.m=(saveM L.v x.m m).2.1∧FitM x'∧memB x'.m=true∧Stable (fun k=>(msI h b g L' x').foot k∨Mr k) w (MemF x')
set_option maxHeartbeats 2000000 in
theorem msave_c (h b g:Nat) (L:LG) (x:LMem) (k:Nat) (hst:StOk L x k) (hk:k≤970000) (m:LMem) (hfit:FitM m) (Mr:Nat→Prop) (w0:World) (hMr:∀ k,Mr k→k < w0.heap.size∧¬(msI h b g L x).foot k) (hd:(msI h b g L x).holds w0) (fx:Stable (fun k=>(msI h b g L x).foot k∨Mr k) w0 (MemF x)) (fm:Stable (fun k=>(msI h b g L x).foot k∨Mr k) w0 (MemF m)) :
  Ret Tryz.prog 50 [.pointer (some ⟨h,0,none⟩),vMem m] w0 (msI h b g L x).foot fun v w'=>SaveR Mr h b g L x m.m v w0 w':=by
 obtain ⟨hwf,hfx,hokx⟩:=hst
 have hn1:=hwf.n
 have hn2:=hwf.fin
 refine enter Tryz.func50 rfl rfl (Wd.it2LentM (x:=msX h g x) (y:=lgI b g L) (Mr:=Mr) (fs:=[MemF x,MemF m]) hd rfl rfl hMr (by simp;exact ⟨fx,fm⟩)) (fun a S=>?_)
 simp only[Tryz.ntmps50,qqA,qqB,Nat.reduceAdd,Nat.reduceSub,qqC,qqD,qqE,qqF]at S
 refine kS (kR ?_);refine sa S ?_;clear S;intro b3 a w S;refine sq S ?_;clear S;intro a S;refine kN (xtn (kS (kS (kR ?_))));(iterate 2 (refine sq S ?_;clear S;intro a S));refine kN (xtn ?_);refine c_condF S ?_;refine kK (xtn (kS (kR (sq S ?_))));clear S;intro a S
 refine srn S (mencode_q m hfit _ ((S.mem.fact (MemF m)).less fun _ _ h=>h.elim)) ?_;clear S;rintro _ a w ⟨p3,c3,rfl,hown,hnew⟩ hS -
 have S:=hS hown hnew
 clear hS
 obtain ⟨B,hB⟩:∃ B,B=encMQ m.m:=⟨_,rfl⟩
 rw[←hB]at S
 have hBl:B.length≤100000000:=by
  rw[hB,encMQ];split
  exact encM_len hfit
  simp
 replace S:=(S.front (Wk.row 5 1 p3 B.length c3 (encL B))).rowToGl p3 B (e:=5) (sz:=1) (n:=B.length) (c:=c3) (fun _ _ _ _=>trivial)
 (iterate 5 (refine sq S ?_;clear S;intro a S));refine kN (xtn (kS (kB (kS (kR ?_)))));(iterate 4 (refine sq S ?_;clear S;intro a S));refine sr S (broken_v b g L _ (S.it (lgI b g L))) ?_;clear S;rintro _ a w rfl S;refine sq S ?_;clear S;intro a S;refine kN (xtn ?_)
 refine kC S (fun h4=>?_) (fun h4=>?_)
 refine kS (kR (sq S ?_));clear S;intro a S;refine kN (xtn (kT (xbr (xtr ?_))))
 have hv:saveM L.v x.m m.m=(L.v,x.m,8):=by rw[saveM,if_pos h4]
 replace S:=((S.front (lgI b g L)).front (msX h g x)).toBoth
 have hh:=S.it (msI h b g L x)
 have hnw:=S.itNew (msI h b g L x) rfl
 have hst:Stable (fun k=>(msI h b g L x).foot k∨Mr k) _ (MemF x):=(S.wd.facts (MemF x) (by simp)).less fun k _ hk=>hk.elim (fun h1=>⟨msI h b g L x,by simp,h1⟩) (fun h1=>⟨ext Mr,by simp,h1⟩)
 exact end1 S (fun _=>⟨L,x,by rw[hv],hh,hnw,rfl,by rw[hv],by rw[hv],hfx,hokx,hst⟩)
 refine kS ?_
 have hbr:¬L.v.broken=true:=by simpa using h4
 refine kR ?_;(iterate 2 (refine sq S ?_;clear S;intro a S))
 rw[mchk_dec]at S
 refine sq S ?_;clear S;intro a S;refine kN (xtn ?_)
 refine kC S (fun h6=>?_) (fun h6=>?_)
 refine kS (kR ?_);(iterate 2 (refine sq S ?_;clear S;intro a S));refine kN (xtn (kT (xbr (xtr ?_))))
 have hB6:memB m.m=false:=by simpa using h6
 have hv:saveM L.v x.m m.m=(L.v,x.m,300):=by rw[saveM,if_neg hbr,if_pos hB6]
 have he:mchkF m.m=300:=by rw[mchkF,hB6];rfl
 replace S:=((S.front (lgI b g L)).front (msX h g x)).toBoth
 have hh:=S.it (msI h b g L x)
 have hnw:=S.itNew (msI h b g L x) rfl
 have hst:Stable (fun k=>(msI h b g L x).foot k∨Mr k) _ (MemF x):=(S.wd.facts (MemF x) (by simp)).less fun k _ hk=>hk.elim (fun h1=>⟨msI h b g L x,by simp,h1⟩) (fun h1=>⟨ext Mr,by simp,h1⟩)
 exact end1 S (fun _=>⟨L,x,by rw[hv,he],hh,hnw,rfl,by rw[hv],by rw[hv],hfx,hokx,hst⟩)
 refine kS ?_
 have hok:memB m.m=true:=by simpa using h6
 have hB1:B=encM m.m:=by rw[hB,encMQ,if_pos hok]
 have hBs:B.length≤1000000:=by rw[hB1];exact encM_small hok
 refine c_drawD [(0,true),(1,true),(2,true),(3,true),(4,true),(5,false),(6,true),(7,true)] [] S ?_;clear S;intro w S;(iterate 5 (refine dq S ?_;clear S;intro a S));refine dl ?_
 refine sr S (mcovers_c x m hfx hfit _ ((S.mem.fact (MemF x)).less fun _ _ h=>h.elim) ((S.mem.fact (MemF m)).less fun _ _ h=>h.elim)) ?_;clear S;rintro _ a w rfl S
 refine de S ?_;(iterate 2 (refine dq S ?_;clear S;intro a S));refine dn (xtn ?_)
 refine kC S (fun h8=>?_) (fun h8=>?_)
 refine kS (kR (sq S ?_));clear S;intro a S;refine kN (xtn (kT (xbr (xtr ?_))))
 have hC:coversB x.m m.m=false:=by simpa using h8
 have hv:saveM L.v x.m m.m=(L.v,x.m,301):=by rw[saveM,if_neg hbr,if_neg (by rw[hok];simp),if_pos hC]
 replace S:=((S.front (lgI b g L)).front (msX h g x)).toBoth
 have hh:=S.it (msI h b g L x)
 have hnw:=S.itNew (msI h b g L x) rfl
 have hst:Stable (fun k=>(msI h b g L x).foot k∨Mr k) _ (MemF x):=(S.wd.facts (MemF x) (by simp)).less fun k _ hk=>hk.elim (fun h1=>⟨msI h b g L x,by simp,h1⟩) (fun h1=>⟨ext Mr,by simp,h1⟩)
 exact end1 S (fun _=>⟨L,x,by rw[hv],hh,hnw,rfl,by rw[hv],by rw[hv],hfx,hokx,hst⟩)
 refine kK (xbn (xtn (kS ?_)))
 have hC:¬coversB x.m m.m=false:=by simpa using h8
 refine kR ?_;(iterate 4 (refine sq S ?_;clear S;intro a S))
 refine srn S (mencode_q x hfx _ ((S.mem.fact (MemF x)).less fun _ _ h=>h.elim)) ?_;clear S;rintro _ a w ⟨p7,c7,rfl,hown7,hnew7⟩ hS -
 have S:=hS hown7 hnew7
 clear hS
 rw[show encMQ x.m=encM x.m from by rw[encMQ,if_pos hokx]]at S
 have hXs:(encM x.m).length≤1000000:=encM_small hokx
 replace S:=(S.front (Wk.row 5 1 p7 (encM x.m).length c7 (encL (encM x.m)))).rowToGl p7 (encM x.m) (e:=5) (sz:=1) (n:=(encM x.m).length) (c:=c7) (fun _ _ _ _=>trivial)
 (iterate 5 (refine sq S ?_;clear S;intro a S));refine kN (xtn ?_)
 refine c_mrge2 S (fun(L2:LG) (e:Int) uu=>[(4,uu 4),(1,.int .i64 e),(35,uu 42),(0,uu 43),(0,uu 44),(0,uu 45),(0,uu 46),(0,uu 47),(0,uu 48),(0,uu 49),(0,uu 50),(0,uu 51),(0,uu 52),(0,uu 53),(0,uu 54),(0,uu 55),(0,uu 56),(0,uu 57),(0,uu 58),(0,uu 59),(0,uu 60),(0,uu 61),(0,uu 62),(0,uu 63),(0,uu 64),(0,uu 65),(0,uu 66),(0,uu 67),(0,uu 68),(0,uu 69),(0,uu 70),(0,uu 71),(0,uu 72)]) (fun(L2:LG) (e:Int)=>[lgI b g L2,Wk.box b3 67 (cMem m),msX h g x,ext Mr]) (fun(L2:LG) (e:Int)=>[MemF x,MemF m]) (fun(L2:LG) (e:Int)=>L2.m=L.m∧L2.v=(mputR L.v (encM m.m)).1∧e=(mputR L.v (encM m.m)).2∧¬encM x.m=encM m.m) ?_ ?_
 refine kB (kS (kR ?_));(iterate 2 (refine sq S ?_;clear S;intro a S))
 refine sr S (beq_c p7 p3 c7 c3 (encM x.m) B ⟨hXs,hBs⟩ _ (S.gl0 p7) (S.gl0 p3)) ?_;clear S;rintro _ a w rfl S
 refine sq S ?_;clear S;intro a S;refine kN (xtn ?_)
 refine kC S (fun h12=>?_) (fun h12=>?_)
 refine kS (kR (sq S ?_));clear S;intro a S;refine kN (xtn (kT (xbr (xtr ?_))))
 have hE:encM x.m=encM m.m:=by rw[←hB1];exact of_decide_eq_true h12
 have hv:saveM L.v x.m m.m=(L.v,x.m,0):=by rw[saveM,if_neg hbr,if_neg (by rw[hok];simp),if_neg hC,if_pos hE]
 replace S:=((S.front (lgI b g L)).front (msX h g x)).toBoth
 have hh:=S.it (msI h b g L x)
 have hnw:=S.itNew (msI h b g L x) rfl
 have hst:Stable (fun k=>(msI h b g L x).foot k∨Mr k) _ (MemF x):=(S.wd.facts (MemF x) (by simp)).less fun k _ hk=>hk.elim (fun h1=>⟨msI h b g L x,by simp,h1⟩) (fun h1=>⟨ext Mr,by simp,h1⟩)
 exact end1 S (fun _=>⟨L,x,by rw[hv],hh,hnw,rfl,by rw[hv],by rw[hv],hfx,hokx,hst⟩)
 refine kS ?_
 have hne:¬encM x.m=encM m.m:=by rw[←hB1];exact of_decide_eq_false h12
 have hW:WfAt L:=⟨k,hwf⟩
 refine c_drawD [(0,true),(1,true),(2,true),(3,true),(4,true),(5,true),(7,true),(8,true),(9,true),(10,true),(6,false),(11,false),(12,true),(13,true),(14,true)] [] S ?_;clear S;intro w S;(iterate 4 (refine dq S ?_;clear S;intro a S));(iterate 6 (refine dqG S ?_;clear S;intro a S));refine dl ?_;refine gC S ?_;clear S;intro a w S;refine de S ?_;refine dl ?_;refine gC S ?_;clear S;intro a w S;refine de S ?_;refine dqG S ?_;clear S;intro a S;(iterate 2 (refine dq S ?_;clear S;intro a S));refine dn (xtn ?_)
 refine kC S (fun h14=>?_) (fun h14=>?_)
 refine kR ?_;(iterate 5 (refine sq S ?_;clear S;intro a S))
 have hfit2:fitsM L.v (encM m.m)=true:=by rw[fitsM,←hB1,←show decide ((B.length:Int)≤40000)=decide (B.length≤40000) from decide_eq_decide.2 (by omega)];exact h14
 refine sit (lgI b g L) S (append_v b g L k ⟨p3,c3,B⟩ hwf (by omega) (by show B.length≤_;omega) w (S.it (lgI b g L)) (S.lend (lgI b g L) (S.mem.fact (GlF p3 B)))) rfl ?_;clear S;rintro _ a w ⟨L2,rfl,hh2,hf2,hm2,hv2⟩ hS
 have S:=hS (lgI b g L2) hh2 hf2
 clear hS
 refine sq S ?_;clear S;intro a S;refine kN (xbn (xtn ?_))
 replace S:=S.front (lgI b g L2)
 exact ⟨L2,_,S.uu,⟨hm2,by rw[mputR,if_pos hfit2,←hB1];exact hv2,by rw[mputR,if_pos hfit2,←hB1],hne⟩,S.sub _ _⟩
 refine kR ?_;(iterate 5 (refine sq S ?_;clear S;intro a S))
 have hfit2:fitsM L.v (encM m.m)=false:=by rw[fitsM,←hB1,←show decide ((B.length:Int)≤40000)=decide (B.length≤40000) from decide_eq_decide.2 (by omega)];exact h14
 refine sit (lgI b g L) S (chk_v b g L k ⟨p3,c3,B⟩ hwf (by omega) (by show B.length≤_;omega) w (S.it (lgI b g L)) (S.lend (lgI b g L) (S.mem.fact (GlF p3 B)))) rfl ?_;clear S;rintro _ a w ⟨L2,rfl,hh2,hf2,hm2,hv2⟩ hS
 have S:=hS (lgI b g L2) hh2 hf2
 clear hS
 refine sq S ?_;clear S;intro a S;refine kN (xbn (xtn ?_))
 replace S:=S.front (lgI b g L2)
 exact ⟨L2,_,S.uu,⟨hm2,by rw[mputR,hfit2,←hB1];exact hv2,by rw[mputR,hfit2,←hB1];rfl,hne⟩,S.sub _ _⟩
 clear S;rintro L2 e uu a w ⟨hm2,hv2,he2,hne⟩ S
 refine kS (kS ?_)
 have hv:saveM L.v x.m m.m=((mputR L.v (encM m.m)).1,if (mputR L.v (encM m.m)).2=0 then m.m else x.m,(mputR L.v (encM m.m)).2):=by rw[saveM,if_neg hbr,if_neg (by rw[hok];simp),if_neg hC,if_neg hne]
 refine kR ?_;(iterate 2 (refine sq S ?_;clear S;intro a S));refine kN (xtn ?_)
 refine kC S (fun h16=>?_) (fun h16=>?_)
 refine kR ?_;(iterate 2 (refine sq S ?_;clear S;intro a S))
 refine sr S (mowned_c m hfit hok _ w (foots_lt S) (S.mem.fact (MemF m))) ?_;clear S;rintro _ a w ⟨x',rfl,hx',hfx',hst'⟩ S
 replace S:=S.add (Φ:=MemF x') hst'
 (iterate 2 (refine sq S ?_;clear S;intro a S));refine sw S ?_;clear S;intro a w S;refine kN (xtn (kS (kR ?_)));(iterate 2 (refine sq S ?_;clear S;intro a S));refine kN (xtn (kT ?_))
 have he0:(mputR L.v (encM m.m)).2=0:=by rw[←he2];simpa using h16
 rw[if_pos he0]at hv
 replace S:=((S.front (lgI b g L2)).front (msX h g x')).toBoth
 have hh:=S.it (msI h b g L2 x')
 have hnw:=S.itNew (msI h b g L2 x') rfl
 have hst:Stable (fun k=>(msI h b g L2 x').foot k∨Mr k) _ (MemF x'):=(S.wd.facts (MemF x') (by simp)).less fun k _ hk=>hk.elim (fun h1=>⟨msI h b g L2 x',by simp,h1⟩) (fun h1=>⟨ext Mr,by simp,h1⟩)
 exact end1 S (fun _=>⟨L2,x',by rw[hv,he2],hh,hnw,hm2,by rw[hv];exact hv2,by rw[hv];exact hx',hfx',by rw[hx'];exact hok,hst⟩)
 refine kK (xtn (kS (kR ?_)));(iterate 2 (refine sq S ?_;clear S;intro a S));refine kN (xtn (kT ?_))
 have he0:¬(mputR L.v (encM m.m)).2=0:=by rw[←he2];simpa using h16
 rw[if_neg he0]at hv
 replace S:=((S.front (lgI b g L2)).front (msX h g x)).toBoth
 have hh:=S.it (msI h b g L2 x)
 have hnw:=S.itNew (msI h b g L2 x) rfl
 have hst:Stable (fun k=>(msI h b g L2 x).foot k∨Mr k) _ (MemF x):=(S.wd.facts (MemF x) (by simp)).less fun k _ hk=>hk.elim (fun h1=>⟨msI h b g L2 x,by simp,h1⟩) (fun h1=>⟨ext Mr,by simp,h1⟩)
 exact end1 S (fun _=>⟨L2,x,by rw[hv,he2],hh,hnw,hm2,by rw[hv];exact hv2,by rw[hv],hfx,hokx,hst⟩)
theorem mget_c (h b g:Nat) (L:LG) (x:LMem) (hfx:FitM x) (hokx:memB x.m=true) (Mr:Nat→Prop) (w0:World) (hMr:∀ k,Mr k→k < w0.heap.size∧¬(msI h b g L x).foot k) (hd:(msI h b g L x).holds w0) (fx:Stable (fun k=>(msI h b g L x).foot k∨Mr k) w0 (MemF x)) :
  Ret Tryz.prog 47 [.pointer (some ⟨h,0,none⟩)] w0 (msI h b g L x).foot fun v w'=>(msI h b g L x).holds w'∧IsM (fun k=>(msI h b g L x).foot k∨Mr k) w' v x.m:=by
 refine enter Tryz.func47 rfl rfl (Wd.it2LentM (x:=msX h g x) (y:=lgI b g L) (Mr:=Mr) (fs:=[MemF x]) hd rfl rfl hMr (by simpa using fx)) (fun a S=>?_)
 simp only[Tryz.ntmps47,qqA,qqB,Nat.reduceAdd,Nat.reduceSub,qqC,qqD,qqE,qqF]at S
 refine kS (kR ?_);refine sa S ?_;clear S;intro b2 a w S;refine kN (xtn (kS (kS (kR ?_))));(iterate 2 (refine sq S ?_;clear S;intro a S));refine kN (xtn ?_);refine c_condF S ?_;refine kK (xtn (kS (kR ?_)));(iterate 4 (refine sq S ?_;clear S;intro a S))
 refine sr S (mowned_c x hfx hokx _ w (foots_lt S) (S.mem.fact (MemF x))) ?_;clear S;rintro _ a w ⟨y,rfl,hy,hfy,hsty⟩ S
 replace S:=S.add (Φ:=MemF y) hsty
 refine sw S ?_;clear S;intro a w S;refine kN (xtn (kT ?_))
 replace S:=((S.front (lgI b g L)).front (msX h g x)).toBoth
 have hh:=S.it (msI h b g L x)
 have hst:Stable (fun k=>(msI h b g L x).foot k∨Mr k) _ (MemF y):=(S.wd.facts (MemF y) (by simp)).less fun k _ hk=>hk.elim (fun h1=>⟨msI h b g L x,by simp,h1⟩) (fun h1=>⟨ext Mr,by simp,h1⟩)
 exact end1 S (fun _=>⟨hh,y,rfl,hy,hfy,hst⟩)
abbrev mem0 (u:Int):LMem:=⟨u,0,0,0,none,0,[],none,0,[],none,0,[]⟩
abbrev newM (u:Int):PMem:=⟨u,0,0,0,[],[],[]⟩
theorem mem0_m (u:Int):(mem0 u).m=newM u:=rfl
theorem mem0_fit (u:Int):FitM (mem0 u):=⟨Nat.zero_le _,Nat.zero_le _,Nat.zero_le _,nofun,nofun⟩
theorem mem0_st (u:Int) (M:Nat→Prop) (w:World):Stable M w (MemF (mem0 u)):=fun _ _=>⟨gl_nil,gl_nil,gl_nil⟩
theorem newM_ok {u:Int} (h:1≤u∧u≤6):memB (newM u)=true:=by
 simp[memB,headB,riseS,okM,riseM,seenB,cntK,h.1,h.2]
theorem newM_len (u:Int):(encM (newM u)).length=10:=rfl
theorem fmtV_wfM {n:Nat} {s:DS} (hm:mayF s n=true):(fmtV n s).Wf (s.loose.length+3000):=by
 have hn:4≤n∧n≤1000:=by simp[mayF]at hm;omega
 refine ⟨hn.2,show 1≤n by omega,Nat.zero_lt_one,Nat.le_refl 1,?_,⟨Int.le_refl _,by show (0:Int)≤4294967295;decide⟩,?_⟩
 intro b hb
 obtain rfl:=List.mem_singleton.1 hb;simp
 have h1:=layF_loose s 0 (List.replicate (2*n+2) zB)
 rw[List.length_replicate]at h1
 have h2:=begF_loose n 0 [] (by simp) (layF s 0 (List.replicate (2*n+2) zB)).1
 show (fmtF n s).1.loose.length≤_
 unfold fmtF
 split <;> omega
theorem mformat_ok (b m n:Nat) (p:Option Addr) (c:Nat) (s:DS) (u:Int) (hu:1≤u∧u≤6) (hm:mayF s n=true) (hl:s.loose.length≤900000) (h0:(fmtF n s).2=0) (hc:(chkV (fmtV n s) (encM (newM u))).2=0) (w0:World) (hd:(dkI b m p c s).holds w0) :
  Ret Tryz.prog 46 [.pointer (some ⟨b,0,none⟩),.int .i64 (n:Int),.int .i64 u] w0 (dkI b m p c s).foot fun v w'=>∃ h g L,v=.tuple ⟨[.pointer (some ⟨h,0,none⟩),.int .i64 0]⟩∧L.m=m∧L.v=(chkV (fmtV n s) (encM (newM u))).1∧(msI h b g L (mem0 u)).holds w'∧∀ k,(msI h b g L (mem0 u)).foot k→(dkI b m p c s).foot k∨w0.heap.size≤k:=by
 have hok:=newM_ok hu
 refine enter Tryz.func46 rfl rfl (Wd.itLent (x:=dkI b m p c s) (fs:=[]) hd (by simp)) (fun a S=>?_)
 simp only[Tryz.ntmps46,qqA,qqB,Nat.reduceAdd,Nat.reduceSub,qqC,qqD,qqE,qqF]at S
 refine kS (kR ?_);(iterate 2 (refine sq S ?_;clear S;intro a S));refine kN (xtn (kS (kR ?_)));(iterate 2 (refine sq S ?_;clear S;intro a S));refine sa S ?_;clear S;intro b8 a w S;refine sw S ?_;clear S;intro a w S;refine kN (xtn (kS (kR (sq S ?_))));clear S;intro a S
 refine srn S (mencode_q (mem0 u) (mem0_fit u) _ (mem0_st u _ _)) ?_;clear S;rintro _ a w ⟨p3,c3,rfl,hown,hnew⟩ hS -
 have S:=hS hown hnew
 clear hS
 rw[show encMQ (mem0 u).m=encM (newM u) from by rw[mem0_m,encMQ,if_pos hok],show mchkF (mem0 u).m=0 from by rw[mem0_m,mchkF,if_pos hok]]at S
 replace S:=(S.front (Wk.row 5 1 p3 (encM (newM u)).length c3 (encL (encM (newM u))))).rowToGl p3 (encM (newM u)) (e:=5) (sz:=1) (n:=(encM (newM u)).length) (c:=c3) (fun _ _ _ _=>trivial)
 (iterate 5 (refine sq S ?_;clear S;intro a S));refine kN (xtn (kS (kS (kR ?_))));(iterate 2 (refine sq S ?_;clear S;intro a S));refine kN (xtn ?_);refine c_condF S ?_;refine kK (xtn (kS (kR ?_)));(iterate 2 (refine sq S ?_;clear S;intro a S))
 refine sit (dkI b m p c s) S (format_v b m n p c s hm (by omega) _ (S.it (dkI b m p c s))) rfl ?_;clear S;rintro _ a w (⟨h9,-⟩ | ⟨-,g,L,rfl,hLm,hLv,hh,hf⟩) hS
 exact absurd h0 h9
 have S:=hS (lgI b g L) hh hf
 clear hS
 have hwf:L.v.Wf (s.loose.length+3000):=by rw[hLv];exact fmtV_wfM hm
 (iterate 5 (refine sq S ?_;clear S;intro a S));refine kN (xtn (kS (kS (kR ?_))));(iterate 2 (refine sq S ?_;clear S;intro a S));refine kN (xtn ?_);refine c_condT S ?_;refine kR ?_;(iterate 2 (refine sq S ?_;clear S;intro a S))
 have hr:=chk_v b g L (s.loose.length+3000) ⟨p3,c3,encM (newM u)⟩ hwf (by omega) (by show (encM (newM u)).length≤_;rw[newM_len];omega) w (S.it (lgI b g L)) (S.lend (lgI b g L) (S.mem.fact (GlF p3 (encM (newM u)))))
 rw[hLv]at hr
 refine sit (lgI b g L) S hr rfl ?_;clear S;rintro _ a w ⟨L2,rfl,hh2,hf2,hm2,hv2⟩ hS
 have S:=hS (lgI b g L2) hh2 hf2
 clear hS
 rw[show (chkV (fmtV n s) (LBy.bs ⟨p3,c3,encM (newM u)⟩)).2=0 from hc]at S
 refine sq S ?_;clear S;intro a S;refine kN (xtn (kS (kS (kR ?_))));(iterate 2 (refine sq S ?_;clear S;intro a S));refine kN (xtn ?_);refine c_condF S ?_;refine kK (xtn (kS (kR ?_)));(iterate 3 (refine sq S ?_;clear S;intro a S));refine sa S ?_;clear S;intro b38 a w S;(iterate 2 (refine sq S ?_;clear S;intro a S));refine kN (xtn (kT ?_))
 rw[show [Value.pointer (some ⟨g,0,none⟩),.int .i64 u,.int .i64 0,.int .i64 0,.int .i64 0,.slice none 0 0,.slice none 0 0,.slice none 0 0]=[.pointer (some ⟨g,0,none⟩),.int .i64 (mem0 u).user,.int .i64 (mem0 u).leaf,.int .i64 (mem0 u).counter,.int .i64 (mem0 u).num,.slice (mem0 u).sp (mem0 u).seeds.length (mem0 u).sc,.slice (mem0 u).vp (mem0 u).vers.length (mem0 u).vc,.slice (mem0 u).ep (mem0 u).seen.length (mem0 u).ec] from rfl]at S
 replace S:=((S.front (lgI b g L2)).front (msX b38 g (mem0 u))).toBoth
 have h1:=S.it (msI b38 b g L2 (mem0 u))
 have h2:=S.itNew (msI b38 b g L2 (mem0 u)) rfl
 exact end2 S (fun _=>⟨b38,g,L2,rfl,hm2.trans hLm,hv2,h1,h2⟩)
def entM:PMem→List (List UInt8)→Option PMem
 | m,[]=>some m
 | m,b::bs=>if (decM b).2≠0∨coversB m (decM b).1=false then none else entM (decM b).1 bs
def openM:List (List UInt8)→Option PMem
 | []=>none
 | b::bs=>if (decM b).2≠0 then none else entM (decM b).1 bs
theorem decM_ok {b:List UInt8} (h:(decM b).2=0):memB (decM b).1=true:=by
 unfold decM at h⊢
 split at h
 cases h
 split at h
 cases h
 rename_i h1 h2
 rw[if_neg h1,if_neg h2]
 cases h3:memB (memD b) with
 | true=>rfl
 | false=>exact absurd (.inr (.inr h3)) h2
instance mcoversI {x y:LMem} {bs fs} [hx:MemFit x] [hy:MemFit y] [h1:HasFact fs (MemF x)] [h2:HasFact fs (MemF y)]:CallV Tryz.prog 38 [vMem x,vMem y] bs fs (.bool (coversB x.m y.m)):=⟨fun w mm=>mcovers_c x y hx.fit hy.fit w ((mm.facts _ h1.mem).less fun _ _ h=>h.elim) ((mm.facts _ h2.mem).less fun _ _ h=>h.elim)⟩
theorem lgI_stabM {M:Nat→Prop} {w:World} {b g:Nat} {L:LG} (h:Stable M w (lgI b g L).holds):Stable M w (BoxF g 134 (cWal b L.q L.e L.x))∧Stable M w (GlF L.q L.x.said)∧Stable M w (AllBy L.x.said):=
 ⟨h.imp fun _ h=>(BoxF.stable (M:=fun _=>False) h.2.1.1 (fun h=>h)).now,h.imp fun _ h=>(gl_own (M:=fun _=>False) h.2.1.2.1.1 (fun _ _ _ _=>trivial) (fun _ _ h=>h)).now,h.imp fun _ h y hy=>(h.2.1.2.1.2.1 y hy).2⟩
def MOpenR (Mr:Nat→Prop) (b m:Nat) (p:Option Addr) (c:Nat) (s:DS) (v:Value) (w0 w:World):Prop:=
 (openM (opnV s).said=none∧v=.tuple ⟨[.pointer none,.int .i64 300]⟩∧∃ p' c',(dkI b m p' c' (openF s).1).holds w∧∀ k,(dkI b m p' c' (openF s).1).foot k→(dkI b m p c s).foot k∨w0.heap.size≤k)∨
 (∃ h g L x,openM (opnV s).said=some x.m∧v=.tuple ⟨[.pointer (some ⟨h,0,none⟩),.int .i64 0]⟩∧L.m=m∧L.v=opnV s∧FitM x∧(msI h b g L x).holds w∧(∀ k,(msI h b g L x).foot k→(dkI b m p c s).foot k∨w0.heap.size≤k)∧Stable (fun k=>(msI h b g L x).foot k∨Mr k) w (MemF x))
set_option maxHeartbeats 2000000 in
theorem mopen_ok (b m:Nat) (p:Option Addr) (c:Nat) (s:DS) (Mr:Nat→Prop) (hl:s.loose.length≤980000) (h0:(openF s).2.1=0) (w0:World) (hMr:∀ k,Mr k→k < w0.heap.size∧¬(dkI b m p c s).foot k) (hd:(dkI b m p c s).holds w0) :
  Ret Tryz.prog 52 [.pointer (some ⟨b,0,none⟩)] w0 (dkI b m p c s).foot fun v w'=>MOpenR Mr b m p c s v w0 w':=by
 refine enterM Tryz.func52 rfl rfl (Wd.itLentM (x:=dkI b m p c s) (Mr:=Mr) (fs:=[]) hd hMr (by simp)) (fun a S=>?_)
 simp only[Tryz.ntmps52,qqA,qqB,Nat.reduceAdd,Nat.reduceSub,qqC,qqD,qqE,qqF]at S
 refine kS (kR ?_);refine sa S ?_;clear S;intro b2 a w S;refine sa S ?_;clear S;intro b3 a w S;refine kN (xtn (kS (kR (sq S ?_))));clear S;intro a S
 refine sit (dkI b m p c s) S (openV_c b m p c s hl _ (S.it (dkI b m p c s))) rfl ?_;clear S;rintro _ a w (⟨h,-⟩ | ⟨-,g,L,rfl,hLm,hLv,hh,hf⟩) hS
 ·exact absurd h0 h
 have S:=hS (lgI b g L) hh hf
 clear hS
 (iterate 5 (refine sq S ?_;clear S;intro a S));refine kN (xtn (kS (kS (kR ?_))));(iterate 2 (refine sq S ?_;clear S;intro a S));refine kN (xtn ?_);refine c_condF S ?_;refine kK (xtn (kS ?_))
 have hwf:=opnV_wf h0
 rw[←hLv]at hwf
 have hown:=S.itNew (lgI b g L) rfl
 have hcap:=lg_cap (S.it (lgI b g L))
 obtain ⟨bs,r,hr⟩:∃ bs r,L.v.said=bs::r:=by
  have h4:=hwf.some_
  cases h:L.v.said with
  | nil=>rw[h]at h4;simp at h4
  | cons b0 r=>exact ⟨b0,r,rfl⟩
 have hbsl:bs.length≤40000:=hwf.short bs (by rw[hr];exact .head _)
 have hop:openM (opnV s).said=if (decM bs).2≠0 then none else entM (decM bs).1 r:=by rw[←hLv,hr];rfl
 refine kR (sq S ?_);clear S;intro a S
 refine srn S (snap_v b g L _ hwf _ (S.it (lgI b g L))) ?_;clear S;rintro _ a w ⟨bs',p1,c1,hb0,rfl,hrow,hnew⟩ hS -
 have S:=hS hrow hnew
 clear hS
 obtain rfl:bs=bs':=by rw[hr]at hb0;simpa using hb0
 replace S:=S.rowToGl p1 bs (e:=5) (sz:=1) (n:=bs.length) (c:=c1) (fun _ _ _ _=>trivial)
 refine sr S (mdecode_c bs p1 bs.length c1 _ w rfl (by omega) (foots_lt S) (S.mem.fact (GlF p1 bs))) ?_;clear S;rintro _ a w ⟨vm,rfl,x0,rfl,hx0,hfx0,hst0⟩ S
 replace S:=S.add (Φ:=MemF x0) hst0
 obtain ⟨e0,he0⟩:∃ e0,e0=(decM bs).2:=⟨_,rfl⟩
 rw[←he0,←hx0]at hop
 rw[←he0]at S
 (iterate 3 (refine sq S ?_;clear S;intro a S));refine sa S ?_;clear S;intro b6 a w S;refine sw S ?_;clear S;intro a w S;refine sq S ?_;clear S;intro a S;refine kN (xtn (kS (kS (kR ?_))));(iterate 2 (refine sq S ?_;clear S;intro a S));refine kN (xtn ?_)
 refine kC S (fun h5=>?_) (fun h5=>?_)
 ·refine kS (kR ?_);(iterate 2 (refine sw S ?_;clear S;intro a w S));refine kN (xtn (kT (xtr ?_)))
  have hno:e0≠0:=by simpa using h5
  have hs:L.s=(openF s).1:=congrArg LV.s hLv
  subst hLm
  refine endM2 S (fun w hw=>.inl ⟨by rw[hop,if_pos hno],rfl,L.p,L.c,?_⟩)
  have hd:=(hw.held (lgI b g L) (by simp)).1
  rw[←hs]
  exact ⟨hd,fun k hk=>hown k (.inl hk)⟩
 ·refine kK (xtn (kS (kS ?_)))
  have he00:e0=0:=by simpa using h5
  rw[if_neg (fun h=>h he00)]at hop
  have hok0:memB x0.m=true:=by rw[hx0];exact decM_ok (by rw[←he0];exact he00)
  refine kR (sq S ?_);clear S;intro a S
  have hL0:0 < L.x.said.length:=by have:=hwf.some_;rwa [v_len]at this
  have hL1:L.x.said.length≤1000000:=by have h1:=hwf.few;have h2:=hwf.fin;have h3:=hwf.n;rw[v_len]at h1;omega
  obtain ⟨came,hcame⟩:∃ came,came=L.x.said.drop 1:=⟨_,rfl⟩
  have hcl:came.length=L.x.said.length - 1:=by rw[hcame,List.length_drop]
  have hcb:∀ y∈came,y.bs.length≤1000000:=fun y hy=>by have:=hwf.short y.bs (List.mem_map_of_mem (List.mem_of_mem_drop (hcame▸hy)));omega
  have hcr:bsL came=r:=by
   have:L.v.said=bsL L.x.said:=rfl
   rw[hcame,bsL,List.map_drop,←bsL,←this,hr];rfl
  have hlt:=foots_lt S
  refine sr S (all_c g b L.q L.e L.x hL0 hcap _ (BoxF.stable (S.it (lgI b g L)).2.1.1 (fun h=>h))) ?_;clear S;rintro _ a w ⟨h2,rfl,n0,e0'⟩ S
  replace S:=S.add (Φ:=BoxF h2 33 [.slice (if L.e=1 then L.q else L.q.map (·.add (1*1))) (L.x.said.length - 1) (L.e - 1)]) (BoxF.stable e0' (fun hm=>by have:=hlt _ hm;omega))
  rw[←hcl]at S
  obtain ⟨q2,hq2⟩:∃ q2,q2=(if L.e=1 then L.q else L.q.map (·.add (1*1))):=⟨_,rfl⟩
  rw[←hq2]at S
  refine kN (xtn (kB ?_))
  replace S:=S.toRo (x:=lgI b g L)
  replace S:=(((((S.front (ext Mr)).front ((lgI b g L).ro)).front (marks [])).front (Wk.box b2 84 [.pointer none])).front (Wk.box b3 26 [.int .i64 0])).front (Wk.box b6 67 (cMem x0))
  replace S:=(S.add (Φ:=MemF x0) (S.wd.facts (MemF x0) (by simp))).sub [Wk.box b6 67 (cMem x0),Wk.box b3 26 [.int .i64 0],Wk.box b2 84 [.pointer none],marks [],(lgI b g L).ro,ext Mr] [MemF x0,BoxF h2 33 [.slice q2 came.length (L.e - 1)]]
  refine c_range (κ:=LMem) (κx:=Unit) (Ds:=[]) (toldL came)
   (fun _ k=>[Wk.box b6 67 (cMem k),Wk.box b3 26 [.int .i64 0],Wk.box b2 84 [.pointer none],marks [],(lgI b g L).ro,ext Mr])
   (fun _ k=>[MemF k,BoxF h2 33 [.slice q2 came.length (L.e - 1)]])
   (fun i k=>entM x0.m r=entM k.m (r.drop i)∧FitM k∧memB k.m=true)
   (fun _=>[Wk.box b3 26 [.int .i64 300],Wk.box b2 84 [.pointer none],marks [],(lgI b g L).ro,ext Mr])
   (fun _=>[]) (fun cd _=>cd=.ret∧entM x0.m r=none) x0 S
   (fun M w1 hM hF hro=>by
    obtain ⟨z1,z2,z3⟩:=lgI_stabM (b:=b) (g:=g) (L:=L) (hro (lgI b g L).ro (by simp) rfl)
    exact all_it h2 came q2 (L.e - 1) (by omega) hcb w1 M hM (hF _ (by simp)) (z2.imp fun _ h=>by rw[hq2,hcame];exact h.drop 1 hcap) (z3.imp fun _ h y hy=>h y (by rw[hcame]at hy;exact List.mem_of_mem_drop hy))) ⟨⟨rfl,hfx0,hok0⟩,rfl,rfl⟩ ?_ ?_ ?_ ?_
  ·clear S
   rintro L2 D bL M' w1 i z vs xk W0 w hz ⟨hrel,hfk,hokk⟩ hW0 hgr ⟨p2,c2,rfl,hown2,hnew2⟩
   obtain ⟨hi,rfl⟩:=told_get hz
   obtain ⟨y2,hy2e⟩:∃ y2:LBy,y2=⟨p2,c2,(nthG came i).bs⟩:=⟨_,rfl⟩
   have hent:(entI [y2]).holds w:=by rw[hy2e];exact ent_row (y:=⟨p2,c2,(nthG came i).bs⟩) hown2
   have hwd:=hW0.addItem hgr hent (fun k ⟨u,hu,ad,hp,hk⟩=>by
    obtain rfl:=List.mem_singleton.1 hu
    rw[hy2e]at hp
    exact hk▸hnew2 ad hp) (ItOk.lt w hent) ItOk.loc
   have hx:r[i]? = some (nthG came i).bs:=by rw[←hcr,bsL,List.getElem?_map,nthG_get hi];rfl
   have hil:=(List.getElem?_eq_some_iff.1 hx).1
   have hdr:r.drop i=(nthG came i).bs::r.drop (i+1):=by rw[List.drop_eq_getElem_cons hil,(List.getElem?_eq_some_iff.1 hx).2]
   have hbl2:(nthG came i).bs.length≤1000000:=hcb _ (nthG_mem hi)
   obtain ⟨bs2,hbs2⟩:∃ bs2,bs2=(nthG came i).bs:=⟨_,rfl⟩
   rw[←hbs2]at hdr hy2e hbl2
   rw[hdr,entM]at hrel
   refine ⟨_,inferInstance,fun a S=>?_⟩
   replace S:St w1 M' [] a w _ (entI [y2]::lpI L2 D (lpR bL .ready none)::_) _:=⟨S.slots,S.defers,hwd⟩
   replace S:=St.entFact S [y2]
   replace S:=S.add (Φ:=GlF p2 bs2) ((S.mem.fact (AllBy [y2])).imp fun _ h=>by have:=h y2 (by simp);rw[hy2e]at this;exact this)
   rw[←hbs2]at S
   have hMk:MemFit xk:=⟨hfk⟩
   try dsimp only at S
   refine kR (sq S ?_);clear S;intro a S;refine kN (xtn ?_)
   refine rbegin (D:=D) (b:=bL) S ?_;clear S;intro a w S
   refine kB (kS (kR (sq S ?_)));clear S;intro a S
   refine sr S (mdecode_c bs2 p2 bs2.length c2 _ _ rfl (by omega) (foots_lt S) (S.mem.fact (GlF p2 bs2))) ?_;clear S;rintro _ a w ⟨vm,rfl,y,rfl,hym,hfy,hsty⟩ S
   replace S:=S.add (Φ:=MemF y) hsty
   obtain ⟨e2,he2⟩:∃ e2,e2=(decM bs2).2:=⟨_,rfl⟩
   rw[←he2,←hym]at hrel
   rw[←he2]at S
   have hMy:MemFit y:=⟨hfy⟩
   (iterate 3 (refine sq S ?_;clear S;intro a S));refine sa S ?_;clear S;intro b9 a w S;refine sw S ?_;clear S;intro a w S;refine sq S ?_;clear S;intro a S;refine kN (xtn (kS (kS (kR ?_))));(iterate 3 (refine sq S ?_;clear S;intro a S));(iterate 2 (refine gQ S ?_;clear S;intro a S));refine gC S ?_;clear S;intro a w S;refine gQ S ?_;clear S;intro a S;refine sq S ?_;clear S;intro a S;refine kN (xtn ?_)
   refine kC S (fun h10=>?_) (fun h10=>?_)
   ·refine kS (kR ?_);(iterate 2 (refine sw S ?_;clear S;intro a w S));refine kN (xtn (kT (xtr (xbr ?_))))
    have hno:entM x0.m r=none:=by
     rw[hrel,if_pos]
     simp only[Bool.or_eq_true,Bool.not_eq_true',decide_eq_false_iff_not]at h10
     exact h10
    exact rret (D:=D) (b:=bL) (S.sub [lpI L2 D (lpR bL .busy none),Wk.box b3 26 [.int .i64 300],Wk.box b2 84 [.pointer none],marks [],(lgI b g L).ro,ext Mr] []) fun W hW=>⟨.inl rfl,(),⟨rfl,hno⟩,hW⟩
   ·refine kK (xtn (kR (sq S ?_)));clear S;intro a S;refine sw S ?_;clear S;intro a w S;refine kN (xbn ?_)
    simp only[Bool.or_eq_false_iff,Bool.not_eq_false',decide_eq_true_eq]at h10
    have hrel2:entM x0.m r=entM y.m (r.drop (i+1)):=by
     rw[hrel,if_neg]
     rintro (h | h)
     ·exact h h10.1
     ·rw[h10.2]at h;cases h
    have hoky:memB y.m=true:=by rw[hym];exact decM_ok (by rw[←he2];exact h10.1)
    replace S:=((((((S.front (ext Mr)).front ((lgI b g L).ro)).front (marks [])).front (Wk.box b2 84 [.pointer none])).front (Wk.box b3 26 [.int .i64 0])).front (Wk.box b6 67 (cMem y))).front (lpI L2 D (lpR bL .busy none))
    replace S:=S.add (Φ:=MemF y) (S.wd.facts (MemF y) (by simp))
    exact rnext (D:=D) (b:=bL) (S.sub [lpI L2 D (lpR bL .busy none),Wk.box b6 67 (cMem y),Wk.box b3 26 [.int .i64 0],Wk.box b2 84 [.pointer none],marks [],(lgI b g L).ro,ext Mr] [MemF y,BoxF h2 33 [.slice q2 came.length (L.e - 1)]]) fun W hW=>⟨y,⟨hrel2,hfy,hoky⟩,hW⟩
  ·clear S
   rintro D xk a w ⟨hrel,hfk,hokk⟩ S
   have hlen:(toldL came).length=r.length:=by rw[←hcr];simp[toldL,bsL]
   rw[hlen]at hrel
   simp only[List.drop_length,entM]at hrel
   try dsimp only at S
   replace S:=S.join (Ds:=[])
   replace S:=S.unRo (x:=lgI b g L) hown
   refine xbn (xtn (kS (kR ?_)));(iterate 3 (refine sq S ?_;clear S;intro a S));refine sa S ?_;clear S;intro b48 a w S;(iterate 2 (refine sw S ?_;clear S;intro a w S));refine kN (xtn (kT ?_))
   subst hLm
   replace S:=((S.front (lgI b g L)).front (msX b48 g xk)).toBoth
   refine endM2 S (fun w hw=>.inr ⟨b48,g,L,xk,by rw[hop];exact hrel,rfl,rfl,hLv,hfk,hw.held (msI b48 b g L xk) (by simp),hw.own (msI b48 b g L xk) (by simp) rfl,?_⟩)
   exact (hw.facts (MemF xk) (by simp)).less fun k _ hk=>hk.elim (fun h=>⟨msI b48 b g L xk,by simp,h⟩) (fun h=>⟨ext Mr,by simp,h⟩)
  ·rintro D _ a w ⟨-,hno⟩ S
   replace S:=S.join (Ds:=[])
   replace S:=S.unRo (x:=lgI b g L) hown
   repeat (first | refine xbr ?_ | refine xtr ?_)
   have hs:L.s=(openF s).1:=congrArg LV.s hLv
   subst hLm
   refine endM2 S (fun w hw=>.inl ⟨by rw[hop];exact hno,rfl,L.p,L.c,?_⟩)
   have hd:=(hw.held (lgI b g L) (by simp)).1
   rw[←hs]
   exact ⟨hd,fun k hk=>hown k (.inl hk)⟩
  ·rintro id D _ a w ⟨h,-⟩;cases h
theorem fitsM_lv {V:LV} {n:Nat} {t:Int} {said:List (List UInt8)} (h:LvOk V n t said) (bs:List UInt8):fitsM V bs=true↔bs.length≤40000∧endF t said+secN bs.length≤n:=by
 obtain ⟨s',hs,tail,hL,-⟩:=h.live
 have hlen:=hL.len
 have hll:=laid_len t said 0
 rw[fitsM,Bool.and_eq_true,decide_eq_true_eq,decide_eq_true_eq,h.num,h.fin]
 constructor
 rintro ⟨h1,h2⟩
 rw[secF_nat _ h1]at h2
 exact ⟨h1,by omega⟩
 rintro ⟨h1,h2⟩
 rw[secF_nat _ h1]
 exact ⟨h1,by omega⟩
theorem saveM_off {V:LV} {n:Nat} {t:Int} {said:List (List UInt8)} (h:LvOff V n t said) (now m:PMem) (hm:memB m=true) (hc:coversB now m=true) (hne:encM now≠encM m) (hb:(encM m).length≤40000) (hr:endF t said+secN (encM m).length≤n) :
  (saveM V now m).2.2=0∧(saveM V now m).2.1=m∧LvOff (saveM V now m).1 n t (said++[encM m]):=by
 have hf:=(fitsM_lv h.ok (encM m)).2 ⟨hb,hr⟩
 obtain ⟨a1,a2⟩:=app_off h (encM m) hb hr
 have e:mputR V (encM m)=appV V (encM m):=by rw[mputR,if_pos hf]
 rw[saveM,if_neg (by rw[h.ok.whole];simp),if_neg (by rw[hm];simp),if_neg (by rw[hc];simp),if_neg hne,e]
 exact ⟨a1,by rw[if_pos a1],a2⟩
theorem saveM_back {V:LV} {now m:PMem} (hb:V.broken=false) (hm:memB m=true) (hc:coversB now m=false):saveM V now m=(V,now,301):=by
 rw[saveM,if_neg (by rw[hb];simp),if_neg (by rw[hm];simp),if_pos hc]
abbrev wm1:PMem:=⟨1,3,0,0,[⟨[49,47,102],7⟩],[],[]⟩
abbrev wm2:PMem:=⟨1,2,0,0,[⟨[49,47,102],7⟩],[],[]⟩
theorem wm1_ok:memB wm1=true:=by decide
theorem wm2_ok:memB wm2=true:=by decide
theorem wm1_len:(encM wm1).length=16:=rfl
theorem wm_ne:encM (newM 1)≠encM wm1:=fun h=>by have:=congrArg List.length h;rw[newM_len,wm1_len]at this;cases this
theorem wm_cov1:coversB (newM 1) wm1=true:=by decide
theorem wm_cov2:coversB wm1 wm2=false:=by decide
theorem wm_open:openM [encM (newM 1),encM wm1]=some wm1:=by
 have h1:=decM_enc (newM_ok (u:=1) (by omega))
 have h2:=decM_enc wm1_ok
 rw[openM,h1]
 show (if (0:Int)≠0 then none else entM (newM 1) [encM wm1])=_
 rw[if_neg (fun h=>h rfl),entM,h2]
 show (if (0:Int)≠0∨coversB (newM 1) wm1=false then none else entM wm1 [])=_
 rw[if_neg,entM]
 rintro (h | h)
 exact h rfl
 rw[wm_cov1]at h;cases h
instance opFieldV {P:Program} {ty:TypeId} {l:Cx} {bs:List Wk.Item} {fs:List (World→Prop)} {s f off ft:Nat} {x:Operand} {vs:List Value} {v:Value} [Ev l x (.agg ⟨vs⟩)] [hf:Fld P s f off ft] [ha:AggT P ft false] [hn:Nth vs off v]:OpQ P (.field s x f) ty l bs fs v:=⟨fun ρ w h _=>by
 obtain ⟨fields,F,hu,hF,rfl,rfl,hs⟩:=hf.ex
 simp[xop,execOp,h.ev (x:=x) (v:=.agg ⟨vs⟩),Instr.field,run_underlying hu,Sem.run_bind,hF,asAgg,part,ha.run,hn.eq]⟩
abbrev lmS:LMark:=⟨[49,47,102],7⟩
abbrev wmL (b:Nat) (k:Int):LMem:=⟨1,k,0,0,some ⟨b,0,none⟩,1,[lmS],none,0,[],none,0,[]⟩
theorem wmL_fit (b:Nat) (k:Int):FitM (wmL b k):=⟨by show 1≤1000;omega,Nat.zero_le _,Nat.zero_le _,fun x hx=>by rw[List.mem_singleton.1 hx];decide,nofun⟩
theorem wmL_st {b:Nat} {k:Int} {M:Nat→Prop} {w:World} (h:Stable M w (GlF (some ⟨b,0,none⟩) [lmS])):Stable M w (MemF (wmL b k)):=fun w' hw'=>⟨h w' hw',gl_nil,gl_nil⟩
set_option maxHeartbeats 4000000 in
theorem mwakes_c (w0:World):Ret Tryz.prog 33 [] w0 (fun _=>False) fun v _=>v=.bool true:=by
 have h0:=fmt_lv 40 (by omega)
 obtain ⟨e1,g1⟩:=chk_off h0 (by decide) (encM (newM 1)) (by rw[newM_len];omega) (by rw[newM_len];decide)
 obtain ⟨e2,f2,g2⟩:=saveM_off g1 (newM 1) wm1 wm1_ok wm_cov1 wm_ne (by rw[wm1_len];omega) (by rw[wm1_len,endF_sum,List.map_cons,List.map_nil,newM_len];decide)
 obtain ⟨V1,hV1⟩:∃ V1,V1=(chkV (fmtV 40 (newD ((2*40+2:Nat):Int))) (encM (newM 1))).1:=⟨_,rfl⟩
 rw[←hV1]at g1 e2 f2 g2
 obtain ⟨V2,hV2⟩:∃ V2,V2=(saveM V1 (newM 1) wm1).1:=⟨_,rfl⟩
 rw[←hV2]at g2
 obtain ⟨o1,o2,o3,o4⟩:=(open_able g2.live.able).resolve_right (fun h=>by rw[g2.off]at h;cases h.1)
 have ho:openM (opnV V2.s).said=some wm1:=by
  show openM (openF V2.s).2.2.said=_
  rw[o3];exact wm_open
 have how:=opnV_wf o1
 have hloose:=g2.ok.wf.loose
 refine enter Tryz.func33 rfl rfl (Wd.start w0) (fun a S=>?_)
 simp only[Tryz.ntmps33,qqB,Nat.reduceSub,qqC,qqD,qqF]at S
 refine kS (kR (sq S ?_));clear S;intro a S;refine kN (xtn (kS (kR ?_)))
 refine snew S (dnew_dk 82 (by omega) _) ?_;clear S;rintro _ a w - ⟨b,m,rfl,hh,hnw⟩ hS -
 have S:=hS (dkI b m none 0 (newD 82)) hh hnw
 clear hS
 (iterate 5 (refine sq S ?_;clear S;intro a S));refine kN (xtn (kS (kS (kR ?_))));(iterate 2 (refine sq S ?_;clear S;intro a S));refine kN (xtn ?_);refine c_condF S ?_;refine kK (xtn (kS (kR (sq S ?_))));clear S;intro a S
 refine sit (dkI b m none 0 (newD 82)) S (mformat_ok b m 40 none 0 (newD 82) 1 (by omega) (by simp[mayF,newD]) (by simp[newD]) (format_live 40 (by omega)).1 e1 _ (S.it (dkI b m none 0 (newD 82)))) rfl ?_;clear S;rintro _ a w ⟨h,g,L,rfl,hm2,hv2,hh2,hf2⟩ hS
 have S:=hS (msI h b g L (mem0 1)) hh2 hf2
 clear hS
 replace hv2:L.v=V1:=hv2.trans hV1.symm
 (iterate 5 (refine sq S ?_;clear S;intro a S));refine kN (xtn (kS (kS (kR ?_))));(iterate 3 (refine sq S ?_;clear S;intro a S));(iterate 2 (refine gQ S ?_;clear S;intro a S));refine sq S ?_;clear S;intro a S;refine kN (xtn ?_);refine c_condF S ?_;refine kK (xtn (kS (kR (sq S ?_))));clear S;intro a S;refine sn S ?_;clear S;intro b25 a w S
 replace S:=S.boxRow b25 2 1 rfl (by decide)
 rw[show ([.string ⟨#[49,47,102]⟩,.int .i64 7]:List Value)=encL [lmS] from rfl]at S
 replace S:=S.rowToGl (some ⟨b25,0,none⟩) [lmS] (e:=175) (sz:=2) (n:=1) (c:=1) (fun _ _ _ _=>trivial)
 refine sq S ?_;clear S;intro a S;refine sa S ?_;clear S;intro b4 a w S;refine sw S ?_;clear S;intro a w S;refine kN (xtn (kS (kS (kR ?_))));(iterate 2 (refine sq S ?_;clear S;intro a S))
 refine sitM (msI h b g L (mem0 1)) S (msave_c h b g L (mem0 1) 0 ⟨by rw[hv2];exact g1.ok.wf,mem0_fit 1,newM_ok (u:=1) (by omega)⟩ (by omega) (wmL b25 3) (wmL_fit _ _) (restOf _ (msI h b g L (mem0 1))) w (S.restOk _) (S.it (msI h b g L (mem0 1))) (mem0_st 1 _ _) (wmL_st ((S.mem.fact (GlF (some ⟨b25,0,none⟩) [lmS])).split (msI h b g L (mem0 1))))) rfl ?_;clear S;rintro _ a w ⟨L2,x2,rfl,hh3,hf3,hm3,hv3,hx3,hfx3,hok3,hst3⟩ hS
 have S:=hS (msI h b g L2 x2) [MemF x2] hh3 hf3 (by intro Φ hΦ;obtain rfl:=List.mem_singleton.1 hΦ;exact hst3)
 clear hS
 rw[hv2]at hv3 hx3
 rw[show (saveM L.v (mem0 1).m (wmL b25 3).m).2.2=0 from by rw[hv2];exact e2]at S
 replace hv3:L2.v=V2:=hv3.trans hV2.symm
 refine sq S ?_;clear S;intro a S;refine kN (xtn ?_);refine c_condF S ?_;refine kK (xtn (kS (kR (sq S ?_))));clear S;intro a S;refine sa S ?_;clear S;intro b5 a w S;refine sw S ?_;clear S;intro a w S;refine kN (xtn (kS (kR (sq S ?_))));clear S;intro a S;refine sw S ?_;clear S;intro a w S;refine kN (xtn (kS (kR (sq S ?_))));clear S;intro a S
 have hs2:L2.s=V2.s:=congrArg LV.s hv3
 replace S:=(S.front (msI h b g L2 x2)).ofBoth
 replace S:=(S.front (lgI b g L2)).ofBoth
 refine sitM (dkI b L2.m L2.p L2.c L2.s) S (mopen_ok b L2.m L2.p L2.c L2.s (restOf _ (dkI b L2.m L2.p L2.c L2.s)) (by rw[hs2];omega) (by rw[hs2];exact o1) w (S.restOk _) (S.it (dkI b L2.m L2.p L2.c L2.s))) rfl ?_;clear S;rintro _ a w (⟨hno,-⟩ | ⟨h5,g5,L5,x5,ho5,rfl,hm5,hv5,hfx5,hh5,hf5,hst5⟩) hS
 rw[hs2,ho]at hno;cases hno
 have S:=hS (msI h5 b g5 L5 x5) [MemF x5] hh5 hf5 (by intro Φ hΦ;obtain rfl:=List.mem_singleton.1 hΦ;exact hst5)
 clear hS
 rw[hs2]at hv5 ho5
 have hx5:x5.m=wm1:=by rw[ho]at ho5;exact (Option.some.inj ho5).symm
 have hok5:memB x5.m=true:=by rw[hx5];exact wm1_ok
 (iterate 5 (refine sq S ?_;clear S;intro a S));refine kN (xtn (kS ?_))
 refine c_drawE [(0,true),(1,true),(2,true),(3,true),(4,true),(5,true),(6,true),(7,true),(9,true),(8,false),(10,false),(11,true),(12,true),(13,true),(14,true),(15,false),(16,true),(17,true),(18,true),(19,true),(20,false),(21,true),(22,true),(23,true),(24,true),(25,true)] [Wk.box b5 67 [.int .i64 1,.int .i64 2,.int .i64 0,.int .i64 0,.slice (some ⟨b25,0,none⟩) 1 1,.slice none 0 0,.slice none 0 0],Wk.box b4 67 [.int .i64 1,.int .i64 3,.int .i64 0,.int .i64 0,.slice (some ⟨b25,0,none⟩) 1 1,.slice none 0 0,.slice none 0 0]] S ?_;clear S;intro w S
 (iterate 2 (refine dq S ?_;clear S;intro a S))
 rw[show decide ((0:Int)=0)=true from rfl]at S
 refine dq S ?_;clear S;intro a S;(iterate 2 (refine dqG S ?_;clear S;intro a S));(iterate 2 (refine dq S ?_;clear S;intro a S));(iterate 2 (refine dqG S ?_;clear S;intro a S));refine dl (gT S ?_)
 refine sitM (msI h5 b g5 L5 x5) S (mget_c h5 b g5 L5 x5 hfx5 hok5 (restOf _ (msI h5 b g5 L5 x5)) _ (S.restOk _) (S.it (msI h5 b g5 L5 x5)) ((S.mem.fact (MemF x5)).split (msI h5 b g5 L5 x5))) rfl ?_;clear S;rintro _ a w ⟨hh6,y,rfl,hy,hfy,hsty⟩ hS
 have S:=hS (msI h5 b g5 L5 x5) [MemF y] hh6 (fun k h=>.inl h) (by intro Φ hΦ;obtain rfl:=List.mem_singleton.1 hΦ;exact hsty)
 clear hS
 refine de S ?_;refine dl (gT S ?_)
 refine sr S (msame_c y (wmL b25 3) hfy (wmL_fit _ _) _ ((S.mem.fact (MemF y)).less fun _ _ h=>h.elim) (wmL_st ((S.mem.fact (GlF (some ⟨b25,0,none⟩) [lmS])).less fun _ _ h=>h.elim))) ?_;clear S;rintro _ a w ⟨bb,rfl,hbb⟩ S
 obtain rfl:bb=true:=hbb.2 (by rw[hy,hx5];rfl)
 refine de S ?_;(iterate 2 (refine dq S ?_;clear S;intro a S));(iterate 2 (refine dqG S ?_;clear S;intro a S));refine dl (gT S ?_)
 refine sitM (msI h5 b g5 L5 x5) S (msave_c h5 b g5 L5 x5 (V2.s.loose.length+1000) ⟨by rw[hv5];exact how,hfx5,hok5⟩ (by omega) (wmL b25 2) (wmL_fit _ _) (restOf _ (msI h5 b g5 L5 x5)) _ (S.restOk _) (S.it (msI h5 b g5 L5 x5)) ((S.mem.fact (MemF x5)).split (msI h5 b g5 L5 x5)) (wmL_st ((S.mem.fact (GlF (some ⟨b25,0,none⟩) [lmS])).split (msI h5 b g5 L5 x5)))) rfl ?_;clear S;rintro _ a w ⟨L7,x7,rfl,hh7,hf7,hm7,hv7,hx7,hfx7,hok7,hst7⟩ hS
 have S:=hS (msI h5 b g5 L7 x7) [MemF x7] hh7 hf7 (by intro Φ hΦ;obtain rfl:=List.mem_singleton.1 hΦ;exact hst7)
 clear hS
 have hsv:saveM L5.v x5.m (wmL b25 2).m=(L5.v,wm1,301):=by rw[hx5];exact saveM_back (by rw[hv5];rfl) wm2_ok wm_cov2
 rw[hsv]at hv7 hx7 S
 refine de S ?_;refine dqG S ?_;clear S;intro a S
 rw[show decide ((301:Int)=301)=true from rfl]at S
 (iterate 2 (refine dq S ?_;clear S;intro a S));refine dqG S ?_;clear S;intro a S;refine dl (gT S ?_)
 refine sitM (msI h5 b g5 L7 x7) S (mget_c h5 b g5 L7 x7 hfx7 hok7 (restOf _ (msI h5 b g5 L7 x7)) _ (S.restOk _) (S.it (msI h5 b g5 L7 x7)) ((S.mem.fact (MemF x7)).split (msI h5 b g5 L7 x7))) rfl ?_;clear S;rintro _ a w ⟨hh8,y7,rfl,hy7,hfy7,hsty7⟩ hS
 have S:=hS (msI h5 b g5 L7 x7) [MemF y7] hh8 (fun k h=>.inl h) (by intro Φ hΦ;obtain rfl:=List.mem_singleton.1 hΦ;exact hsty7)
 clear hS
 have hl7:y7.seeds.length=1:=by
  have:y7.m.seeds.length=1:=by rw[hy7,hx7];rfl
  exact this
 refine de S ?_;(iterate 3 (refine dqG S ?_;clear S;intro a S))
 rw[show decide ((y7.seeds.length:Int)=1)=true from by rw[hl7];rfl]at S
 (iterate 2 (refine dq S ?_;clear S;intro a S));refine dn (xtn (kT ?_))
 exact end1 S (fun _=>rfl)
instance encMem:Enc LMem:=⟨7,fun m=>cMem m,fun _=>rfl,fun x u hu=>by simp only[List.mem_cons,List.not_mem_nil,or_false]at hu;rcases hu with rfl | rfl | rfl | rfl | rfl | rfl | rfl <;> rfl⟩
instance layMem:Lay LMem:={ encMem with
 dflt:=mem0 0
 inn:=fun w m=>Lay.inn w (⟨m.sp,m.sc,m.seeds⟩:Sl LMark)∧Lay.inn w (⟨m.vp,m.vc,m.vers⟩:Sl LMark)∧Lay.inn w (⟨m.ep,m.ec,m.seen⟩:Sl LSeen)
 mono:=fun w w' _x h hx=>⟨Lay.mono w w' _ h hx.1,Lay.mono w w' _ h hx.2.1,Lay.mono w w' _ h hx.2.2⟩ }
theorem mem_in {w:World} {m:LMem} (h:Lay.inn w m):MemF m w:=⟨h.1.2.2,h.2.1.2.2,h.2.2.2.2⟩
theorem mem_big {w:World} {m:LMem} (h:Lay.inn w m):BigM m:=by
 have h1:m.seeds.length≤m.sc∧m.sc≤maxLen:=⟨h.1.1,h.1.2.1⟩
 have h2:m.vers.length≤m.vc∧m.vc≤maxLen:=⟨h.2.1.1,h.2.1.2.1⟩
 have h3:m.seen.length≤m.ec∧m.ec≤maxLen:=⟨h.2.2.1,h.2.2.2.1⟩
 unfold maxLen at *
 exact ⟨by omega,by omega,by omega⟩
theorem r16user_c (n:Int) (w:World):Ret Tryz.prog 194 [.int .i64 n] w (fun _=>False) fun v _=>v=.bool (knownF n):=by
 refine enter Tryz.func194 rfl rfl (Wd.start w) (fun a S=>?_)
 simp only[Tryz.ntmps194,qqA,qqB,Nat.reduceAdd,Nat.reduceSub,qqC,qqD,qqE,qqF]at S
 refine kS (kR (sq S ?_));clear S;intro a S;refine kN (xtn (kS (kR ?_)));(iterate 3 (refine sq S ?_;clear S;intro a S));(iterate 2 (refine gQ S ?_;clear S;intro a S));(iterate 2 (refine sq S ?_;clear S;intro a S));refine kN (xtn (kT ?_))
 exact end1 S (fun _=>rfl)
instance {n:Int} {bs fs} : CallV Tryz.prog 194 [.int .i64 n] bs fs (.bool (knownF n)):=⟨fun w _=>r16user_c n w⟩
theorem r16counter_c (n:Int) (w:World):Ret Tryz.prog 195 [.int .i64 n] w (fun _=>False) fun v _=>v=.bool (cntS n):=by
 refine enter Tryz.func195 rfl rfl (Wd.start w) (fun a S=>?_)
 simp only[Tryz.ntmps195,qqA,qqB,Nat.reduceAdd,Nat.reduceSub,qqC,qqD,qqE,qqF]at S
 refine kS (kR (sq S ?_));clear S;intro a S;refine kN (xtn (kS (kR ?_)));(iterate 3 (refine sq S ?_;clear S;intro a S));(iterate 2 (refine gQ S ?_;clear S;intro a S));(iterate 2 (refine sq S ?_;clear S;intro a S));refine kN (xtn (kT ?_))
 exact end1 S (fun _=>rfl)
instance {n:Int} {bs fs} : CallV Tryz.prog 195 [.int .i64 n] bs fs (.bool (cntS n)):=⟨fun w _=>r16counter_c n w⟩
def lastU (l:List LSeen):Nat→Int
 | 0=>0
 | j+1=>(nthG l j).user
theorem seenB_step (l:List LSeen) (k:Nat) (hk:k < l.length):seenB (lastU l k) (ssP (l.drop k))=(decide (lastU l k < (nthG l k).user)&&knownF (nthG l k).user&&cntS (nthG l k).cnt&&decide (checkF (nthG l k).root.t=0)&&seenB (lastU l (k+1)) (ssP (l.drop (k+1)))):=by
 rw[nthG_drop hk];rfl
theorem chk_right (t:Term):decide (checkF t=0)=rightF t:=by
 rw[Bool.eq_iff_iff,decide_eq_true_eq];exact check_zero
theorem r16right_c (l:List LSeen) (p:Option Addr) (n c:Nat) (w0:World) (hn:l.length=n) (hl:n≤1000000) (hx:Stable (fun _=>False) w0 (GlF p l)) :
  Ret Tryz.prog 109 [.slice p n c] w0 (fun _=>False) fun v _=>v=.bool (seenB 0 (ssP l)):=by
 subst hn
 refine enter Tryz.func109 rfl rfl (Wd.begin (fs:=[GlF p l]) (by simpa using hx)) (fun a S=>?_)
 simp only[Tryz.ntmps109,qqA,qqB,Nat.reduceAdd,Nat.reduceSub,qqC,qqD,qqE,qqF]at S
 refine kS (kR (sq S ?_));clear S;intro a S;refine kN (xtn (kS (kS (kR ?_))));(iterate 3 (refine sq S ?_;clear S;intro a S));refine kN (xtn (kB ?_))
 refine c_fore1 S (fun(k:Nat) uu=>[(2,uu 2),(0,uu 3),(0,uu 4),(2,.int .i64 (k:Nat)),(0,uu 8),(0,uu 9),(0,uu 10),(0,uu 11),(0,uu 12),(0,uu 13),(0,uu 14),(0,uu 15),(0,uu 16),(0,uu 17),(0,uu 18),(0,uu 19),(0,uu 20),(0,uu 21),(0,uu 22),(0,uu 23),(0,uu 24),(0,uu 25),(0,uu 26),(0,uu 27),(0,uu 28),(0,uu 29),(0,uu 30),(0,uu 31),(0,uu 32),(0,uu 33),(0,uu 34),(0,uu 35),(0,uu 36),(0,uu 37),(0,uu 38),(0,uu 39),(0,uu 40),(0,uu 41),(0,uu 42),(0,uu 43)]) (fun(k:Nat)=>[]) (fun(k:Nat)=>[GlF p l]) (fun(k:Nat)=>k≤l.length∧seenB (lastU l k) (ssP (l.drop k))=seenB 0 (ssP l)) (fun(k:Nat)=>l.length - k) (0) ?_ S.uu ?_ ?_
 exact ⟨Nat.zero_le _,rfl⟩
 first | exact S | exact S.sub _ _
 clear S;rintro k uu a w ⟨hk,hrel⟩ S
 refine kS (kR (sq S ?_));clear S;intro a S;refine kN (xtn (kS ?_))
 refine kC S (fun h2=>?_) (fun h2=>?_)
 refine kK (xtn (kS (kB (kS ?_))))
 have hkl:k < l.length:=by simp at h2;omega
 have hK:KLt k l.length:=⟨hkl⟩
 replace S:=S.add (Φ:=LtF (nthG l k).root) ((S.mem.fact (GlF p l)).imp fun _ h=>h.2 _ (nthG_mem hkl))
 rw[seenB_step l k hkl,chk_right]at hrel
 have hC:CLt [!(!knownF (nthG l k).user||!cntS (nthG l k).cnt||!rightF (nthG l k).root.t),decide (0 < (k:Int))] (k - 1) l.length:=⟨fun _=>by omega⟩
 have hlast:knownF (nthG l k).user=true→decide (lastU l k < (nthG l k).user) = !(decide (0 < (k:Int))&&decide ((nthG l k).user≤(nthG l (k - 1)).user)):=fun hm=>by
  have h1:1≤(nthG l k).user:=by simp only[knownF,Bool.and_eq_true,decide_eq_true_eq]at hm;exact hm.1
  cases k with
  | zero=>rw[show lastU l 0=0 from rfl,decide_eq_true (show (0:Int) < (nthG l 0).user by omega)];rfl
  | succ j=>
   rw[show lastU l (j+1)=(nthG l j).user from rfl,show j+1 - 1=j from by omega,decide_eq_true (show (0:Int) < ((j+1:Nat):Int) by omega),Bool.true_and]
   by_cases h:(nthG l j).user < (nthG l (j+1)).user
   rw[decide_eq_true h,decide_eq_false (by omega)];rfl
   rw[decide_eq_false h,decide_eq_true (by omega)];rfl
 refine kR ?_;(iterate 3 (refine sq S ?_;clear S;intro a S));refine sa S ?_;clear S;intro b4 a w S;refine sq S ?_;clear S;intro a S;refine sw S ?_;clear S;intro a w S;refine kN (xtn (kS ?_));refine c_drawD [(0,true),(1,true),(2,false),(3,true),(4,true),(5,true),(6,true),(7,false),(8,true),(9,true),(10,true),(11,true),(12,true),(13,false),(14,true),(15,true),(16,true),(17,true),(18,true),(19,true),(20,true),(21,true),(22,true),(23,true),(24,true),(25,true),(26,true),(27,true),(28,true),(29,true),(30,true)] [] S ?_;clear S;intro w S
 (iterate 2 (refine dq S ?_;clear S;intro a S));refine dl (sc S ?_);clear S;intro a w S;refine de S ?_;(iterate 2 (refine dq S ?_;clear S;intro a S));(iterate 2 (refine dqG S ?_;clear S;intro a S));refine dl ?_;refine gC S ?_;clear S;intro a w S;refine de S ?_;refine dqG S ?_;clear S;intro a S;(iterate 2 (refine dq S ?_;clear S;intro a S));(iterate 2 (refine dqG S ?_;clear S;intro a S));refine dl ?_;refine gC S ?_;clear S;intro a w S;refine de S ?_;refine dqG S ?_;clear S;intro a S;(iterate 2 (refine dq S ?_;clear S;intro a S));(iterate 6 (refine dqG S ?_;clear S;intro a S))
 rw[gif_pred (by simp;omega) (by omega)]at S
 (iterate 7 (refine dqG S ?_;clear S;intro a S));refine dq S ?_;clear S;intro a S;refine dn (xtn ?_)
 refine kC S (fun h4=>?_) (fun h4=>?_)
 refine kS (kR (sq S ?_));clear S;intro a S;refine kN (xtn (kT (xbr (xtr (xtr (xbr (xtr ?_)))))))
 refine end1 S (fun _=>?_)
 rw[←hrel]
 cases h1:knownF (nthG l k).user with
 | false=>simp
 | true=>
  rw[hlast h1]
  rw[h1]at h4
  cases h2:cntS (nthG l k).cnt with
  | false=>simp
  | true=>
   rw[h2]at h4
   cases h3:rightF (nthG l k).root.t with
   | false=>simp
   | true=>
    rw[h3]at h4
    simp only[Bool.not_true,Bool.false_or]at h4
    rw[h4];rfl
 refine kK (xbn (xtn (kR ?_)));(iterate 2 (refine sq S ?_;clear S;intro a S));refine kN (xtn ?_)
 rw[w64 ((k:Int)+1) (by omega) (by omega)]at S
 refine ⟨k+1,S.uu,⟨hkl,?_⟩,S.sub _ _,by omega⟩
 simp only[Bool.or_eq_false_iff,Bool.not_eq_false']at h4
 rw[←hrel,hlast h4.1.1.1,h4.1.1.1,h4.1.1.2,h4.1.2,h4.2];rfl
 refine kE (xte (xte (xbe (xtn (kS (kR (sq S ?_)))))));clear S;intro a S;refine kN (xtn (kT ?_))
 rw[List.drop_of_length_le (by simp at h2;omega)]at hrel
 refine end1 S (fun _=>?_)
 rw[←hrel];rfl
instance {l:List LSeen} {p:Option Addr} {n c:Nat} {bs fs} [hg:HasG fs p LSeen laySeen l] [hn:LenN l n] [hk:LeC n 1000000]:CallV Tryz.prog 109 [.slice p n c] bs fs (.bool (seenB 0 (ssP l))):=⟨fun w m=>r16right_c l p n c w hn.eq hk.le ((hg.of _ _ m.facts).less fun _ _ h=>h.elim)⟩
def Find16R (M:Nat→Prop) (l:List LSeen) (u:Int) (v:Value) (w:World):Prop:=∃ (s:LSeen) (b:Bool),v=.tuple ⟨[.agg ⟨cSeen s⟩,.bool b]⟩∧Stable M w (LtF s.root)∧(findP (ssP l) u=if b then some s.s else none)
theorem r16find_c (l:List LSeen) (p:Option Addr) (n c:Nat) (u:Int) (M:Nat→Prop) (w0:World) (hn:l.length=n) (hl:n≤1000000) (hM:∀ k,M k→k < w0.heap.size) (hx:Stable M w0 (GlF p l)) :
  Ret Tryz.prog 127 [.slice p n c,.int .i64 u] w0 (fun _=>False) fun v w'=>Find16R M l u v w':=by
 subst hn
 refine enter Tryz.func127 rfl rfl (Wd.beginM (M:=M) (fs:=[GlF p l]) hM (by simpa using hx)) (fun a S=>?_)
 simp only[Tryz.ntmps127,qqA,qqB,Nat.reduceAdd,Nat.reduceSub,qqC,qqD,qqE,qqF]at S
 refine kS (kR ?_);refine sa S ?_;clear S;intro b4 a w S;refine sq S ?_;clear S;intro a S;refine kN (xtn (kS (kS (kR ?_))));(iterate 3 (refine sq S ?_;clear S;intro a S));refine kN (xtn (kB ?_))
 refine c_forb1 S (fun(k:Nat) uu=>[(5,uu 5),(1,uu 7),(2,.int .i64 (k:Nat)),(0,uu 11),(0,uu 12),(0,uu 13),(0,uu 14),(0,uu 15),(0,uu 16),(0,uu 17),(0,uu 18),(0,uu 19)]) (fun(k:Nat)=>k≤l.length∧∀ a,a < k→(nthG l a).user≠u) (fun(k:Nat)=>l.length - k) (0) ?_ S.uu ?_ ?_
 exact ⟨Nat.zero_le _,fun a h=>absurd h (Nat.not_lt_zero a)⟩
 first | exact S | exact S.sub _ _
 clear S;rintro k uu a w ⟨hk,hrel⟩ S
 refine kS (kR (sq S ?_));clear S;intro a S;refine kN (xtn (kS ?_))
 refine kC S (fun h2=>?_) (fun h2=>?_)
 refine kK (xtn (kS (kB (kS ?_))))
 have hkl:k < l.length:=by have:=of_decide_eq_true h2;omega
 have hK:KLt k l.length:=⟨hkl⟩
 replace S:=S.add (Φ:=LtF (nthG l k).root) ((S.mem.fact (GlF p l)).imp fun _ h=>h.2 _ (nthG_mem hkl))
 refine kR ?_;(iterate 2 (refine sq S ?_;clear S;intro a S));refine sa S ?_;clear S;intro b7 a w S;refine sw S ?_;clear S;intro a w S;refine kN (xtn (kS (kR ?_)));(iterate 4 (refine sq S ?_;clear S;intro a S));refine kN (xtn ?_)
 refine kC S (fun h4=>?_) (fun h4=>?_)
 refine kS (kR (sq S ?_));clear S;intro a S;refine sw S ?_;clear S;intro a w S;refine sq S ?_;clear S;intro a S;refine kN (xtn (kT (xbr (xtr (xtr (xbr (xtr ?_)))))))
 have hf:=S.laterT (M:=M) (nthG l k).root
 refine end2 S (fun _=>⟨nthG l k,true,rfl,hf,?_⟩)
 exact findP_some l u k hkl (of_decide_eq_true h4) hrel
 refine kK (xbn (xtn (kR ?_)));(iterate 2 (refine sq S ?_;clear S;intro a S));refine kN (xtn ?_)
 rw[w64 ((k:Int)+1) (by omega) (by omega)]at S
 refine ⟨k+1,S.uu,⟨hkl,fun a ha=>?_⟩,S.sub _ _,by omega⟩
 rcases Nat.lt_succ_iff_lt_or_eq.1 ha with h | rfl
 exact hrel a h
 exact of_decide_eq_false h4
 refine kE (xte (xte (xbe (xtn (kS (kR (sq S ?_)))))));clear S;intro a S;refine sw S ?_;clear S;intro a w S;refine sq S ?_;clear S;intro a S;refine kN (xtn (kT ?_))
 refine end2 S (fun _=>⟨zeroS,false,rfl,fun _ _=>zeroL_in _,?_⟩)
 exact findP_none l u fun a ha=>hrel a (by have:=of_decide_eq_false h2;omega)
theorem any_take {α:Type} [Lay α] (f:α→Bool) (l:List α) (k:Nat) (hk:k < l.length):(l.take (k+1)).any f=((l.take k).any f||f (nthG l k)):=by
 rw[nthG_take hk,List.any_append];simp
theorem r16covers_c (old now:List LMark) (p q:Option Addr) (c e:Nat) (w0:World) (hl:old.length≤1000000) (hl2:now.length≤1000000) (hx:Stable (fun _=>False) w0 (GlF p old)) (hy:Stable (fun _=>False) w0 (GlF q now)) :
  Ret Tryz.prog 126 [.slice p old.length c,.slice q now.length e] w0 (fun _=>False) fun v _=>v=.bool (covM old now):=by
 refine enter Tryz.func126 rfl rfl (Wd.begin (fs:=[GlF p old,GlF q now]) (by simp;exact ⟨hx,hy⟩)) (fun a S=>?_)
 simp only[Tryz.ntmps126,qqA,qqB,Nat.reduceAdd,Nat.reduceSub,qqC,qqD,qqE,qqF]at S
 refine kS (kR (sq S ?_));clear S;intro a S;refine kN (xtn (kS (kS (kR ?_))));(iterate 3 (refine sq S ?_;clear S;intro a S));refine kN (xtn (kB ?_))
 refine c_fore1 S (fun(k:Nat) uu=>[(4,uu 4),(1,uu 6),(0,uu 7),(1,uu 9),(2,.int .i64 (k:Nat)),(0,uu 13),(0,uu 14),(0,uu 15),(0,uu 16),(0,uu 17),(0,uu 18),(0,uu 19),(0,uu 20),(0,uu 21),(0,uu 22),(0,uu 23),(0,uu 24),(0,uu 25),(0,uu 26),(0,uu 27),(0,uu 28),(0,uu 29),(0,uu 30),(0,uu 31),(0,uu 32),(0,uu 33),(0,uu 34),(0,uu 35),(0,uu 36),(0,uu 37),(0,uu 38),(0,uu 39),(0,uu 40)]) (fun(k:Nat)=>[]) (fun(k:Nat)=>[GlF p old,GlF q now]) (fun(k:Nat)=>k≤old.length∧((old.take k).any fun m=>!now.any (covK m))=false) (fun(k:Nat)=>old.length - k) (0) ?_ S.uu ?_ ?_
 exact ⟨Nat.zero_le _,rfl⟩
 first | exact S | exact S.sub _ _
 clear S;rintro k uu a w ⟨hk,hrel⟩ S
 refine kS (kR (sq S ?_));clear S;intro a S;refine kN (xtn (kS ?_))
 refine kC S (fun h2=>?_) (fun h2=>?_)
 refine kK (xtn (kS (kB (kS ?_))))
 have hkl:k < old.length:=by have:=of_decide_eq_true h2;omega
 have hK:KLt k old.length:=⟨hkl⟩
 refine kR ?_;(iterate 2 (refine sq S ?_;clear S;intro a S));refine sa S ?_;clear S;intro b6 a w S;refine sw S ?_;clear S;intro a w S;refine kN (xtn (kS (kR (sq S ?_))));clear S;intro a S;refine kN (xtn (kS (kS (kR ?_))));(iterate 3 (refine sq S ?_;clear S;intro a S));refine kN (xtn (kB ?_))
 refine c_fore2 S (fun(j:Nat) (ok:Bool) uu=>[(7,.bool ok),(1,uu 9),(8,.int .i64 (j:Nat)),(0,uu 19),(0,uu 20),(0,uu 21),(0,uu 22),(0,uu 23),(0,uu 24),(0,uu 25),(0,uu 26),(0,uu 27),(0,uu 28),(0,uu 29),(0,uu 30),(0,uu 31),(0,uu 32),(0,uu 33),(0,uu 34),(0,uu 35),(0,uu 36),(0,uu 37)]) (fun(j:Nat) (ok:Bool)=>[Wk.box b6 177 [str (nthG old k).key,.int .i64 (nthG old k).ver]]) (fun(j:Nat) (ok:Bool)=>[GlF p old,GlF q now]) (fun(j:Nat) (ok:Bool)=>j≤now.length∧ok=(now.take j).any (covK (nthG old k))) (fun(j:Nat) (ok:Bool)=>now.length - j) (0) (false) ?_ S.uu ?_ ?_
 exact ⟨Nat.zero_le _,rfl⟩
 first | exact S | exact S.sub _ _
 clear S;rintro j ok uu a w ⟨hj,hok⟩ S
 refine kS (kR (sq S ?_));clear S;intro a S;refine kN (xtn (kS ?_))
 refine kC S (fun h6=>?_) (fun h6=>?_)
 refine kK (xtn (kS (kB (kS ?_))))
 have hjl:j < now.length:=by have:=of_decide_eq_true h6;omega
 have hK:KLt j now.length:=⟨hjl⟩
 refine kR ?_;(iterate 2 (refine sq S ?_;clear S;intro a S));refine sa S ?_;clear S;intro b9 a w S;refine sw S ?_;clear S;intro a w S;refine kN (xtn (kR ?_));(iterate 2 (refine sq S ?_;clear S;intro a S));(iterate 12 (refine gQ S ?_;clear S;intro a S));(iterate 2 (refine sq S ?_;clear S;intro a S));refine kN (xbn (xtn (kR ?_)));(iterate 2 (refine sq S ?_;clear S;intro a S));refine kN (xtn ?_)
 rw[w64 ((j:Int)+1) (by omega) (by omega),show (j:Int)+1=((j+1:Nat):Int) from rfl]at S
 refine ⟨j+1,_,S.uu,⟨hjl,?_⟩,S.sub _ _,by omega⟩
 rw[any_take _ _ _ hjl,←hok];rfl
 refine kE (xte (xte (xbe (xtn (kS ?_)))))
 have hje:j=now.length:=by have:=of_decide_eq_false h6;omega
 rw[List.take_of_length_le (by omega)]at hok
 refine kR ?_;(iterate 2 (refine sq S ?_;clear S;intro a S));refine kN (xtn ?_)
 refine kC S (fun h10=>?_) (fun h10=>?_)
 refine kS (kR (sq S ?_));clear S;intro a S;refine kN (xtn (kT (xbr (xtr (xtr (xbr (xtr ?_)))))))
 refine end1 S (fun _=>?_)
 have:(old.any fun m=>!now.any (covK m))=true:=List.any_eq_true.2 ⟨nthG old k,nthG_mem hkl,by rw[←hok];simpa using h10⟩
 rw[covM,this];rfl
 refine kK (xbn (xtn (kR ?_)));(iterate 2 (refine sq S ?_;clear S;intro a S));refine kN (xtn ?_)
 rw[w64 ((k:Int)+1) (by omega) (by omega)]at S
 refine ⟨k+1,S.uu,⟨hkl,?_⟩,S.sub _ _,by omega⟩
 rw[any_take _ _ _ hkl,hrel,←hok];simpa using h10
 refine kE (xte (xte (xbe (xtn (kS (kR (sq S ?_)))))));clear S;intro a S;refine kN (xtn (kT ?_))
 refine end1 S (fun _=>?_)
 rw[List.take_of_length_le (by have:=of_decide_eq_false h2;omega)]at hrel
 rw[covM,hrel];rfl
theorem r16same_c (xs ys:List LSeen) (p q:Option Addr) (c e:Nat) (w0:World) (hl:xs.length≤1000000) (hx:Stable (fun _=>False) w0 (GlF p xs)) (hy:Stable (fun _=>False) w0 (GlF q ys)) :
  Ret Tryz.prog 133 [.slice p xs.length c,.slice q ys.length e] w0 (fun _=>False) fun v _=>∃ b,v=.bool b∧(b=true↔ssP xs=ssP ys):=by
 refine enter Tryz.func133 rfl rfl (Wd.begin (fs:=[GlF p xs,GlF q ys]) (by simp;exact ⟨hx,hy⟩)) (fun a S=>?_)
 simp only[Tryz.ntmps133,qqA,qqB,Nat.reduceAdd,Nat.reduceSub,qqC,qqD,qqE,qqF]at S
 refine kS (kR (sq S ?_));clear S;intro a S;refine kN (xtn (kS (kS (kR ?_))));(iterate 5 (refine sq S ?_;clear S;intro a S));refine kN (xtn ?_)
 refine kC S (fun h1=>?_) (fun h1=>?_)
 refine kS (kR (sq S ?_));clear S;intro a S;refine kN (xtn (kT (xtr ?_)))
 refine end1 S (fun _=>⟨false,rfl,⟨nofun,fun he=>?_⟩⟩)
 have:=congrArg List.length he
 simp only[ssP,List.length_map]at this
 simp at h1;omega
 refine kK (xtn (kS (kS (kR ?_))));(iterate 3 (refine sq S ?_;clear S;intro a S));refine kN (xtn (kB ?_))
 have hle:xs.length=ys.length:=by simp at h1;omega
 refine c_fore1 S (fun(k:Nat) uu=>[(4,uu 4),(0,uu 5),(7,.int .i64 (k:Nat)),(0,uu 14),(0,uu 15),(0,uu 16),(0,uu 17),(0,uu 18),(0,uu 19),(0,uu 20),(0,uu 21),(0,uu 22),(0,uu 23),(0,uu 24),(0,uu 25),(0,uu 26),(0,uu 27),(0,uu 28),(0,uu 29),(0,uu 30),(0,uu 31),(0,uu 32),(0,uu 33),(0,uu 34),(0,uu 35),(0,uu 36),(0,uu 37),(0,uu 38),(0,uu 39),(0,uu 40),(0,uu 41),(0,uu 42),(0,uu 43),(0,uu 44),(0,uu 45),(0,uu 46),(0,uu 47),(0,uu 48),(0,uu 49),(0,uu 50),(0,uu 51),(0,uu 52),(0,uu 53),(0,uu 54)]) (fun(k:Nat)=>[]) (fun(k:Nat)=>[GlF p xs,GlF q ys]) (fun(k:Nat)=>k≤xs.length∧∀ a,a < k→(nthG xs a).s=(nthG ys a).s) (fun(k:Nat)=>xs.length - k) (0) ?_ S.uu ?_ ?_
 exact ⟨Nat.zero_le _,fun a h=>absurd h (Nat.not_lt_zero a)⟩
 first | exact S | exact S.sub _ _
 clear S;rintro k uu a w ⟨hk,hsm⟩ S
 refine kS (kR (sq S ?_));clear S;intro a S;refine kN (xtn (kS ?_))
 refine kC S (fun h4=>?_) (fun h4=>?_)
 refine kK (xtn (kS (kB (kS ?_))))
 have hkl:k < xs.length:=by have:=of_decide_eq_true h4;omega
 have hK:KLt k xs.length:=⟨hkl⟩
 have hK2:KLt k ys.length:=⟨by omega⟩
 replace S:=S.add (Φ:=LtF (nthG xs k).root) ((S.mem.fact (GlF p xs)).imp fun _ h=>h.2 _ (nthG_mem hkl))
 replace S:=S.add (Φ:=LtF (nthG ys k).root) ((S.mem.fact (GlF q ys)).imp fun _ h=>h.2 _ (nthG_mem (by omega)))
 refine kR ?_;(iterate 2 (refine sq S ?_;clear S;intro a S));refine kN (xtn (kS ?_));refine c_drawD [(0,true),(1,true),(2,true),(3,true),(4,true),(5,true),(6,true),(7,true),(8,true),(9,true),(10,true),(11,true),(12,true),(13,true),(14,true),(15,true),(16,true),(17,true),(18,true),(19,true),(20,true),(21,true),(22,true),(23,true),(24,true),(25,true),(26,true),(27,true),(28,true),(29,true),(30,true),(31,true),(32,true),(33,true),(34,true),(35,false),(36,true),(37,true)] [] S ?_;clear S;intro w S
 (iterate 12 (refine dq S ?_;clear S;intro a S));(iterate 11 (refine dqG S ?_;clear S;intro a S));(iterate 2 (refine dq S ?_;clear S;intro a S));(iterate 10 (refine dqG S ?_;clear S;intro a S));refine dl ?_;refine gC S ?_;clear S;intro a w S;refine de S ?_;refine dqG S ?_;clear S;intro a S;refine dq S ?_;clear S;intro a S;refine dn (xtn ?_)
 refine kC S (fun h6=>?_) (fun h6=>?_)
 refine kS (kR (sq S ?_));clear S;intro a S;refine kN (xtn (kT (xbr (xtr (xtr (xbr (xtr ?_)))))))
 refine end1 S (fun _=>⟨false,rfl,⟨nofun,fun he=>?_⟩⟩)
 have e1:(ssP xs)[k]? = some (nthG xs k).s:=by rw[ssP,List.getElem?_map,nthG_get hkl];rfl
 have e2:(ssP ys)[k]? = some (nthG ys k).s:=by rw[ssP,List.getElem?_map,nthG_get (by omega)];rfl
 rw[he,e2]at e1
 have h7:=same_s.2 (Option.some.inj e1).symm
 simp only[Bool.and_eq_true]at h7
 rw[h7.1.1,h7.1.2,h7.2]at h6;cases h6
 refine kK (xbn (xtn (kR ?_)));(iterate 2 (refine sq S ?_;clear S;intro a S));refine kN (xtn ?_)
 rw[w64 ((k:Int)+1) (by omega) (by omega)]at S
 refine ⟨k+1,S.uu,⟨hkl,fun b hb=>?_⟩,S.sub _ _,by omega⟩
 rcases Nat.lt_succ_iff_lt_or_eq.1 hb with h | rfl
 exact hsm b h
 refine same_s.1 ?_
 simp only[Bool.or_eq_false_iff,Bool.not_eq_false']at h6
 rw[h6.1.1,h6.1.2,h6.2];rfl
 refine kE (xte (xte (xbe (xtn (kS (kR (sq S ?_)))))));clear S;intro a S;refine kN (xtn (kT ?_))
 refine end1 S (fun _=>⟨true,rfl,⟨fun _=>?_,fun _=>rfl⟩⟩)
 refine List.ext_getElem? fun i=>?_
 rcases Nat.lt_or_ge i xs.length with h | h
 rw[ssP,ssP,List.getElem?_map,List.getElem?_map,nthG_get h,nthG_get (by omega)]
 exact congrArg some (hsm i (by have:=of_decide_eq_false h4;omega))
 rw[List.getElem?_eq_none (by rw[ssP,List.length_map];omega),List.getElem?_eq_none (by rw[ssP,List.length_map];omega)]
theorem r20counted_c (n:Int) (w:World):Ret Tryz.prog 106 [.int .i64 n] w (fun _=>False) fun v _=>v=.bool (cntK n):=by
 refine enter Tryz.func106 rfl rfl (Wd.start w) (fun a S=>?_)
 simp only[Tryz.ntmps106,qqA,qqB,Nat.reduceAdd,Nat.reduceSub,qqC,qqD,qqE,qqF]at S
 refine kS (kR (sq S ?_));clear S;intro a S;refine kN (xtn (kS (kR ?_)));(iterate 3 (refine sq S ?_;clear S;intro a S));(iterate 2 (refine gQ S ?_;clear S;intro a S));(iterate 2 (refine sq S ?_;clear S;intro a S));refine kN (xtn (kT ?_))
 exact end1 S (fun _=>rfl)
instance {n:Int} {bs fs} : CallV Tryz.prog 106 [.int .i64 n] bs fs (.bool (cntK n)):=⟨fun w _=>r20counted_c n w⟩
theorem r20two_c (n:Int) (w0:World):Ret Tryz.prog 134 [.int .i64 n] w0 (fun _=>False) fun v w'=>
  ∃ (p':Option Addr) (c':Nat),v=.slice p' 2 c'∧w'.ownsRow 0 5 1 (.slice p' 2 c') 2 (encL (twoB n))∧∀ ad,p'=some ad→w0.heap.size≤ad.block:=by
 obtain ⟨x7,hx7,hx7l,hx7b⟩:=wu64_nat n
 refine enter Tryz.func134 rfl rfl (Wd.start w0) (fun a S=>?_)
 simp only[Tryz.ntmps134,qqA,qqB,Nat.reduceAdd,Nat.reduceSub,qqC,qqD,qqE,qqF]at S
 refine kS (kR (sq S ?_));clear S;intro a S;refine kN (xtn (kS (kR ?_)));(iterate 2 (refine sq S ?_;clear S;intro a S))
 rw[hx7]at S
 refine srn S (rhigh_c x7 2 _ hx7l (by decide)) ?_;clear S;rintro _ a w ⟨p7,c7,rfl,hown,hnew⟩ hS -
 have S:=hS hown hnew
 clear hS
 rw[hx7b,be_len]at S
 refine sq S ?_;clear S;intro a S;refine kN (xtn (kT ?_))
 have hrow:=S.row p7 2
 have hnew:=S.rowNew p7 2
 exact end1 S (fun _=>⟨p7,c7,rfl,hrow,fun ad h=>(hnew ad h).elim (fun h=>h.elim) id⟩)
theorem r20some_c (s:List UInt8) (n:Nat) (hl:s.length≤100000000) (hn:n≤8) (w0:World):Ret Tryz.prog 135 [str s,.int .i64 (n:Int)] w0 (fun _=>False) fun v w'=>
  ∃ (p':Option Addr) (c':Nat),v=.slice p' (be n (s.length:Int)++s).length c'∧w'.ownsRow 0 5 1 (.slice p' (be n (s.length:Int)++s).length c') (be n (s.length:Int)++s).length (encL (be n (s.length:Int)++s))∧∀ ad,p'=some ad→w0.heap.size≤ad.block:=by
 refine enter Tryz.func135 rfl rfl (Wd.start w0) (fun a S=>?_)
 simp only[Tryz.ntmps135,qqA,qqB,Nat.reduceAdd,Nat.reduceSub,qqC,qqD,qqE,qqF]at S
 refine kS (kR (sq S ?_));clear S;intro a S;refine kN (xtn (kS (kR ?_)));(iterate 3 (refine sq S ?_;clear S;intro a S))
 rw[show IntKind.u64.wrap (s.length:Int)=(s.length:Int) from by unfold IntKind.wrap;simp only[IntKind.bits,IntKind.signed,Bool.false_and];simp;omega]at S
 refine sq S ?_;clear S;intro a S
 refine srn S (rhigh_c s.length n _ (by omega) (by omega)) ?_;clear S;rintro _ a w ⟨p7,c7,rfl,hown,hnew⟩ hS -
 have S:=hS hown hnew
 clear hS
 rw[beN_be,be_len]at S
 refine sq S ?_;clear S;intro a S
 refine sap S (by simp[maxLen];omega) (by omega) ?_;clear S;rintro p1 c1 a w - S
 rw[←encL_append,show n+s.length=(be n (s.length:Int)++s).length from by rw[List.length_append,be_len]]at S
 refine sq S ?_;clear S;intro a S;refine kN (xtn (kT ?_))
 have hrow:=S.row p1 (be n (s.length:Int)++s).length
 have hnew:=S.rowNew p1 (be n (s.length:Int)++s).length
 exact end1 S (fun _=>⟨p1,c1,rfl,hrow,fun ad h=>(hnew ad h).elim (fun h=>h.elim) id⟩)
def lastS (l:List LMark):Nat→List UInt8
 | 0=>[]
 | j+1=>(nthG l j).key
theorem riseS_step (u:Int) (l:List LMark) (k:Nat) (hk:k < l.length):riseS u (lastS l k) (l.drop k)=(namedB u (nthG l k).key&&Op.bytesLess (lastS l k) (nthG l k).key&&decide (0 < (nthG l k).ver)&&cntK (nthG l k).ver&&riseS u (lastS l (k+1)) (l.drop (k+1))):=by
 rw[nthG_drop hk];rfl
theorem named_own {u:Int} (hu:knownF u=true) (s:List UInt8):namedB u s=decide (ownN s=u):=by rw[namedB,hu,Bool.true_and]
theorem r20right_c (m:LMem) (hfit:FitM m) (w0:World) (hm:Stable (fun _=>False) w0 (MemF m)):Ret Tryz.prog 35 [vMem m] w0 (fun _=>False) fun v _=>v=.bool (memB m.m):=by
 have hl1:=hfit.seeds
 have hl2:=hfit.vers
 have hl3:=hfit.seen
 have e0:memB m.m=(headB m.m&&riseS m.user [] m.seeds&&okM m.vers&&seenB 0 (ssP m.seen)):=rfl
 have eh:headB m.m=(decide (1≤m.user)&&decide (m.user≤6)&&(cntK m.leaf&&(cntK m.counter&&cntK m.num))&&decide ((m.seeds.length:Int)≤6)):=rfl
 have hL2:LeC m.vers.length 1000000:=⟨by omega⟩
 have hL3:LeC m.seen.length 1000000:=⟨by omega⟩
 refine enter Tryz.func35 rfl rfl (Wd.begin (fs:=[GlF m.sp m.seeds,GlF m.vp m.vers,GlF m.ep m.seen]) (by simp;exact ⟨hm.imp fun _ h=>h.1,hm.imp fun _ h=>h.2.1,hm.imp fun _ h=>h.2.2⟩)) (fun a S=>?_)
 simp only[Tryz.ntmps35,qqA,qqB,Nat.reduceAdd,Nat.reduceSub,qqC,qqD,qqE,qqF]at S
 refine kS (kR ?_);refine sa S ?_;clear S;intro b1 a w S;refine sq S ?_;clear S;intro a S;refine kN (xtn (kS (kS (kR ?_))));(iterate 4 (refine sq S ?_;clear S;intro a S));(iterate 3 (refine gQ S ?_;clear S;intro a S));(iterate 2 (refine sq S ?_;clear S;intro a S));(iterate 2 (refine gQ S ?_;clear S;intro a S));refine gC S ?_;clear S;intro a w S;refine gQ S ?_;clear S;intro a S;(iterate 2 (refine sq S ?_;clear S;intro a S))
 (iterate 2 (refine gQ S ?_;clear S;intro a S));refine gC S ?_;clear S;intro a w S;refine gQ S ?_;clear S;intro a S;(iterate 2 (refine sq S ?_;clear S;intro a S));(iterate 2 (refine gQ S ?_;clear S;intro a S));refine gC S ?_;clear S;intro a w S;refine gQ S ?_;clear S;intro a S;(iterate 2 (refine sq S ?_;clear S;intro a S));(iterate 4 (refine gQ S ?_;clear S;intro a S));refine sq S ?_;clear S;intro a S;refine kN (xtn ?_)
 refine kC S (fun h1=>?_) (fun h1=>?_)
 refine kS (kR (sq S ?_));clear S;intro a S;refine kN (xtn (kT (xtr ?_)))
 refine end1 S (fun _=>?_)
 have:headB m.m=false:=by
  rw[eh]
  simp only[Bool.or_eq_true,Bool.not_eq_true',decide_eq_true_eq]at h1
  simp only[Bool.and_eq_false_iff,decide_eq_false_iff_not]
  rcases h1 with ((((h | h) | h) | h) | h) | h
  exact .inl (.inl (.inl (by omega)))
  exact .inl (.inl (.inr (by omega)))
  exact .inl (.inr (.inl h))
  exact .inl (.inr (.inr (.inl h)))
  exact .inl (.inr (.inr (.inr h)))
  exact .inr (by omega)
 rw[e0,this];rfl
 refine kK (xtn (kS (kS ?_)))
 simp only[Bool.or_eq_false_iff,Bool.not_eq_false',decide_eq_false_iff_not]at h1
 have hu:1≤m.user∧m.user≤6:=⟨by have:=h1.1.1.1.1.1;omega,by have:=h1.1.1.1.1.2;omega⟩
 have hhd:headB m.m=true:=by
  rw[eh]
  simp only[Bool.and_eq_true,decide_eq_true_eq]
  exact ⟨⟨hu,h1.1.1.1.2,h1.1.1.2,h1.1.2⟩,by have:=h1.2;omega⟩
 have hku:knownF m.user=true:=by simp only[knownF,Bool.and_eq_true,decide_eq_true_eq];exact hu
 refine kR ?_;(iterate 4 (refine sq S ?_;clear S;intro a S));refine kN (xtn (kB ?_))
 refine c_fore1 S (fun(k:Nat) uu=>[(2,uu 2),(0,uu 3),(0,uu 4),(35,.int .i64 (k:Nat)),(0,uu 41),(0,uu 42),(0,uu 43),(0,uu 44),(0,uu 45),(0,uu 46),(0,uu 47),(0,uu 48),(0,uu 49),(0,uu 50),(0,uu 51),(0,uu 52),(0,uu 53),(0,uu 54),(0,uu 55),(0,uu 56),(0,uu 57),(0,uu 58),(0,uu 59),(0,uu 60),(0,uu 61),(0,uu 62),(0,uu 63),(0,uu 64),(0,uu 65),(0,uu 66),(0,uu 67),(0,uu 68),(0,uu 69),(0,uu 70),(0,uu 71),(0,uu 72),(0,uu 73),(0,uu 74),(0,uu 75),(0,uu 76),(0,uu 77)]) (fun(k:Nat)=>[Wk.box b1 67 (cMem m)]) (fun(k:Nat)=>[GlF m.sp m.seeds,GlF m.vp m.vers,GlF m.ep m.seen]) (fun(k:Nat)=>k≤m.seeds.length∧riseS m.user (lastS m.seeds k) (m.seeds.drop k)=riseS m.user [] m.seeds) (fun(k:Nat)=>m.seeds.length - k) (0) ?_ S.uu ?_ ?_
 exact ⟨Nat.zero_le _,rfl⟩
 first | exact S | exact S.sub _ _
 clear S;rintro k uu a w ⟨hk,hrel⟩ S
 refine kS (kR (sq S ?_));clear S;intro a S;refine kN (xtn (kS ?_))
 refine kC S (fun h4=>?_) (fun h4=>?_)
 refine kK (xtn (kS (kB (kS ?_))))
 have hkl:k < m.seeds.length:=by have:=of_decide_eq_true h4;omega
 have hK:KLt k m.seeds.length:=⟨hkl⟩
 have hN:LeC (nthG m.seeds k).key.length 1000000:=⟨by have:=hfit.names _ (nthG_mem hkl);omega⟩
 rw[riseS_step m.user m.seeds k hkl,named_own hku]at hrel
 have hC:CLt [!(!decide (ownN (nthG m.seeds k).key=m.user)||decide ((nthG m.seeds k).ver < 1)||decide (65535 < (nthG m.seeds k).ver)),decide (0 < (k:Int))] (k - 1) m.seeds.length:=⟨fun _=>by omega⟩
 have hlast:decide (ownN (nthG m.seeds k).key=m.user)=true→Op.bytesLess (lastS m.seeds k) (nthG m.seeds k).key=(!(decide (0 < (k:Int))&&!Op.bytesLess (nthG m.seeds (k - 1)).key (nthG m.seeds k).key)):=fun hn=>by
  cases k with
  | zero=>
   have hne:(nthG m.seeds 0).key≠[]:=fun h=>by
    have h3:=(ownN_known (s:=(nthG m.seeds 0).key) (by have:=of_decide_eq_true hn;omega)).1
    rw[h]at h3;simp at h3
   rw[show lastS m.seeds 0=[] from rfl,bl_nil hne];rfl
  | succ j=>
   rw[show lastS m.seeds (j+1)=(nthG m.seeds j).key from rfl,show j+1 - 1=j from by omega,decide_eq_true (by omega:(0:Int) < ((j+1:Nat):Int))]
   simp
 refine kR ?_;(iterate 3 (refine sq S ?_;clear S;intro a S));refine sa S ?_;clear S;intro b4 a w S;refine sq S ?_;clear S;intro a S;refine sw S ?_;clear S;intro a w S;refine kN (xtn (kS ?_));refine c_drawD [(0,true),(1,true),(3,true),(4,true),(2,false),(5,true),(6,true),(7,true),(8,true),(9,true),(10,true),(11,true),(12,true),(13,true),(14,true),(15,true),(16,true),(17,true),(18,true),(19,true),(20,true),(21,true),(22,true),(23,true),(24,true),(25,true),(26,true),(27,true),(28,true),(29,true),(30,true),(31,true)] [] S ?_;clear S;intro w S
 (iterate 4 (refine dq S ?_;clear S;intro a S));refine dl (sc S ?_);clear S;intro a w S;refine de S ?_;(iterate 2 (refine dq S ?_;clear S;intro a S));(iterate 3 (refine dqG S ?_;clear S;intro a S));(iterate 2 (refine dq S ?_;clear S;intro a S));(iterate 3 (refine dqG S ?_;clear S;intro a S));(iterate 2 (refine dq S ?_;clear S;intro a S));(iterate 7 (refine dqG S ?_;clear S;intro a S))
 rw[gif_pred (by simp;omega) (by omega)]at S
 (iterate 7 (refine dqG S ?_;clear S;intro a S));refine dq S ?_;clear S;intro a S;refine dn (xtn ?_)
 refine kC S (fun h6=>?_) (fun h6=>?_)
 refine kS (kR (sq S ?_));clear S;intro a S;refine kN (xtn (kT (xbr (xtr (xtr (xbr (xtr ?_)))))))
 refine end1 S (fun _=>?_)
 have:riseS m.user [] m.seeds=false:=by
  rw[←hrel]
  cases h1:decide (ownN (nthG m.seeds k).key=m.user) with
  | false=>simp
  | true=>
   rw[hlast h1]
   rw[h1]at h6
   by_cases h2:(nthG m.seeds k).ver < 1
   rw[decide_eq_false (show ¬0 < (nthG m.seeds k).ver by omega)];simp
   by_cases h3:65535 < (nthG m.seeds k).ver
   rw[show cntK (nthG m.seeds k).ver=false from by rw[cntK,decide_eq_false (show ¬(nthG m.seeds k).ver≤65535 by omega),Bool.and_false]];simp
   rw[decide_eq_false h2,decide_eq_false h3]at h6
   simp only[Bool.not_true,Bool.false_or]at h6
   rw[h6];rfl
 rw[e0,this,Bool.and_false];rfl
 refine kK (xbn (xtn (kR ?_)));(iterate 2 (refine sq S ?_;clear S;intro a S));refine kN (xtn ?_)
 rw[w64 ((k:Int)+1) (by omega) (by omega)]at S
 refine ⟨k+1,S.uu,⟨hkl,?_⟩,S.sub _ _,by omega⟩
 simp only[Bool.or_eq_false_iff,Bool.not_eq_false']at h6
 have h2:=of_decide_eq_false h6.1.1.2
 have h3:=of_decide_eq_false h6.1.2
 rw[←hrel,hlast h6.1.1.1,h6.1.1.1,h6.2,decide_eq_true (show 0 < (nthG m.seeds k).ver by omega),show cntK (nthG m.seeds k).ver=true from by rw[cntK,decide_eq_true (show 0≤(nthG m.seeds k).ver by omega),decide_eq_true (show (nthG m.seeds k).ver≤65535 by omega)];rfl];rfl
 refine kE (xte (xte (xbe (xtn (kS (kR ?_))))));(iterate 2 (refine sq S ?_;clear S;intro a S));refine sc S ?_;clear S;intro a w S;refine sq S ?_;clear S;intro a S;(iterate 2 (refine gQ S ?_;clear S;intro a S));refine gC S ?_;clear S;intro a w S;(iterate 2 (refine sq S ?_;clear S;intro a S));refine kN ?_;refine xtn (kT ?_)
 rw[List.drop_of_length_le (by have:=of_decide_eq_false h4;omega),riseS]at hrel
 refine end1 S (fun _=>?_)
 rw[e0,hhd,←hrel,Bool.true_and]
 rfl
instance {m:LMem} {bs fs} [hf:MemFit m] [h:HasFact fs (MemF m)]:CallV Tryz.prog 35 [vMem m] bs fs (.bool (memB m.m)):=⟨fun w mm=>r20right_c m hf.fit w ((mm.facts _ h.mem).less fun _ _ h=>h.elim)⟩
theorem any_eq_mem (x:LMark) (l:List LMark):(l.any fun y=>decide (y=x))=decide (x∈l):=by
 rw[Bool.eq_iff_iff,List.any_eq_true,decide_eq_true_eq]
 constructor
 rintro ⟨y,hy,h⟩;rw[←of_decide_eq_true h];exact hy
 intro h;exact ⟨x,h,decide_eq_true rfl⟩
theorem r20seeds_c (old now:List LMark) (p q:Option Addr) (c e:Nat) (w0:World) (hl:old.length≤1000000) (hl2:now.length≤1000000) (hx:Stable (fun _=>False) w0 (GlF p old)) (hy:Stable (fun _=>False) w0 (GlF q now)) :
  Ret Tryz.prog 125 [.slice p old.length c,.slice q now.length e] w0 (fun _=>False) fun v _=>v=.bool (old.all fun s=>decide (s∈now)):=by
 refine enter Tryz.func125 rfl rfl (Wd.begin (fs:=[GlF p old,GlF q now]) (by simp;exact ⟨hx,hy⟩)) (fun a S=>?_)
 simp only[Tryz.ntmps125,qqA,qqB,Nat.reduceAdd,Nat.reduceSub,qqC,qqD,qqE,qqF]at S
 refine kS (kR (sq S ?_));clear S;intro a S;refine kN (xtn (kS (kS (kR ?_))));(iterate 3 (refine sq S ?_;clear S;intro a S));refine kN (xtn (kB ?_))
 refine c_fore1 S (fun(k:Nat) uu=>[(4,uu 4),(1,uu 6),(0,uu 7),(1,uu 9),(2,.int .i64 (k:Nat)),(0,uu 13),(0,uu 14),(0,uu 15),(0,uu 16),(0,uu 17),(0,uu 18),(0,uu 19),(0,uu 20),(0,uu 21),(0,uu 22),(0,uu 23),(0,uu 24),(0,uu 25),(0,uu 26),(0,uu 27),(0,uu 28),(0,uu 29),(0,uu 30),(0,uu 31)]) (fun(k:Nat)=>[]) (fun(k:Nat)=>[GlF p old,GlF q now]) (fun(k:Nat)=>k≤old.length∧((old.take k).all fun s=>decide (s∈now))=true) (fun(k:Nat)=>old.length - k) (0) ?_ S.uu ?_ ?_
 exact ⟨Nat.zero_le _,rfl⟩
 first | exact S | exact S.sub _ _
 clear S;rintro k uu a w ⟨hk,hrel⟩ S
 refine kS (kR (sq S ?_));clear S;intro a S;refine kN (xtn (kS ?_))
 refine kC S (fun h2=>?_) (fun h2=>?_)
 refine kK (xtn (kS (kB (kS ?_))))
 have hkl:k < old.length:=by have:=of_decide_eq_true h2;omega
 have hK:KLt k old.length:=⟨hkl⟩
 refine kR ?_;(iterate 2 (refine sq S ?_;clear S;intro a S));refine sa S ?_;clear S;intro b6 a w S;refine sw S ?_;clear S;intro a w S;refine kN (xtn (kS (kR (sq S ?_))));clear S;intro a S;refine kN (xtn (kS (kS (kR ?_))));(iterate 3 (refine sq S ?_;clear S;intro a S));refine kN (xtn (kB ?_))
 refine c_fore2 S (fun(j:Nat) (ok:Bool) uu=>[(7,.bool ok),(1,uu 9),(8,.int .i64 (j:Nat)),(0,uu 19),(0,uu 20),(0,uu 21),(0,uu 22),(0,uu 23),(0,uu 24),(0,uu 25),(0,uu 26),(0,uu 27),(0,uu 28)]) (fun(j:Nat) (ok:Bool)=>[Wk.box b6 175 [str (nthG old k).key,.int .i64 (nthG old k).ver]]) (fun(j:Nat) (ok:Bool)=>[GlF p old,GlF q now]) (fun(j:Nat) (ok:Bool)=>j≤now.length∧ok=(now.take j).any (fun y=>decide (y=nthG old k))) (fun(j:Nat) (ok:Bool)=>now.length - j) (0) (false) ?_ S.uu ?_ ?_
 exact ⟨Nat.zero_le _,rfl⟩
 first | exact S | exact S.sub _ _
 clear S;rintro j ok uu a w ⟨hj,hok⟩ S
 refine kS (kR (sq S ?_));clear S;intro a S;refine kN (xtn (kS ?_))
 refine kC S (fun h6=>?_) (fun h6=>?_)
 refine kK (xtn (kS (kB (kS ?_))))
 have hjl:j < now.length:=by have:=of_decide_eq_true h6;omega
 have hK:KLt j now.length:=⟨hjl⟩
 refine kR ?_;(iterate 2 (refine sq S ?_;clear S;intro a S));refine sa S ?_;clear S;intro b9 a w S;refine sw S ?_;clear S;intro a w S;refine kN (xtn (kR ?_));(iterate 2 (refine sq S ?_;clear S;intro a S));(iterate 3 (refine gQ S ?_;clear S;intro a S));(iterate 2 (refine sq S ?_;clear S;intro a S));refine kN (xbn (xtn (kR ?_)));(iterate 2 (refine sq S ?_;clear S;intro a S));refine kN (xtn ?_)
 rw[w64 ((j:Int)+1) (by omega) (by omega),show (j:Int)+1=((j+1:Nat):Int) from rfl]at S
 refine ⟨j+1,_,S.uu,⟨hjl,?_⟩,S.sub _ _,by omega⟩
 rw[any_take _ _ _ hjl,←hok]
 refine kE (xte (xte (xbe (xtn (kS ?_)))))
 have hje:j=now.length:=by have:=of_decide_eq_false h6;omega
 rw[List.take_of_length_le (by omega),any_eq_mem]at hok
 refine kR ?_;(iterate 2 (refine sq S ?_;clear S;intro a S));refine kN (xtn ?_)
 refine kC S (fun h10=>?_) (fun h10=>?_)
 refine kS (kR (sq S ?_));clear S;intro a S;refine kN (xtn (kT (xbr (xtr (xtr (xbr (xtr ?_)))))))
 refine end1 S (fun _=>?_)
 have:(old.all fun s=>decide (s∈now))=false:=List.all_eq_false.2 ⟨nthG old k,nthG_mem hkl,by rw[←hok];simpa using h10⟩
 rw[this]
 refine kK (xbn (xtn (kR ?_)));(iterate 2 (refine sq S ?_;clear S;intro a S));refine kN (xtn ?_)
 rw[w64 ((k:Int)+1) (by omega) (by omega)]at S
 refine ⟨k+1,S.uu,⟨hkl,?_⟩,S.sub _ _,by omega⟩
 rw[nthG_take hkl,List.all_append,hrel]
 simp only[List.all_cons,List.all_nil,Bool.and_true,Bool.true_and]
 rw[←hok];simpa using h10
 refine kE (xte (xte (xbe (xtn (kS (kR (sq S ?_)))))));clear S;intro a S;refine kN (xtn (kT ?_))
 refine end1 S (fun _=>?_)
 rw[List.take_of_length_le (by have:=of_decide_eq_false h2;omega)]at hrel
 rw[hrel]
instance {l l2:List LMark} {p q:Option Addr} {n c n2 c2:Nat} {bs fs} [hg:HasG fs p LMark layMark l] [hn:LenN l n] [hk:LeC n 1000000] [hg2:HasG fs q LMark layMark l2] [hn2:LenN l2 n2] [hk2:LeC n2 1000000]:CallV Tryz.prog 125 [.slice p n c,.slice q n2 c2] bs fs (.bool (l.all fun s=>decide (s∈l2))):=⟨fun w m=>by
 have h1:=hn.eq;have h2:=hn2.eq;subst h1;subst h2
 exact r20seeds_c l l2 p q c c2 w hk.le hk2.le ((hg.of _ _ m.facts).less fun _ _ h=>h.elim) ((hg2.of _ _ m.facts).less fun _ _ h=>h.elim)⟩
instance {l l2:List LMark} {p q:Option Addr} {n c n2 c2:Nat} {bs fs} [hg:HasG fs p LMark layMark l] [hn:LenN l n] [hk:LeC n 1000000] [hg2:HasG fs q LMark layMark l2] [hn2:LenN l2 n2] [hk2:LeC n2 1000000]:CallV Tryz.prog 126 [.slice p n c,.slice q n2 c2] bs fs (.bool (covM l l2)):=⟨fun w m=>by
 have h1:=hn.eq;have h2:=hn2.eq;subst h1;subst h2
 exact r16covers_c l l2 p q c c2 w hk.le hk2.le ((hg.of _ _ m.facts).less fun _ _ h=>h.elim) ((hg2.of _ _ m.facts).less fun _ _ h=>h.elim)⟩
theorem covS_find {now:List PSeen} {x s:LSeen} {b:Bool} (h:findP now x.user=if b then some s.s else none):covS now x.s = !(!b||decide (s.cnt < x.cnt)||(decide (s.cnt=x.cnt)&&!sameF s.root.t x.root.t)):=by
 rw[covS,show x.s.user=x.user from rfl,h]
 cases b with
 | false=>rfl
 | true=>
  show (if s.cnt=x.cnt then sameF s.root.t x.root.t else decide (x.cnt < s.cnt))=_
  by_cases h1:s.cnt=x.cnt
  rw[if_pos h1,decide_eq_true h1,decide_eq_false (by omega)];simp
  rw[if_neg h1,decide_eq_false h1]
  by_cases h2:s.cnt < x.cnt
  rw[decide_eq_true h2,decide_eq_false (by omega)];rfl
  rw[decide_eq_false h2,decide_eq_true (by omega)];rfl
theorem r20covers_c (x y:LMem) (hx:FitM x) (hy:FitM y) (w0:World) (fx:Stable (fun _=>False) w0 (MemF x)) (fy:Stable (fun _=>False) w0 (MemF y)):Ret Tryz.prog 39 [vMem x,vMem y] w0 (fun _=>False) fun v _=>v=.bool (coversB x.m y.m):=by
 have hMx:MemFit x:=⟨hx⟩
 have hMy:MemFit y:=⟨hy⟩
 have l1:LeC x.seeds.length 1000000:=⟨by have:=hx.seeds;omega⟩
 have l2:LeC x.vers.length 1000000:=⟨by have:=hx.vers;omega⟩
 have l3:LeC x.seen.length 1000000:=⟨by have:=hx.seen;omega⟩
 have l4:LeC y.seeds.length 1000000:=⟨by have:=hy.seeds;omega⟩
 have l5:LeC y.vers.length 1000000:=⟨by have:=hy.vers;omega⟩
 have l6:LeC y.seen.length 1000000:=⟨by have:=hy.seen;omega⟩
 have l6':=l6.le
 have l3':=l3.le
 have e0:coversB x.m y.m=(memB x.m&&memB y.m&&decide (x.user=y.user)&&(decide (x.leaf≤y.leaf)&&decide (x.counter≤y.counter)&&decide (x.num≤y.num))&&(x.seeds.all fun s=>decide (s∈y.seeds))&&covM x.vers y.vers&&(ssP x.seen).all (covS (ssP y.seen))):=rfl
 refine enter Tryz.func39 rfl rfl (Wd.begin (fs:=[MemF x,MemF y,GlF x.sp x.seeds,GlF x.vp x.vers,GlF x.ep x.seen,GlF y.sp y.seeds,GlF y.vp y.vers,GlF y.ep y.seen]) (by simp;exact ⟨fx,fy,fx.imp fun _ h=>h.1,fx.imp fun _ h=>h.2.1,fx.imp fun _ h=>h.2.2,fy.imp fun _ h=>h.1,fy.imp fun _ h=>h.2.1,fy.imp fun _ h=>h.2.2⟩)) (fun a S=>?_)
 simp only[Tryz.ntmps39,qqA,qqB,Nat.reduceAdd,Nat.reduceSub,qqC,qqD,qqE,qqF]at S
 refine kS (kR ?_);refine sa S ?_;clear S;intro b2 a w S;refine sa S ?_;clear S;intro b3 a w S;refine sq S ?_;clear S;intro a S;refine kN (xtn (kS (kS (kR (sq S ?_)))));clear S;intro a S;refine sc S ?_;clear S;intro a w S;(iterate 2 (refine sq S ?_;clear S;intro a S));refine gQ S ?_;clear S;intro a S;refine gC S ?_;clear S;intro a w S;refine gQ S ?_;clear S;intro a S;(iterate 2 (refine sq S ?_;clear S;intro a S))
 (iterate 5 (refine gQ S ?_;clear S;intro a S));(iterate 2 (refine sq S ?_;clear S;intro a S));(iterate 5 (refine gQ S ?_;clear S;intro a S));(iterate 2 (refine sq S ?_;clear S;intro a S));(iterate 5 (refine gQ S ?_;clear S;intro a S));(iterate 2 (refine sq S ?_;clear S;intro a S));(iterate 5 (refine gQ S ?_;clear S;intro a S));(iterate 2 (refine sq S ?_;clear S;intro a S))
 (iterate 4 (refine gQ S ?_;clear S;intro a S));refine gC S ?_;clear S;intro a w S;refine gQ S ?_;clear S;intro a S;(iterate 2 (refine sq S ?_;clear S;intro a S));(iterate 4 (refine gQ S ?_;clear S;intro a S));refine gC S ?_;clear S;intro a w S;refine gQ S ?_;clear S;intro a S;refine sq S ?_;clear S;intro a S;refine kN (xtn ?_)
 refine kC S (fun h1=>?_) (fun h1=>?_)
 refine kS (kR (sq S ?_));clear S;intro a S;refine kN (xtn (kT (xtr ?_)))
 refine end1 S (fun _=>?_)
 rw[e0]
 simp only[Bool.or_eq_true,Bool.not_eq_true',decide_eq_true_eq,decide_eq_false_iff_not]at h1
 rcases h1 with ((((((h | h) | h) | h) | h) | h) | h) | h
 rw[h];rfl
 rw[h];simp
 rw[decide_eq_false h];simp
 rw[decide_eq_false (show ¬x.leaf≤y.leaf by omega)];simp
 rw[decide_eq_false (show ¬x.counter≤y.counter by omega)];simp
 rw[decide_eq_false (show ¬x.num≤y.num by omega)];simp
 rw[h];simp
 rw[h];simp
 refine kK (xtn (kS (kS (kR ?_))));(iterate 4 (refine sq S ?_;clear S;intro a S));refine kN (xtn (kB ?_))
 refine c_fore1 S (fun(k:Nat) uu=>[(4,uu 4),(1,uu 6),(0,uu 7),(0,uu 8),(55,.int .i64 (k:Nat)),(0,uu 65),(0,uu 66),(0,uu 67),(0,uu 68),(0,uu 69),(0,uu 70),(0,uu 71),(0,uu 72),(0,uu 73),(0,uu 74),(0,uu 75),(0,uu 76),(0,uu 77),(0,uu 78),(0,uu 79),(0,uu 80),(0,uu 81),(0,uu 82),(0,uu 83),(0,uu 84),(0,uu 85),(0,uu 86),(0,uu 87),(0,uu 88),(0,uu 89),(0,uu 90),(0,uu 91),(0,uu 92),(0,uu 93),(0,uu 94),(0,uu 95),(0,uu 96),(0,uu 97),(0,uu 98),(0,uu 99),(0,uu 100)]) (fun(k:Nat)=>[Wk.box b3 67 (cMem y),Wk.box b2 67 (cMem x)]) (fun(k:Nat)=>[GlF x.ep x.seen,GlF y.ep y.seen]) (fun(k:Nat)=>k≤x.seen.length∧((ssP (x.seen.take k)).all (covS (ssP y.seen)))=true) (fun(k:Nat)=>x.seen.length - k) (0) ?_ S.uu ?_ ?_
 exact ⟨Nat.zero_le _,rfl⟩
 first | exact S | exact S.sub _ _
 clear S;rintro k uu a w ⟨hk,hrel⟩ S
 refine kS (kR (sq S ?_));clear S;intro a S;refine kN (xtn (kS ?_))
 refine kC S (fun h4=>?_) (fun h4=>?_)
 refine kK (xtn (kS (kB (kS ?_))))
 have hkl:k < x.seen.length:=by have:=of_decide_eq_true h4;omega
 have hK:KLt k x.seen.length:=⟨hkl⟩
 replace S:=S.add (Φ:=LtF (nthG x.seen k).root) ((S.mem.fact (GlF x.ep x.seen)).imp fun _ h=>h.2 _ (nthG_mem hkl))
 refine kR ?_;(iterate 2 (refine sq S ?_;clear S;intro a S));refine sa S ?_;clear S;intro b6 a w S;refine sw S ?_;clear S;intro a w S;refine kN (xtn (kS (kR ?_)));(iterate 4 (refine sq S ?_;clear S;intro a S))
 refine sr S (r16find_c y.seen y.ep y.seen.length y.ec (nthG x.seen k).user _ w rfl l6' (foots_lt S) (S.mem.fact (GlF y.ep y.seen))) ?_;clear S;rintro _ a w ⟨s,b,rfl,hsf,hfi⟩ S
 replace S:=S.add hsf
 (iterate 3 (refine sq S ?_;clear S;intro a S));refine sa S ?_;clear S;intro b7 a w S;refine sw S ?_;clear S;intro a w S;refine sq S ?_;clear S;intro a S;refine kN (xtn (kS (kR ?_)));(iterate 3 (refine sq S ?_;clear S;intro a S));(iterate 5 (refine gQ S ?_;clear S;intro a S));(iterate 2 (refine sq S ?_;clear S;intro a S));(iterate 10 (refine gQ S ?_;clear S;intro a S));refine gC S ?_;clear S;intro a w S;(iterate 2 (refine gQ S ?_;clear S;intro a S));refine sq S ?_;clear S;intro a S;refine kN (xtn ?_)
 refine kC S (fun h7=>?_) (fun h7=>?_)
 refine kS (kR (sq S ?_));clear S;intro a S;refine kN (xtn (kT (xbr (xtr (xtr (xbr (xtr ?_)))))))
 refine end1 S (fun _=>?_)
 have:(ssP x.seen).all (covS (ssP y.seen))=false:=List.all_eq_false.2 ⟨(nthG x.seen k).s,List.mem_map_of_mem (nthG_mem hkl),by rw[covS_find hfi,h7];simp⟩
 rw[e0,this,Bool.and_false]
 refine kK (xbn (xtn (kR ?_)));(iterate 2 (refine sq S ?_;clear S;intro a S));refine kN (xtn ?_)
 rw[w64 ((k:Int)+1) (by omega) (by omega)]at S
 refine ⟨k+1,S.uu,⟨hkl,?_⟩,S.sub _ _,by omega⟩
 rw[nthG_take hkl,ssP,List.map_append,List.all_append]
 rw[show (x.seen.take k).map LSeen.s=ssP (x.seen.take k) from rfl,hrel]
 simp only[List.map_cons,List.map_nil,List.all_cons,List.all_nil,Bool.and_true,Bool.true_and]
 rw[covS_find hfi,h7];rfl
 refine kE (xte (xte (xbe (xtn (kS (kR (sq S ?_)))))));clear S;intro a S;refine kN (xtn (kT ?_))
 refine end1 S (fun _=>?_)
 rw[List.take_of_length_le (by have:=of_decide_eq_false h4;omega)]at hrel
 simp only[Bool.or_eq_false_iff,Bool.not_eq_false',decide_eq_false_iff_not]at h1
 obtain ⟨⟨⟨⟨⟨⟨⟨a1,a2⟩,a3⟩,a4⟩,a5⟩,a6⟩,a7⟩,a8⟩:=h1
 rw[e0,a1,a2,a3,a7,a8,hrel,decide_eq_true (show x.leaf≤y.leaf by omega),decide_eq_true (show x.counter≤y.counter by omega),decide_eq_true (show x.num≤y.num by omega)];rfl
open Classical in
theorem r20same_c (x y:LMem) (hx:FitM x) (hy:FitM y) (w0:World) (fx:Stable (fun _=>False) w0 (MemF x)) (fy:Stable (fun _=>False) w0 (MemF y)):Ret Tryz.prog 41 [vMem x,vMem y] w0 (fun _=>False) fun v _=>∃ b,v=.bool b∧(b=true↔x.m=y.m):=by
 have l1:=hx.seeds
 have l2:=hx.vers
 have l3:=hx.seen
 refine enter Tryz.func41 rfl rfl (Wd.begin (fs:=[GlF x.sp x.seeds,GlF x.vp x.vers,GlF x.ep x.seen,GlF y.sp y.seeds,GlF y.vp y.vers,GlF y.ep y.seen]) (by simp;exact ⟨fx.imp fun _ h=>h.1,fx.imp fun _ h=>h.2.1,fx.imp fun _ h=>h.2.2,fy.imp fun _ h=>h.1,fy.imp fun _ h=>h.2.1,fy.imp fun _ h=>h.2.2⟩)) (fun a S=>?_)
 simp only[Tryz.ntmps41,qqA,qqB,Nat.reduceAdd,Nat.reduceSub,qqC,qqD,qqE,qqF]at S
 refine kS (kR ?_);refine sa S ?_;clear S;intro b2 a w S;refine sa S ?_;clear S;intro b3 a w S;refine sq S ?_;clear S;intro a S;refine kN (xtn (kS (kS (kR ?_))));(iterate 7 (refine sq S ?_;clear S;intro a S));refine kN (xtn ?_)
 refine kC S (fun h1=>?_) (fun h1=>?_)
 refine kS (kR (sq S ?_));clear S;intro a S;refine kN (xtn (kT (xtr ?_)))
 refine end1 S (fun _=>⟨false,rfl,⟨nofun,fun h=>?_⟩⟩)
 have:=congrArg (fun m=>m.seeds.length) h
 simp only[LMem.m]at this
 simp at h1;omega
 refine kK (xtn (kS (kS (kR ?_))));(iterate 4 (refine sq S ?_;clear S;intro a S));refine kN (xtn (kB ?_))
 have hle:x.seeds.length=y.seeds.length:=by simp at h1;omega
 refine c_fore1 S (fun(k:Nat) uu=>[(4,uu 4),(0,uu 5),(10,.int .i64 (k:Nat)),(0,uu 17),(0,uu 18),(0,uu 19),(0,uu 20),(0,uu 21),(0,uu 22),(0,uu 23),(0,uu 24),(0,uu 25),(0,uu 26),(0,uu 27),(0,uu 28),(0,uu 29),(0,uu 30)]) (fun(k:Nat)=>[Wk.box b3 67 (cMem y),Wk.box b2 67 (cMem x)]) (fun(k:Nat)=>[GlF x.sp x.seeds,GlF x.vp x.vers,GlF x.ep x.seen,GlF y.sp y.seeds,GlF y.vp y.vers,GlF y.ep y.seen]) (fun(k:Nat)=>k≤x.seeds.length∧x.seeds.take k=y.seeds.take k) (fun(k:Nat)=>x.seeds.length - k) (0) ?_ S.uu ?_ ?_
 exact ⟨Nat.zero_le _,rfl⟩
 first | exact S | exact S.sub _ _
 clear S;rintro k uu a w ⟨hk,hrel⟩ S
 refine kS (kR (sq S ?_));clear S;intro a S;refine kN (xtn (kS ?_))
 refine kC S (fun h4=>?_) (fun h4=>?_)
 refine kK (xtn (kS (kB (kS ?_))))
 have hkl:k < x.seeds.length:=by have:=of_decide_eq_true h4;omega
 have hK:KLt k x.seeds.length:=⟨hkl⟩
 have hK2:KLt k y.seeds.length:=⟨by omega⟩
 refine kR ?_;(iterate 2 (refine sq S ?_;clear S;intro a S));refine kN (xtn (kS ?_));refine c_drawD [(0,true),(1,true),(2,true),(3,true),(4,true),(5,true),(6,true),(7,true),(8,true),(9,true),(10,true)] [] S ?_;clear S;intro w S;(iterate 11 (refine dq S ?_;clear S;intro a S));refine dn (xtn ?_)
 refine kC S (fun h6=>?_) (fun h6=>?_)
 refine kS (kR (sq S ?_));clear S;intro a S;refine kN (xtn (kT (xbr (xtr (xtr (xbr (xtr ?_)))))))
 refine end1 S (fun _=>⟨false,rfl,⟨nofun,fun h=>?_⟩⟩)
 have:x.seeds=y.seeds:=congrArg PMem.seeds h
 rw[this]at h6;simp at h6
 refine kK (xbn (xtn (kR ?_)));(iterate 2 (refine sq S ?_;clear S;intro a S));refine kN (xtn ?_)
 rw[w64 ((k:Int)+1) (by omega) (by omega)]at S
 refine ⟨k+1,S.uu,⟨hkl,?_⟩,S.sub _ _,by omega⟩
 have he:nthG x.seeds k=nthG y.seeds k:=by simpa using h6
 rw[nthG_take hkl,nthG_take (by omega),hrel,he]
 refine kE (xte (xte (xbe (xtn (kS ?_)))))
 have hse:x.seeds=y.seeds:=by
  have hkl:k=x.seeds.length:=by have:=of_decide_eq_false h4;omega
  rw[List.take_of_length_le (by omega),List.take_of_length_le (by omega)]at hrel
  exact hrel
 refine kR ?_;(iterate 6 (refine sq S ?_;clear S;intro a S));(iterate 5 (refine gQ S ?_;clear S;intro a S));(iterate 2 (refine sq S ?_;clear S;intro a S));(iterate 5 (refine gQ S ?_;clear S;intro a S));(iterate 2 (refine sq S ?_;clear S;intro a S));(iterate 5 (refine gQ S ?_;clear S;intro a S));(iterate 2 (refine sq S ?_;clear S;intro a S))
 refine gS S (fun hs1 S=>?_) (fun hs1 S=>?_)
 refine gT S ?_;refine sq S ?_;clear S;intro a S;refine gT S ?_;refine sq S ?_;clear S;intro a S;refine gT S ?_;refine sq S ?_;clear S;intro a S;refine gT S ?_;refine sq S ?_;clear S;intro a S;refine gT S ?_
 refine sr S (r14same_c x.vers y.vers x.vp y.vp x.vc y.vc _ (by omega) (S.gl0 x.vp) (S.gl0 y.vp)) ?_;clear S;rintro _ a w rfl S
 (iterate 2 (refine sq S ?_;clear S;intro a S))
 refine gS S (fun hs2 S=>?_) (fun hs2 S=>?_)
 refine gT S ?_;refine sq S ?_;clear S;intro a S;refine gT S ?_;refine sq S ?_;clear S;intro a S;refine gT S ?_;refine sq S ?_;clear S;intro a S;refine gT S ?_;refine sq S ?_;clear S;intro a S;refine gT S ?_
 refine sr S (r16same_c x.seen y.seen x.ep y.ep x.ec y.ec _ (by omega) (S.gl0 x.ep) (S.gl0 y.ep)) ?_;clear S;rintro _ a w ⟨b,rfl,hb⟩ S
 (iterate 2 (refine sq S ?_;clear S;intro a S));refine kN (xtn (kT ?_))
 refine end1 S (fun _=>⟨b,rfl,?_⟩)
 simp only[Bool.and_eq_true,decide_eq_true_eq]at hs1
 rw[hb]
 constructor
 intro h
 rw[LMem.m,LMem.m,hs1.1.1.1,hs1.1.1.2,hs1.1.2,hs1.2,hse,of_decide_eq_true hs2,h]
 intro h;exact congrArg PMem.seen h
 refine gF S ?_;clear S;intro a S;(iterate 4 (refine gF S ?_;clear S;intro a S));(iterate 2 (refine sq S ?_;clear S;intro a S));refine kN (xtn (kT ?_))
 refine end1 S (fun _=>⟨false,rfl,⟨nofun,fun h=>?_⟩⟩)
 rw[decide_eq_true (show x.vers=y.vers from congrArg PMem.vers h)]at hs2;cases hs2
 refine gF S ?_;clear S;intro a S;(iterate 4 (refine gF S ?_;clear S;intro a S));(iterate 2 (refine sq S ?_;clear S;intro a S))
 refine gS S (fun hs2 S=>?_) (fun hs2 S=>?_)
 refine gT S ?_;refine sq S ?_;clear S;intro a S;refine gT S ?_;refine sq S ?_;clear S;intro a S;refine gT S ?_;refine sq S ?_;clear S;intro a S;refine gT S ?_;refine sq S ?_;clear S;intro a S;refine gT S ?_
 refine sr S (r16same_c x.seen y.seen x.ep y.ep x.ec y.ec _ (by omega) (S.gl0 x.ep) (S.gl0 y.ep)) ?_;clear S;rintro _ a w ⟨b,rfl,hb⟩ S
 (iterate 2 (refine sq S ?_;clear S;intro a S));refine kN (xtn (kT ?_))
 exact absurd hs2 (by decide)
 refine gF S ?_;clear S;intro a S;(iterate 4 (refine gF S ?_;clear S;intro a S));(iterate 2 (refine sq S ?_;clear S;intro a S));refine kN (xtn (kT ?_))
 refine end1 S (fun _=>⟨false,rfl,⟨nofun,fun h=>?_⟩⟩)
 rw[decide_eq_true (show x.user=y.user from congrArg PMem.user h),decide_eq_true (show x.leaf=y.leaf from congrArg PMem.leaf h),decide_eq_true (show x.counter=y.counter from congrArg PMem.counter h),decide_eq_true (show x.num=y.num from congrArg PMem.num h)]at hs1
 cases hs1
section
variable {P:Program} {l:Cx} {bs:List Wk.Item} {fs:List (World→Prop)} {x y:Operand} {kk:IntKind} {mm:Int} {k n:Nat} {t e ty:TypeId} {z:Value} {by_:Nat}
theorem encI_getM {xs:List Int} {k:Nat} (h:k < xs.length):(encL xs)[k]? = some (.int .i64 (nthG xs k)):=by
 have h2:=encL_get xs k (nthG xs k) (nthG_get h) 0 (by decide)
 have h3:k*Enc.sz Int+0=k:=Nat.mul_one k
 rw[h3]at h2
 rw[h2];rfl
instance opIdxIM {xs:List Int} [hx:Ev l x (.agg ⟨encL xs⟩)] [Ev l y (.int kk mm)] [hm:IsNat mm k] [ht:Und P t (.array n e)] [hti:TI P e z 1 by_] [ha:AggT P e false] [hk:KLt k xs.length] [hn:LenN xs n]:OpQ P (.index t x y) ty l bs fs (.int .i64 (nthG xs k)):=⟨fun ρ w h mm=>by
 have e1:=hm.eq
 subst e1
 exact run_idx (encL xs) k _ (encI_getM hk.lt) (by rw[encL_len,hn.eq];exact Nat.mul_one _) h w⟩
end
theorem be1 (n:Int):be 1 n=[Wk.u8 n]:=by
 show [Wk.u8 (n.fdiv 1)]=_
 rw[Int.fdiv_one]
theorem name_bytes {t:Term} (h:checkF t=0):nameF t=bytesF t:=by
 rw[nameF,if_neg (good_check.1 h)]
set_option maxHeartbeats 4000000 in
theorem r20bytes_c (m:LMem) (hfit:FitM m) (hok:memB m.m=true) (w0:World) (hm:Stable (fun _=>False) w0 (MemF m)):Ret Tryz.prog 43 [vMem m] w0 (fun _=>False) fun v w'=>
  ∃ (p':Option Addr) (c':Nat),v=.slice p' (encM m.m).length c'∧w'.ownsRow 0 5 1 (.slice p' (encM m.m).length c') (encM m.m).length (encL (encM m.m))∧∀ ad,p'=some ad→w0.heap.size≤ad.block:=by
 have hl1:=hfit.seeds
 have hl2:=hfit.vers
 have hl3:=hfit.seen
 have hbig:=encM_len hfit
 obtain ⟨B,hB⟩:∃ B,B=encM m.m:=⟨_,rfl⟩
 rw[←hB]at hbig
 have hBs:B=[Wk.u8 m.user]++(twosB [m.leaf,m.counter,m.num]++tailE1 m.m):=by rw[hB,encM];rfl
 have hup:=(seenB_up m.seen 0 (memB_seen hok)).2.2
 refine enter Tryz.func43 rfl rfl (Wd.begin (fs:=[GlF m.sp m.seeds,GlF m.vp m.vers,GlF m.ep m.seen]) (by simp;exact ⟨hm.imp fun _ h=>h.1,hm.imp fun _ h=>h.2.1,hm.imp fun _ h=>h.2.2⟩)) (fun a S=>?_)
 simp only[Tryz.ntmps43,qqA,qqB,Nat.reduceAdd,Nat.reduceSub,qqC,qqD,qqE,qqF]at S
 refine kS (kR ?_);refine sa S ?_;clear S;intro b1 a w S;refine sq S ?_;clear S;intro a S;refine kN (xtn (kS (kR ?_)));(iterate 3 (refine sq S ?_;clear S;intro a S));refine sn S ?_;clear S;intro b24 a w S
 replace S:=S.boxRow b24 1 1 rfl (by decide)
 rw[show [Value.int .u8 (IntKind.u8.wrap m.user)]=encL [Wk.u8 m.user] from by rw[u8_wrap];rfl]at S
 refine sq S ?_;clear S;intro a S;refine kN (xtn (kS (kS (kR ?_))));(iterate 7 (refine sq S ?_;clear S;intro a S))
 rw[show (Value.agg ⟨[.int .i64 m.leaf,.int .i64 m.counter,.int .i64 m.num]⟩)=.agg ⟨encL [m.leaf,m.counter,m.num]⟩ from rfl]at S
 refine sq S ?_;clear S;intro a S;refine kN (xtn (kB ?_))
 refine c_fore4 S (fun(i:Nat) (b:List UInt8) (p':Option Addr) (c':Nat) uu=>[(3,.slice p' b.length c'),(1,uu 5),(17,.int .i64 (i:Nat)),(0,uu 24),(0,uu 25),(0,uu 26),(0,uu 27),(0,uu 28),(0,uu 29),(0,uu 30)]) (fun(i:Nat) (b:List UInt8) (p':Option Addr) (c':Nat)=>[Wk.row 5 1 p' b.length c' (encL b),Wk.box b1 67 (cMem m)]) (fun(i:Nat) (b:List UInt8) (p':Option Addr) (c':Nat)=>[GlF m.sp m.seeds,GlF m.vp m.vers,GlF m.ep m.seen]) (fun(i:Nat) (b:List UInt8) (p':Option Addr) (c':Nat)=>i≤3∧b++(twosB ([m.leaf,m.counter,m.num].drop i)++tailE1 m.m)=B) (fun(i:Nat) (b:List UInt8) (p':Option Addr) (c':Nat)=>3 - i) (0) ([Wk.u8 m.user]) (some ⟨b24,0,none⟩) (1) ?_ S.uu ?_ ?_
 exact ⟨Nat.zero_le _,hBs.symm⟩
 first | exact S | exact S.sub _ _
 clear S;rintro i b p' c' uu a w ⟨hi,hrel⟩ S
 refine kS (kR (sq S ?_));clear S;intro a S;refine kN (xtn (kS ?_))
 refine kC S (fun h3=>?_) (fun h3=>?_)
 refine kK (xtn (kS (kB (kS ?_))))
 have hi3:i < 3:=by have:=of_decide_eq_true h3;omega
 have hK:KLt i [m.leaf,m.counter,m.num].length:=⟨hi3⟩
 have hLn:LenN [m.leaf,m.counter,m.num] 3:=⟨rfl⟩
 rw[nthG_drop (show i < [m.leaf,m.counter,m.num].length from hi3),twosB]at hrel
 have hbl:=congrArg List.length hrel
 simp only[List.length_append,twoB_len]at hbl
 refine kR ?_;(iterate 2 (refine sq S ?_;clear S;intro a S));refine kN (xtn (kR ?_));(iterate 2 (refine sq S ?_;clear S;intro a S))
 refine srn S (r20two_c (nthG [m.leaf,m.counter,m.num] i) _) ?_;clear S;rintro _ a w ⟨p8,c8,rfl,hown,hnew⟩ hS -
 have S:=hS hown hnew
 clear hS
 refine sap S (by simp[maxLen];omega) (by omega) ?_;clear S;rintro p1 c1 a w - S
 rw[←encL_append,show b.length+2=(b++twoB (nthG [m.leaf,m.counter,m.num] i)).length from by rw[List.length_append,twoB_len]]at S
 refine sq S ?_;clear S;intro a S;refine kN (xbn (xtn (kR ?_)));(iterate 2 (refine sq S ?_;clear S;intro a S));refine kN (xtn ?_)
 rw[w64 ((i:Int)+1) (by omega) (by omega),show (i:Int)+1=((i+1:Nat):Int) from rfl]at S
 exact ⟨i+1,_,p1,c1,S.uu,⟨hi3,by rw[List.append_assoc,←List.append_assoc (twoB _)];exact hrel⟩,S.sub [Wk.row 5 1 p1 _ c1 _,Wk.box b1 67 (cMem m)] _,by omega⟩
 refine kE (xte (xte (xbe (xtn (kS (kR ?_))))));(iterate 5 (refine sq S ?_;clear S;intro a S))
 have hi3:i=3:=by have:=of_decide_eq_false h3;omega
 subst hi3
 rw[show [m.leaf,m.counter,m.num].drop 3=[] from rfl,twosB,qqF,tailE1]at hrel
 have hbl:=congrArg List.length hrel
 simp only[List.length_append,qqA]at hbl
 refine sn S ?_;clear S;intro b25 a w S
 replace S:=S.boxRow b25 1 1 rfl (by decide)
 rw[show [Value.int .u8 (IntKind.u8.wrap (m.seeds.length:Int))]=encL [Wk.u8 m.seeds.length] from by rw[u8_wrap];rfl]at S
 refine sap S (by simp[maxLen];omega) (by omega) ?_;clear S;rintro p2 c2 a w - S
 rw[←encL_append,show b.length+1=(b++[Wk.u8 m.seeds.length]).length from by simp]at S
 replace hrel:(b++[Wk.u8 m.seeds.length])++(marksE m.seeds++tailE2 m.m)=B:=by rw[←hrel];simp[LMem.m]
 obtain ⟨B1,hB1⟩:∃ B1,B1=b++[Wk.u8 m.seeds.length]:=⟨_,rfl⟩
 rw[←hB1]at S hrel
 refine sq S ?_;clear S;intro a S;refine kN (xtn (kS (kS (kR ?_))));(iterate 4 (refine sq S ?_;clear S;intro a S));refine kN (xtn (kB ?_))
 refine c_fore4 S (fun(k:Nat) (bb:List UInt8) (pp:Option Addr) (cc:Nat) uu=>[(3,.slice pp bb.length cc),(3,uu 7),(33,.int .i64 (k:Nat)),(0,uu 42),(0,uu 43),(0,uu 44),(0,uu 45),(0,uu 46),(0,uu 47),(0,uu 48),(0,uu 49),(0,uu 50),(0,uu 51),(0,uu 52),(0,uu 53),(0,uu 54)]) (fun(k:Nat) (bb:List UInt8) (pp:Option Addr) (cc:Nat)=>[Wk.row 5 1 pp bb.length cc (encL bb),Wk.box b1 67 (cMem m)]) (fun(k:Nat) (bb:List UInt8) (pp:Option Addr) (cc:Nat)=>[GlF m.sp m.seeds,GlF m.vp m.vers,GlF m.ep m.seen]) (fun(k:Nat) (bb:List UInt8) (pp:Option Addr) (cc:Nat)=>k≤m.seeds.length∧bb++(marksE (m.seeds.drop k)++tailE2 m.m)=B) (fun(k:Nat) (bb:List UInt8) (pp:Option Addr) (cc:Nat)=>m.seeds.length - k) (0) (B1) (p2) (c2) ?_ S.uu ?_ ?_
 exact ⟨Nat.zero_le _,hrel⟩
 first | exact S | exact S.sub _ _
 clear S;rintro k bb pp cc uu a w ⟨hk,hrel2⟩ S
 refine kS (kR (sq S ?_));clear S;intro a S;refine kN (xtn (kS ?_))
 refine kC S (fun h9=>?_) (fun h9=>?_)
 refine kK (xtn (kS (kB (kS ?_))))
 have hkl:k < m.seeds.length:=by have:=of_decide_eq_true h9;omega
 have hK:KLt k m.seeds.length:=⟨hkl⟩
 obtain ⟨x,hx⟩:∃ x,x=nthG m.seeds k:=⟨_,rfl⟩
 have hkey:=hfit.names _ (nthG_mem hkl)
 rw[nthG_drop hkl,marksE,markE,←hx]at hrel2
 rw[←hx]at hkey
 have hbl2:=congrArg List.length hrel2
 simp only[List.length_append,qqA,twoB_len]at hbl2
 obtain ⟨b2,hb2⟩:∃ b2,b2=bb++(be 1 (x.key.length:Int)++x.key)++twoB x.ver:=⟨_,rfl⟩
 have hb2l:b2.length=bb.length+(1+x.key.length)+2:=by rw[hb2];simp only[List.length_append,be_len,twoB_len]
 refine kR ?_;(iterate 2 (refine sq S ?_;clear S;intro a S))
 rw[←hx]at S
 refine sa S ?_;clear S;intro b7 a w S;refine sw S ?_;clear S;intro a w S;refine kN (xtn ?_);refine c_drawE [(0,true),(1,true),(2,true),(5,true),(6,true),(3,false),(4,false),(7,false),(8,false),(9,true)] [Wk.box b7 175 [str x.key,.int .i64 x.ver],Wk.box b1 67 (cMem m)] S ?_;clear S;intro w S;(iterate 5 (refine dq S ?_;clear S;intro a S));refine dl ?_
 refine srn S (r20some_c x.key 1 (by omega) (by decide) _) ?_;clear S;rintro _ a w ⟨p7,c7,rfl,hown,hnew⟩ hS -
 have S:=hS hown hnew
 clear hS
 refine de S ?_;refine dl ?_
 have hpl:(be 1 (x.key.length:Int)++x.key).length=1+x.key.length:=by rw[List.length_append,be_len]
 refine sap S (by simp only[maxLen];omega) (by omega) ?_;clear S;rintro p3 c3 a w - S
 rw[←encL_append,show bb.length+(be 1 (x.key.length:Int)++x.key).length=(bb++(be 1 (x.key.length:Int)++x.key)).length from (List.length_append ..).symm]at S
 refine de S ?_;refine dl ?_
 refine srn S (r20two_c x.ver _) ?_;clear S;rintro _ a w ⟨p8,c8,rfl,hown,hnew⟩ hS -
 have S:=hS hown hnew
 clear hS
 refine de S ?_;refine dl ?_
 have hpl2:(bb++(be 1 (x.key.length:Int)++x.key)).length=bb.length+(1+x.key.length):=by rw[List.length_append,hpl]
 refine sap S (by simp only[maxLen];omega) (by omega) ?_;clear S;rintro p5 c5 a w - S
 rw[←encL_append,←hb2,show (bb++(be 1 (x.key.length:Int)++x.key)).length+2=b2.length from by rw[hb2];simp only[List.length_append,be_len,twoB_len]]at S
 refine de S ?_;refine dq S ?_;clear S;intro a S;refine dn (xbn (xtn (kR ?_)));(iterate 2 (refine sq S ?_;clear S;intro a S));refine kN (xtn ?_)
 rw[w64 ((k:Int)+1) (by omega) (by omega),show (k:Int)+1=((k+1:Nat):Int) from rfl]at S
 refine ⟨k+1,_,p5,c5,S.uu,⟨hkl,?_⟩,S.sub [Wk.row 5 1 p5 _ c5 _,Wk.box b1 67 (cMem m)] _,by omega⟩
 rw[hb2,be1,←hrel2];simp
 refine kE (xte (xte (xbe (xtn (kS (kR ?_))))));(iterate 5 (refine sq S ?_;clear S;intro a S))
 have hkl:m.seeds.length≤k:=by have:=of_decide_eq_false h9;omega
 rw[List.drop_of_length_le hkl,marksE,qqF,tailE2]at hrel2
 have hbl2:=congrArg List.length hrel2
 simp only[List.length_append,qqA]at hbl2
 refine sn S ?_;clear S;intro b26 a w S
 replace S:=S.boxRow b26 1 1 rfl (by decide)
 rw[show [Value.int .u8 (IntKind.u8.wrap (m.vers.length:Int))]=encL [Wk.u8 m.vers.length] from by rw[u8_wrap];rfl]at S
 refine sap S (by simp[maxLen];omega) (by omega) ?_;clear S;rintro p13 c13 a w - S
 rw[←encL_append,show bb.length+1=(bb++[Wk.u8 m.vers.length]).length from by simp]at S
 replace hrel2:(bb++[Wk.u8 m.vers.length])++(marksE m.vers++tailE3 m.m)=B:=by rw[←hrel2];simp[LMem.m]
 obtain ⟨B2,hB2⟩:∃ B2,B2=bb++[Wk.u8 m.vers.length]:=⟨_,rfl⟩
 rw[←hB2]at S hrel2
 refine sq S ?_;clear S;intro a S;refine kN (xtn (kS (kS (kR ?_))));(iterate 4 (refine sq S ?_;clear S;intro a S));refine kN (xtn (kB ?_))
 refine c_fore4 S (fun(j:Nat) (bc:List UInt8) (pc:Option Addr) (cd:Nat) uu=>[(3,.slice pc bc.length cd),(5,uu 9),(55,.int .i64 (j:Nat)),(0,uu 66),(0,uu 67),(0,uu 68),(0,uu 69),(0,uu 70),(0,uu 71),(0,uu 72),(0,uu 73),(0,uu 74),(0,uu 75),(0,uu 76),(0,uu 77),(0,uu 78)]) (fun(j:Nat) (bc:List UInt8) (pc:Option Addr) (cd:Nat)=>[Wk.row 5 1 pc bc.length cd (encL bc),Wk.box b1 67 (cMem m)]) (fun(j:Nat) (bc:List UInt8) (pc:Option Addr) (cd:Nat)=>[GlF m.sp m.seeds,GlF m.vp m.vers,GlF m.ep m.seen]) (fun(j:Nat) (bc:List UInt8) (pc:Option Addr) (cd:Nat)=>j≤m.vers.length∧bc++(marksE (m.vers.drop j)++tailE3 m.m)=B) (fun(j:Nat) (bc:List UInt8) (pc:Option Addr) (cd:Nat)=>m.vers.length - j) (0) (B2) (p13) (c13) ?_ S.uu ?_ ?_
 exact ⟨Nat.zero_le _,hrel2⟩
 first | exact S | exact S.sub _ _
 clear S;rintro j bc pc cd uu a w ⟨hj,hrel3⟩ S
 refine kS (kR (sq S ?_));clear S;intro a S;refine kN (xtn (kS ?_))
 refine kC S (fun h15=>?_) (fun h15=>?_)
 refine kK (xtn (kS (kB (kS ?_))))
 have hjl:j < m.vers.length:=by have:=of_decide_eq_true h15;omega
 have hK:KLt j m.vers.length:=⟨hjl⟩
 obtain ⟨x,hx⟩:∃ x,x=nthG m.vers j:=⟨_,rfl⟩
 have hkey:=hfit.keys _ (nthG_mem hjl)
 rw[nthG_drop hjl,marksE,markE,←hx]at hrel3
 rw[←hx]at hkey
 have hbl3:=congrArg List.length hrel3
 simp only[List.length_append,qqA,twoB_len]at hbl3
 obtain ⟨b2,hb2⟩:∃ b2,b2=bc++(be 1 (x.key.length:Int)++x.key)++twoB x.ver:=⟨_,rfl⟩
 have hb2l:b2.length=bc.length+(1+x.key.length)+2:=by rw[hb2];simp only[List.length_append,be_len,twoB_len]
 refine kR ?_;(iterate 2 (refine sq S ?_;clear S;intro a S))
 rw[←hx]at S
 refine sa S ?_;clear S;intro b9 a w S;refine sw S ?_;clear S;intro a w S;refine kN (xtn ?_);refine c_drawE [(0,true),(1,true),(2,true),(5,true),(6,true),(3,false),(4,false),(7,false),(8,false),(9,true)] [Wk.box b9 177 [str x.key,.int .i64 x.ver],Wk.box b1 67 (cMem m)] S ?_;clear S;intro w S;(iterate 5 (refine dq S ?_;clear S;intro a S));refine dl ?_
 refine srn S (r20some_c x.key 1 (by omega) (by decide) _) ?_;clear S;rintro _ a w ⟨p7,c7,rfl,hown,hnew⟩ hS -
 have S:=hS hown hnew
 clear hS
 refine de S ?_;refine dl ?_
 have hpl:(be 1 (x.key.length:Int)++x.key).length=1+x.key.length:=by rw[List.length_append,be_len]
 refine sap S (by simp only[maxLen];omega) (by omega) ?_;clear S;rintro p3 c3 a w - S
 rw[←encL_append,show bc.length+(be 1 (x.key.length:Int)++x.key).length=(bc++(be 1 (x.key.length:Int)++x.key)).length from (List.length_append ..).symm]at S
 refine de S ?_;refine dl ?_
 refine srn S (r20two_c x.ver _) ?_;clear S;rintro _ a w ⟨p8,c8,rfl,hown,hnew⟩ hS -
 have S:=hS hown hnew
 clear hS
 refine de S ?_;refine dl ?_
 have hpl2:(bc++(be 1 (x.key.length:Int)++x.key)).length=bc.length+(1+x.key.length):=by rw[List.length_append,hpl]
 refine sap S (by simp only[maxLen];omega) (by omega) ?_;clear S;rintro p5 c5 a w - S
 rw[←encL_append,←hb2,show (bc++(be 1 (x.key.length:Int)++x.key)).length+2=b2.length from by rw[hb2];simp only[List.length_append,be_len,twoB_len]]at S
 refine de S ?_;refine dq S ?_;clear S;intro a S;refine dn (xbn (xtn (kR ?_)));(iterate 2 (refine sq S ?_;clear S;intro a S));refine kN (xtn ?_)
 rw[w64 ((j:Int)+1) (by omega) (by omega),show (j:Int)+1=((j+1:Nat):Int) from rfl]at S
 refine ⟨j+1,_,p5,c5,S.uu,⟨hjl,?_⟩,S.sub [Wk.row 5 1 p5 _ c5 _,Wk.box b1 67 (cMem m)] _,by omega⟩
 rw[hb2,be1,←hrel3];simp
 refine kE (xte (xte (xbe (xtn (kS (kR ?_))))));(iterate 5 (refine sq S ?_;clear S;intro a S))
 have hjl:m.vers.length≤j:=by have:=of_decide_eq_false h15;omega
 rw[List.drop_of_length_le hjl,marksE,qqF,tailE3]at hrel3
 have hbl3:=congrArg List.length hrel3
 simp only[List.length_append,qqA]at hbl3
 refine sn S ?_;clear S;intro b27 a w S
 replace S:=S.boxRow b27 1 1 rfl (by decide)
 rw[show [Value.int .u8 (IntKind.u8.wrap (m.seen.length:Int))]=encL [Wk.u8 m.seen.length] from by rw[u8_wrap];rfl]at S
 refine sap S (by simp[maxLen];omega) (by omega) ?_;clear S;rintro p19 c19 a w - S
 rw[←encL_append,show bc.length+1=(bc++[Wk.u8 m.seen.length]).length from by simp]at S
 replace hrel3:(bc++[Wk.u8 m.seen.length])++seensE (ssP m.seen)=B:=by rw[←hrel3];simp[LMem.m,ssP]
 obtain ⟨B3,hB3⟩:∃ B3,B3=bc++[Wk.u8 m.seen.length]:=⟨_,rfl⟩
 rw[←hB3]at S hrel3
 refine sq S ?_;clear S;intro a S;refine kN (xtn (kS (kS (kR ?_))));(iterate 4 (refine sq S ?_;clear S;intro a S));refine kN (xtn (kB ?_))
 refine c_fore4 S (fun(i4:Nat) (bz:List UInt8) (pz:Option Addr) (cz:Nat) uu=>[(3,.slice pz bz.length cz),(7,uu 11),(77,.int .i64 (i4:Nat)),(0,uu 90),(0,uu 91),(0,uu 92),(0,uu 93),(0,uu 94),(0,uu 95),(0,uu 96),(0,uu 97),(0,uu 98),(0,uu 99),(0,uu 100),(0,uu 101),(0,uu 102),(0,uu 103),(0,uu 104),(0,uu 105),(0,uu 106),(0,uu 107),(0,uu 108),(0,uu 109),(0,uu 110)]) (fun(i4:Nat) (bz:List UInt8) (pz:Option Addr) (cz:Nat)=>[Wk.row 5 1 pz bz.length cz (encL bz),Wk.box b1 67 (cMem m)]) (fun(i4:Nat) (bz:List UInt8) (pz:Option Addr) (cz:Nat)=>[GlF m.ep m.seen]) (fun(i4:Nat) (bz:List UInt8) (pz:Option Addr) (cz:Nat)=>i4≤m.seen.length∧bz++seensE (ssP (m.seen.drop i4))=B) (fun(i4:Nat) (bz:List UInt8) (pz:Option Addr) (cz:Nat)=>m.seen.length - i4) (0) (B3) (p19) (c19) ?_ S.uu ?_ ?_
 exact ⟨Nat.zero_le _,hrel3⟩
 first | exact S | exact S.sub _ _
 clear S;rintro i4 bz pz cz uu a w ⟨hi4,hrel4⟩ S
 refine kS (kR (sq S ?_));clear S;intro a S;refine kN (xtn (kS ?_))
 refine kC S (fun h21=>?_) (fun h21=>?_)
 refine kK (xtn (kS (kB (kS ?_))))
 have hil:i4 < m.seen.length:=by have:=of_decide_eq_true h21;omega
 have hK:KLt i4 m.seen.length:=⟨hil⟩
 have hch:=hup i4 hil
 obtain ⟨s,hs⟩:∃ s,s=nthG m.seen i4:=⟨_,rfl⟩
 rw[←hs]at hch
 rw[nthG_drop hil,←hs,ssP,List.map_cons,seensE,seenE]at hrel4
 have hnb:=name_bytes hch
 obtain ⟨X,hX⟩:∃ X,X=bytesF s.root.t:=⟨_,rfl⟩
 have hXl:=nameF_short s.root.t
 rw[hnb,←hX]at hXl
 replace hrel4:bz++(([Wk.u8 s.user]++twoB s.cnt++be 4 (IntKind.u32.wrap (X.length:Int))++X)++seensE (ssP (m.seen.drop (i4+1))))=B:=by rw[hX,←hnb];exact hrel4
 have hbl4:=congrArg List.length hrel4
 simp only[List.length_append,qqA,qqB,twoB_len,be_len]at hbl4
 obtain ⟨b2,hb2⟩:∃ b2,b2=bz++[Wk.u8 s.user]++twoB s.cnt:=⟨_,rfl⟩
 have hb2l:b2.length=bz.length+3:=by rw[hb2];simp only[List.length_append,qqA,qqB,twoB_len]
 replace S:=S.add (Φ:=LtF s.root) ((S.mem.fact (GlF m.ep m.seen)).imp fun _ h=>h.2 _ (hs▸nthG_mem hil))
 refine kR ?_;(iterate 2 (refine sq S ?_;clear S;intro a S))
 rw[←hs]at S
 refine sa S ?_;clear S;intro b11 a w S;refine sw S ?_;clear S;intro a w S;refine kN (xtn (kS ?_));refine c_drawE [(0,true),(1,true),(2,true),(3,true),(6,true),(7,true),(4,false),(5,false),(8,false),(9,false),(10,true)] [Wk.box b11 179 (cSeen s),Wk.box b1 67 (cMem m)] S ?_;clear S;intro w S;(iterate 6 (refine dq S ?_;clear S;intro a S));refine dl (sn S ?_);clear S;intro b28 a w S
 replace S:=S.boxRow b28 1 1 rfl (by decide)
 rw[show [Value.int .u8 (IntKind.u8.wrap s.user)]=encL [Wk.u8 s.user] from by rw[u8_wrap];rfl]at S
 refine de S ?_;refine dl ?_
 refine sap S (by simp[maxLen];omega) (by omega) ?_;clear S;rintro p3 c3 a w - S
 rw[←encL_append,show bz.length+1=(bz++[Wk.u8 s.user]).length from by simp]at S
 refine de S ?_;refine dl ?_
 refine srn S (r20two_c s.cnt _) ?_;clear S;rintro _ a w ⟨p8,c8,rfl,hown,hnew⟩ hS -
 have S:=hS hown hnew
 clear hS
 refine de S ?_;refine dl ?_
 have hpl2:(bz++[Wk.u8 s.user]).length=bz.length+1:=by simp
 refine sap S (by simp only[maxLen];omega) (by omega) ?_;clear S;rintro p5 c5 a w - S
 rw[←encL_append,←hb2,show (bz++[Wk.u8 s.user]).length+2=b2.length from by rw[hb2l];simp]at S
 refine de S ?_;refine dq S ?_;clear S;intro a S;refine dn (xtn (kR ?_));(iterate 3 (refine sq S ?_;clear S;intro a S))
 refine srn S (rbytes_c _ s.root w (Nat.le_refl _) (by rw[←hX];omega) (S.t0 s.root)) ?_;clear S;rintro _ a w ⟨p9,c9,rfl,hown,hnew⟩ hS -
 have S:=hS hown hnew
 clear hS
 rw[←hX]at S
 have hLN:LenN X X.length:=⟨rfl⟩
 refine sq S ?_;clear S;intro a S
 refine srn S (r20some_c X 4 (by omega) (by decide) _) ?_;clear S;rintro _ a w ⟨p7,c7,rfl,hown,hnew⟩ hS -
 have S:=hS hown hnew
 clear hS
 have hpl:(be 4 (X.length:Int)++X).length=4+X.length:=by rw[List.length_append,be_len]
 refine sap S (by simp only[maxLen];omega) (by omega) ?_;clear S;rintro p24 c24 a w - S
 rw[←encL_append,show b2.length+(be 4 (X.length:Int)++X).length=(b2++(be 4 (X.length:Int)++X)).length from (List.length_append ..).symm]at S
 refine sq S ?_;clear S;intro a S;refine kN (xbn (xtn (kR ?_)));(iterate 2 (refine sq S ?_;clear S;intro a S));refine kN (xtn ?_)
 rw[w64 ((i4:Int)+1) (by omega) (by omega),show (i4:Int)+1=((i4+1:Nat):Int) from rfl]at S
 refine ⟨i4+1,_,p24,c24,S.uu,⟨hil,?_⟩,S.sub [Wk.row 5 1 p24 _ c24 _,Wk.box b1 67 (cMem m)] _,by omega⟩
 rw[←hrel4,hb2,wu32 (X.length:Int) (by omega) (by omega)];simp
 refine kE (xte (xte (xbe (xtn (kS (kR ?_))))));(iterate 2 (refine sq S ?_;clear S;intro a S));refine kN (xtn (kT ?_))
 have hil:m.seen.length≤i4:=by have:=of_decide_eq_false h21;omega
 rw[List.drop_of_length_le hil,ssP,List.map_nil,seensE,List.append_nil]at hrel4
 subst hrel4
 have hrow:=S.row pz bz.length
 have hnew:=S.rowNew pz bz.length
 refine end1 S (fun _=>?_)
 rw[←hB]
 exact ⟨pz,cz,rfl,hrow,fun ad h=>(hnew ad h).elim (fun h=>h.elim) id⟩
end Go.Proofs.YtdakncgafdnjfaaGreat