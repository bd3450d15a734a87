/- 8: a part of this claim's texts, joined: TermJ MemC MemD MemE MemF MemLaw RefMemA TermK TermL VaultK VaultN PlainVaultE PlainVaultF PlainVaultG. -/
import Derived.Test.YtdakncgafdnjfaaGreatPk7
namespace Go.Proofs.YtdakncgafdnjfaaGreat
open Go Go.Wk
set_option synthInstance.maxSize 100000
set_option synthInstance.maxHeartbeats 400000
set_option maxRecDepth 100000
theorem own_capT {w:World} {e:TypeId} {sz:Nat} {p:Option Addr} {n c:Nat} {xs:List Value} (h:w.ownsRow 0 e sz (.slice p n c) n xs):c≤maxLen:=by
 rcases h.2 with ⟨hv,h0⟩ | ⟨g,cap,cur,hv,hb,hg,hnc,hcm,hcs,ht⟩
 cases hv;exact Nat.zero_le _
 cases hv;exact hcm
def DecR (Mr:Nat→Prop) (h rd m left:Nat) (r:RS) (v:Value) (w:World):Prop:=∃ (z:LTerm) (left':Nat) (r':RS),v=vL z∧decT m left r.bs=.ok (z.t,left',r'.bs)∧left'≤left∧r'.why=0∧SubR r r'∧
 (rtI h rd (left':Nat) r').holds w∧Stable (fun k=>(rtI h rd (left':Nat) r').foot k∨Mr k) w (LtF z)
def DecX (m left:Nat) (r:RS) (ch:List PanicEntry):Prop:=∃ e,ch=pch (wrongE e)∧decT m left r.bs=.error e
theorem rterm_c0 (N:Nat):∀ (m h rd left:Nat) (r:RS) (Mr:Nat→Prop) (w0:World),m < N→m≤60→left≤1200→r.why=0→r.bs.length≤r.c→r.bs.length≤10000000→(∀ k,Mr k→k < w0.heap.size∧¬(rtI h rd (left:Nat) r).foot k)→(rtI h rd (left:Nat) r).holds w0→Stable (fun k=>(rtI h rd (left:Nat) r).foot k∨Mr k) w0 (GlF r.p r.bs)→
  RetP Tryz.prog 169 [.pointer (some ⟨h,0,none⟩),.int .i64 (61 - (m:Nat):Int)] w0 (rtI h rd (left:Nat) r).foot (fun v w'=>DecR Mr h rd m left r v w') (fun ch _=>DecX m left r ch):=by
 induction N with
 | zero=>intro m _ _ _ _ _ _ h;exact absurd h (Nat.not_lt_zero _)
 | succ N ih=>
 intro m h rd left r Mr w0 hmN hm hleft hw hc hl hMr hd hf
 refine enter Tryz.func169 rfl rfl (Wd.it2LentM (x:=tmI h rd (left:Nat)) (y:=rdI rd r) (Mr:=Mr) (fs:=[GlF r.p r.bs]) hd rfl rfl hMr (by simpa using hf)) (fun a S=>?_)
 simp only[Tryz.ntmps169,qqA,qqB,Nat.reduceAdd,Nat.reduceSub,qqC,qqD,qqE,qqF]at S
 refine kS (kR ?_);refine sa S ?_;clear S;intro b4 a w S;refine kN (xtn (kS (kR ?_)));(iterate 4 (refine sq S ?_;clear S;intro a S))
 refine sit (rdI rd r) S (u8R_c rd r _ hc hl (S.it (rdI rd r)) (S.lend (rdI rd r) (S.mem.fact (GlF r.p r.bs)))) rfl ?_;clear S;rintro _ a w ⟨rfl,hh⟩ hS
 have S:=hS (rdI rd (takeR r 1)) hh (fun k h=>.inl h)
 clear hS
 obtain ⟨kd,hkd⟩:∃ kd,kd=numN (tookR r 1) 0:=⟨_,rfl⟩
 rw[←hkd]at S
 have hkl:kd < 256:=by rw[hkd];exact (took_num r 1 (by decide)).2
 refine sq S ?_;clear S;intro a S
 rw[w64 (kd:Int) (by omega) (by omega)]at S
 refine sq S ?_;clear S;intro a S;refine sa S ?_;clear S;intro b5 a w S;refine sw S ?_;clear S;intro a w S;refine kN (xtn (kS (kR ?_)));(iterate 2 (refine sq S ?_;clear S;intro a S));refine sc S ?_;clear S;intro a w S;refine sq S ?_;clear S;intro a S;refine kN (xtn (kS (kR ?_)));(iterate 5 (refine sq S ?_;clear S;intro a S))
 rw[w64 ((left:Int) - 1) (by omega) (by omega)]at S
 replace S:=S.add (Φ:=GlF (takeR r 1).p (takeR r 1).bs) (takeR_gl hc (S.mem.fact (GlF r.p r.bs)))
 have hsub1:SubR r (takeR r 1):=SubR.take r 1
 (iterate 2 (refine sq S ?_;clear S;intro a S));refine sw S ?_;clear S;intro a w S;refine kN (xtn (kS (kR ?_)));(iterate 4 (refine sq S ?_;clear S;intro a S));(iterate 5 (refine gQ S ?_;clear S;intro a S));(iterate 2 (refine sq S ?_;clear S;intro a S));(iterate 2 (refine gQ S ?_;clear S;intro a S));refine sq S ?_;clear S;intro a S
 refine srP S (needR_c h rd ((left:Int) - 1) (takeR r 1) _ w (BoxF.stable (S.box h) (fun h=>h)) (BoxF.stable (S.box rd) (fun h=>h))) (fun ch w' hx S=>?_) ?_
 ·repeat (first | refine xtp ?_ | refine xbp ?_)
  refine endX S ?_
  obtain ⟨e,rfl,(⟨h1,rfl⟩ | ⟨h1,h2,rfl⟩)⟩:=hx
  ·exact ⟨7,rfl,by rw[take1_bad hw h1,decT_nil]⟩
  ·obtain ⟨c,t,hbs,hnum,hr1⟩:=take1_ok hw h1
   refine ⟨150,rfl,?_⟩
   rw[hbs,decT_cons,if_pos]
   rw[hkd,hnum]at h2
   simp only[Bool.and_eq_false_iff,Bool.not_eq_false',decide_eq_true_eq,decide_eq_false_iff_not]at h2
   omega
 clear S;rintro _ a w ⟨hw1,hb⟩ S
 obtain ⟨c,t,hbs,hnum,hr1⟩:=take1_ok hw hw1
 rw[←hkd]at hnum
 simp only[Bool.and_eq_true,Bool.not_eq_true',decide_eq_true_eq,decide_eq_false_iff_not]at hb
 have hdec:decT m left r.bs=decB (decT (m - 1)) left (kd:Int) t:=by
  rw[hbs,decT_cons,if_neg (by rw[←hnum];omega),←hnum]
 obtain ⟨r1,hr1e⟩:∃ r1,r1=takeR r 1:=⟨_,rfl⟩
 rw[←hr1e]at S hw1 hr1 hsub1
 have hc1:=hsub1.cap hc
 have hl1:=hsub1.len
 refine kN (xtn ?_)
 refine c_mrge2 S (fun(r2:RS) (s:List UInt8) uu=>[(7,uu 7),(32,uu 40),(0,uu 41),(0,uu 42),(0,uu 43),(0,uu 44),(0,uu 45),(0,uu 46),(0,uu 47),(0,uu 48),(0,uu 49),(0,uu 50),(0,uu 51),(0,uu 52),(0,uu 53),(0,uu 54),(0,uu 55),(0,uu 56),(0,uu 57),(0,uu 58),(0,uu 59),(0,uu 60),(0,uu 61)]) (fun(r2:RS) (s:List UInt8)=>[Wk.box b5 43 [.int .i64 kd,.int .i64 0,.int .i64 0,str s,.slice none 0 0],tmI h rd ((left:Int) - 1),rdI rd r2,Wk.box b4 43 [.int .i64 0,.int .i64 0,.int .i64 0,.string ⟨#[]⟩,.slice none 0 0],ext Mr]) (fun(r2:RS) (s:List UInt8)=>[GlF r2.p r2.bs]) (fun(r2:RS) (s:List UInt8)=>textD (kd:Int) t=.ok (s,r2.bs)∧r2.why=0∧SubR r1 r2) ?_ ?_
 ·refine kS (kR (sq S ?_));clear S;intro a S;refine sc S ?_;clear S;intro a w S;refine kN (xtn ?_)
  refine kC S (fun h5=>?_) (fun h5=>?_)
  ·refine kS (kR ?_);(iterate 4 (refine sq S ?_;clear S;intro a S))
   refine sit (rdI rd r1) S (u8R_c rd r1 _ hc1 (by omega) (S.it (rdI rd r1)) (S.lend (rdI rd r1) (S.mem.fact (GlF r1.p r1.bs)))) rfl ?_;clear S;rintro _ a w ⟨rfl,hh⟩ hS
   have S:=hS (rdI rd (takeR r1 1)) hh (fun k h=>.inl h)
   clear hS
   obtain ⟨nn,hnn⟩:∃ nn,nn=numN (tookR r1 1) 0:=⟨_,rfl⟩
   rw[←hnn]at S
   have hnl:nn < 256:=by rw[hnn];exact (took_num r1 1 (by decide)).2
   replace S:=S.add (Φ:=GlF (takeR r1 1).p (takeR r1 1).bs) (takeR_gl hc1 (S.mem.fact (GlF r1.p r1.bs)))
   refine sq S ?_;clear S;intro a S
   rw[w64 (nn:Int) (by omega) (by omega)]at S
   refine sq S ?_;clear S;intro a S;refine kN (xtn (kS (kR ?_)));(iterate 3 (refine sq S ?_;clear S;intro a S))
   refine srP S (needR_c h rd ((left:Int) - 1) (takeR r1 1) _ w (BoxF.stable (S.box h) (fun h=>h)) (BoxF.stable (S.box rd) (fun h=>h))) (fun ch w' hx S=>?_) ?_
   ·repeat (first | refine xtp ?_ | refine xbp ?_)
    refine endX S ?_
    obtain ⟨e,rfl,(⟨h1,rfl⟩ | ⟨h1,h2,rfl⟩)⟩:=hx
    ·refine ⟨7,rfl,?_⟩
     rw[hdec,←hr1,take1_bad hw1 h1];exact decB_text (textD_nil h5)
    ·obtain ⟨c2,t2,hb2,hn2,-⟩:=take1_ok hw1 h1
     refine ⟨150,rfl,?_⟩
     rw[hdec,←hr1,hb2]
     refine decB_text (textD_long h5 ?_)
     have:=of_decide_eq_false h2
     omega
   clear S;rintro _ a w ⟨hw1b,hb1⟩ S
   obtain ⟨c2,t2,hb2,hn2,hr2⟩:=take1_ok hw1 hw1b
   rw[←hnn]at hn2
   have hb1:=of_decide_eq_true hb1
   obtain ⟨r1b,hr1b⟩:∃ r1b,r1b=takeR r1 1:=⟨_,rfl⟩
   have hsub1b:SubR r1 r1b:=hr1b▸SubR.take r1 1
   rw[←hr1b]at S hw1b hr2
   have hc1b:=hsub1b.cap hc1
   have hl1b:=hsub1b.len
   refine kN (xtn (kS (kR ?_)));(iterate 5 (refine sq S ?_;clear S;intro a S))
   refine sit (rdI rd r1b) S (rawR_c rd r1b nn _ (by omega) hc1b (by omega) (S.it (rdI rd r1b)) (S.lend (rdI rd r1b) (S.mem.fact (GlF r1b.p r1b.bs)))) rfl ?_;clear S;rintro _ a w ⟨p8,c8,rfl,hh,hf8⟩ hS
   have S:=hS (both (Wk.row 5 1 p8 (tookR r1b nn).length c8 (encL (tookR r1b nn))) (rdI rd (takeR r1b nn))) hh hf8
   clear hS
   replace S:=S.front (both (Wk.row 5 1 p8 (tookR r1b nn).length c8 (encL (tookR r1b nn))) (rdI rd (takeR r1b nn)))
   replace S:=S.ofBoth
   replace S:=S.add (Φ:=GlF (takeR r1b nn).p (takeR r1b nn).bs) (takeR_gl hc1b (S.mem.fact (GlF r1b.p r1b.bs)))
   (iterate 2 (refine sq S ?_;clear S;intro a S));refine sw S ?_;clear S;intro a w S;refine kN (xtn (kR (sq S ?_)));clear S;intro a S
   refine srP S (needR_c h rd ((left:Int) - 1) (takeR r1b nn) _ w (BoxF.stable (S.box h) (fun h=>h)) (BoxF.stable (S.box rd) (fun h=>h))) (fun ch w' hx S=>?_) ?_
   ·repeat (first | refine xtp ?_ | refine xbp ?_)
    refine endX S ?_
    obtain ⟨e,rfl,(⟨h1,rfl⟩ | ⟨h1,h2,rfl⟩)⟩:=hx
    ·refine ⟨7,rfl,?_⟩
     have hsh:=take_bad hw1b h1
     rw[hdec,←hr1,hb2]
     refine decB_text (textD_short h5 (by omega) ?_)
     rw[←hr2,←hn2];exact hsh
    ·cases h2
   clear S;rintro _ a w ⟨hw1c,-⟩ S
   obtain ⟨q1,q2,q3⟩:=take_ok hw1b hw1c
   refine kN (xtn ?_)
   replace S:=((((S.front (ext Mr)).front (Wk.box b4 43 [.int .i64 0,.int .i64 0,.int .i64 0,.string ⟨#[]⟩,.slice none 0 0])).front (rdI rd (takeR r1b nn))).front (tmI h rd ((left:Int) - 1))).front (Wk.box b5 43 [.int .i64 kd,.int .i64 0,.int .i64 0,str (tookR r1b nn),.slice none 0 0])
   refine ⟨takeR r1b nn,tookR r1b nn,S.uu,⟨?_,hw1c,hsub1b.trans (SubR.take r1b nn)⟩,S.sub _ _⟩
   rw[←hr1,hb2,textD_ok h5 (by omega) (by rw[←hr2,←hn2];omega),q2,q3,←hr2,←hn2]
  ·refine kK (xtn ?_)
   rw[show (Value.string ⟨#[]⟩)=str [] from rfl]at S
   replace S:=((((S.front (ext Mr)).front (Wk.box b4 43 [.int .i64 0,.int .i64 0,.int .i64 0,str [],.slice none 0 0])).front (rdI rd r1)).front (tmI h rd ((left:Int) - 1))).front (Wk.box b5 43 [.int .i64 kd,.int .i64 0,.int .i64 0,str [],.slice none 0 0])
   exact ⟨r1,[],S.uu,⟨by rw[←hr1];exact textD_none h5,hw1,SubR.refl r1⟩,S.sub _ _⟩
 ·clear S;rintro r2 s uu a w ⟨htx,hw2,hsub2⟩ S
  have hc2:=hsub2.cap hc1
  have hl2:=hsub2.len
  refine c_mrge2 S (fun(r3:RS) (u:Int) uu=>[(62,uu 62),(0,uu 63),(0,uu 64),(0,uu 65),(0,uu 66),(0,uu 67),(0,uu 68),(0,uu 69),(0,uu 70),(0,uu 71),(0,uu 72),(0,uu 73),(0,uu 74),(0,uu 75)]) (fun(r3:RS) (u:Int)=>[Wk.box b5 43 [.int .i64 kd,.int .i64 u,.int .i64 0,str s,.slice none 0 0],tmI h rd ((left:Int) - 1),rdI rd r3,Wk.box b4 43 [.int .i64 0,.int .i64 0,.int .i64 0,.string ⟨#[]⟩,.slice none 0 0],ext Mr]) (fun(r3:RS) (u:Int)=>[GlF r3.p r3.bs]) (fun(r3:RS) (u:Int)=>userD (kd:Int) r2.bs=.ok (u,r3.bs)∧r3.why=0∧SubR r2 r3) ?_ ?_
  ·refine kS (kR (sq S ?_));clear S;intro a S;refine sc S ?_;clear S;intro a w S;refine kN (xtn ?_)
   refine kC S (fun h10=>?_) (fun h10=>?_)
   ·refine kS (kR ?_);(iterate 4 (refine sq S ?_;clear S;intro a S))
    refine sit (rdI rd r2) S (u8R_c rd r2 _ hc2 (by omega) (S.it (rdI rd r2)) (S.lend (rdI rd r2) (S.mem.fact (GlF r2.p r2.bs)))) rfl ?_;clear S;rintro _ a w ⟨rfl,hh⟩ hS
    have S:=hS (rdI rd (takeR r2 1)) hh (fun k h=>.inl h)
    clear hS
    obtain ⟨uu',huu⟩:∃ uu',uu'=numN (tookR r2 1) 0:=⟨_,rfl⟩
    rw[←huu]at S
    have hul:uu' < 256:=by rw[huu];exact (took_num r2 1 (by decide)).2
    replace S:=S.add (Φ:=GlF (takeR r2 1).p (takeR r2 1).bs) (takeR_gl hc2 (S.mem.fact (GlF r2.p r2.bs)))
    refine sq S ?_;clear S;intro a S
    rw[w64 (uu':Int) (by omega) (by omega)]at S
    refine sq S ?_;clear S;intro a S;refine sw S ?_;clear S;intro a w S;refine kN (xtn (kR ?_));(iterate 3 (refine sq S ?_;clear S;intro a S));refine sc S ?_;clear S;intro a w S
    refine srP S (needR_c h rd ((left:Int) - 1) (takeR r2 1) _ w (BoxF.stable (S.box h) (fun h=>h)) (BoxF.stable (S.box rd) (fun h=>h))) (fun ch w' hx S=>?_) ?_
    ·repeat (first | refine xtp ?_ | refine xbp ?_)
     refine endX S ?_
     obtain ⟨e,rfl,(⟨h1,rfl⟩ | ⟨h1,h2,rfl⟩)⟩:=hx
     ·refine ⟨7,rfl,?_⟩
      rw[hdec];refine decB_user htx ?_
      rw[take1_bad hw2 h1];exact userD_nil h10
     ·obtain ⟨c3,t3,hb3,hn3,-⟩:=take1_ok hw2 h1
      refine ⟨150,rfl,?_⟩
      rw[hdec];refine decB_user htx ?_
      rw[hb3]
      refine userD_bad h10 ?_
      simp only[knownF,Bool.and_eq_false_iff,decide_eq_false_iff_not]at h2
      omega
    clear S;rintro _ a w ⟨hw2b,hb3⟩ S
    obtain ⟨c3,t3,hbb3,hn3,hr3⟩:=take1_ok hw2 hw2b
    rw[←huu]at hn3
    simp only[knownF,Bool.and_eq_true,decide_eq_true_eq]at hb3
    refine kN (xtn ?_)
    replace S:=((((S.front (ext Mr)).front (Wk.box b4 43 [.int .i64 0,.int .i64 0,.int .i64 0,.string ⟨#[]⟩,.slice none 0 0])).front (rdI rd (takeR r2 1))).front (tmI h rd ((left:Int) - 1))).front (Wk.box b5 43 [.int .i64 kd,.int .i64 (uu':Int),.int .i64 0,str s,.slice none 0 0])
    refine ⟨takeR r2 1,(uu':Int),S.uu,⟨?_,hw2b,SubR.take r2 1⟩,S.sub _ _⟩
    rw[hbb3,userD_ok h10 (by omega),hr3,hn3]
   ·refine kK (xtn ?_)
    exact ⟨r2,0,S.uu,⟨userD_none h10,hw2,SubR.refl r2⟩,S.sub _ _⟩
  ·clear S;rintro r3 u uu a w ⟨hus,hw3,hsub3⟩ S
   have hc3:=hsub3.cap hc2
   have hl3:=hsub3.len
   refine c_mrge2 S (fun(r4:RS) (n:Int) uu=>[(76,uu 76),(0,uu 77),(0,uu 78),(0,uu 79),(0,uu 80),(0,uu 81),(0,uu 82),(0,uu 83),(0,uu 84),(0,uu 85),(0,uu 86)]) (fun(r4:RS) (n:Int)=>[Wk.box b5 43 [.int .i64 kd,.int .i64 u,.int .i64 n,str s,.slice none 0 0],tmI h rd ((left:Int) - 1),rdI rd r4,Wk.box b4 43 [.int .i64 0,.int .i64 0,.int .i64 0,.string ⟨#[]⟩,.slice none 0 0],ext Mr]) (fun(r4:RS) (n:Int)=>[GlF r4.p r4.bs]) (fun(r4:RS) (n:Int)=>numD (kd:Int) r3.bs=.ok (n,r4.bs)∧r4.why=0∧SubR r3 r4) ?_ ?_
   ·refine kS (kR (sq S ?_));clear S;intro a S;refine sc S ?_;clear S;intro a w S;refine kN (xtn ?_)
    refine kC S (fun h13=>?_) (fun h13=>?_)
    ·refine kS (kR ?_);(iterate 4 (refine sq S ?_;clear S;intro a S))
     refine sit (rdI rd r3) S (u16R_c rd r3 _ hc3 (by omega) (S.it (rdI rd r3)) (S.lend (rdI rd r3) (S.mem.fact (GlF r3.p r3.bs)))) rfl ?_;clear S;rintro _ a w ⟨rfl,hh⟩ hS
     have S:=hS (rdI rd (takeR r3 2)) hh (fun k h=>.inl h)
     clear hS
     obtain ⟨n2,hn2⟩:∃ n2,n2=numN (tookR r3 2) 0:=⟨_,rfl⟩
     rw[←hn2]at S
     have hn2l:n2 < 65536:=by rw[hn2];exact (took_num r3 2 (by decide)).2
     replace S:=S.add (Φ:=GlF (takeR r3 2).p (takeR r3 2).bs) (takeR_gl hc3 (S.mem.fact (GlF r3.p r3.bs)))
     refine sq S ?_;clear S;intro a S
     rw[w64 (n2:Int) (by omega) (by omega)]at S
     refine sq S ?_;clear S;intro a S;refine sw S ?_;clear S;intro a w S;refine kN (xtn (kR (sq S ?_)));clear S;intro a S
     refine srP S (needR_c h rd ((left:Int) - 1) (takeR r3 2) _ w (BoxF.stable (S.box h) (fun h=>h)) (BoxF.stable (S.box rd) (fun h=>h))) (fun ch w' hx S=>?_) ?_
     ·repeat (first | refine xtp ?_ | refine xbp ?_)
      refine endX S ?_
      obtain ⟨e,rfl,(⟨h1,rfl⟩ | ⟨h1,h2,rfl⟩)⟩:=hx
      ·refine ⟨7,rfl,?_⟩
       rw[hdec];refine decB_num htx hus ?_
       exact numD_bad h13 (take_bad hw3 h1)
      ·cases h2
     clear S;rintro _ a w ⟨hw3b,-⟩ S
     obtain ⟨q1,q2,q3⟩:=take_ok hw3 hw3b
     refine kN (xtn ?_)
     replace S:=((((S.front (ext Mr)).front (Wk.box b4 43 [.int .i64 0,.int .i64 0,.int .i64 0,.string ⟨#[]⟩,.slice none 0 0])).front (rdI rd (takeR r3 2))).front (tmI h rd ((left:Int) - 1))).front (Wk.box b5 43 [.int .i64 kd,.int .i64 u,.int .i64 (n2:Int),str s,.slice none 0 0])
     refine ⟨takeR r3 2,(n2:Int),S.uu,⟨?_,hw3b,SubR.take r3 2⟩,S.sub _ _⟩
     rw[numD_ok h13 (by omega),q3,hn2,q2]
    ·refine kK (xtn ?_)
     exact ⟨r3,0,S.uu,⟨numD_none h13,hw3,SubR.refl r3⟩,S.sub _ _⟩
   ·clear S;rintro r4 n uu a w ⟨hnu,hw4,hsub4⟩ S
    refine kS (kS (kR (sq S ?_)));clear S;intro a S
    have hc4:=hsub4.cap hc3
    have hl4:=hsub4.len
    obtain ⟨hkn,hkn2⟩:=kidsN_int (kd:Int)
    refine sr S (kids_c (fieldsOf (kd:Int)) _) ?_;clear S;rintro _ a w rfl S
    rw[hkn,show (left:Int) - 1=((left - 1:Nat):Int) from by omega]at S
    refine sq S ?_;clear S;intro a S;refine kN (xtn (kB ?_))
    refine c_fore6 S (fun(k:Nat) (zs:List LTerm) (r5:RS) (lf:Nat) (p5:Option Addr) (c5:Nat) uu=>[(89,.int .i64 (k:Nat)),(0,uu 90),(0,uu 91),(0,uu 92),(0,uu 93),(0,uu 94),(0,uu 95),(0,uu 96),(0,uu 97),(0,uu 98),(0,uu 99),(0,uu 100)]) (fun(k:Nat) (zs:List LTerm) (r5:RS) (lf:Nat) (p5:Option Addr) (c5:Nat)=>[Wk.box b5 43 [.int .i64 kd,.int .i64 u,.int .i64 n,str s,.slice p5 k c5],Wk.row 43 5 p5 k c5 (encL zs),tmI h rd (lf:Nat),rdI rd r5,Wk.box b4 43 [.int .i64 0,.int .i64 0,.int .i64 0,.string ⟨#[]⟩,.slice none 0 0],ext Mr]) (fun(k:Nat) (zs:List LTerm) (r5:RS) (lf:Nat) (p5:Option Addr) (c5:Nat)=>[AllL zs,GlF r5.p r5.bs]) (fun(k:Nat) (zs:List LTerm) (r5:RS) (lf:Nat) (p5:Option Addr) (c5:Nat)=>k=zs.length∧k≤kidsN (kd:Int)∧lf≤left - 1∧r5.why=0∧SubR r4 r5∧kidsD (decT (m - 1)) (kidsN (kd:Int)) (left - 1) r4.bs=preD (zs.map LTerm.t) (kidsD (decT (m - 1)) (kidsN (kd:Int) - k) lf r5.bs)) (fun(k:Nat) (zs:List LTerm) (r5:RS) (lf:Nat) (p5:Option Addr) (c5:Nat)=>kidsN (kd:Int) - k) (0) ([]) (r4) (left - 1) (none) (0) ?_ S.uu ?_ ?_
    ·exact ⟨rfl,Nat.zero_le _,Nat.le_refl _,hw4,SubR.refl r4,(preD_nil _).symm⟩
    ·replace S:=S.addNil 43 5
     replace S:=S.add (Φ:=AllL []) (fun _ _ _ hx=>by cases hx)
     rw[show Wk.row 43 5 none 0 0 []=Wk.row 43 5 none 0 0 (encL ([]:List LTerm)) from rfl]at S
     exact S.front (Wk.box b5 43 [.int .i64 kd,.int .i64 u,.int .i64 n,str s,.slice none 0 0])
    ·clear S;rintro k zs r5 lf p5 c5 uu a w ⟨hkz,hk,hlf,hw5,hsub5,hkd5⟩ S
     refine kS (kR (sq S ?_));clear S;intro a S;refine kN (xtn (kS ?_))
     refine kC S (fun h17=>?_) (fun h17=>?_)
     ·refine kK (xtn (kS (kB ?_)))
      have hkl:k < kidsN (kd:Int):=by simp at h17;omega
      have hc5:=hsub5.cap hc4
      have hl5:=hsub5.len
      have hkk:kidsN (kd:Int) - k=(kidsN (kd:Int) - (k+1))+1:=by omega
      refine c_drawXL 9 [(0,true),(1,true),(2,true),(3,true),(4,true),(5,false),(6,false),(7,false),(8,true),(9,false)] [Wk.box b5 43 [.int .i64 kd,.int .i64 u,.int .i64 n,str s,.slice p5 k c5]] (⟨[],[],fun ch w=>Agree (rtI h rd (left:Nat) r).foot w0 w∧DecX m left r ch⟩) S (fun ch a w ⟨_,hd,ha,hx⟩=>by repeat (first | refine xtp ?_ | refine xbp ?_);exact ⟨hd,.inr ⟨ch,rfl,ha,hx⟩⟩) ?_;clear S;intro w S
      (iterate 5 (refine dqXL S ?_;clear S;intro a S))
      rw[w64 ((61:Int) - (m:Nat)+1) (by omega) (by omega),show (61:Int) - (m:Nat)+1=61 - ((m - 1:Nat):Int) from by omega]at S
      refine dlXL ?_
      replace S:=((S.front (rdI rd r5)).front (tmI h rd (lf:Nat))).toBoth
      refine sitMP (rtI h rd (lf:Nat) r5) S (ih (m - 1) h rd lf r5 (restOf _ (rtI h rd (lf:Nat) r5)) w (by omega) (by omega) (by omega) hw5 hc5 (by omega) (S.restOk _) (S.it (rtI h rd (lf:Nat) r5)) ((S.mem.fact (GlF r5.p r5.bs)).split (rtI h rd (lf:Nat) r5))) rfl (fun ch w' hx hS=>?_) ?_
      ·obtain ⟨e,rfl,he⟩:=hx
       have S:=hS (bs':=_)
       refine XP.of S (by simp) rfl ⟨S.wd.agree,e,rfl,?_⟩
       rw[hdec]
       refine decB_kids htx hus hnu ?_
       rw[hkd5,hkk]
       exact kidsD_bad _ _ _ _ _ _ he
      clear S;rintro _ a w ⟨z,lf',r6,rfl,hde,hlf',hw6,hsub6,hh6,hz⟩ hS
      have S:=hS (rtI h rd (lf':Nat) r6) [LtF z] hh6 (fun k h=>.inl h) (by simp only[List.mem_cons,List.not_mem_nil,or_false];rintro Φ rfl;exact hz)
      clear hS
      replace S:=S.ofBoth
      replace S:=S.add (Φ:=GlF r6.p r6.bs) ((S.mem.fact (GlF r5.p r5.bs)).imp fun _ h=>hsub6.gl hc5 _ h)
      have hA1:Stable _ _ (AllL zs):=S.wd.facts (AllL zs) (by simp)
      have hA2:=S.t z
      replace S:=S.add (Φ:=AllL (zs++[z])) (fun w' hw' x hx=>by
       rcases List.mem_append.1 hx with h | h
       ·exact hA1 w' hw' x h
       ·rw[List.mem_singleton.1 h];exact hA2 w' hw')
      refine deXL S ?_;refine dlXL (sn S ?_);clear S;intro b97 a w S;refine deXL S ?_;refine dlXL ?_
      refine sap S (by simp[maxLen];omega) (by omega) ?_;clear S;rintro p7 c7 a w - S
      rw[show encL zs++[Value.int .i64 z.kind,.int .i64 z.user,.int .i64 z.num,str z.text,.slice z.p z.kids.length z.cap]=encL (zs++[z]) from by rw[encL_append];rfl]at S
      refine deXL S ?_;refine dqXL S ?_;clear S;intro a S;refine dlXL (sw S ?_);clear S;intro a w S;refine dzXL (xbn (xtn (kR ?_)));(iterate 2 (refine sq S ?_;clear S;intro a S));refine kN (xtn ?_)
      rw[w64 ((k:Int)+1) (by omega) (by omega)]at S
      replace S:=((((S.front (rdI rd r6)).front (tmI h rd (lf':Nat))).front (Wk.row 43 5 p7 (k+1) c7 (encL (zs++[z])))).front (Wk.box b5 43 [.int .i64 kd,.int .i64 u,.int .i64 n,str s,.slice p7 (k+1) c7]))
      refine ⟨k+1,zs++[z],r6,lf',p7,c7,S.uu,⟨by simp[hkz],hkl,by omega,hw6,hsub5.trans hsub6,?_⟩,S.sub _ _,by omega⟩
      rw[hkd5,hkk,kidsD_step _ _ _ _ _ z.t lf' r6.bs hde,List.map_append];rfl
     ·refine kE (xte (xte (xbe (xtn (kS ?_)))))
      have hk2:kidsN (kd:Int)=k:=by simp at h17;omega
      subst hkz
      refine kR (sq S ?_);clear S;intro a S;refine sw S ?_;clear S;intro a w S;refine kN (xtn (kT ?_))
      have hrow:=S.row p5 zs.length
      have hall:Stable _ _ (AllL zs):=S.wd.facts (AllL zs) (by simp)
      have hap:∀ ad,p5=some ad→¬((rtI h rd (lf:Nat) r5).foot ad.block∨Mr ad.block):=fun ad had hm=>by
       rcases hm with (hm | hm) | hm
       ·exact St.apart2 S (Wk.row 43 5 p5 zs.length c5 (encL zs)) (tmI h rd (lf:Nat)) ad.block ⟨ad,had,rfl⟩ hm
       ·exact St.apart2 S (Wk.row 43 5 p5 zs.length c5 (encL zs)) (rdI rd r5) ad.block ⟨ad,had,rfl⟩ hm
       ·exact St.apart2 S (Wk.row 43 5 p5 zs.length c5 (encL zs)) (ext Mr) ad.block ⟨ad,had,rfl⟩ hm
      have hkids:Stable (fun k=>(rtI h rd (lf:Nat) r5).foot k∨Mr k) _ (AllL zs):=hall.less fun k _ hm=>by
       rcases hm with (hm | hm) | hm
       ·exact ⟨tmI h rd (lf:Nat),by simp,hm⟩
       ·exact ⟨rdI rd r5,by simp,hm⟩
       ·exact ⟨ext Mr,by simp,hm⟩
      have hls:=ls_of_own hrow (fun x hx=>AllL.get hkids hx) hap
      replace S:=((S.front (rdI rd r5)).front (tmI h rd (lf:Nat))).toBoth
      have hh:=S.it (rtI h rd (lf:Nat) r5)
      refine endP (end1 S (fun _=>?_))
      refine ⟨.mk kd u n s p5 c5 zs,lf,r5,rfl,?_,by omega,hw5,((((hsub1.trans hsub2).trans hsub3).trans hsub4).trans hsub5),hh,fun w' hw'=>?_⟩
      ·rw[hdec,LTerm.t_eq]
       refine decB_ok htx hus hnu ?_
       rw[hkd5,hk2,Nat.sub_self,kidsD,preD,List.append_nil];rfl
      ·exact LtIn.iff.2 ⟨own_le hrow,own_capT hrow,hls w' hw'⟩
deriving instance DecidableEq for LMark
theorem eq_mark (m n:LMark) (w:World):(Go.Op.equalIn 10000 177 (.agg ⟨[str m.key,.int .i64 m.ver]⟩) (.agg ⟨[str n.key,.int .i64 n.ver]⟩)).run Tryz.prog w=.ok (decide (m=n)) w:=by
 have u3:=Tryz.underlying3
 have a3:=Tryz.isAgg3
 have z3:=Tryz.sizeOf3
 have u9:=Tryz.underlying9
 have a9:=Tryz.isAgg9
 have z9:=Tryz.sizeOf9
 have hS:Tryz.prog.underlying 177=some (.struct (Tryz.prog.fieldsOf 177)):=by kernel_rfl
 have hp:Tryz.prog.stoodInHeld 177=false:=by kernel_rfl
 obtain ⟨a,x⟩:=m
 obtain ⟨b,y⟩:=n
 rw[show (10000:Nat)=9999+1 from rfl,run_equalIn_agg w 9999 177 _ _ hS hp]
 simp only[Program.fieldsOf,Tryz.underlying177]
 go_simp
 by_cases h1:a=b <;> by_cases h2:x=y <;> simp[h1,h2]
theorem guard_mark:Tryz.prog.eqGuardType Tryz.prog.depth 177=false:=by kernel_rfl
section
variable {l:Cx} {bs:List Wk.Item} {fs:List (World→Prop)} {x y:Operand} {m n:LMark} {t' ty:TypeId}
instance opNeMark [Ev l x (.agg ⟨[str m.key,.int .i64 m.ver]⟩)] [Ev l y (.agg ⟨[str n.key,.int .i64 n.ver]⟩)]:OpQ Tryz.prog (.binOp .neq 177 x y t') ty l bs fs (.bool (!decide (m=n))):=⟨fun ρ w h _=>by
 simp[xop,execOp,h.ev (x:=x) (v:=.agg ⟨[str m.key,.int .i64 m.ver]⟩),h.ev (x:=y) (v:=.agg ⟨[str n.key,.int .i64 n.ver]⟩),Sem.run_bind,run_eqGuard_agg w .neq 177 x y _ _ guard_mark,run_neq_struct,eq_mark]⟩
end
theorem eq_seed (m n:LMark) (w:World):(Go.Op.equalIn 10000 175 (.agg ⟨[str m.key,.int .i64 m.ver]⟩) (.agg ⟨[str n.key,.int .i64 n.ver]⟩)).run Tryz.prog w=.ok (decide (m=n)) w:=by
 have u3:=Tryz.underlying3
 have a3:=Tryz.isAgg3
 have z3:=Tryz.sizeOf3
 have u9:=Tryz.underlying9
 have a9:=Tryz.isAgg9
 have z9:=Tryz.sizeOf9
 have hS:Tryz.prog.underlying 175=some (.struct (Tryz.prog.fieldsOf 175)):=by kernel_rfl
 have hp:Tryz.prog.stoodInHeld 175=false:=by kernel_rfl
 obtain ⟨a,x⟩:=m
 obtain ⟨b,y⟩:=n
 rw[show (10000:Nat)=9999+1 from rfl,run_equalIn_agg w 9999 175 _ _ hS hp]
 simp only[Program.fieldsOf,Tryz.underlying175]
 go_simp
 by_cases h1:a=b <;> by_cases h2:x=y <;> simp[h1,h2]
theorem guard_seed:Tryz.prog.eqGuardType Tryz.prog.depth 175=false:=by kernel_rfl
section
variable {l:Cx} {bs:List Wk.Item} {fs:List (World→Prop)} {x y:Operand} {m n:LMark} {t' ty:TypeId}
instance opEqSeed [Ev l x (.agg ⟨[str m.key,.int .i64 m.ver]⟩)] [Ev l y (.agg ⟨[str n.key,.int .i64 n.ver]⟩)]:OpQ Tryz.prog (.binOp .eql 175 x y t') ty l bs fs (.bool (decide (m=n))):=⟨fun ρ w h _=>by
 simp[xop,execOp,h.ev (x:=x) (v:=.agg ⟨[str m.key,.int .i64 m.ver]⟩),h.ev (x:=y) (v:=.agg ⟨[str n.key,.int .i64 n.ver]⟩),Sem.run_bind,run_eqGuard_agg w .eql 175 x y _ _ guard_seed,run_eql_struct,eq_seed]⟩
instance opNeSeed [Ev l x (.agg ⟨[str m.key,.int .i64 m.ver]⟩)] [Ev l y (.agg ⟨[str n.key,.int .i64 n.ver]⟩)]:OpQ Tryz.prog (.binOp .neq 175 x y t') ty l bs fs (.bool (!decide (m=n))):=⟨fun ρ w h _=>by
 simp[xop,execOp,h.ev (x:=x) (v:=.agg ⟨[str m.key,.int .i64 m.ver]⟩),h.ev (x:=y) (v:=.agg ⟨[str n.key,.int .i64 n.ver]⟩),Sem.run_bind,run_eqGuard_agg w .neq 175 x y _ _ guard_seed,run_neq_struct,eq_seed]⟩
end
theorem indexMk_c (F:Nat) [EntF Tryz.prog F] (ca:List Value) (q:LMark→Bool) (xs:List LMark) (p:Option Addr) (n c:Nat) (w0:World) (hn:xs.length=n) (hl:n≤9223372036854775807) (hx:Stable (fun _=>False) w0 (GlF p xs))
  (hF:∀ x∈xs,∀ w,Agree (fun _=>False) w0 w→Ret Tryz.prog F (vMark x::ca) w (fun _=>False) fun v _=>v=.bool (q x)) :
  Ret Tryz.prog 253 [.slice p n c,.func (.func F) #[] ⟨ca⟩] w0 (fun _=>False) fun v _=>v=.int .i64 (idxG q xs 0):=by
 refine enter Tryz.func253 rfl rfl (Wd.begin (fs:=[GlF p xs]) (by simpa using hx)) (fun a S=>?_)
 simp only[Tryz.ntmps253,qqA,qqB,Nat.reduceAdd,Nat.reduceSub,qqC,qqD,qqE,qqF]at S
 refine kS (kR (sq S ?_));clear S;intro a S;refine kN (xtn (kS (kS (kR ?_))));(iterate 3 (refine sq S ?_;clear S;intro a S));refine kN (xtn (kB ?_))
 refine c_forb1 S (fun(k:Nat) uu=>[(4,uu 4),(0,uu 5),(2,.int .i64 (k:Nat)),(0,uu 9),(0,uu 10),(0,uu 11),(0,uu 12),(0,uu 13),(0,uu 14),(0,uu 15),(0,uu 16),(0,uu 17),(0,uu 18)]) (fun(k:Nat)=>k≤n∧idxG q (xs.drop k) k=idxG q xs 0) (fun(k:Nat)=>n - k) (0) ?_ S.uu ?_ ?_
 exact ⟨Nat.zero_le _,rfl⟩
 first | exact S | exact S.sub _ _
 clear S;rintro k uu a w ⟨hk,hrel⟩ S
 refine kS (kR (sq S ?_));clear S;intro a S;refine kN (xtn (kS ?_))
 refine kC S (fun h2=>?_) (fun h2=>?_)
 refine kK (xtn (kS (kB (kS (kR ?_)))));(iterate 2 (refine sq S ?_;clear S;intro a S));refine kN (xtn (kS ?_))
 have hkl:k < n:=by simp at h2;omega
 have hK:KLt k n:=⟨hkl⟩
 have hK2:KLt k xs.length:=⟨by omega⟩
 rw[nthG_drop (show k < xs.length by omega),idxG]at hrel
 refine kR ?_;(iterate 5 (refine sq S ?_;clear S;intro a S))
 refine sr S (hF (nthG xs k) (nthG_mem (by omega)) w S.wd.agree) ?_;clear S;rintro _ a w rfl S
 refine kN (xtn ?_)
 refine kC S (fun h4=>?_) (fun h4=>?_)
 refine kS (kR ?_);(iterate 2 (refine sq S ?_;clear S;intro a S));refine kN (xtn (kT (xbr (xtr (xtr (xbr (xtr ?_)))))))
 rw[if_pos h4]at hrel
 refine end1 S (fun _=>?_)
 rw[hrel]
 refine kK (xbn (xtn (kR ?_)));(iterate 2 (refine sq S ?_;clear S;intro a S));refine kN (xtn ?_)
 rw[if_neg (by simpa using h4)]at hrel
 rw[w64 ((k:Int)+1) (by omega) (by omega)]at S
 exact ⟨k+1,S.uu,⟨hkl,by rw[←hrel];rfl⟩,S.sub _ _,by omega⟩
 refine kE (xte (xte (xbe (xtn (kS (kR (sq S ?_)))))));clear S;intro a S;refine kN (xtn (kT ?_))
 rw[List.drop_of_length_le (by simp at h2;omega)]at hrel
 refine end1 S (fun _=>?_)
 rw[←hrel];rfl
theorem containsMk_c (F:Nat) [EntF Tryz.prog F] (ca:List Value) (q:LMark→Bool) (xs:List LMark) (p:Option Addr) (n c:Nat) (w0:World) (hn:xs.length=n) (hl:n≤9223372036854775807) (hx:Stable (fun _=>False) w0 (GlF p xs))
  (hF:∀ x∈xs,∀ w,Agree (fun _=>False) w0 w→Ret Tryz.prog F (vMark x::ca) w (fun _=>False) fun v _=>v=.bool (q x)) :
  Ret Tryz.prog 211 [.slice p n c,.func (.func F) #[] ⟨ca⟩] w0 (fun _=>False) fun v _=>v=.bool (xs.any q):=by
 refine enter Tryz.func211 rfl rfl (Wd.begin (fs:=[GlF p xs]) (by simpa using hx)) (fun a S=>?_)
 simp only[Tryz.ntmps211,qqA,qqB,Nat.reduceAdd,Nat.reduceSub,qqC,qqD,qqE,qqF]at S
 refine kS (kR (sq S ?_));clear S;intro a S;refine kN (xtn (kS (kR ?_)));(iterate 2 (refine sq S ?_;clear S;intro a S))
 refine sr S (indexMk_c F ca q xs p n c _ hn hl (S.gl0 p) fun x hx w' hw'=>hF x hx w' (S.wd.agree.trans hw')) ?_;clear S;rintro _ a w rfl S
 (iterate 2 (refine sq S ?_;clear S;intro a S));refine kN (xtn (kT ?_))
 refine end1 S (fun _=>?_)
 rw[idxG_any q xs 0 (by omega)]
def covK (m x:LMark):Bool:=decide (x.key=m.key)&&decide (m.ver≤x.ver)
theorem fcovK1_c (b:Nat) (m x:LMark) (w0:World) (hb:Stable (fun _=>False) w0 (BoxF b 177 [str m.key,.int .i64 m.ver])):Ret Tryz.prog 212 [vMark x,.pointer (some ⟨b,0,none⟩)] w0 (fun _=>False) fun v _=>v=.bool (covK m x):=by
 refine enter Tryz.func212 rfl rfl (Wd.begin (fs:=[BoxF b 177 [str m.key,.int .i64 m.ver]]) (by simpa using hb)) (fun a S=>?_)
 simp only[Tryz.ntmps212,qqA,qqB,Nat.reduceAdd,Nat.reduceSub,qqC,qqD,qqE,qqF]at S
 refine kS (kR ?_);refine sa S ?_;clear S;intro b2 a w S;refine sq S ?_;clear S;intro a S;refine kN (xtn (kS (kR ?_)));(iterate 6 (refine sq S ?_;clear S;intro a S));(iterate 5 (refine gQ S ?_;clear S;intro a S));(iterate 2 (refine sq S ?_;clear S;intro a S));refine kN (xtn (kT ?_))
 refine end1 S (fun _=>?_)
 first | rfl | simp[covK]
theorem fcov1_c (b:Nat) (m:LMark) (now:List LMark) (q:Option Addr) (n e:Nat) (w0:World) (hn:now.length=n) (hl:n≤1000000) (hb:Stable (fun _=>False) w0 (BoxF b 64 [.slice q n e])) (hx:Stable (fun _=>False) w0 (GlF q now)):Ret Tryz.prog 210 [vMark m,.pointer (some ⟨b,0,none⟩)] w0 (fun _=>False) fun v _=>v=.bool (!now.any (covK m)):=by
 refine enter Tryz.func210 rfl rfl (Wd.begin (fs:=[BoxF b 64 [.slice q n e],GlF q now]) (by simp;exact ⟨hb,hx⟩)) (fun a S=>?_)
 simp only[Tryz.ntmps210,qqA,qqB,Nat.reduceAdd,Nat.reduceSub,qqC,qqD,qqE,qqF]at S
 refine kS (kR ?_);refine sa S ?_;clear S;intro b2 a w S;refine sq S ?_;clear S;intro a S;refine kN (xtn (kS (kR ?_)));(iterate 2 (refine sq S ?_;clear S;intro a S))
 have hbx:=BoxF.stable (M:=fun _=>False) (S.boxF b2) (fun h=>h)
 refine sr S (containsMk_c 212 [.pointer (some ⟨b2,0,none⟩)] (covK m) now q n e _ hn (by omega) (S.gl0 q) (fun x _ w' hw'=>fcovK1_c b2 m x w' (hbx.later hw'))) ?_;clear S;rintro _ a w rfl S
 (iterate 2 (refine sq S ?_;clear S;intro a S));refine kN (xtn (kT ?_))
 refine end1 S (fun _=>rfl)
theorem fcov_c (old now:List LMark) (p q:Option Addr) (c e:Nat) (w0:World) (hl:old.length≤1000000) (hl2:now.length≤1000000) (hx:Stable (fun _=>False) w0 (GlF p old)) (hy:Stable (fun _=>False) w0 (GlF q now)) :
  Ret Tryz.prog 123 [.slice p old.length c,.slice q now.length e] w0 (fun _=>False) fun v _=>v=.bool (!old.any fun m=>!now.any (covK m)):=by
 refine enter Tryz.func123 rfl rfl (Wd.begin (fs:=[GlF p old,GlF q now]) (by simp;exact ⟨hx,hy⟩)) (fun a S=>?_)
 simp only[Tryz.ntmps123,qqA,qqB,Nat.reduceAdd,Nat.reduceSub,qqC,qqD,qqE,qqF]at S
 refine kS (kR ?_);refine sa S ?_;clear S;intro b3 a w S;refine sq S ?_;clear S;intro a S;refine kN (xtn (kS (kR ?_)));(iterate 2 (refine sq S ?_;clear S;intro a S));refine kN (xtn (kS (kR ?_)));(iterate 2 (refine sq S ?_;clear S;intro a S))
 have hbx:=BoxF.stable (M:=fun _=>False) (S.boxF b3) (fun h=>h)
 have hqx:=S.gl0 q
 refine sr S (containsMk_c 210 [.pointer (some ⟨b3,0,none⟩)] (fun m=>!now.any (covK m)) old p old.length c _ rfl (by omega) (S.gl0 p) (fun x _ w' hw'=>fcov1_c b3 x now q now.length e w' rfl hl2 (hbx.later hw') (hqx.later hw'))) ?_;clear S;rintro _ a w rfl S
 (iterate 2 (refine sq S ?_;clear S;intro a S));refine kN (xtn (kT ?_))
 refine end1 S (fun _=>rfl)
theorem cisnan_c (x:Int) (w0:World):Ret Tryz.prog 207 [.int .i64 x] w0 (fun _=>False) fun v _=>v=.bool false:=by
 refine enter Tryz.func207 rfl rfl (Wd.start w0) (fun a S=>?_)
 simp only[Tryz.ntmps207,qqA,qqB,Nat.reduceAdd,Nat.reduceSub,qqC,qqD,qqE,qqF]at S
 refine kS (kR (sq S ?_));clear S;intro a S;refine kN (xtn (kS (kR ?_)));(iterate 4 (refine sq S ?_;clear S;intro a S));refine kN (xtn (kT ?_))
 refine end1 S (fun _=>?_)
 simp
def cmpI (x y:Int):Int:=if x < y then -1 else if y < x then 1 else 0
theorem ccmp_c (x y:Int) (w0:World):Ret Tryz.prog 121 [.int .i64 x,.int .i64 y] w0 (fun _=>False) fun v _=>v=.int .i64 (cmpI x y):=by
 refine enter Tryz.func121 rfl rfl (Wd.start w0) (fun a S=>?_)
 simp only[Tryz.ntmps121,qqA,qqB,Nat.reduceAdd,Nat.reduceSub,qqC,qqD,qqE,qqF]at S
 refine kS (kR (sq S ?_));clear S;intro a S;refine kN (xtn (kS (kR (sq S ?_))));clear S;intro a S;refine sr S (cisnan_c x _) ?_;clear S;rintro _ a w rfl S;refine sq S ?_;clear S;intro a S;refine kN (xtn (kS (kR (sq S ?_))));clear S;intro a S;refine sr S (cisnan_c y _) ?_;clear S;rintro _ a w rfl S;refine sq S ?_;clear S;intro a S;refine kN (xtn (kS (kS (kR (sq S ?_)))));clear S;intro a S;refine kN (xtn ?_);refine c_condF S ?_;refine kK (xtn (kS (kS (kR (sq S ?_)))));clear S;intro a S;refine kN (xtn ?_);refine c_condF S ?_;refine kK ?_
 refine xtn (kS (kS (kR ?_)));(iterate 3 (refine sq S ?_;clear S;intro a S));refine kN (xtn ?_)
 refine kC S (fun h9=>?_) (fun h9=>?_)
 refine kS (kR (sq S ?_));clear S;intro a S;refine kN (xtn (kT (xtr ?_)))
 have h:x < y:=by simpa using h9
 refine end1 S (fun _=>?_)
 rw[cmpI,if_pos h]
 refine kK (xtn (kS (kS (kR ?_))));(iterate 3 (refine sq S ?_;clear S;intro a S));refine kN (xtn ?_)
 refine kC S (fun h11=>?_) (fun h11=>?_)
 refine kS (kR (sq S ?_));clear S;intro a S;refine kN (xtn (kT (xtr ?_)))
 have h:¬x < y:=by simpa using h9
 have h':y < x:=by simpa using h11
 refine end1 S (fun _=>?_)
 rw[cmpI,if_neg h,if_pos h']
 refine kK (xtn (kS (kR (sq S ?_))));clear S;intro a S;refine kN (xtn (kT ?_))
 have h:¬x < y:=by simpa using h9
 have h':¬y < x:=by simpa using h11
 refine end1 S (fun _=>?_)
 rw[cmpI,if_neg h,if_neg h']
theorem ffind1_c (s:LSeen) (u:Int) (w0:World):Ret Tryz.prog 250 [.agg ⟨cSeen s⟩,.int .i64 u] w0 (fun _=>False) fun v _=>v=.int .i64 (cmpI s.user u):=by
 refine enter Tryz.func250 rfl rfl (Wd.start w0) (fun a S=>?_)
 simp only[Tryz.ntmps250,qqA,qqB,Nat.reduceAdd,Nat.reduceSub,qqC,qqD,qqE,qqF]at S
 refine kS (kR ?_);refine sa S ?_;clear S;intro b2 a w S;refine sq S ?_;clear S;intro a S;refine kN (xtn (kS (kR ?_)));(iterate 3 (refine sq S ?_;clear S;intro a S));refine sr S (ccmp_c s.user u _) ?_;clear S;rintro _ a w rfl S;refine sq S ?_;clear S;intro a S;refine kN (xtn (kT ?_))
 refine end1 S (fun _=>rfl)
instance {s:LSeen} {u:Int} {bs fs} : CallV Tryz.prog 250 [.agg ⟨[.int .i64 s.user,.int .i64 s.cnt,.int .i64 s.root.kind,.int .i64 s.root.user,.int .i64 s.root.num,str s.root.text,.slice s.root.p s.root.kids.length s.root.cap]⟩,.int .i64 u] bs fs (.int .i64 (cmpI s.user u)):=⟨fun w _=>ffind1_c s u w⟩
theorem cmpI_lt {x y:Int} : decide (cmpI x y < 0)=decide (x < y):=by
 unfold cmpI;split
 rename_i h;rw[decide_eq_true h];rfl
 rename_i h;rw[decide_eq_false h];split <;> rfl
theorem cmpI_eq {x y:Int} : decide (cmpI x y=0)=decide (x=y):=by
 unfold cmpI;split
 rename_i h;rw[decide_eq_false (show ¬x=y by omega)];rfl
 split
 rename_i h;rw[decide_eq_false (show ¬x=y by omega)];rfl
 rw[decide_eq_true (show x=y by omega)];rfl
def AtS (l:List LSeen) (u:Int) (i:Nat) (b:Bool):Prop:=i≤l.length∧b=(decide ((i:Int) < (l.length:Int))&&decide ((nthG l i).user=u))∧((∀ a c,a < c→c < l.length→(nthG l a).user < (nthG l c).user)→(∀ a,a < i→(nthG l a).user < u)∧∀ a,i≤a→a < l.length→u≤(nthG l a).user)
theorem fbsK_c (l:List LSeen) (p:Option Addr) (c:Nat) (u:Int) (w0:World) (hl:l.length≤1000000) (hx:Stable (fun _=>False) w0 (GlF p l)) :
  Ret Tryz.prog 249 [.slice p l.length c,.int .i64 u,.func (.func 250) #[] #[]] w0 (fun _=>False) fun v _=>∃ (i:Nat) (b:Bool),v=.tuple ⟨[.int .i64 (i:Nat),.bool b]⟩∧AtS l u i b:=by
 refine enter Tryz.func249 rfl rfl (Wd.begin (fs:=[GlF p l]) (by simpa using hx)) (fun a S=>?_)
 simp only[Tryz.ntmps249,qqA,qqB,Nat.reduceAdd,Nat.reduceSub,qqC,qqD,qqE,qqF]at S
 refine kS (kR ?_);(iterate 2 (refine sq S ?_;clear S;intro a S));refine kN (xtn (kS (kR ?_)));(iterate 3 (refine sq S ?_;clear S;intro a S));refine kN (xtn (kS (kR ?_)));(iterate 3 (refine sq S ?_;clear S;intro a S));refine kN (xtn (kS (kB ?_)))
 refine c_forb2 S (fun(i:Nat) (j:Nat) uu=>[(9,.int .i64 (i:Nat)),(0,.int .i64 (j:Nat)),(0,uu 11),(3,uu 15),(0,uu 16),(0,uu 17),(0,uu 18),(0,uu 19),(0,uu 20),(0,uu 21),(0,uu 22),(0,uu 23),(0,uu 24),(0,uu 25),(0,uu 26),(0,uu 27),(0,uu 28),(0,uu 29),(0,uu 30),(0,uu 31),(0,uu 32),(0,uu 33),(0,uu 34)]) (fun(i:Nat) (j:Nat)=>i≤j∧j≤l.length∧((∀ a c,a < c→c < l.length→(nthG l a).user < (nthG l c).user)→(∀ a,a < i→(nthG l a).user < u)∧∀ a,j≤a→a < l.length→u≤(nthG l a).user)) (fun(i:Nat) (j:Nat)=>j - i) (0) (l.length) ?_ S.uu ?_ ?_
 exact ⟨Nat.zero_le _,Nat.le_refl _,fun _=>⟨fun a h=>by omega,fun a h h2=>by omega⟩⟩
 first | exact S | exact S.sub _ _
 clear S;rintro i j uu a w ⟨hij,hjl,hso⟩ S
 refine kS (kS (kR ?_));(iterate 3 (refine sq S ?_;clear S;intro a S));refine kN (xtn ?_)
 refine kC S (fun h3=>?_) (fun h3=>?_)
 refine kK (xtn (kB (kS (kR ?_))));(iterate 5 (refine sq S ?_;clear S;intro a S))
 rw[half_u i j (by omega)]at S
 refine sq S ?_;clear S;intro a S
 rw[show IntKind.i64.wrap (((i+j) / 2:Nat):Int)=(((i+j) / 2:Nat):Int) from w64 _ (by omega) (by omega)]at S
 have hKh:KLt ((i+j) / 2) l.length:=⟨by simp at h3;omega⟩
 refine sq S ?_;clear S;intro a S;refine kN (xtn (kS (kR ?_)));(iterate 6 (refine sq S ?_;clear S;intro a S));refine sr S (ffind1_c (nthG l ((i+j) / 2)) u _) ?_;clear S;rintro _ a w rfl S;refine sq S ?_;clear S;intro a S
 rw[cmpI_lt]at S
 refine kN (xtn ?_)
 refine kC S (fun h5=>?_) (fun h5=>?_)
 refine kR ?_;(iterate 2 (refine sq S ?_;clear S;intro a S))
 rw[show IntKind.i64.wrap ((((i+j) / 2:Nat):Int)+1)=(((i+j) / 2+1:Nat):Int) from w64 _ (by omega) (by omega)]at S
 refine sq S ?_;clear S;intro a S;refine kN (xbn (xtn ?_))
 have h3':i < j:=by simp at h3;omega
 have h5':=of_decide_eq_true h5
 refine ⟨(i+j) / 2+1,j,S.uu,⟨by omega,hjl,fun hs=>⟨fun a ha=>?_,(hso hs).2⟩⟩,S.sub _ _,by omega⟩
 rcases Nat.lt_succ_iff_lt_or_eq.1 ha with h | rfl
 exact Int.lt_trans (hs a _ h (by omega)) h5'
 exact h5'
 refine kR ?_;(iterate 2 (refine sq S ?_;clear S;intro a S));refine kN (xbn (xtn ?_))
 have h3':i < j:=by simp at h3;omega
 have h5':=of_decide_eq_false h5
 refine ⟨i,(i+j) / 2,S.uu,⟨by omega,by omega,fun hs=>⟨(hso hs).1,fun a ha hal=>?_⟩⟩,S.sub _ _,by omega⟩
 rcases Nat.eq_or_lt_of_le ha with rfl | h
 omega
 have:=hs _ a h hal;omega
 refine kE (xte (xte (xbe (xtn (kS (kR ?_))))));(iterate 5 (refine sq S ?_;clear S;intro a S));(iterate 6 (refine gQ S ?_;clear S;intro a S));refine gC S ?_;clear S;intro a w S;refine gQ S ?_;clear S;intro a S;(iterate 3 (refine sq S ?_;clear S;intro a S));refine kN (xtn (kT ?_))
 have hije:i=j:=by simp at h3;omega
 subst hije
 refine end2 S (fun _=>⟨i,_,rfl,hjl,?_,hso⟩)
 rw[cmpI_eq]
theorem ffindK_c (l:List LSeen) (p:Option Addr) (c:Nat) (u:Int) (w0:World) (hl:l.length≤1000000) (hx:Stable (fun _=>False) w0 (GlF p l)) :
  Ret Tryz.prog 205 [.slice p l.length c,.int .i64 u] w0 (fun _=>False) fun v _=>∃ (i:Nat) (b:Bool),v=.tuple ⟨[.int .i64 (i:Nat),.bool b]⟩∧AtS l u i b:=by
 refine enter Tryz.func205 rfl rfl (Wd.begin (fs:=[GlF p l]) (by simpa using hx)) (fun a S=>?_)
 simp only[Tryz.ntmps205,qqA,qqB,Nat.reduceAdd,Nat.reduceSub,qqC,qqD,qqE,qqF]at S
 refine kS (kR ?_);(iterate 2 (refine sq S ?_;clear S;intro a S));refine kN (xtn (kS (kR ?_)));(iterate 2 (refine sq S ?_;clear S;intro a S))
 refine sr S (fbsK_c l p c u _ hl (S.gl0 p)) ?_;clear S;rintro _ a w ⟨i,b,rfl,hib⟩ S
 (iterate 4 (refine sq S ?_;clear S;intro a S));refine kN (xtn (kT ?_))
 exact end2 S (fun _=>⟨i,b,rfl,hib⟩)
theorem own_cap {w:World} {e:TypeId} {sz:Nat} {p:Option Addr} {n c:Nat} {xs:List Value} (h:w.ownsRow 0 e sz (.slice p n c) n xs):c≤maxLen:=own_capT h
theorem cntL_len (ts:List Term):ts.length≤cntL ts:=by
 induction ts with
 | nil=>exact Nat.zero_le _
 | cons t ts ih=>have:=cnt_pos t;simp only[cntL,qqA];omega
theorem set_map (ys:List LTerm) (k:Nat) (r:LTerm) (zs:List Term) (h:ys.map LTerm.t=zs) (hr:zs[k]? = some r.t):(ys.set k r).map LTerm.t=zs:=by
 subst h
 rw[List.map_set]
 apply List.ext_getElem?
 intro i
 rw[List.getElem?_set]
 split
 rename_i h;subst h
 split
 exact hr.symm
 rename_i h2;rw[List.getElem?_eq_none (by simpa using h2)]at hr;cases hr
 rfl
theorem cnt_kids (t:LTerm):cnt t.t=1+cntL (t.kids.map LTerm.t):=by rw[t.t_eq,cnt]
theorem encL_set (ys:List LTerm) (i:Nat) (x:LTerm) (h:i < ys.length):(encL ys).take (i*5)++x.cells++(encL ys).drop (i*5+x.cells.length)=encL (ys.set i x):=by
 have e1:(encL ys).take (i*5)=encL (ys.take i):=encL_take ys i
 rw[show i*5+x.cells.length=(i+1)*5 from by simp;omega,encL_drop ys (i+1) (by omega),e1,←encT_cells,←encL_append,←encL_append,List.set_eq_take_append_cons_drop,if_pos h]
 simp
theorem fcopied_c0 (N:Nat):∀ (t:LTerm) (M:Nat→Prop) (w0:World),SizeOf.sizeOf t < N→cnt t.t≤1200→(∀ k,M k→k < w0.heap.size)→Stable M w0 (LtF t)→Ret Tryz.prog 206 [vL t] w0 (fun _=>False) fun v w'=>IsT M w' v t.t:=by
 induction N with
 | zero=>intro t _ _ h;exact absurd h (Nat.not_lt_zero _)
 | succ N ih=>
 intro t M w0 hN hc hM hf
 have hlen:t.kids.length≤1200:=by have h1:=cnt_kids t;have h2:=cntL_len (t.kids.map LTerm.t);rw[List.length_map]at h2;omega
 have hkc:∀ x∈t.kids,cnt x.t≤1200:=fun x hx=>by have h1:=cnt_kids t;have h2:=cntL_mem (List.mem_map.2 ⟨x,hx,rfl⟩:x.t∈t.kids.map LTerm.t);omega
 refine enter Tryz.func206 rfl rfl (Wd.beginM (M:=M) (fs:=[LtF t]) hM (by simpa using hf)) (fun a S=>?_)
 simp only[Tryz.ntmps206,qqA,qqB,Nat.reduceAdd,Nat.reduceSub,qqC,qqD,qqE,qqF]at S
 refine kS (kR ?_);refine sa S ?_;clear S;intro b1 a w S;refine sa S ?_;clear S;intro b2 a w S;refine kN (xtn (kS (kR ?_)));(iterate 2 (refine sq S ?_;clear S;intro a S))
 refine srn S (clone_c t.kids t.p t.kids.length t.cap _ rfl (by omega) (ls_of_lt (S.t0 t))) ?_;clear S;rintro _ a w ⟨p',c',rfl,hown,hnew⟩ hS -
 have S:=hS hown hnew
 clear hS
 refine sq S ?_;clear S;intro a S;refine sw S ?_;clear S;intro a w S;refine kN (xtn (kS (kS (kR ?_))));(iterate 4 (refine sq S ?_;clear S;intro a S));refine kN (xtn (kB ?_))
 refine c_fore2 S (fun(k:Nat) (ys:List LTerm) uu=>[(3,uu 3),(7,.int .i64 (k:Nat)),(0,uu 12),(0,uu 13),(0,uu 14),(0,uu 15),(0,uu 16),(0,uu 17),(0,uu 18),(0,uu 19),(0,uu 20),(0,uu 21),(0,uu 22),(0,uu 23),(0,uu 24)]) (fun(k:Nat) (ys:List LTerm)=>[Wk.row 43 5 p' t.kids.length c' (encL ys),Wk.box b2 43 zeroL.cells,Wk.box b1 43 [.int .i64 t.kind,.int .i64 t.user,.int .i64 t.num,str t.text,.slice p' t.kids.length c'],ext M]) (fun(k:Nat) (ys:List LTerm)=>[AllL ys,LtF t]) (fun(k:Nat) (ys:List LTerm)=>k≤t.kids.length∧ys.length=t.kids.length∧ys.map LTerm.t=t.kids.map LTerm.t∧ys.drop k=t.kids.drop k) (fun(k:Nat) (ys:List LTerm)=>t.kids.length - k) (0) (t.kids) ?_ S.uu ?_ ?_
 ·exact ⟨Nat.zero_le _,rfl,rfl,rfl⟩
 ·exact S.add (Φ:=AllL t.kids) (AllL.stable fun x hx=>kid_st (S.t t) hx)
 ·clear S;rintro k ys uu a w ⟨hk,hyl,hym,hyd⟩ S
  refine kS (kR (sq S ?_));clear S;intro a S;refine kN (xtn (kS ?_))
  refine kC S (fun h3=>?_) (fun h3=>?_)
  ·refine kK (xtn (kS (kB (kS ?_))))
   have hkl:k < t.kids.length:=by simp at h3;omega
   have hK:KLt k t.kids.length:=⟨hkl⟩
   have hyk:ys[k]? = some (nthL t.kids k):=by
    have:=congrArg (fun l=>l[0]?) hyd
    simp only[List.getElem?_drop,Nat.add_zero]at this
    rw[this,nth_get hkl]
   refine kR ?_;(iterate 2 (refine sq S ?_;clear S;intro a S));refine kN (xtn ?_)
   refine c_drwe1 (.q 0 (.q 1 (.q 2 (.q 3 (.q 4 (.q 5 (.l 6 (.l 7 (.l 8 (.l 9 (.l 10 (.e)))))))))))) S (fun(ys':List LTerm) uu=>[(14,uu 14),(0,uu 15),(0,uu 16),(0,uu 17),(0,uu 18),(0,uu 19),(0,uu 20),(0,uu 21),(0,uu 22),(0,uu 23)]) [Wk.box b2 43 zeroL.cells,Wk.box b1 43 [.int .i64 t.kind,.int .i64 t.user,.int .i64 t.num,str t.text,.slice p' t.kids.length c'],ext M] (fun(ys':List LTerm)=>[Wk.row 43 5 p' t.kids.length c' (encL ys'),Wk.box b2 43 zeroL.cells,Wk.box b1 43 [.int .i64 t.kind,.int .i64 t.user,.int .i64 t.num,str t.text,.slice p' t.kids.length c'],ext M]) (fun(ys':List LTerm)=>[AllL ys',LtF t]) (fun(ys':List LTerm)=>ys'.length=t.kids.length∧ys'.map LTerm.t=t.kids.map LTerm.t∧ys'.drop (k+1)=t.kids.drop (k+1)) ?_ ?_
   ·intro w S
    (iterate 6 (refine tq S ?_;clear S;intro a S));refine tl (sq S ?_);clear S;intro a S;refine te S ?_;refine tl ?_
    refine slrA (nthL t.kids k).cells S t.kids.length (fun j v hj=>?_) ?_
    ·have hj5:j < 5:=(List.getElem?_eq_some_iff.1 hj).1
     rw[←hj];exact encL_get ys k _ hyk j hj5
    clear S;intro a S;refine te S ?_;refine tl ?_
    refine sr S (ih (nthL t.kids k) _ w (by have:=LTerm.kid_lt (nth_mem hkl);omega) (hkc _ (nth_mem hkl)) (foots_lt S) (kid_st (S.t t) (nth_mem hkl))) ?_;clear S;rintro _ a w ⟨r,rfl,hr,hrf⟩ S
    replace S:=S.add (Φ:=LtF r) hrf
    refine te S ?_;refine tl (sq S ?_);clear S;intro a S;refine te S ?_;refine tl ?_
    refine sws S t.kids.length (by omega) (by omega) ?_;clear S;intro a w S
    rw[encL_set ys k r (by omega)]at S
    refine te S ?_;refine tn ?_
    refine ⟨ys.set k r,S.uu,⟨by simpa using hyl,set_map ys k r _ hym (by rw[List.getElem?_map,nth_get hkl,hr];rfl),?_⟩,?_⟩
    ·rw[List.drop_set_of_lt (by omega),←List.drop_drop,hyd,List.drop_drop]
    ·have h1:Stable _ _ (AllL ys):=S.wd.facts (AllL ys) (by simp)
     have h2:=S.t r
     replace S:=S.add (Φ:=AllL (ys.set k r)) (fun w' hw' x hx=>by
      rcases List.mem_or_eq_of_mem_set hx with h | rfl
      ·exact h1 w' hw' x h
      ·exact h2 w' hw')
     exact S.sub _ _
   clear S;rintro ys' uu a w ⟨hyl',hym',hyd'⟩ S
   refine xbn (xtn (kR ?_));(iterate 2 (refine sq S ?_;clear S;intro a S));refine kN (xtn ?_)
   rw[w64 ((k:Int)+1) (by omega) (by omega)]at S
   exact ⟨k+1,ys',S.uu,⟨hkl,hyl',hym',hyd'⟩,S.sub _ _,by omega⟩
  ·refine kE (xte (xte (xbe (xtn (kS (kR (sq S ?_)))))));clear S;intro a S;refine sw S ?_;clear S;intro a w S;refine kN (xtn (kT ?_))
   have hrow:=S.row p' t.kids.length
   have hnew:=S.rowNew p' t.kids.length
   have hall:=S.laterFact (Φ:=AllL ys) (by simp)
   refine end1 S (fun _=>?_)
   refine ⟨.mk t.kind t.user t.num t.text p' c' ys,by simp only[vL,LTerm.kind,LTerm.user,LTerm.num,LTerm.text,LTerm.p,LTerm.cap,LTerm.kids,hyl],?_,fun w' hw'=>?_⟩
   ·rw[t.t_eq,←hym];exact LTerm.t_eq _
   ·have hls:=ls_of_own hrow (fun x hx=>AllL.get hall hx) (fun ad h hm=>(hnew ad h).elim id (fun h2=>by have:=hM _ hm;omega))
    exact ⟨by rw[hyl];exact own_le hrow,own_cap hrow,hls w' hw'⟩
theorem fcopied_c (t:LTerm) (M:Nat→Prop) (w0:World) (hc:cnt t.t≤1200) (hM:∀ k,M k→k < w0.heap.size) (hf:Stable M w0 (LtF t)):Ret Tryz.prog 206 [vL t] w0 (fun _=>False) fun v w'=>IsT M w' v t.t:=fcopied_c0 _ t M w0 (Nat.lt_succ_self _) hc hM hf
def findP:List PSeen→Int→Option PSeen
 | [],_=>none
 | s::l,u=>if s.user=u then some s else findP l u
theorem findP_some:∀ (l:List LSeen) (u:Int) (i:Nat),i < l.length→(nthG l i).user=u→(∀ a,a < i→(nthG l a).user≠u)→findP (ssP l) u=some (nthG l i).s
 | x::l,u,0,_,he,_=>by
  show (if x.user=u then some x.s else _)=_
  rw[if_pos (show x.user=u from he)];rfl
 | x::l,u,i+1,hi,he,hn=>by
  show (if x.user=u then some x.s else _)=_
  rw[if_neg (show ¬x.user=u from hn 0 (by omega))]
  exact findP_some l u i (by simpa using hi) he (fun a ha=>hn (a+1) (by omega))
theorem findP_none:∀ (l:List LSeen) (u:Int),(∀ a,a < l.length→(nthG l a).user≠u)→findP (ssP l) u=none
 | [],_,_=>rfl
 | x::l,u,hn=>by
  show (if x.user=u then some x.s else _)=_
  rw[if_neg (show ¬x.user=u from hn 0 (by simp))]
  exact findP_none l u (fun a ha=>hn (a+1) (by simpa using ha))
theorem seenB_up:∀ (l:List LSeen) (k:Int),seenB k (ssP l)=true→(∀ a,a < l.length→k < (nthG l a).user)∧(∀ a c,a < c→c < l.length→(nthG l a).user < (nthG l c).user)∧∀ a,a < l.length→checkF (nthG l a).root.t=0
 | [],_,_=>⟨fun a h=>by simp at h,fun a c _ h=>by simp at h,fun a h=>by simp at h⟩
 | x::l,k,h=>by
  replace h:(decide (k < x.user)&&knownF x.user&&cntS x.cnt&&decide (checkF x.root.t=0)&&seenB x.user (ssP l))=true:=h
  simp only[Bool.and_eq_true,decide_eq_true_eq]at h
  obtain ⟨⟨⟨⟨h1,-⟩,-⟩,h2⟩,h3⟩:=h
  obtain ⟨i1,i2,i3⟩:=seenB_up l x.user h3
  refine ⟨fun a ha=>?_,fun a c hac hc=>?_,fun a ha=>?_⟩
  cases a with
  | zero=>exact h1
  | succ a=>exact Int.lt_trans h1 (i1 a (by simpa using ha))
  cases c with
  | zero=>omega
  | succ c=>
   cases a with
   | zero=>exact i1 c (by simpa using hc)
   | succ a=>exact i2 a c (by omega) (by simpa using hc)
  cases a with
  | zero=>exact h2
  | succ a=>exact i3 a (by simpa using ha)
theorem findS_at {l:List LSeen} {u:Int} {i:Nat} {b:Bool} (h:AtS l u i b) (hs:seenB 0 (ssP l)=true):(b=true→i < l.length∧(nthG l i).user=u∧findP (ssP l) u=some (nthG l i).s)∧(b=false→findP (ssP l) u=none):=by
 obtain ⟨h1,h2,h3⟩:=h
 obtain ⟨h4,h5⟩:=h3 (seenB_up l 0 hs).2.1
 constructor
 intro hb
 rw[h2,Bool.and_eq_true,decide_eq_true_eq,decide_eq_true_eq]at hb
 exact ⟨by omega,hb.2,findP_some l u i (by omega) hb.2 fun a ha=>by have:=h4 a ha;omega⟩
 intro hb
 refine findP_none l u fun a ha he=>?_
 rcases Nat.lt_or_ge a i with h | h
 have:=h4 a h;omega
 have h6:=h5 i (Nat.le_refl _)
 rcases Nat.eq_or_lt_of_le h with rfl | h7
 rw[h2,he,decide_eq_true (show (i:Int) < (l.length:Int) by omega),decide_eq_true rfl]at hb
 cases hb
 have:=(seenB_up l 0 hs).2.1 i a h7 ha
 have:=h6 (by omega);omega
def zeroS:LSeen:=⟨0,0,zeroL⟩
def FindSR (M:Nat→Prop) (l:List LSeen) (u:Int) (v:Value) (w:World):Prop:=∃ (s:LSeen) (b:Bool),v=.tuple ⟨[.agg ⟨cSeen s⟩,.bool b]⟩∧Stable M w (LtF s.root)∧(seenB 0 (ssP l)=true→findP (ssP l) u=if b then some s.s else none)∧(b=false→s=zeroS)
theorem ffindX_c (l:List LSeen) (p:Option Addr) (n c:Nat) (u:Int) (M:Nat→Prop) (w0:World) (hn:l.length=n) (hl:n≤1000000) (hM:∀ k,M k→k < w0.heap.size) (hx:Stable M w0 (GlF p l)) :
  Ret Tryz.prog 120 [.slice p n c,.int .i64 u] w0 (fun _=>False) fun v w'=>FindSR M l u v w':=by
 subst hn
 have hL3:LeC l.length 1000000:=⟨hl⟩
 refine enter Tryz.func120 rfl rfl (Wd.beginM (M:=M) (fs:=[GlF p l]) hM (by simpa using hx)) (fun a S=>?_)
 simp only[Tryz.ntmps120,qqA,qqB,Nat.reduceAdd,Nat.reduceSub,qqC,qqD,qqE,qqF]at S
 refine kS (kR ?_);refine sa S ?_;clear S;intro b4 a w S;refine sq S ?_;clear S;intro a S;refine kN (xtn (kS (kR ?_)));(iterate 2 (refine sq S ?_;clear S;intro a S))
 refine sr S (ffindK_c l p c u _ hl (S.gl0 p)) ?_;clear S;rintro _ a w ⟨i,b,rfl,hib⟩ S
 (iterate 5 (refine sq S ?_;clear S;intro a S));refine kN (xtn (kS (kS (kR (sq S ?_)))));clear S;intro a S;refine sc S ?_;clear S;intro a w S;refine sq S ?_;clear S;intro a S
 rw[fchk_dec]at S
 refine sq S ?_;clear S;intro a S;(iterate 2 (refine gQ S ?_;clear S;intro a S));refine sq S ?_;clear S;intro a S;refine kN (xtn ?_)
 refine kC S (fun h2=>?_) (fun h2=>?_)
 refine kS (kR (sq S ?_));clear S;intro a S;refine sw S ?_;clear S;intro a w S;refine sq S ?_;clear S;intro a S;refine kN (xtn (kT (xtr ?_)))
 refine end2 S (fun _=>⟨zeroS,false,rfl,fun _ _=>zeroL_in _,fun hs=>?_,fun _=>rfl⟩)
 rw[hs,Bool.not_true,Bool.false_or]at h2
 exact (findS_at hib hs).2 (by simpa using h2)
 refine kK (xtn (kS ?_))
 have hs:seenB 0 (ssP l)=true∧b=true:=by simpa using h2
 obtain ⟨hil,hui,hfi⟩:=(findS_at hib hs.1).1 hs.2
 have hK:KLt i l.length:=⟨hil⟩
 have hg:=good_check.1 ((seenB_up l 0 hs.1).2.2 i hil)
 refine kR ?_;(iterate 4 (refine sq S ?_;clear S;intro a S));refine sa S ?_;clear S;intro b8 a w S;refine sw S ?_;clear S;intro a w S;refine kN (xtn (kS (kR ?_)));(iterate 2 (refine sq S ?_;clear S;intro a S))
 replace S:=S.add (Φ:=LtF (nthG l i).root) ((S.mem.fact (GlF p l)).imp fun _ h=>h.2 _ (nthG_mem hil))
 refine sr S (fcopied_c (nthG l i).root _ w (good_le hg) (foots_lt S) (S.t (nthG l i).root)) ?_;clear S;rintro _ a w ⟨r,rfl,hr,hrf⟩ S
 replace S:=S.add hrf
 refine sq S ?_;clear S;intro a S;refine sw S ?_;clear S;intro a w S;refine kN (xtn (kS (kR (sq S ?_))));clear S;intro a S;refine sw S ?_;clear S;intro a w S;refine sq S ?_;clear S;intro a S;refine kN (xtn (kT ?_))
 have hlat:=S.laterT (M:=M) r
 refine end2 S (fun _=>⟨⟨(nthG l i).user,(nthG l i).cnt,r⟩,true,rfl,hlat,fun _=>?_,nofun⟩)
 rw[hfi,if_pos rfl,LSeen.s,LSeen.s,hr]
theorem sindex_c (xs:List LMark) (p:Option Addr) (n c:Nat) (y:LMark) (w0:World) (hn:xs.length=n) (hl:n≤1000000) (hx:Stable (fun _=>False) w0 (GlF p xs)) :
  Ret Tryz.prog 204 [.slice p n c,.agg ⟨[str y.key,.int .i64 y.ver]⟩] w0 (fun _=>False) fun v _=>∃ i:Int,v=.int .i64 i∧decide (0≤i)=decide (y∈xs):=by
 subst hn
 refine enter Tryz.func204 rfl rfl (Wd.begin (fs:=[GlF p xs]) (by simpa using hx)) (fun a S=>?_)
 simp only[Tryz.ntmps204,qqA,qqB,Nat.reduceAdd,Nat.reduceSub,qqC,qqD,qqE,qqF]at S
 refine kS (kR ?_);refine sa S ?_;clear S;intro b3 a w S;refine sq S ?_;clear S;intro a S;refine kN (xtn (kS (kS (kR ?_))));(iterate 3 (refine sq S ?_;clear S;intro a S));refine kN (xtn (kB ?_))
 refine c_forb1 S (fun(k:Nat) uu=>[(4,uu 4),(0,uu 5),(2,.int .i64 (k:Nat)),(0,uu 9),(0,uu 10),(0,uu 11),(0,uu 12),(0,uu 13),(0,uu 14),(0,uu 15),(0,uu 16),(0,uu 17),(0,uu 18)]) (fun(k:Nat)=>k≤xs.length∧∀ a,a < k→nthG xs a≠y) (fun(k:Nat)=>xs.length - k) (0) ?_ S.uu ?_ ?_
 exact ⟨Nat.zero_le _,fun a h=>absurd h (Nat.not_lt_zero a)⟩
 first | exact S | exact S.sub _ _
 clear S;rintro k uu a w ⟨hk,hno⟩ S
 refine kS (kR (sq S ?_));clear S;intro a S;refine kN (xtn (kS ?_))
 refine kC S (fun h2=>?_) (fun h2=>?_)
 refine kK (xtn (kS (kB (kS (kR ?_)))));(iterate 2 (refine sq S ?_;clear S;intro a S));refine kN (xtn (kS ?_))
 have hkl:k < xs.length:=by simp at h2;omega
 have hK:KLt k xs.length:=⟨hkl⟩
 refine c_drawD [(0,true),(1,true),(2,true),(3,true),(4,true),(5,true)] [] S ?_;clear S;intro w S;(iterate 6 (refine dq S ?_;clear S;intro a S));refine dn (xtn ?_)
 refine kC S (fun h4=>?_) (fun h4=>?_)
 refine kS (kR ?_);(iterate 2 (refine sq S ?_;clear S;intro a S));refine kN (xtn (kT (xbr (xtr (xtr (xbr (xtr ?_)))))))
 have he:y=nthG xs k:=of_decide_eq_true h4
 refine end1 S (fun _=>⟨(k:Int),rfl,?_⟩)
 rw[decide_eq_true (show (0:Int)≤(k:Int) by omega),decide_eq_true (show y∈xs from he▸nthG_mem hkl)]
 refine kK (xbn (xtn (kR ?_)));(iterate 2 (refine sq S ?_;clear S;intro a S));refine kN (xtn ?_)
 rw[w64 ((k:Int)+1) (by omega) (by omega)]at S
 refine ⟨k+1,S.uu,⟨hkl,fun a ha=>?_⟩,S.sub _ _,by omega⟩
 rcases Nat.lt_succ_iff_lt_or_eq.1 ha with h | rfl
 exact hno a h
 exact fun h=>(of_decide_eq_false h4) h.symm
 refine kE (xte (xte (xbe (xtn (kS (kR (sq S ?_)))))));clear S;intro a S;refine kN (xtn (kT ?_))
 refine end1 S (fun _=>⟨-1,rfl,?_⟩)
 rw[decide_eq_false (show ¬(0:Int)≤-1 by omega),decide_eq_false]
 intro hm
 obtain ⟨a,ha,he⟩:=List.mem_iff_getElem.1 hm
 have h3:=nthG_get ha
 rw[List.getElem?_eq_getElem ha]at h3
 exact hno a (by simp at h2;omega) ((Option.some.inj h3).symm.trans he)
theorem scontains_c (xs:List LMark) (p:Option Addr) (n c:Nat) (y:LMark) (w0:World) (hn:xs.length=n) (hl:n≤1000000) (hx:Stable (fun _=>False) w0 (GlF p xs)) :
  Ret Tryz.prog 118 [.slice p n c,.agg ⟨[str y.key,.int .i64 y.ver]⟩] w0 (fun _=>False) fun v _=>v=.bool (decide (y∈xs)):=by
 refine enter Tryz.func118 rfl rfl (Wd.begin (fs:=[GlF p xs]) (by simpa using hx)) (fun a S=>?_)
 simp only[Tryz.ntmps118,qqA,qqB,Nat.reduceAdd,Nat.reduceSub,qqC,qqD,qqE,qqF]at S
 refine kS (kR ?_);refine sa S ?_;clear S;intro b3 a w S;refine sq S ?_;clear S;intro a S;refine kN (xtn (kS (kR ?_)));(iterate 2 (refine sq S ?_;clear S;intro a S))
 refine sr S (sindex_c xs p n c y _ hn hl (S.gl0 p)) ?_;clear S;rintro _ a w ⟨i,rfl,hi⟩ S
 (iterate 2 (refine sq S ?_;clear S;intro a S));refine kN (xtn (kT ?_))
 exact end1 S (fun _=>by rw[hi])
theorem indexSd_c (F:Nat) [EntF Tryz.prog F] (ca:List Value) (q:LMark→Bool) (xs:List LMark) (p:Option Addr) (n c:Nat) (w0:World) (hn:xs.length=n) (hl:n≤9223372036854775807) (hx:Stable (fun _=>False) w0 (GlF p xs))
  (hF:∀ x∈xs,∀ w,Agree (fun _=>False) w0 w→Ret Tryz.prog F (.agg ⟨[str x.key,.int .i64 x.ver]⟩::ca) w (fun _=>False) fun v _=>v=.bool (q x)) :
  Ret Tryz.prog 252 [.slice p n c,.func (.func F) #[] ⟨ca⟩] w0 (fun _=>False) fun v _=>v=.int .i64 (idxG q xs 0):=by
 refine enter Tryz.func252 rfl rfl (Wd.begin (fs:=[GlF p xs]) (by simpa using hx)) (fun a S=>?_)
 simp only[Tryz.ntmps252,qqA,qqB,Nat.reduceAdd,Nat.reduceSub,qqC,qqD,qqE,qqF]at S
 refine kS (kR (sq S ?_));clear S;intro a S;refine kN (xtn (kS (kS (kR ?_))));(iterate 3 (refine sq S ?_;clear S;intro a S));refine kN (xtn (kB ?_))
 refine c_forb1 S (fun(k:Nat) uu=>[(4,uu 4),(0,uu 5),(2,.int .i64 (k:Nat)),(0,uu 9),(0,uu 10),(0,uu 11),(0,uu 12),(0,uu 13),(0,uu 14),(0,uu 15),(0,uu 16),(0,uu 17),(0,uu 18)]) (fun(k:Nat)=>k≤n∧idxG q (xs.drop k) k=idxG q xs 0) (fun(k:Nat)=>n - k) (0) ?_ S.uu ?_ ?_
 exact ⟨Nat.zero_le _,rfl⟩
 first | exact S | exact S.sub _ _
 clear S;rintro k uu a w ⟨hk,hrel⟩ S
 refine kS (kR (sq S ?_));clear S;intro a S;refine kN (xtn (kS ?_))
 refine kC S (fun h2=>?_) (fun h2=>?_)
 refine kK (xtn (kS (kB (kS (kR ?_)))));(iterate 2 (refine sq S ?_;clear S;intro a S));refine kN (xtn (kS ?_))
 have hkl:k < n:=by simp at h2;omega
 have hK:KLt k n:=⟨hkl⟩
 have hK2:KLt k xs.length:=⟨by omega⟩
 rw[nthG_drop (show k < xs.length by omega),idxG]at hrel
 refine kR ?_;(iterate 5 (refine sq S ?_;clear S;intro a S))
 refine sr S (hF (nthG xs k) (nthG_mem (by omega)) w S.wd.agree) ?_;clear S;rintro _ a w rfl S
 refine kN (xtn ?_)
 refine kC S (fun h4=>?_) (fun h4=>?_)
 refine kS (kR ?_);(iterate 2 (refine sq S ?_;clear S;intro a S));refine kN (xtn (kT (xbr (xtr (xtr (xbr (xtr ?_)))))))
 rw[if_pos h4]at hrel
 refine end1 S (fun _=>?_)
 rw[hrel]
 refine kK (xbn (xtn (kR ?_)));(iterate 2 (refine sq S ?_;clear S;intro a S));refine kN (xtn ?_)
 rw[if_neg (by simpa using h4)]at hrel
 rw[w64 ((k:Int)+1) (by omega) (by omega)]at S
 exact ⟨k+1,S.uu,⟨hkl,by rw[←hrel];rfl⟩,S.sub _ _,by omega⟩
 refine kE (xte (xte (xbe (xtn (kS (kR (sq S ?_)))))));clear S;intro a S;refine kN (xtn (kT ?_))
 rw[List.drop_of_length_le (by simp at h2;omega)]at hrel
 refine end1 S (fun _=>?_)
 rw[←hrel];rfl
theorem containsSd_c (F:Nat) [EntF Tryz.prog F] (ca:List Value) (q:LMark→Bool) (xs:List LMark) (p:Option Addr) (n c:Nat) (w0:World) (hn:xs.length=n) (hl:n≤9223372036854775807) (hx:Stable (fun _=>False) w0 (GlF p xs))
  (hF:∀ x∈xs,∀ w,Agree (fun _=>False) w0 w→Ret Tryz.prog F (.agg ⟨[str x.key,.int .i64 x.ver]⟩::ca) w (fun _=>False) fun v _=>v=.bool (q x)) :
  Ret Tryz.prog 208 [.slice p n c,.func (.func F) #[] ⟨ca⟩] w0 (fun _=>False) fun v _=>v=.bool (xs.any q):=by
 refine enter Tryz.func208 rfl rfl (Wd.begin (fs:=[GlF p xs]) (by simpa using hx)) (fun a S=>?_)
 simp only[Tryz.ntmps208,qqA,qqB,Nat.reduceAdd,Nat.reduceSub,qqC,qqD,qqE,qqF]at S
 refine kS (kR (sq S ?_));clear S;intro a S;refine kN (xtn (kS (kR ?_)));(iterate 2 (refine sq S ?_;clear S;intro a S))
 refine sr S (indexSd_c F ca q xs p n c _ hn hl (S.gl0 p) fun x hx w' hw'=>hF x hx w' (S.wd.agree.trans hw')) ?_;clear S;rintro _ a w rfl S
 (iterate 2 (refine sq S ?_;clear S;intro a S));refine kN (xtn (kT ?_))
 refine end1 S (fun _=>?_)
 rw[idxG_any q xs 0 (by omega)]
theorem indexSn_c (F:Nat) [EntF Tryz.prog F] (ca:List Value) (q:LSeen→Bool) (xs:List LSeen) (p:Option Addr) (n c:Nat) (w0:World) (hn:xs.length=n) (hl:n≤9223372036854775807) (hx:Stable (fun _=>False) w0 (GlF p xs))
  (hF:∀ x∈xs,∀ w,Agree (fun _=>False) w0 w→Ret Tryz.prog F (.agg ⟨cSeen x⟩::ca) w (fun _=>False) fun v _=>v=.bool (q x)) :
  Ret Tryz.prog 254 [.slice p n c,.func (.func F) #[] ⟨ca⟩] w0 (fun _=>False) fun v _=>v=.int .i64 (idxG q xs 0):=by
 refine enter Tryz.func254 rfl rfl (Wd.begin (fs:=[GlF p xs]) (by simpa using hx)) (fun a S=>?_)
 simp only[Tryz.ntmps254,qqA,qqB,Nat.reduceAdd,Nat.reduceSub,qqC,qqD,qqE,qqF]at S
 refine kS (kR (sq S ?_));clear S;intro a S;refine kN (xtn (kS (kS (kR ?_))));(iterate 3 (refine sq S ?_;clear S;intro a S));refine kN (xtn (kB ?_))
 refine c_forb1 S (fun(k:Nat) uu=>[(4,uu 4),(0,uu 5),(2,.int .i64 (k:Nat)),(0,uu 9),(0,uu 10),(0,uu 11),(0,uu 12),(0,uu 13),(0,uu 14),(0,uu 15),(0,uu 16),(0,uu 17),(0,uu 18)]) (fun(k:Nat)=>k≤n∧idxG q (xs.drop k) k=idxG q xs 0) (fun(k:Nat)=>n - k) (0) ?_ S.uu ?_ ?_
 exact ⟨Nat.zero_le _,rfl⟩
 first | exact S | exact S.sub _ _
 clear S;rintro k uu a w ⟨hk,hrel⟩ S
 refine kS (kR (sq S ?_));clear S;intro a S;refine kN (xtn (kS ?_))
 refine kC S (fun h2=>?_) (fun h2=>?_)
 refine kK (xtn (kS (kB (kS (kR ?_)))));(iterate 2 (refine sq S ?_;clear S;intro a S));refine kN (xtn (kS ?_))
 have hkl:k < n:=by simp at h2;omega
 have hK:KLt k n:=⟨hkl⟩
 have hK2:KLt k xs.length:=⟨by omega⟩
 rw[nthG_drop (show k < xs.length by omega),idxG]at hrel
 refine kR ?_;(iterate 5 (refine sq S ?_;clear S;intro a S))
 refine sr S (hF (nthG xs k) (nthG_mem (by omega)) w S.wd.agree) ?_;clear S;rintro _ a w rfl S
 refine kN (xtn ?_)
 refine kC S (fun h4=>?_) (fun h4=>?_)
 refine kS (kR ?_);(iterate 2 (refine sq S ?_;clear S;intro a S));refine kN (xtn (kT (xbr (xtr (xtr (xbr (xtr ?_)))))))
 rw[if_pos h4]at hrel
 refine end1 S (fun _=>?_)
 rw[hrel]
 refine kK (xbn (xtn (kR ?_)));(iterate 2 (refine sq S ?_;clear S;intro a S));refine kN (xtn ?_)
 rw[if_neg (by simpa using h4)]at hrel
 rw[w64 ((k:Int)+1) (by omega) (by omega)]at S
 exact ⟨k+1,S.uu,⟨hkl,by rw[←hrel];rfl⟩,S.sub _ _,by omega⟩
 refine kE (xte (xte (xbe (xtn (kS (kR (sq S ?_)))))));clear S;intro a S;refine kN (xtn (kT ?_))
 rw[List.drop_of_length_le (by simp at h2;omega)]at hrel
 refine end1 S (fun _=>?_)
 rw[←hrel];rfl
theorem containsSn_c (F:Nat) [EntF Tryz.prog F] (ca:List Value) (q:LSeen→Bool) (xs:List LSeen) (p:Option Addr) (n c:Nat) (w0:World) (hn:xs.length=n) (hl:n≤9223372036854775807) (hx:Stable (fun _=>False) w0 (GlF p xs))
  (hF:∀ x∈xs,∀ w,Agree (fun _=>False) w0 w→Ret Tryz.prog F (.agg ⟨cSeen x⟩::ca) w (fun _=>False) fun v _=>v=.bool (q x)) :
  Ret Tryz.prog 213 [.slice p n c,.func (.func F) #[] ⟨ca⟩] w0 (fun _=>False) fun v _=>v=.bool (xs.any q):=by
 refine enter Tryz.func213 rfl rfl (Wd.begin (fs:=[GlF p xs]) (by simpa using hx)) (fun a S=>?_)
 simp only[Tryz.ntmps213,qqA,qqB,Nat.reduceAdd,Nat.reduceSub,qqC,qqD,qqE,qqF]at S
 refine kS (kR (sq S ?_));clear S;intro a S;refine kN (xtn (kS (kR ?_)));(iterate 2 (refine sq S ?_;clear S;intro a S))
 refine sr S (indexSn_c F ca q xs p n c _ hn hl (S.gl0 p) fun x hx w' hw'=>hF x hx w' (S.wd.agree.trans hw')) ?_;clear S;rintro _ a w rfl S
 (iterate 2 (refine sq S ?_;clear S;intro a S));refine kN (xtn (kT ?_))
 refine end1 S (fun _=>?_)
 rw[idxG_any q xs 0 (by omega)]
theorem allSd1_c (F:Nat) [EntF Tryz.prog F] (ca:List Value) (q:LMark→Bool) (b:Nat) (x:LMark) (w0:World) (hb:Stable (fun _=>False) w0 (BoxF b 192 [.func (.func F) #[] ⟨ca⟩])) (hF:∀ w,Agree (fun _=>False) w0 w→Ret Tryz.prog F (.agg ⟨[str x.key,.int .i64 x.ver]⟩::ca) w (fun _=>False) fun v _=>v=.bool (q x)) :
  Ret Tryz.prog 209 [.agg ⟨[str x.key,.int .i64 x.ver]⟩,.pointer (some ⟨b,0,none⟩)] w0 (fun _=>False) fun v _=>v=.bool (!q x):=by
 refine enter Tryz.func209 rfl rfl (Wd.begin (fs:=[BoxF b 192 [.func (.func F) #[] ⟨ca⟩]]) (by simpa using hb)) (fun a S=>?_)
 simp only[Tryz.ntmps209,qqA,qqB,Nat.reduceAdd,Nat.reduceSub,qqC,qqD,qqE,qqF]at S
 refine kS (kR ?_);refine sa S ?_;clear S;intro b2 a w S;refine sq S ?_;clear S;intro a S;refine kN (xtn (kS (kR ?_)));(iterate 2 (refine sq S ?_;clear S;intro a S));refine sr S (hF w S.wd.agree) ?_;clear S;rintro _ a w rfl S;(iterate 2 (refine sq S ?_;clear S;intro a S));refine kN (xtn (kT ?_))
 exact end1 S (fun _=>rfl)
theorem allSd_c (F:Nat) [EntF Tryz.prog F] (ca:List Value) (q:LMark→Bool) (xs:List LMark) (p:Option Addr) (n c:Nat) (w0:World) (hn:xs.length=n) (hl:n≤1000000) (hx:Stable (fun _=>False) w0 (GlF p xs)) (hF:∀ x∈xs,∀ w,Agree (fun _=>False) w0 w→Ret Tryz.prog F (.agg ⟨[str x.key,.int .i64 x.ver]⟩::ca) w (fun _=>False) fun v _=>v=.bool (q x)) :
  Ret Tryz.prog 122 [.slice p n c,.func (.func F) #[] ⟨ca⟩] w0 (fun _=>False) fun v _=>v=.bool (xs.all q):=by
 refine enter Tryz.func122 rfl rfl (Wd.begin (fs:=[GlF p xs]) (by simpa using hx)) (fun a S=>?_)
 simp only[Tryz.ntmps122,qqA,qqB,Nat.reduceAdd,Nat.reduceSub,qqC,qqD,qqE,qqF]at S
 refine kS (kR ?_);refine sa S ?_;clear S;intro b3 a w S;refine sq S ?_;clear S;intro a S;refine kN (xtn (kS (kR ?_)));(iterate 2 (refine sq S ?_;clear S;intro a S))
 have hbx:=BoxF.stable (M:=fun _=>False) (S.boxF b3) (fun h=>h)
 have hag:=S.wd.agree
 refine sr S (containsSd_c 209 [.pointer (some ⟨b3,0,none⟩)] (fun x=>!q x) xs p n c _ hn (by omega) (S.gl0 p) (fun x hx w' hw'=>allSd1_c F ca q b3 x w' (hbx.later hw') (fun w2 hw2=>hF x hx w2 (hag.trans (hw'.trans hw2))))) ?_;clear S;rintro _ a w rfl S
 (iterate 2 (refine sq S ?_;clear S;intro a S));refine kN (xtn (kT ?_))
 refine end1 S (fun _=>?_)
 rw[not_any_not]
theorem allSn1_c (F:Nat) [EntF Tryz.prog F] (ca:List Value) (q:LSeen→Bool) (b:Nat) (x:LSeen) (w0:World) (hb:Stable (fun _=>False) w0 (BoxF b 196 [.func (.func F) #[] ⟨ca⟩])) (hF:∀ w,Agree (fun _=>False) w0 w→Ret Tryz.prog F (.agg ⟨cSeen x⟩::ca) w (fun _=>False) fun v _=>v=.bool (q x)) :
  Ret Tryz.prog 214 [.agg ⟨cSeen x⟩,.pointer (some ⟨b,0,none⟩)] w0 (fun _=>False) fun v _=>v=.bool (!q x):=by
 refine enter Tryz.func214 rfl rfl (Wd.begin (fs:=[BoxF b 196 [.func (.func F) #[] ⟨ca⟩]]) (by simpa using hb)) (fun a S=>?_)
 simp only[Tryz.ntmps214,qqA,qqB,Nat.reduceAdd,Nat.reduceSub,qqC,qqD,qqE,qqF]at S
 refine kS (kR ?_);refine sa S ?_;clear S;intro b2 a w S;refine sq S ?_;clear S;intro a S;refine kN (xtn (kS (kR ?_)));(iterate 2 (refine sq S ?_;clear S;intro a S));refine sr S (hF w S.wd.agree) ?_;clear S;rintro _ a w rfl S;(iterate 2 (refine sq S ?_;clear S;intro a S));refine kN (xtn (kT ?_))
 exact end1 S (fun _=>rfl)
theorem allSn_c (F:Nat) [EntF Tryz.prog F] (ca:List Value) (q:LSeen→Bool) (xs:List LSeen) (p:Option Addr) (n c:Nat) (w0:World) (hn:xs.length=n) (hl:n≤1000000) (hx:Stable (fun _=>False) w0 (GlF p xs)) (hF:∀ x∈xs,∀ w,Agree (fun _=>False) w0 w→Ret Tryz.prog F (.agg ⟨cSeen x⟩::ca) w (fun _=>False) fun v _=>v=.bool (q x)) :
  Ret Tryz.prog 124 [.slice p n c,.func (.func F) #[] ⟨ca⟩] w0 (fun _=>False) fun v _=>v=.bool (xs.all q):=by
 refine enter Tryz.func124 rfl rfl (Wd.begin (fs:=[GlF p xs]) (by simpa using hx)) (fun a S=>?_)
 simp only[Tryz.ntmps124,qqA,qqB,Nat.reduceAdd,Nat.reduceSub,qqC,qqD,qqE,qqF]at S
 refine kS (kR ?_);refine sa S ?_;clear S;intro b3 a w S;refine sq S ?_;clear S;intro a S;refine kN (xtn (kS (kR ?_)));(iterate 2 (refine sq S ?_;clear S;intro a S))
 have hbx:=BoxF.stable (M:=fun _=>False) (S.boxF b3) (fun h=>h)
 have hag:=S.wd.agree
 refine sr S (containsSn_c 214 [.pointer (some ⟨b3,0,none⟩)] (fun x=>!q x) xs p n c _ hn (by omega) (S.gl0 p) (fun x hx w' hw'=>allSn1_c F ca q b3 x w' (hbx.later hw') (fun w2 hw2=>hF x hx w2 (hag.trans (hw'.trans hw2))))) ?_;clear S;rintro _ a w rfl S
 (iterate 2 (refine sq S ?_;clear S;intro a S));refine kN (xtn (kT ?_))
 refine end1 S (fun _=>?_)
 rw[not_any_not]
def covS (now:List PSeen) (s:PSeen):Bool:=match findP now s.user with
 | none=>false
 | some x=>if x.cnt=s.cnt then sameF x.root s.root else decide (s.cnt < x.cnt)
theorem mcov1_c (b:Nat) (m:LMem) (x:LMark) (w0:World) (hl:m.seeds.length≤1000000) (hb:Stable (fun _=>False) w0 (BoxF b 67 (cMem m))) (hx:Stable (fun _=>False) w0 (GlF m.sp m.seeds)) :
  Ret Tryz.prog 117 [.agg ⟨[str x.key,.int .i64 x.ver]⟩,.pointer (some ⟨b,0,none⟩)] w0 (fun _=>False) fun v _=>v=.bool (decide (x∈m.seeds)):=by
 refine enter Tryz.func117 rfl rfl (Wd.begin (fs:=[BoxF b 67 (cMem m),GlF m.sp m.seeds]) (by simp;exact ⟨hb,hx⟩)) (fun a S=>?_)
 simp only[Tryz.ntmps117,qqA,qqB,Nat.reduceAdd,Nat.reduceSub,qqC,qqD,qqE,qqF]at S
 refine kS (kR ?_);refine sa S ?_;clear S;intro b2 a w S;refine sq S ?_;clear S;intro a S;refine kN (xtn (kS (kR ?_)));(iterate 3 (refine sq S ?_;clear S;intro a S));refine sr S (scontains_c m.seeds m.sp m.seeds.length m.sc x _ rfl hl (S.gl0 m.sp)) ?_;clear S;rintro _ a w rfl S;refine sq S ?_;clear S;intro a S;refine kN (xtn (kT ?_))
 exact end1 S (fun _=>rfl)
theorem cmpI_one {x y:Int} : decide (cmpI x y=1)=decide (y < x):=by
 unfold cmpI;split
 rename_i h;rw[decide_eq_false (show ¬y < x by omega)];rfl
 split
 rename_i h;rw[decide_eq_true h];rfl
 rename_i h;rw[decide_eq_false h];rfl
theorem mcov2_c (b:Nat) (m:LMem) (s:LSeen) (w0:World) (hl:m.seen.length≤1000000) (hs:seenB 0 (ssP m.seen)=true) (_hc:1≤s.cnt) (hb:Stable (fun _=>False) w0 (BoxF b 67 (cMem m))) (hx:Stable (fun _=>False) w0 (GlF m.ep m.seen)) (hr:Stable (fun _=>False) w0 (LtF s.root)) :
  Ret Tryz.prog 119 [.agg ⟨cSeen s⟩,.pointer (some ⟨b,0,none⟩)] w0 (fun _=>False) fun v _=>v=.bool (covS (ssP m.seen) s.s):=by
 refine enter Tryz.func119 rfl rfl (Wd.begin (fs:=[BoxF b 67 (cMem m),GlF m.ep m.seen,LtF s.root]) (by simp;exact ⟨hb,hx,hr⟩)) (fun a S=>?_)
 simp only[Tryz.ntmps119,qqA,qqB,Nat.reduceAdd,Nat.reduceSub,qqC,qqD,qqE,qqF]at S
 refine kS (kR ?_);refine sa S ?_;clear S;intro b2 a w S;refine sq S ?_;clear S;intro a S;refine kN (xtn (kS (kR ?_)));(iterate 4 (refine sq S ?_;clear S;intro a S))
 refine sr S (ffindX_c m.seen m.ep m.seen.length m.ec s.user _ w rfl hl (foots_lt S) (S.mem.fact (GlF m.ep m.seen))) ?_;clear S;rintro _ a w ⟨x,ok,rfl,hxf,hfi,hno⟩ S
 replace S:=S.add hxf
 have hcov:covS (ssP m.seen) s.s=(ok&&if x.cnt=s.cnt then sameF x.root.t s.root.t else decide (s.cnt < x.cnt)):=by
  rw[covS,show s.s.user=s.user from rfl,hfi hs]
  cases ok with
  | false=>rfl
  | true=>rfl
 have hz:ok=false→x.cnt=0:=fun h=>by rw[hno h];rfl
 (iterate 3 (refine sq S ?_;clear S;intro a S));refine sa S ?_;clear S;intro b4 a w S;refine sw S ?_;clear S;intro a w S;refine sq S ?_;clear S;intro a S;refine kN (xtn (kS (kS (kR ?_))));(iterate 4 (refine sq S ?_;clear S;intro a S));refine sr S (ccmp_c x.cnt s.cnt _) ?_;clear S;rintro _ a w rfl S;refine kN (xtn (kB (kS (kR (sq S ?_)))));clear S;intro a S
 rw[cmpI_eq]at S
 refine sq S ?_;clear S;intro a S;refine kN (xtn ?_)
 refine kC S (fun h3=>?_) (fun h3=>?_)
 refine kS (kR ?_);(iterate 2 (refine sq S ?_;clear S;intro a S))
 refine gS S (fun hs4 S=>?_) (fun hs4 S=>?_)
 refine gT S ?_;refine sq S ?_;clear S;intro a S;refine gT S ?_;refine sq S ?_;clear S;intro a S;refine gT S ?_;refine sq S ?_;clear S;intro a S;refine gT S ?_;refine sq S ?_;clear S;intro a S;refine gT S ?_;refine sr S (same_c x.root s.root _ (S.t0 _) (S.t0 _)) ?_;clear S;rintro _ a w rfl S;(iterate 2 (refine sq S ?_;clear S;intro a S));refine kN (xtn (kT (xbr (xtr ?_))))
 refine end1 S (fun _=>?_)
 rw[hcov,if_pos (of_decide_eq_true h3),hs4,Bool.true_and]
 refine gF S ?_;clear S;intro a S;(iterate 4 (refine gF S ?_;clear S;intro a S));(iterate 2 (refine sq S ?_;clear S;intro a S));refine kN (xtn (kT (xbr (xtr ?_))))
 refine end1 S (fun _=>?_)
 rw[hcov,hs4,Bool.false_and]
 refine kS (kR (sq S ?_));clear S;intro a S
 rw[cmpI_one]at S
 refine sq S ?_;clear S;intro a S;refine kN (xtn ?_)
 refine kC S (fun h5=>?_) (fun h5=>?_)
 refine kS (kR ?_);(iterate 2 (refine sq S ?_;clear S;intro a S));refine kN (xtn (kT (xbr (xtr ?_))))
 refine end1 S (fun _=>?_)
 rw[hcov,if_neg (of_decide_eq_false h3),h5,Bool.and_true]
 refine kK (xbn (xtn (kS (kR (sq S ?_)))));clear S;intro a S;refine kN (xtn (kT ?_))
 refine end1 S (fun _=>?_)
 rw[hcov,if_neg (of_decide_eq_false h3),h5,Bool.and_false]
def covM (old now:List LMark):Bool:=!old.any fun m=>!now.any (covK m)
def coversB (a b:PMem):Bool:=memB a&&memB b&&decide (a.user=b.user)&&(decide (a.leaf≤b.leaf)&&decide (a.counter≤b.counter)&&decide (a.num≤b.num))&&(a.seeds.all fun s=>decide (s∈b.seeds))&&covM a.vers b.vers&&a.seen.all (covS b.seen)
theorem mchk_dec (m:PMem):decide (mchkF m=0)=memB m:=by rw[mchkF];cases memB m <;> rfl
theorem seenB_cnt:∀ (l:List LSeen) (k:Int),seenB k (ssP l)=true→∀ x∈l,1≤x.cnt
 | [],_,_,x,hx=>by cases hx
 | y::l,k,h,x,hx=>by
  replace h:(decide (k < y.user)&&knownF y.user&&cntS y.cnt&&decide (checkF y.root.t=0)&&seenB y.user (ssP l))=true:=h
  simp only[Bool.and_eq_true,decide_eq_true_eq,cntS]at h
  rcases List.mem_cons.1 hx with rfl | hx
  exact h.1.1.2.1
  exact seenB_cnt l y.user h.2 x hx
theorem memB_seen {m:LMem} (h:memB m.m=true):seenB 0 (ssP m.seen)=true:=by
 rw[memB,Bool.and_eq_true]at h;exact h.2
theorem covers_not {a b:PMem} (h:(!memB a||!memB b||!decide (a.user=b.user))=true):coversB a b=false:=by
 rw[coversB]
 cases h1:memB a with
 | false=>simp
 | true=>
  cases h2:memB b with
  | false=>simp
  | true=>
   rw[h1,h2]at h
   have h3:decide (a.user=b.user)=false:=by simpa using h
   rw[h3];simp
set_option maxHeartbeats 2000000 in
theorem mcovers_c (x y:LMem) (hx:FitM x) (hy:FitM y) (w0:World) (fx:Stable (fun _=>False) w0 (MemF x)) (fy:Stable (fun _=>False) w0 (MemF y)):Ret Tryz.prog 38 [vMem x,vMem y] w0 (fun _=>False) fun v _=>v=.bool (coversB x.m y.m):=by
 have l1:=hx.seeds
 have l2:=hx.vers
 have l3:=hx.seen
 have l4:=hy.seeds
 have l5:=hy.vers
 have l6:=hy.seen
 refine enter Tryz.func38 rfl rfl (Wd.begin (fs:=[MemF x,MemF y,GlF x.sp x.seeds,GlF x.vp x.vers,GlF x.ep x.seen,GlF y.sp y.seeds,GlF y.vp y.vers,GlF y.ep y.seen]) (by simp;exact ⟨fx,fy,fx.imp fun _ h=>h.1,fx.imp fun _ h=>h.2.1,fx.imp fun _ h=>h.2.2,fy.imp fun _ h=>h.1,fy.imp fun _ h=>h.2.1,fy.imp fun _ h=>h.2.2⟩)) (fun a S=>?_)
 simp only[Tryz.ntmps38,qqA,qqB,Nat.reduceAdd,Nat.reduceSub,qqC,qqD,qqE,qqF]at S
 refine kS (kR ?_);refine sa S ?_;clear S;intro b2 a w S;refine sa S ?_;clear S;intro b3 a w S;refine sq S ?_;clear S;intro a S;refine kN (xtn (kS (kS (kR (sq S ?_)))));clear S;intro a S
 refine sr S (mcheck_c x hx _ ((S.mem.fact (MemF x)).less fun _ _ h=>h.elim)) ?_;clear S;rintro _ a w rfl S
 refine sq S ?_;clear S;intro a S
 rw[mchk_dec]at S
 refine sq S ?_;clear S;intro a S
 refine gS S (fun hs1 S=>?_) (fun hs1 S=>?_)
 refine gF' S ?_;clear S;intro a S;(iterate 2 (refine gF' S ?_;clear S;intro a S));(iterate 2 (refine sq S ?_;clear S;intro a S));(iterate 5 (refine gF' S ?_;clear S;intro a S));refine sq S ?_;clear S;intro a S;refine kN (xtn ?_);refine c_condT S ?_;refine kS (kR (sq S ?_));clear S;intro a S;refine kN (xtn (kT ?_));refine xtr ?_
 refine end1 S (fun _=>?_)
 rw[covers_not (by rw[hs1,Bool.true_or,Bool.true_or])]
 refine gT' S ?_;refine sq S ?_;clear S;intro a S;refine gT' S ?_
 refine sr S (mcheck_c y hy _ ((S.mem.fact (MemF y)).less fun _ _ h=>h.elim)) ?_;clear S;rintro _ a w rfl S
 refine gT' S ?_;refine sq S ?_;clear S;intro a S
 rw[mchk_dec]at S
 (iterate 2 (refine sq S ?_;clear S;intro a S));(iterate 5 (refine gQ S ?_;clear S;intro a S));refine sq S ?_;clear S;intro a S;refine kN (xtn ?_)
 refine kC S (fun h1=>?_) (fun h1=>?_)
 refine kS (kR (sq S ?_));clear S;intro a S;refine kN (xtn (kT (xtr ?_)))
 refine end1 S (fun _=>?_)
 rw[covers_not (by rw[hs1,Bool.false_or];exact h1)]
 refine kK (xtn (kS (kR ?_)));(iterate 2 (refine sq S ?_;clear S;intro a S));refine kN (xtn (kS (kR ?_)));(iterate 2 (refine sq S ?_;clear S;intro a S));refine kN (xtn (kS ?_))
 have hsx0:memB x.m=true:=by simpa using hs1
 have h1':memB y.m=true∧x.user=y.user:=by simpa using h1
 have hsx:=memB_seen hsx0
 have hsy:=memB_seen h1'.1
 have hcv:coversB x.m y.m=((decide (x.leaf≤y.leaf)&&decide (x.counter≤y.counter)&&decide (x.num≤y.num))&&(x.seeds.all fun s=>decide (s∈y.seeds))&&(!x.vers.any fun m=>!y.vers.any (covK m))&&x.seen.all fun s=>covS (ssP y.seen) s.s):=by
  rw[coversB,hsx0,h1'.1,decide_eq_true (show x.m.user=y.m.user from h1'.2)]
  simp only[Bool.true_and]
  show (_&&_&&_&&(ssP x.seen).all _)=_
  rw[ssP,List.all_map];rfl
 refine kR ?_;(iterate 6 (refine sq S ?_;clear S;intro a S));(iterate 5 (refine gQ S ?_;clear S;intro a S));(iterate 2 (refine sq S ?_;clear S;intro a S));(iterate 5 (refine gQ S ?_;clear S;intro a S));(iterate 2 (refine sq S ?_;clear S;intro a S));refine kN (xtn (kS (kR ?_)));(iterate 2 (refine sq S ?_;clear S;intro a S))
 refine gS S (fun hs6 S=>?_) (fun hs6 S=>?_)
 refine gT S ?_;refine sq S ?_;clear S;intro a S;refine gT S ?_;refine sq S ?_;clear S;intro a S;refine gT S ?_;refine sq S ?_;clear S;intro a S;refine gT S ?_
 have hbx:=BoxF.stable (M:=fun _=>False) (S.boxF b3) (fun h=>h)
 have hgl:=S.gl0 y.sp
 refine sr S (allSd_c 117 [.pointer (some ⟨b3,0,none⟩)] (fun s=>decide (s∈y.seeds)) x.seeds x.sp x.seeds.length x.sc _ rfl (by omega) (S.gl0 x.sp) (fun s _ w' hw'=>mcov1_c b3 y s w' (by omega) (hbx.later hw') (hgl.later hw'))) ?_;clear S;rintro _ a w rfl S
 (iterate 2 (refine sq S ?_;clear S;intro a S))
 refine gS S (fun hs7 S=>?_) (fun hs7 S=>?_)
 refine gT S ?_;refine sq S ?_;clear S;intro a S;refine gT S ?_;refine sq S ?_;clear S;intro a S;refine gT S ?_;refine sq S ?_;clear S;intro a S;refine gT S ?_;refine sq S ?_;clear S;intro a S;refine gT S ?_
 refine sr S (fcov_c x.vers y.vers x.vp y.vp x.vc y.vc _ (by omega) (by omega) (S.gl0 x.vp) (S.gl0 y.vp)) ?_;clear S;rintro _ a w rfl S
 (iterate 2 (refine sq S ?_;clear S;intro a S))
 refine gS S (fun hs8 S=>?_) (fun hs8 S=>?_)
 refine gT S ?_;refine sq S ?_;clear S;intro a S;refine gT S ?_;refine sq S ?_;clear S;intro a S;refine gT S ?_;refine sq S ?_;clear S;intro a S;refine gT S ?_
 have hbx:=BoxF.stable (M:=fun _=>False) (S.boxF b3) (fun h=>h)
 have hgl:=S.gl0 y.ep
 have hgx:=S.gl0 x.ep
 refine sr S (allSn_c 119 [.pointer (some ⟨b3,0,none⟩)] (fun s=>covS (ssP y.seen) s.s) x.seen x.ep x.seen.length x.ec _ rfl (by omega) hgx (fun s hs w' hw'=>mcov2_c b3 y s w' (by omega) hsy (seenB_cnt x.seen 0 hsx s hs) (hbx.later hw') (hgl.later hw') ((hgx.later hw').imp fun _ h=>h.2 s hs))) ?_;clear S;rintro _ a w rfl S
 (iterate 2 (refine sq S ?_;clear S;intro a S));refine kN (xtn (kT ?_))
 refine end1 S (fun _=>?_)
 rw[hcv,hs6,hs7,hs8];simp
 refine gF S ?_;clear S;intro a S;(iterate 3 (refine gF S ?_;clear S;intro a S));(iterate 2 (refine sq S ?_;clear S;intro a S));refine kN (xtn (kT ?_))
 refine end1 S (fun _=>?_)
 rw[hcv,hs6,hs7,hs8];simp
 refine gF S ?_;clear S;intro a S;(iterate 4 (refine gF S ?_;clear S;intro a S));(iterate 2 (refine sq S ?_;clear S;intro a S));(iterate 4 (refine gF S ?_;clear S;intro a S));(iterate 2 (refine sq S ?_;clear S;intro a S));refine kN (xtn (kT ?_))
 refine end1 S (fun _=>?_)
 rw[hcv,hs6,hs7];simp
 refine gF S ?_;clear S;intro a S;(iterate 3 (refine gF S ?_;clear S;intro a S));(iterate 2 (refine sq S ?_;clear S;intro a S));(iterate 5 (refine gF S ?_;clear S;intro a S));(iterate 2 (refine sq S ?_;clear S;intro a S));(iterate 4 (refine gF S ?_;clear S;intro a S));(iterate 2 (refine sq S ?_;clear S;intro a S));refine kN (xtn (kT ?_))
 refine end1 S (fun _=>?_)
 rw[hcv,hs6];simp
abbrev bbI (h:Nat) (p:Option Addr) (c:Nat) (b:List UInt8):Wk.Item:=both (Wk.box h 25 [.slice p b.length c]) (Wk.row 5 1 p b.length c (encL b))
def twoB (n:Int):List UInt8:=be 2 (IntKind.u16.wrap n)
def twosB:List Int→List UInt8
 | []=>[]
 | n::l=>twoB n++twosB l
theorem twoB_len (n:Int):(twoB n).length=2:=be_len _ _
theorem twosB_len:∀ l:List Int,(twosB l).length=2*l.length
 | []=>rfl
 | n::l=>by rw[twosB,List.length_append,twoB_len,twosB_len l,qqA];omega
def BbR (h:Nat) (p:Option Addr) (c:Nat) (b B:List UInt8) (v:Value) (w0 w:World):Prop:=v=.tuple #[]∧∃ p' c',(bbI h p' c' B).holds w∧∀ k,(bbI h p' c' B).foot k→(bbI h p c b).foot k∨w0.heap.size≤k
theorem menc1_c (h:Nat) (p:Option Addr) (c:Nat) (b:List UInt8) (xs:List Int) (q:Option Addr) (n d:Nat) (w0:World) (hn:xs.length=n) (hl:n≤1000) (hb:b.length≤500000000) (hd:(bbI h p c b).holds w0) (hx:Stable (bbI h p c b).foot w0 (GlF q xs)) :
  Ret Tryz.prog 110 [.slice q n d,.pointer (some ⟨h,0,none⟩)] w0 (bbI h p c b).foot fun v w'=>BbR h p c b (b++twosB xs) v w0 w':=by
 subst hn
 refine enter Tryz.func110 rfl rfl (Wd.it2Lent (x:=Wk.box h 25 [.slice p b.length c]) (y:=Wk.row 5 1 p b.length c (encL b)) (fs:=[GlF q xs]) hd rfl rfl (by simpa using hx)) (fun a S=>?_)
 simp only[Tryz.ntmps110,qqA,qqB,Nat.reduceAdd,Nat.reduceSub,qqC,qqD,qqE,qqF]at S
 refine kS (kR ?_);(iterate 3 (refine sq S ?_;clear S;intro a S));refine kN (xtn (kB ?_))
 refine c_fore4 S (fun(k:Nat) (b':List UInt8) (p':Option Addr) (c':Nat) uu=>[(4,uu 4),(2,.int .i64 (k:Nat)),(0,uu 8),(0,uu 9),(0,uu 10),(0,uu 11),(0,uu 12),(0,uu 13),(0,uu 14),(0,uu 15)]) (fun(k:Nat) (b':List UInt8) (p':Option Addr) (c':Nat)=>[Wk.box h 25 [.slice p' b'.length c'],Wk.row 5 1 p' b'.length c' (encL b')]) (fun(k:Nat) (b':List UInt8) (p':Option Addr) (c':Nat)=>[GlF q xs]) (fun(k:Nat) (b':List UInt8) (p':Option Addr) (c':Nat)=>k≤xs.length∧b'++twosB (xs.drop k)=b++twosB xs) (fun(k:Nat) (b':List UInt8) (p':Option Addr) (c':Nat)=>xs.length - k) (0) (b) (p) (c) ?_ S.uu ?_ ?_
 exact ⟨Nat.zero_le _,rfl⟩
 first | exact S | exact S.sub _ _
 clear S;rintro k b' p' c' uu a w ⟨hk,hrel⟩ S
 refine kS (kR (sq S ?_));clear S;intro a S;refine kN (xtn (kS ?_))
 refine kC S (fun h1=>?_) (fun h1=>?_)
 refine kK (xtn (kS (kB (kS ?_))))
 have hkl:k < xs.length:=by simp at h1;omega
 have hK:KLt k xs.length:=⟨hkl⟩
 rw[nthG_drop hkl,twosB]at hrel
 have hbl:=congrArg List.length hrel
 simp only[List.length_append,twosB_len,twoB_len]at hbl
 refine kR ?_;(iterate 3 (refine sq S ?_;clear S;intro a S));refine kN (xtn (kR ?_));(iterate 3 (refine sq S ?_;clear S;intro a S))
 have hr:=wu16_range (nthG xs k)
 refine srn S (put16_c p' b'.length c' b' (IntKind.u16.wrap (nthG xs k)) w rfl (by omega) hr.1 hr.2 (sl_stable (S.row p' b'.length))) ?_;clear S;rintro _ a w ⟨g,rfl,hg,hown⟩ hS -
 have S:=hS hown (fun ad had=>by cases had;exact hg)
 clear hS
 refine sw S ?_;clear S;intro a w S;refine kN (xbn (xtn (kR ?_)));(iterate 2 (refine sq S ?_;clear S;intro a S));refine kN (xtn ?_)
 rw[w64 ((k:Int)+1) (by omega) (by omega)]at S
 rw[show b'.length+2=(b'++be 2 (IntKind.u16.wrap (nthG xs k))).length from by rw[List.length_append,be_len]]at S
 replace S:=(S.front (Wk.row 5 1 (some ⟨g,0,none⟩) (b'++be 2 (IntKind.u16.wrap (nthG xs k))).length (b'++be 2 (IntKind.u16.wrap (nthG xs k))).length (encL (b'++be 2 (IntKind.u16.wrap (nthG xs k)))))).front (Wk.box h 25 [.slice (some ⟨g,0,none⟩) (b'++be 2 (IntKind.u16.wrap (nthG xs k))).length (b'++be 2 (IntKind.u16.wrap (nthG xs k))).length])
 exact ⟨k+1,b'++be 2 (IntKind.u16.wrap (nthG xs k)),some ⟨g,0,none⟩,(b'++be 2 (IntKind.u16.wrap (nthG xs k))).length,S.uu,⟨hkl,by rw[List.append_assoc];exact hrel⟩,S.sub _ _,by omega⟩
 refine kE (xte (xte (xbe ?_)))
 have hkl:xs.length≤k:=by simp at h1;omega
 rw[List.drop_of_length_le hkl,twosB,List.append_nil]at hrel
 subst hrel
 replace S:=S.toBoth
 have h1:=S.it (bbI h p' c' (b++twosB xs))
 have h2:=S.itNew (bbI h p' c' (b++twosB xs)) rfl
 exact end0 S (fun _=>⟨rfl,p',c',h1,h2⟩)
theorem menc2_c (h:Nat) (p:Option Addr) (c:Nat) (b:List UInt8) (s:List UInt8) (w0:World) (hl:s.length≤1000) (hb:b.length≤500000000) (hd:(bbI h p c b).holds w0) :
  Ret Tryz.prog 111 [str s,.pointer (some ⟨h,0,none⟩)] w0 (bbI h p c b).foot fun v w'=>BbR h p c b (b++Wk.u8 s.length::s) v w0 w':=by
 refine enter Tryz.func111 rfl rfl (Wd.it2Lent (x:=Wk.box h 25 [.slice p b.length c]) (y:=Wk.row 5 1 p b.length c (encL b)) (fs:=[]) hd rfl rfl (by simp)) (fun a S=>?_)
 simp only[Tryz.ntmps111,qqA,qqB,Nat.reduceAdd,Nat.reduceSub,qqC,qqD,qqE,qqF]at S
 refine kR ?_;(iterate 4 (refine sq S ?_;clear S;intro a S));refine sn S ?_;clear S;intro b7 a w S
 refine sap S (by simp[maxLen];omega) (by omega) ?_;clear S;rintro p1 c1 a w - S
 refine sq S ?_;clear S;intro a S
 refine sap S (by simp[maxLen];omega) (by omega) ?_;clear S;rintro p2 c2 a w - S
 rw[show encL b++[Value.int .u8 (IntKind.u8.wrap (s.length:Int))]++encL s=encL (b++Wk.u8 s.length::s) from by rw[u8_wrap,encL_append,List.append_assoc];rfl,show b.length+1+s.length=(b++Wk.u8 s.length::s).length from by simp;omega]at S
 refine sw S ?_;clear S;intro a w S;refine kN ?_
 replace S:=((S.front (Wk.row 5 1 p2 (b++Wk.u8 s.length::s).length c2 (encL (b++Wk.u8 s.length::s)))).front (Wk.box h 25 [.slice p2 (b++Wk.u8 s.length::s).length c2])).toBoth
 have h1:=S.it (bbI h p2 c2 (b++Wk.u8 s.length::s))
 have h2:=S.itNew (bbI h p2 c2 (b++Wk.u8 s.length::s)) rfl
 exact end0 S (fun _=>⟨rfl,p2,c2,h1,h2⟩)
def markE (m:LMark):List UInt8:=(Wk.u8 m.key.length::m.key)++twoB m.ver
def marksE:List LMark→List UInt8
 | []=>[]
 | m::l=>markE m++marksE l
def seenE (s:PSeen):List UInt8:=[Wk.u8 s.user]++twoB s.cnt++be 4 (IntKind.u32.wrap ((nameF s.root).length:Int))++nameF s.root
def seensE:List PSeen→List UInt8
 | []=>[]
 | s::l=>seenE s++seensE l
def tailE3 (m:PMem):List UInt8:=Wk.u8 m.seen.length::seensE m.seen
def tailE2 (m:PMem):List UInt8:=Wk.u8 m.vers.length::marksE m.vers++tailE3 m
def tailE1 (m:PMem):List UInt8:=Wk.u8 m.seeds.length::marksE m.seeds++tailE2 m
def encM (m:PMem):List UInt8:=Wk.u8 m.user::twosB [m.leaf,m.counter,m.num]++tailE1 m
theorem nameF_short (t:Term):(nameF t).length≤84000:=by
 rw[nameF];split
 simp
 rename_i h;exact bytes_small h
theorem marksE_len:∀ l:List LMark,(∀ x∈l,x.key.length≤1000)→(marksE l).length≤1003*l.length
 | [],_=>by simp[marksE]
 | m::l,h=>by
  have h1:=h m (.head _)
  have h2:=marksE_len l fun x hx=>h x (.tail _ hx)
  simp only[marksE,markE,List.length_append,qqA,twoB_len];omega
theorem seensE_len:∀ l:List PSeen,(seensE l).length≤84007*l.length
 | []=>by simp[seensE]
 | s::l=>by
  have h1:=nameF_short s.root
  have h2:=seensE_len l
  simp only[seensE,seenE,List.length_append,qqA,qqB,twoB_len,be_len];omega
theorem encM_len {m:LMem} (hfit:FitM m):(encM m.m).length≤100000000:=by
 have h1:=marksE_len m.seeds hfit.names
 have h2:=marksE_len m.vers hfit.keys
 have h3:=seensE_len (ssP m.seen)
 have h4:=hfit.seeds
 have h5:=hfit.vers
 have h6:=hfit.seen
 rw[ssP,List.length_map]at h3
 rw[encM,tailE1,tailE2,tailE3]
 simp only[List.length_append,qqA,twosB_len,qqB,LMem.m,ssP];omega
def EncR (m:PMem) (v:Value) (w0 w:World):Prop:=(memB m=false∧v=.tuple ⟨[.slice none 0 0,.int .i64 300]⟩)∨
 (memB m=true∧∃ (p:Option Addr) (c:Nat),v=.tuple ⟨[.slice p (encM m).length c,.int .i64 0]⟩∧w.ownsRow 0 5 1 (.slice p (encM m).length c) (encM m).length (encL (encM m))∧∀ ad,p=some ad→w0.heap.size≤ad.block)
set_option maxHeartbeats 4000000 in
theorem mencode_c (m:LMem) (hfit:FitM m) (w0:World) (hm:Stable (fun _=>False) w0 (MemF m)):Ret Tryz.prog 36 [vMem m] w0 (fun _=>False) fun v w'=>EncR m.m v w0 w':=by
 have hl1:=hfit.seeds
 have hl2:=hfit.vers
 have hl3:=hfit.seen
 have hbig:=encM_len hfit
 obtain ⟨B,hB⟩:∃ B,B=encM m.m:=⟨_,rfl⟩
 rw[←hB]at hbig
 refine enter Tryz.func36 rfl rfl (Wd.begin (fs:=[MemF m,GlF m.sp m.seeds,GlF m.vp m.vers,GlF m.ep m.seen]) (by simp;exact ⟨hm,hm.imp fun _ h=>h.1,hm.imp fun _ h=>h.2.1,hm.imp fun _ h=>h.2.2⟩)) (fun a S=>?_)
 simp only[Tryz.ntmps36,qqA,qqB,Nat.reduceAdd,Nat.reduceSub,qqC,qqD,qqE,qqF]at S
 refine kS (kR ?_);refine sa S ?_;clear S;intro b1 a w S;(iterate 2 (refine sq S ?_;clear S;intro a S));refine kN (xtn (kS (kS (kR (sq S ?_)))));clear S;intro a S
 refine sr S (mcheck_c m hfit _ ((S.mem.fact (MemF m)).less fun _ _ h=>h.elim)) ?_;clear S;rintro _ a w rfl S
 refine sq S ?_;clear S;intro a S;refine kN (xtn (kS (kR ?_)));(iterate 2 (refine sq S ?_;clear S;intro a S))
 rw[mchk_dec]at S
 refine kN (xtn ?_)
 refine kC S (fun h2=>?_) (fun h2=>?_)
 refine kS (kR ?_);(iterate 3 (refine sq S ?_;clear S;intro a S));refine kN (xtn (kT (xtr ?_)))
 have hno:memB m.m=false:=by simpa using h2
 refine end2 S (fun _=>.inl ⟨hno,?_⟩)
 rw[mchkF,hno];rfl
 refine kK (xtn (kS ?_))
 have hyes:memB m.m=true:=by simpa using h2
 refine kR ?_;(iterate 3 (refine sq S ?_;clear S;intro a S));refine sn S ?_;clear S;intro b24 a w S
 replace S:=S.boxRow b24 1 1 rfl (by decide)
 rw[show [Value.int .u8 (IntKind.u8.wrap m.user)]=encL [Wk.u8 m.user] from by rw[u8_wrap];rfl]at S
 refine sa S ?_;clear S;intro b5 a w S;refine sw S ?_;clear S;intro a w S;refine kN (xtn (kS (kR ?_)));(iterate 2 (refine sq S ?_;clear S;intro a S));refine kN (xtn (kS (kR ?_)));(iterate 2 (refine sq S ?_;clear S;intro a S));refine kN (xtn (kS (kR ?_)));(iterate 7 (refine sq S ?_;clear S;intro a S));refine sn S ?_;clear S;intro b34 a w S
 replace S:=S.boxRow b34 1 3 rfl (by decide)
 rw[show [Value.int .i64 m.leaf,.int .i64 m.counter,.int .i64 m.num]=encL [m.leaf,m.counter,m.num] from rfl]at S
 replace S:=S.rowToGl (some ⟨b34,0,none⟩) [m.leaf,m.counter,m.num] (e:=3) (sz:=1) (n:=3) (c:=3) (fun _ _ _ _=>trivial)
 replace S:=((S.front (Wk.row 5 1 (some ⟨b24,0,none⟩) 1 1 (encL [Wk.u8 m.user]))).front (Wk.box b5 25 [.slice (some ⟨b24,0,none⟩) 1 1])).toBoth
 refine sit (bbI b5 (some ⟨b24,0,none⟩) 1 [Wk.u8 m.user]) S (menc1_c b5 (some ⟨b24,0,none⟩) 1 [Wk.u8 m.user] [m.leaf,m.counter,m.num] (some ⟨b34,0,none⟩) 3 3 w rfl (by decide) (by simp) (S.it (bbI b5 (some ⟨b24,0,none⟩) 1 [Wk.u8 m.user])) (S.lend (bbI b5 (some ⟨b24,0,none⟩) 1 [Wk.u8 m.user]) (S.mem.fact (GlF (some ⟨b34,0,none⟩) [m.leaf,m.counter,m.num])))) rfl ?_;clear S;rintro _ a w ⟨rfl,p1,c1,hh,hf⟩ hS
 obtain ⟨B1,hB1⟩:∃ B1,B1=[Wk.u8 m.user]++twosB [m.leaf,m.counter,m.num]:=⟨_,rfl⟩
 rw[←hB1]at hh hf
 have S:=hS (bbI b5 p1 c1 B1) hh hf
 clear hS
 replace S:=S.ofBoth
 have hB1l:B1.length=7:=by rw[hB1];simp[twosB_len]
 have hBB1:B=B1++tailE1 m.m:=by rw[hB,hB1,encM];rfl
 refine kN (xtn (kS (kR ?_)));(iterate 5 (refine sq S ?_;clear S;intro a S));refine sn S ?_;clear S;intro b41 a w S
 refine sap S (by simp[maxLen];omega) (by omega) ?_;clear S;rintro p2 c2 a w - S
 rw[show encL B1++[Value.int .u8 (IntKind.u8.wrap (m.seeds.length:Int))]=encL (B1++[Wk.u8 m.seeds.length]) from by rw[u8_wrap,encL_append];rfl,show B1.length+1=(B1++[Wk.u8 m.seeds.length]).length from by simp]at S
 refine sw S ?_;clear S;intro a w S;refine kN (xtn (kS (kS (kR ?_))));(iterate 4 (refine sq S ?_;clear S;intro a S));refine kN (xtn (kB ?_))
 refine c_fore4 S (fun(k:Nat) (b:List UInt8) (p':Option Addr) (c':Nat) uu=>[(9,uu 9),(36,.int .i64 (k:Nat)),(0,uu 47),(0,uu 48),(0,uu 49),(0,uu 50),(0,uu 51),(0,uu 52),(0,uu 53),(0,uu 54),(0,uu 55),(0,uu 56),(0,uu 57),(0,uu 58),(0,uu 59)]) (fun(k:Nat) (b:List UInt8) (p':Option Addr) (c':Nat)=>[Wk.box b5 25 [.slice p' b.length c'],Wk.row 5 1 p' b.length c' (encL b),Wk.box b1 67 (cMem m)]) (fun(k:Nat) (b:List UInt8) (p':Option Addr) (c':Nat)=>[GlF m.sp m.seeds,GlF m.vp m.vers,GlF m.ep m.seen]) (fun(k:Nat) (b:List UInt8) (p':Option Addr) (c':Nat)=>k≤m.seeds.length∧b++(marksE (m.seeds.drop k)++tailE2 m.m)=B) (fun(k:Nat) (b:List UInt8) (p':Option Addr) (c':Nat)=>m.seeds.length - k) (0) (B1++[Wk.u8 m.seeds.length]) (p2) (c2) ?_ S.uu ?_ ?_
 exact ⟨Nat.zero_le _,by rw[hBB1,tailE1,List.append_assoc];rfl⟩
 exact S.sub _ _
 clear S;rintro k b p' c' uu a w ⟨hk,hrel⟩ S
 refine kS (kR (sq S ?_));clear S;intro a S;refine kN (xtn (kS ?_))
 refine kC S (fun h10=>?_) (fun h10=>?_)
 refine kK (xtn (kS (kB (kS ?_))))
 have hkl:k < m.seeds.length:=by have:=of_decide_eq_true h10;omega
 have hK:KLt k m.seeds.length:=⟨hkl⟩
 have hkey:=hfit.names _ (nthG_mem hkl)
 rw[nthG_drop hkl,marksE,markE]at hrel
 have hbl:=congrArg List.length hrel
 simp only[List.length_append,qqA,twoB_len]at hbl
 refine kR ?_;(iterate 2 (refine sq S ?_;clear S;intro a S));refine sa S ?_;clear S;intro b9 a w S;refine sw S ?_;clear S;intro a w S;refine kN (xtn (kS (kR ?_)));(iterate 3 (refine sq S ?_;clear S;intro a S))
 replace S:=((S.front (Wk.row 5 1 p' b.length c' (encL b))).front (Wk.box b5 25 [.slice p' b.length c'])).toBoth
 refine sit (bbI b5 p' c' b) S (menc2_c b5 p' c' b (nthG m.seeds k).key w hkey (by omega) (S.it (bbI b5 p' c' b))) rfl ?_;clear S;rintro _ a w ⟨rfl,p3,c3,hh,hf⟩ hS
 obtain ⟨b3,hb3⟩:∃ b3,b3=b++Wk.u8 (nthG m.seeds k).key.length::(nthG m.seeds k).key:=⟨_,rfl⟩
 rw[←hb3]at hh hf
 have S:=hS (bbI b5 p3 c3 b3) hh hf
 clear hS
 have hb3l:=congrArg List.length hb3
 simp only[List.length_append,qqA]at hb3l
 refine kN (xtn (kR ?_));(iterate 3 (refine sq S ?_;clear S;intro a S));refine sn S ?_;clear S;intro b57 a w S
 replace S:=S.boxRow b57 1 1 rfl (by decide)
 rw[show [Value.int .i64 (nthG m.seeds k).ver]=encL [(nthG m.seeds k).ver] from rfl]at S
 replace S:=S.rowToGl (some ⟨b57,0,none⟩) [(nthG m.seeds k).ver] (e:=3) (sz:=1) (n:=1) (c:=1) (fun _ _ _ _=>trivial)
 replace S:=S.front (bbI b5 p3 c3 b3)
 refine sit (bbI b5 p3 c3 b3) S (menc1_c b5 p3 c3 b3 [(nthG m.seeds k).ver] (some ⟨b57,0,none⟩) 1 1 w rfl (by decide) (by omega) (S.it (bbI b5 p3 c3 b3)) (S.lend (bbI b5 p3 c3 b3) (S.mem.fact (GlF (some ⟨b57,0,none⟩) [(nthG m.seeds k).ver])))) rfl ?_;clear S;rintro _ a w ⟨rfl,p4,c4,hh,hf⟩ hS
 have S:=hS (bbI b5 p4 c4 (b3++twosB [(nthG m.seeds k).ver])) hh hf
 clear hS
 replace S:=(S.front (bbI b5 p4 c4 (b3++twosB [(nthG m.seeds k).ver]))).ofBoth
 refine kN (xbn (xtn (kR ?_)));(iterate 2 (refine sq S ?_;clear S;intro a S));refine kN (xtn ?_)
 rw[w64 ((k:Int)+1) (by omega) (by omega)]at S
 refine ⟨k+1,_,p4,c4,S.uu,⟨hkl,?_⟩,S.sub [Wk.box b5 25 [.slice p4 (b3++twosB [(nthG m.seeds k).ver]).length c4],Wk.row 5 1 p4 (b3++twosB [(nthG m.seeds k).ver]).length c4 (encL (b3++twosB [(nthG m.seeds k).ver])),Wk.box b1 67 (cMem m)] _,by omega⟩
 rw[←hrel,hb3];simp[twosB]
 refine kE (xte (xte (xbe (xtn (kS (kR ?_))))));(iterate 5 (refine sq S ?_;clear S;intro a S));refine sn S ?_;clear S;intro b65 a w S
 have hkl:m.seeds.length≤k:=by have:=of_decide_eq_false h10;omega
 rw[List.drop_of_length_le hkl,marksE,qqF,tailE2]at hrel
 have hbl:=congrArg List.length hrel
 simp only[List.length_append,qqA]at hbl
 refine sap S (by simp[maxLen];omega) (by omega) ?_;clear S;rintro p15 c15 a w - S
 rw[show encL b++[Value.int .u8 (IntKind.u8.wrap (m.vers.length:Int))]=encL (b++[Wk.u8 m.vers.length]) from by rw[u8_wrap,encL_append];rfl,show b.length+1=(b++[Wk.u8 m.vers.length]).length from by simp]at S
 replace hrel:(b++[Wk.u8 m.vers.length])++(marksE m.vers++tailE3 m.m)=B:=by rw[←hrel];simp[LMem.m]
 obtain ⟨B2,hB2⟩:∃ B2,B2=b++[Wk.u8 m.vers.length]:=⟨_,rfl⟩
 rw[←hB2]at S hrel
 refine sw S ?_;clear S;intro a w S;refine kN (xtn (kS (kS (kR ?_))));(iterate 4 (refine sq S ?_;clear S;intro a S));refine kN (xtn (kB ?_))
 refine c_fore4 S (fun(j:Nat) (bb:List UInt8) (pp:Option Addr) (cc:Nat) uu=>[(11,uu 11),(58,.int .i64 (j:Nat)),(0,uu 71),(0,uu 72),(0,uu 73),(0,uu 74),(0,uu 75),(0,uu 76),(0,uu 77),(0,uu 78),(0,uu 79),(0,uu 80),(0,uu 81),(0,uu 82),(0,uu 83)]) (fun(j:Nat) (bb:List UInt8) (pp:Option Addr) (cc:Nat)=>[Wk.box b5 25 [.slice pp bb.length cc],Wk.row 5 1 pp bb.length cc (encL bb),Wk.box b1 67 (cMem m)]) (fun(j:Nat) (bb:List UInt8) (pp:Option Addr) (cc:Nat)=>[GlF m.vp m.vers,GlF m.ep m.seen]) (fun(j:Nat) (bb:List UInt8) (pp:Option Addr) (cc:Nat)=>j≤m.vers.length∧bb++(marksE (m.vers.drop j)++tailE3 m.m)=B) (fun(j:Nat) (bb:List UInt8) (pp:Option Addr) (cc:Nat)=>m.vers.length - j) (0) (B2) (p15) (c15) ?_ S.uu ?_ ?_
 exact ⟨Nat.zero_le _,hrel⟩
 exact S.sub _ _
 clear S;rintro j bb pp cc uu a w ⟨hj,hrel2⟩ S
 refine kS (kR (sq S ?_));clear S;intro a S;refine kN (xtn (kS ?_))
 refine kC S (fun h17=>?_) (fun h17=>?_)
 refine kK (xtn (kS (kB (kS ?_))))
 have hjl:j < m.vers.length:=by have:=of_decide_eq_true h17;omega
 have hK:KLt j m.vers.length:=⟨hjl⟩
 have hkey:=hfit.keys _ (nthG_mem hjl)
 rw[nthG_drop hjl,marksE,markE]at hrel2
 have hbl2:=congrArg List.length hrel2
 simp only[List.length_append,qqA,twoB_len]at hbl2
 refine kR ?_;(iterate 2 (refine sq S ?_;clear S;intro a S));refine sa S ?_;clear S;intro b11 a w S;refine sw S ?_;clear S;intro a w S;refine kN (xtn (kS (kR ?_)));(iterate 3 (refine sq S ?_;clear S;intro a S))
 replace S:=((S.front (Wk.row 5 1 pp bb.length cc (encL bb))).front (Wk.box b5 25 [.slice pp bb.length cc])).toBoth
 refine sit (bbI b5 pp cc bb) S (menc2_c b5 pp cc bb (nthG m.vers j).key w hkey (by omega) (S.it (bbI b5 pp cc bb))) rfl ?_;clear S;rintro _ a w ⟨rfl,p3,c3,hh,hf⟩ hS
 obtain ⟨b3,hb3⟩:∃ b3,b3=bb++Wk.u8 (nthG m.vers j).key.length::(nthG m.vers j).key:=⟨_,rfl⟩
 rw[←hb3]at hh hf
 have S:=hS (bbI b5 p3 c3 b3) hh hf
 clear hS
 have hb3l:=congrArg List.length hb3
 simp only[List.length_append,qqA]at hb3l
 refine kN (xtn (kR ?_));(iterate 3 (refine sq S ?_;clear S;intro a S));refine sn S ?_;clear S;intro b57 a w S
 replace S:=S.boxRow b57 1 1 rfl (by decide)
 rw[show [Value.int .i64 (nthG m.vers j).ver]=encL [(nthG m.vers j).ver] from rfl]at S
 replace S:=S.rowToGl (some ⟨b57,0,none⟩) [(nthG m.vers j).ver] (e:=3) (sz:=1) (n:=1) (c:=1) (fun _ _ _ _=>trivial)
 replace S:=S.front (bbI b5 p3 c3 b3)
 refine sit (bbI b5 p3 c3 b3) S (menc1_c b5 p3 c3 b3 [(nthG m.vers j).ver] (some ⟨b57,0,none⟩) 1 1 w rfl (by decide) (by omega) (S.it (bbI b5 p3 c3 b3)) (S.lend (bbI b5 p3 c3 b3) (S.mem.fact (GlF (some ⟨b57,0,none⟩) [(nthG m.vers j).ver])))) rfl ?_;clear S;rintro _ a w ⟨rfl,p4,c4,hh,hf⟩ hS
 have S:=hS (bbI b5 p4 c4 (b3++twosB [(nthG m.vers j).ver])) hh hf
 clear hS
 replace S:=(S.front (bbI b5 p4 c4 (b3++twosB [(nthG m.vers j).ver]))).ofBoth
 refine kN (xbn (xtn (kR ?_)));(iterate 2 (refine sq S ?_;clear S;intro a S));refine kN (xtn ?_)
 rw[w64 ((j:Int)+1) (by omega) (by omega),show (j:Int)+1=((j+1:Nat):Int) from rfl]at S
 refine ⟨j+1,_,p4,c4,S.uu,⟨hjl,?_⟩,S.sub [Wk.box b5 25 [.slice p4 (b3++twosB [(nthG m.vers j).ver]).length c4],Wk.row 5 1 p4 (b3++twosB [(nthG m.vers j).ver]).length c4 (encL (b3++twosB [(nthG m.vers j).ver])),Wk.box b1 67 (cMem m)] _,by omega⟩
 rw[←hrel2,hb3];simp[twosB]
 refine kE (xte (xte (xbe (xtn (kS (kR ?_))))));(iterate 5 (refine sq S ?_;clear S;intro a S));refine sn S ?_;clear S;intro b89 a w S
 have hjl:m.vers.length≤j:=by have:=of_decide_eq_false h17;omega
 rw[List.drop_of_length_le hjl,marksE,qqF,tailE3]at hrel2
 have hbl2:=congrArg List.length hrel2
 simp only[List.length_append,qqA]at hbl2
 refine sap S (by simp[maxLen];omega) (by omega) ?_;clear S;rintro p22 c22 a w - S
 rw[show encL bb++[Value.int .u8 (IntKind.u8.wrap (m.seen.length:Int))]=encL (bb++[Wk.u8 m.seen.length]) from by rw[u8_wrap,encL_append];rfl,show bb.length+1=(bb++[Wk.u8 m.seen.length]).length from by simp]at S
 replace hrel2:(bb++[Wk.u8 m.seen.length])++seensE (ssP m.seen)=B:=by rw[←hrel2];simp[LMem.m,ssP]
 obtain ⟨B3,hB3⟩:∃ B3,B3=bb++[Wk.u8 m.seen.length]:=⟨_,rfl⟩
 rw[←hB3]at S hrel2
 refine sw S ?_;clear S;intro a w S;refine kN (xtn (kS (kS (kR ?_))));(iterate 4 (refine sq S ?_;clear S;intro a S));refine kN (xtn (kB ?_))
 refine c_fore4 S (fun(i:Nat) (bz:List UInt8) (pz:Option Addr) (cz:Nat) uu=>[(13,uu 13),(0,uu 14),(0,uu 15),(78,.int .i64 (i:Nat)),(0,uu 95),(0,uu 96),(0,uu 97),(0,uu 98),(0,uu 99),(0,uu 100),(0,uu 101),(0,uu 102),(0,uu 103),(0,uu 104),(0,uu 105),(0,uu 106),(0,uu 107),(0,uu 108),(0,uu 109),(0,uu 110),(0,uu 111),(0,uu 112),(0,uu 113),(0,uu 114),(0,uu 115),(0,uu 116),(0,uu 117),(0,uu 118),(0,uu 119),(0,uu 120),(0,uu 121),(0,uu 122)]) (fun(i:Nat) (bz:List UInt8) (pz:Option Addr) (cz:Nat)=>[Wk.box b5 25 [.slice pz bz.length cz],Wk.row 5 1 pz bz.length cz (encL bz),Wk.box b1 67 (cMem m)]) (fun(i:Nat) (bz:List UInt8) (pz:Option Addr) (cz:Nat)=>[GlF m.ep m.seen]) (fun(i:Nat) (bz:List UInt8) (pz:Option Addr) (cz:Nat)=>i≤m.seen.length∧bz++seensE (ssP (m.seen.drop i))=B) (fun(i:Nat) (bz:List UInt8) (pz:Option Addr) (cz:Nat)=>m.seen.length - i) (0) (B3) (p22) (c22) ?_ S.uu ?_ ?_
 exact ⟨Nat.zero_le _,hrel2⟩
 exact S.sub _ _
 clear S;rintro i bz pz cz uu a w ⟨hi,hrel3⟩ S
 refine kS (kR (sq S ?_));clear S;intro a S;refine kN (xtn (kS ?_))
 refine kC S (fun h24=>?_) (fun h24=>?_)
 refine kK (xtn (kS (kB (kS ?_))))
 have hil:i < m.seen.length:=by have:=of_decide_eq_true h24;omega
 have hK:KLt i m.seen.length:=⟨hil⟩
 obtain ⟨s,hs⟩:∃ s,s=nthG m.seen i:=⟨_,rfl⟩
 rw[nthG_drop hil,←hs,ssP,List.map_cons,seensE,seenE]at hrel3
 obtain ⟨X,hX⟩:∃ X,X=nameF s.root.t:=⟨_,rfl⟩
 have hXl:=nameF_short s.root.t
 rw[←hX]at hXl
 replace hrel3:bz++(([Wk.u8 s.user]++twoB s.cnt++be 4 (IntKind.u32.wrap (X.length:Int))++X)++seensE (ssP (m.seen.drop (i+1))))=B:=by rw[hX];exact hrel3
 have hbl3:=congrArg List.length hrel3
 simp only[List.length_append,qqA,qqB,twoB_len,be_len]at hbl3
 refine kR ?_;(iterate 2 (refine sq S ?_;clear S;intro a S))
 rw[←hs]at S
 refine sa S ?_;clear S;intro b13 a w S;refine sw S ?_;clear S;intro a w S;refine kN (xtn (kS (kR ?_)));(iterate 2 (refine sq S ?_;clear S;intro a S))
 replace S:=S.add (Φ:=LtF s.root) ((S.mem.fact (GlF m.ep m.seen)).imp fun _ h=>h.2 _ (hs▸nthG_mem hil))
 refine srn S (encode_c s.root _ (S.t0 s.root)) ?_;clear S;rintro _ a w ⟨p9,c9,rfl,hown,hnew⟩ hS -
 have S:=hS hown hnew
 clear hS
 rw[←hX]at S
 (iterate 5 (refine sq S ?_;clear S;intro a S));refine kN (xtn (kS (kR ?_)));(iterate 4 (refine sq S ?_;clear S;intro a S));refine sn S ?_;clear S;intro b108 a w S
 refine sap S (by simp[maxLen];omega) (by omega) ?_;clear S;rintro p27 c27 a w - S
 rw[show encL bz++[Value.int .u8 (IntKind.u8.wrap s.user)]=encL (bz++[Wk.u8 s.user]) from by rw[u8_wrap,encL_append];rfl,show bz.length+1=(bz++[Wk.u8 s.user]).length from by simp]at S
 refine sw S ?_;clear S;intro a w S;refine kN (xtn (kS (kR ?_)));(iterate 3 (refine sq S ?_;clear S;intro a S));refine sn S ?_;clear S;intro b57 a w S
 replace S:=S.boxRow b57 1 1 rfl (by decide)
 rw[show [Value.int .i64 s.cnt]=encL [s.cnt] from rfl]at S
 replace S:=S.rowToGl (some ⟨b57,0,none⟩) [s.cnt] (e:=3) (sz:=1) (n:=1) (c:=1) (fun _ _ _ _=>trivial)
 obtain ⟨b4,hb4⟩:∃ b4,b4=bz++[Wk.u8 s.user]:=⟨_,rfl⟩
 rw[←hb4]at S
 have hb4l:b4.length=bz.length+1:=by rw[hb4];simp
 replace S:=((S.front (Wk.row 5 1 p27 b4.length c27 (encL b4))).front (Wk.box b5 25 [.slice p27 b4.length c27])).toBoth
 refine sit (bbI b5 p27 c27 b4) S (menc1_c b5 p27 c27 b4 [s.cnt] (some ⟨b57,0,none⟩) 1 1 w rfl (by decide) (by omega) (S.it (bbI b5 p27 c27 b4)) (S.lend (bbI b5 p27 c27 b4) (S.mem.fact (GlF (some ⟨b57,0,none⟩) [s.cnt])))) rfl ?_;clear S;rintro _ a w ⟨rfl,p28,c28,hh,hf⟩ hS
 obtain ⟨b6,hb6⟩:∃ b6,b6=b4++twosB [s.cnt]:=⟨_,rfl⟩
 rw[←hb6]at hh hf
 have S:=hS (bbI b5 p28 c28 b6) hh hf
 clear hS
 have hb6l:b6.length=bz.length+3:=by rw[hb6,List.length_append,twosB_len,hb4l];rfl
 replace S:=(S.front (bbI b5 p28 c28 b6)).ofBoth
 refine kN (xtn (kR ?_));(iterate 4 (refine sq S ?_;clear S;intro a S))
 rw[wu32 (X.length:Int) (by omega) (by omega)]at S
 refine srn S (put32_c p28 b6.length c28 b6 (X.length:Int) w rfl (by omega) (by omega) (by omega) (sl_stable (S.row p28 b6.length))) ?_;clear S;rintro _ a w ⟨g,rfl,hg,hown⟩ hS -
 have S:=hS hown (fun ad had=>by cases had;exact hg)
 clear hS
 refine sq S ?_;clear S;intro a S
 refine sap S (by simp[maxLen];omega) (by omega) ?_;clear S;rintro p29 c29 a w - S
 rw[←encL_append,show b6.length+4+X.length=(b6++be 4 (X.length:Int)++X).length from by simp[be_len];omega]at S
 refine sw S ?_;clear S;intro a w S;refine kN (xbn (xtn (kR ?_)));(iterate 2 (refine sq S ?_;clear S;intro a S));refine kN (xtn ?_)
 rw[w64 ((i:Int)+1) (by omega) (by omega),show (i:Int)+1=((i+1:Nat):Int) from rfl]at S
 replace S:=(S.front (Wk.row 5 1 p29 (b6++be 4 (X.length:Int)++X).length c29 (encL (b6++be 4 (X.length:Int)++X)))).front (Wk.box b5 25 [.slice p29 (b6++be 4 (X.length:Int)++X).length c29])
 refine ⟨i+1,_,p29,c29,S.uu,⟨hil,?_⟩,S.sub [Wk.box b5 25 [.slice p29 (b6++be 4 (X.length:Int)++X).length c29],Wk.row 5 1 p29 (b6++be 4 (X.length:Int)++X).length c29 (encL (b6++be 4 (X.length:Int)++X)),Wk.box b1 67 (cMem m)] _,by omega⟩
 rw[←hrel3,hb6,hb4,wu32 (X.length:Int) (by omega) (by omega)];simp[twosB]
 refine kE (xte (xte (xbe (xtn (kS (kR ?_))))));(iterate 3 (refine sq S ?_;clear S;intro a S));refine kN (xtn (kT ?_))
 have hil:m.seen.length≤i:=by have:=of_decide_eq_false h24;omega
 rw[List.drop_of_length_le hil,ssP,List.map_nil,seensE,List.append_nil]at hrel3
 subst hrel3
 have hrow:=S.row pz bz.length
 have hnew:=S.rowNew pz bz.length
 refine end2 S (fun _=>.inr ⟨hyes,pz,cz,?_⟩)
 rw[←hB]
 exact ⟨rfl,hrow,fun ad h=>(hnew ad h).elim (fun h=>h.elim) id⟩
def encMQ (m:PMem):List UInt8:=if memB m then encM m else []
theorem mencode_q (m:LMem) (hfit:FitM m) (w0:World) (hm:Stable (fun _=>False) w0 (MemF m)):Ret Tryz.prog 36 [vMem m] w0 (fun _=>False) fun v w'=>
  ∃ (p:Option Addr) (c:Nat),v=.tuple ⟨[.slice p (encMQ m.m).length c,.int .i64 (mchkF m.m)]⟩∧w'.ownsRow 0 5 1 (.slice p (encMQ m.m).length c) (encMQ m.m).length (encL (encMQ m.m))∧∀ ad,p=some ad→w0.heap.size≤ad.block:=by
 refine (mencode_c m hfit w0 hm).mono fun v w' h=>?_
 rcases h with ⟨h1,rfl⟩ | ⟨h1,p,c,rfl,h2,h3⟩
 rw[encMQ,mchkF,h1]
 exact ⟨none,0,rfl,World.ownsRow_nil _ _ _ _,fun _ h=>by cases h⟩
 rw[encMQ,mchkF,h1]
 exact ⟨p,c,rfl,h2,h3⟩
structure CovP (a b:PMem):Prop where
 ok:memB a=true∧memB b=true
 user:a.user=b.user
 rises:a.leaf≤b.leaf∧a.counter≤b.counter∧a.num≤b.num
 seeds:∀ s∈a.seeds,s∈b.seeds
 vers:∀ m∈a.vers,∃ x∈b.vers,x.key=m.key∧m.ver≤x.ver
 seen:∀ s∈a.seen,∃ x,findP b.seen s.user=some x∧(s.cnt < x.cnt∨(x.cnt=s.cnt∧x.root=s.root))
theorem r14one_c (m:LMark) (w0:World):Ret Tryz.prog 193 [vMark m] w0 (fun _=>False) fun v _=>v=.bool (markB m):=by
 refine enter Tryz.func193 rfl rfl (Wd.start w0) (fun a S=>?_)
 simp only[Tryz.ntmps193,qqA,qqB,Nat.reduceAdd,Nat.reduceSub,qqC,qqD,qqE,qqF]at S
 refine kS (kR ?_);refine sa S ?_;clear S;intro b1 a w S;refine sq S ?_;clear S;intro a S;refine kN (xtn (kS (kR ?_)));(iterate 5 (refine sq S ?_;clear S;intro a S));(iterate 4 (refine gQ S ?_;clear S;intro a S));(iterate 2 (refine sq S ?_;clear S;intro a S));(iterate 3 (refine gQ S ?_;clear S;intro a S));(iterate 2 (refine sq S ?_;clear S;intro a S));(iterate 3 (refine gQ S ?_;clear S;intro a S));(iterate 2 (refine sq S ?_;clear S;intro a S));refine kN (xtn (kT ?_))
 refine end1 S (fun _=>?_)
 congr 1
 have e:(decide (m.key=[]))=decide (m.key.length=0):=by
  rw[Bool.eq_iff_iff];simp[List.length_eq_zero_iff]
 rw[markB,e,Bool.eq_iff_iff]
 simp only[Bool.and_eq_true,decide_eq_true_eq,Bool.not_eq_true',decide_eq_false_iff_not]
 omega
instance {m:LMark} {bs fs} : CallV Tryz.prog 193 [.agg ⟨[str m.key,.int .i64 m.ver]⟩] bs fs (.bool (markB m)):=⟨fun w _=>r14one_c m w⟩
theorem gif_pred {c b:Bool} {k:Nat} (hb:b=true→1≤k) (hk:k≤1000000):gif c (gif b (.int .i64 (IntKind.i64.wrap ((k:Int) - 1))))=gif c (gif b (.int .i64 ((k - 1:Nat):Int))):=by
 cases b with
 | false=>rfl
 | true=>rw[w64 _ (by omega) (by omega),show (k:Int) - 1=((k - 1:Nat):Int) from by have:=hb rfl;omega]
theorem markB_ne {m:LMark} (h:markB m=true):m.key≠[]:=by
 intro he
 simp[markB,he]at h
theorem bl_nil {s:List UInt8} (h:s≠[]):Op.bytesLess [] s=true:=by
 cases s with
 | nil=>exact absurd rfl h
 | cons c s=>rfl
theorem riseM_step (l:List LMark) (k:Nat) (hk:k < l.length):riseM (lastM l k) (l.drop k)=(markB (nthG l k)&&Op.bytesLess (lastM l k) (nthG l k).key&&riseM (lastM l (k+1)) (l.drop (k+1))):=by
 rw[nthG_drop hk];rfl
theorem r14right_c (l:List LMark) (p:Option Addr) (n c:Nat) (w0:World) (hn:l.length=n) (hl:n≤1000000) (hx:Stable (fun _=>False) w0 (GlF p l)) :
  Ret Tryz.prog 108 [.slice p n c] w0 (fun _=>False) fun v _=>v=.bool (okM l):=by
 subst hn
 refine enter Tryz.func108 rfl rfl (Wd.begin (fs:=[GlF p l]) (by simpa using hx)) (fun a S=>?_)
 simp only[Tryz.ntmps108,qqA,qqB,Nat.reduceAdd,Nat.reduceSub,qqC,qqD,qqE,qqF]at S
 refine kS (kR (sq S ?_));clear S;intro a S;refine kN (xtn (kS (kS (kR ?_))));(iterate 3 (refine sq S ?_;clear S;intro a S));refine kN (xtn (kB ?_))
 refine c_forb1 S (fun(k:Nat) uu=>[(2,uu 2),(0,uu 3),(0,uu 4),(2,.int .i64 (k:Nat)),(0,uu 8),(0,uu 9),(0,uu 10),(0,uu 11),(0,uu 12),(0,uu 13),(0,uu 14),(0,uu 15),(0,uu 16),(0,uu 17),(0,uu 18),(0,uu 19),(0,uu 20),(0,uu 21),(0,uu 22),(0,uu 23),(0,uu 24),(0,uu 25),(0,uu 26),(0,uu 27),(0,uu 28),(0,uu 29),(0,uu 30)]) (fun(k:Nat)=>k≤l.length∧riseM (lastM l k) (l.drop k)=riseM [] l) (fun(k:Nat)=>l.length - k) (0) ?_ S.uu ?_ ?_
 exact ⟨Nat.zero_le _,rfl⟩
 first | exact S | exact S.sub _ _
 clear S;rintro k uu a w ⟨hk,hrel⟩ S
 refine kS (kR (sq S ?_));clear S;intro a S;refine kN (xtn (kS ?_))
 refine kC S (fun h2=>?_) (fun h2=>?_)
 refine kK (xtn (kS (kB (kS ?_))))
 have hkl:k < l.length:=by simp at h2;omega
 have hK:KLt k l.length:=⟨hkl⟩
 have hst:=riseM_step l k hkl
 have hC:CLt [!!markB (nthG l k),decide (0 < (k:Int))] (k - 1) l.length:=⟨fun _=>by omega⟩
 have hlast:markB (nthG l k)=true→Op.bytesLess (lastM l k) (nthG l k).key=(!(decide (0 < (k:Int))&&!Op.bytesLess (nthG l (k - 1)).key (nthG l k).key)):=fun hm=>by
  cases k with
  | zero=>rw[show lastM l 0=[] from rfl,bl_nil (markB_ne hm)];rfl
  | succ j=>
   rw[show lastM l (j+1)=(nthG l j).key from rfl,show j+1 - 1=j from by omega,decide_eq_true (by omega:(0:Int) < ((j+1:Nat):Int))]
   simp
 refine kR ?_;(iterate 3 (refine sq S ?_;clear S;intro a S));refine sa S ?_;clear S;intro b4 a w S;refine sq S ?_;clear S;intro a S;refine sw S ?_;clear S;intro a w S;refine kN (xtn (kS ?_));refine c_drawD [(0,true),(1,false),(2,true),(3,true),(4,true),(5,true),(6,true),(7,true),(8,true),(9,true),(10,true),(11,true),(12,true),(13,true),(14,true),(15,true),(16,true),(17,true)] [] S ?_;clear S;intro w S;refine dq S ?_;clear S;intro a S;refine dl (sc S ?_);clear S;intro a w S;refine de S ?_;(iterate 2 (refine dq S ?_;clear S;intro a S));(iterate 6 (refine dqG S ?_;clear S;intro a S))
 rw[gif_pred (by simp;omega) (by omega)]at S
 (iterate 7 (refine dqG S ?_;clear S;intro a S));refine dq S ?_;clear S;intro a S;refine dn (xtn ?_)
 refine kC S (fun h4=>?_) (fun h4=>?_)
 refine kS (kR (sq S ?_));clear S;intro a S;refine kN (xtn (kT (xbr (xtr (xtr (xbr (xtr ?_)))))))
 refine end1 S (fun _=>?_)
 have:okM l=false:=by
  have hf:riseM (lastM l k) (l.drop k)=false:=by
   rw[hst]
   cases hm:markB (nthG l k) with
   | false=>rfl
   | true=>
    have h5:=hlast hm
    rw[hm]at h4
    simp only[Bool.not_true,Bool.false_or]at h4
    rw[h5,h4];rfl
  rw[okM,←hrel,hf,Bool.and_false]
 rw[this]
 refine kK (xbn (xtn (kR ?_)));(iterate 2 (refine sq S ?_;clear S;intro a S));refine kN (xtn ?_)
 rw[w64 ((k:Int)+1) (by omega) (by omega)]at S
 refine ⟨k+1,S.uu,⟨hkl,?_⟩,S.sub _ _,by omega⟩
 rw[←hrel,hst]
 cases hm:markB (nthG l k) with
 | false=>rw[hm]at h4;simp at h4
 | true=>
  have h5:=hlast hm
  rw[hm]at h4
  simp only[Bool.not_true,Bool.false_or]at h4
  rw[h5,h4];rfl
 refine kE (xte (xte (xbe (xtn (kS (kR ?_))))));(iterate 4 (refine sq S ?_;clear S;intro a S));refine kN (xtn (kT ?_))
 rw[List.drop_of_length_le (by simp at h2;omega),riseM]at hrel
 refine end1 S (fun _=>?_)
 rw[okM,←hrel,Bool.and_true]
instance {l:List LMark} {p:Option Addr} {n c:Nat} {bs fs} [hg:HasG fs p LMark layMark l] [hn:LenN l n] [hk:LeC n 1000000]:CallV Tryz.prog 108 [.slice p n c] bs fs (.bool (okM l)):=⟨fun w m=>r14right_c l p n c w hn.eq hk.le ((hg.of _ _ m.facts).less fun _ _ h=>h.elim)⟩
theorem r14same_c (xs ys:List LMark) (p q:Option Addr) (c e:Nat) (w0:World) (hl:xs.length≤1000000) (hx:Stable (fun _=>False) w0 (GlF p xs)) (hy:Stable (fun _=>False) w0 (GlF q ys)) :
  Ret Tryz.prog 132 [.slice p xs.length c,.slice q ys.length e] w0 (fun _=>False) fun v _=>v=.bool (decide (xs=ys)):=by
 refine enter Tryz.func132 rfl rfl (Wd.begin (fs:=[GlF p xs,GlF q ys]) (by simp;exact ⟨hx,hy⟩)) (fun a S=>?_)
 simp only[Tryz.ntmps132,qqA,qqB,Nat.reduceAdd,Nat.reduceSub,qqC,qqD,qqE,qqF]at S
 refine kS (kR (sq S ?_));clear S;intro a S;refine kN (xtn (kS (kS (kR ?_))));(iterate 5 (refine sq S ?_;clear S;intro a S));refine kN (xtn ?_)
 refine kC S (fun h1=>?_) (fun h1=>?_)
 refine kS (kR (sq S ?_));clear S;intro a S;refine kN (xtn (kT (xtr ?_)))
 refine end1 S (fun _=>?_)
 have:¬xs=ys:=fun h=>by rw[h]at h1;simp at h1
 rw[decide_eq_false this]
 refine kK (xtn (kS (kS ?_)))
 have hle:xs.length=ys.length:=by simp at h1;omega
 refine kR ?_;(iterate 3 (refine sq S ?_;clear S;intro a S));refine kN (xtn (kB ?_))
 refine c_forb1 S (fun(k:Nat) uu=>[(4,uu 4),(0,uu 5),(7,.int .i64 (k:Nat)),(0,uu 14),(0,uu 15),(0,uu 16),(0,uu 17),(0,uu 18),(0,uu 19),(0,uu 20),(0,uu 21),(0,uu 22),(0,uu 23),(0,uu 24),(0,uu 25)]) (fun(k:Nat)=>k≤xs.length∧xs.take k=ys.take k) (fun(k:Nat)=>xs.length - k) (0) ?_ S.uu ?_ ?_
 exact ⟨Nat.zero_le _,rfl⟩
 first | exact S | exact S.sub _ _
 clear S;rintro k uu a w ⟨hk,hrel⟩ S
 refine kS (kR (sq S ?_));clear S;intro a S;refine kN (xtn (kS ?_))
 refine kC S (fun h4=>?_) (fun h4=>?_)
 refine kK (xtn (kS (kB (kS ?_))))
 have hkl:k < xs.length:=by simp at h4;omega
 have hK:KLt k xs.length:=⟨hkl⟩
 have hK2:KLt k ys.length:=⟨by omega⟩
 refine kR ?_;(iterate 2 (refine sq S ?_;clear S;intro a S));refine kN (xtn (kS ?_));refine c_drawD [(0,true),(1,true),(2,true),(3,true),(4,true),(5,true),(6,true),(7,true),(8,true)] [] S ?_;clear S;intro w S;(iterate 9 (refine dq S ?_;clear S;intro a S));refine dn (xtn ?_)
 refine kC S (fun h6=>?_) (fun h6=>?_)
 refine kS (kR (sq S ?_));clear S;intro a S;refine kN (xtn (kT (xbr (xtr (xtr (xbr (xtr ?_)))))))
 refine end1 S (fun _=>?_)
 have:¬xs=ys:=fun h=>by subst h;simp at h6
 rw[decide_eq_false this]
 refine kK (xbn (xtn (kR ?_)));(iterate 2 (refine sq S ?_;clear S;intro a S));refine kN (xtn ?_)
 rw[w64 ((k:Int)+1) (by omega) (by omega)]at S
 refine ⟨k+1,S.uu,⟨hkl,?_⟩,S.sub _ _,by omega⟩
 have he:nthG xs k=nthG ys k:=by simpa using h6
 rw[nthG_take hkl,nthG_take (by omega),hrel,he]
 refine kE (xte (xte (xbe (xtn (kS (kR (sq S ?_)))))));clear S;intro a S;refine kN (xtn (kT ?_))
 have hkl:k=xs.length:=by simp at h4;omega
 rw[List.take_of_length_le (by omega),List.take_of_length_le (by omega)]at hrel
 refine end1 S (fun _=>?_)
 rw[decide_eq_true hrel]
section
variable {P:Program} {cs:List Bool} {ls:List Value} {bs:List Wk.Item} {fs:List (World→Prop)} {x y:Operand} {k:Nat} {kk:IntKind} {m:Int} {t ty:TypeId} {s:List UInt8}
instance (priority:=800) opIndexStrC [Ev ⟨cs,ls⟩ x (str s)] [Ev ⟨cs,ls⟩ y (.int kk m)] [Und P t .string] [hm:IsNat m k] [hk:CLt cs k s.length]:OpQ P (.index t x y) ty ⟨cs,ls⟩ bs fs (.int .u8 ((nthG s k).toNat:Int)):=⟨fun ρ w h _=>by
 have h2:=hm.eq
 subst h2
 have hlt:=hk.lt h.1
 have hsz:k < (⟨s.toArray⟩:ByteArray).size:=hlt
 have hb:(⟨s.toArray⟩:ByteArray)[k]? = some (nthG s k):=by
  rw[getElem?_pos (⟨s.toArray⟩:ByteArray) k hsz]
  have:(⟨s.toArray⟩:ByteArray)[k]=s[k]:=rfl
  rw[this]
  have:=nthG_get hlt
  rw[List.getElem?_eq_getElem hlt]at this
  exact this
 simp[xop,execOp,h.ev (x:=x) (v:=str s),h.ev (x:=y) (v:=.int kk (k:Int)),Instr.index,asIntOf,Sem.run_bind,run_und,hb]⟩
end
theorem rname15_c (s:List UInt8) (hl:s.length≤1000000) (w0:World):Ret Tryz.prog 191 [str s] w0 (fun _=>False) fun v _=>v=.bool (nameK s):=by
 refine enter Tryz.func191 rfl rfl (Wd.start w0) (fun a S=>?_)
 simp only[Tryz.ntmps191,qqA,qqB,Nat.reduceAdd,Nat.reduceSub,qqC,qqD,qqE,qqF]at S
 refine kS (kR (sq S ?_));clear S;intro a S;refine kN (xtn (kS (kS (kR (sq S ?_)))));clear S;intro a S;refine kN (xtn (kB ?_))
 refine c_forb1 S (fun(i:Nat) uu=>[(2,uu 2),(0,.int .i64 (i:Nat)),(0,uu 4),(0,uu 5),(0,uu 6),(0,uu 7),(0,uu 8),(0,uu 9),(0,uu 10),(0,uu 11),(0,uu 12),(0,uu 13),(0,uu 14),(0,uu 15),(0,uu 16),(0,uu 17),(0,uu 18),(0,uu 19)]) (fun(i:Nat)=>i≤s.length∧∀ j,j < i→chK (nthG s j)=true) (fun(i:Nat)=>s.length - i) (0) ?_ S.uu ?_ ?_
 exact ⟨Nat.zero_le _,fun j hj=>by omega⟩
 first | exact S | exact S.sub _ _
 clear S;rintro i uu a w ⟨hi,hrel⟩ S
 refine kS (kS (kR ?_));(iterate 4 (refine sq S ?_;clear S;intro a S));refine kN (xtn ?_)
 refine kC S (fun h2=>?_) (fun h2=>?_)
 refine kK (xtn (kS (kB (kS ?_))))
 have hil:i < s.length:=by simp at h2;omega
 have hK:KLt i s.length:=⟨hil⟩
 have hb:=UInt8.toNat_lt (nthG s i)
 refine kR ?_;(iterate 5 (refine sq S ?_;clear S;intro a S));(iterate 4 (refine gQ S ?_;clear S;intro a S));refine sq S ?_;clear S;intro a S;refine kN (xtn ?_)
 refine kC S (fun h4=>?_) (fun h4=>?_)
 refine kS (kR (sq S ?_));clear S;intro a S;refine kN (xtn (kT (xbr (xtr (xtr (xbr (xtr ?_)))))))
 have hbad:chK (nthG s i)=false:=by
  simp only[Bool.or_eq_true,decide_eq_true_eq]at h4
  simp only[chK,Bool.and_eq_false_iff,decide_eq_false_iff_not]
  omega
 refine end1 S (fun _=>?_)
 have:nameK s=false:=by
  have hall:s.all chK=false:=List.all_eq_false.2 ⟨nthG s i,nthG_mem hil,by rw[hbad];simp⟩
  rw[nameK,hall];rfl
 rw[this]
 refine kK (xbn (xtn (kR ?_)));(iterate 3 (refine sq S ?_;clear S;intro a S));refine kN (xtn ?_)
 rw[w64 ((i:Int)+1) (by omega) (by omega),show (i:Int)+1=((i+1:Nat):Int) from rfl]at S
 refine ⟨i+1,S.uu,⟨hil,fun j hj=>?_⟩,S.sub _ _,by omega⟩
 rcases Nat.lt_or_ge j i with h | h
 exact hrel j h
 obtain rfl:j=i:=by omega
 simp only[Bool.or_eq_false_iff,decide_eq_false_iff_not]at h4
 simp only[chK,Bool.and_eq_true,decide_eq_true_eq]
 omega
 refine kE (xte (xte (xbe (xtn (kS (kR ?_))))));(iterate 4 (refine sq S ?_;clear S;intro a S));(iterate 3 (refine gQ S ?_;clear S;intro a S));(iterate 2 (refine sq S ?_;clear S;intro a S));refine kN (xtn (kT ?_))
 have hall:s.all chK=true:=by
  refine List.all_eq_true.2 fun x hx=>?_
  obtain ⟨j,hj,rfl⟩:=List.getElem_of_mem hx
  have:=hrel j (by simp at h2;omega)
  rwa [nthG,List.getD_eq_getElem?_getD,List.getElem?_eq_getElem hj]at this
 refine end1 S (fun _=>?_)
 rw[nameK,hall,Bool.true_and]
 congr 1
 rw[Bool.eq_iff_iff]
 simp only[Bool.and_eq_true,decide_eq_true_eq]
 omega
instance {s:List UInt8} {bs fs} [h:LeC s.length 1000000]:CallV Tryz.prog 191 [str s] bs fs (.bool (nameK s)):=⟨fun w _=>rname15_c s h.le w⟩
theorem r18user_c (n:Int) (w:World):Ret Tryz.prog 192 [.int .i64 n] w (fun _=>False) fun v _=>v=.bool (knownF n):=by
 refine enter Tryz.func192 rfl rfl (Wd.start w) (fun a S=>?_)
 simp only[Tryz.ntmps192,qqA,qqB,Nat.reduceAdd,Nat.reduceSub,qqC,qqD,qqE,qqF]at S
 refine kS (kR (sq S ?_));clear S;intro a S;refine kN (xtn (kS (kR ?_)));(iterate 3 (refine sq S ?_;clear S;intro a S));(iterate 2 (refine gQ S ?_;clear S;intro a S));(iterate 2 (refine sq S ?_;clear S;intro a S));refine kN (xtn (kT ?_))
 exact end1 S (fun _=>rfl)
instance {n:Int} {bs fs} : CallV Tryz.prog 192 [.int .i64 n] bs fs (.bool (knownF n)):=⟨fun w _=>r18user_c n w⟩
theorem rnamed_c (s:List UInt8) (hl:s.length≤1000000) (w0:World):Ret Tryz.prog 107 [str s] w0 (fun _=>False) fun v _=>v=.int .i64 (ownN s):=by
 have hL:LeC s.length 1000000:=⟨hl⟩
 have hCf:CLt [!true] 0 s.length:=⟨fun h=>by simpa using h _ (List.mem_singleton.2 rfl)⟩
 refine enter Tryz.func107 rfl rfl (Wd.start w0) (fun a S=>?_)
 simp only[Tryz.ntmps107,qqA,qqB,Nat.reduceAdd,Nat.reduceSub,qqC,qqD,qqE,qqF]at S
 refine kS (kR (sq S ?_));clear S;intro a S;refine kN (xtn (kS (kS (kR (sq S ?_)))));clear S;intro a S;refine sc S ?_;clear S;intro a w S;(iterate 2 (refine sq S ?_;clear S;intro a S));(iterate 3 (refine gQ S ?_;clear S;intro a S));(iterate 2 (refine sq S ?_;clear S;intro a S))
 refine gS S (fun hs S=>?_) (fun hs S=>?_)
 refine gF' S ?_;clear S;intro a S;(iterate 2 (refine gF' S ?_;clear S;intro a S));(iterate 2 (refine sq S ?_;clear S;intro a S));(iterate 2 (refine gQ S ?_;clear S;intro a S))
 have hb0:=UInt8.toNat_lt (nthG s 0)
 refine gQ S ?_;clear S;intro a S
 rw[w64 _ (by omega) (by omega)]at S
 refine gQ S ?_;clear S;intro a S
 rw[w64 _ (by omega) (by omega)]at S
 refine gC S ?_;clear S;intro a w S;refine gQ S ?_;clear S;intro a S;refine sq S ?_;clear S;intro a S;refine kN (xtn ?_);refine c_condT S ?_;refine kS (kR (sq S ?_));clear S;intro a S;refine kN (xtn (kT (xtr ?_)))
 refine end1 S (fun _=>?_)
 rw[ownN,if_neg]
 rintro ⟨h1,h2,-⟩
 rw[h1]at hs;simp at hs;omega
 refine gT' S ?_;refine sq S ?_;clear S;intro a S;refine gT' S ?_
 have h3:nameK s=true∧3≤s.length:=by
  simp only[Bool.or_eq_false_iff,Bool.not_eq_false',decide_eq_false_iff_not]at hs
  exact ⟨hs.1,by have:=hs.2;omega⟩
 have hK1:KLt 1 s.length:=⟨by omega⟩
 have hK0:KLt 0 s.length:=⟨by omega⟩
 have hb:=UInt8.toNat_lt (nthG s 0)
 refine sq S ?_;clear S;intro a S;refine gT' S ?_;(iterate 3 (refine sq S ?_;clear S;intro a S));(iterate 2 (refine gQ S ?_;clear S;intro a S))
 have hb0:=UInt8.toNat_lt (nthG s 0)
 refine gQ S ?_;clear S;intro a S
 rw[w64 _ (by omega) (by omega)]at S
 refine gQ S ?_;clear S;intro a S
 rw[w64 _ (by omega) (by omega)]at S
 refine gC S ?_;clear S;intro a w S;refine gQ S ?_;clear S;intro a S;refine sq S ?_;clear S;intro a S;refine kN (xtn ?_)
 refine kC S (fun h1=>?_) (fun h1=>?_)
 refine kS (kR (sq S ?_));clear S;intro a S;refine kN (xtn (kT (xtr ?_)))
 refine end1 S (fun _=>?_)
 rw[ownN,if_neg]
 rintro ⟨-,-,h4,h5⟩
 rw[h5]at h1;simp at h1;omega
 refine kK (xtn (kS (kR ?_)));(iterate 3 (refine sq S ?_;clear S;intro a S))
 rw[w64 _ (by omega) (by omega)]at S
 refine sq S ?_;clear S;intro a S
 rw[w64 _ (by omega) (by omega)]at S
 refine sq S ?_;clear S;intro a S;refine kN (xtn (kT ?_))
 refine end1 S (fun _=>?_)
 simp only[Bool.or_eq_false_iff,Bool.not_eq_false',decide_eq_true_eq]at h1
 rw[ownN,if_pos ⟨h3.1,h3.2,by omega,h1.2⟩]
instance {s:List UInt8} {bs fs} [h:LeC s.length 1000000]:CallV Tryz.prog 107 [str s] bs fs (.int .i64 (ownN s)):=⟨fun w _=>rnamed_c s h.le w⟩
theorem textD_err {k e:Int} {bs:List UInt8} (h:textD k bs=.error e):e≠0:=by
 unfold textD at h
 split at h
 split at h
 cases h;decide
 split at h
 cases h;decide
 split at h
 cases h;decide
 cases h
 cases h
theorem userD_err {k e:Int} {bs:List UInt8} (h:userD k bs=.error e):e≠0:=by
 unfold userD at h
 split at h
 split at h
 cases h;decide
 split at h
 cases h
 cases h;decide
 cases h
theorem numD_err {k e:Int} {bs:List UInt8} (h:numD k bs=.error e):e≠0:=by
 unfold numD at h
 split at h
 split at h
 cases h;decide
 cases h
 cases h
theorem kidsD_err {f:Nat→List UInt8→DecE (Term × Nat × List UInt8)} (hf:∀ l b e,f l b=.error e→e≠0):∀ (k l:Nat) (b:List UInt8) (e:Int),kidsD f k l b=.error e→e≠0
 | 0,l,b,e,h=>by rw[kidsD]at h;cases h
 | k+1,l,b,e,h=>by
  rw[kidsD]at h
  split at h
  rename_i e' he
  cases h;exact hf _ _ _ he
  split at h
  rename_i e' he
  cases h;exact kidsD_err hf _ _ _ _ he
  cases h
theorem decT_err:∀ (m left:Nat) (bs:List UInt8) (e:Int),decT m left bs=.error e→e≠0:=by
 intro m
 induction m with
 | zero=>
  intro left bs e h
  cases bs with
  | nil=>rw[decT_nil]at h;cases h;decide
  | cons c t=>rw[decT_cons,if_pos (.inl rfl)]at h;cases h;decide
 | succ m ih=>
  intro left bs e h
  cases bs with
  | nil=>rw[decT_nil]at h;cases h;decide
  | cons c t=>
   rw[decT_cons]at h
   split at h
   ·cases h;decide
   ·rw[show m+1 - 1=m from rfl,decB]at h
    split at h
    ·rename_i h1;cases h;exact textD_err h1
    ·split at h
     ·rename_i h1;cases h;exact userD_err h1
     ·split at h
      ·rename_i h1;cases h;exact numD_err h1
      ·split at h
       ·rename_i h1;cases h;exact kidsD_err ih _ _ _ _ h1
       ·cases h
theorem tcatch_ret (p2 p3 p4:Value) (w:World):CallsDIn (FW none) 0 Tryz.prog 168 #[p2,p3,p4] .returning w fun e u' w'=>(∃ v,e=.returned v)∧u'=.returning∧Agree (fun _=>False) w w':=by
 refine callsD_catch Tryz.func168 rfl (l:=[p2,p3,p4,undef,undef,undef,undef,undef,undef,undef,undef,undef,undef,undef,undef,undef,undef,undef,undef,undef]) (args:=[p2,p3,p4]) rfl (Wd.start w) (.inl rfl) ?_
 rintro x u' (⟨-,rfl,rfl⟩ | ⟨pv,h,-⟩) a S
 refine kS (kR ?_);(iterate 2 (refine sq S ?_;clear S;intro a S));refine kN (xtn ?_);refine c_condF S ?_;refine kK ?_
 exact ⟨.inl rfl,S.defers,.tuple #[],resC S,⟨_,rfl⟩,rfl,S.wd.agree⟩
 cases h
theorem tcatch_pan (g2 g3 g4:Nat) (x0 x1 x2 x3 x4 y z:Value) (e0:Int) (w0 w:World) (M0:Nat→Prop) (hw:Wd w0 M0 w [Wk.box g4 26 [z],Wk.box g3 3 [y],Wk.box g2 43 [x0,x1,x2,x3,x4]] []) :
  CallsDIn (FW none) 0 Tryz.prog 168 #[.pointer (some ⟨g2,0,none⟩),.pointer (some ⟨g3,0,none⟩),.pointer (some ⟨g4,0,none⟩)] (.panicking (pch (wrongE e0))) w fun e u' w'=>(∃ v,e=.returned v)∧u'=.panicking [{ v:=wrongE e0,recovered:=true }]∧
   Wd w0 M0 w' [Wk.box g4 26 [.int .i64 e0],Wk.box g3 3 [.int .i64 0],Wk.box g2 43 [.int .i64 0,.int .i64 0,.int .i64 0,.string ⟨#[]⟩,.slice none 0 0]] []:=by
 refine callsD_catch Tryz.func168 rfl (l:=[.pointer (some ⟨g2,0,none⟩),.pointer (some ⟨g3,0,none⟩),.pointer (some ⟨g4,0,none⟩),undef,undef,undef,undef,undef,undef,undef,undef,undef,undef,undef,undef,undef,undef,undef,undef,undef]) (args:=[.pointer (some ⟨g2,0,none⟩),.pointer (some ⟨g3,0,none⟩),.pointer (some ⟨g4,0,none⟩)]) rfl hw (.inr ⟨_,rfl⟩) ?_
 rintro x u' (⟨h,-⟩ | ⟨pv,h,rfl,rfl⟩) a S
 cases h
 obtain rfl:x=wrongE e0:=by injection h with h;injection h with h _;injection h with h;exact h.symm
 refine kS (kR ?_);(iterate 2 (refine sq S ?_;clear S;intro a S));refine kN (xtn ?_);refine c_condT S ?_;refine kS (kR ?_);(iterate 5 (refine sq S ?_;clear S;intro a S));refine sa S ?_;clear S;intro b4 a w S;refine sw S ?_;clear S;intro a w S;refine sq S ?_;clear S;intro a S;refine kN (xtn (kS (kS (kR ?_))));(iterate 2 (refine sq S ?_;clear S;intro a S))
 rw[show (!true)=false from rfl]at S
 refine kN (xtn ?_);refine c_condF S ?_;refine kK (xtn ?_);refine c_drawD [(0,true),(1,true),(2,true),(3,false),(4,false),(5,false)] [g2,g3,g4] S ?_;clear S;intro w S;(iterate 3 (refine dq S ?_;clear S;intro a S));refine dl (sw S ?_);clear S;intro a w S;refine de S ?_;refine dl (sw S ?_);clear S;intro a w S;refine de S ?_;refine dl (sw S ?_);clear S;intro a w S;refine de S ?_;refine dn ?_
 refine ⟨.inl rfl,S.defers,.tuple #[],resC S,⟨_,rfl⟩,rfl,?_⟩
 exact (S.sub _ _).wd
theorem leftG_c (b n c:Nat) (p:Option Addr) (why:Int) (w0:World) (hb:Stable (fun _=>False) w0 (BoxF b 238 [.slice p n c,.int .i64 why])):Ret Tryz.prog 72 [.pointer (some ⟨b,0,none⟩)] w0 (fun _=>False) fun v _=>v=.int .i64 (n:Nat):=by
 refine enter Tryz.func72 rfl rfl (Wd.begin (fs:=[BoxF b 238 [.slice p n c,.int .i64 why]]) (by simpa using hb)) (fun a S=>?_)
 simp only[Tryz.ntmps72,qqA,qqB,Nat.reduceAdd,Nat.reduceSub,qqC,qqD,qqE,qqF]at S
 refine kS (kR (sq S ?_));clear S;intro a S;refine kN (xtn (kS (kS (kR ?_))));(iterate 2 (refine sq S ?_;clear S;intro a S));refine kN (xtn ?_);refine c_condF S ?_;refine kK (xtn (kS (kR ?_)));(iterate 7 (refine sq S ?_;clear S;intro a S));refine kN (xtn ?_);refine kT ?_
 exact end1 S (fun _=>rfl)
instance {b n c:Nat} {p:Option Addr} {why:Int} {bs fs} [hb:HasBox bs b 238 [.slice p n c,.int .i64 why]]:CallV Tryz.prog 72 [.pointer (some ⟨b,0,none⟩)] bs fs (.int .i64 (n:Nat)):=⟨fun w m=>leftG_c b n c p why w (BoxF.stable m.box (fun h=>h))⟩
abbrev ptrT (b:Nat):Value:=.pointer (some ⟨b,0,none⟩)
abbrev defT (b2 b3 b4:Nat):Deferred:={ target:=.fn (.func 168) ⟨[ptrT b2,ptrT b3,ptrT b4]⟩,args:=#[] }
abbrev zTm:List Value:=[.int .i64 0,.int .i64 0,.int .i64 0,.string ⟨#[]⟩,.slice none 0 0]
theorem tdec_pan {a:Act} {w0 w:World} {M0:Nat→Prop} {Rr:Ending→World→Prop} (b2 b3 b4:Nat) (x0 x1 x2 x3 x4 y z:Value) (e0:Int) (hd:a.defers=[defT b2 b3 b4]) (h2:a.tmps[2]? = some (ptrT b2)) (h3:a.tmps[3]? = some (ptrT b3)) (h4:a.tmps[4]? = some (ptrT b4))
  (hw:Wd w0 M0 w [Wk.box b4 26 [z],Wk.box b3 3 [y],Wk.box b2 43 [x0,x1,x2,x3,x4]] [])
  (hR:∀ w',Agree M0 w0 w'→Rr (.returned (.tuple ⟨[vL zeroL,.int .i64 0,.int .i64 e0]⟩)) w'):bodyPostDIn (FW none) 0 Tryz.prog Tryz.f70 Rr (.panic (pch (wrongE e0))) a w:=by
 refine leavePan (ca:=[ptrT b2,ptrT b3,ptrT b4]) hd (tcatch_pan b2 b3 b4 x0 x1 x2 x3 x4 y z e0 w0 w M0 hw) fun w' hK=>⟨_,?_,hR w' hK.agree⟩
 have n2:Nth a.tmps.toList 2 (ptrT b2):=⟨by simpa using h2⟩
 have n3:Nth a.tmps.toList 3 (ptrT b3):=⟨by simpa using h3⟩
 have n4:Nth a.tmps.toList 4 (ptrT b4):=⟨by simpa using h4⟩
 exact res3 (l:=a.tmps.toList) rfl hK.held
def TDecR (M:Nat→Prop) (bs:List UInt8) (v:Value) (w:World):Prop:=∃ (z:LTerm) (n e:Int),v=.tuple ⟨[vL z,.int .i64 n,.int .i64 e]⟩∧Stable M w (LtF z)∧
 ((∃ left rest,decT 60 1200 bs=.ok (z.t,left,rest)∧n=(bs.length:Int) - rest.length∧e=0)∨(decT 60 1200 bs=.error e∧z=zeroL∧e≠0))
theorem tdec_c (bs:List UInt8) (p:Option Addr) (n c:Nat) (M:Nat→Prop) (w0:World) (hn:bs.length=n) (hl:n≤10000000) (hM:∀ k,M k→k < w0.heap.size) (hf:Stable M w0 (GlF p bs)) :
  Ret Tryz.prog 70 [.slice p n c] w0 (fun _=>False) fun v w'=>TDecR M bs v w':=by
 subst hn
 refine enterD Tryz.func70 rfl rfl (Wd.beginM (M:=M) (fs:=[GlF p bs]) hM (by simpa using hf)) (fun a S=>?_)
 simp only[Tryz.ntmps70,qqA,qqB,Nat.reduceAdd,Nat.reduceSub,qqC,qqD,qqE,qqF]at S
 refine kS (kR ?_);refine sa S ?_;clear S;intro b2 a w S;refine sa S ?_;clear S;intro b3 a w S;refine sa S ?_;clear S;intro b4 a w S;refine kN (xtn (kS (kR (sq S ?_))));clear S;intro a S
 refine snew S (readR_c bs p bs.length c _ rfl hl (S.gl0 p)) ?_;clear S;rintro _ a w - ⟨rd,p1,c1,rfl,hh,hnw⟩ hS -
 have S:=hS (both (rdI rd ⟨p1,c1,bs,0⟩) (Wk.row 5 1 p1 bs.length c1 (encL bs))) hh hnw
 clear hS
 replace S:=S.ofBoth
 have hc1:=own_le (S.row p1 bs.length)
 replace S:=(S.front (Wk.row 5 1 p1 bs.length c1 (encL bs))).rowToGl p1 bs (e:=5) (sz:=1) (n:=bs.length) (c:=c1) (fun _ _ _ _=>trivial)
 refine sq S ?_;clear S;intro a S;refine sa S ?_;clear S;intro b9 a w S;refine sq S ?_;clear S;intro a S;refine kN (xtn (kS (kR (sq S ?_))));clear S;intro a S;refine sdef S ?_;clear S;intro a S;refine kN (xtn (kS (kR (sq S ?_))));clear S;intro a S
 replace S:=((S.front (rdI rd ⟨p1,c1,bs,0⟩)).front (tmI b9 rd 1200)).toBoth
 refine sitMP (rtI b9 rd ((1200:Nat):Int) ⟨p1,c1,bs,0⟩) S (rterm_c0 61 60 b9 rd 1200 ⟨p1,c1,bs,0⟩ (restOf _ (rtI b9 rd ((1200:Nat):Int) ⟨p1,c1,bs,0⟩)) w (by decide) (by decide) (by decide) rfl hc1 hl (S.restOk _) (S.it (rtI b9 rd ((1200:Nat):Int) ⟨p1,c1,bs,0⟩)) ((S.mem.fact (GlF p1 bs)).split (rtI b9 rd ((1200:Nat):Int) ⟨p1,c1,bs,0⟩))) rfl (fun ch w' hx hS=>?_) ?_
 ·obtain ⟨e,rfl,he⟩:=hx
  have S:=hS (bs':=_)
  refine tdec_pan b2 b3 b4 _ _ _ _ _ _ _ e S.defers (by rw[S.slots];rfl) (by rw[S.slots];rfl) (by rw[S.slots];rfl) (S.sub [Wk.box b4 26 [.int .i64 0],Wk.box b3 3 [.int .i64 0],Wk.box b2 43 zTm] []).wd (fun w' ha=>⟨_,rfl,ha,zeroL,0,e,rfl,fun _ _=>zeroL_in _,.inr ⟨he,rfl,decT_err _ _ _ _ he⟩⟩)
 clear S;rintro _ a w ⟨z,lf,r6,rfl,hde,-,hw6,hsub6,hh6,hz⟩ hS
 have S:=hS (rtI b9 rd (lf:Nat) r6) [LtF z] hh6 (fun k h=>.inl h) (by simp only[List.mem_cons,List.not_mem_nil,or_false];rintro Φ rfl;exact hz)
 clear hS
 replace S:=S.ofBoth
 refine sw S ?_;clear S;intro a w S;refine kN (xtn (kS ?_))
 refine' c_drawT0 (.q 1 (.q 2 (.q 3 (.q 4 (.q 5 (.q 6 (.b2 0 7 (.l 7 (.q 8 (.l 9 (.l 10 (.l 11 (.e)))))) (.q 8 (.l 0 (.l 9 (.l 10 (.l 11 (.e))))))))))))) [b2,b3,b4] S ?_ ?_
 rotate_left 3
 ·intro w S
  (iterate 6 (refine tq S ?_;clear S;intro a S))
  refine tb2 ?_ ?_
  ·refine sq S ?_;clear S;intro a S;refine te S ?_;refine tl (sc S ?_);clear S;intro a w S;refine te S ?_;refine tq S ?_;clear S;intro a S
   rw[w64 ((bs.length:Int) - (r6.bs.length:Int)) (by have:=hsub6.len;have:r6.bs.length≤bs.length:=this;omega) (by omega)]at S
   refine tl (sw S ?_);clear S;intro a w S;refine te S ?_;refine tl (sw S ?_);clear S;intro a w S;refine te S ?_;refine tl (sw S ?_);clear S;intro a w S;refine te S ?_;refine tn ?_
   exact S
  ·refine sc S ?_;clear S;intro a w S;refine te S ?_;refine tq S ?_;clear S;intro a S
   rw[w64 ((bs.length:Int) - (r6.bs.length:Int)) (by have:=hsub6.len;have:r6.bs.length≤bs.length:=this;omega) (by omega)]at S
   refine tl (sq S ?_);clear S;intro a S;refine te S ?_;refine tl (sw S ?_);clear S;intro a w S;refine te S ?_;refine tl (sw S ?_);clear S;intro a w S;refine te S ?_;refine tl (sw S ?_);clear S;intro a w S;refine te S ?_;refine tn ?_
   exact S
 intro  a w S
 refine xtn (kT ?_)
 have hlat:=S.laterT (M:=M) z
 refine leaveRet S.defers (tcatch_ret _ _ _ w) (fun w' hw'=>⟨_,res3 S.slots (S.wd.step hw').held,_,rfl,(S.wd.step hw').agree,z,(bs.length:Int) - (r6.bs.length:Int),0,rfl,?_,.inl ⟨lf,r6.bs,hde,rfl,rfl⟩⟩)
 exact hlat.later (hw'.mono fun _ _ h=>h.elim)
class NamesOk (xs:List LRow):Prop where
 all:∀ x∈xs,x.name.length≤9223372036854775807
theorem up_turnV {t:Int} (h0:0≤t) (h1:t+1≤4294967295):upT t=t+1:=by rw[upT,wu32 _ (by omega) (by omega)]
theorem roomC_lv {V:LV} {n:Nat} {t:Int} {said:List (List UInt8)} (h:LvOk V n t said) (ht:t+1≤4294967295) (bs:List UInt8):roomC V.x bs=if 40000 < bs.length then 3 else if n < secN bs.length then 6 else 0:=by
 obtain ⟨q1,q2,q3,q4,q5,q6⟩:=h
 obtain ⟨s,n',turn,said',fin,broken⟩:=V
 simp only at q1 q2 q3 q4 q5 q6
 subst q1 q2 q3 q4 q5
 obtain ⟨s',hs,tail,hL,-⟩:=q6
 have hup:=up_turnV hL.ht.1 ht
 have ht0:=hL.ht.1
 by_cases hb:40000 < bs.length
 have e1:refF (LV.x ⟨s,n',turn,said',endF turn said',false⟩) bs=3:=by rw[refF,if_pos hb]
 rw[if_pos hb,roomC,if_neg (by rw[e1];decide),e1]
 have e1:refF (LV.x ⟨s,n',turn,said',endF turn said',false⟩) bs=0:=by rw[refF,if_neg hb];rfl
 rw[if_neg hb,roomC,if_pos e1]
 show (if n' < secN bs.length∨upT turn=0 then (6:Int) else 0)=_
 by_cases h6:n' < secN bs.length
 rw[if_pos (.inl h6),if_pos h6]
 rw[if_neg (by rintro (h | h);exact h6 h;omega),if_neg h6]
theorem chk_off {V:LV} {n:Nat} {t:Int} {said:List (List UInt8)} (h:LvOff V n t said) (ht:t+1≤4294967295) (bs:List UInt8) (hb:bs.length≤40000) (hr:secN bs.length≤n) :
  (chkV V bs).2=0∧LvOff (chkV V bs).1 n (t+1) [bs]:=by
 have hroom:=roomC_lv h.ok ht bs
 rw[if_neg (by omega),if_neg (by omega)]at hroom
 obtain ⟨⟨q1,q2,q3,q4,q5,q6⟩,hl,ho⟩:=h
 obtain ⟨s,n',turn,said',fin,broken⟩:=V
 simp only at q1 q2 q3 q4 q5 q6 hl ho hroom
 subst q1 q2 q3 q4 q5
 obtain ⟨s',hsim,tail,hL,hfr⟩:=id q6
 have hup:=up_turnV hL.ht.1 ht
 obtain ⟨a1,a2,a3⟩:=(chk_live hl bs hb hr ht).resolve_right (fun h=>by rw[ho]at h;cases h.1)
 unfold chkV
 rw[if_neg (fun h=>h hroom)]
 show ((if (begF n' (upT turn) _ s).2=0 then _ else _):LV × Int).2=0∧_
 rw[hup,if_pos a1]
 refine ⟨rfl,⟨⟨rfl,rfl,rfl,?_,rfl,a2.liveF (fun h=>by rw[a3 ho]at h;cases h)⟩,a2,a3 ho⟩⟩
 show secN bs.length=_
 rw[endF_sum];simp
structure Went (V:LV × Int) (n:Nat) (t t':Int) (said said':List (List UInt8)):Prop where
 yes:V.2=0→LvOk V.1 n t' said'
 no:V.2≠0→V.1.broken=true∧∀ keep,Able (crashD keep V.1.s) n t said∨Able (crashD keep V.1.s) n t' said'
end Go.Proofs.YtdakncgafdnjfaaGreat