/- 4: a part of this claim's texts, joined: TermJ TermK TermL W14 W15 ConvB GuardR ScrA ScrB ScrC ScrD ScrE ScrF ScrG ScrH. -/
import Derived.Test.YtlgnhhebeandkaaGreatDoorPk3
import Derived.Lib.ConvBytes
import Derived.Lib.Builder
import Derived.Lib.UnsafeStr
namespace Go.Proofs.YtlgnhhebeandkaaGreatDoor
open Go Go.Wk
set_option synthInstance.maxSize 100000
set_option synthInstance.maxHeartbeats 400000
set_option maxRecDepth 100000
theorem own_capT {w:World}{e:TypeId}{sz:Nat}{p:Option Addr}{n c:Nat}{xs:List Value}(h:w.ownsRow 0 e sz (.slice p n c) n xs):c≤maxLen:=by
 rcases h.2 with ⟨hv,h0⟩ | ⟨g,cap,cur,hv,hb,hg,hnc,hcm,hcs,ht⟩
 cases hv;exact Nat.zero_le _;cases hv;exact hcm
def DecR (Mr:Nat→Prop)(h rd m left:Nat)(r:RS)(v:Value)(w:World):Prop:=∃ (z:LTerm) (left':Nat) (r':RS),v=vL z∧decT m left r.bs=.ok (z.t,left',r'.bs)∧left'≤left∧r'.why=0∧SubR r r'∧
 (rtI h rd (left':Nat) r').holds w∧Stable (fun k=>(rtI h rd (left':Nat) r').foot k∨Mr k) w (LtF z)
def DecX (m left:Nat)(r:RS)(ch:List PanicEntry):Prop:=∃ e,ch=pch (wrongE e)∧decT m left r.bs=.error e
theorem rterm_c0 (N:Nat):∀ (m h rd left:Nat) (r:RS) (Mr:Nat→Prop) (w0:World),m < N→m≤60→left≤1200→r.why=0→r.bs.length≤r.c→r.bs.length≤10000000→(∀ k,Mr k→k < w0.heap.size∧¬(rtI h rd (left:Nat) r).foot k)→(rtI h rd (left:Nat) r).holds w0→Stable (fun k=>(rtI h rd (left:Nat) r).foot k∨Mr k) w0 (GlF r.p r.bs)→
  RetP Tryz.prog 226 [.pointer (some ⟨h,0,none⟩),.int .i64 (61 - (m:Nat):Int)] w0 (rtI h rd (left:Nat) r).foot (fun v w'=>DecR Mr h rd m left r v w') (fun ch _=>DecX m left r ch):=by
 induction N with
 | zero=>intro m _ _ _ _ _ _ h;exact absurd h (Nat.not_lt_zero _)
 | succ N ih=>
 intro m h rd left r Mr w0 hmN hm hleft hw hc hl hMr hd hf;refine E1 Tryz.func226 rfl Tryz.ntmps226 (Wd.it2LentM (x:=tmI h rd (left:Nat)) (y:=rdI rd r) (Mr:=Mr) (fs:=[GlF r.p r.bs]) hd rfl rfl hMr (by simpa using hf)) ?_;intro a S;refine kS (kR ?_);refine sa S ?_;intro b4 a w S;refine J8 ?_;intro a S;refine sit (rdI rd r) S (u8R_c rd r _ hc hl (S.it (rdI rd r)) (S.lend (rdI rd r) (S.mem.fact (GlF r.p r.bs)))) rfl ?_;rintro _ a w ⟨rfl,hh⟩ hS;have S:=hS (rdI rd (takeR r 1)) hh (fun k h=>.inl h);clear hS;obtain ⟨kd,hkd⟩:∃ kd,kd=numN (tookR r 1) 0:=⟨_,rfl⟩;rw[←hkd]at S;have hkl:kd < 256:=by rw[hkd];exact (took_num r 1 (by decide)).2
 refine J1 ?_;intro a S;rw[w6 (kd:Int)]at S;refine J1 ?_;intro a S;refine sa S ?_;intro b5 a w S;refine Y18 ?_;intro a w S;rw[w6 ((left:Int) - 1)]at S;replace S:=S.add (Φ:=GlF (takeR r 1).p (takeR r 1).bs) (takeR_gl hc (S.mem.fact (GlF r.p r.bs)));have hsub1:SubR r (takeR r 1):=SubR.take r 1;refine Y20 ?_;intro a w S;refine J1 ?_;intro a S;refine srP S (needR_c h rd ((left:Int) - 1) (takeR r 1) _ w (BoxF.stable (S.box h) (fun h=>h)) (BoxF.stable (S.box rd) (fun h=>h))) (fun ch w' hx S=>?_) ?_
 ·repeat (first | refine xtp ?_ | refine xbp ?_)
  refine endX S ?_;obtain ⟨e,rfl,(⟨h1,rfl⟩ | ⟨h1,h2,rfl⟩)⟩:=hx
  ·exact ⟨7,rfl,by rw[take1_bad hw h1,decT_nil]⟩
  ·obtain ⟨c,t,hbs,hnum,hr1⟩:=take1_ok hw h1
   refine ⟨150,rfl,?_⟩;rw[hbs,decT_cons,if_pos];rw[hkd,hnum]at h2;simp only[Bool.and_eq_false_iff,Bool.not_eq_false',decide_eq_true_eq,decide_eq_false_iff_not]at h2;omega
 clear S;rintro _ a w ⟨hw1,hb⟩ S;obtain ⟨c,t,hbs,hnum,hr1⟩:=take1_ok hw hw1;rw[←hkd]at hnum;simp only[Bool.and_eq_true,Bool.not_eq_true',decide_eq_true_eq,decide_eq_false_iff_not]at hb;have hdec:decT m left r.bs=decB (decT (m - 1)) left (kd:Int) t:=by
  rw[hbs,decT_cons,if_neg (by rw[←hnum];omega),←hnum]
 obtain ⟨r1,hr1e⟩:∃ r1,r1=takeR r 1:=⟨_,rfl⟩;rw[←hr1e]at S hw1 hr1 hsub1;have hc1:=hsub1.cap hc;have hl1:=hsub1.len;refine kN (xtn ?_);refine c_mrge2 S (fun(r2:RS) (s:List UInt8) uu=>[(7,uu 7),(32,uu 40),(0,uu 41),(0,uu 42),(0,uu 43),(0,uu 44),(0,uu 45),(0,uu 46),(0,uu 47),(0,uu 48),(0,uu 49),(0,uu 50),(0,uu 51),(0,uu 52),(0,uu 53),(0,uu 54),(0,uu 55),(0,uu 56),(0,uu 57),(0,uu 58),(0,uu 59),(0,uu 60),(0,uu 61)]) (fun(r2:RS) (s:List UInt8)=>[Wk.box b5 42 [.int .i64 kd,.int .i64 0,.int .i64 0,str s,.slice none 0 0],tmI h rd ((left:Int) - 1),rdI rd r2,Wk.box b4 42 [.int .i64 0,.int .i64 0,.int .i64 0,.string ⟨#[]⟩,.slice none 0 0],ext Mr]) (fun(r2:RS) (s:List UInt8)=>[GlF r2.p r2.bs]) (fun(r2:RS) (s:List UInt8)=>textD (kd:Int) t=.ok (s,r2.bs)∧r2.why=0∧SubR r1 r2) ?_ ?_
 ·refine Y6 ?_;intro a w S
  refine kC S (fun h5=>?_) (fun h5=>?_)
  ·refine J6 ?_;intro a S
   refine sit (rdI rd r1) S (u8R_c rd r1 _ hc1 (by omega) (S.it (rdI rd r1)) (S.lend (rdI rd r1) (S.mem.fact (GlF r1.p r1.bs)))) rfl ?_;rintro _ a w ⟨rfl,hh⟩ hS;have S:=hS (rdI rd (takeR r1 1)) hh (fun k h=>.inl h);clear hS;obtain ⟨nn,hnn⟩:∃ nn,nn=numN (tookR r1 1) 0:=⟨_,rfl⟩;rw[←hnn]at S;have hnl:nn < 256:=by rw[hnn];exact (took_num r1 1 (by decide)).2
   replace S:=S.add (Φ:=GlF (takeR r1 1).p (takeR r1 1).bs) (takeR_gl hc1 (S.mem.fact (GlF r1.p r1.bs)));refine J1 ?_;intro a S;rw[w6 (nn:Int)]at S;refine J8 ?_;intro a S;refine srP S (needR_c h rd ((left:Int) - 1) (takeR r1 1) _ w (BoxF.stable (S.box h) (fun h=>h)) (BoxF.stable (S.box rd) (fun h=>h))) (fun ch w' hx S=>?_) ?_
   ·repeat (first | refine xtp ?_ | refine xbp ?_)
    refine endX S ?_;obtain ⟨e,rfl,(⟨h1,rfl⟩ | ⟨h1,h2,rfl⟩)⟩:=hx
    ·refine ⟨7,rfl,?_⟩
     rw[hdec,←hr1,take1_bad hw1 h1];exact decB_text (textD_nil h5)
    ·obtain ⟨c2,t2,hb2,hn2,-⟩:=take1_ok hw1 h1
     refine ⟨150,rfl,?_⟩;rw[hdec,←hr1,hb2];refine decB_text (textD_long h5 ?_);have:=of_decide_eq_false h2;omega
   clear S;rintro _ a w ⟨hw1b,hb1⟩ S;obtain ⟨c2,t2,hb2,hn2,hr2⟩:=take1_ok hw1 hw1b;rw[←hnn]at hn2;have hb1:=of_decide_eq_true hb1;obtain ⟨r1b,hr1b⟩:∃ r1b,r1b=takeR r1 1:=⟨_,rfl⟩;have hsub1b:SubR r1 r1b:=hr1b▸SubR.take r1 1;rw[←hr1b]at S hw1b hr2;have hc1b:=hsub1b.cap hc1;have hl1b:=hsub1b.len;refine J9 ?_;intro a S;refine sit (rdI rd r1b) S (rawR_c rd r1b nn _ (by omega) hc1b (by omega) (S.it (rdI rd r1b)) (S.lend (rdI rd r1b) (S.mem.fact (GlF r1b.p r1b.bs)))) rfl ?_;rintro _ a w ⟨p8,c8,rfl,hh,hf8⟩ hS;have S:=hS (both (Wk.row 5 1 p8 (tookR r1b nn).length c8 (encL (tookR r1b nn))) (rdI rd (takeR r1b nn))) hh hf8;clear hS;replace S:=S.front (both (Wk.row 5 1 p8 (tookR r1b nn).length c8 (encL (tookR r1b nn))) (rdI rd (takeR r1b nn)));replace S:=S.ofBoth;replace S:=S.add (Φ:=GlF (takeR r1b nn).p (takeR r1b nn).bs) (takeR_gl hc1b (S.mem.fact (GlF r1b.p r1b.bs)));refine Y7 ?_;intro a w S;refine srP S (needR_c h rd ((left:Int) - 1) (takeR r1b nn) _ w (BoxF.stable (S.box h) (fun h=>h)) (BoxF.stable (S.box rd) (fun h=>h))) (fun ch w' hx S=>?_) ?_
   ·repeat (first | refine xtp ?_ | refine xbp ?_)
    refine endX S ?_;obtain ⟨e,rfl,(⟨h1,rfl⟩ | ⟨h1,h2,rfl⟩)⟩:=hx
    ·refine ⟨7,rfl,?_⟩
     have hsh:=take_bad hw1b h1;rw[hdec,←hr1,hb2];refine decB_text (textD_short h5 (by omega) ?_);rw[←hr2,←hn2];exact hsh
    ·cases h2
   clear S;rintro _ a w ⟨hw1c,-⟩ S;obtain ⟨q1,q2,q3⟩:=take_ok hw1b hw1c;refine kN (xtn ?_);replace S:=((((S.front (ext Mr)).front (Wk.box b4 42 [.int .i64 0,.int .i64 0,.int .i64 0,.string ⟨#[]⟩,.slice none 0 0])).front (rdI rd (takeR r1b nn))).front (tmI h rd ((left:Int) - 1))).front (Wk.box b5 42 [.int .i64 kd,.int .i64 0,.int .i64 0,str (tookR r1b nn),.slice none 0 0]);refine ⟨takeR r1b nn,tookR r1b nn,S.uu,⟨?_,hw1c,hsub1b.trans (SubR.take r1b nn)⟩,S.sub _ _⟩;rw[←hr1,hb2,textD_ok h5 (by omega) (by rw[←hr2,←hn2];omega),q2,q3,←hr2,←hn2]
  ·refine kK (xtn ?_)
   rw[show (Value.string ⟨#[]⟩)=str [] from rfl]at S;replace S:=((((S.front (ext Mr)).front (Wk.box b4 42 [.int .i64 0,.int .i64 0,.int .i64 0,str [],.slice none 0 0])).front (rdI rd r1)).front (tmI h rd ((left:Int) - 1))).front (Wk.box b5 42 [.int .i64 kd,.int .i64 0,.int .i64 0,str [],.slice none 0 0]);exact ⟨r1,[],S.uu,⟨by rw[←hr1];exact textD_none h5,hw1,SubR.refl r1⟩,S.sub _ _⟩
 ·clear S;rintro r2 s uu a w ⟨htx,hw2,hsub2⟩ S
  have hc2:=hsub2.cap hc1;have hl2:=hsub2.len;refine c_mrge2 S (fun(r3:RS) (u:Int) uu=>[(62,uu 62),(0,uu 63),(0,uu 64),(0,uu 65),(0,uu 66),(0,uu 67),(0,uu 68),(0,uu 69),(0,uu 70),(0,uu 71),(0,uu 72),(0,uu 73),(0,uu 74),(0,uu 75)]) (fun(r3:RS) (u:Int)=>[Wk.box b5 42 [.int .i64 kd,.int .i64 u,.int .i64 0,str s,.slice none 0 0],tmI h rd ((left:Int) - 1),rdI rd r3,Wk.box b4 42 [.int .i64 0,.int .i64 0,.int .i64 0,.string ⟨#[]⟩,.slice none 0 0],ext Mr]) (fun(r3:RS) (u:Int)=>[GlF r3.p r3.bs]) (fun(r3:RS) (u:Int)=>userD (kd:Int) r2.bs=.ok (u,r3.bs)∧r3.why=0∧SubR r2 r3) ?_ ?_
  ·refine Y6 ?_;intro a w S
   refine kC S (fun h10=>?_) (fun h10=>?_)
   ·refine J6 ?_;intro a S
    refine sit (rdI rd r2) S (u8R_c rd r2 _ hc2 (by omega) (S.it (rdI rd r2)) (S.lend (rdI rd r2) (S.mem.fact (GlF r2.p r2.bs)))) rfl ?_;rintro _ a w ⟨rfl,hh⟩ hS;have S:=hS (rdI rd (takeR r2 1)) hh (fun k h=>.inl h);clear hS;obtain ⟨uu',huu⟩:∃ uu',uu'=numN (tookR r2 1) 0:=⟨_,rfl⟩;rw[←huu]at S;have hul:uu' < 256:=by rw[huu];exact (took_num r2 1 (by decide)).2
    replace S:=S.add (Φ:=GlF (takeR r2 1).p (takeR r2 1).bs) (takeR_gl hc2 (S.mem.fact (GlF r2.p r2.bs)));refine J1 ?_;intro a S;rw[w6 (uu':Int)]at S;refine Y9 ?_;intro a w S;refine srP S (needR_c h rd ((left:Int) - 1) (takeR r2 1) _ w (BoxF.stable (S.box h) (fun h=>h)) (BoxF.stable (S.box rd) (fun h=>h))) (fun ch w' hx S=>?_) ?_
    ·repeat (first | refine xtp ?_ | refine xbp ?_)
     refine endX S ?_;obtain ⟨e,rfl,(⟨h1,rfl⟩ | ⟨h1,h2,rfl⟩)⟩:=hx
     ·refine ⟨7,rfl,?_⟩
      rw[hdec];refine decB_user htx ?_;rw[take1_bad hw2 h1];exact userD_nil h10
     ·obtain ⟨c3,t3,hb3,hn3,-⟩:=take1_ok hw2 h1
      refine ⟨150,rfl,?_⟩;rw[hdec];refine decB_user htx ?_;rw[hb3];refine userD_bad h10 ?_;simp only[knownF,Bool.and_eq_false_iff,decide_eq_false_iff_not]at h2;omega
    clear S;rintro _ a w ⟨hw2b,hb3⟩ S;obtain ⟨c3,t3,hbb3,hn3,hr3⟩:=take1_ok hw2 hw2b;rw[←huu]at hn3;simp only[knownF,Bool.and_eq_true,decide_eq_true_eq]at hb3;refine kN (xtn ?_);replace S:=((((S.front (ext Mr)).front (Wk.box b4 42 [.int .i64 0,.int .i64 0,.int .i64 0,.string ⟨#[]⟩,.slice none 0 0])).front (rdI rd (takeR r2 1))).front (tmI h rd ((left:Int) - 1))).front (Wk.box b5 42 [.int .i64 kd,.int .i64 (uu':Int),.int .i64 0,str s,.slice none 0 0]);refine ⟨takeR r2 1,(uu':Int),S.uu,⟨?_,hw2b,SubR.take r2 1⟩,S.sub _ _⟩;rw[hbb3,userD_ok h10 (by omega),hr3,hn3]
   ·refine kK (xtn ?_)
    exact ⟨r2,0,S.uu,⟨userD_none h10,hw2,SubR.refl r2⟩,S.sub _ _⟩
  ·clear S;rintro r3 u uu a w ⟨hus,hw3,hsub3⟩ S
   have hc3:=hsub3.cap hc2;have hl3:=hsub3.len;refine c_mrge2 S (fun(r4:RS) (n:Int) uu=>[(76,uu 76),(0,uu 77),(0,uu 78),(0,uu 79),(0,uu 80),(0,uu 81),(0,uu 82),(0,uu 83),(0,uu 84),(0,uu 85),(0,uu 86)]) (fun(r4:RS) (n:Int)=>[Wk.box b5 42 [.int .i64 kd,.int .i64 u,.int .i64 n,str s,.slice none 0 0],tmI h rd ((left:Int) - 1),rdI rd r4,Wk.box b4 42 [.int .i64 0,.int .i64 0,.int .i64 0,.string ⟨#[]⟩,.slice none 0 0],ext Mr]) (fun(r4:RS) (n:Int)=>[GlF r4.p r4.bs]) (fun(r4:RS) (n:Int)=>numD (kd:Int) r3.bs=.ok (n,r4.bs)∧r4.why=0∧SubR r3 r4) ?_ ?_
   ·refine Y6 ?_;intro a w S
    refine kC S (fun h13=>?_) (fun h13=>?_)
    ·refine J6 ?_;intro a S
     refine sit (rdI rd r3) S (u16R_c rd r3 _ hc3 (by omega) (S.it (rdI rd r3)) (S.lend (rdI rd r3) (S.mem.fact (GlF r3.p r3.bs)))) rfl ?_;rintro _ a w ⟨rfl,hh⟩ hS;have S:=hS (rdI rd (takeR r3 2)) hh (fun k h=>.inl h);clear hS;obtain ⟨n2,hn2⟩:∃ n2,n2=numN (tookR r3 2) 0:=⟨_,rfl⟩;rw[←hn2]at S;have hn2l:n2 < 65536:=by rw[hn2];exact (took_num r3 2 (by decide)).2
     replace S:=S.add (Φ:=GlF (takeR r3 2).p (takeR r3 2).bs) (takeR_gl hc3 (S.mem.fact (GlF r3.p r3.bs)));refine J1 ?_;intro a S;rw[w6 (n2:Int)]at S;refine Y6 ?_;intro a w S;refine srP S (needR_c h rd ((left:Int) - 1) (takeR r3 2) _ w (BoxF.stable (S.box h) (fun h=>h)) (BoxF.stable (S.box rd) (fun h=>h))) (fun ch w' hx S=>?_) ?_
     ·repeat (first | refine xtp ?_ | refine xbp ?_)
      refine endX S ?_;obtain ⟨e,rfl,(⟨h1,rfl⟩ | ⟨h1,h2,rfl⟩)⟩:=hx
      ·refine ⟨7,rfl,?_⟩
       rw[hdec];refine decB_num htx hus ?_;exact numD_bad h13 (take_bad hw3 h1)
      ·cases h2
     clear S;rintro _ a w ⟨hw3b,-⟩ S;obtain ⟨q1,q2,q3⟩:=take_ok hw3 hw3b;refine kN (xtn ?_);replace S:=((((S.front (ext Mr)).front (Wk.box b4 42 [.int .i64 0,.int .i64 0,.int .i64 0,.string ⟨#[]⟩,.slice none 0 0])).front (rdI rd (takeR r3 2))).front (tmI h rd ((left:Int) - 1))).front (Wk.box b5 42 [.int .i64 kd,.int .i64 u,.int .i64 (n2:Int),str s,.slice none 0 0]);refine ⟨takeR r3 2,(n2:Int),S.uu,⟨?_,hw3b,SubR.take r3 2⟩,S.sub _ _⟩;rw[numD_ok h13 (by omega),q3,hn2,q2]
    ·refine kK (xtn ?_)
     exact ⟨r3,0,S.uu,⟨numD_none h13,hw3,SubR.refl r3⟩,S.sub _ _⟩
   ·clear S;rintro r4 n uu a w ⟨hnu,hw4,hsub4⟩ S
    refine J4 ?_;intro a S;have hc4:=hsub4.cap hc3;have hl4:=hsub4.len;obtain ⟨hkn,hkn2⟩:=kidsN_int (kd:Int);refine sr S (kids_c (fieldsOf (kd:Int)) _) ?_;rintro _ a w rfl S;rw[hkn,show (left:Int) - 1=((left - 1:Nat):Int) from by omega]at S;refine J4 ?_;intro a S;refine c_fore6 S (fun(k:Nat) (zs:List LTerm) (r5:RS) (lf:Nat) (p5:Option Addr) (c5:Nat) uu=>[(89,.int .i64 (k:Nat)),(0,uu 90),(0,uu 91),(0,uu 92),(0,uu 93),(0,uu 94),(0,uu 95),(0,uu 96),(0,uu 97),(0,uu 98),(0,uu 99),(0,uu 100)]) (fun(k:Nat) (zs:List LTerm) (r5:RS) (lf:Nat) (p5:Option Addr) (c5:Nat)=>[Wk.box b5 42 [.int .i64 kd,.int .i64 u,.int .i64 n,str s,.slice p5 k c5],Wk.row 42 5 p5 k c5 (encL zs),tmI h rd (lf:Nat),rdI rd r5,Wk.box b4 42 [.int .i64 0,.int .i64 0,.int .i64 0,.string ⟨#[]⟩,.slice none 0 0],ext Mr]) (fun(k:Nat) (zs:List LTerm) (r5:RS) (lf:Nat) (p5:Option Addr) (c5:Nat)=>[AllL zs,GlF r5.p r5.bs]) (fun(k:Nat) (zs:List LTerm) (r5:RS) (lf:Nat) (p5:Option Addr) (c5:Nat)=>k=zs.length∧k≤kidsN (kd:Int)∧lf≤left - 1∧r5.why=0∧SubR r4 r5∧kidsD (decT (m - 1)) (kidsN (kd:Int)) (left - 1) r4.bs=preD (zs.map LTerm.t) (kidsD (decT (m - 1)) (kidsN (kd:Int) - k) lf r5.bs)) (fun(k:Nat) (zs:List LTerm) (r5:RS) (lf:Nat) (p5:Option Addr) (c5:Nat)=>kidsN (kd:Int) - k) (0) ([]) (r4) (left - 1) (none) (0) ?_ S.uu ?_ ?_
    ·exact ⟨rfl,Nat.zero_le _,Nat.le_refl _,hw4,SubR.refl r4,(preD_nil _).symm⟩
    ·replace S:=S.addNil 42 5
     replace S:=S.add (Φ:=AllL []) (fun _ _ _ hx=>by cases hx);rw[show Wk.row 42 5 none 0 0 []=Wk.row 42 5 none 0 0 (encL ([]:List LTerm)) from rfl]at S;exact S.front (Wk.box b5 42 [.int .i64 kd,.int .i64 u,.int .i64 n,str s,.slice none 0 0])
    ·clear S;rintro k zs r5 lf p5 c5 uu a w ⟨hkz,hk,hlf,hw5,hsub5,hkd5⟩ S
     refine J6 ?_;intro a S;refine kC S (fun h17=>?_) (fun h17=>?_)
     ·refine kK (xtn (kS (kB ?_)))
      have hkl:k < kidsN (kd:Int):=by simp at h17;omega
      have hc5:=hsub5.cap hc4;have hl5:=hsub5.len;have hkk:kidsN (kd:Int) - k=(kidsN (kd:Int) - (k+1))+1:=by omega
      refine c_drawXL 9 [T9 0,T9 1,T9 2,T9 3,T9 4,F9 5,F9 6,F9 7,T9 8,F9 9] [Wk.box b5 42 [.int .i64 kd,.int .i64 u,.int .i64 n,str s,.slice p5 k c5]] (⟨[],[],fun ch w=>Agree (rtI h rd (left:Nat) r).foot w0 w∧DecX m left r ch⟩) S (fun ch a w ⟨_,hd,ha,hx⟩=>by repeat (first | refine xtp ?_ | refine xbp ?_);exact ⟨hd,.inr ⟨ch,rfl,ha,hx⟩⟩) ?_;intro w S;(iterate 5 (refine dqXL S ?_;intro a S));rw[w6 ((61:Int) - (m:Nat)+1),show (61:Int) - (m:Nat)+1=61 - ((m - 1:Nat):Int) from by omega]at S;refine dlXL ?_;replace S:=((S.front (rdI rd r5)).front (tmI h rd (lf:Nat))).toBoth;refine sitMP (rtI h rd (lf:Nat) r5) S (ih (m - 1) h rd lf r5 (restOf _ (rtI h rd (lf:Nat) r5)) w (by omega) (by omega) (by omega) hw5 hc5 (by omega) (S.restOk _) (S.it (rtI h rd (lf:Nat) r5)) ((S.mem.fact (GlF r5.p r5.bs)).split (rtI h rd (lf:Nat) r5))) rfl (fun ch w' hx hS=>?_) ?_
      ·obtain ⟨e,rfl,he⟩:=hx
       have S:=hS (bs':=_);refine XP.of S (by simp) rfl ⟨S.wd.agree,e,rfl,?_⟩;rw[hdec];refine decB_kids htx hus hnu ?_;rw[hkd5,hkk];exact kidsD_bad _ _ _ _ _ _ he
      clear S;rintro _ a w ⟨z,lf',r6,rfl,hde,hlf',hw6,hsub6,hh6,hz⟩ hS;have S:=hS (rtI h rd (lf':Nat) r6) [LtF z] hh6 (fun k h=>.inl h) (by simp only[List.mem_cons,List.not_mem_nil,or_false];rintro Φ rfl;exact hz);clear hS;replace S:=S.ofBoth;replace S:=S.add (Φ:=GlF r6.p r6.bs) ((S.mem.fact (GlF r5.p r5.bs)).imp fun _ h=>hsub6.gl hc5 _ h);have hA1:Stable _ _ (AllL zs):=S.wd.facts (AllL zs) (by simp);have hA2:=S.t z;replace S:=S.add (Φ:=AllL (zs++[z])) (fun w' hw' x hx=>by
       rcases List.mem_append.1 hx with h | h
       ·exact hA1 w' hw' x h
       ·rw[List.mem_singleton.1 h];exact hA2 w' hw')
      refine deXL S ?_;refine dlXL (sn S ?_);intro b97 a w S;refine deXL S ?_;refine dlXL ?_;refine sap S (by simp[maxLen];omega) (by omega) ?_;rintro p7 c7 a w - S;rw[show encL zs++[Value.int .i64 z.kind,.int .i64 z.user,.int .i64 z.num,str z.text,.slice z.p z.kids.length z.cap]=encL (zs++[z]) from by rw[encL_append];rfl]at S;refine deXL S ?_;refine dqXL S ?_;intro a S;refine dlXL (sw S ?_);intro a w S;refine dzXL (xbn (xtn (kR ?_)));(iterate 2 (refine sq S ?_;intro a S));refine kN (xtn ?_);rw[w6 ((k:Int)+1)]at S;replace S:=((((S.front (rdI rd r6)).front (tmI h rd (lf':Nat))).front (Wk.row 42 5 p7 (k+1) c7 (encL (zs++[z])))).front (Wk.box b5 42 [.int .i64 kd,.int .i64 u,.int .i64 n,str s,.slice p7 (k+1) c7]));refine ⟨k+1,zs++[z],r6,lf',p7,c7,S.uu,⟨by simp[hkz],hkl,by omega,hw6,hsub5.trans hsub6,?_⟩,S.sub _ _,by omega⟩;rw[hkd5,hkk,kidsD_step _ _ _ _ _ z.t lf' r6.bs hde,List.map_append];rfl
     ·refine kE (xte (xte (xbe (xtn (kS ?_)))))
      have hk2:kidsN (kd:Int)=k:=by simp at h17;omega
      subst hkz;refine Y6 ?_;intro a w S;have hrow:=S.row p5 zs.length;have hall:Stable _ _ (AllL zs):=S.wd.facts (AllL zs) (by simp);have hap:∀ ad,p5=some ad→¬((rtI h rd (lf:Nat) r5).foot ad.block∨Mr ad.block):=fun ad had hm=>by
       rcases hm with (hm | hm) | hm
       ·exact St.apart2 S (Wk.row 42 5 p5 zs.length c5 (encL zs)) (tmI h rd (lf:Nat)) ad.block ⟨ad,had,rfl⟩ hm
       ·exact St.apart2 S (Wk.row 42 5 p5 zs.length c5 (encL zs)) (rdI rd r5) ad.block ⟨ad,had,rfl⟩ hm
       ·exact St.apart2 S (Wk.row 42 5 p5 zs.length c5 (encL zs)) (ext Mr) ad.block ⟨ad,had,rfl⟩ hm
      have hkids:Stable (fun k=>(rtI h rd (lf:Nat) r5).foot k∨Mr k) _ (AllL zs):=hall.less fun k _ hm=>by
       rcases hm with (hm | hm) | hm
       ·exact ⟨tmI h rd (lf:Nat),by simp,hm⟩
       ·exact ⟨rdI rd r5,by simp,hm⟩
       ·exact ⟨ext Mr,by simp,hm⟩
      have hls:=ls_of_own hrow (fun x hx=>AllL.get hkids hx) hap;replace S:=((S.front (rdI rd r5)).front (tmI h rd (lf:Nat))).toBoth;have hh:=S.it (rtI h rd (lf:Nat) r5);refine endP (end1 S (fun _=>?_));refine ⟨.mk kd u n s p5 c5 zs,lf,r5,rfl,?_,by omega,hw5,((((hsub1.trans hsub2).trans hsub3).trans hsub4).trans hsub5),hh,fun w' hw'=>?_⟩
      ·rw[hdec,LTerm.t_eq]
       refine decB_ok htx hus hnu ?_;rw[hkd5,hk2,Nat.sub_self,kidsD,preD,List.append_nil];rfl
      ·exact LtIn.iff.2 ⟨own_le hrow,own_capT hrow,hls w' hw'⟩
theorem textD_err {k e:Int}{bs:List UInt8}(h:textD k bs=.error e):e≠0:=by
 unfold textD at h;split at h;split at h;cases h;decide;split at h;cases h;decide;split at h;cases h;decide;cases h;cases h
theorem userD_err {k e:Int}{bs:List UInt8}(h:userD k bs=.error e):e≠0:=by
 unfold userD at h;split at h;split at h;cases h;decide;split at h;cases h;cases h;decide;cases h
theorem numD_err {k e:Int}{bs:List UInt8}(h:numD k bs=.error e):e≠0:=by
 unfold numD at h;split at h;split at h;cases h;decide;cases h;cases h
theorem kidsD_err {f:Nat→List UInt8→DecE (Term × Nat × List UInt8)}(hf:∀ l b e,f l b=.error e→e≠0):∀ (k l:Nat) (b:List UInt8) (e:Int),kidsD f k l b=.error e→e≠0
 | 0,l,b,e,h=>by rw[kidsD]at h;cases h
 | k+1,l,b,e,h=>by
  rw[kidsD]at h;split at h
  rename_i e' he
  cases h;exact hf _ _ _ he;split at h
  rename_i e' he
  cases h;exact kidsD_err hf _ _ _ _ he;cases h
theorem decT_err:∀ (m left:Nat) (bs:List UInt8) (e:Int),decT m left bs=.error e→e≠0:=by
 intro m
 induction m with
 | zero=>
  intro left bs e h;cases bs with
  | nil=>rw[decT_nil]at h;cases h;decide
  | cons c t=>rw[decT_cons,if_pos (.inl rfl)]at h;cases h;decide
 | succ m ih=>
  intro left bs e h;cases bs with
  | nil=>rw[decT_nil]at h;cases h;decide
  | cons c t=>
   rw[decT_cons]at h;split at h
   ·cases h;decide
   ·rw[show m+1 - 1=m from rfl,decB]at h
    split at h
    ·rename_i h1;cases h;exact textD_err h1
    ·split at h
     ·rename_i h1;cases h;exact userD_err h1
     ·split at h
      ·rename_i h1;cases h;exact numD_err h1
      ·split at h
       ·rename_i h1;cases h;exact kidsD_err ih _ _ _ _ h1
       ·cases h
theorem tcatch_ret (p2 p3 p4:Value)(w:World):CallsDIn (FW none) 0 Tryz.prog 225 #[p2,p3,p4] .returning w fun e u' w'=>(∃ v,e=.returned v)∧u'=.returning∧Agree (fun _=>False) w w':=by
 refine callsD_catch Tryz.func225 rfl (l:=[p2,p3,p4,undef,undef,undef,undef,undef,undef,undef,undef,undef,undef,undef,undef,undef,undef,undef,undef,undef]) (args:=[p2,p3,p4]) rfl (Wd.start w) (.inl rfl) ?_;rintro x u' (⟨-,rfl,rfl⟩ | ⟨pv,h,-⟩) a S;refine J8 ?_;intro a S;exact ⟨.inl rfl,S.defers,.tuple #[],resC S,⟨_,rfl⟩,rfl,S.wd.agree⟩;cases h
theorem tcatch_pan (g2 g3 g4:Nat)(x0 x1 x2 x3 x4 y z:Value)(e0:Int)(w0 w:World)(M0:Nat→Prop)(hw:Wd w0 M0 w [Wk.box g4 30 [z],Wk.box g3 3 [y],Wk.box g2 42 [x0,x1,x2,x3,x4]] []) :
  CallsDIn (FW none) 0 Tryz.prog 225 #[.pointer (some ⟨g2,0,none⟩),.pointer (some ⟨g3,0,none⟩),.pointer (some ⟨g4,0,none⟩)] (.panicking (pch (wrongE e0))) w fun e u' w'=>(∃ v,e=.returned v)∧u'=.panicking [{ v:=wrongE e0,recovered:=true }]∧
   Wd w0 M0 w' [Wk.box g4 30 [.int .i64 e0],Wk.box g3 3 [.int .i64 0],Wk.box g2 42 [.int .i64 0,.int .i64 0,.int .i64 0,.string ⟨#[]⟩,.slice none 0 0]] []:=by
 refine callsD_catch Tryz.func225 rfl (l:=[.pointer (some ⟨g2,0,none⟩),.pointer (some ⟨g3,0,none⟩),.pointer (some ⟨g4,0,none⟩),undef,undef,undef,undef,undef,undef,undef,undef,undef,undef,undef,undef,undef,undef,undef,undef,undef]) (args:=[.pointer (some ⟨g2,0,none⟩),.pointer (some ⟨g3,0,none⟩),.pointer (some ⟨g4,0,none⟩)]) rfl hw (.inr ⟨_,rfl⟩) ?_;rintro x u' (⟨h,-⟩ | ⟨pv,h,rfl,rfl⟩) a S;cases h;obtain rfl:x=wrongE e0:=by injection h with h;injection h with h _;injection h with h;exact h.symm
 refine J14 ?_;intro a S;refine sa S ?_;intro b4 a w S;refine Y9 ?_;intro a w S;rw[show (!true)=false from rfl]at S;refine kN (xtn ?_);refine c_condF S ?_;refine kK (xtn ?_);refine c_drawD [T9 0,T9 1,T9 2,F9 3,F9 4,F9 5] [g2,g3,g4] S ?_;intro w S;(iterate 3 (refine dq S ?_;intro a S));refine dl (sw S ?_);intro a w S;refine de S ?_;refine dl (sw S ?_);intro a w S;refine de S ?_;refine dl (sw S ?_);intro a w S;refine de S ?_;refine dn ?_;refine ⟨.inl rfl,S.defers,.tuple #[],resC S,⟨_,rfl⟩,rfl,?_⟩;exact (S.sub _ _).wd
theorem leftG_c (b n c:Nat)(p:Option Addr)(why:Int)(w0:World)(hb:Fx w0 (BoxF b 193 [.slice p n c,.int .i64 why])):Ret Tryz.prog 227 [.pointer (some ⟨b,0,none⟩)] w0 (fun _=>False) fun v _=>v=.int .i64 (n:Nat):=by
 refine E1 Tryz.func227 rfl Tryz.ntmps227 (Wd.begin (fs:=[BoxF b 193 [.slice p n c,.int .i64 why]]) (by simpa using hb)) ?_;intro a S;refine J20 ?_;intro a S;refine J7 ?_;intro a S;exact end1 S (fun _=>rfl)
instance {b n c:Nat}{p:Option Addr}{why:Int}{bs fs}[hb:HasBox bs b 193 [.slice p n c,.int .i64 why]]:CallV Tryz.prog 227 [.pointer (some ⟨b,0,none⟩)] bs fs (.int .i64 (n:Nat)):=⟨fun w m=>leftG_c b n c p why w (BoxF.stable m.box (fun h=>h))⟩
abbrev ptrT (b:Nat):Value:=.pointer (some ⟨b,0,none⟩)
abbrev defT (b2 b3 b4:Nat):Deferred:={ target:=.fn (.func 225) ⟨[ptrT b2,ptrT b3,ptrT b4]⟩,args:=#[] }
abbrev zTm:List Value:=[.int .i64 0,.int .i64 0,.int .i64 0,.string ⟨#[]⟩,.slice none 0 0]
theorem tdec_pan {a:Act}{w0 w:World}{M0:Nat→Prop}{Rr:Ending→World→Prop}(b2 b3 b4:Nat)(x0 x1 x2 x3 x4 y z:Value)(e0:Int)(hd:a.defers=[defT b2 b3 b4])(h2:a.tmps[2]? = some (ptrT b2))(h3:a.tmps[3]? = some (ptrT b3))(h4:a.tmps[4]? = some (ptrT b4))
  (hw:Wd w0 M0 w [Wk.box b4 30 [z],Wk.box b3 3 [y],Wk.box b2 42 [x0,x1,x2,x3,x4]] [])
  (hR:∀ w',Agree M0 w0 w'→Rr (.returned (.tuple ⟨[vL zeroL,.int .i64 0,.int .i64 e0]⟩)) w'):bodyPostDIn (FW none) 0 Tryz.prog Tryz.f197 Rr (.panic (pch (wrongE e0))) a w:=by
 refine leavePan (ca:=[ptrT b2,ptrT b3,ptrT b4]) hd (tcatch_pan b2 b3 b4 x0 x1 x2 x3 x4 y z e0 w0 w M0 hw) fun w' hK=>⟨_,?_,hR w' hK.agree⟩
 have n2:Nth a.tmps.toList 2 (ptrT b2):=⟨by simpa using h2⟩;have n3:Nth a.tmps.toList 3 (ptrT b3):=⟨by simpa using h3⟩;have n4:Nth a.tmps.toList 4 (ptrT b4):=⟨by simpa using h4⟩;exact res3 (l:=a.tmps.toList) rfl hK.held
def TDecR (M:Nat→Prop)(bs:List UInt8)(v:Value)(w:World):Prop:=∃ (z:LTerm) (n e:Int),v=.tuple ⟨[vL z,.int .i64 n,.int .i64 e]⟩∧Stable M w (LtF z)∧
 ((∃ left rest,decT 60 1200 bs=.ok (z.t,left,rest)∧n=(bs.length:Int) - rest.length∧e=0)∨(decT 60 1200 bs=.error e∧z=zeroL∧e≠0))
theorem tdec_c (bs:List UInt8)(p:Option Addr)(n c:Nat)(M:Nat→Prop)(w0:World)(hn:bs.length=n)(hl:n≤10000000)(hM:∀ k,M k→k < w0.heap.size)(hf:Stable M w0 (GlF p bs)) :
  Ret Tryz.prog 197 [.slice p n c] w0 (fun _=>False) fun v w'=>TDecR M bs v w':=by
 subst hn;refine enterD Tryz.func197 rfl rfl (Wd.beginM (M:=M) (fs:=[GlF p bs]) hM (by simpa using hf)) (fun a S=>?_);refine E0 Tryz.ntmps197 ?_;intro S;refine kS (kR ?_);refine sa S ?_;intro b2 a w S;refine sa S ?_;intro b3 a w S;refine sa S ?_;intro b4 a w S;refine J5 ?_;intro a S;refine snew S (readR_c bs p bs.length c _ rfl hl (S.gl0 p)) ?_;rintro _ a w - ⟨rd,p1,c1,rfl,hh,hnw⟩ hS -;have S:=hS (both (rdI rd ⟨p1,c1,bs,0⟩) (Wk.row 5 1 p1 bs.length c1 (encL bs))) hh hnw;clear hS;replace S:=S.ofBoth;have hc1:=own_le (S.row p1 bs.length);replace S:=(S.front (Wk.row 5 1 p1 bs.length c1 (encL bs))).rowToGl p1 bs (e:=5) (sz:=1) (n:=bs.length) (c:=c1) (fun _ _ _ _=>trivial);refine J1 ?_;intro a S;refine sa S ?_;intro b9 a w S;refine sq S ?_;intro a S;refine kN (xtn (kS (kR (sq S ?_))));intro a S;refine sdef S ?_;intro a S;refine kN (xtn (kS (kR (sq S ?_))));intro a S;replace S:=((S.front (rdI rd ⟨p1,c1,bs,0⟩)).front (tmI b9 rd 1200)).toBoth;refine sitMP (rtI b9 rd ((1200:Nat):Int) ⟨p1,c1,bs,0⟩) S (rterm_c0 61 60 b9 rd 1200 ⟨p1,c1,bs,0⟩ (restOf _ (rtI b9 rd ((1200:Nat):Int) ⟨p1,c1,bs,0⟩)) w (by decide) (by decide) (by decide) rfl hc1 hl (S.restOk _) (S.it (rtI b9 rd ((1200:Nat):Int) ⟨p1,c1,bs,0⟩)) ((S.mem.fact (GlF p1 bs)).split (rtI b9 rd ((1200:Nat):Int) ⟨p1,c1,bs,0⟩))) rfl (fun ch w' hx hS=>?_) ?_
 ·obtain ⟨e,rfl,he⟩:=hx
  have S:=hS (bs':=_);refine tdec_pan b2 b3 b4 _ _ _ _ _ _ _ e S.defers (by rw[S.slots];rfl) (by rw[S.slots];rfl) (by rw[S.slots];rfl) (S.sub [Wk.box b4 30 [.int .i64 0],Wk.box b3 3 [.int .i64 0],Wk.box b2 42 zTm] []).wd (fun w' ha=>⟨_,rfl,ha,zeroL,0,e,rfl,fun _ _=>zeroL_in _,.inr ⟨he,rfl,decT_err _ _ _ _ he⟩⟩)
 clear S;rintro _ a w ⟨z,lf,r6,rfl,hde,-,hw6,hsub6,hh6,hz⟩ hS;have S:=hS (rtI b9 rd (lf:Nat) r6) [LtF z] hh6 (fun k h=>.inl h) (by simp only[List.mem_cons,List.not_mem_nil,or_false];rintro Φ rfl;exact hz);clear hS;replace S:=S.ofBoth;refine Y4 ?_;intro a w S
 refine' c_drawT0 (.q 1 (.q 2 (.q 3 (.q 4 (.q 5 (.q 6 (.b2 0 7 (.l 7 (.q 8 (.l 9 (.l 10 (.l 11 (.e)))))) (.q 8 (.l 0 (.l 9 (.l 10 (.l 11 (.e))))))))))))) [b2,b3,b4] S ?_ ?_
 rotate_left 3
 ·intro w S
  (iterate 6 (refine tq S ?_;intro a S));refine tb2 ?_ ?_
  ·refine sq S ?_;intro a S;refine te S ?_;refine tl (sc S ?_);intro a w S;refine te S ?_;refine tq S ?_;intro a S
   rw[w64 ((bs.length:Int) - (r6.bs.length:Int)) (by have:=hsub6.len;have:r6.bs.length≤bs.length:=this;omega) (by omega)]at S;refine tl (sw S ?_);intro a w S;refine te S ?_;refine tl (sw S ?_);intro a w S;refine te S ?_;refine tl (sw S ?_);intro a w S;refine te S ?_;refine tn ?_;exact S
  ·refine sc S ?_;intro a w S;refine te S ?_;refine tq S ?_;intro a S
   rw[w64 ((bs.length:Int) - (r6.bs.length:Int)) (by have:=hsub6.len;have:r6.bs.length≤bs.length:=this;omega) (by omega)]at S;refine tl (sq S ?_);intro a S;refine te S ?_;refine tl (sw S ?_);intro a w S;refine te S ?_;refine tl (sw S ?_);intro a w S;refine te S ?_;refine tl (sw S ?_);intro a w S;refine te S ?_;refine tn ?_;exact S
 intro  a w S;refine xtn (kT ?_);have hlat:=S.laterT (M:=M) z;refine leaveRet S.defers (tcatch_ret _ _ _ w) (fun w' hw'=>⟨_,res3 S.slots (S.wd.step hw').held,_,rfl,(S.wd.step hw').agree,z,(bs.length:Int) - (r6.bs.length:Int),0,rfl,?_,.inl ⟨lf,r6.bs,hde,rfl,rfl⟩⟩);exact hlat.later (hw'.mono fun _ _ h=>h.elim)
end Go.Proofs.YtlgnhhebeandkaaGreatDoor
namespace Go.Wk
open Go
section
variable {P:Program}{ops:Array Oper}{C:Nat→World→Prop}{R:Act→World→Prop}
variable {r:Option Nat}{Q:Exit→Act→World→Prop}{w0:World}{M0:Nat→Prop}{ds:List Deferred}{a:Act}{w:World}{l l':List Value}{bs bs' b0 b1 b2 bk:List Item}{fs fs0:List (World→Prop)}
 {d:Option Nat} {op:Op} {ty:TypeId} {pos:String} {af:Array Edge} {rest:List Oper} {v v' G:Value} {j g:Nat} {pol:Bool} {cs:List Bool} {n:Nat} {listed:Array Bool}
variable {ord:List (Nat × Nat)}{i:Nat}{lv:List (Nat × Nat)}
end
inductive TrV where
 | e
 | q (i k:Nat) (t:TrV)
 | l (i:Nat) (t:TrV)
 | b (i j:Nat) (t u:TrV)
def TrV.len:TrV→Nat
 | .e=>0
 | .q _ _ t=>t.len+1
 | .l _ t=>t.len+1
 | .b _ _ t _=>t.len+1
section
variable {P:Program}{ops:Array Oper}{C:Nat→World→Prop}{R:Act→World→Prop}
variable {r:Option Nat}{Q:Exit→Act→World→Prop}{w0:World}{M0:Nat→Prop}{ds:List Deferred}{a:Act}{w:World}{l l':List Value}{bs bs' b0 b1 b2 bk:List Item}{fs fs0:List (World→Prop)}
 {d:Option Nat} {op:Op} {ty:TypeId} {pos:String} {af:Array Edge} {v:Value} {listed:Array Bool}
variable {t u:TrV}{i j:Nat}{lv:List (Nat × Nat)}
end
end Go.Wk
namespace Go.Proofs.YtlgnhhebeandkaaGreatDoor
open Go Go.Wk
set_option synthInstance.maxSize 100000
set_option synthInstance.maxHeartbeats 400000
set_option maxRecDepth 100000
section
variable {P:Program}{r:Option Nat}{ops:Array Oper}{Q:Exit→Act→World→Prop}{w0:World}{M0:Nat→Prop}{ds:List Deferred}{a:Act}{w:World}{l:List Value}{bs:List Wk.Item}{fs:List (World→Prop)}
 {d:Option Nat} {t t' ty:TypeId} {pos:String} {af:Array Edge} {rest:List Oper} {e:TypeId} {x:Operand} {ys:List UInt8}
theorem scvb {l':Nat→Nat→List Value}(S:St w0 M0 ds a w l bs fs)[Ev ⟨[],l⟩ x (str ys)][ht:Und P t .string][ht':Und P t' (.slice e)][he:Und P e (.int .u8)][hp:∀ b c,PutO l d (.slice (some ⟨b,0,none⟩) ys.length c) (l' b c)]
  (K:∀ b c a w,St w0 M0 ds a w (l' b c) bs (GlF (some ⟨b,0,none⟩) ys::fs)→WL P r ops Q rest a w):WL P r ops Q (⟨d,.convert t t' x,ty,pos,af,none⟩::rest) a w:=by
 refine wl_plain rfl ?_;rw[semAt_nd rfl];have hr:=Lib.run_convert_string_bytes (P:=P) w t t' e ⟨ys.toArray⟩ ht.eq ht'.eq he.eq;have e1:(xop a.eval (.convert t t' x) ty).run P w=.ok (.value (.slice (some ⟨w.heap.size,0,none⟩) ys.length (grownCap w (ByteArray.size ⟨ys.toArray⟩) 0 e))) (Lib.bytesWorld w e ⟨ys.toArray⟩):=by
  simp only[xop,execOp,S.fr.ev (x:=x) (v:=str ys),Sem.run_bind,str];rw[hr];rfl
 simp only[e1,Oper.uponIn];have:=hp w.heap.size (grownCap w (ByteArray.size ⟨ys.toArray⟩) 0 e);have S':=S.put (d:=d) (v:=.slice (some ⟨w.heap.size,0,none⟩) ys.length (grownCap w (ByteArray.size ⟨ys.toArray⟩) 0 e));have hg:Grow w (Lib.bytesWorld w e ⟨ys.toArray⟩):=⟨rfl,rfl,rfl,by rw[Lib.bytesWorld_size];omega,fun k hk _=>Lib.bytesWorld_at_old w e _ k hk⟩;have hwd:=S'.wd.step hg;have S2:St w0 M0 ds _ _ _ bs fs:=⟨S'.slots,S'.defers,hwd⟩;refine K _ _ _ _ (S2.add ?_);have hs:SlF (some ⟨w.heap.size,0,none⟩) (encL ys) (Lib.bytesWorld w e ⟨ys.toArray⟩):=⟨nofun,fun ad had j u hu=>by
  cases had;have hj:j < ys.length:=by
   have:=(List.getElem?_eq_some_iff.1 hu).1;rw[encL_len]at this;have h2:ys.length*Enc.sz UInt8=ys.length:=Nat.mul_one _;omega
  have h1:=Lib.bytesWorld_cell w e ⟨ys.toArray⟩ j hj;rw[encB_map,List.getElem?_map,List.getElem?_map,List.getElem?_eq_getElem hj]at hu;simp only[Option.map_some,Option.some.injEq]at hu;rw[show (⟨w.heap.size,0,none⟩:Addr).add j=⟨w.heap.size,j,none⟩ from by simp only[Addr.add,Nat.zero_add];split <;> simp_all,h1,←hu];simp[List.getD,List.getElem?_eq_getElem hj]⟩
 exact fun w' hw'=>⟨hs.stable (fun ad had hm=>by
  cases had;obtain ⟨it,hi,hk⟩:=hm;exact absurd (S.wd.lt it hi _ hk) (Nat.lt_irrefl _)) w' hw',fun _ _=>trivial⟩
end
end Go.Proofs.YtlgnhhebeandkaaGreatDoor
namespace Go.Wk
open Go
section
variable {P:Program}{r:Option Nat}{ops:Array Oper}{Q:Exit→Act→World→Prop}{w0:World}{M0:Nat→Prop}{ds:List Deferred}{a:Act}{w:World}{l:List Value}{bs:List Item}{fs:List (World→Prop)}
 {d:Option Nat} {ty:TypeId} {pos:String} {af:Array Edge} {rest:List Oper} {G:Value} {f:Nat} {x:Operand} {xs:List Operand} {args:List Value} {ts:Array TypeId} {j g:Nat} {pol:Bool} {cs:List Bool}
theorem gcr {c:Bool}{l':Value→List Value}[hg:GSlot ops j g][hn:Nth l g G][hc:Conds G pol [c]][EntF P f][he:CallTo ⟨[c],l⟩ x xs f args][hp:∀ v,PutO l d (gif c v) (l' v)](S:St w0 M0 ds a w l bs fs)(v0:Value){R:Value→World→Prop}
  (hq:c=true→Ret P f args w (fun _=>False) R)
  (K:∀ v a w',(c=true→R v w')→(c=false→v=v0)→St w0 M0 ds a w' (l' v) bs fs→WL P r ops Q rest a w'):WL P r ops Q (⟨d,.call { callee:=.value x,args:=xs.toArray,argTypes:=ts },ty,pos,af,some (j,pol)⟩::rest) a w:=by
 have hw:=wanted_iff (ops:=ops) (d:=d) (op:=.call { callee:=.value x,args:=xs.toArray,argTypes:=ts }) (ty:=ty) (pos:=pos) (af:=af) (pol:=pol) S hg.eq;refine wl_guard (fun ht=>?_) (fun hf=>?_);have hall:=hw.1 ht;have hct:c=true:=hall c (by simp);have:CallTo ⟨[],l⟩ x xs f args:=⟨by
  obtain ⟨fi,ca,vs,h0,h1,h2⟩:=he.ex;exact ⟨fi,ca,vs,⟨fun _ ds=>h0.eq hall ds⟩,⟨fun _ ds=>h1.eq hall ds⟩,h2⟩⟩
 refine cv_any S (hq hct) ?_;rintro e w' ⟨v,rfl,ha,hR⟩;have:=hp v;have S':=S.put (d:=d) (v:=gif c v);have e1:gif c v=v:=by rw[hct];rfl
 rw[e1]at S';exact ⟨v,rfl,K v _ w' (fun _=>hR) (fun h=>by rw[hct]at h;cases h) ⟨S'.slots,S'.defers,S'.wd.step ha⟩⟩;have hcf:c=false:=by
  cases q:c with
  | false=>rfl
  | true=>rw[hw.2 (by simp[q])]at hf;cases hf
 have:=hp v0;have S':=S.put (d:=d) (v:=gif c v0);have e:gif c v0=undef:=by rw[hcf];rfl
 rw[e]at S';exact K v0 _ _ (fun h=>by rw[hcf]at h;cases h) (fun _=>rfl) S'
end
end Go.Wk
namespace Go.Proofs.YtlgnhhebeandkaaGreatDoor
open Go Go.Wk
set_option synthInstance.maxSize 100000
set_option synthInstance.maxHeartbeats 400000
set_option maxRecDepth 100000
abbrev pB (b:Nat):Value:=.pointer (some ⟨b,0,none⟩)
class AdOk (a:Value)(b:Nat):Prop where ok:a=.pointer none∨a=pB b
instance {b:Nat} : AdOk (.pointer none) b:=⟨.inl rfl⟩
instance {b:Nat} : AdOk (.pointer (some ⟨b,0,none⟩)) b:=⟨.inr rfl⟩
abbrev wX (b:Nat)(a v:Value):Wk.Item:=Wk.box b 106 [a,v]
abbrev wI (b:Nat)(u:Value)(p:Option Addr)(c:Nat)(s:List UInt8):Wk.Item:=both (wX b u (.slice p s.length c)) (Wk.row 5 1 p s.length c (encL s))
instance cvTo {l:Cx}{bs:List Wk.Item}{fs:List (World→Prop)}{x:Operand}{ty b:Nat}{cs:List Value}[Ev l x (.pointer (some ⟨b,0,none⟩))][hb:HasBox bs b 106 cs][hc:LenIs cs 2]:OpQ Tryz.prog (.convert 102 215 x) ty l bs fs (.pointer (some ⟨b,0,none⟩)):=⟨fun ρ w h m=>by
 obtain ⟨j,hj,hjs⟩:=Option.map_eq_some_iff.1 (show (Tryz.prog.info? 104).map (fun i=>i.size)=some 2 by kernel_rfl);have hh:w.heap[b]? = some (.cells cs.toArray 106 (0,0)):=m.held _ hb.mem;have e:=Lib.run_to_unsafe (P:=Tryz.prog) w ⟨b,0,none⟩ (src:=102) (dst:=215) (show Tryz.prog.underlying 102=some (.pointer 104) by kernel_rfl) (show Tryz.prog.underlying 215=some .unsafePointer by kernel_rfl) hj (by rw[hjs];decide) (e:=106) (cells:=2) (by simp[World.shape?,hh,hc.eq]) (Nat.zero_lt_succ 1);simp[xop,execOp,h.ev (x:=x) (v:=.pointer (some ⟨b,0,none⟩)),e]⟩
instance cvFrom {l:Cx}{bs:List Wk.Item}{fs:List (World→Prop)}{x:Operand}{ty b:Nat}{cs:List Value}[Ev l x (.pointer (some ⟨b,0,none⟩))][hb:HasBox bs b 106 cs][hc:LenIs cs 2]:OpQ Tryz.prog (.convert 215 102 x) ty l bs fs (.pointer (some ⟨b,0,none⟩)):=⟨fun ρ w h m=>by
 obtain ⟨j,hj,hjs⟩:=Option.map_eq_some_iff.1 (show (Tryz.prog.info? 104).map (fun i=>i.size)=some 2 by kernel_rfl);have hh:w.heap[b]? = some (.cells cs.toArray 106 (0,0)):=m.held _ hb.mem;have e:=Lib.run_from_unsafe (P:=Tryz.prog) w ⟨b,0,none⟩ (src:=215) (dst:=102) (show Tryz.prog.underlying 215=some .unsafePointer by kernel_rfl) (show Tryz.prog.underlying 102=some (.pointer 104) by kernel_rfl) hj (e:=106) (cells:=2) (by simp[World.shape?,hh,hc.eq]) (by kernel_rfl);simp[xop,execOp,h.ev (x:=x) (v:=.pointer (some ⟨b,0,none⟩)),e]⟩
instance neSame {l:Cx}{bs:List Wk.Item}{fs:List (World→Prop)}{x y:Operand}{ty b:Nat}[Ev l x (.pointer (some ⟨b,0,none⟩))][Ev l y (.pointer (some ⟨b,0,none⟩))]:OpQ Tryz.prog (.binOp .neq 102 x y 102) ty l bs fs (.bool false):=⟨fun ρ w h m=>by
 obtain ⟨j,hj,hjs⟩:=Option.map_eq_some_iff.1 (show (Tryz.prog.info? 104).map (fun i=>i.size)=some 2 by kernel_rfl);have e:=Lib.run_neq_ptr_same (P:=Tryz.prog) w (tp:=102) (te:=104) ⟨b,0,none⟩ (show Tryz.prog.underlying 102=some (.pointer 104) by kernel_rfl) hj;simp[xop,execOp,eqGuard,h.ev (x:=x) (v:=.pointer (some ⟨b,0,none⟩)),h.ev (x:=y) (v:=.pointer (some ⟨b,0,none⟩)),e]⟩
theorem run_noesc (x:Value)(w:World):(callFunc 143 #[x]).run Tryz.prog w=.ok (.value x) w:=by
 rw[run_callFunc_extern Tryz.func143 (by kernel_rfl) (by kernel_rfl) (by kernel_rfl) (e:=Extern.AbiNoEscape.same) (by kernel_rfl),Lib.run_noEscape];rfl
theorem copycheck_c (u:Value)(b:Nat)[hu:AdOk u b](v:Value)(w0:World)(hb:(wX b u v).holds w0):Ret Tryz.prog 95 [pB b] w0 (wX b u v).foot fun _ w'=>(wX b (pB b) v).holds w':=by
 rcases hu.ok with rfl | rfl
 ·
  have hb':(wX b (.pointer none) v).holds w0:=hb;refine E1 Tryz.func95 rfl Tryz.ntmps95 (Wd.itLent (fs:=[]) hb' (by simp)) ?_;intro a S;refine J14 ?_;intro a S;refine sext S (run_noesc _ _) ?_;intro a S;refine Y5 ?_;intro a w S;refine end0 S (fun _=>S.it (wX b (pB b) v))
 ·
  have hb':(wX b (pB b) v).holds w0:=hb;refine E1 Tryz.func95 rfl Tryz.ntmps95 (Wd.itLent (fs:=[]) hb' (by simp)) ?_;intro a S;refine J22 ?_;intro a S;refine end0 S (fun _=>S.it (wX b (pB b) v))
def WrR (b:Nat)(M:Nat→Prop)(w0:World)(s:List UInt8)(w:World):Prop:=∃ u p c,AdOk u b∧(wI b u p c s).holds w∧∀ k,(wI b u p c s).foot k→M k∨w0.heap.size≤k
theorem wstr_c (b:Nat)(u:Value)[AdOk u b](p:Option Addr)(c:Nat)(s t:List UInt8)(hl:s.length+t.length≤1000000000000)(w0:World)(hb:(wI b u p c s).holds w0):Ret Tryz.prog 52 [pB b,str t] w0 (wI b u p c s).foot fun _ w'=>WrR b (wI b u p c s).foot w0 (s++t) w':=by
 refine E1 Tryz.func52 rfl Tryz.ntmps52 (Wd.it2Lent (fs:=[]) hb rfl rfl (by simp)) ?_;intro a S;refine J9 ?_;intro a S;refine sit (wX b u (.slice p s.length c)) S (copycheck_c u b _ _ (S.it (wX b u (.slice p s.length c)))) rfl ?_;rintro _ a w hh hS;have S:=hS (wX b (pB b) (.slice p s.length c)) hh (fun k h=>.inl h);clear hS hh;refine J10 ?_;intro a S;refine sap S (by simp[maxLen];omega) (by omega) ?_;rintro p2 c2 a w - S;rw[←encL_append,←List.length_append]at S;refine Y14 ?_;intro a w S;replace S:=(S.sub [wX b (pB b) (.slice p2 (s++t).length c2),Wk.row 5 1 p2 (s++t).length c2 (encL (s++t))] []).toBoth;have hh:=S.it (wI b (pB b) p2 c2 (s++t));have hn:=S.wd.own (wI b (pB b) p2 c2 (s++t)) (List.mem_cons_self ..) rfl;refine end2 S (fun _=>⟨pB b,p2,c2,inferInstance,hh,hn⟩)
theorem wbyte_c (b:Nat)(u:Value)[AdOk u b](p:Option Addr)(c:Nat)(s:List UInt8)(x:UInt8)(hl:s.length+1≤1000000000000)(w0:World)(hb:(wI b u p c s).holds w0):Ret Tryz.prog 54 [pB b,.int .u8 x.toNat] w0 (wI b u p c s).foot fun _ w'=>WrR b (wI b u p c s).foot w0 (s++[x]) w':=by
 refine E1 Tryz.func54 rfl Tryz.ntmps54 (Wd.it2Lent (fs:=[]) hb rfl rfl (by simp)) ?_;intro a S;refine J8 ?_;intro a S;refine sit (wX b u (.slice p s.length c)) S (copycheck_c u b _ _ (S.it (wX b u (.slice p s.length c)))) rfl ?_;rintro _ a w hh hS;have S:=hS (wX b (pB b) (.slice p s.length c)) hh (fun k h=>.inl h);clear hS hh;refine J10 ?_;intro a S;refine sn S ?_;intro b13 a w S;refine sap S (by simp[maxLen];omega) (by omega) ?_;rintro p2 c2 a w - S;rw[show encL s++[Value.int .u8 x.toNat]=encL (s++[x]) from by rw[encL_append];rfl,show s.length+1=(s++[x]).length from by simp]at S;refine Y11 ?_;intro a w S;replace S:=(S.sub [wX b (pB b) (.slice p2 (s++[x]).length c2),Wk.row 5 1 p2 (s++[x]).length c2 (encL (s++[x]))] []).toBoth;have hh:=S.it (wI b (pB b) p2 c2 (s++[x]));have hn:=S.wd.own (wI b (pB b) p2 c2 (s++[x])) (List.mem_cons_self ..) rfl;refine end1 S (fun _=>⟨pB b,p2,c2,inferInstance,hh,hn⟩)
theorem wlen_c (b:Nat)(u:Value)[AdOk u b](p:Option Addr)(c:Nat)(s:List UInt8)(w0:World)(hb:Fx w0 (BoxF b 106 [u,.slice p s.length c])):Ret Tryz.prog 56 [pB b] w0 (fun _=>False) fun v _=>v=.int .i64 (s.length:Nat):=by
 refine E1 Tryz.func56 rfl Tryz.ntmps56 (Wd.begin (fs:=[BoxF b 106 [u,.slice p s.length c]]) (by simpa using hb)) ?_;intro a S;refine J16 ?_;intro a S;refine end1 S (fun _=>rfl)
class PosN (n:Nat):Prop where pos:0 < n
instance usd {l:Cx}{bs:List Wk.Item}{fs:List (World→Prop)}{x:Operand}{t ty n c:Nat}{a:Addr}[Ev l x (.slice (some a) n c)][hc:PosN c]:OpQ Tryz.prog (.call { callee:=.builtin .unsafeSliceData,args:=#[x],argTypes:=#[t] }) ty l bs fs (.pointer (some a)):=⟨fun ρ w h m=>by
 have e:=Lib.run_unsafeSliceData_row (P:=Tryz.prog) (w:=w) #[t] ty a n c (by have:=hc.pos;omega);simp[xop,execOp,resolve,invoke,builtin,h.ev (x:=x) (v:=.slice (some a) n c),Sem.run_bind,e]⟩
section
variable {P:Program}{r:Option Nat}{ops:Array Oper}{Q:Exit→Act→World→Prop}{w0:World}{M0:Nat→Prop}{ds:List Deferred}{a:Act}{w:World}{l l':List Value}{bs bs':List Wk.Item}{fs:List (World→Prop)}
 {d:Option Nat} {ty:TypeId} {pos:String} {af:Array Edge} {rest:List Oper} {x y:Operand}
theorem sus {g c:Nat}{s:List UInt8}{pt it e:TypeId}(n:Nat)(S:St w0 M0 ds a w l bs fs)[Ev ⟨[],l⟩ x (.pointer (some ⟨g,0,none⟩))][Ev ⟨[],l⟩ y (.int .i64 (s.length:Nat))][hpt:Und P pt (.pointer e)][hr:HasRow bs (some ⟨g,0,none⟩) n e 1 c (encL s)][hrep:ReplI bs (Wk.row e 1 (some ⟨g,0,none⟩) n c (encL s)) noI bs'][hp:PutO l d (str s) l']
  (hce:P.cellsOf e=1) (h0:s≠[]) (K:∀ a w,St w0 M0 ds a w l' bs' fs→WL P r ops Q rest a w) :
  WL P r ops Q (⟨d,.call { callee:=.builtin .unsafeString,args:=#[x,y],argTypes:=#[pt,it] },ty,pos,af,none⟩::rest) a w:=by
 refine wl_plain rfl ?_;rw[semAt_nd rfl];have hrow:=S.row (some ⟨g,0,none⟩) n (e:=e) (sz:=1) (c:=c) (xs:=encL s);have hn:s.length=n:=by have:=hrow.1;rw[encL_len]at this;simpa [Enc.sz] using this
 have hpos:0 < n:=by rw[←hn];exact List.length_pos_iff.2 h0
 obtain ⟨g',cur,hg,hb,hnc,hcs,htk,hcm⟩:=own_cells hrow hpos;cases hg;have e1:=Lib.run_unsafeString_row (P:=P) w pt it ty e hpt.eq hce g cur.size (by simp[World.shape?,hb]) s h0 (by omega) (by unfold maxLen at hcm;omega) (fun j v hj=>by
  have hsl:=own_sl hrow;exact hsl.2 _ rfl j _ (by
   have:=encL_get s j v hj 0 (by decide);simpa [Enc.sz,Enc.cells] using this))
 have e2:(xop a.eval (.call { callee:=.builtin .unsafeString,args:=#[x,y],argTypes:=#[pt,it] }) ty).run P w=.ok (.value (str s)) (w.freeze ⟨g,0,none⟩ s.length):=by
  simp[xop,execOp,resolve,invoke,builtin,S.fr.ev (x:=x) (v:=.pointer (some ⟨g,0,none⟩)),S.fr.ev (x:=y) (v:=.int .i64 (s.length:Nat)),Sem.run_bind,e1,str]
 simp only[e2,Oper.uponIn];have S':=S.put (d:=d) (v:=str s) (l':=l');obtain ⟨pre,post,q1,q2⟩:=hrep.ex;have hwd:=S'.wd;rw[q1]at hwd;refine K _ _ ⟨S'.slots,S'.defers,?_⟩;rw[q2];have hag:Agree (Wk.row e 1 (some ⟨g,0,none⟩) n c (encL s)).foot w (w.freeze ⟨g,0,none⟩ s.length):=by
  unfold World.freeze;rw[if_neg (by omega)];refine ⟨rfl,rfl,rfl,by simp,fun k hk hm=>?_⟩;have:g≠k:=fun h=>hm ⟨_,rfl,h.symm⟩
  simp[Array.getElem?_modify,this]
 exact hwd.swap rfl hag trivial (fun k h=>h.elim) (fun k h=>h.elim) (fun _ _ _ _=>trivial)
end
theorem wstring_c (b:Nat)(u:Value)(p:Option Addr)(c:Nat)(s:List UInt8)(h0:s≠[])(w0:World)(hb:(wI b u p c s).holds w0):Ret Tryz.prog 57 [pB b] w0 (wI b u p c s).foot fun v _=>v=str s:=by
 obtain ⟨g,cur,rfl,-,hnc,-⟩:=own_cells (show w0.ownsRow 0 5 1 (.slice p s.length c) s.length (encL s) from hb.2.1) (List.length_pos_iff.2 h0);have hP:PosN c:=⟨by have:=List.length_pos_iff.2 h0;omega⟩;refine E1 Tryz.func57 rfl Tryz.ntmps57 (Wd.it2Lent (fs:=[]) hb rfl rfl (by simp)) ?_;intro a S;refine J6 ?_;intro a S;refine c_drawE [T9 0,T9 1,T9 2,T9 3,T9 5,T9 6,T9 7,T9 8,T9 9,F9 4,F9 10,T9 11] [wX b u (.slice (some ⟨g,0,none⟩) s.length c)] S ?_;intro w S;(iterate 9 (refine dq S ?_;intro a S));refine dl (sq S ?_);intro a S;refine de S ?_;refine dl ?_;refine sus s.length S (by kernel_rfl) h0 ?_;intro a w S;refine de S ?_;refine dq S ?_;intro a S;refine dn (xtn (kT ?_));refine end1 S (fun _=>rfl)
structure LEv where
 kind:Int
 ok:Int
 ou:Int
 oname:List UInt8
 oo:Int
 og:Int
 ow:Bool
 body:LTerm
 name:List UInt8
 src:List UInt8
 term:LTerm
 user:Int
 node:Int
 num:Int
 keep:Sl Bool
abbrev cEv (x:LEv):List Value:=[.int .i64 x.kind,.int .i64 x.ok,.int .i64 x.ou,str x.oname,.int .i64 x.oo,.int .i64 x.og,.bool x.ow,.int .i64 x.body.kind,.int .i64 x.body.user,.int .i64 x.body.num,str x.body.text,.slice x.body.p x.body.kids.length x.body.cap,str x.name,str x.src,
 .int .i64 x.term.kind,.int .i64 x.term.user,.int .i64 x.term.num,str x.term.text,.slice x.term.p x.term.kids.length x.term.cap,.int .i64 x.user,.int .i64 x.node,.int .i64 x.num,.slice x.keep.p x.keep.xs.length x.keep.cap]
abbrev vEv (x:LEv):Value:=.agg ⟨cEv x⟩
def LEv.e (x:LEv):PEv:=⟨x.kind,x.ok,x.ou,x.oname,x.oo,x.og,x.ow,x.body.t,x.name,x.src,x.term.t,x.user,x.node,x.num,x.keep.xs⟩
def LEv.rng (x:LEv):Prop:=N64 x.kind∧N64 x.ok∧N64 x.ou∧N64 x.oo∧N64 x.og∧N64 x.user∧N64 x.node∧N64 x.num
instance encEv:Enc LEv:=⟨23,cEv,fun _=>rfl,fun x u hu=>by
 simp only[List.mem_cons,List.not_mem_nil,or_false]at hu;rcases hu with rfl | rfl | rfl | rfl | rfl | rfl | rfl | rfl | rfl | rfl | rfl | rfl | rfl | rfl | rfl | rfl | rfl | rfl | rfl | rfl | rfl | rfl | rfl <;> rfl⟩
abbrev zSb:Sl Bool:=⟨none,0,[]⟩
abbrev zLE:LEv:=⟨0,0,0,[],0,0,false,zeroL,[],[],zeroL,0,0,0,zSb⟩
instance layEv:Lay LEv:={ encEv with
 dflt:=zLE
 inn:=fun w x=>LtIn w x.body∧LtIn w x.term∧Lay.inn w x.keep∧x.rng
 mono:=fun w w' x h hx=>⟨LtIn.mono h x.body hx.1,LtIn.mono h x.term hx.2.1,Lay.mono w w' _ h hx.2.2.1,hx.2.2.2⟩ }
instance:SzE LEv 23:=⟨rfl,by decide⟩
instance {x:LEv} : CellsOf x (cEv x):=⟨rfl⟩
instance (priority:=850) hast_ebody {fs:List (World→Prop)}{x:LEv}[h:HasI fs x]:HasT fs x.body:=⟨fun M w hf=>(h.of M w hf).imp fun _ h=>h.1⟩
instance (priority:=850) hast_eterm {fs:List (World→Prop)}{x:LEv}[h:HasI fs x]:HasT fs x.term:=⟨fun M w hf=>(h.of M w hf).imp fun _ h=>h.2.1⟩
instance (priority:=850) hasi_ekeep {fs:List (World→Prop)}{x:LEv}[h:HasI fs x]:HasI fs x.keep:=⟨fun M w hf=>(h.of M w hf).imp fun _ h=>h.2.2.1⟩
class OLt (cs:List Value)(o:Nat):Prop where lt:o < cs.length
def atI (cs:List Value)(o:Nat):Int:=match cs[o]? with
 | some (.int _ n)=>n
 | _=>0
class IntAt (cs:List Value)(o:Nat):Prop where ex:∃ n,cs[o]? = some (.int .i64 n)
theorem IntAt.eq {cs:List Value}{o:Nat}(h:IntAt cs o):cs[o]? = some (.int .i64 (atI cs o)):=by
 obtain ⟨n,hn⟩:=h.ex;rw[atI,hn]
instance (priority:=400) nthIA {cs:List Value}{o:Nat}[h:IntAt cs o]:Nth cs o (.int .i64 (atI cs o)):=⟨h.eq⟩
instance (priority:=400) ssO {cs:List Value}{o:Nat}{v:Value}[h:OLt cs o]:SetSeg cs o [v] (cs.set o v):=⟨by
 refine ⟨by have:=h.lt;simp;omega,?_⟩;rw[List.set_eq_take_append_cons_drop,if_pos h.lt];simp⟩
structure OffS (b:Nat) where
 o:Nat
instance encOff {b:Nat} : Enc (OffS b):=⟨1,fun x=>[.pointer (some ⟨b,x.o,none⟩)],fun _=>rfl,fun x u hu=>by obtain rfl:=List.mem_singleton.1 hu;rfl⟩
instance layOff {b:Nat} : Lay (OffS b):={ encOff with dflt:=⟨0⟩,inn:=fun _ _=>True,mono:=fun _ _ _ _ h=>h }
instance {b:Nat} : SzE (OffS b) 1:=⟨rfl,by decide⟩
instance {b:Nat}{x:OffS b} : CellsOf x [.pointer (some ⟨b,x.o,none⟩)]:=⟨rfl⟩
def offE (k:Int):List Nat:=if k=1 then [1,2,4,5] else if k=3 then [21] else if k=4 then [19] else if k=5 then [20,21] else if k=6∨k=7 then [20] else []
abbrev offs (b:Nat)(k:Int):List (OffS b):=(offE k).map OffS.mk
def FieldsR (M:Nat→Prop)(b:Nat)(k:Int)(v:Value)(w:World):Prop:=∃ (p:Option Addr) (c:Nat),v=.slice p (offE k).length c∧Stable M w (GlF p (offs b k))
section
variable {w0:World}{M0:Nat→Prop}{ds:List Deferred}{a:Act}{w:World}{l:List Value}{bs:List Wk.Item}{fs:List (World→Prop)}{M:Nat→Prop}
theorem fields_end {b g:Nat}{k:Int}{cs:List Value}{T:TypeId}(S:St w0 M0 ds a w l bs fs)[hb:HasBox bs g T cs](hc:cs=encL (offs b k))(hn:M0 g∨w0.heap.size≤g)(hM:∀ k,M k→k < w0.heap.size)(h0:¬M0 g):Stable M w (GlF (some ⟨g,0,none⟩) (offs b k)):=by
 have hbx:w.heap[g]? = some (.cells cs.toArray T (0,0)):=S.wd.held _ hb.mem;have hgl:GlF (some ⟨g,0,none⟩) (offs b k) w:=⟨⟨nofun,fun ad had j u hj=>by
  cases had;rw[show (⟨g,0,none⟩:Addr).add j=⟨g,j,none⟩ from add_lit g j];simp only[World.cell?,hbx];rw[←hc]at hj;simpa using hj⟩,fun _ _=>trivial⟩
 intro w' hw';have hg:w'.heap[g]? = some (.cells cs.toArray T (0,0)):=by
  rw[hw'.blk (Array.getElem?_eq_some_iff.1 hbx).1 (fun hm=>by have:=hM _ hm;rcases hn with h | h;exact h0 h;omega),hbx]
 exact ⟨⟨nofun,fun ad had j u hj=>by
  cases had;rw[show (⟨g,0,none⟩:Addr).add j=⟨g,j,none⟩ from add_lit g j];simp only[World.cell?,hg];rw[←hc]at hj;simpa using hj⟩,fun _ _=>trivial⟩
end
theorem evf_c (b:Nat)(cs:List Value)(k:Int)(hk0:∃ r,cs=.int .i64 k::r)(M:Nat→Prop)(w0:World)(hM:∀ k,M k→k < w0.heap.size)(hb:Fx w0 (BoxF b 47 cs)) :
  Ret Tryz.prog 98 [pB b] w0 (fun _=>False) fun v w'=>FieldsR M b k v w':=by
 obtain ⟨r,rfl⟩:=hk0;refine E1 Tryz.func98 rfl Tryz.ntmps98 (Wd.begin (fs:=[BoxF b 47 (.int .i64 k::r)]) (by simpa using hb)) ?_;intro a S;refine J21 ?_;clear S;intro a S;refine kC S (fun h2=>?_) (fun h2=>?_);refine kS ?_;refine c_drawD [T9 0,T9 1,T9 2,T9 3,T9 4,T9 5,T9 6,T9 7,T9 8,T9 9,T9 10,T9 11,T9 12,T9 13,T9 14,T9 15,F9 16,T9 17] [] S ?_;clear S;intro w S;(iterate 16 (refine dq S ?_;clear S;intro a S));refine dl (sn S ?_);clear S;intro b25 a w S;refine de S ?_;refine dq S ?_;clear S;intro a S;refine dn (xtn (kT (xbr (xtr ?_))));have hk:k=1:=by simpa using h2
 have hs:=fields_end (M:=M) (b:=b) (k:=k) (g:=b25) S (by rw[hk];rfl) (S.boxNew b25) hM (fun h=>h);refine end1 S (fun _=>⟨some ⟨b25,0,none⟩,4,by rw[hk];rfl,hs⟩);refine J6 ?_;clear S;intro a S;refine kC S (fun h4=>?_) (fun h4=>?_);refine J5 ?_;clear S;intro a S;refine sn S ?_;clear S;intro b31 a w S;refine J6 ?_;clear S;intro a S;have hk:k=3:=by simpa using h4
 have hs:=fields_end (M:=M) (b:=b) (k:=k) (g:=b31) S (by rw[hk];rfl) (S.boxNew b31) hM (fun h=>h);refine end1 S (fun _=>⟨some ⟨b31,0,none⟩,1,by rw[hk];rfl,hs⟩);refine J6 ?_;clear S;intro a S;refine kC S (fun h6=>?_) (fun h6=>?_);refine J5 ?_;clear S;intro a S;refine sn S ?_;clear S;intro b37 a w S;refine J6 ?_;clear S;intro a S;have hk:k=4:=by simpa using h6
 have hs:=fields_end (M:=M) (b:=b) (k:=k) (g:=b37) S (by rw[hk];rfl) (S.boxNew b37) hM (fun h=>h);refine end1 S (fun _=>⟨some ⟨b37,0,none⟩,1,by rw[hk];rfl,hs⟩);refine J6 ?_;clear S;intro a S;refine kC S (fun h8=>?_) (fun h8=>?_);refine kS ?_;refine c_drawD [T9 0,T9 1,T9 2,T9 3,T9 4,T9 5,F9 6,T9 7] [] S ?_;clear S;intro w S;(iterate 6 (refine dq S ?_;clear S;intro a S));refine dl (sn S ?_);clear S;intro b46 a w S;refine de S ?_;refine dq S ?_;clear S;intro a S;refine dn (xtn (kT (xbr (xtr ?_))));have hk:k=5:=by simpa using h8
 have hs:=fields_end (M:=M) (b:=b) (k:=k) (g:=b46) S (by rw[hk];rfl) (S.boxNew b46) hM (fun h=>h);refine end1 S (fun _=>⟨some ⟨b46,0,none⟩,2,by rw[hk];rfl,hs⟩);refine J7 ?_;clear S;intro a S;refine kC S (fun h10=>?_) (fun h10=>?_);refine kK (xtn ?_);refine kC S (fun h10=>?_) (fun h10=>?_);refine J5 ?_;clear S;intro a S;refine sn S ?_;clear S;intro b53 a w S;refine J6 ?_;clear S;intro a S;have hk:k=6:=of_decide_eq_true (by assumption);have hs:=fields_end (M:=M) (b:=b) (k:=k) (g:=b53) S (by rw[hk];rfl) (S.boxNew b53) hM (fun h=>h);refine end1 S (fun _=>⟨some ⟨b53,0,none⟩,1,by rw[hk];rfl,hs⟩);refine J9 ?_;clear S;intro a S;exfalso;have hk:k=6:=of_decide_eq_true (by assumption);rw[hk]at h10;cases h10;refine J5 ?_;clear S;intro a S;refine kC S (fun h11=>?_) (fun h11=>?_);refine J5 ?_;clear S;intro a S;refine sn S ?_;clear S;intro b53 a w S;refine J6 ?_;clear S;intro a S;have hk:k=7:=by simpa using h11
 have hs:=fields_end (M:=M) (b:=b) (k:=k) (g:=b53) S (by rw[hk];rfl) (S.boxNew b53) hM (fun h=>h);refine end1 S (fun _=>⟨some ⟨b53,0,none⟩,1,by rw[hk];rfl,hs⟩);refine J9 ?_;clear S;intro a S;have hk:offE k=[]:=by
  simp only[decide_eq_false_iff_not]at h2 h4 h6 h8 h10 h11;simp[offE,h2,h4,h6,h8,h10,h11]
 refine end1 S (fun _=>⟨none,0,by rw[hk];rfl,?_⟩);rw[offs,hk];exact fun _ _=>gl_nil
theorem nthG_off (b:Nat)(k:Int)(j:Nat)(h:j < (offE k).length):(nthG (offs b k) j).o=(offE k).getD j 0:=by
 have h1:=nthG_get (xs:=offs b k) (k:=j) (by simpa using h);rw[List.getElem?_map,List.getElem?_eq_getElem h]at h1;simp only[Option.map_some,Option.some.injEq]at h1;rw[←h1,List.getD_eq_getElem?_getD,List.getElem?_eq_getElem h];rfl
def putOff (src:List Value):List Nat→List Value→List Value
 | [],cs=>cs
 | o::os,cs=>putOff src os (cs.set o (.int .i64 (atI src o)))
theorem putOff_snoc (src:List Value)(o:Nat):∀ (os:List Nat) (cs:List Value),putOff src (os++[o]) cs=(putOff src os cs).set o (.int .i64 (atI src o))
 | [],cs=>rfl
 | q::os,cs=>putOff_snoc src o os _
theorem putOff_len (src:List Value):∀ (os:List Nat) (cs:List Value),(putOff src os cs).length=cs.length
 | [],_=>rfl
 | q::os,cs=>by rw[putOff,putOff_len src os,List.length_set]
theorem offE_ints (x:LEv){o:Nat}(h:o∈offE x.kind):(∃ n,(cEv x)[o]? = some (.int .i64 n))∧o < 23:=by
 unfold offE at h
 repeat' split at h
 all_goals simp only[List.mem_cons,List.not_mem_nil,or_false]at h
 ·rcases h with rfl | rfl | rfl | rfl <;> exact ⟨⟨_,rfl⟩,by omega⟩
 ·obtain rfl:=h;exact ⟨⟨_,rfl⟩,by omega⟩
 ·obtain rfl:=h;exact ⟨⟨_,rfl⟩,by omega⟩
 ·rcases h with rfl | rfl <;> exact ⟨⟨_,rfl⟩,by omega⟩
 ·obtain rfl:=h;exact ⟨⟨_,rfl⟩,by omega⟩
abbrev zCE (k:Int):List Value:=[.int .i64 k,.int .i64 0,.int .i64 0,.string ⟨#[]⟩,.int .i64 0,.int .i64 0,.bool false,.int .i64 0,.int .i64 0,.int .i64 0,.string ⟨#[]⟩,.slice none 0 0,.string ⟨#[]⟩,.string ⟨#[]⟩,.int .i64 0,.int .i64 0,.int .i64 0,.string ⟨#[]⟩,.slice none 0 0,.int .i64 0,.int .i64 0,.int .i64 0,.slice none 0 0]
theorem offE_len (k:Int):(offE k).length≤4:=by
 unfold offE
 repeat' split
 all_goals simp
def midE (x:LEv):LEv:={ zLE with kind:=x.kind,ok:=if x.kind=1 then x.ok else 0,ou:=if x.kind=1 then x.ou else 0,oo:=if x.kind=1 then x.oo else 0,og:=if x.kind=1 then x.og else 0,num:=if x.kind=3∨x.kind=5 then x.num else 0,user:=if x.kind=4 then x.user else 0,node:=if x.kind=5∨x.kind=6∨x.kind=7 then x.node else 0 }
theorem mid_cells (x:LEv):putOff (cEv x) (offE x.kind) (zCE x.kind)=cEv (midE x):=by
 unfold offE midE
 by_cases h1:x.kind=1
 simp only[h1,if_pos];rfl
 by_cases h3:x.kind=3
 simp only[h3];rfl
 by_cases h4:x.kind=4
 simp only[h4];rfl
 by_cases h5:x.kind=5
 simp only[h5];rfl
 by_cases h6:x.kind=6
 simp only[h6];rfl
 by_cases h7:x.kind=7
 simp only[h7];rfl;simp only[if_neg h1,if_neg h3,if_neg h4,if_neg h5,h6,h7,h3,h5,or_self,if_false];rfl
theorem n64_if {c:Prop}[Decidable c]{n:Int}(h:N64 n):N64 (if c then n else 0):=by
 split;exact h;exact ⟨by omega,by omega⟩
theorem mid_rng {x:LEv}(h:x.rng):(midE x).rng:=⟨h.1,n64_if h.2.1,n64_if h.2.2.1,n64_if h.2.2.2.1,n64_if h.2.2.2.2.1,n64_if h.2.2.2.2.2.1,n64_if h.2.2.2.2.2.2.1,n64_if h.2.2.2.2.2.2.2⟩
theorem zeroLT:zeroL.t=zeroT:=by rw[LTerm.t_eq];rfl
def SpokenR (M:Nat→Prop)(x:LEv)(v:Value)(w:World):Prop:=∃ y:LEv,v=vEv y∧Stable M w (InF y)∧y.e=spokenE x.e
theorem spoken_c (x:LEv)(M:Nat→Prop)(w0:World)(hM:∀ k,M k→k < w0.heap.size)(hf:Stable M w0 (InF x)):Ret Tryz.prog 106 [vEv x] w0 (fun _=>False) fun v w'=>SpokenR M x v w':=by
 refine E1 Tryz.func106 rfl Tryz.ntmps106 (Wd.beginM (M:=M) (fs:=[InF x]) hM (by simpa using hf)) ?_;intro a S;refine kS (kR ?_);refine sa S ?_;intro b1 a w S;refine sa S ?_;intro b2 a w S;refine J7 ?_;intro a S;refine sa S ?_;intro b3 a w S;refine Y5 ?_;intro a w S;refine sr S (evf_c b3 (zCE x.kind) x.kind ⟨_,rfl⟩ _ w (foots_lt S) (BoxF.stable (S.boxF b3) (fun h=>h))) ?_;rintro _ a w ⟨p4,c4,rfl,hf4⟩ S;replace S:=S.add hf4;refine J6 ?_;intro a S;refine sr S (evf_c b1 (cEv x) x.kind ⟨_,rfl⟩ _ w (foots_lt S) (BoxF.stable (S.boxF b1) (fun h=>h))) ?_;rintro _ a w ⟨p11,c11,rfl,hf11⟩ S;replace S:=S.add hf11;refine J5 ?_;intro a S;have hol:=offE_len x.kind;refine c_fore2 S (fun(j:Nat) (cs:List Value) uu=>[(5,uu 5),(0,uu 6),(6,.int .i64 (j:Nat)),(0,uu 14),(0,uu 15),(0,uu 16),(0,uu 17),(0,uu 18),(0,uu 19),(0,uu 20),(0,uu 21),(0,uu 22),(0,uu 23),(0,uu 24),(0,uu 25),(0,uu 26)]) (fun(j:Nat) (cs:List Value)=>[Wk.box b3 47 cs,Wk.box b2 47 (zCE 0),Wk.box b1 47 (cEv x),ext M]) (fun(j:Nat) (cs:List Value)=>[GlF p11 (offs b1 x.kind),GlF p4 (offs b3 x.kind),InF x]) (fun(j:Nat) (cs:List Value)=>j≤(offE x.kind).length∧cs=putOff (cEv x) ((offE x.kind).take j) (zCE x.kind)) (fun(j:Nat) (cs:List Value)=>(offE x.kind).length - j) (0) (zCE x.kind) ?_ S.uu ?_ ?_;exact ⟨Nat.zero_le _,rfl⟩
 first | exact S | exact S.sub _ _
 clear S;rintro j cs uu a w ⟨hj,hcs⟩ S;refine J6 ?_;intro a S;refine kC S (fun h4=>?_) (fun h4=>?_);refine kK (xtn (kS (kB (kS ?_))));have hjl:j < (offE x.kind).length:=by simp at h4;omega
 have hK:KLt j (offE x.kind).length:=⟨hjl⟩;have hK1:KLt j (offs b1 x.kind).length:=⟨by simpa using hjl⟩;have hK3:KLt j (offs b3 x.kind).length:=⟨by simpa using hjl⟩;have hmem:(offE x.kind).getD j 0∈offE x.kind:=by
  rw[List.getD_eq_getElem?_getD,List.getElem?_eq_getElem hjl];exact List.getElem_mem hjl
 obtain ⟨hi,hlt⟩:=offE_ints x hmem;have hIA:IntAt (cEv x) ((offE x.kind).getD j 0):=⟨hi⟩;have hOL:OLt cs ((offE x.kind).getD j 0):=⟨by rw[hcs,putOff_len];exact hlt⟩;refine J4 ?_;intro a S;rw[nthG_off b1 x.kind j hjl]at S;refine J4 ?_;intro a S;refine c_drawD [T9 0,T9 1,T9 2,T9 3,T9 4,T9 5,T9 6,T9 7,F9 8] [b3] S ?_;intro w S;refine J4 ?_;intro a S;rw[nthG_off b3 x.kind j hjl]at S;(iterate 4 (refine dq S ?_;intro a S));refine dl (sw S ?_);intro a w S;refine de S ?_;refine dn (xbn (xtn (kR ?_)));(iterate 2 (refine sq S ?_;intro a S));refine kN (xtn ?_);rw[w6 ((j:Int)+1)]at S;refine ⟨j+1,cs.set ((offE x.kind).getD j 0) (.int .i64 (atI (cEv x) ((offE x.kind).getD j 0))),S.uu,⟨hjl,?_⟩,S.sub _ _,by omega⟩;have ht:(offE x.kind).take (j+1)=(offE x.kind).take j++[(offE x.kind).getD j 0]:=by
  rw[List.take_add_one,List.getD_eq_getElem?_getD,List.getElem?_eq_getElem hjl];rfl
 rw[ht,putOff_snoc,hcs];refine kE (xte (xte (xbe (xtn (kS (kS ?_))))));have hje:j=(offE x.kind).length:=by simp at h4;omega
 rw[hje,List.take_length,mid_cells]at hcs;subst hcs;refine J12 ?_;intro a S;refine kC S (fun h9=>?_) (fun h9=>?_);refine Y20 ?_;intro a w S;refine Y9 ?_;intro a w S;have hk:x.kind=1:=by simpa using h9
 have hlat:=S.laterFact (M:=M) (Φ:=InF x) (by simp);refine end1 S (fun _=>⟨{ midE x with ow:=x.ow,oname:=x.oname,body:=x.body },rfl,hlat.imp fun w h=>⟨h.1,zeroL_in w,⟨Nat.le_refl _,Nat.zero_le _,gl_nil⟩,mid_rng h.2.2.2⟩,?_⟩);simp[zeroLT,LEv.e,midE,spokenE,hk];refine J6 ?_;intro a S;refine kC S (fun h11=>?_) (fun h11=>?_);refine Y19 ?_;intro a w S;have hk:x.kind=2:=by simpa using h11
 have hlat:=S.laterFact (M:=M) (Φ:=InF x) (by simp);refine end1 S (fun _=>⟨{ midE x with name:=x.name,term:=x.term },rfl,hlat.imp fun w h=>⟨zeroL_in w,h.2.1,⟨Nat.le_refl _,Nat.zero_le _,gl_nil⟩,mid_rng h.2.2.2⟩,?_⟩);simp[zeroLT,LEv.e,midE,spokenE,hk];refine J6 ?_;intro a S;refine kC S (fun h13=>?_) (fun h13=>?_);refine Y19 ?_;intro a w S;have hk:x.kind=3:=by simpa using h13
 have hlat:=S.laterFact (M:=M) (Φ:=InF x) (by simp);refine end1 S (fun _=>⟨{ midE x with name:=x.name,src:=x.src },rfl,hlat.imp fun w h=>⟨zeroL_in w,zeroL_in w,⟨Nat.le_refl _,Nat.zero_le _,gl_nil⟩,mid_rng h.2.2.2⟩,?_⟩);simp[zeroLT,LEv.e,midE,spokenE,hk];refine J6 ?_;intro a S;refine kC S (fun h15=>?_) (fun h15=>?_);refine Y15 ?_;intro a w S;have hk:x.kind=6:=by simpa using h15
 have hlat:=S.laterFact (M:=M) (Φ:=InF x) (by simp);refine end1 S (fun _=>⟨{ midE x with keep:=x.keep },rfl,hlat.imp fun w h=>⟨zeroL_in w,zeroL_in w,h.2.2.1,mid_rng h.2.2.2⟩,?_⟩);simp[zeroLT,LEv.e,midE,spokenE,hk];refine Y10 ?_;intro a w S;simp only[decide_eq_false_iff_not]at h9 h11 h13 h15;have hlat:=S.laterFact (M:=M) (Φ:=InF x) (by simp);refine end1 S (fun _=>⟨midE x,rfl,hlat.imp fun w h=>⟨zeroL_in w,zeroL_in w,⟨Nat.le_refl _,Nat.zero_le _,gl_nil⟩,mid_rng h.2.2.2⟩,?_⟩)
 by_cases h4k:x.kind=4
 simp[zeroLT,LEv.e,midE,spokenE,h4k]
 by_cases h5k:x.kind=5
 simp[zeroLT,LEv.e,midE,spokenE,h5k]
 by_cases h7k:x.kind=7
 simp[zeroLT,LEv.e,midE,spokenE,h7k];simp[zeroLT,LEv.e,midE,spokenE,h9,h11,h13,h15,h4k,h5k,h7k]
theorem equalBo_c (xs ys:List Bool)(p q:Option Addr)(c e:Nat)(w0:World)(hl:xs.length≤1000000000)(hx:Fx w0 (GlF p xs))(hy:Fx w0 (GlF q ys)) :
  Ret Tryz.prog 94 [.slice p xs.length c,.slice q ys.length e] w0 (fun _=>False) fun v _=>v=.bool (decide (xs=ys)):=by
 refine E1 Tryz.func94 rfl Tryz.ntmps94 (Wd.begin (fs:=[GlF p xs,GlF q ys]) (by simp;exact ⟨hx,hy⟩)) ?_;intro a S;refine J15 ?_;intro a S;refine kC S (fun h1=>?_) (fun h1=>?_);refine J7 ?_;intro a S;have hne:xs≠ys:=fun h=>by rw[h]at h1;simp at h1
 refine end1 S (fun _=>?_);rw[decide_eq_false hne];refine J11 ?_;intro a S;have hle:xs.length=ys.length:=by simp at h1;omega
 refine c_forb1 S (fun(k:Nat) uu=>[(4,uu 4),(0,uu 5),(7,.int .i64 (k:Nat)),(0,uu 14),(0,uu 15),(0,uu 16),(0,uu 17),(0,uu 18),(0,uu 19),(0,uu 20),(0,uu 21),(0,uu 22),(0,uu 23),(0,uu 24),(0,uu 25)]) (fun(k:Nat)=>k≤xs.length∧xs.take k=ys.take k) (fun(k:Nat)=>xs.length - k) (0) ?_ S.uu ?_ ?_;exact ⟨Nat.zero_le _,rfl⟩
 first | exact S | exact S.sub _ _
 clear S;rintro k uu a w ⟨hk,hrel⟩ S;refine J6 ?_;intro a S;refine kC S (fun h4=>?_) (fun h4=>?_);refine kK (xtn (kS (kB (kS ?_))));have hkl:k < xs.length:=by simpa using h4
 have hK1:KLt k xs.length:=⟨hkl⟩;have hK2:KLt k ys.length:=⟨by omega⟩;refine J6 ?_;intro a S;refine c_drawD [T9 0,T9 1,T9 2,T9 3,T9 4,T9 5,T9 6,T9 7,T9 8] [] S ?_;intro w S;(iterate 9 (refine dq S ?_;intro a S));refine dn (xtn ?_);refine kC S (fun h6=>?_) (fun h6=>?_);refine J11 ?_;intro a S;have h9:nthG xs k≠nthG ys k:=by simpa using h6
 have hne:xs≠ys:=fun h=>h9 (by rw[h])
 refine end1 S (fun _=>?_);rw[decide_eq_false hne];refine J8 ?_;intro a S;have h9:nthG xs k=nthG ys k:=by simpa using h6
 rw[w6 ((k:Int)+1)]at S;exact ⟨k+1,S.uu,⟨hkl,by rw[nthG_take hkl,nthG_take (show k < ys.length by omega),hrel,h9]⟩,S.sub _ _,by omega⟩;refine J11 ?_;intro a S;have h9:xs.length≤k:=by simpa using h4
 rw[List.take_of_length_le h9,List.take_of_length_le (by omega)]at hrel;refine end1 S (fun _=>?_);rw[decide_eq_true hrel]
class FitE (x:LEv):Prop where
 keep:x.keep.xs.length≤1000000
instance callKeep {fs:List (World→Prop)}{bs:List Wk.Item}{x y:LEv}[h:HasI fs x][h2:HasI fs y][hc:FitE x]:CallV Tryz.prog 94 [.slice x.keep.p x.keep.xs.length x.keep.cap,.slice y.keep.p y.keep.xs.length y.keep.cap] bs fs (.bool (decide (x.keep.xs=y.keep.xs))):=⟨fun w m=>equalBo_c x.keep.xs y.keep.xs x.keep.p y.keep.p x.keep.cap y.keep.cap w (by have:=hc.keep;omega) ((m.i0 x).imp fun _ h=>h.2.2.1.2.2) ((m.i0 y).imp fun _ h=>h.2.2.1.2.2)⟩
abbrev cOp (x:LEv):List Value:=[.int .i64 x.ok,.int .i64 x.ou,str x.oname,.int .i64 x.oo,.int .i64 x.og,.bool x.ow,.int .i64 x.body.kind,.int .i64 x.body.user,.int .i64 x.body.num,str x.body.text,.slice x.body.p x.body.kids.length x.body.cap]
theorem evsame_c (x y:LEv)(hfit:FitE x)(w0:World)(hx:Fx w0 (InF x))(hy:Fx w0 (InF y)):Ret Tryz.prog 50 [vEv x,vEv y] w0 (fun _=>False) fun v _=>v=.bool (sameE x.e y.e):=by
 refine E1 Tryz.func50 rfl Tryz.ntmps50 (Wd.begin (fs:=[InF x,InF y]) (by simp;exact ⟨hx,hy⟩)) ?_;intro a S;refine kS (kR ?_);refine sa S ?_;intro b2 a w S;refine sa S ?_;intro b3 a w S;refine J4 ?_;intro a S;refine c_drwe2 (.q 0 (.q 1 (.q 2 (.q 3 (.b2 4 5 (.l 5 (.l 6 (.l 7 (.e)))) (.l 4 (.l 6 (.l 7 (.e))))))))) S (fun(ba:Nat) (bb:Nat) uu=>[(5,.pointer (some ⟨ba,0,none⟩)),(0,.pointer (some ⟨bb,0,none⟩)),(2,uu 9),(0,uu 10),(0,uu 11),(0,uu 12)]) [Wk.box b3 47 (cEv y),Wk.box b2 47 (cEv x)] (fun(ba:Nat) (bb:Nat)=>[Wk.box ba 44 (cOp x),Wk.box bb 44 (cOp y),Wk.box b3 47 (cEv y),Wk.box b2 47 (cEv x)]) (fun(ba:Nat) (bb:Nat)=>[InF x,InF y]) (fun(ba:Nat) (bb:Nat)=>True) ?_ ?_
 ·intro w S
  (iterate 4 (refine tq S ?_;intro a S));refine tb2 ?_ ?_
  ·refine sa S ?_;intro b5 a w S;refine te S ?_;refine tl (sa S ?_);intro b6 a w S;refine te S ?_;refine tl (sw S ?_);intro a w S;refine te S ?_;refine tl (sw S ?_);intro a w S;refine te S ?_;refine tn ?_
   first
   | exact ⟨b5,b6,S.uu,trivial,S.sub _ _⟩
   | exact ⟨b5,b6,S.uu,trivial,(S.perm _ (List.Perm.swap _ _ _)).sub _ _⟩
  ·refine sa S ?_;intro b6 a w S;refine te S ?_;refine tl (sa S ?_);intro b5 a w S;refine te S ?_;refine tl (sw S ?_);intro a w S;refine te S ?_;refine tl (sw S ?_);intro a w S;refine te S ?_;refine tn ?_
   first
   | exact ⟨b5,b6,S.uu,trivial,S.sub _ _⟩
   | exact ⟨b5,b6,S.uu,trivial,(S.perm _ (List.Perm.swap _ _ _)).sub _ _⟩
 clear S;rintro ba bb uu a w hrel S;refine J20 ?_;intro a S;refine J20 ?_;intro a S;refine Y20 ?_;intro a w S;refine J20 ?_;intro a S;refine J20 ?_;intro a S;refine Y22 ?_;intro a w S;refine end1 S (fun _=>?_);rfl
theorem zero_c (t:LTerm)(w0:World)(hf:Fx w0 (LtF t)):Ret Tryz.prog 105 [vL t] w0 (fun _=>False) fun v _=>v=.bool (sameF t.t zeroT):=by
 refine E1 Tryz.func105 rfl Tryz.ntmps105 (Wd.begin (fs:=[LtF t]) (by simpa using hf)) ?_;intro a S;refine kS (kR ?_);refine sa S ?_;intro b1 a w S;refine J7 ?_;intro a S;refine sr S (same_c t zeroL w (S.t0 _) (S.t0 _)) ?_;rintro _ a w rfl S;refine J4 ?_;intro a S;refine end1 S (fun _=>rfl)
instance {t:LTerm}{bs fs}[HasT fs t]:CallV Tryz.prog 105 [vL t] bs fs (.bool (sameF t.t zeroT)):=⟨fun w m=>zero_c t w (m.t0 _)⟩
theorem bad_c (t:LTerm)(w0:World)(hf:Fx w0 (LtF t)):Ret Tryz.prog 104 [vL t] w0 (fun _=>False) fun v _=>v=.bool (badT t.t):=by
 refine E1 Tryz.func104 rfl Tryz.ntmps104 (Wd.begin (fs:=[LtF t]) (by simpa using hf)) ?_;intro a S;refine kS (kR ?_);refine sa S ?_;intro b1 a w S;refine Y17 ?_;intro a w S;refine end1 S (fun _=>?_);simp[badT]
instance {t:LTerm}{bs fs}[HasT fs t]:CallV Tryz.prog 104 [vL t] bs fs (.bool (badT t.t)):=⟨fun w m=>bad_c t w (m.t0 _)⟩
instance callEvSame {x y:LEv}{bs fs}[hx:HasI fs x][hy:HasI fs y][hf:FitE x]:CallV Tryz.prog 50 [vEv x,vEv y] bs fs (.bool (sameE x.e y.e)):=⟨fun w m=>evsame_c x y hf w (m.i0 x) (m.i0 y)⟩
theorem zLE_in (w:World):InF zLE w:=⟨zeroL_in w,zeroL_in w,⟨Nat.le_refl _,Nat.zero_le _,gl_nil⟩,by simp[LEv.rng,N64]⟩
theorem pickE {c:Bool}{M:Nat→Prop}{w:World}{v:Value}{x:LEv}(h1:c=true→SpokenR M x v w)(h2:c=false→v=vEv zLE):∃ y:LEv,v=vEv y∧Stable M w (InF y)∧(c=true→y.e=spokenE x.e):=by
 cases c with
 | false=>exact ⟨zLE,h2 rfl,fun w' _=>zLE_in w',nofun⟩
 | true=>
  obtain ⟨y,e1,e2,e3⟩:=h1 rfl;exact ⟨y,e1,e2,fun _=>e3⟩
instance opMax3 {l:Cx}{bs:List Wk.Item}{fs:List (World→Prop)}{x y z:Operand}{k:IntKind}{m n o:Int}{ty t t' t2:TypeId}[Ev l x (.int k m)][Ev l y (.int k n)][Ev l z (.int k o)]:OpQ Tryz.prog (.call { callee:=.builtin .max,args:=#[x,y,z],argTypes:=#[t,t',t2] }) ty l bs fs (.int k (max (max m n) o)):=⟨fun ρ w h _=>by
 have e2:∀ (a b:Int) (w:World),(Builtin.max2 (.int k a) (.int k b)).run Tryz.prog w=.ok (.int k (max a b)) w:=fun a b w=>by
  simp[Builtin.max2];split <;> omega
 simp[xop,execOp,resolve,invoke,builtin,Builtin.max_,e2,h.ev (x:=x) (v:=.int k m),h.ev (x:=y) (v:=.int k n),h.ev (x:=z) (v:=.int k o),Sem.run_bind]⟩
theorem wrong_first (x:LEv):(decide (x.kind < 1)||decide (7 < x.kind)||decide ((2048:Int) < (x.keep.xs.length:Nat)))=(decide (x.e.kind < 1)||decide (7 < x.e.kind)||decide (2048 < x.e.keep.length)):=by
 have:decide ((2048:Int) < (x.keep.xs.length:Nat))=decide (2048 < x.e.keep.length):=by
  rw[Bool.eq_iff_iff,decide_eq_true_eq,decide_eq_true_eq]
  show _↔2048 < x.keep.xs.length
  omega
 rw[this];rfl
theorem wrong_names {a b c:Nat} : decide ((64:Int) < max (max ((a:Nat):Int) ((b:Nat):Int)) ((c:Nat):Int))=(decide (64 < a)||decide (64 < b)||decide (64 < c)):=by
 rw[Bool.eq_iff_iff];simp only[Bool.or_eq_true,decide_eq_true_eq];omega
theorem wrong_c (x:LEv)(hfit:FitE x)(w0:World)(hx:Fx w0 (InF x)):Ret Tryz.prog 60 [vEv x] w0 (fun _=>False) fun v _=>v=.bool (wrongV x.e):=by
 refine E1 Tryz.func60 rfl Tryz.ntmps60 (Wd.begin (fs:=[InF x]) (by simpa using hx)) ?_;intro a S;refine kS (kR ?_);refine sa S ?_;clear S;intro b1 a w S;refine J22 ?_;clear S;intro a S;refine kC S (fun h1=>?_) (fun h1=>?_);refine J7 ?_;clear S;intro a S;refine end1 S (fun _=>?_);rw[wrong_first]at h1;rw[wrongV,h1];simp;refine J20 ?_;clear S;intro a S;refine J5 ?_;clear S;intro a S;refine c_drawD [T9 0,T9 1,T9 2,T9 3,T9 4,F9 5,T9 6,T9 7,T9 8,T9 9,T9 10,T9 11,F9 12,T9 13,T9 14,T9 15,T9 16,F9 17,F9 18,T9 19,T9 20,T9 21] [] S ?_;clear S;intro w S;(iterate 2 (refine dq S ?_;clear S;intro a S));(iterate 3 (refine dqG S ?_;clear S;intro a S));refine dl ?_;refine gC S ?_;clear S;intro a w S;refine de S ?_;(iterate 2 (refine dq S ?_;clear S;intro a S));(iterate 4 (refine dqG S ?_;clear S;intro a S));refine dl ?_;refine gC S ?_;clear S;intro a w S;refine de S ?_;(iterate 2 (refine dq S ?_;clear S;intro a S));(iterate 2 (refine dqG S ?_;clear S;intro a S));refine dl ?_;refine gcr S (vEv zLE) (fun _=>spoken_c x _ w (foots_lt S) (S.i x)) ?_;clear S;rintro vy a w hz1 hz2 S;obtain ⟨y,rfl,hyf,hye⟩:=pickE hz1 hz2;clear hz1 hz2;replace S:=S.add hyf;refine de S ?_;refine dl ?_;refine gC S ?_;clear S;intro a w S;refine de S ?_;refine dqG S ?_;clear S;intro a S;(iterate 2 (refine dq S ?_;clear S;intro a S));refine dn (xtn (kT ?_));refine end1 S (fun _=>?_);rw[wrong_first]at h1;rw[wrong_names]at hye⊢
 rw[wrongV,h1,Bool.false_or]
 show Value.bool ((decide (64 < x.name.length)||decide (64 < x.src.length)||decide (64 < x.oname.length))||badT x.term.t||badT x.body.t||!sameE x.e y.e)=Value.bool ((decide (64 < x.name.length)||decide (64 < x.src.length)||decide (64 < x.oname.length))||badT x.term.t||badT x.body.t||!sameE x.e (spokenE x.e))
 cases hq:((decide (64 < x.name.length)||decide (64 < x.src.length)||decide (64 < x.oname.length))||badT x.term.t||badT x.body.t) with
 | true=>simp
 | false=>rw[hye (by rw[hq];rfl)]
theorem indexEv_c (F:Nat)[EntF Tryz.prog F](ca:List Value)(q:LEv→Bool)(xs:List LEv)(p:Option Addr)(n c:Nat)(w0:World)(hn:xs.length=n)(hl:n≤9223372036854775807)(hx:Fx w0 (GlF p xs))
  (hF:∀ x∈xs,∀ w,Agree (fun _=>False) w0 w→Ret Tryz.prog F (vEv x::ca) w (fun _=>False) fun v _=>v=.bool (q x)) :
  Ret Tryz.prog 103 [.slice p n c,.func (.func F) #[] ⟨ca⟩] w0 (fun _=>False) fun v _=>v=.int .i64 (idxG q xs 0):=by
 refine E1 Tryz.func103 rfl Tryz.ntmps103 (Wd.begin (fs:=[GlF p xs]) (by simpa using hx)) ?_;intro a S;refine J14 ?_;intro a S;refine c_forb1 S (fun(k:Nat) uu=>[(4,uu 4),(0,uu 5),(2,.int .i64 (k:Nat)),(0,uu 9),(0,uu 10),(0,uu 11),(0,uu 12),(0,uu 13),(0,uu 14),(0,uu 15),(0,uu 16),(0,uu 17),(0,uu 18)]) (fun(k:Nat)=>k≤n∧idxG q (xs.drop k) k=idxG q xs 0) (fun(k:Nat)=>n - k) (0) ?_ S.uu ?_ ?_;exact ⟨Nat.zero_le _,rfl⟩
 first | exact S | exact S.sub _ _
 clear S;rintro k uu a w ⟨hk,hrel⟩ S;refine J6 ?_;intro a S;refine kC S (fun h2=>?_) (fun h2=>?_);refine J11 ?_;intro a S;have hkl:k < n:=by simp at h2;omega
 have hK:KLt k n:=⟨hkl⟩;have hK2:KLt k xs.length:=⟨by omega⟩;rw[nthG_drop (show k < xs.length by omega),idxG]at hrel;refine J6 ?_;intro a S;refine sr S (hF (nthG xs k) (nthG_mem (by omega)) w S.wd.agree) ?_;rintro _ a w rfl S;refine kN (xtn ?_);refine kC S (fun h4=>?_) (fun h4=>?_);refine J12 ?_;intro a S;rw[if_pos h4]at hrel;refine end1 S (fun _=>?_);rw[hrel];refine J8 ?_;intro a S;rw[if_neg (by simpa using h4)]at hrel;rw[w6 ((k:Int)+1)]at S;exact ⟨k+1,S.uu,⟨hkl,by rw[←hrel];rfl⟩,S.sub _ _,by omega⟩;refine J11 ?_;intro a S;rw[List.drop_of_length_le (by simp at h2;omega)]at hrel;refine end1 S (fun _=>?_);rw[←hrel];rfl
theorem containsEv_c (F:Nat)[EntF Tryz.prog F](ca:List Value)(q:LEv→Bool)(xs:List LEv)(p:Option Addr)(n c:Nat)(w0:World)(hn:xs.length=n)(hl:n≤9223372036854775807)(hx:Fx w0 (GlF p xs))
  (hF:∀ x∈xs,∀ w,Agree (fun _=>False) w0 w→Ret Tryz.prog F (vEv x::ca) w (fun _=>False) fun v _=>v=.bool (q x)) :
  Ret Tryz.prog 59 [.slice p n c,.func (.func F) #[] ⟨ca⟩] w0 (fun _=>False) fun v _=>v=.bool (xs.any q):=by
 refine E1 Tryz.func59 rfl Tryz.ntmps59 (Wd.begin (fs:=[GlF p xs]) (by simpa using hx)) ?_;intro a S;refine J9 ?_;intro a S;refine sr S (indexEv_c F ca q xs p n c _ hn hl (S.gl0 p) fun x hx w' hw'=>hF x hx w' (S.wd.agree.trans hw')) ?_;rintro _ a w rfl S;refine J5 ?_;intro a S;refine end1 S (fun _=>?_);rw[idxG_any q xs 0 (by omega)]
structure LScr where
 area:Int
 ev:Sl LEv
abbrev cScr (s:LScr):List Value:=[.int .i64 s.area,.slice s.ev.p s.ev.xs.length s.ev.cap]
abbrev vScr (s:LScr):Value:=.agg ⟨cScr s⟩
instance encScr:Enc LScr:=⟨2,cScr,fun _=>rfl,fun x u hu=>by
 simp only[List.mem_cons,List.not_mem_nil,or_false]at hu;rcases hu with rfl | rfl <;> rfl⟩
instance layScr:Lay LScr:={ encScr with
 dflt:=⟨0,⟨none,0,[]⟩⟩
 inn:=fun w s=>Lay.inn w s.ev∧N64 s.area
 mono:=fun w w' s h hx=>⟨Lay.mono w w' _ h hx.1,hx.2⟩ }
instance (priority:=850) hasi_sev {fs:List (World→Prop)}{s:LScr}[h:HasI fs s]:HasI fs s.ev:=⟨fun M w hf=>(h.of M w hf).imp fun _ h=>h.1⟩
def LScr.evs (s:LScr):List PEv:=s.ev.xs.map LEv.e
class FitS (s:LScr):Prop where
 len:s.ev.xs.length≤1000000
 evs:∀ x∈s.ev.xs,FitE x
def chkS (s:LScr):Int:=if checkE s.evs=true then 0 else 2
theorem scheck_c (s:LScr)(hfit:FitS s)(w0:World)(hf:Fx w0 (InF s)):Ret Tryz.prog 17 [vScr s] w0 (fun _=>False) fun v _=>v=.int .i64 (chkS s):=by
 refine E1 Tryz.func17 rfl Tryz.ntmps17 (Wd.begin (fs:=[InF s]) (by simpa using hf)) ?_;intro a S;refine kS (kR ?_);refine sa S ?_;clear S;intro b1 a w S;refine J13 ?_;clear S;intro a S;refine gcr S (.bool (s.ev.xs.any fun x=>wrongV x.e)) (fun _=>containsEv_c 60 [] (fun x=>wrongV x.e) s.ev.xs s.ev.p s.ev.xs.length s.ev.cap w rfl (by have:=hfit.len;omega) ((S.i0 s).imp fun _ h=>h.1.2.2) (fun x hx w' hw'=>wrong_c x (hfit.evs x hx) w' (((S.i0 s).later hw').imp fun _ h=>h.1.2.2.2 x hx))) ?_;clear S;rintro v15 a w hR1 hR2 S;obtain rfl:v15=.bool (s.ev.xs.any fun x=>wrongV x.e):=by
  cases hq:(!decide ((300:Int) < (s.ev.xs.length:Nat))) with
  | true=>exact hR1 hq
  | false=>exact hR2 hq
 clear hR1 hR2;refine J3 ?_;clear S;intro a S;refine kC S (fun h1=>?_) (fun h1=>?_);refine J7 ?_;clear S;intro a S;refine end1 S (fun _=>?_);have h2:checkE s.evs=false:=by
  simp only[Bool.or_eq_true,decide_eq_true_eq]at h1;simp only[checkE,LScr.evs,List.length_map,List.any_map,Bool.and_eq_false_iff,decide_eq_false_iff_not,Bool.not_eq_false'];rcases h1 with h1 | h1
  exact .inl (by omega);exact .inr h1
 rw[chkS,h2];rfl;refine J8 ?_;clear S;intro a S;refine end1 S (fun _=>?_);have h2:checkE s.evs=true:=by
  simp only[Bool.or_eq_false_iff,decide_eq_false_iff_not]at h1;simp only[checkE,LScr.evs,List.length_map,List.any_map,Bool.and_eq_true,decide_eq_true_eq,Bool.not_eq_true'];exact ⟨by omega,h1.2⟩
 rw[chkS,h2];rfl
section
variable {l:Cx}{bs:List Wk.Item}{fs:List (World→Prop)}{x y:Operand}{m n:Int}{t' ty:TypeId}
end
section
variable {P:Program}{r:Option Nat}{ops:Array Oper}{Q:Exit→Act→World→Prop}{w0:World}{M0:Nat→Prop}{ds:List Deferred}{a:Act}{w:World}{l:List Value}{bs:List Wk.Item}{fs:List (World→Prop)}
 {d:Option Nat} {ty:TypeId} {pos:String} {af:Array Edge} {rest:List Oper} {f:Nat} {x:Operand} {ys:List Operand} {args:List Value} {ts:Array TypeId}
theorem boxF_gl {α:Type}[Lay α]{g:Nat}{T:TypeId}{cs:List Value}(xs:List α)(hc:cs=encL xs)(hi:∀ w,∀ x∈xs,Lay.inn w x)(w:World)(h:BoxF g T cs w):GlF (some ⟨g,0,none⟩) xs w:=by
 have hbx:w.heap[g]? = some (.cells cs.toArray T (0,0)):=h;exact ⟨⟨nofun,fun ad had j u hj=>by
  cases had;rw[show (⟨g,0,none⟩:Addr).add j=⟨g,j,none⟩ from add_lit g j];simp only[World.cell?,hbx];rw[←hc]at hj;simpa using hj⟩,hi w⟩
theorem St.boxGl {α:Type}[Lay α]{bs':List Wk.Item}(S:St w0 M0 ds a w l bs fs)(g:Nat)(xs:List α){T:TypeId}{cs:List Value}[hb:HasBox bs g T cs][hd:DropI bs (Wk.box g T cs) bs'](hc:cs=encL xs)(hi:∀ w,∀ x∈xs,Lay.inn w x):St w0 M0 ds a w l bs' (GlF (some ⟨g,0,none⟩) xs::fs):=by
 have S1:=S.boxToF g;have S2:=S1.add (Φ:=GlF (some ⟨g,0,none⟩) xs) ((S1.wd.facts (BoxF g T cs) (List.mem_cons_self ..)).imp (boxF_gl xs hc hi));exact ⟨S2.slots,S2.defers,S2.wd.sub (.refl _) (.cons_cons _ (.cons _ (.refl _)))⟩
theorem swr {t:List UInt8}{l':Value→List Value}{bs':Value→Option Addr→Nat→List Wk.Item}(b:Nat)(u:Value)(p:Option Addr)(c:Nat)(s:List UInt8)[EntF P f][CallTo ⟨[],l⟩ x ys f args][hp:∀ v,PutO l d v (l' v)][hrep:∀ u' p' c',ReplI bs (wI b u p c s) (wI b u' p' c' t) (bs' u' p' c')](S:St w0 M0 ds a w l bs fs)
  (hc:Ret P f args w (wI b u p c s).foot fun _ w'=>WrR b (wI b u p c s).foot w t w') (K:∀ v u' p' c' a w',AdOk u' b→St w0 M0 ds a w' (l' v) (bs' u' p' c') fs→WL P r ops Q rest a w') :
  WL P r ops Q (⟨d,.call { callee:=.value x,args:=ys.toArray,argTypes:=ts },ty,pos,af,none⟩::rest) a w:=
 sit (wI b u p c s) S hc rfl fun v a w' ⟨u',p',c',hu,hh,hn⟩ hS=>K v u' p' c' a w' hu (hS (wI b u' p' c' t) hh hn)
end
instance sIt {b:Nat}{u:Value}{p:Option Addr}{c:Nat}{s:List UInt8}{bs:List Wk.Item} : HasIt (wI b u p c s::bs) (wI b u p c s):=⟨List.mem_cons_self ..⟩
def numsB (l:List Int):List UInt8:=l.flatMap fun n=>32::Lib.itoa n
theorem dec_le:∀ (k u:Nat),1≤k→u < 10 ^ k→(Lib.decDigits u).length≤k
 | 0,_,h,_=>by omega
 | k+1,u,_,hu=>by
  rw[Lib.decDigits];split;simp
  rename_i h
  have h1:1≤k:=by
   rcases Nat.eq_zero_or_pos k with rfl | h2
   simp at hu;omega;exact h2
  rw[List.length_append];have:=dec_le k (u / 10) h1 (by rw[Nat.pow_succ]at hu;omega);simp;omega
theorem itoa_le {n:Int}(h:N64 n):(Lib.itoa n).length≤20:=by
 obtain ⟨h1,h2⟩:=h;rw[Lib.itoa];split;have:=dec_le 19 n.natAbs (by omega) (by omega);simp;omega;have:=dec_le 19 n.toNat (by omega) (by omega);omega
theorem wnums_c (b:Nat)(u:Value)[AdOk u b](p:Option Addr)(c:Nat)(s:List UInt8)(xs:List Int)(q:Option Addr)(e:Nat)(hr:∀ n∈xs,N64 n)(hl:s.length+30*xs.length≤500000000000)(w0:World)(hb:(wI b u p c s).holds w0)(ht:Stable (wI b u p c s).foot w0 TabF)(hf:Stable (wI b u p c s).foot w0 (GlF q xs)) :
  Ret Tryz.prog 53 [pB b,.slice q xs.length e] w0 (wI b u p c s).foot fun _ w'=>WrR b (wI b u p c s).foot w0 (s++numsB xs) w':=by
 refine E1 Tryz.func53 rfl Tryz.ntmps53 (Wd.itLent (fs:=[TabF,GlF q xs]) hb (by simp;exact ⟨ht,hf⟩)) ?_;intro a S;refine J8 ?_;intro a S;refine c_fore5 S (fun(k:Nat) (u2:Value) (p2:Option Addr) (c2:Nat) (t:List UInt8) uu=>[(5,uu 5),(2,.int .i64 (k:Nat)),(0,uu 9),(0,uu 10),(0,uu 11),(0,uu 12),(0,uu 13),(0,uu 14),(0,uu 15),(0,uu 16),(0,uu 17),(0,uu 18),(0,uu 19)]) (fun(k:Nat) (u2:Value) (p2:Option Addr) (c2:Nat) (t:List UInt8)=>[wI b u2 p2 c2 t]) (fun(k:Nat) (u2:Value) (p2:Option Addr) (c2:Nat) (t:List UInt8)=>[TabF,GlF q xs]) (fun(k:Nat) (u2:Value) (p2:Option Addr) (c2:Nat) (t:List UInt8)=>k≤xs.length∧t=s++numsB (xs.take k)∧AdOk u2 b∧t.length≤s.length+30*k) (fun(k:Nat) (u2:Value) (p2:Option Addr) (c2:Nat) (t:List UInt8)=>xs.length - k) (0) (u) (p) (c) (s) ?_ S.uu ?_ ?_;exact ⟨Nat.zero_le _,by simp[numsB],inferInstance,Nat.le_refl _⟩
 first | exact S | exact S.sub _ _
 clear S;rintro k u2 p2 c2 t uu a w ⟨hk,ht2,hu2,hl2⟩ S;refine J6 ?_;intro a S;refine kC S (fun h1=>?_) (fun h1=>?_);refine kK (xtn (kS (kB (kS ?_))));have hkl:k < xs.length:=by simp at h1;omega
 have hK:KLt k xs.length:=⟨hkl⟩;have hN:=hr _ (nthG_mem hkl);have hI:I64 (nthG xs k):=⟨hN.1,hN.2⟩;have hil:=itoa_le hN;have hLC:LeC (([32]:List UInt8).length+(Lib.itoa (nthG xs k)).length) 4611686018427387904:=⟨by simp;omega⟩;refine J6 ?_;intro a S;refine c_drawE [T9 0,T9 1,T9 2,T9 3,F9 4,T9 5,F9 6] [] S ?_;intro w S;(iterate 4 (refine dq S ?_;intro a S));refine dl (sc S ?_);intro a w S;refine de S ?_;refine dq S ?_;intro a S;refine dl ?_;refine swr b u2 p2 c2 t S (wstr_c b u2 p2 c2 t (32::Lib.itoa (nthG xs k)) (by simp;omega) _ (S.it (wI b u2 p2 c2 t))) ?_;intro v18 u3 p3 c3 a w hu3 S;refine de S ?_;refine dn (xbn (xtn (kR ?_)));(iterate 2 (refine sq S ?_;intro a S));refine kN (xtn ?_);rw[w6 ((k:Int)+1)]at S;refine ⟨k+1,u3,p3,c3,t++32::Lib.itoa (nthG xs k),S.uu,⟨hkl,?_,hu3,by simp;omega⟩,S.sub _ _,by omega⟩;rw[ht2,nthG_take hkl,List.append_assoc];simp[numsB];refine kE (xte (xte (xbe ?_)));have hke:k=xs.length:=by simp at h1;omega
 rw[hke,List.take_length]at ht2;have hh:=S.it (wI b u2 p2 c2 t);have hn:=S.wd.own (wI b u2 p2 c2 t) (List.mem_cons_self ..) rfl;rw[ht2]at hh hn;refine end0 S (fun _=>⟨u2,p2,c2,hu2,hh,hn⟩)
abbrev digL:List UInt8:=[48,49,50,51,52,53,54,55,56,57,97,98,99,100,101,102]
theorem digL_at:∀ k:Fin 16,nthG digL k.val=dig16 k.val:=by decide
theorem nib15 (c:UInt8):iand .u8 (c.toNat:Int) 15=((c.toNat % 16:Nat):Int):=by
 have h:∀ n:Nat,n < 256→iand .u8 (n:Int) 15=((n % 16:Nat):Int):=by decide +kernel
 exact h _ c.toNat_lt
theorem wdigits_c (b:Nat)(u:Value)[hu:AdOk u b](p:Option Addr)(c:Nat)(s:List UInt8)(x:UInt8)(hl:s.length+2≤500000000000)(w0:World)(hb:(wI b u p c s).holds w0) :
  Ret Tryz.prog 109 [pB b,.int .u8 x.toNat] w0 (wI b u p c s).foot fun _ w'=>WrR b (wI b u p c s).foot w0 (s++hexB x) w':=by
 have hx:=x.toNat_lt;have hK1:KLt (x.toNat / 16) digL.length:=⟨by simp;omega⟩;have hK2:KLt (x.toNat % 16) digL.length:=⟨by simp;omega⟩;refine E1 Tryz.func109 rfl Tryz.ntmps109 (Wd.itLent (fs:=[]) hb (by simp)) ?_;intro a S;refine kS ?_;refine c_drawE [T9 0,T9 1,T9 2,T9 3,T9 4,T9 5,F9 6] [] S ?_;intro w S;refine J5 ?_;intro a S;rw[show ((x.toNat:Nat):Int).fdiv (2 ^ min 4 IntKind.u8.bits)=((x.toNat / 16:Nat):Int) from by
  show ((x.toNat:Nat):Int).fdiv 16=_
  rw[Int.fdiv_eq_ediv_of_nonneg _ (by omega)];omega]at S
 refine J1 ?_;intro a S;rw[digL_at ⟨x.toNat / 16,by omega⟩]at S;refine dl ?_;refine swr b u p c s S (wbyte_c b u p c s (dig16 (x.toNat / 16)) (by omega) _ (S.it (wI b u p c s))) ?_;intro v10 u2 p2 c2 a w hu2 S;refine de S ?_;refine dn (xtn ?_);refine c_drawE [T9 0,T9 1,T9 2,T9 3,T9 4,T9 5,F9 6] [] S ?_;intro w S;refine J5 ?_;intro a S;rw[nib15]at S;refine J1 ?_;intro a S;rw[digL_at ⟨x.toNat % 16,by omega⟩]at S;refine dl ?_;refine swr b u2 p2 c2 (s++[dig16 (x.toNat / 16)]) S (wbyte_c b u2 p2 c2 _ (dig16 (x.toNat % 16)) (by simp;omega) _ (S.it (wI b u2 p2 c2 (s++[dig16 (x.toNat / 16)])))) ?_;intro v17 u3 p3 c3 a w hu3 S;refine de S ?_;refine dn ?_;have hh:=S.it (wI b u3 p3 c3 (s++[dig16 (x.toNat / 16)]++[dig16 (x.toNat % 16)]));have hn:=S.wd.own (wI b u3 p3 c3 (s++[dig16 (x.toNat / 16)]++[dig16 (x.toNat % 16)])) (List.mem_cons_self ..) rfl;rw[List.append_assoc]at hh hn;refine end0 S (fun _=>⟨u3,p3,c3,hu3,hh,hn⟩)
def namesB (l:List (List UInt8)):List UInt8:=l.flatMap fun n=>32::quoteE n
theorem u8_eq {c d:UInt8} : ((c.toNat:Nat):Int)=((d.toNat:Nat):Int)↔c=d:=by
 rw[←UInt8.toNat_inj];omega
theorem quoteC_le (c:UInt8):(quoteC c).length≤4:=by
 unfold quoteC
 repeat' split
 all_goals simp[hexB]
theorem wnames_c (b:Nat)(u:Value)[hu:AdOk u b](p:Option Addr)(c:Nat)(s:List UInt8)(xs:List (List UInt8))(q:Option Addr)(e:Nat)(hr:∀ n∈xs,n.length≤1000000)(hl:s.length+5000000*xs.length≤500000000000)(w0:World)(hb:(wI b u p c s).holds w0)(hf:Stable (wI b u p c s).foot w0 (GlF q xs)) :
  Ret Tryz.prog 99 [pB b,.slice q xs.length e] w0 (wI b u p c s).foot fun _ w'=>WrR b (wI b u p c s).foot w0 (s++namesB xs) w':=by
 refine E1 Tryz.func99 rfl Tryz.ntmps99 (Wd.itLent (fs:=[GlF q xs]) hb (by simpa using hf)) ?_;intro a S;refine J8 ?_;intro a S;refine c_fore5 S (fun(k:Nat) (u2:Value) (p2:Option Addr) (c2:Nat) (t:List UInt8) uu=>[(5,uu 5),(1,uu 7),(2,.int .i64 (k:Nat)),(0,uu 11),(0,uu 12),(0,uu 13),(0,uu 14),(0,uu 15),(0,uu 16),(0,uu 17),(0,uu 18),(0,uu 19),(0,uu 20),(0,uu 21),(0,uu 22),(0,uu 23),(0,uu 24),(0,uu 25),(0,uu 26),(0,uu 27),(0,uu 28),(0,uu 29),(0,uu 30),(0,uu 31),(0,uu 32),(0,uu 33),(0,uu 34),(0,uu 35),(0,uu 36),(0,uu 37),(0,uu 38),(0,uu 39),(0,uu 40),(0,uu 41),(0,uu 42),(0,uu 43),(0,uu 44),(0,uu 45),(0,uu 46),(0,uu 47),(0,uu 48),(0,uu 49),(0,uu 50),(0,uu 51),(0,uu 52),(0,uu 53),(0,uu 54),(0,uu 55),(0,uu 56),(0,uu 57),(0,uu 58),(0,uu 59),(0,uu 60),(0,uu 61),(0,uu 62),(0,uu 63),(0,uu 64),(0,uu 65)]) (fun(k:Nat) (u2:Value) (p2:Option Addr) (c2:Nat) (t:List UInt8)=>[wI b u2 p2 c2 t]) (fun(k:Nat) (u2:Value) (p2:Option Addr) (c2:Nat) (t:List UInt8)=>[GlF q xs]) (fun(k:Nat) (u2:Value) (p2:Option Addr) (c2:Nat) (t:List UInt8)=>k≤xs.length∧t=s++namesB (xs.take k)∧AdOk u2 b∧t.length≤s.length+5000000*k) (fun(k:Nat) (u2:Value) (p2:Option Addr) (c2:Nat) (t:List UInt8)=>xs.length - k) (0) (u) (p) (c) (s) ?_ S.uu ?_ ?_;exact ⟨Nat.zero_le _,by simp[namesB],inferInstance,Nat.le_refl _⟩
 first | exact S | exact S.sub _ _
 clear S;rintro k u2 p2 c2 t uu a w ⟨hk,ht2,hu2,hl2⟩ S;refine J6 ?_;intro a S;refine kC S (fun h1=>?_) (fun h1=>?_);refine kK (xtn (kS (kB (kS ?_))));have hkl:k < xs.length:=by simp at h1;omega
 have hK:KLt k xs.length:=⟨hkl⟩;have hN:=hr _ (nthG_mem hkl);refine J11 ?_;intro a S;refine swr b u2 p2 c2 t S (wstr_c b u2 p2 c2 t [32,34] (by simp;omega) _ (S.it (wI b u2 p2 c2 t))) ?_;intro v17 u3 p3 c3 a w hu3 S;refine J6 ?_;intro a S;refine scvb S ?_;intro b19 c19 a w S;obtain ⟨q19,hq19⟩:∃ q19:Option Addr,q19=some ⟨b19,0,none⟩:=⟨_,rfl⟩;rw[←hq19]at S;refine J5 ?_;intro a S;refine c_fore5 S (fun(j:Nat) (u4:Value) (p4:Option Addr) (c4:Nat) (t4:List UInt8) uu=>[(7,uu 7),(13,.int .i64 (j:Nat)),(0,uu 22),(0,uu 23),(0,uu 24),(0,uu 25),(0,uu 26),(0,uu 27),(0,uu 28),(0,uu 29),(0,uu 30),(0,uu 31),(0,uu 32),(0,uu 33),(0,uu 34),(0,uu 35),(0,uu 36),(0,uu 37),(0,uu 38),(0,uu 39),(0,uu 40),(0,uu 41),(0,uu 42),(0,uu 43),(0,uu 44),(0,uu 45),(0,uu 46),(0,uu 47),(0,uu 48),(0,uu 49),(0,uu 50),(0,uu 51),(0,uu 52),(0,uu 53),(0,uu 54),(0,uu 55),(0,uu 56),(0,uu 57),(0,uu 58),(0,uu 59),(0,uu 60)]) (fun(j:Nat) (u4:Value) (p4:Option Addr) (c4:Nat) (t4:List UInt8)=>[wI b u4 p4 c4 t4]) (fun(j:Nat) (u4:Value) (p4:Option Addr) (c4:Nat) (t4:List UInt8)=>[GlF q19 (nthG xs k),GlF q xs]) (fun(j:Nat) (u4:Value) (p4:Option Addr) (c4:Nat) (t4:List UInt8)=>j≤(nthG xs k).length∧t4=t++[32,34]++((nthG xs k).take j).flatMap quoteC∧AdOk u4 b∧t4.length≤t.length+2+4*j) (fun(j:Nat) (u4:Value) (p4:Option Addr) (c4:Nat) (t4:List UInt8)=>(nthG xs k).length - j) (0) (u3) (p3) (c3) (t++[32,34]) ?_ S.uu ?_ ?_;exact ⟨Nat.zero_le _,by simp,hu3,by simp⟩
 first | exact S | exact S.sub _ _
 clear S;rintro j u4 p4 c4 t4 uu a w ⟨hj,ht4,hu4,hl4⟩ S;refine J6 ?_;intro a S;refine kC S (fun h5=>?_) (fun h5=>?_);refine kK (xtn (kS (kB (kS ?_))));have hjl:j < (nthG xs k).length:=by simp at h5;omega
 have hKj:KLt j (nthG xs k).length:=⟨hjl⟩;have hstep:((nthG xs k).take (j+1)).flatMap quoteC=((nthG xs k).take j).flatMap quoteC++quoteC (nthG (nthG xs k) j):=by
  rw[nthG_take hjl,List.flatMap_append];simp
 refine J18 ?_;intro a S;refine kC S (fun h8=>?_) (fun h8=>?_);refine J5 ?_;intro a S;refine swr b u4 p4 c4 t4 S (wbyte_c b u4 p4 c4 t4 92 (by omega) _ (S.it (wI b u4 p4 c4 t4))) ?_;intro v40 u5 p5 c5 a w hu5 S;refine J7 ?_;intro a S;refine swr b u5 p5 c5 (t4++[92]) S (wbyte_c b u5 p5 c5 (t4++[92]) (nthG (nthG xs k) j) (by simp;omega) _ (S.it (wI b u5 p5 c5 (t4++[92])))) ?_;intro v45 u6 p6 c6 a w hu6 S;refine J9 ?_;intro a S;rw[w6 ((j:Int)+1)]at S;have hq:(nthG (nthG xs k) j)=34∨(nthG (nthG xs k) j)=92:=by
  simp only[Bool.or_eq_true,decide_eq_true_eq]at h8;exact h8.imp (fun h=>u8_eq.1 h) (fun h=>u8_eq.1 h)
 refine ⟨j+1,u6,p6,c6,t4++[92]++[(nthG (nthG xs k) j)],S.uu,⟨hjl,?_,hu6,by simp;omega⟩,S.sub _ _,by omega⟩;rw[hstep,quoteC,if_pos hq,ht4];simp;refine J11 ?_;intro a S;refine kC S (fun h11=>?_) (fun h11=>?_);refine J5 ?_;intro a S;refine swr b u4 p4 c4 t4 S (wstr_c b u4 p4 c4 t4 [92,120] (by simp;omega) _ (S.it (wI b u4 p4 c4 t4))) ?_;intro v56 u5 p5 c5 a w hu5 S;refine J5 ?_;intro a S;refine swr b u5 p5 c5 (t4++[92,120]) S (wdigits_c b u5 p5 c5 (t4++[92,120]) (nthG (nthG xs k) j) (by simp;omega) _ (S.it (wI b u5 p5 c5 (t4++[92,120])))) ?_;intro v59 u6 p6 c6 a w hu6 S;refine J9 ?_;intro a S;rw[w6 ((j:Int)+1)]at S;have hq:¬((nthG (nthG xs k) j)=34∨(nthG (nthG xs k) j)=92):=by
  simp only[Bool.or_eq_false_iff,decide_eq_false_iff_not]at h8;exact fun h=>h.elim (fun h=>h8.1 (u8_eq.2 h)) (fun h=>h8.2 (u8_eq.2 h))
 have hq2:(nthG (nthG xs k) j).toNat < 32∨126 < (nthG (nthG xs k) j).toNat:=by
  simp only[Bool.or_eq_true,decide_eq_true_eq]at h11;omega
 refine ⟨j+1,u6,p6,c6,t4++[92,120]++hexB (nthG (nthG xs k) j),S.uu,⟨hjl,?_,hu6,by simp[hexB];omega⟩,S.sub _ _,by omega⟩;rw[hstep,quoteC,if_neg hq,if_pos hq2,ht4];simp;refine J5 ?_;intro a S;refine swr b u4 p4 c4 t4 S (wbyte_c b u4 p4 c4 t4 (nthG (nthG xs k) j) (by omega) _ (S.it (wI b u4 p4 c4 t4))) ?_;intro v29 u5 p5 c5 a w hu5 S;refine J9 ?_;intro a S;rw[w6 ((j:Int)+1)]at S;have hq:¬((nthG (nthG xs k) j)=34∨(nthG (nthG xs k) j)=92):=by
  simp only[Bool.or_eq_false_iff,decide_eq_false_iff_not]at h8;exact fun h=>h.elim (fun h=>h8.1 (u8_eq.2 h)) (fun h=>h8.2 (u8_eq.2 h))
 have hq2:¬((nthG (nthG xs k) j).toNat < 32∨126 < (nthG (nthG xs k) j).toNat):=by
  simp only[Bool.or_eq_false_iff,decide_eq_false_iff_not]at h11;omega
 refine ⟨j+1,u5,p5,c5,t4++[(nthG (nthG xs k) j)],S.uu,⟨hjl,?_,hu5,by simp;omega⟩,S.sub _ _,by omega⟩;rw[hstep,quoteC,if_neg hq,if_neg hq2,ht4];simp;refine J9 ?_;intro a S;refine swr b u4 p4 c4 t4 S (wbyte_c b u4 p4 c4 t4 34 (by omega) _ (S.it (wI b u4 p4 c4 t4))) ?_;intro v64 u5 p5 c5 a w hu5 S;refine J8 ?_;intro a S;have hje:j=(nthG xs k).length:=by simp at h5;omega
 rw[hje,List.take_length]at ht4;rw[w6 ((k:Int)+1)]at S;refine ⟨k+1,u5,p5,c5,t4++[34],S.uu,⟨hkl,?_,hu5,by simp;omega⟩,S.sub _ _,by omega⟩;rw[ht4,ht2,nthG_take hkl];simp[namesB,quoteE];refine kE (xte (xte (xbe ?_)));have hke:k=xs.length:=by simp at h1;omega
 rw[hke,List.take_length]at ht2;have hh:=S.it (wI b u2 p2 c2 t);have hn:=S.wd.own (wI b u2 p2 c2 t) (List.mem_cons_self ..) rfl;rw[ht2]at hh hn;refine end0 S (fun _=>⟨u2,p2,c2,hu2,hh,hn⟩)
theorem name_le (t:Term):(nameF t).length≤84000:=by
 unfold nameF;split;simp
 rename_i h;exact bytes_small h
theorem name_nil {t:Term}(h:checkF t≠0):nameF t=[]:=by
 by_cases h2:sizeF t=0
 rw[nameF,if_pos h2];exact absurd (by rw[checkF,if_neg h2]) h
theorem wterm_c (b:Nat)(u:Value)[hu:AdOk u b](p:Option Addr)(c:Nat)(s:List UInt8)(t:LTerm)(hl:s.length+200000≤500000000000)(w0:World)(hb:(wI b u p c s).holds w0)(hf:Stable (wI b u p c s).foot w0 (LtF t)) :
  Ret Tryz.prog 64 [pB b,vL t] w0 (wI b u p c s).foot fun _ w'=>WrR b (wI b u p c s).foot w0 (s++32::encT t.t) w':=by
 have hnl:=name_le t.t;refine E1 Tryz.func64 rfl Tryz.ntmps64 (Wd.itLent (fs:=[LtF t]) hb (by simpa using hf)) ?_;intro a S;refine kS (kR ?_);refine sa S ?_;intro b3 a w S;refine J7 ?_;intro a S;refine swr b u p c s S (wbyte_c b u p c s 32 (by omega) _ (S.it (wI b u p c s))) ?_;intro v11 u1 p1 c1 a w hu1 S;refine J5 ?_;intro a S;refine srn S (encode_c t _ (S.t0 t)) ?_;rintro _ a w ⟨p12,c12,rfl,hown,hnew⟩ hS -;have S:=hS hown hnew;clear hS hown hnew;replace S:=S.rowToGl p12 (nameF t.t) (e:=5) (sz:=1) (n:=(nameF t.t).length) (c:=c12) (fun _ _ _ _=>trivial);refine J7 ?_;intro a S;refine c_mrge4 S (fun(u3:Value) (p3:Option Addr) (c3:Nat) (t3:List UInt8) uu=>[(17,uu 17),(0,uu 18),(0,uu 19),(0,uu 20),(0,uu 21),(0,uu 22)]) (fun(u3:Value) (p3:Option Addr) (c3:Nat) (t3:List UInt8)=>[Wk.box b3 42 t.cells,wI b u3 p3 c3 t3]) (fun(u3:Value) (p3:Option Addr) (c3:Nat) (t3:List UInt8)=>[GlF p12 (nameF t.t),LtF t]) (fun(u3:Value) (p3:Option Addr) (c3:Nat) (t3:List UInt8)=>AdOk u3 b∧t3=s++[32]++(if checkF t.t=0 then [] else [45])) ?_ ?_;refine J6 ?_;intro a S;refine kC S (fun h3=>?_) (fun h3=>?_);refine J4 ?_;intro a S;refine swr b u1 p1 c1 (s++[32]) S (wstr_c b u1 p1 c1 (s++[32]) [45] (by simp;omega) _ (S.it (wI b u1 p1 c1 (s++[32])))) ?_;intro v22 u2 p2 c2 a w hu2 S;refine kN (xtn ?_);have hc:checkF t.t≠0:=by simpa using h3
 exact ⟨u2,p2,c2,s++[32]++[45],S.uu,⟨hu2,by rw[if_neg hc]⟩,S.sub _ _⟩;refine kK (xtn ?_);have hc:checkF t.t=0:=by simpa using h3
 exact ⟨u1,p1,c1,s++[32],S.uu,⟨hu1,by rw[if_pos hc,List.append_nil]⟩,S.sub _ _⟩;clear S;rintro u3 p3 c3 t3 uu a w ⟨hu3,ht3⟩ S;refine J8 ?_;intro a S;refine c_fore5 S (fun(j:Nat) (u4:Value) (p4:Option Addr) (c4:Nat) (t4:List UInt8) uu=>[(7,uu 7),(17,.int .i64 (j:Nat)),(0,uu 26),(0,uu 27),(0,uu 28),(0,uu 29),(0,uu 30),(0,uu 31),(0,uu 32)]) (fun(j:Nat) (u4:Value) (p4:Option Addr) (c4:Nat) (t4:List UInt8)=>[Wk.box b3 42 t.cells,wI b u4 p4 c4 t4]) (fun(j:Nat) (u4:Value) (p4:Option Addr) (c4:Nat) (t4:List UInt8)=>[GlF p12 (nameF t.t),LtF t]) (fun(j:Nat) (u4:Value) (p4:Option Addr) (c4:Nat) (t4:List UInt8)=>j≤(nameF t.t).length∧t4=t3++((nameF t.t).take j).flatMap hexB∧AdOk u4 b∧t4.length≤t3.length+2*j) (fun(j:Nat) (u4:Value) (p4:Option Addr) (c4:Nat) (t4:List UInt8)=>(nameF t.t).length - j) (0) (u3) (p3) (c3) (t3) ?_ S.uu ?_ ?_;exact ⟨Nat.zero_le _,by simp,hu3,by simp⟩
 first | exact S | exact S.sub _ _
 clear S;rintro j u4 p4 c4 t4 uu a w ⟨hj,ht4,hu4,hl4⟩ S;refine J6 ?_;intro a S;refine kC S (fun h6=>?_) (fun h6=>?_);refine kK (xtn (kS (kB (kS ?_))));have hjl:j < (nameF t.t).length:=by simp at h6;omega
 have hKj:KLt j (nameF t.t).length:=⟨hjl⟩;have hl3:t3.length≤s.length+2:=by
  rw[ht3];split <;> simp
 refine J9 ?_;intro a S;refine swr b u4 p4 c4 t4 S (wdigits_c b u4 p4 c4 t4 (nthG (nameF t.t) j) (by omega) _ (S.it (wI b u4 p4 c4 t4))) ?_;intro v31 u5 p5 c5 a w hu5 S;refine J8 ?_;intro a S;rw[w6 ((j:Int)+1)]at S;refine ⟨j+1,u5,p5,c5,t4++hexB (nthG (nameF t.t) j),S.uu,⟨hjl,?_,hu5,by simp[hexB];omega⟩,S.sub _ _,by omega⟩;rw[nthG_take hjl,List.flatMap_append,ht4];simp;refine kE (xte (xte (xbe ?_)));have hje:j=(nameF t.t).length:=by simp at h6;omega
 have hfin:t4=s++32::encT t.t:=by
  rw[ht4,ht3,hje,List.take_length,encT]
  by_cases hc:checkF t.t=0
  rw[if_pos hc,if_pos hc];simp;rw[if_neg hc,if_neg hc,name_nil hc];simp
 have hh:=S.it (wI b u4 p4 c4 t4);have hn:=S.wd.own (wI b u4 p4 c4 t4) (by simp) rfl;rw[hfin]at hh hn;refine end0 S (fun _=>⟨u4,p4,c4,hu4,hh,hn⟩)
theorem words_c (M:Nat→Prop)(w0:World)(hM:∀ k,M k→k < w0.heap.size):Ret Tryz.prog 97 [] w0 (fun _=>False) fun v w'=>∃ p c,v=.slice p wordsE.length c∧Stable M w' (GlF p wordsE):=by
 refine E1 Tryz.func97 rfl Tryz.ntmps97 (Wd.beginM (M:=M) (fs:=[]) hM (by simp)) ?_;intro a S;refine J7 ?_;intro a S;refine sn S ?_;intro b1 a w S;refine J4 ?_;intro a S;replace S:=St.boxGl S b1 wordsE rfl (fun _ _ _=>trivial);have hlat:=S.laterFact (M:=M) (Φ:=GlF (some ⟨b1,0,none⟩) wordsE) (by simp);refine end1 S (fun _=>⟨_,_,rfl,hlat⟩)
theorem nums_off (x:LEv):(offE x.kind).map (atI (cEv x))=numsE x.e:=by
 unfold offE numsE;rw[show x.e.kind=x.kind from rfl]
 by_cases h1:x.kind=1
 simp only[h1,if_true];rfl
 by_cases h3:x.kind=3
 simp only[h3];rfl
 by_cases h4:x.kind=4
 simp only[h4];rfl
 by_cases h5:x.kind=5
 simp only[h5];rfl
 by_cases h67:x.kind=6∨x.kind=7
 simp only[if_neg h1,if_neg h3,if_neg h4,if_neg h5,if_pos h67];rfl;simp only[if_neg h1,if_neg h3,if_neg h4,if_neg h5,if_neg h67];rfl
theorem nums_rng {x:LEv}(h:x.rng):∀ n∈numsE x.e,N64 n:=by
 obtain ⟨h0,h1,h2,h3,h4,h5,h6,h7⟩:=h;intro n hn;unfold numsE at hn;rw[show x.e.kind=x.kind from rfl]at hn
 repeat' split at hn
 all_goals simp only[List.mem_cons,List.not_mem_nil,or_false]at hn
 ·rcases hn with rfl | rfl | rfl | rfl <;> assumption
 ·subst hn;exact h7
 ·subst hn;exact h5
 ·rcases hn with rfl | rfl <;> assumption
 ·subst hn;exact h6
def restE (x:PEv):List UInt8:=(if x.kind=1 then [Lib.itoa (if x.ow then 1 else 0),quoteE x.oname,encT x.body] else if x.kind=2 then [quoteE x.name,encT x.term] else if x.kind=3 then [quoteE x.name,quoteE x.src] else if x.kind=6 then [bitsE x.keep] else []).flatMap fun p=>32::p
theorem lineE_eq (x:PEv):lineE x=wordE x.kind++numsB (numsE x)++restE x++[10]:=by
 rw[lineE,lineB,partsE,List.flatMap_append,restE,numsB,List.flatMap_map];simp
theorem word_le {k:Int}(h:1≤k∧k≤7):(wordE k).length≤7:=by
 rcases kind_cases h with rfl | rfl | rfl | rfl | rfl | rfl | rfl <;> decide
theorem quote_len (x:List UInt8):(quoteE x).length≤2+4*x.length:=by
 have h:(x.flatMap quoteC).length≤4*x.length:=by
  induction x with
  | nil=>simp
  | cons c x ih=>
   have:=quoteC_le c;rw[List.flatMap_cons,List.length_append,qqA];omega
 rw[quoteE];simp only[qqA,List.length_append,qqB];omega
theorem names1_le (x:List UInt8):(namesB [x]).length≤3+4*x.length:=by
 have:=quote_len x;simp[namesB];omega
theorem names2_le (x y:List UInt8):(namesB [x,y]).length≤6+4*x.length+4*y.length:=by
 have:=quote_len x;have:=quote_len y;simp[namesB];omega
theorem encT_le (t:Term):(encT t).length≤168001:=by
 unfold encT;split;rw[hex_len];have:=name_le t;omega;simp
theorem numsB1_le {n:Int}(h:N64 n):(numsB [n]).length≤21:=by
 have:=itoa_le h;simp[numsB];omega
set_option maxHeartbeats 1000000 in
theorem wevent_c (b:Nat)(u:Value)[hu:AdOk u b](p:Option Addr)(c:Nat)(s:List UInt8)(x:LEv)(hk:1≤x.kind∧x.kind≤7)(h1n:x.name.length≤1000000)(h2n:x.src.length≤1000000)(h3n:x.oname.length≤1000000)(hfit:FitE x)(hl:s.length+50000000≤400000000000)
  (w0:World) (hb:(wI b u p c s).holds w0) (ht:Stable (wI b u p c s).foot w0 TabF) (hf:Stable (wI b u p c s).foot w0 (InF x)) :
  Ret Tryz.prog 55 [pB b,vEv x] w0 (wI b u p c s).foot fun _ w'=>WrR b (wI b u p c s).foot w0 (s++lineE x.e) w':=by
 have hwl:=word_le hk;have hkp:=hfit.keep;have hrg:=(hf.now).2.2.2;have hoffl:=offE_len x.kind;have hIN:IsNat x.kind x.kind.toNat:=⟨by omega⟩;have hKW:KLt x.kind.toNat wordsE.length:=⟨by show x.kind.toNat < 8;omega⟩;refine E1 Tryz.func55 rfl Tryz.ntmps55 (Wd.itLent (fs:=[TabF,InF x]) hb (by simp;exact ⟨ht,hf⟩)) ?_;intro a S;refine kS (kR ?_);refine sa S ?_;clear S;intro b3 a w S;refine kN (xtn (kS ?_));refine c_drwe3 (.q 0 (.q 1 (.q 2 (.q 4 (.q 5 (.l 3 (.l 6 (.l 7 (.l 8 (.e)))))))))) S (fun(u1:Value) (p1:Option Addr) (c1:Nat) uu=>[(10,uu 10),(0,uu 11),(0,uu 12),(0,uu 13),(0,uu 14),(0,uu 15),(0,uu 16),(0,uu 17),(0,uu 18)]) [Wk.box b3 47 (cEv x)] (fun(u1:Value) (p1:Option Addr) (c1:Nat)=>[Wk.box b3 47 (cEv x),wI b u1 p1 c1 (s++wordE x.kind)]) (fun(u1:Value) (p1:Option Addr) (c1:Nat)=>[TabF,InF x]) (fun(u1:Value) (p1:Option Addr) (c1:Nat)=>AdOk u1 b) ?_ ?_;intro w S;(iterate 5 (refine tq S ?_;clear S;intro a S));refine tl ?_;refine sr S (words_c _ w (foots_lt S)) ?_;clear S;rintro _ a w ⟨p13,c13,rfl,hf13⟩ S;replace S:=S.add hf13;refine te S ?_;refine tl (sq S ?_);clear S;intro a S;refine te S ?_;refine tl (sq S ?_);clear S;intro a S;refine te S ?_;refine tl ?_;refine swr b u p c s S (wstr_c b u p c s (wordE x.kind) (by omega) _ (S.it (wI b u p c s))) ?_;clear S;intro v18 u0 p0 c0 a w hu0 S;refine te S ?_;refine tn ?_;exact ⟨u0,p0,c0,S.uu,hu0,S.sub _ _⟩;clear S;rintro u1 p1 c1 uu a w hu1 S;refine xtn (kS (kS (kR ?_)));refine sr S (evf_c b3 (cEv x) x.kind ⟨_,rfl⟩ _ w (foots_lt S) (BoxF.stable (S.boxF b3) (fun h=>h))) ?_;clear S;rintro _ a w ⟨p19,c19,rfl,hf19⟩ S
 replace S:=S.add hf19;refine J5 ?_;clear S;intro a S;refine c_fore5 S (fun(j:Nat) (u2:Value) (p2:Option Addr) (c2:Nat) (t:List UInt8) uu=>[(5,uu 5),(15,.int .i64 (j:Nat)),(0,uu 22),(0,uu 23),(0,uu 24),(0,uu 25),(0,uu 26),(0,uu 27),(0,uu 28),(0,uu 29),(0,uu 30),(0,uu 31)]) (fun(j:Nat) (u2:Value) (p2:Option Addr) (c2:Nat) (t:List UInt8)=>[Wk.box b3 47 (cEv x),wI b u2 p2 c2 t]) (fun(j:Nat) (u2:Value) (p2:Option Addr) (c2:Nat) (t:List UInt8)=>[GlF p19 (offs b3 x.kind),TabF,InF x]) (fun(j:Nat) (u2:Value) (p2:Option Addr) (c2:Nat) (t:List UInt8)=>j≤(offE x.kind).length∧t=s++wordE x.kind++numsB (((offE x.kind).take j).map (atI (cEv x)))∧AdOk u2 b∧t.length≤s.length+7+30*j) (fun(j:Nat) (u2:Value) (p2:Option Addr) (c2:Nat) (t:List UInt8)=>(offE x.kind).length - j) (0) (u1) (p1) (c1) (s++wordE x.kind) ?_ S.uu ?_ ?_;exact ⟨Nat.zero_le _,by simp[numsB],hu1,by simp;omega⟩
 first | exact S | exact S.sub _ _
 clear S;rintro j u2 p2 c2 t uu a w ⟨hj,ht2,hu2,hl2⟩ S;refine J6 ?_;clear S;intro a S;refine kC S (fun h3=>?_) (fun h3=>?_);refine kK (xtn (kS (kB (kS ?_))));have hjl:j < (offE x.kind).length:=by simp at h3;omega
 have hKj:KLt j (offE x.kind).length:=⟨hjl⟩;have hK3:KLt j (offs b3 x.kind).length:=⟨by simpa using hjl⟩;have hmem:(offE x.kind).getD j 0∈offE x.kind:=by
  rw[List.getD_eq_getElem?_getD,List.getElem?_eq_getElem hjl];exact List.getElem_mem hjl
 obtain ⟨hi,hlt⟩:=offE_ints x hmem;have hIA:IntAt (cEv x) ((offE x.kind).getD j 0):=⟨hi⟩;have hrn:N64 (atI (cEv x) ((offE x.kind).getD j 0)):=nums_rng hrg _ (by rw[←nums_off];exact List.mem_map.2 ⟨_,hmem,rfl⟩);refine J3 ?_;clear S;intro a S;rw[nthG_off b3 x.kind j hjl]at S;refine J8 ?_;clear S;intro a S;refine sn S ?_;clear S;intro b29 a w S;replace S:=St.boxGl S b29 [atI (cEv x) ((offE x.kind).getD j 0)] rfl (fun _ _ _=>trivial);refine swr b u2 p2 c2 t S (wnums_c b u2 p2 c2 t [atI (cEv x) ((offE x.kind).getD j 0)] (some ⟨b29,0,none⟩) 1 (fun n hn=>by rw[List.mem_singleton.1 hn];exact hrn) (by simp;omega) _ (S.it (wI b u2 p2 c2 t)) (S.lend (wI b u2 p2 c2 t) (S.mem.fact TabF)) (S.lend (wI b u2 p2 c2 t) (S.gl (some ⟨b29,0,none⟩)))) ?_;clear S;intro v30 u3 p3 c3 a w hu3 S;refine J8 ?_;clear S;intro a S;rw[w6 ((j:Int)+1)]at S;have hil:=itoa_le hrn;refine ⟨j+1,u3,p3,c3,t++numsB [atI (cEv x) ((offE x.kind).getD j 0)],S.uu,⟨hjl,?_,hu3,by rw[List.length_append];have:=numsB1_le hrn;omega⟩,S.sub _ _,by omega⟩;have htk:(offE x.kind).take (j+1)=(offE x.kind).take j++[(offE x.kind).getD j 0]:=by
  rw[List.take_add_one,List.getD_eq_getElem?_getD,List.getElem?_eq_getElem hjl];rfl
 rw[htk,ht2];simp[numsB];refine kE (xte (xte (xbe (xtn ?_))));refine c_mrge4 S (fun(u9:Value) (p9:Option Addr) (c9:Nat) (t9:List UInt8) uu=>[(6,uu 6),(1,uu 8),(0,uu 9),(22,uu 32),(0,uu 33),(0,uu 34),(0,uu 35),(0,uu 36),(0,uu 37),(0,uu 38),(0,uu 39),(0,uu 40),(0,uu 41),(0,uu 42),(0,uu 43),(0,uu 44),(0,uu 45),(0,uu 46),(0,uu 47),(0,uu 48),(0,uu 49),(0,uu 50),(0,uu 51),(0,uu 52),(0,uu 53),(0,uu 54),(0,uu 55),(0,uu 56),(0,uu 57),(0,uu 58),(0,uu 59),(0,uu 60),(0,uu 61),(0,uu 62),(0,uu 63),(0,uu 64),(0,uu 65),(0,uu 66),(0,uu 67),(0,uu 68),(0,uu 69),(0,uu 70),(0,uu 71),(0,uu 72),(0,uu 73),(0,uu 74),(0,uu 75),(0,uu 76),(0,uu 77),(0,uu 78),(0,uu 79),(0,uu 80),(0,uu 81),(0,uu 82),(0,uu 83),(0,uu 84),(0,uu 85),(0,uu 86),(0,uu 87),(0,uu 88),(0,uu 89),(0,uu 90),(0,uu 91),(0,uu 92),(0,uu 93),(0,uu 94),(0,uu 95)]) (fun(u9:Value) (p9:Option Addr) (c9:Nat) (t9:List UInt8)=>[wI b u9 p9 c9 t9]) (fun(u9:Value) (p9:Option Addr) (c9:Nat) (t9:List UInt8)=>[TabF]) (fun(u9:Value) (p9:Option Addr) (c9:Nat) (t9:List UInt8)=>AdOk u9 b∧t9=t++restE x.e∧t9.length≤t.length+40000000) ?_ ?_;refine kS ?_;have hje:j=(offE x.kind).length:=by simp at h3;omega
 rw[hje,List.take_length,nums_off]at ht2;have hl3:t.length≤s.length+150:=by omega
 refine J12 ?_;clear S;intro a S;refine kC S (fun h8=>?_) (fun h8=>?_);refine J5 ?_;clear S;intro a S;refine c_mrge1 S (fun(vv:Int) uu=>[(6,.int .i64 vv),(29,uu 36),(0,uu 37),(0,uu 38)]) (fun(vv:Int)=>[Wk.box b3 47 (cEv x),wI b u2 p2 c2 t]) (fun(vv:Int)=>[TabF,InF x]) (fun(vv:Int)=>vv=(if x.ow then 1 else 0)) ?_ ?_;refine J7 ?_;clear S;intro a S;refine kC S (fun h10=>?_) (fun h10=>?_);refine J4 ?_;clear S;intro a S;exact ⟨1,S.uu,by rw[h10];rfl,S.sub _ _⟩;refine kK (xtn ?_);exact ⟨0,S.uu,by rw[h10];rfl,S.sub _ _⟩;clear S;rintro vv uu a w hvv S;refine J4 ?_;clear S;intro a S;refine sn S ?_;clear S;intro b41 a w S;replace S:=St.boxGl S b41 [vv] rfl (fun _ _ _=>trivial);have hvn:N64 vv:=by rw[hvv];split <;> exact ⟨by omega,by omega⟩
 have hvl:=numsB1_le hvn;refine swr b u2 p2 c2 t S (wnums_c b u2 p2 c2 t [vv] (some ⟨b41,0,none⟩) 1 (fun n hn=>by rw[List.mem_singleton.1 hn];exact hvn) (by simp;omega) _ (S.it (wI b u2 p2 c2 t)) (S.lend (wI b u2 p2 c2 t) (S.mem.fact TabF)) (S.lend (wI b u2 p2 c2 t) (S.gl (some ⟨b41,0,none⟩)))) ?_;clear S;intro v42 u3 p3 c3 a w hu3 S;refine J8 ?_;clear S;intro a S;refine sn S ?_;clear S;intro b47 a w S;replace S:=St.boxGl S b47 [x.oname] rfl (fun _ _ _=>trivial);obtain ⟨t3,ht3⟩:∃ t3,t3=t++numsB [vv]:=⟨_,rfl⟩;have hl3':t3.length≤t.length+21:=by rw[ht3,List.length_append];omega
 rw[←ht3]at S;refine swr b u3 p3 c3 t3 S (wnames_c b u3 p3 c3 t3 [x.oname] (some ⟨b47,0,none⟩) 1 (fun n hn=>by rw[List.mem_singleton.1 hn];exact h3n) (by simp;omega) _ (S.it (wI b u3 p3 c3 t3)) (S.lend (wI b u3 p3 c3 t3) (S.gl (some ⟨b47,0,none⟩)))) ?_;clear S;intro v48 u4 p4 c4 a w hu4 S;have hql:=names1_le x.oname;refine J7 ?_;clear S;intro a S;obtain ⟨t4,ht4⟩:∃ t4,t4=t3++namesB [x.oname]:=⟨_,rfl⟩;have hl4':t4.length≤t3.length+3+4*x.oname.length:=by rw[ht4,List.length_append];omega
 rw[←ht4]at S;refine swr b u4 p4 c4 t4 S (wterm_c b u4 p4 c4 t4 x.body (by omega) _ (S.it (wI b u4 p4 c4 t4)) (S.lend (wI b u4 p4 c4 t4) (S.t x.body))) ?_;clear S;intro v53 u5 p5 c5 a w hu5 S;have htl:=encT_le x.body.t;refine kN (xbn (xtn ?_));have hkd:x.kind=1:=by simpa using h8
 refine ⟨u5,p5,c5,t4++32::encT x.body.t,S.uu,⟨hu5,?_,by simp;omega⟩,S.sub _ _⟩;rw[ht4,ht3,hvv,restE,if_pos (show x.e.kind=1 from hkd)];simp[numsB,namesB,LEv.e];rfl;refine J6 ?_;clear S;intro a S;refine kC S (fun h15=>?_) (fun h15=>?_);refine J5 ?_;clear S;intro a S;refine sn S ?_;clear S;intro b59 a w S;replace S:=St.boxGl S b59 [x.name] rfl (fun _ _ _=>trivial);refine swr b u2 p2 c2 t S (wnames_c b u2 p2 c2 t [x.name] (some ⟨b59,0,none⟩) 1 (fun n hn=>by rw[List.mem_singleton.1 hn];exact h1n) (by simp;omega) _ (S.it (wI b u2 p2 c2 t)) (S.lend (wI b u2 p2 c2 t) (S.gl (some ⟨b59,0,none⟩)))) ?_;clear S;intro v60 u3 p3 c3 a w hu3 S;have hql:=names1_le x.name;refine J6 ?_;clear S;intro a S;obtain ⟨t3,ht3⟩:∃ t3,t3=t++namesB [x.name]:=⟨_,rfl⟩;have hl3':t3.length≤t.length+3+4*x.name.length:=by rw[ht3,List.length_append];omega
 rw[←ht3]at S;refine swr b u3 p3 c3 t3 S (wterm_c b u3 p3 c3 t3 x.term (by omega) _ (S.it (wI b u3 p3 c3 t3)) (S.lend (wI b u3 p3 c3 t3) (S.t x.term))) ?_;clear S;intro v64 u4 p4 c4 a w hu4 S;have htl:=encT_le x.term.t;refine kN (xbn (xtn ?_));have hkd:x.kind=2:=by simpa using h15
 refine ⟨u4,p4,c4,t3++32::encT x.term.t,S.uu,⟨hu4,?_,by simp;omega⟩,S.sub _ _⟩;rw[ht3,restE,if_neg (show ¬x.e.kind=1 from by show ¬x.kind=1;omega),if_pos (show x.e.kind=2 from hkd)];simp[namesB,LEv.e];refine J6 ?_;clear S;intro a S;refine kC S (fun h18=>?_) (fun h18=>?_);refine J6 ?_;clear S;intro a S;refine sn S ?_;clear S;intro b72 a w S;replace S:=St.boxGl S b72 [x.name,x.src] rfl (fun _ _ _=>trivial);refine swr b u2 p2 c2 t S (wnames_c b u2 p2 c2 t [x.name,x.src] (some ⟨b72,0,none⟩) 2 (fun n hn=>by
  simp only[List.mem_cons,List.not_mem_nil,or_false]at hn;rcases hn with rfl | rfl <;> assumption) (by simp;omega) _ (S.it (wI b u2 p2 c2 t)) (S.lend (wI b u2 p2 c2 t) (S.gl (some ⟨b72,0,none⟩)))) ?_;clear S;intro v73 u3 p3 c3 a w hu3 S
 have hql:=names2_le x.name x.src;refine kN (xbn (xtn ?_));have hkd:x.kind=3:=by simpa using h18
 refine ⟨u3,p3,c3,t++namesB [x.name,x.src],S.uu,⟨hu3,?_,by rw[List.length_append];omega⟩,S.sub _ _⟩;rw[restE,if_neg (show ¬x.e.kind=1 from by show ¬x.kind=1;omega),if_neg (show ¬x.e.kind=2 from by show ¬x.kind=2;omega),if_pos (show x.e.kind=3 from hkd)];simp[namesB,LEv.e];refine J6 ?_;clear S;intro a S;refine kC S (fun h20=>?_) (fun h20=>?_);refine J5 ?_;clear S;intro a S;refine swr b u2 p2 c2 t S (wstr_c b u2 p2 c2 t [32,61] (by simp;omega) _ (S.it (wI b u2 p2 c2 t))) ?_;clear S;intro v79 u3 p3 c3 a w hu3 S;refine J11 ?_;clear S;intro a S;refine c_fore5 S (fun(i:Nat) (u4:Value) (p4:Option Addr) (c4:Nat) (t4:List UInt8) uu=>[(8,uu 8),(0,uu 9),(73,.int .i64 (i:Nat)),(0,uu 84),(0,uu 85),(0,uu 86),(0,uu 87),(0,uu 88),(0,uu 89),(0,uu 90),(0,uu 91),(0,uu 92),(0,uu 93),(0,uu 94),(0,uu 95)]) (fun(i:Nat) (u4:Value) (p4:Option Addr) (c4:Nat) (t4:List UInt8)=>[Wk.box b3 47 (cEv x),wI b u4 p4 c4 t4]) (fun(i:Nat) (u4:Value) (p4:Option Addr) (c4:Nat) (t4:List UInt8)=>[TabF,InF x]) (fun(i:Nat) (u4:Value) (p4:Option Addr) (c4:Nat) (t4:List UInt8)=>i≤x.keep.xs.length∧t4=t++[32,61]++(x.keep.xs.take i).map bitB∧AdOk u4 b∧t4.length≤t.length+2+i) (fun(i:Nat) (u4:Value) (p4:Option Addr) (c4:Nat) (t4:List UInt8)=>x.keep.xs.length - i) (0) (u3) (p3) (c3) (t++[32,61]) ?_ S.uu ?_ ?_;exact ⟨Nat.zero_le _,by simp,hu3,by simp⟩
 first | exact S | exact S.sub _ _
 clear S;rintro i u4 p4 c4 t4 uu a w ⟨hi4,ht4,hu4,hl4⟩ S;refine J6 ?_;clear S;intro a S;refine kC S (fun h23=>?_) (fun h23=>?_);refine kK (xtn (kS (kB (kS ?_))));have hil:i < x.keep.xs.length:=by simp at h23;omega
 have hKi:KLt i x.keep.xs.length:=⟨hil⟩;refine J11 ?_;clear S;intro a S;refine c_mrge1 S (fun(cc:Int) uu=>[(9,.int .u8 cc),(77,uu 87),(0,uu 88),(0,uu 89)]) (fun(cc:Int)=>[Wk.box b3 47 (cEv x),wI b u4 p4 c4 t4]) (fun(cc:Int)=>[TabF,InF x]) (fun(cc:Int)=>cc=((bitB (nthG x.keep.xs i)).toNat:Int)) ?_ ?_;refine J5 ?_;clear S;intro a S;refine kC S (fun h26=>?_) (fun h26=>?_);refine J6 ?_;clear S;intro a S;exact ⟨_,S.uu,by rw[h26];rfl,S.sub _ _⟩;refine kK (xtn ?_);exact ⟨_,S.uu,by rw[h26];rfl,S.sub _ _⟩;clear S;rintro cc uu a w hcc S;refine J5 ?_;clear S;intro a S;rw[hcc]at S;refine swr b u4 p4 c4 t4 S (wbyte_c b u4 p4 c4 t4 (bitB (nthG x.keep.xs i)) (by omega) _ (S.it (wI b u4 p4 c4 t4))) ?_;clear S;intro v94 u5 p5 c5 a w hu5 S;refine J8 ?_;clear S;intro a S;rw[w6 ((i:Int)+1)]at S;refine ⟨i+1,u5,p5,c5,t4++[bitB (nthG x.keep.xs i)],S.uu,⟨hil,?_,hu5,by simp;omega⟩,S.sub _ _,by omega⟩;rw[nthG_take hil,ht4];simp;refine kE (xte (xte (xbe (xbn (xtn ?_)))));have hkd:x.kind=6:=by simpa using h20
 have hie:i=x.keep.xs.length:=by simp at h23;omega
 rw[hie,List.take_length]at ht4;refine ⟨u4,p4,c4,t4,S.uu,⟨hu4,?_,by omega⟩,S.sub _ _⟩;rw[ht4,restE,if_neg (show ¬x.e.kind=1 from by show ¬x.kind=1;omega),if_neg (show ¬x.e.kind=2 from by show ¬x.kind=2;omega),if_neg (show ¬x.e.kind=3 from by show ¬x.kind=3;omega),if_pos (show x.e.kind=6 from hkd)];simp[bitsE,LEv.e];refine kK (xbn (xtn ?_));simp only[decide_eq_false_iff_not]at h8 h15 h18 h20;refine ⟨u2,p2,c2,t,S.uu,⟨hu2,?_,by omega⟩,S.sub _ _⟩;rw[restE,if_neg (show ¬x.e.kind=1 from h8),if_neg (show ¬x.e.kind=2 from h15),if_neg (show ¬x.e.kind=3 from h18),if_neg (show ¬x.e.kind=6 from h20)];simp;clear S;rintro u9 p9 c9 t9 uu a w ⟨hu9,ht9,hl9⟩ S;refine J4 ?_;clear S;intro a S;refine swr b u9 p9 c9 t9 S (wbyte_c b u9 p9 c9 t9 10 (by omega) _ (S.it (wI b u9 p9 c9 t9))) ?_;clear S;intro v99 ua pa ca a w hua S;refine kN ?_;have hfin:t9++[10]=s++lineE x.e:=by
  have hje:j=(offE x.kind).length:=by simp at h3;omega
  rw[hje,List.take_length,nums_off]at ht2;rw[ht9,ht2,lineE_eq];simp[show x.e.kind=x.kind from rfl]
 rw[hfin]at S;have hh:=S.it (wI b ua pa ca (s++lineE x.e));have hn:=S.wd.own (wI b ua pa ca (s++lineE x.e)) (List.mem_cons_self ..) rfl;refine end0 S (fun _=>⟨ua,pa,ca,hua,hh,hn⟩)
theorem St.newW {w0:World}{M0:Nat→Prop}{ds:List Deferred}{a:Act}{w:World}{l:List Value}{bs:List Wk.Item}{fs:List (World→Prop)}{b:Nat}(S:St w0 M0 ds a w l (Wk.box b 106 [.pointer none,.slice none 0 0]::bs) fs):St w0 M0 ds a w l (wI b (.pointer none) none 0 []::bs) fs:=by
 have S1:=S.addNil 5 1;have S2:=(S1.perm (Wk.box b 106 [.pointer none,.slice none 0 0]::Wk.row 5 1 none 0 0 []::bs) (List.Perm.swap _ _ _)).toBoth;exact S2
instance itNo:ItOk noI:=⟨fun _ _ _ _=>trivial,fun _ _ _ h=>h.elim⟩
theorem numsB_le:∀ (l:List Int),(∀ n∈l,N64 n)→(numsB l).length≤21*l.length
 | [],_=>by simp[numsB]
 | n::l,h=>by
  have h1:=itoa_le (h n (by simp));have h2:=numsB_le l (fun m hm=>h m (by simp[hm]));rw[numsB]at h2⊢;rw[List.flatMap_cons,List.length_append,qqA,qqA];omega
theorem line_le {x:PEv}(hw:wrongV x=false)(hr:∀ n∈numsE x,N64 n):(lineE x).length≤300000:=by
 have hk:=(wrong_not hw).1;have hwl:=word_le hk;have hlens:x.keep.length≤2048∧x.name.length≤64∧x.src.length≤64∧x.oname.length≤64:=by
  simp only[wrongV,Bool.or_eq_false_iff,decide_eq_false_iff_not]at hw;omega
 have q1:=quote_len x.oname;have q2:=quote_len x.name;have q3:=quote_len x.src;have e1:=encT_le x.body;have e2:=encT_le x.term;have i1:(Lib.itoa (if x.ow=true then (1:Int) else 0)).length≤20:=itoa_le (by split <;> exact ⟨by omega,by omega⟩);have hn:=numsB_le _ hr;have hnl:(numsE x).length≤4:=by
  unfold numsE
  repeat' split
  all_goals simp
 have hrl:(restE x).length≤250000:=by
  unfold restE
  generalize Lib.itoa (if x.ow=true then (1:Int) else 0)=z at i1
  repeat' split
  all_goals simp only[List.flatMap_cons,List.flatMap_nil,List.length_append,qqA,qqB,bitsE,List.length_map]
  all_goals omega
 rw[lineE_eq];simp only[List.length_append,qqA,qqB];omega
theorem right_fit {x:LEv}(hw:wrongV x.e=false):x.name.length≤64∧x.src.length≤64∧x.oname.length≤64∧FitE x:=by
 simp only[wrongV,Bool.or_eq_false_iff,decide_eq_false_iff_not]at hw;have h1:¬2048 < x.keep.xs.length:=hw.1.1.1.1.2;have h2:¬64 < x.name.length:=hw.1.1.1.2.1.1;have h3:¬64 < x.src.length:=hw.1.1.1.2.1.2;have h4:¬64 < x.oname.length:=hw.1.1.1.2.2;exact ⟨by omega,by omega,by omega,⟨by omega⟩⟩
theorem checkE_ok {l:List PEv}(h:checkE l=true):l.length≤300∧∀ x∈l,wrongV x=false:=by
 simp only[checkE,Bool.and_eq_true,decide_eq_true_eq,Bool.not_eq_true',List.any_eq_false]at h;exact ⟨h.1,fun x hx=>by have:=h.2 x hx;simpa using this⟩
def printV (s:LScr):List UInt8 × Int:=if checkE s.evs=true then (if (printF s.area s.evs).length≤262144 then (printF s.area s.evs,0) else ([],3)) else ([],2)
theorem print_c (s:LScr)(hfit:FitS s)(w0:World)(ht:Fx w0 TabF)(hf:Fx w0 (InF s)) :
  Ret Tryz.prog 15 [vScr s] w0 (fun _=>False) fun v _=>v=.tuple ⟨[str (printV s).1,.int .i64 (printV s).2]⟩:=by
 have har:N64 s.area:=hf.now.2;refine E1 Tryz.func15 rfl Tryz.ntmps15 (Wd.begin (fs:=[TabF,InF s]) (by simp;exact ⟨ht,hf⟩)) ?_;intro a S;refine kS (kR ?_);refine sa S ?_;intro b1 a w S;refine J8 ?_;intro a S;refine sr S (scheck_c s hfit _ (S.i0 s)) ?_;rintro _ a w rfl S;refine J9 ?_;intro a S;refine kC S (fun h2=>?_) (fun h2=>?_);refine J9 ?_;intro a S;have hc:¬checkE s.evs=true:=fun h=>by rw[chkS,if_pos h]at h2;simp at h2
 refine end2 S (fun _=>?_);rw[printV,if_neg hc,chkS,if_neg hc];refine kK (xtn (kS ?_));have hc:checkE s.evs=true:=by
  cases h:checkE s.evs with
  | true=>rfl
  | false=>rw[chkS,h]at h2;simp at h2
 obtain ⟨hlen,hev⟩:=checkE_ok hc;have hlen':s.ev.xs.length≤300:=by simpa [LScr.evs] using hlen
 have hinn:=hf.now.1.2.2.2;refine kR (sa S ?_);intro b5 a w S;replace S:=St.newW S;refine J5 ?_;intro a S;refine swr b5 (.pointer none) none 0 [] S (wstr_c b5 (.pointer none) none 0 [] wWorld (by simp) _ (S.it (wI b5 (.pointer none) none 0 []))) ?_;intro v14 u1 p1 c1 a w hu1 S;rw[qqF]at S;refine J7 ?_;intro a S;refine sn S ?_;intro b18 a w S;replace S:=St.boxGl S b18 [s.area] rfl (fun _ _ _=>trivial);have hvl:=numsB1_le har;refine swr b5 u1 p1 c1 wWorld S (wnums_c b5 u1 p1 c1 wWorld [s.area] (some ⟨b18,0,none⟩) 1 (fun n hn=>by rw[List.mem_singleton.1 hn];exact har) (by simp) _ (S.it (wI b5 u1 p1 c1 wWorld)) (S.lend (wI b5 u1 p1 c1 wWorld) (S.mem.fact TabF)) (S.lend (wI b5 u1 p1 c1 wWorld) (S.gl (some ⟨b18,0,none⟩)))) ?_;intro v19 u2 p2 c2 a w hu2 S;refine J5 ?_;intro a S;obtain ⟨t2,ht2⟩:∃ t2,t2=wWorld++numsB [s.area]:=⟨_,rfl⟩;have hl2:t2.length≤26:=by rw[ht2,List.length_append];simp;omega
 rw[←ht2]at S;refine swr b5 u2 p2 c2 t2 S (wbyte_c b5 u2 p2 c2 t2 10 (by omega) _ (S.it (wI b5 u2 p2 c2 t2))) ?_;intro v21 u3 p3 c3 a w hu3 S;refine J12 ?_;intro a S;refine c_fore5 S (fun(k:Nat) (u4:Value) (p4:Option Addr) (c4:Nat) (t4:List UInt8) uu=>[(7,uu 7),(17,.int .i64 (k:Nat)),(0,uu 26),(0,uu 27),(0,uu 28),(0,uu 29),(0,uu 30),(0,uu 31)]) (fun(k:Nat) (u4:Value) (p4:Option Addr) (c4:Nat) (t4:List UInt8)=>[wI b5 u4 p4 c4 t4,Wk.box b1 26 (cScr s)]) (fun(k:Nat) (u4:Value) (p4:Option Addr) (c4:Nat) (t4:List UInt8)=>[TabF,InF s]) (fun(k:Nat) (u4:Value) (p4:Option Addr) (c4:Nat) (t4:List UInt8)=>k≤s.ev.xs.length∧t4=t2++[10]++((s.ev.xs.take k).map LEv.e).flatMap lineE∧AdOk u4 b5∧t4.length≤27+300000*k) (fun(k:Nat) (u4:Value) (p4:Option Addr) (c4:Nat) (t4:List UInt8)=>s.ev.xs.length - k) (0) (u3) (p3) (c3) (t2++[10]) ?_ S.uu ?_ ?_;exact ⟨Nat.zero_le _,by simp,hu3,by simp;omega⟩
 first | exact S | exact S.sub _ _
 clear S;rintro k u4 p4 c4 t4 uu a w ⟨hk,ht4,hu4,hl4⟩ S;refine J6 ?_;intro a S;refine kC S (fun h9=>?_) (fun h9=>?_);refine kK (xtn (kS (kB (kS ?_))));have hkl:k < s.ev.xs.length:=by simp at h9;omega
 have hKk:KLt k s.ev.xs.length:=⟨hkl⟩;have hw:wrongV (nthG s.ev.xs k).e=false:=hev _ (List.mem_map.2 ⟨_,nthG_mem hkl,rfl⟩);obtain ⟨f1,f2,f3,f4⟩:=right_fit hw;have hll:=line_le hw (nums_rng (hinn _ (nthG_mem hkl)).2.2.2);refine J3 ?_;intro a S;refine sa S ?_;intro b7 a w S;refine Y5 ?_;intro a w S;refine swr b5 u4 p4 c4 t4 S (wevent_c b5 u4 p4 c4 t4 (nthG s.ev.xs k) (wrong_not hw).1 (by omega) (by omega) (by omega) f4 (by omega) _ (S.it (wI b5 u4 p4 c4 t4)) (S.lend (wI b5 u4 p4 c4 t4) (S.mem.fact TabF)) (S.lend (wI b5 u4 p4 c4 t4) (S.i (nthG s.ev.xs k)))) ?_;intro v30 u5 p5 c5 a w hu5 S;refine J8 ?_;intro a S;rw[w6 ((k:Int)+1)]at S;refine ⟨k+1,u5,p5,c5,t4++lineE (nthG s.ev.xs k).e,S.uu,⟨hkl,?_,hu5,by rw[List.length_append];omega⟩,S.sub _ _,by omega⟩;rw[nthG_take hkl,ht4];simp;refine kE (xte (xte (xbe (xtn (kS (kS ?_))))));have hke:k=s.ev.xs.length:=by simp at h9;omega
 have hfin:t4=printF s.area s.evs:=by
  rw[ht4,ht2,hke,List.take_length,printF,headE,numsB];simp[LScr.evs]
 refine J2 ?_;intro a S;refine sr S (wlen_c b5 u4 p4 c4 t4 w (BoxF.stable (S.it (wI b5 u4 p4 c4 t4)).1 (fun h=>h))) ?_;rintro _ a w rfl S;refine J3 ?_;intro a S;refine kC S (fun h13=>?_) (fun h13=>?_);refine J8 ?_;intro a S;refine end2 S (fun _=>?_);have hgt:¬(printF s.area s.evs).length≤262144:=by rw[←hfin];simp at h13;omega
 rw[printV,if_pos hc,if_neg hgt];refine J5 ?_;intro a S;refine sit (wI b5 u4 p4 c4 t4) S (wstring_c b5 u4 p4 c4 t4 (by rw[hfin,printF,headE];simp) _ (S.it (wI b5 u4 p4 c4 t4))) rfl ?_;rintro _ a w rfl hS;have S:=hS noI trivial (fun k h=>h.elim);clear hS;refine J5 ?_;intro a S;refine end2 S (fun _=>?_);have hgt:(printF s.area s.evs).length≤262144:=by rw[←hfin];simp at h13;omega
 rw[printV,if_pos hc,if_pos hgt,hfin]
structure LTold where
 err:Int
 rerr:Int
 ver:Int
 wr:Int
 body:LTerm
abbrev cTold (t:LTold):List Value:=[.int .i64 t.err,.int .i64 t.rerr,.int .i64 t.ver,.int .i64 t.wr,.int .i64 t.body.kind,.int .i64 t.body.user,.int .i64 t.body.num,str t.body.text,.slice t.body.p t.body.kids.length t.body.cap]
instance encTold:Enc LTold:=⟨9,cTold,fun _=>rfl,fun x u hu=>by
 simp only[List.mem_cons,List.not_mem_nil,or_false]at hu;rcases hu with rfl | rfl | rfl | rfl | rfl | rfl | rfl | rfl | rfl <;> rfl⟩
instance layTold:Lay LTold:={ encTold with
 dflt:=⟨0,0,0,0,zeroL⟩
 inn:=fun w t=>LtIn w t.body∧N64 t.err∧N64 t.rerr∧N64 t.ver∧N64 t.wr
 mono:=fun w w' t h hx=>⟨LtIn.mono h t.body hx.1,hx.2⟩ }
end Go.Proofs.YtlgnhhebeandkaaGreatDoor