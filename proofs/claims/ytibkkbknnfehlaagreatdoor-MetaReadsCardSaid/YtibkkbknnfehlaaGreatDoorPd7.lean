/- 7: a part of this claim's texts, joined: RefMetaG LawMetaA. -/
import Derived.Test.YtibkkbknnfehlaaGreatDoorPd6
namespace Go.Proofs.YtibkkbknnfehlaaGreatDoor
open Go Go.Wk
set_option synthInstance.maxSize 100000
set_option synthInstance.maxHeartbeats 400000
set_option maxRecDepth 100000
theorem good_textM {x:LTerm}{s:List UInt8}(h:x.t=textT s):x.text=s:=by
 rw[x.t_eq,textT,Term.mk.injEq]at h;exact h.2.2.2.1
theorem pickT {c:Bool}{M:Nat→Prop}{w:World}{v:Value}{T:Term}(h1:c=true→IsT M w v T)(h2:c=false→v=vL zeroL):∃ z:LTerm,v=vL z∧(c=true→z.t=T)∧Stable M w (LtF z):=by
 cases c with
 | false=>exact ⟨zeroL,h2 rfl,nofun,fun w' _=>zeroL_in w'⟩
 | true=>
  obtain ⟨z,e1,e2,e3⟩:=h1 rfl;exact ⟨z,e1,fun _=>e2,e3⟩
def R15R (M:Nat→Prop)(T:Term)(v:Value)(w:World):Prop:=∃ (m:LMeta) (b:Bool),v=.tuple ⟨[vMeta m,.bool b]⟩∧Stable M w (InF m)∧(b=true→metOk m.m∧Good T∧∃ leaf,T=metaT m.m leaf)∧(b=false→∀ m leaf,metOk m→T=metaT m leaf→¬Good T)
theorem R15R.no {M:Nat→Prop}{T:Term}{w:World}(h:∀ m leaf,metOk m→T=metaT m leaf→¬Good T):R15R M T (.tuple ⟨[vMeta zM,.bool false]⟩) w:=⟨zM,false,rfl,fun w' _=>zM_in w',nofun,fun _=>h⟩
set_option maxHeartbeats 4000000 in
theorem r15read_c (t:LTerm)(M:Nat→Prop)(w0:World)(hM:∀ k,M k→k < w0.heap.size)(hf:Stable M w0 (LtF t)):Ret Tryz.prog 9 [vL t] w0 (fun _=>False) fun v w'=>R15R M t.t v w':=by
 refine E1 Tryz.func9 rfl Tryz.ntmps9 (Wd.beginM (M:=M) (fs:=[LtF t]) hM (by simpa using hf)) ?_;intro a S;refine kS (kR ?_);refine sa S ?_;clear S;intro b1 a w S;refine sa S ?_;clear S;intro b2 a w S;refine J6 ?_;clear S;intro a S;refine sa S ?_;clear S;intro b4 a w S;refine Y16 ?_;clear S;intro a w S;refine kC S (fun h2=>?_) (fun h2=>?_);refine Y9 ?_;clear S;intro a w S;refine end2 S (fun _=>R15R.no fun m leaf hm he hg=>?_);have k1:rightF t.t=true:=check_zero.1 (good_check.2 hg);have k2:t.kind=8:=by rw[←kindT_eq,he];rfl
 simp[k1,k2]at h2;refine kK (xtn (kS ?_));have hrk:rightF t.t=true∧t.kind=8:=by simpa using h2
 have hg:Good t.t:=good_check.1 (check_zero.2 hrk.1);obtain ⟨hkl1,hst,hu1,hn1⟩:=good_signK hg hrk.2;have hK0:KLt 0 t.kids.length:=⟨by omega⟩;have hgk:Good (nthL t.kids 0).t:=by
  have hg':=hg;rw[hst]at hg';exact good_kid hg' (by simp)
 have hgd:=good_dpt hgk;have hfull:∀ m1 leaf1,t.t=metaT m1 leaf1→(nthL t.kids 0).t=listT (metaL m1)∧m1.owner=t.user∧leaf1=t.num:=fun m1 leaf1 he1=>by
  have e:=he1;rw[hst,metaT]at e;obtain ⟨u1,u2,u3⟩:=signT_inj e;exact ⟨u3,u1.symm,u2.symm⟩
 refine J5 ?_;clear S;intro a S;refine sr S (runlist_c (nthL t.kids 0) (by omega) _ w (foots_lt S) (S.t (nthL t.kids 0))) ?_;clear S;rintro _ a w ⟨p1,c1,os,b0,rfl,hls,hol,hun⟩ S;replace S:=S.add hls;obtain ⟨hun1,hun2⟩:=hun hgk;refine J19 ?_;clear S;intro a S;refine kC S (fun h5=>?_) (fun h5=>?_);refine Y9 ?_;clear S;intro a w S;refine end2 S (fun _=>R15R.no fun m leaf hm he hg=>?_);obtain ⟨q1,-⟩:=hfull m leaf he;cases b0 with
 | false=>exact (hun2 rfl).2 _ q1
 | true=>
  have k2:=congrArg List.length (listT_injM ((hun1 rfl).symm.trans q1));simp[metaL]at k2;simp[k2]at h5
 refine kK (xtn (kS ?_));obtain ⟨hb0,hlen⟩:b0=true∧os.length=10:=by
  cases b0 with
  | false=>simp at h5
  | true=>exact ⟨rfl,by have:(os.length:Int)=10:=(by simpa using h5);omega⟩
 have htl:=hun1 hb0;have hgo:∀ k,k < 10→Good (nthL os k).t:=fun k hk=>list_good hgk htl (List.mem_map.2 ⟨_,nth_mem (by omega),rfl⟩)
 have hK1:KLt 1 os.length:=⟨by omega⟩;have hK2:KLt 2 os.length:=⟨by omega⟩;have hK3:KLt 3 os.length:=⟨by omega⟩;have hK4:KLt 4 os.length:=⟨by omega⟩;have hK5:KLt 5 os.length:=⟨by omega⟩;have hK6:KLt 6 os.length:=⟨by omega⟩;have hK7:KLt 7 os.length:=⟨by omega⟩;have hK8:KLt 8 os.length:=⟨by omega⟩;have hK9:KLt 9 os.length:=⟨by omega⟩;have hget:∀ m1 leaf1,t.t=metaT m1 leaf1→∀ k x,k < 10→(metaL m1)[k]? = some x→(nthL os k).t=x:=fun m1 leaf1 he1 k x hk hx=>by
  have e1:os.map LTerm.t=metaL m1:=listT_injM (htl.symm.trans (hfull m1 leaf1 he1).1);have e2:=congrArg (fun l=>l[k]?) e1;simp only[List.getElem?_map]at e2;rw[nth_get (by omega:k < os.length),hx]at e2;simpa using e2
 refine c_drawD [T9 0,T9 1,T9 2,T9 3,T9 4,T9 5,T9 6,T9 7,F9 8,F9 9] [] S ?_;clear S;intro w S;(iterate 8 (refine dq S ?_;clear S;intro a S));refine dl (sa S ?_);clear S;intro b7 a w S;refine de S ?_;refine dl (sw S ?_);clear S;intro a w S;refine de S ?_;refine dn (xtn (kS (kR (sq S ?_))));clear S;intro a S;refine kN (xtn (kS (kR ?_)));(iterate 3 (refine sq S ?_;clear S;intro a S));refine sr S (rnumber_c (nthL os 2) 9999 (by omega) (by omega) _ (S.mem.t0 _)) ?_;clear S;rintro _ a w ⟨n2,f2,rfl,hy2,hn2⟩ S;refine Y20 ?_;clear S;intro a w S;refine J2 ?_;clear S;intro a S;refine sr S (rnumber_c (nthL os 3) 9999 (by omega) (by omega) _ (S.mem.t0 _)) ?_;clear S;rintro _ a w ⟨n3,f3,rfl,hy3,hn3⟩ S;refine Y20 ?_;clear S;intro a w S;refine J3 ?_;clear S;intro a S;refine sr S (rnumber_c (nthL os 4) 9999 (by omega) (by omega) _ (S.mem.t0 _)) ?_;clear S;rintro _ a w ⟨n4,f4,rfl,hy4,hn4⟩ S;refine Y20 ?_;clear S;intro a w S;refine J3 ?_;clear S;intro a S;refine sr S (rints_c (nthL os 5) (hgo 5 (by omega)) _ w (foots_lt S) (S.t (nthL os 5))) ?_;clear S;rintro _ a w ⟨p5,c5,l5,f5,rfl,hs5,hle5,hcm5,hll5,hok5,hy5,hn5⟩ S;replace S:=S.add hs5;refine Y20 ?_;clear S;intro a w S;refine J3 ?_;clear S;intro a S;refine sr S (rints_c (nthL os 6) (hgo 6 (by omega)) _ w (foots_lt S) (S.t (nthL os 6))) ?_;clear S;rintro _ a w ⟨p6,c6,l6,f6,rfl,hs6,hle6,hcm6,hll6,hok6,hy6,hn6⟩ S;replace S:=S.add hs6;refine Y20 ?_;clear S;intro a w S;refine J3 ?_;clear S;intro a S
 refine sr S (rints_c (nthL os 7) (hgo 7 (by omega)) _ w (foots_lt S) (S.t (nthL os 7))) ?_;clear S;rintro _ a w ⟨p7,c7,l7,f7,rfl,hs7,hle7,hcm7,hll7,hok7,hy7,hn7⟩ S;replace S:=S.add hs7;refine Y20 ?_;clear S;intro a w S;refine J3 ?_;clear S;intro a S;refine sr S (runlist_c (nthL os 8) (by have:=good_dpt (hgo 8 (by omega));omega) _ w (foots_lt S) (S.t (nthL os 8))) ?_;clear S;rintro _ a w ⟨p8,c8,vs,f8,rfl,hs8,hol8,hun8⟩ S;replace S:=S.add hs8;obtain ⟨hy8,hn8⟩:=hun8 (hgo 8 (by omega));have hvl:vs.length≤1200:=by have:=good_dpt (hgo 8 (by omega));omega
 refine J18 ?_;clear S;intro a S;obtain ⟨gg,hggd⟩:∃ gg,gg=(f2&&f3&&f4&&f5&&f6&&f7&&f8):=⟨_,rfl⟩;rw[←hggd]at S;have hgt:gg=true→f2=true∧f3=true∧f4=true∧f5=true∧f6=true∧f7=true∧f8=true:=by rw[hggd];simp[and_assoc]
 have hall:∀ m leaf,metOk m→t.t=metaT m leaf→f2=true∧f3=true∧f4=true∧f5=true∧f6=true∧f7=true∧f8=true:=fun m leaf hm he=>by
  obtain ⟨r1,r2,r3,r4,r5,r6,-⟩:=metOk_rng hm;have e2:=hget m leaf he 2 _ (by omega) rfl;have e3:=hget m leaf he 3 _ (by omega) rfl;have e4:=hget m leaf he 4 _ (by omega) rfl;rw[digT_pos (by omega)]at e2 e3 e4;refine ⟨?_,?_,?_,?_,?_,?_,?_⟩;cases q:f2 with
  | true=>rfl
  | false=>exact absurd e2 ((hn2 q).2 _ (by omega) (by omega))
  cases q:f3 with
  | true=>rfl
  | false=>exact absurd e3 ((hn3 q).2 _ (by omega) (by omega))
  cases q:f4 with
  | true=>rfl
  | false=>exact absurd e4 ((hn4 q).2 _ (by omega) (by omega))
  cases q:f5 with
  | true=>rfl
  | false=>exact absurd (hget m leaf he 5 _ (by omega) rfl) (hn5 q _ r4)
  cases q:f6 with
  | true=>rfl
  | false=>exact absurd (hget m leaf he 6 _ (by omega) rfl) (hn6 q _ r5)
  cases q:f7 with
  | true=>rfl
  | false=>exact absurd (hget m leaf he 7 _ (by omega) rfl) (hn7 q _ r6)
  cases q:f8 with
  | true=>rfl
  | false=>exact absurd (hget m leaf he 8 _ (by omega) rfl) ((hn8 q).2 _)
 have hgg:gg=false→∀ m leaf,metOk m→t.t=metaT m leaf→False:=fun h m leaf hm he=>by
  obtain ⟨q2,q3,q4,q5,q6,q7,q8⟩:=hall m leaf hm he;rw[hggd,q2,q3,q4,q5,q6,q7,q8]at h;cases h
 refine J5 ?_;clear S;intro a S;refine c_fore5 S (fun(k:Nat) (g:Bool) (ps:List (Sl Int)) (pp:Option Addr) (cp:Nat) uu=>[(8,.bool g),(1,.int .i64 (k:Nat)),(0,uu 11),(0,uu 12),(122,uu 135),(0,uu 136),(0,uu 137),(0,uu 138),(0,uu 139),(0,uu 140),(0,uu 141),(0,uu 142),(0,uu 143),(0,uu 144),(0,uu 145),(0,uu 146),(0,uu 147),(0,uu 148),(0,uu 149),(0,uu 150),(0,uu 151),(0,uu 152),(0,uu 153),(0,uu 154),(0,uu 155),(0,uu 156),(0,uu 157),(0,uu 158)]) (fun(k:Nat) (g:Bool) (ps:List (Sl Int)) (pp:Option Addr) (cp:Nat)=>[Wk.row 27 1 pp ps.length cp (encL ps),Wk.box b7 32 [str (nthL os 1).text,.int .i64 n2,.int .i64 n3,.int .i64 n4,.slice p5 l5.length c5,.slice p6 l6.length c6,.slice p7 l7.length c7,.slice pp ps.length cp,.int .i64 (nthL os 9).kind,.int .i64 (nthL os 9).user,.int .i64 (nthL os 9).num,str (nthL os 9).text,.slice (nthL os 9).p (nthL os 9).kids.length (nthL os 9).cap],Wk.box b4 32 zMeta0,Wk.box b2 32 zMeta0,Wk.box b1 24 t.cells,ext M]) (fun(k:Nat) (g:Bool) (ps:List (Sl Int)) (pp:Option Addr) (cp:Nat)=>[AllI ps,LsF p8 0 vs,GlF p7 l7,GlF p6 l6,GlF p5 l5,LsF p1 0 os,LtF t]) (fun(k:Nat) (g:Bool) (ps:List (Sl Int)) (pp:Option Addr) (cp:Nat)=>k≤vs.length∧ps.length=k∧(∀ s∈ps,okI s.xs∧s.xs.length≤1200)∧(g=true→gg=true∧(vs.take k).map LTerm.t=ps.map (fun s=>numsT s.xs))∧(g=false→∀ m leaf,metOk m→t.t=metaT m leaf→False)) (fun(k:Nat) (g:Bool) (ps:List (Sl Int)) (pp:Option Addr) (cp:Nat)=>vs.length - k) (0) (gg) ([]) (none) (0) ?_ S.uu ?_ ?_;exact ⟨Nat.zero_le _,rfl,nofun,fun h=>⟨h,rfl⟩,hgg⟩;replace S:=S.addNil 27 1
 rw[show Wk.row 27 1 none 0 0 []=Wk.row 27 1 none 0 0 (encL ([]:List (Sl Int))) from rfl]at S;replace S:=S.add (Φ:=AllI (α:=Sl Int) []) AllI.nil;exact S.sub _ _;clear S;rintro k g ps pp cp uu a w ⟨hk,hpsl,hpok,hgy,hgn⟩ S;refine J12 ?_;clear S;intro a S;refine kC S (fun h24=>?_) (fun h24=>?_);refine kK (xtn (kS (kB (kS ?_))));obtain ⟨rfl,hkl⟩:g=true∧k < vs.length:=by simpa using h24
 have hK:KLt k vs.length:=⟨hkl⟩;obtain ⟨hgt1,heq⟩:=hgy rfl;refine J5 ?_;clear S;intro a S;refine sr S (rints_c (nthL vs k) (list_good (hgo 8 (by omega)) (hy8 (hgt hgt1).2.2.2.2.2.2) (List.mem_map.2 ⟨_,nth_mem hkl,rfl⟩)) _ w (foots_lt S) (S.t (nthL vs k))) ?_;clear S;rintro _ a w ⟨px,cx,lx,fx,rfl,hsx,hlex,hcmx,hllx,hokx,hyx,hnx⟩ S;replace S:=S.add (Φ:=AllI (ps++[(⟨px,cx,lx⟩:Sl Int)])) (AllI.snoc (S.wd.facts (AllI ps) (by simp)) (hsx.imp fun w h=>⟨hlex,hcmx,h⟩));refine J17 ?_;clear S;intro a S;refine sn S ?_;clear S;intro b156 a w S;refine sap S (by simp[maxLen];omega) (by omega) ?_;clear S;rintro pq cq a w - S;rw[show encL ps++[Value.slice px lx.length cx]=encL (ps++[(⟨px,cx,lx⟩:Sl Int)]) from by rw[encL_append];rfl,show ps.length+1=(ps++[(⟨px,cx,lx⟩:Sl Int)]).length from by simp]at S;refine Y11 ?_;clear S;intro a w S;rw[w6 ((k:Int)+1)]at S;refine ⟨k+1,fx,ps++[⟨px,cx,lx⟩],pq,cq,S.uu,⟨hkl,by simp;omega,fun s hs=>?_,fun h=>⟨hgt1,?_⟩,fun h m leaf hm he=>?_⟩,S.sub _ _,by omega⟩;rcases List.mem_append.1 hs with hs | hs
 exact hpok s hs;rw[List.mem_singleton.1 hs];exact ⟨hokx,hllx⟩;rw[take_map_succM _ _ hkl,heq,hyx h,List.map_append];rfl;have e1:=listT_injM ((hy8 (hgt hgt1).2.2.2.2.2.2).symm.trans (hget m leaf he 8 _ (by omega) rfl));have hmm:(nthL vs k).t∈m.past.map numsT:=by rw[←e1];exact List.mem_map.2 ⟨_,nth_mem hkl,rfl⟩
 obtain ⟨l,hl1,hl2⟩:=List.mem_map.1 hmm;exact hnx h l ((metOk_rng hm).2.2.2.2.2.2.1 l hl1) hl2.symm;refine kE (xte (xte (xbe (xtn (kS (kS ?_))))));have hpl:=own_le (S.row pp ps.length);have hpm:=own_capM (S.row pp ps.length);have hpn:ps.length≤1200:=by omega
 replace S:=S.rowToGl pp ps (e:=27) (sz:=1) (n:=ps.length) (c:=cp) (S.wd.facts (AllI ps) (by simp));obtain ⟨mm,hmm⟩:∃ mm:LMeta,mm=⟨(nthL os 1).text,n2,⟨n3,n4,⟨p5,c5,l5⟩,⟨p6,c6,l6⟩,⟨p7,c7,l7⟩⟩,⟨pp,cp,ps⟩,nthL os 9⟩:=⟨_,rfl⟩;replace S:=S.add (Φ:=InF mm) (by
  rw[hmm];intro w' hw';exact ⟨⟨⟨hle5,hcm5,S.wd.facts (GlF p5 l5) (by simp) w' hw'⟩,⟨hle6,hcm6,S.wd.facts (GlF p6 l6) (by simp) w' hw'⟩,⟨hle7,hcm7,S.wd.facts (GlF p7 l7) (by simp) w' hw'⟩⟩,⟨hpl,hpm,S.wd.facts (GlF pp ps) (by simp) w' hw'⟩,S.t (nthL os 9) w' hw'⟩)
 have hfit:FitMeta mm:=by
  rw[hmm];exact ⟨by show (nthL os 1).text.length≤_;have:=good_lenM (hgo 1 (by omega));omega,by show l5.length≤_;omega,by show l6.length≤_;omega,by show l7.length≤_;omega,by show ps.length≤_;omega,fun s hs=>by have:=(hpok s hs).2;omega⟩
 have hmmT:mm.m=⟨(nthL os 1).text,n2,n3,n4,l5,l6,l7,ps.map Sl.xs,(nthL os 9).t⟩:=by rw[hmm];rfl
 have hmv:vMeta mm=.agg ⟨[str (nthL os 1).text,.int .i64 n2,.int .i64 n3,.int .i64 n4,.slice p5 l5.length c5,.slice p6 l6.length c6,.slice p7 l7.length c7,.slice pp ps.length cp,.int .i64 (nthL os 9).kind,.int .i64 (nthL os 9).user,.int .i64 (nthL os 9).num,str (nthL os 9).text,.slice (nthL os 9).p (nthL os 9).kids.length (nthL os 9).cap]⟩:=by rw[hmm]
 have hboxG:Good mm.boxes.t:=by rw[hmm];exact hgo 9 (by omega)
 have hwhole:∀ m1 leaf1,metOk m1→t.t=metaT m1 leaf1→g=true∧mm.m=m1∧leaf1=t.num:=fun m1 leaf1 hm1 he1=>by
  have hgtr:g=true:=by
   cases q:g with
   | true=>rfl
   | false=>exact (hgn q m1 leaf1 hm1 he1).elim
  obtain ⟨hgt1,heq⟩:=hgy hgtr;have hke:vs.length≤k:=by rw[hgtr]at h24;simpa using h24
  rw[List.take_of_length_le hke]at heq;obtain ⟨q2,q3,q4,q5,q6,q7,q8⟩:=hgt hgt1;obtain ⟨r1,r2,r3,r4,r5,r6,r7,-⟩:=metOk_rng hm1;have g1:=good_textM (hget m1 leaf1 he1 1 _ (by omega) rfl);have g2:=hget m1 leaf1 he1 2 _ (by omega) rfl;have g3:=hget m1 leaf1 he1 3 _ (by omega) rfl;have g4:=hget m1 leaf1 he1 4 _ (by omega) rfl;have g5:=hget m1 leaf1 he1 5 _ (by omega) rfl;have g6:=hget m1 leaf1 he1 6 _ (by omega) rfl;have g7:=hget m1 leaf1 he1 7 _ (by omega) rfl;have g8:=hget m1 leaf1 he1 8 _ (by omega) rfl;have g9:=hget m1 leaf1 he1 9 _ (by omega) rfl;have u2:=(hy2 q2).2;have u3:=(hy3 q3).2;have u4:=(hy4 q4).2;rw[←digT_pos (hy2 q2).1.1]at u2;rw[←digT_pos (hy3 q3).1.1]at u3;rw[←digT_pos (hy4 q4).1.1]at u4;have v2:=digT_inj ⟨(hy2 q2).1.1,by have:=(hy2 q2).1;omega⟩ ⟨by omega,by omega⟩ (u2.symm.trans g2);have v3:=digT_inj ⟨(hy3 q3).1.1,by have:=(hy3 q3).1;omega⟩ ⟨by omega,by omega⟩ (u3.symm.trans g3);have v4:=digT_inj ⟨(hy4 q4).1.1,by have:=(hy4 q4).1;omega⟩ ⟨by omega,by omega⟩ (u4.symm.trans g4);have v5:=numsT_inj hok5 r4 ((hy5 q5).symm.trans g5);have v6:=numsT_inj hok6 r5 ((hy6 q6).symm.trans g6);have v7:=numsT_inj hok7 r6 ((hy7 q7).symm.trans g7);have v8:=listT_injM ((hy8 q8).symm.trans g8);rw[heq,show (fun s:Sl Int=>numsT s.xs)=numsT ∘ Sl.xs from rfl,←List.map_map]at v8;have v9:=numsT_injL (fun l hl=>by obtain ⟨s,hs,rfl⟩:=List.mem_map.1 hl;exact (hpok s hs).1) r7 v8;refine ⟨hgtr,?_,(hfull m1 leaf1 he1).2.2⟩;rw[hmmT,show m1=⟨m1.name,m1.version,m1.owner,m1.epoch,m1.rd,m1.wr,m1.gr,m1.past,m1.boxes⟩ from rfl,Met.mk.injEq]
  exact ⟨g1,v2,v3,v4,v5,v6,v7,v9,g9⟩
 refine c_drawD [T9 0,T9 1,T9 2,T9 3,F9 4,T9 5,T9 6,T9 7,T9 8,T9 9,T9 10,T9 12,F9 11,F9 13,T9 14,T9 15] [] S ?_;clear S;intro w S;(iterate 3 (refine dq S ?_;clear S;intro a S));refine dqG S ?_;clear S;intro a S;refine dl ?_;have hq15:=rright15_c mm hfit hboxG _ w (foots_lt S) (S.i mm);rw[hmv]at hq15;refine gcr S (.bool false) (fun _=>hq15) ?_;clear S hq15;rintro v15 a w hR1 hR2 S;obtain ⟨b15,rfl,hb15⟩:∃ b,v15=.bool b∧(g=true→(b=true↔metOk mm.m)):=by
  cases g with
  | false=>exact ⟨false,hR2 (by simp),nofun⟩
  | true=>
   obtain ⟨b,e1,e2⟩:=hR1 (by simp);exact ⟨b,e1,fun _=>e2⟩
 clear hR1 hR2;refine de S ?_;refine dqG S ?_;clear S;intro a S;(iterate 2 (refine dq S ?_;clear S;intro a S));(iterate 4 (refine dqG S ?_;clear S;intro a S));refine dl ?_;have hq11:=fun hok=>rterm15_c mm t.num hfit hok _ w (foots_lt S) (S.i mm)
 rw[hmv]at hq11;refine gcr S (vL zeroL) (fun h=>hq11 (by
  have hh:g=true∧b15=true:=by simpa using h
  exact (hb15 hh.1).1 hh.2)) ?_;clear S hq11;rintro vz a w hz1 hz2 S
 obtain ⟨z,rfl,hz,hzf⟩:=pickT hz1 hz2;clear hz1 hz2;replace S:=S.add hzf;refine de S ?_;refine dl ?_;refine gC S ?_;clear S;intro a w S;refine de S ?_;refine dqG S ?_;clear S;intro a S;refine dq S ?_;clear S;intro a S;refine dn (xtn ?_);refine kC S (fun h29=>?_) (fun h29=>?_);refine Y9 ?_;clear S;intro a w S;refine end2 S (fun _=>R15R.no fun m leaf hm he _=>?_);obtain ⟨k1,k2,k3⟩:=hwhole m leaf hm he;have k4:b15=true:=(hb15 k1).2 (by rw[k2];exact hm);have k5:z.t=t.t:=by rw[hz (by simp[k1,k4]),he,k2,k3]
 rw[k1,k4,k5,(sameF_iff _ _).2 rfl]at h29;cases h29;refine Y10 ?_;clear S;intro a w S;have hh:(g=true∧b15=true)∧sameF z.t t.t=true:=by simpa using h29
 have hlat:=S.laterFact (M:=M) (Φ:=InF mm) (by simp);refine end2 S (fun _=>⟨mm,true,by rw[hmv],hlat,fun _=>⟨(hb15 hh.1.1).1 hh.1.2,hg,t.num,?_⟩,nofun⟩);rw[←(sameF_iff _ _).1 hh.2,hz (by simp[hh.1.1,hh.1.2])]
theorem metareads_c (t:LTerm)(w0:World)(ht:Fx w0 LibF)(hf:Fx w0 (LtF t)):Ret Tryz.prog 3 [vL t] w0 (fun _=>False) fun v _=>v=.bool true:=by
 refine E1 Tryz.func3 rfl Tryz.ntmps3 (Wd.begin (fs:=[TabF,LibF,LtF t]) (by simp;exact ⟨ht.imp fun _ h=>h.1,ht,hf⟩)) ?_;intro a S;refine kS (kR ?_);refine sa S ?_;intro b1 a w S;refine J6 ?_;intro a S;refine sr S (wakes15_c _ (S.mem.fact0 LibF)) ?_;rintro _ a w rfl S;refine J1 ?_;intro a S;rw[show (!true)=false from rfl]at S;refine J9 ?_;intro a S;refine sr S (over15_c t _ (S.t0 t)) ?_;rintro _ a w ⟨bo,rfl⟩ S;refine kN (xtn ?_);refine kC S (fun h3=>?_) (fun h3=>?_);refine J7 ?_;intro a S;refine end1 S (fun _=>rfl);refine J5 ?_;intro a S;refine sr S (mread_c t _ w (foots_lt S) (S.mem.fact LibF) (S.t t)) ?_;rintro _ a w ⟨m,leaf,e,rfl,hmf,hmfit,-,hm0,hm1⟩ S;replace S:=S.add hmf;refine J4 ?_;intro a S;refine sa S ?_;intro b3 a w S;refine Y8 ?_;intro a w S;refine sr S (r15read_c t _ w (foots_lt S) (S.t t)) ?_;rintro _ a w ⟨m2,b,rfl,hmf2,hy,hn⟩ S;replace S:=S.add hmf2;refine J3 ?_;intro a S;refine sa S ?_;intro b6 a w S;refine Y11 ?_;intro a w S;refine kC S (fun h7=>?_) (fun h7=>?_);refine kS ?_;have hbf:b=false:=by simpa using h7
 have hne:e≠0:=fun h=>by
  obtain ⟨k1,k2,k3⟩:=hm0 h;exact hn hbf _ _ k1 k2 k3
 obtain ⟨he,hl,hmz,-⟩:=hm1 hne;refine J10 ?_;intro a S;have hq8:=rsame15_c m zM w (S.mem.i0 m) (fun w' _=>zM_in w');rw[show vMeta zM=Value.agg ⟨zMeta0⟩ from rfl]at hq8;refine gcr S (.bool true) (fun _=>hq8) ?_;clear S hq8;rintro v15 a w hR1 hR2 S;obtain rfl:v15=.bool true:=by
  cases q:(decide (e=251)&&decide (leaf=0)) with
  | false=>exact hR2 q
  | true=>rw[hR1 q,hmz,msameB_iff.2 rfl]
 refine J6 ?_;intro a S;refine end1 S (fun _=>?_);simp[he,hl];refine kK (xtn (kS ?_));have hbt:b=true:=by simpa using h7
 obtain ⟨k1,k2,leaf2,k3⟩:=hy hbt;have he:e=0:=Classical.byContradiction fun h=>(hm1 h).2.2.2 _ _ k1 k3 k2
 obtain ⟨q1,q2,-⟩:=hm0 he;obtain ⟨q3,q4⟩:=metaT_inj q1 k1 (q2.symm.trans k3);have hleaf:leaf=t.num:=by
  have:=q2;rw[t.t_eq,metaT,signT,Term.mk.injEq]at this;exact this.2.2.1.symm
 refine J12 ?_;intro a S;refine gcr S (.bool true) (fun _=>rsame15_c m m2 w (S.mem.i0 m) (S.mem.i0 m2)) ?_;rintro v15 a w hR1 hR2 S;obtain rfl:v15=.bool true:=by
  cases q:(decide (e=0)&&decide (leaf=t.num)) with
  | false=>exact hR2 q
  | true=>rw[hR1 q,msameB_iff.2 q3]
 refine J5 ?_;intro a S;refine end1 S (fun _=>?_);simp[he,hleaf]
end Go.Proofs.YtibkkbknnfehlaaGreatDoor