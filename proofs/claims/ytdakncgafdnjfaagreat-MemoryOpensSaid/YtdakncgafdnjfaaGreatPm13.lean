/- 13: a part of this claim's texts, joined: MemDe MemPd MemPe MemPf MemPg. -/
import Derived.Test.YtdakncgafdnjfaaGreatPm12
namespace Go.Proofs.YtdakncgafdnjfaaGreat
open Go.Proofs.Tryz
open Go Go.Wk
set_option synthInstance.maxSize 100000
set_option synthInstance.maxHeartbeats 400000
set_option maxRecDepth 100000
theorem KY (b m:Nat)(p:Option Addr)(c:Nat)(s:DS)(hl:s.loose.length≤980000)(h0:(aR s).2.1≠0)(w0:World)(hd:(ay b m p c s).holds w0) :
  aT prog 52 [.pointer (some ⟨b,0,none⟩)] w0 (ay b m p c s).aj fun v w'=>
   v=.tuple ⟨[.pointer none,.int .i64 (aR s).2.1]⟩∧∃ p' c',(ay b m p' c' (aR s).1).holds w'∧∀ k,(ay b m p' c' (aR s).1).aj k→(ay b m p c s).aj k∨w0.heap.size≤k:=by
 refine pX func52 rfl rfl (Wd.bV (x:=ay b m p c s) (fs:=[]) hd (by simp)) (fun a S=>?_);refine E0 ntmps52 ?_;intro S;refine kS (kR ?_);refine sa S ?_;intro b2 a w S;refine sa S ?_;intro b3 a w S;refine J5 ?_;intro a S;refine cM (ay b m p c s) S (rf b m p c s hl _ (S.it (ay b m p c s))) rfl ?_;rintro _ a w (⟨-,rfl,p',c',hh,hf⟩ | ⟨h,-⟩) hS
 rotate_left 1
 ·exact absurd h h0
 have S:=hS (ay b m p' c' (aR s).1) hh hf;clear hS;refine jq ?_;intro a S;rw[show (!decide ((aR s).2.1=0))=true from by rw[decide_eq_false h0];rfl]at S;refine uh ?_;intro a w S;refine nx S (fun w hw=>⟨rfl,p',c',?_⟩);exact ⟨hw.held (ay b m p' c' (aR s).1) (by simp),hw.own (ay b m p' c' (aR s).1) (by simp) rfl⟩
theorem KZ (b m:Nat)(p:Option Addr)(c:Nat)(s:DS)(hl:s.loose.length≤980000)(h0:(aR s).2.1≠0)(w0:World)(hd:(ay b m p c s).holds w0) :
  aT prog 55 [.pointer (some ⟨b,0,none⟩)] w0 (ay b m p c s).aj fun v w'=>
   v=.tuple ⟨[.pointer none,.int .i64 (aR s).2.1]⟩∧∃ p' c',(ay b m p' c' (aR s).1).holds w'∧∀ k,(ay b m p' c' (aR s).1).aj k→(ay b m p c s).aj k∨w0.heap.size≤k:=by
 refine pX func55 rfl rfl (Wd.bV (x:=ay b m p c s) (fs:=[]) hd (by simp)) (fun a S=>?_);refine E0 ntmps55 ?_;intro S;refine kS (kR ?_);refine sa S ?_;intro b2 a w S;refine sa S ?_;intro b3 a w S;refine J5 ?_;intro a S;refine cM (ay b m p c s) S (rf b m p c s hl _ (S.it (ay b m p c s))) rfl ?_;rintro _ a w (⟨-,rfl,p',c',hh,hf⟩ | ⟨h,-⟩) hS
 rotate_left 1
 ·exact absurd h h0
 have S:=hS (ay b m p' c' (aR s).1) hh hf;clear hS;refine jq ?_;intro a S;rw[show (!decide ((aR s).2.1=0))=true from by rw[decide_eq_false h0];rfl]at S;refine uh ?_;intro a w S;refine nx S (fun w hw=>⟨rfl,p',c',?_⟩);exact ⟨hw.held (ay b m p' c' (aR s).1) (by simp),hw.own (ay b m p' c' (aR s).1) (by simp) rfl⟩
theorem D5 (b m n:Nat)(p:Option Addr)(c:Nat)(s:DS)(u:Int)(hu:1≤u∧u≤6)(hm:jY s n=true)(hl:s.loose.length≤900000)(h0:(gK n s).2=0)(hc:(jG (r_ n s) (aY (fK u))).2=0)(w0:World)(hd:(ay b m p c s).holds w0) :
  aT prog 145 [.pointer (some ⟨b,0,none⟩),.int .i64 (n:Int),.int .i64 u] w0 (ay b m p c s).aj fun v w'=>∃ h g L,v=.tuple ⟨[.pointer (some ⟨h,0,none⟩),.int .i64 0]⟩∧L.m=m∧L.v=(jG (r_ n s) (aY (fK u))).1∧(fI h b g L (cW u)).holds w'∧∀ k,(fI h b g L (cW u)).aj k→(ay b m p c s).aj k∨w0.heap.size≤k:=by
 have hok:=rL hu;refine E1 func145 rfl ntmps145 (Wd.bV (x:=ay b m p c s) (fs:=[]) hd (by simp)) ?_;intro a S;refine D8 ?_;intro a S;refine kC S (fun h1=>?_) (fun h1=>?_);refine J8 ?_;intro a S;exfalso;simp only[Bool.or_eq_true,decide_eq_true_eq]at h1;omega;refine J6 ?_;intro a S;refine cM (ay b m p c s) S (Bm b m n p c s hm (by omega) _ (S.it (ay b m p c s))) rfl ?_;rintro _ a w (⟨h9,-⟩ | ⟨-,g,L,rfl,GX,yo,hh,hf⟩) hS;exact absurd h0 h9;have S:=hS (ct b g L) hh hf;clear hS;have hwf:L.v.Wf (s.loose.length+3000):=by rw[yo];exact wm hm
 refine mK ?_;intro a S;refine J1 ?_;intro a S;refine sa S ?_;intro b10 a w S;refine Y8 ?_;intro a w S;refine jU S (nk (cW u) (ow u) hok _ (rK u _ _)) ?_;rintro _ a w ⟨p3,c3,rfl,hown,hnew⟩ hS -;have S:=hS hown hnew;clear hS;rw[DN]at S;replace S:=(S.front (Wk.row 5 1 p3 (aY (fK u)).length c3 (aa (aY (fK u))))).bA p3 (aY (fK u)) (e:=5) (sz:=1) (n:=(aY (fK u)).length) (c:=c3) (fun _ _ _ _=>trivial);have hr:=Bk b g L (s.loose.length+3000) ⟨p3,c3,aY (fK u)⟩ hwf (by omega) (by show (aY (fK u)).length≤_;rw[ie];omega) w (S.it (ct b g L)) (S.bU (ct b g L) (S.mem.fact (av p3 (aY (fK u)))));rw[yo]at hr;refine cM (ct b g L) S hr rfl ?_;rintro _ a w ⟨L2,rfl,u7,iF,hm2,qu⟩ hS;have S:=hS (ct b g L2) u7 iF;clear hS;rw[show (jG (r_ n s) (jK.bs ⟨p3,c3,aY (fK u)⟩)).2=0 from hc]at S;refine D8 ?_;intro a S;refine sa S ?_;intro WH a w S;refine J5 ?_;intro a S;rw[show [Value.pointer (some ⟨g,0,none⟩),.int .i64 u,.int .i64 0,.int .i64 0,.int .i64 0,.slice none 0 0,.slice none 0 0,.slice none 0 0]=[.pointer (some ⟨g,0,none⟩),.int .i64 (cW u).user,.int .i64 (cW u).leaf,.int .i64 (cW u).counter,.int .i64 (cW u).num,.slice (cW u).sp (cW u).ah.length (cW u).sc,.slice (cW u).vp (cW u).aA.length (cW u).vc,.slice (cW u).ep (cW u).seen.length (cW u).ec] from rfl]at S;replace S:=((S.front (ct b g L2)).front (yy WH g (cW u))).aL;have h1:=S.it (fI WH b g L2 (cW u));have h2:=S.bH (fI WH b g L2 (cW u)) rfl
 exact gO S (fun _=>⟨WH,g,L2,rfl,hm2.trans GX,qu,h1,h2⟩)
def Rl (Mr:Nat→Prop)(b m:Nat)(p:Option Addr)(c:Nat)(s:DS)(v:Value)(w0 w:World):Prop:=
 (iP (iz s).said=none∧v=.tuple ⟨[.pointer none,.int .i64 300]⟩∧∃ p' c',(ay b m p' c' (aR s).1).holds w∧∀ k,(ay b m p' c' (aR s).1).aj k→(ay b m p c s).aj k∨w0.heap.size≤k)∨
 (∃ h g L x,iP (iz s).said=some x.m∧v=.tuple ⟨[.pointer (some ⟨h,0,none⟩),.int .i64 0]⟩∧L.m=m∧L.v=iz s∧dY x∧(fI h b g L x).holds w∧(∀ k,(fI h b g L x).aj k→(ay b m p c s).aj k∨w0.heap.size≤k)∧ag (fun k=>(fI h b g L x).aj k∨Mr k) w (aE x))
set_option maxHeartbeats 2000000 in
theorem K0 (b m:Nat)(p:Option Addr)(c:Nat)(s:DS)(Mr:Nat→Prop)(hl:s.loose.length≤980000)(h0:(aR s).2.1=0)(w0:World)(jI:∀ k,Mr k→k < w0.heap.size∧¬(ay b m p c s).aj k)(hd:(ay b m p c s).holds w0) :
  aT prog 55 [.pointer (some ⟨b,0,none⟩)] w0 (ay b m p c s).aj fun v w'=>Rl Mr b m p c s v w0 w':=by
 refine pX func55 rfl rfl (Wd.ij (x:=ay b m p c s) (Mr:=Mr) (fs:=[]) hd jI (by simp)) (fun a S=>?_);refine E0 ntmps55 ?_;intro S;refine kS (kR ?_);refine sa S ?_;intro b2 a w S;refine sa S ?_;intro b3 a w S;refine J5 ?_;intro a S;refine cM (ay b m p c s) S (rf b m p c s hl _ (S.it (ay b m p c s))) rfl ?_;rintro _ a w (⟨h,-⟩ | ⟨-,g,L,rfl,GX,yo,hh,hf⟩) hS
 ·exact absurd h0 h
 have S:=hS (ct b g L) hh hf;clear hS;refine Lh ?_;intro a S;have hwf:=oT h0;rw[←yo]at hwf;have hown:=S.bH (ct b g L) rfl;have hcap:=Dm (S.it (ct b g L));obtain ⟨bs,r,hr⟩:∃ bs r,L.v.said=bs::r:=by
  have h4:=hwf.some_;cases h:L.v.said with
  | nil=>rw[h]at h4;simp at h4
  | cons b0 r=>exact ⟨b0,r,rfl⟩
 have Z4:bs.length≤40000:=hwf.short bs (by rw[hr];exact .head _);have hop:iP (iz s).said=if (gL bs).2≠0 then none else jl (gL bs).1 r:=by rw[←yo,hr];rfl
 refine J2 ?_;intro a S;refine jU S (Jm b g L _ hwf _ (S.it (ct b g L))) ?_;rintro _ a w ⟨bs',p1,c1,hb0,rfl,hrow,hnew⟩ hS -;have S:=hS hrow hnew;clear hS;obtain rfl:bs=bs':=by rw[hr]at hb0;simpa using hb0
 have U4:=gm hrow;replace S:=S.bA p1 bs (e:=5) (sz:=1) (n:=bs.length) (c:=c1) (fun _ _ _ _=>trivial);refine sr S (s6 bs p1 bs.length c1 _ w rfl (by omega) U4 (a_ S) (S.mem.fact (av p1 bs))) ?_;rintro _ a w ⟨vm,rfl,x0,rfl,hx0,Q1,KI⟩ S;replace S:=S.add (Φ:=aE x0) KI;obtain ⟨e0,Ad⟩:∃ e0,e0=(gL bs).2:=⟨_,rfl⟩;rw[←Ad,←hx0]at hop;rw[←Ad]at S;refine J3 ?_;intro a S;refine sa S ?_;intro b6 a w S;refine yA ?_;intro a w S;refine kC S (fun h5=>?_) (fun h5=>?_)
 ·refine Y8 ?_;intro a w S
  have hno:e0≠0:=by simpa using h5
  have hs:L.s=(aR s).1:=congrArg LV.s yo;subst GX;refine nx S (fun w hw=>.inl ⟨by rw[hop,if_pos hno],rfl,L.p,L.c,?_⟩);have hd:=(hw.held (ct b g L) (by simp)).1;rw[←hs];exact ⟨hd,fun k hk=>hown k (.inl hk)⟩
 ·refine kK (aQ (kS (kS ?_)))
  have KJ:e0=0:=by simpa using h5
  rw[if_neg (fun h=>h KJ)]at hop;have AM:b_ x0.m=true:=by rw[hx0];exact o7 (by rw[←Ad];exact KJ)
  refine J2 ?_;intro a S;have Mh:0 < L.x.said.length:=by have:=hwf.some_;rwa [vD]at this
  have sR:L.x.said.length≤1000000:=by have h1:=hwf.rO;have h2:=hwf.fin;have h3:=hwf.n;rw[vD]at h1;omega
  obtain ⟨cl,oz⟩:∃ cl,cl=L.x.said.drop 1:=⟨_,rfl⟩;have pg:cl.length=L.x.said.length - 1:=by rw[oz,List.length_drop]
  have hcb:∀ y∈cl,y.bs.length≤1000000:=fun y hy=>by have:=hwf.short y.bs (List.mem_map_of_mem (List.mem_of_mem_drop (oz▸hy)));omega
  have Mu:xP cl=r:=by
   have:L.v.said=xP L.x.said:=rfl;rw[oz,xP,List.map_drop,←xP,←this,hr];rfl
  have hlt:=a_ S;refine sr S (Oc g b L.q L.e L.x Mh hcap _ (az.aO (S.it (ct b g L)).2.1.1 (fun h=>h))) ?_;rintro _ a w ⟨h2,rfl,n0,Z5⟩ S;replace S:=S.add (Φ:=az h2 33 [.slice (if L.e=1 then L.q else L.q.map (·.add (1*1))) (L.x.said.length - 1) (L.e - 1)]) (az.aO Z5 (fun hm=>by have:=hlt _ hm;omega));rw[←pg]at S;obtain ⟨q2,IP⟩:∃ q2,q2=(if L.e=1 then L.q else L.q.map (·.add (1*1))):=⟨_,rfl⟩;rw[←IP]at S;refine kN (aQ (kB ?_));replace S:=S.SE (x:=ct b g L);replace S:=(((((S.front (ext Mr)).front ((ct b g L).ro)).front (marks [])).front (Wk.box b2 96 [.pointer none])).front (Wk.box b3 26 [.int .i64 0])).front (Wk.box b6 67 (cN x0));replace S:=(S.add (Φ:=aE x0) (S.wd.facts (aE x0) (by simp))).sub [Wk.box b6 67 (cN x0),Wk.box b3 26 [.int .i64 0],Wk.box b2 96 [.pointer none],marks [],(ct b g L).ro,ext Mr] [aE x0,az h2 33 [.slice q2 cl.length (L.e - 1)]];refine qE (κ:=aW) (κx:=Unit) (Ds:=[]) (nB cl)
   (fun _ k=>[Wk.box b6 67 (cN k),Wk.box b3 26 [.int .i64 0],Wk.box b2 96 [.pointer none],marks [],(ct b g L).ro,ext Mr])
   (fun _ k=>[aE k,az h2 33 [.slice q2 cl.length (L.e - 1)]])
   (fun i k=>jl x0.m r=jl k.m (r.drop i)∧dY k∧b_ k.m=true)
   (fun _=>[Wk.box b3 26 [.int .i64 300],Wk.box b2 96 [.pointer none],marks [],(ct b g L).ro,ext Mr])
   (fun _=>[]) (fun cd _=>cd=.ret∧jl x0.m r=none) x0 S
   (fun M w1 hM hF hro=>by
    obtain ⟨z1,z2,z3⟩:=yp (b:=b) (g:=g) (L:=L) (hro (ct b g L).ro (by simp) rfl);exact IZ h2 cl q2 (L.e - 1) (by omega) hcb w1 M hM (hF _ (by simp)) (z2.imp fun _ h=>by rw[IP,oz];exact h.drop 1 hcap) (z3.imp fun _ h y hy=>h y (by rw[oz]at hy;exact List.mem_of_mem_drop hy))) ⟨⟨rfl,Q1,AM⟩,rfl,rfl⟩ ?_ ?_ ?_ ?_
  ·clear S
   rintro L2 D bL M' w1 i z vs xk W0 w hz ⟨aI,Q2,Q3⟩ RL Ho ⟨p2,c2,rfl,lp,hnew2⟩;obtain ⟨hi,rfl⟩:=Bh hz;obtain ⟨y2,zV⟩:∃ y2:jK,y2=⟨p2,c2,(aq cl i).bs⟩:=⟨_,rfl⟩;have Dq:(dr [y2]).holds w:=by rw[zV];exact zm (y:=⟨p2,c2,(aq cl i).bs⟩) lp
   have hO:=RL.addItem Ho Dq (fun k ⟨u,hu,ad,hp,hk⟩=>by
    obtain rfl:=List.mem_singleton.1 hu;rw[zV]at hp;exact hk▸hnew2 ad hp) (cV.lt w Dq) cV.loc
   have hx:r[i]? = some (aq cl i).bs:=by rw[←Mu,xP,List.getElem?_map,bu hi];rfl
   have hil:=(List.getElem?_eq_some_iff.1 hx).1;have Cn:r.drop i=(aq cl i).bs::r.drop (i+1):=by rw[List.drop_eq_getElem_cons hil,(List.getElem?_eq_some_iff.1 hx).2]
   have vS:(aq cl i).bs.length≤1000000:=hcb _ (bh hi);obtain ⟨uH,GY⟩:∃ uH,uH=(aq cl i).bs:=⟨_,rfl⟩;have U5:uH.length≤c2:=by rw[GY];exact gm lp
   rw[←GY]at Cn zV vS;rw[Cn,jl]at aI;refine ⟨_,inferInstance,fun a S=>?_⟩;replace S:St w1 M' [] a w _ (dr [y2]::lP L2 D (kW bL .ready none)::_) _:=⟨S.slots,S.defers,hO⟩;replace S:=St.E4 S [y2];replace S:=S.add (Φ:=av p2 uH) ((S.mem.fact (n8 [y2])).imp fun _ h=>by have:=h y2 (by simp);rw[zV]at this;exact this);rw[←GY]at S;have hMk:dV xk:=⟨Q2⟩
   try dsimp only at S
   refine J4 ?_;intro a S;refine uG (D:=D) (b:=bL) S ?_;intro a w S;refine J4 ?_;intro a S;refine sr S (s6 uH p2 uH.length c2 _ _ rfl (by omega) U5 (a_ S) (S.mem.fact (av p2 uH))) ?_;rintro _ a w ⟨vm,rfl,y,rfl,CN,AA,zU⟩ S;replace S:=S.add (Φ:=aE y) zU;obtain ⟨e2,n7⟩:∃ e2,e2=(gL uH).2:=⟨_,rfl⟩;rw[←n7,←CN]at aI;rw[←n7]at S;have Wu:dV y:=⟨AA⟩;refine J3 ?_;intro a S;refine sa S ?_;intro b9 a w S;refine CD ?_;intro a w S;refine kC S (fun gi=>?_) (fun gi=>?_)
   ·refine Y9 ?_;intro a w S
    have hno:jl x0.m r=none:=by
     rw[aI,if_pos];simp only[Bool.or_eq_true,Bool.not_eq_true',decide_eq_false_iff_not]at gi;exact gi
    exact LB (D:=D) (b:=bL) (S.sub [lP L2 D (kW bL .busy none),Wk.box b3 26 [.int .i64 300],Wk.box b2 96 [.pointer none],marks [],(ct b g L).ro,ext Mr] []) fun W hW=>⟨.inl rfl,(),⟨rfl,hno⟩,hW⟩
   ·refine Y7 ?_;intro a w S
    simp only[Bool.or_eq_false_iff,Bool.not_eq_false',decide_eq_true_eq]at gi;have fu:jl x0.m r=jl y.m (r.drop (i+1)):=by
     rw[aI,if_neg];rintro (h | h)
     ·exact h gi.1
     ·rw[gi.2]at h;cases h
    have Q4:b_ y.m=true:=by rw[CN];exact o7 (by rw[←n7];exact gi.1)
    replace S:=((((((S.front (ext Mr)).front ((ct b g L).ro)).front (marks [])).front (Wk.box b2 96 [.pointer none])).front (Wk.box b3 26 [.int .i64 0])).front (Wk.box b6 67 (cN y))).front (lP L2 D (kW bL .busy none));replace S:=S.add (Φ:=aE y) (S.wd.facts (aE y) (by simp));exact AE (D:=D) (b:=bL) (S.sub [lP L2 D (kW bL .busy none),Wk.box b6 67 (cN y),Wk.box b3 26 [.int .i64 0],Wk.box b2 96 [.pointer none],marks [],(ct b g L).ro,ext Mr] [aE y,az h2 33 [.slice q2 cl.length (L.e - 1)]]) fun W hW=>⟨y,⟨fu,AA,Q4⟩,hW⟩
  ·clear S
   rintro D xk a w ⟨aI,Q2,Q3⟩ S;have hlen:(nB cl).length=r.length:=by rw[←Mu];simp[nB,xP]
   rw[hlen]at aI;simp only[List.drop_length,jl]at aI
   try dsimp only at S
   replace S:=S.join (Ds:=[]);replace S:=S.LD (x:=ct b g L) hown;refine J7 ?_;intro a S;refine sa S ?_;intro vq a w S;refine Y5 ?_;intro a w S;subst GX;replace S:=((S.front (ct b g L)).front (yy vq g xk)).aL;refine nx S (fun w hw=>.inr ⟨vq,g,L,xk,by rw[hop];exact aI,rfl,rfl,yo,Q2,hw.held (fI vq b g L xk) (by simp),hw.own (fI vq b g L xk) (by simp) rfl,?_⟩);exact (hw.facts (aE xk) (by simp)).less fun k _ hk=>hk.elim (fun h=>⟨fI vq b g L xk,by simp,h⟩) (fun h=>⟨ext Mr,by simp,h⟩)
  ·rintro D _ a w ⟨-,hno⟩ S
   replace S:=S.join (Ds:=[]);replace S:=S.LD (x:=ct b g L) hown
   repeat (first | refine Ac ?_ | refine tG ?_)
   have hs:L.s=(aR s).1:=congrArg LV.s yo;subst GX;refine nx S (fun w hw=>.inl ⟨by rw[hop];exact hno,rfl,L.p,L.c,?_⟩);have hd:=(hw.held (ct b g L) (by simp)).1;rw[←hs];exact ⟨hd,fun k hk=>hown k (.inl hk)⟩
  ·rintro id D _ a w ⟨h,-⟩;cases h
class Hf (bs:List Wk.Item)(Mr:Nat→Prop):Prop where all:∀ it∈bs,it.own=true∨∀ k,it.aj k→Mr k
instance ownL0 {Mr:Nat→Prop} : Hf [] Mr:=⟨fun _ h=>by cases h⟩
class Hg (x:Wk.Item):Prop where own:x.own=true
instance ownB {b:Nat}{t:TypeId}{cs:List Value} : Hg (Wk.box b t cs):=⟨rfl⟩
instance ownLg {g b:Nat}{L:LG} : Hg (ct b g L):=⟨rfl⟩
instance (priority:=900) ownBo {x y:Wk.Item}[h1:Hg x][h2:Hg y]:Hg (both x y):=⟨by show (x.own&&y.own)=true;rw[h1.own,h2.own];rfl⟩
instance ownL1 {x:Wk.Item}{bs:List Wk.Item}{Mr:Nat→Prop}[h:Hg x][ht:Hf bs Mr]:Hf (x::bs) Mr:=⟨fun it hi=>(List.mem_cons.1 hi).elim (fun e=>.inl (e▸h.own)) (ht.all it)⟩
instance ownL2 {bs:List Wk.Item}{Mr:Nat→Prop}[ht:Hf bs Mr]:Hf (ext Mr::bs) Mr:=⟨fun it hi=>(List.mem_cons.1 hi).elim (fun e=>.inr fun k hk=>by rw[e]at hk;exact hk) (ht.all it)⟩
section
variable {P:Program}{r:Option Nat}{ops:Array Oper}{Q:Exit→Act→World→Prop}{w0:World}{M0:Nat→Prop}{ds:List Deferred}{a:Act}{w:World}{l:List Value}{bs:List Wk.Item}{fs:List (World→Prop)}{d:Option Nat}{x:Operand}{ys:List Operand}{args:List Value}{ts:Array TypeId}{f:Nat}{ty:TypeId}{pos:String}{af:Array Edge}{rest:List Oper}
theorem U6 {l':Value→List Value}[aF P f][fP ⟨[],l⟩ x ys f args][hp:∀ v,cZ l d v (l' v)](S:St w0 M0 ds a w l bs fs){F:Nat→Prop}{R:Value→World→Prop}(hc:aT P f args w F R)(hF:∀ k,F k→w0.heap.size≤k∧¬dR bs k)
  (fs':List (World→Prop)) (Au:∀ w',aJ F w w'→∀ Φ∈fs',ag (dR bs) w' Φ) (K:∀ v a w',R v w'→St w0 M0 ds a w' (l' v) bs fs'→WL P r ops Q rest a w') :
  WL P r ops Q (⟨d,.call { callee:=.value x,args:=ys.toArray,argTypes:=ts },ty,pos,af,none⟩::rest) a w:=by
 refine pS S hc ?_;rintro e w' ⟨v,rfl,ha,hR⟩;have:=hp v;have S':=S.put (d:=d) (v:=v);have hno:∀ it∈bs,∀ k,it.aj k→w'.heap[k]? = w.heap[k]?:=fun it hi k hk=>ha.iB (S.wd.lt it hi k hk) fun hFk=>(hF k hFk).2 ⟨it,hi,hk⟩
 exact ⟨v,rfl,K v _ w' hR ⟨S'.slots,S'.defers,⟨S.wd.agree.trans' ha fun i hi hFi=>absurd (hF i hFi).1 (by omega),fun it hi=>S.wd.loc it hi w w' (hno it hi) (S.wd.held it hi),fun it hi k hk=>Nat.lt_of_lt_of_le (S.wd.lt it hi k hk) ha.size,S.wd.own,S.wd.apart,Au w' ha,S.wd.loc⟩⟩⟩
theorem Cf (S:St w0 M0 ds a w l bs fs){Mr F:Nat→Prop}{Φ:World→Prop}{w':World}[hn:Hf bs Mr](hΦ:ag (fun k=>M0 k∨Mr k) w0 Φ)(hF:∀ k,F k→w0.heap.size≤k)(hw:aJ F w w'):ag (dR bs) w' Φ:=fun w'' mQ=>
 hΦ w'' (((S.wd.agree.trans' hw fun i hi hFi=>absurd (hF i hFi) (by omega)).mono fun k _ hk=>.inl hk).trans' mQ fun i hi ⟨it,hit,hf⟩=>by
  rcases hn.all it hit with ho | ho
  rcases S.wd.own it hit ho i hf with h | h
  exact .inl h;omega;exact .inr (ho i hf))
end
def Nz (x:aW)(k:Nat):Prop:=(∃ ad,x.sp=some ad∧k=ad.block)∨(∃ ad,x.vp=some ad∧k=ad.block)∨(∃ ad,x.ep=some ad∧k=ad.block)∨∃ z∈x.seen,∃ ad,z.root.p=some ad∧k=ad.block
theorem o8 {n:Nat}{x:aW}(h:wQ n x):∀ k,Nz x k→n≤k:=by
 rintro k (⟨ad,h1,rfl⟩ | ⟨ad,h1,rfl⟩ | ⟨ad,h1,rfl⟩ | ⟨z,hz,ad,h1,rfl⟩);exact h.sp ad h1;exact h.vp ad h1;exact h.ep ad h1;exact (h.kids z hz).p ad h1
theorem z_ {M:Nat→Prop}{w:World}{x:aW}(h:ag M w (kL x)):∀ k,Nz x k→¬M k:=by
 rintro k (⟨ad,h1,rfl⟩ | ⟨ad,h1,rfl⟩ | ⟨ad,h1,rfl⟩ | ⟨z,hz,ad,h1,rfl⟩);exact uf (h.imp fun _ h=>h.1) ad h1;exact uf (h.imp fun _ h=>h.2.1) ad h1;exact uf (e:=179) (sz:=7) (n:=x.seen.length) (c:=x.ec) (h.imp fun _ h=>⟨_,h.2.2.1⟩) ad h1;exact uf (h.imp fun _ h=>h.2.2.2 z hz) ad h1
theorem kj {w:World}{e1 e2:TypeId}{z1 z2 n1 n2 c1 c2:Nat}{p1 p2:Option Addr}{xs ys:List Value}(h1:w.ownsRow 0 e1 z1 (.slice p1 n1 c1) n1 xs)(h2:w.ownsRow 0 e2 z2 (.slice p2 n2 c2) n2 ys)(hne:e1≠e2){k:Nat} : (∃ ad,p1=some ad∧k=ad.block)→¬∃ ad,p2=some ad∧k=ad.block:=by
 rintro ⟨ad,rfl,rfl⟩ ⟨H9,rfl,hk⟩;rcases h1.2 with ⟨hv,-⟩ | ⟨g,cap,cur,hv,-,hg,-⟩
 cases hv;rcases h2.2 with ⟨qu,-⟩ | ⟨g2,cap2,Rd,qu,-,Ct,-⟩
 cases qu;cases hv;cases qu;obtain rfl:g=g2:=hk;rw[hg]at Ct;cases Ct;exact hne rfl
theorem FE (y:aW)(hfit:dY y)(w0:World)(h:kL y w0):aT prog 152 [fJ y] w0 (Nz y) fun _ _=>True:=by
 obtain ⟨⟨xS,hS⟩,⟨xV,hV⟩,hE,hK⟩:=h;have hd:(UW y xS xV).holds w0:=by
  refine ⟨hS,⟨hV,⟨hE,hK,?_⟩,?_⟩,?_⟩;rintro k h1 ⟨z,hz,h2⟩;obtain ⟨xK,hk⟩:=hK z hz;exact kj hE hk (by decide) h1 h2;rintro k h1 (h2 | ⟨z,hz,h2⟩);exact kj hV hE (by decide) h1 h2;obtain ⟨xK,hk⟩:=hK z hz;exact kj hV hk (by decide) h1 h2;rintro k h1 (h2 | h2 | ⟨z,hz,h2⟩);exact kj hS hV (by decide) h1 h2;exact kj hS hE (by decide) h1 h2;obtain ⟨xK,hk⟩:=hK z hz;exact kj hS hk (by decide) h1 h2
 exact KS y hfit xS xV w0 hd
structure MP where
 x:Nat
 b1:Nat
 b2:Nat
 h1:Nat
 h2:Nat
 g1:Nat
 g2:Nat
 L1:LG
 L2:LG
 m1:aW
 m2:aW
abbrev sN (r:MP):List Value:=[.pointer (some ⟨r.b1,0,none⟩),.pointer (some ⟨r.b2,0,none⟩),.pointer (some ⟨r.h1,0,none⟩),.pointer (some ⟨r.h2,0,none⟩)]
abbrev dw (r:MP):Wk.Item:=both (Wk.box r.x 98 (sN r)) (both (cD r.h1 r.b1 r.g1 r.L1 r.m1) (fI r.h2 r.b2 r.g2 r.L2 r.m2))
structure pE (r:MP)(k:Nat):Prop where
 same:r.L1.v=r.L2.v
 wf:r.L1.v.Wf k
 nd:Nd r.L1.s
 size:10≤r.L1.s.size∧r.L1.s.size≤4096
 mem:r.m1.m=r.m2.m
 fit1:dY r.m1
 fit2:dY r.m2
 ok:b_ r.m1.m=true
theorem Cg (r:MP)(k:Nat)(h:pE r k)(Mr:Nat→Prop)(w0:World)(jI:∀ k,Mr k→k < w0.heap.size∧¬(dw r).aj k)(hd:(dw r).holds w0)(f1:ag (fun k=>(dw r).aj k∨Mr k) w0 (aE r.m1))(f2:ag (fun k=>(dw r).aj k∨Mr k) w0 (aE r.m2)) :
  aT prog 56 [.pointer (some ⟨r.x,0,none⟩)] w0 (dw r).aj fun v w'=>v=.bool true∧(dw r).holds w':=by
 obtain ⟨x,b1,b2,j1,j2,g1,g2,L1,L2,m1,m2⟩:=r;obtain ⟨hs,hwf,k_,hsz,Aj,kr,iF,hok⟩:=h;simp only at hs hwf k_ hsz Aj kr iF hok f1 f2;have hM1:dV m1:=⟨kr⟩;have YS:dV m2:=⟨iF⟩;have pL:L1.v.broken=L2.v.broken:=congrArg LV.broken hs;refine E1 func56 rfl ntmps56 ((Wd.ij (x:=dw ⟨x,b1,b2,j1,j2,g1,g2,L1,L2,m1,m2⟩) (Mr:=Mr) (fs:=[aE m1,aE m2]) hd jI (by simp;exact ⟨f1,f2⟩))) ?_;intro a S;refine J6 ?_;clear S;intro a S;replace S:=S.front (dw ⟨x,b1,b2,j1,j2,g1,g2,L1,L2,m1,m2⟩);replace S:=S.aP;replace S:=S.front (both (cD j1 b1 g1 L1 m1) (fI j2 b2 g2 L2 m2));replace S:=S.aP;replace S:=S.front (fI j2 b2 g2 L2 m2);replace S:=S.aP;refine J5 ?_;clear S;intro a S;have tv:=S.wd.agree.size;refine kD (cD j1 b1 g1 L1 m1) S (KG j1 b1 g1 L1 m1 kr hok (c_ _ (cD j1 b1 g1 L1 m1)) _ (S.dM _) (S.it (cD j1 b1 g1 L1 m1)) ((S.mem.fact (aE m1)).split (cD j1 b1 g1 L1 m1))) rfl ?_;clear S;rintro _ a w ⟨hh,y,rfl,hy,AA,hst,Fe,KH⟩ hS;have S:=hS (cD j1 b1 g1 L1 m1) [aE y,kL y] hh (fun k h=>.inl h) (by simp only[List.mem_cons,List.not_mem_nil,or_false];rintro Φ (rfl | rfl) <;> assumption);clear hS;replace KH:=KH.up tv;have Wu:dV y:=⟨AA⟩;refine sa S ?_;clear S;intro b3 a w S;refine Y5 ?_;clear S;intro a w S;refine bM [T9 0,T9 1,T9 2,T9 3,T9 4,T9 5,T9 6,T9 7,F9 8,T9 9,T9 10,T9 11,T9 12,T9 13,T9 14,T9 16,T9 17,T9 18,T9 19,T9 20,T9 21,T9 22,F9 15,F9 23,T9 24,T9 25] [] S ?_;clear S;intro w S;(iterate 8 (refine dq S ?_;clear S;intro a S));refine dl (sc S ?_);clear S;intro a w S
 rw[show nF y.m m2.m=true from by rw[hy,Aj];exact sM _]at S;refine de S ?_;refine dq S ?_;clear S;intro a S;rw[show (!true)=false from rfl]at S;refine dq S ?_;clear S;intro a S;(iterate 11 (refine iX S ?_;clear S;intro a S));refine dl (jr S ?_);refine sr S (Nh j1 b1 g1 L1 m1 _ (S.it (cD j1 b1 g1 L1 m1))) ?_;clear S;rintro _ a w rfl S;refine de S ?_;refine dl (jr S ?_);refine sr S (vF b2 g2 L2 _ (S.it (ct b2 g2 L2))) ?_;clear S;rintro _ a w rfl S;refine de S ?_;refine iX S ?_;clear S;intro a S;rw[show (!decide (L1.v.broken=L2.v.broken))=false from by rw[decide_eq_true pL];rfl]at S;refine dq S ?_;clear S;intro a S;refine dn (aQ ?_);refine kC S (fun h2=>?_) (fun h2=>?_);refine J7 ?_;clear S;intro a S;exfalso;simp at h2;refine J5 ?_;clear S;intro a S;have Fe:=S.mem.fact (kL y);refine U6 S (FE y AA w Fe.now) (fun k hk=>⟨o8 KH k hk,z_ Fe k hk⟩) [aE m1,aE m2] (fun w' bP=>?_) ?_;simp only[List.mem_cons,List.not_mem_nil,or_false];rintro Φ (rfl | rfl);exact Cf S f1 (o8 KH) bP;exact Cf S f2 (o8 KH) bP;clear S;rintro _ a w - S;refine kN (aQ (kS ?_));refine eY [T9 0,T9 1,T9 2,T9 3,T9 5,T9 6,T9 7,T9 8,T9 9,T9 10,T9 11,F9 4,F9 12,T9 13] [yy j2 g2 m2,Wk.box x 98 (sN ⟨x,b1,b2,j1,j2,g1,g2,L1,L2,m1,m2⟩)] S ?_;clear S;intro w S;(iterate 11 (refine dq S ?_;clear S;intro a S));refine dl ?_;refine kD (cD j1 b1 g1 L1 m1) S (DM j1 b1 g1 L1 m1 kr hok (c_ _ (cD j1 b1 g1 L1 m1)) _ (S.dM _) (S.it (cD j1 b1 g1 L1 m1)) ((S.mem.fact (aE m1)).split (cD j1 b1 g1 L1 m1))) rfl ?_;clear S;rintro _ a w ⟨hh,u,rfl,hu,hfu,hsu⟩ hS
 have S:=hS (cD j1 b1 g1 L1 m1) [aE u] hh (fun k h=>.inl h) (by intro Φ hΦ;obtain rfl:=List.mem_singleton.1 hΦ;exact hsu);clear hS;have hMu:dV u:=⟨hfu⟩;refine de S ?_;refine dl (sc S ?_);clear S;intro a w S;rw[show nF u.m m2.m=true from by rw[hu,Aj];exact sM _]at S;refine de S ?_;refine dq S ?_;clear S;intro a S;refine dn (aQ (kT ?_));replace S:=((S.front (ct b2 g2 L2)).front (yy j2 g2 m2)).aL;replace S:=(S.front (cD j1 b1 g1 L1 m1)).aL;replace S:=(S.front (Wk.box x 98 (sN ⟨x,b1,b2,j1,j2,g1,g2,L1,L2,m1,m2⟩))).aL;have hh:=S.it (dw ⟨x,b1,b2,j1,j2,g1,g2,L1,L2,m1,m2⟩);exact aD S (fun _=>⟨rfl,hh⟩)
def gr (s:DS):Int:=if (aR s).2.1≠0 then (aR s).2.1 else if (iP (iz s).said).isNone then 300 else 0
theorem yz {s:DS}(h:gr s=0):(aR s).2.1=0:=by
 unfold gr at h;split at h;exact h
 rename_i h2;exact Decidable.not_not.1 h2
theorem Aa (b m:Nat)(p:Option Addr)(c:Nat)(s:DS)(Mr:Nat→Prop)(hl:s.loose.length≤980000)(w0:World)(jI:∀ k,Mr k→k < w0.heap.size∧¬(ay b m p c s).aj k)(hd:(ay b m p c s).holds w0) :
  aT prog 52 [.pointer (some ⟨b,0,none⟩)] w0 (ay b m p c s).aj fun v w'=>
   (gr s≠0∧v=.tuple ⟨[.pointer none,.int .i64 (gr s)]⟩∧∃ p' c',(ay b m p' c' (aR s).1).holds w'∧∀ k,(ay b m p' c' (aR s).1).aj k→(ay b m p c s).aj k∨w0.heap.size≤k)∨
   (gr s=0∧∃ h g L x,iP (iz s).said=some x.m∧v=.tuple ⟨[.pointer (some ⟨h,0,none⟩),.int .i64 0]⟩∧L.m=m∧L.v=iz s∧dY x∧(cD h b g L x).holds w'∧(∀ k,(cD h b g L x).aj k→(ay b m p c s).aj k∨w0.heap.size≤k)∧ag (fun k=>(cD h b g L x).aj k∨Mr k) w' (aE x)):=by
 by_cases h0:(aR s).2.1=0
 refine (B6 b m p c s Mr hl h0 w0 jI hd).mono fun v w'=>?_
 rintro (⟨h1,h2,h3⟩ | ⟨h,g,L,x,h1,h2,h3,h4,h5,h6,h7,h8⟩);have e:gr s=300:=by rw[gr,if_neg (fun h=>h h0),h1];rfl
 rw[e];exact .inl ⟨by decide,h2,h3⟩;have e:gr s=0:=by rw[gr,if_neg (fun h=>h h0),h1];rfl
 exact .inr ⟨e,h,g,L,x,h1,h2,h3,h4,h5,h6,h7,h8⟩;refine (KY b m p c s hl h0 w0 hd).mono fun v w' ⟨h2,h3⟩=>?_
 have e:gr s=(aR s).2.1:=by rw[gr,if_pos h0]
 rw[e];exact .inl ⟨h0,h2,h3⟩
theorem Ab (b m:Nat)(p:Option Addr)(c:Nat)(s:DS)(Mr:Nat→Prop)(hl:s.loose.length≤980000)(w0:World)(jI:∀ k,Mr k→k < w0.heap.size∧¬(ay b m p c s).aj k)(hd:(ay b m p c s).holds w0) :
  aT prog 55 [.pointer (some ⟨b,0,none⟩)] w0 (ay b m p c s).aj fun v w'=>
   (gr s≠0∧v=.tuple ⟨[.pointer none,.int .i64 (gr s)]⟩∧∃ p' c',(ay b m p' c' (aR s).1).holds w'∧∀ k,(ay b m p' c' (aR s).1).aj k→(ay b m p c s).aj k∨w0.heap.size≤k)∨
   (gr s=0∧∃ h g L x,iP (iz s).said=some x.m∧v=.tuple ⟨[.pointer (some ⟨h,0,none⟩),.int .i64 0]⟩∧L.m=m∧L.v=iz s∧dY x∧(fI h b g L x).holds w'∧(∀ k,(fI h b g L x).aj k→(ay b m p c s).aj k∨w0.heap.size≤k)∧ag (fun k=>(fI h b g L x).aj k∨Mr k) w' (aE x)):=by
 by_cases h0:(aR s).2.1=0
 refine (K0 b m p c s Mr hl h0 w0 jI hd).mono fun v w'=>?_
 rintro (⟨h1,h2,h3⟩ | ⟨h,g,L,x,h1,h2,h3,h4,h5,h6,h7,h8⟩);have e:gr s=300:=by rw[gr,if_neg (fun h=>h h0),h1];rfl
 rw[e];exact .inl ⟨by decide,h2,h3⟩;have e:gr s=0:=by rw[gr,if_neg (fun h=>h h0),h1];rfl
 exact .inr ⟨e,h,g,L,x,h1,h2,h3,h4,h5,h6,h7,h8⟩;refine (KZ b m p c s hl h0 w0 hd).mono fun v w' ⟨h2,h3⟩=>?_
 have e:gr s=(aR s).2.1:=by rw[gr,if_pos h0]
 rw[e];exact .inl ⟨h0,h2,h3⟩
abbrev LG.iA (L:LG)(p:Option Addr)(c:Nat)(s:DS):LG:={ L with p:=p,c:=c,s:=s }
def WI (Mr:Nat→Prop)(r:MP)(k:Nat)(w0:World)(v:Value)(w:World):Prop:=v=.bool true∧∃ r',(dw r').holds w∧(∀ k,(dw r').aj k→(dw r).aj k∨w0.heap.size≤k)∧r'.x=r.x∧pE r' k∧ag (fun k=>(dw r').aj k∨Mr k) w (aE r'.m1)∧ag (fun k=>(dw r').aj k∨Mr k) w (aE r'.m2)
theorem D6 (r:MP)(k:Nat)(h:pE r k)(hk:k≤970000)(hE:gr r.L1.s≠0)(Mr:Nat→Prop)(w0:World)(jI:∀ k,Mr k→k < w0.heap.size∧¬(dw r).aj k)(hd:(dw r).holds w0)(f1:ag (fun k=>(dw r).aj k∨Mr k) w0 (aE r.m1))(f2:ag (fun k=>(dw r).aj k∨Mr k) w0 (aE r.m2)) :
  aT prog 154 [.pointer (some ⟨r.x,0,none⟩)] w0 (dw r).aj (WI Mr r (k+1000) w0):=by
 obtain ⟨x,b1,b2,j1,j2,g1,g2,L1,L2,m1,m2⟩:=r;obtain ⟨hs,hwf,k_,hsz,Aj,kr,iF,hok⟩:=h;simp only at hs hwf k_ hsz Aj kr iF hok f1 f2 hE;have zk:L2.s=L1.s:=(congrArg LV.s hs).symm;have hE2:gr L2.s≠0:=by rw[zk];exact hE
 have nw:L1.s.loose.length≤k:=hwf.loose;have rU:L2.s.loose.length≤k:=by rw[zk];exact nw
 refine E1 func154 rfl ntmps154 ((Wd.ij (x:=dw ⟨x,b1,b2,j1,j2,g1,g2,L1,L2,m1,m2⟩) (Mr:=Mr) (fs:=[aE m1,aE m2]) hd jI (by simp;exact ⟨f1,f2⟩))) ?_;intro a S;refine J6 ?_;intro a S;replace S:=S.front (dw ⟨x,b1,b2,j1,j2,g1,g2,L1,L2,m1,m2⟩);replace S:=S.aP;replace S:=S.front (both (cD j1 b1 g1 L1 m1) (fI j2 b2 g2 L2 m2));replace S:=S.aP;replace S:=S.front (cD j1 b1 g1 L1 m1);replace S:=S.aP;replace S:=S.front (ct b1 g1 L1);replace S:=S.aP;replace S:=S.front (fI j2 b2 g2 L2 m2);replace S:=S.aP;replace S:=S.front (ct b2 g2 L2);replace S:=S.aP;refine J5 ?_;intro a S;refine cM (ay b1 L1.m L1.p L1.c L1.s) S (Aa b1 L1.m L1.p L1.c L1.s (c_ _ (ay b1 L1.m L1.p L1.c L1.s)) (by omega) _ (S.dM _) (S.it (ay b1 L1.m L1.p L1.c L1.s))) rfl ?_;rintro _ a w (⟨-,rfl,p1,c1,P1,hq1⟩ | ⟨h,-⟩) hS
 rotate_left 1
 ·exact absurd h hE
 have S:=hS (ay b1 L1.m p1 c1 (aR L1.s).1) P1 hq1;clear hS;refine rP ?_;intro a S;refine cM (ay b2 L2.m L2.p L2.c L2.s) S (Ab b2 L2.m L2.p L2.c L2.s (c_ _ (ay b2 L2.m L2.p L2.c L2.s)) (by omega) _ (S.dM _) (S.it (ay b2 L2.m L2.p L2.c L2.s))) rfl ?_;rintro _ a w (⟨-,rfl,p2,c2,u7,IP⟩ | ⟨h,-⟩) hS
 rotate_left 1
 ·exact absurd h hE2
 have S:=hS (ay b2 L2.m p2 c2 (aR L2.s).1) u7 IP;clear hS;rw[show gr L2.s=gr L1.s from by rw[zk]]at S;refine rP ?_;intro a S;rw[show (!decide (gr L1.s=gr L1.s))=false from by simp]at S;refine mK ?_;intro a S;refine J8 ?_;intro a S;obtain ⟨r',hr'⟩:∃ r':MP,r'=⟨x,b1,b2,j1,j2,g1,g2,L1.iA p1 c1 (aR L1.s).1,L2.iA p2 c2 (aR L2.s).1,m1,m2⟩:=⟨_,rfl⟩;have hok:pE r' (k+1000):=by
  have hlo:=sY L1.s;have hkp:=rJ L1.s;rw[hr'];refine ⟨?_,⟨hwf.n,hwf.fin,hwf.some_,hwf.rO,hwf.short,hwf.au,?_⟩,hkp.1 k_,by show 10≤(aR L1.s).1.size∧_;rw[hkp.2];exact hsz,Aj,kr,iF,hok⟩
  ·show LG.v _=LG.v _
   have e1:=congrArg LV.n hs;have e2:=congrArg LV.au hs;have e3:=congrArg LV.said hs;have e4:=congrArg LV.fin hs;have e5:=congrArg LV.broken hs;simp only[LG.v]at e1 e2 e3 e4 e5⊢;rw[zk,e1,e2,e3,e4,e5]
  ·show (aR L1.s).1.loose.length≤_
   omega
 replace S:=(S.front (ay b2 L2.m p2 c2 (aR L2.s).1)).aL;replace S:=(S.front (yy j2 g2 m2)).aL;replace S:=((S.front (jg g1 b1 L1.q L1.e L1.x)).front (ay b1 L1.m p1 c1 (aR L1.s).1)).aL;replace S:=(S.front (BU j1 g1 m1)).aL;replace S:=S.aL;replace S:=(S.front (Wk.box x 98 (sN ⟨x,b1,b2,j1,j2,g1,g2,L1,L2,m1,m2⟩))).aL;replace S:=S.sub [dw ⟨x,b1,b2,j1,j2,g1,g2,L1.iA p1 c1 (aR L1.s).1,L2.iA p2 c2 (aR L2.s).1,m1,m2⟩,ext Mr] [aE m1,aE m2];rw[←hr']at S;have NA:x=r'.x:=by rw[hr']
 have q1:=S.it (dw r');have q2:=S.bH (dw r') rfl;have q3:ag (fun k=>(dw r').aj k∨Mr k) _ (aE m1):=(S.wd.facts (aE m1) (by simp)).less fun k _ hk=>hk.elim (fun h1=>⟨dw r',by simp,h1⟩) (fun h1=>⟨ext Mr,by simp,h1⟩)
 have q4:ag (fun k=>(dw r').aj k∨Mr k) _ (aE m2):=(S.wd.facts (aE m2) (by simp)).less fun k _ hk=>hk.elim (fun h1=>⟨dw r',by simp,h1⟩) (fun h1=>⟨ext Mr,by simp,h1⟩)
 have e1:r'.m1=m1:=by rw[hr']
 have e2:r'.m2=m2:=by rw[hr']
 exact aD S (fun _=>⟨rfl,r',q1,q2,NA.symm,hok,by rw[e1];exact q3,by rw[e2];exact q4⟩)
theorem Hh (r:MP)(k:Nat)(h:pE r k)(hk:k≤970000)(hE:gr r.L1.s=0)(Mr:Nat→Prop)(w0:World)(jI:∀ k,Mr k→k < w0.heap.size∧¬(dw r).aj k)(hd:(dw r).holds w0)(f1:ag (fun k=>(dw r).aj k∨Mr k) w0 (aE r.m1))(f2:ag (fun k=>(dw r).aj k∨Mr k) w0 (aE r.m2)) :
  aT prog 154 [.pointer (some ⟨r.x,0,none⟩)] w0 (dw r).aj (WI Mr r (k+1000) w0):=by
 obtain ⟨x,b1,b2,j1,j2,g1,g2,L1,L2,m1,m2⟩:=r;obtain ⟨hs,hwf,k_,hsz,Aj,kr,iF,hok⟩:=h;simp only at hs hwf k_ hsz Aj kr iF hok f1 f2 hE;have zk:L2.s=L1.s:=(congrArg LV.s hs).symm;have hE2:gr L2.s=0:=by rw[zk];exact hE
 have nw:L1.s.loose.length≤k:=hwf.loose;have rU:L2.s.loose.length≤k:=by rw[zk];exact nw
 refine E1 func154 rfl ntmps154 ((Wd.ij (x:=dw ⟨x,b1,b2,j1,j2,g1,g2,L1,L2,m1,m2⟩) (Mr:=Mr) (fs:=[aE m1,aE m2]) hd jI (by simp;exact ⟨f1,f2⟩))) ?_;intro a S;refine J6 ?_;intro a S;replace S:=S.front (dw ⟨x,b1,b2,j1,j2,g1,g2,L1,L2,m1,m2⟩);replace S:=S.aP;replace S:=S.front (both (cD j1 b1 g1 L1 m1) (fI j2 b2 g2 L2 m2));replace S:=S.aP;replace S:=S.front (cD j1 b1 g1 L1 m1);replace S:=S.aP;replace S:=S.front (ct b1 g1 L1);replace S:=S.aP;replace S:=S.front (fI j2 b2 g2 L2 m2);replace S:=S.aP;replace S:=S.front (ct b2 g2 L2);replace S:=S.aP;refine J5 ?_;intro a S;refine kD (ay b1 L1.m L1.p L1.c L1.s) S (Aa b1 L1.m L1.p L1.c L1.s (c_ _ (ay b1 L1.m L1.p L1.c L1.s)) (by omega) _ (S.dM _) (S.it (ay b1 L1.m L1.p L1.c L1.s))) rfl ?_;rintro _ a w (⟨h,-⟩ | ⟨-,h3,g3,L3,x3,GO,rfl,R1,B7,Bd,DT,Oe,DU⟩) hS;exact absurd hE h;have S:=hS (cD h3 b1 g3 L3 x3) [aE x3] DT Oe (by intro Φ hΦ;obtain rfl:=List.mem_singleton.1 hΦ;exact DU);clear hS;refine rP ?_;intro a S;refine kD (ay b2 L2.m L2.p L2.c L2.s) S (Ab b2 L2.m L2.p L2.c L2.s (c_ _ (ay b2 L2.m L2.p L2.c L2.s)) (by omega) _ (S.dM _) (S.it (ay b2 L2.m L2.p L2.c L2.s))) rfl ?_;rintro _ a w (⟨h,-⟩ | ⟨-,h4,g4,L4,x4,WJ,rfl,R7,WK,Ou,Gp,U7,B8⟩) hS;exact absurd hE2 h;have S:=hS (fI h4 b2 g4 L4 x4) [aE x4] Gp U7 (by intro Φ hΦ;obtain rfl:=List.mem_singleton.1 hΦ;exact B8);clear hS;refine mK ?_;intro a S;refine mK ?_;intro a S;refine uh ?_;intro a w S
 obtain ⟨r',hr'⟩:∃ r':MP,r'=⟨x,b1,b2,h3,h4,g3,g4,L3,L4,x3,x4⟩:=⟨_,rfl⟩;have hok:pE r' (k+1000):=by
  have hkp:=rJ L1.s;rw[hr'];have e3:L3.s=(aR L1.s).1:=congrArg LV.s B7;refine ⟨by show L3.v=L4.v;rw[B7,WK,zk],by show L3.v.Wf _;rw[B7];exact (oT (yz hE)).more (by omega),by show Nd L3.s;rw[e3];exact hkp.1 k_,by show 10≤L3.s.size∧L3.s.size≤_;rw[e3,hkp.2];exact hsz,?_,Bd,Ou,B5 GO⟩
  show x3.m=x4.m
  rw[zk,GO]at WJ;exact Option.some.inj WJ
 replace S:=(S.front (fI h4 b2 g4 L4 x4)).front (cD h3 b1 g3 L3 x3);replace S:=S.aL;replace S:=(S.front (Wk.box x 98 [.pointer (some ⟨b1,0,none⟩),.pointer (some ⟨b2,0,none⟩),.pointer (some ⟨h3,0,none⟩),.pointer (some ⟨h4,0,none⟩)])).aL;replace S:=S.sub [dw ⟨x,b1,b2,h3,h4,g3,g4,L3,L4,x3,x4⟩,ext Mr] [aE x4,aE x3];rw[←hr']at S;have NA:x=r'.x:=by rw[hr']
 have q1:=S.it (dw r');have q2:=S.bH (dw r') rfl;have q3:ag (fun k=>(dw r').aj k∨Mr k) _ (aE x3):=(S.wd.facts (aE x3) (by simp)).less fun k _ hk=>hk.elim (fun h1=>⟨dw r',by simp,h1⟩) (fun h1=>⟨ext Mr,by simp,h1⟩)
 have q4:ag (fun k=>(dw r').aj k∨Mr k) _ (aE x4):=(S.wd.facts (aE x4) (by simp)).less fun k _ hk=>hk.elim (fun h1=>⟨dw r',by simp,h1⟩) (fun h1=>⟨ext Mr,by simp,h1⟩)
 have e1:r'.m1=x3:=by rw[hr']
 have e2:r'.m2=x4:=by rw[hr']
 exact aD S (fun _=>⟨rfl,r',q1,q2,NA.symm,hok,by rw[e1];exact q3,by rw[e2];exact q4⟩)
theorem K1 (r:MP)(k:Nat)(h:pE r k)(hk:k≤970000)(Mr:Nat→Prop)(w0:World)(jI:∀ k,Mr k→k < w0.heap.size∧¬(dw r).aj k)(hd:(dw r).holds w0)(f1:ag (fun k=>(dw r).aj k∨Mr k) w0 (aE r.m1))(f2:ag (fun k=>(dw r).aj k∨Mr k) w0 (aE r.m2)) :
  aT prog 154 [.pointer (some ⟨r.x,0,none⟩)] w0 (dw r).aj (WI Mr r (k+1000) w0):=by
 by_cases hE:gr r.L1.s=0
 exact Hh r k h hk hE Mr w0 jI hd f1 f2;exact D6 r k h hk hE Mr w0 jI hd f1 f2
theorem NB (V:LV)(now m:bJ):Kp V.s (cJ V now m).1.s:=by
 unfold cJ;split;exact Kp.refl _;split;exact Kp.refl _;split;exact Kp.refl _;split;exact Kp.refl _
 show Kp V.s (eM V (aY m)).1.s
 unfold eM;split;exact DL V _;exact zR V _
theorem s8 {b m:Nat}{s:DS}{keep:List Bool}{p:Option Addr}{c:Nat}(k:Nat)(hk:(ay b m none 0 (bp keep s)).aj k):(ay b m p c s).aj k:=by
 rcases hk with h | h | h
 exact .inl h;exact .inr (.inl h);obtain ⟨ad,h,-⟩:=h;cases h
theorem D7 {w:World}{x:aW}(h:kL x w):∀ k,Nz x k→k < w.heap.size:=by
 obtain ⟨⟨xS,hS⟩,⟨xV,hV⟩,hE,hK⟩:=h;rintro k (⟨ad,h1,rfl⟩ | ⟨ad,h1,rfl⟩ | ⟨ad,h1,rfl⟩ | ⟨z,hz,ad,h1,rfl⟩);exact bS hS _ ⟨ad,h1,rfl⟩;exact bS hV _ ⟨ad,h1,rfl⟩;exact bS hE _ ⟨ad,h1,rfl⟩;obtain ⟨xK,hk⟩:=hK z hz;exact bS hk _ ⟨ad,h1,rfl⟩
theorem wE {x b1 b2 h1 h2 g1 g2:Nat}{L1 L2:LG}{m1 m2:aW}{k:Nat}(h:pE ⟨x,b1,b2,h1,h2,g1,g2,L1,L2,m1,m2⟩ k){s':DS}(hs:Kp L1.s s')(hl:s'.loose.length≤k+2000)(p1 p2:Option Addr)(c1 c2:Nat):pE ⟨x,b1,b2,h1,h2,g1,g2,L1.iA p1 c1 s',L2.iA p2 c2 s',m1,m2⟩ (k+2000):=by
 obtain ⟨q1,q2,q3,q4,q5,q6,q7,q8⟩:=h;refine ⟨?_,⟨q2.n,q2.fin,q2.some_,q2.rO,q2.short,q2.au,hl⟩,hs.1 q3,by show 10≤s'.size∧s'.size≤_;rw[hs.2];exact q4,q5,q6,q7,q8⟩
 show LG.v _=LG.v _
 have e1:=congrArg LV.n q1;have e2:=congrArg LV.au q1;have e3:=congrArg LV.said q1;have e4:=congrArg LV.fin q1;have e5:=congrArg LV.broken q1;simp only[LG.v]at e1 e2 e3 e4 e5⊢;rw[e1,e2,e3,e4,e5]
theorem NC (r:MP)(k:Nat)(h:pE r k)(hk:k≤960000)(o:DV)(ho:o.keep.length≤o.c∧o.c≤maxLen)(hz:o.keep.length≤140737488355328)(WM:DH o.m)(Mr:Nat→Prop)(w0:World)(jI:∀ k,Mr k→k < w0.heap.size∧¬(dw r).aj k)(hd:(dw r).holds w0)(f1:ag (fun k=>(dw r).aj k∨Mr k) w0 (aE r.m1))(f2:ag (fun k=>(dw r).aj k∨Mr k) w0 (aE r.m2))(fo:ag (fun k=>(dw r).aj k∨Mr k) w0 (aE o.m))(f0:ag (fun k=>(dw r).aj k∨Mr k) w0 (av o.p o.keep)) :
  aT prog 57 [.pointer (some ⟨r.x,0,none⟩),.agg ⟨nJ o⟩] w0 (dw r).aj (WI Mr r (k+3000) w0):=by
 obtain ⟨x,b1,b2,j1,j2,g1,g2,L1,L2,m1,m2⟩:=r;obtain ⟨hs,hwf,k_,hsz,Aj,kr,iF,hok⟩:=id h;simp only at hs hwf k_ hsz Aj kr iF hok f1 f2 fo f0;have zk:L2.s=L1.s:=(congrArg LV.s hs).symm;have nw:L1.s.loose.length≤k:=hwf.loose;have rU:L2.s.loose.length≤k:=by rw[zk];exact nw
 have hwf2:L2.v.Wf k:=by rw[←hs];exact hwf
 have hok2:b_ m2.m=true:=by rw[←Aj];exact hok
 have hM1:dV m1:=⟨kr⟩;have YS:dV m2:=⟨iF⟩;refine E1 func57 rfl ntmps57 ((Wd.ij (x:=dw ⟨x,b1,b2,j1,j2,g1,g2,L1,L2,m1,m2⟩) (Mr:=Mr) (fs:=[aE m1,aE m2,aE o.m,av o.p o.keep]) hd jI (by simp;exact ⟨f1,f2,fo,f0⟩))) ?_;intro a S;replace S:=S.front (dw ⟨x,b1,b2,j1,j2,g1,g2,L1,L2,m1,m2⟩);replace S:=S.aP;replace S:=S.front (both (cD j1 b1 g1 L1 m1) (fI j2 b2 g2 L2 m2));replace S:=S.aP;replace S:=S.front (Wk.box x 98 (sN ⟨x,b1,b2,j1,j2,g1,g2,L1,L2,m1,m2⟩));refine kS (kR ?_);refine sa S ?_;clear S;intro b3 a w S;refine R_ ?_;clear S;intro a S;refine kC S (fun h2=>?_) (fun h2=>?_);refine J4 ?_;clear S;intro a S;have tv:w0.heap.size≤w.heap.size:=S.wd.agree.size;refine sr S (rF o.m WM _ w (a_ S) (S.mem.fact (aE o.m))) ?_;clear S;rintro _ a w ⟨y0,rfl,hy0,hfy0,KI,hso0,Rm⟩ S;replace S:=(S.add (Φ:=aE y0) KI).add (Φ:=kL y0) hso0;replace Rm:=Rm.up tv;refine sa S ?_;clear S;intro b6 a w S;refine Y3 ?_;clear S;intro a w S;refine qH S (fun(mm:aW) uu=>[(20,uu 20),(0,uu 21),(0,uu 22),(0,uu 23),(0,uu 24),(0,uu 25),(0,uu 26),(0,uu 27),(0,uu 28),(0,uu 29),(0,uu 30),(0,uu 31)]) (fun(mm:aW)=>[Wk.box b6 67 (cN mm),Wk.box b3 90 (nJ o),Wk.box x 98 (sN ⟨x,b1,b2,j1,j2,g1,g2,L1,L2,m1,m2⟩),cD j1 b1 g1 L1 m1,fI j2 b2 g2 L2 m2,ext Mr]) (fun(mm:aW)=>[kL mm,aE mm,aE m1,aE m2]) (fun(mm:aW)=>dY mm∧wq mm.m∧wQ w0.heap.size mm) ?_ ?_;refine J6 ?_;clear S;intro a S;refine kC S (fun h4=>?_) (fun h4=>?_)
 replace S:=S.front (fI j2 b2 g2 L2 m2);replace S:=S.aP;refine iN 10 [T9 0,T9 1,T9 2,T9 3,T9 4,T9 5,T9 6,T9 7,T9 8,F9 9,F9 10] [yy j2 g2 m2,Wk.box b3 90 (nJ o),Wk.box x 98 (sN ⟨x,b1,b2,j1,j2,g1,g2,L1,L2,m1,m2⟩)] S ?_;clear S;intro w S;(iterate 9 (refine qW S ?_;clear S;intro a S));refine mw ?_;have tv:w0.heap.size≤w.heap.size:=S.wd.agree.size;refine sr S (Rb m2 o.m iF.big WM _ w (a_ S) (S.mem.fact (aE m2)) (S.mem.fact (aE o.m))) ?_;clear S;rintro _ a w ⟨z0,rfl,VV,hfz0,hstz,hsoz,Rn⟩ S;replace S:=(S.add (Φ:=aE z0) hstz).add (Φ:=kL z0) hsoz;replace Rn:=Rn.up tv;refine qx S ?_;refine mw (sw S ?_);clear S;intro a w S;refine I_ (aQ ?_);replace S:=((S.front (ct b2 g2 L2)).front (yy j2 g2 m2)).aL;replace S:=(((S.front (cD j1 b1 g1 L1 m1)).front (Wk.box x 98 (sN ⟨x,b1,b2,j1,j2,g1,g2,L1,L2,m1,m2⟩))).front (Wk.box b3 90 (nJ o))).front (Wk.box b6 67 (cN z0));exact ⟨z0,S.uu,⟨hfz0,VV,Rn⟩,S.sub _ _⟩;refine kK (aQ ?_);exact ⟨y0,S.uu,⟨hfy0,by rw[hy0];exact iQ _,Rm⟩,S.sub _ _⟩;clear S;rintro mm uu a w ⟨ND,hshm,Ro⟩ S;refine J3 ?_;clear S;intro a S;have hgw6:w0.heap.size≤w.heap.size:=S.wd.agree.size;have hsl6:=D7 (S.mem.fact (kL mm)).now;refine sr S (rF mm ND.big _ w (a_ S) (S.mem.fact (aE mm))) ?_;clear S;rintro _ a w ⟨y,rfl,hy,AA,zU,-,KH⟩ S;replace S:=S.add (Φ:=aE y) zU;rw[hshm.eq]at hy;have hyo:∀ k,qL y k→¬Nz mm k:=fun k h1 h2=>by have:=xu KH k h1;have:=hsl6 k h2;omega
 have hMm:dV mm:=⟨ND⟩;have Wu:dV y:=⟨AA⟩;refine sa S ?_;clear S;intro b7 a w S;refine Y4 ?_;clear S;intro a w S;refine eY [T9 0,T9 1,T9 2,T9 3,T9 4,T9 6,T9 7,T9 8,T9 9,T9 10,F9 5,F9 11,T9 12,T9 13] [Wk.box b7 67 (cN y),Wk.box b6 67 (cN mm),Wk.box x 98 (sN ⟨x,b1,b2,j1,j2,g1,g2,L1,L2,m1,m2⟩)] S ?_;clear S;intro w S;(iterate 10 (refine dq S ?_;clear S;intro a S));refine dl ?_;have hsl7:=D7 (S.mem.fact (kL mm)).now;refine kD (cD j1 b1 g1 L1 m1) S (Fq j1 b1 g1 L1 m1 k ⟨hwf,kr,hok⟩ (by omega) mm ND (c_ _ (cD j1 b1 g1 L1 m1)) w (S.dM _) (S.it (cD j1 b1 g1 L1 m1)) ((S.mem.fact (aE m1)).split (cD j1 b1 g1 L1 m1)) ((S.mem.fact (aE mm)).split (cD j1 b1 g1 L1 m1))) rfl ?_;clear S;rintro _ a w ⟨L3,x3,rfl,DT,Oe,R1,B7,UL,Q8,UM,DU,Cu⟩ hS;have S:=hS (cD j1 b1 g1 L3 x3) [aE x3] DT Oe (by intro Φ hΦ;obtain rfl:=List.mem_singleton.1 hΦ;exact DU);clear hS;have h3o:∀ k,qL x3 k→¬Nz mm k:=fun k h1 h2=>Cu.elim (fun e=>by rw[e]at h1;have:=(qM f1 k h1).1;have:=o8 Ro k h2;omega) (fun hn=>by have:=xu hn k h1;have:=hsl7 k h2;omega)
 refine de S ?_;refine dl ?_;have wS:=D7 (S.mem.fact (kL mm)).now;have Fe:=z_ (S.mem.fact (kL mm));have h2o:∀ k,qL m2 k→¬Nz mm k:=fun k h1 h2=>by have:=(qM f2 k h1).1;have:=o8 Ro k h2;omega
 have hmr:=S.dM (fI j2 b2 g2 L2 m2);refine kD (fI j2 b2 g2 L2 m2) S (Ny j2 b2 g2 L2 m2 k ⟨hwf2,iF,hok2⟩ (by omega) y AA (fun k=>c_ _ (fI j2 b2 g2 L2 m2) k∨Nz mm k) w (fun k hk=>hk.elim (hmr k) (fun h1=>⟨wS k h1,fun h2=>Fe k h1 ⟨_,by simp,h2⟩⟩)) (S.it (fI j2 b2 g2 L2 m2)) ((AO ((S.mem.fact (aE m2)).split (fI j2 b2 g2 L2 m2)) h2o).less fun _ _ h=>or_assoc.2 h) ((AO ((S.mem.fact (aE y)).split (fI j2 b2 g2 L2 m2)) hyo).less fun _ _ h=>or_assoc.2 h)) rfl ?_;clear S;rintro _ a w ⟨L4,x4,rfl,Gp,U7,R7,WK,Wv,UT,hok4,B8⟩ hS;have S:=hS (fI j2 b2 g2 L4 x4) [aE x4] Gp U7 (by intro Φ hΦ;obtain rfl:=List.mem_singleton.1 hΦ;exact B8.less fun _ _ h=>h.elim .inl (fun h=>.inr (.inl h)));clear hS;have h4o:∀ k,qL x4 k→¬Nz mm k:=fun k h1 h2=>(qM B8 k h1).2 (.inr (.inr h2))
 rw[hy,←Aj,←hs]at S WK Wv;refine de S ?_;(iterate 2 (refine dq S ?_;clear S;intro a S));refine dn (aQ (kS (kS (kR ?_))));(iterate 3 (refine sq S ?_;clear S;intro a S));rw[show (!decide ((cJ L1.v m1.m mm.m).2.2=(cJ L1.v m1.m mm.m).2.2))=false from by simp]at S;refine sq S ?_;clear S;intro a S;(iterate 2 (refine gQ S ?_;clear S;intro a S));refine jr S ?_;refine sc S ?_;clear S;intro a w S;rw[show nF mm.m y.m=true from by rw[hy];exact sM _]at S;refine jr S ?_;refine sq S ?_;clear S;intro a S;rw[show (!true)=false from rfl]at S;refine J9 ?_;clear S;intro a S;have Fe:=S.mem.fact (kL mm);have g3:=S.mem.fact (aE x3);have g4:=S.mem.fact (aE x4);refine U6 S (FE mm ND w Fe.now) (fun k hk=>⟨o8 Ro k hk,z_ Fe k hk⟩) [aE x3,aE x4] (fun w' bP=>?_) ?_;simp only[List.mem_cons,List.not_mem_nil,or_false];rintro Φ (rfl | rfl);exact AP g3 h3o bP;exact AP g4 h4o bP;clear S;rintro _ a w - S;refine mJ ?_;clear S;intro a S;replace S:=(S.front (fI j2 b2 g2 L4 x4)).front (cD j1 b1 g1 L3 x3);replace S:=S.aL;obtain ⟨r',hr'⟩:∃ r':MP,r'=⟨x,b1,b2,j1,j2,g1,g2,L3,L4,x3,x4⟩:=⟨_,rfl⟩;have K2:pE r' (k+3000):=by
  rw[hr'];have hkp:=NB L1.v m1.m mm.m;have e3:L3.s=(cJ L1.v m1.m mm.m).1.s:=congrArg LV.s B7;refine ⟨B7.trans WK.symm,by show L3.v.Wf _;rw[B7];exact (Kv hwf _ _).more (by omega),by show Nd L3.s;rw[e3];exact hkp.1 k_,by show 10≤L3.s.size∧L3.s.size≤_;rw[e3,hkp.2];exact hsz,UL.trans Wv.symm,Q8,UT,UM⟩
 replace S:=(S.front (Wk.box x 98 (sN ⟨x,b1,b2,j1,j2,g1,g2,L1,L2,m1,m2⟩))).aL;replace S:=S.sub [dw ⟨x,b1,b2,j1,j2,g1,g2,L3,L4,x3,x4⟩,ext Mr] [aE x3,aE x4];rw[←hr']at S;have NA:x=r'.x:=by rw[hr']
 have q1:=S.it (dw r');have q2:=S.bH (dw r') rfl;have q3:ag (fun k=>(dw r').aj k∨Mr k) _ (aE x3):=(S.wd.facts (aE x3) (by simp)).less fun k _ hk=>hk.elim (fun h1=>⟨dw r',by simp,h1⟩) (fun h1=>⟨ext Mr,by simp,h1⟩)
 have q4:ag (fun k=>(dw r').aj k∨Mr k) _ (aE x4):=(S.wd.facts (aE x4) (by simp)).less fun k _ hk=>hk.elim (fun h1=>⟨dw r',by simp,h1⟩) (fun h1=>⟨ext Mr,by simp,h1⟩)
 have e1:r'.m1=x3:=by rw[hr']
 have e2:r'.m2=x4:=by rw[hr']
 exact aD S (fun _=>⟨rfl,r',q1,q2,NA.symm,K2,by rw[e1];exact q3,by rw[e2];exact q4⟩);refine J7 ?_;clear S;intro a S;refine kC S (fun h12=>?_) (fun h12=>?_);refine kS ?_;replace S:=S.front (cD j1 b1 g1 L1 m1);replace S:=S.aP;replace S:=S.front (ct b1 g1 L1);replace S:=S.aP;replace S:=S.front (fI j2 b2 g2 L2 m2);replace S:=S.aP;replace S:=S.front (ct b2 g2 L2);replace S:=S.aP;obtain ⟨n5,Wz⟩:∃ n5,n5=IntKind.i64.wrap ((IntKind.u64.wrap o.n).tmod 40):=⟨_,rfl⟩;refine eY [T9 0,T9 1,T9 2,T9 3,T9 4,T9 5,T9 6,T9 7,T9 8,T9 10,T9 11,T9 12,T9 13,T9 14,T9 15,T9 16,T9 17,T9 18,F9 9,F9 19,T9 20,T9 21] [Wk.box b3 90 (nJ o),Wk.box x 98 (sN ⟨x,b1,b2,j1,j2,g1,g2,L1,L2,m1,m2⟩)] S ?_;clear S;intro w S;(iterate 18 (refine dq S ?_;clear S;intro a S));refine dl ?_;rw[←Wz]at S;refine cM (ay b1 L1.m L1.p L1.c L1.s) S (EJ b1 L1.m L1.p L1.c L1.s n5 _ (S.it (ay b1 L1.m L1.p L1.c L1.s))) rfl ?_;clear S;rintro _ a w ⟨rfl,DT⟩ hS;have S:=hS (ay b1 L1.m L1.p L1.c (jy L1.s n5)) DT (fun k hk=>.inl hk);clear hS;refine de S ?_;refine dl ?_;refine cM (ay b2 L2.m L2.p L2.c L2.s) S (EJ b2 L2.m L2.p L2.c L2.s n5 _ (S.it (ay b2 L2.m L2.p L2.c L2.s))) rfl ?_;clear S;rintro _ a w ⟨rfl,Gp⟩ hS;have S:=hS (ay b2 L2.m L2.p L2.c (jy L2.s n5)) Gp (fun k hk=>.inl hk);clear hS;rw[zk]at S;refine de S ?_;refine dq S ?_;clear S;intro a S;rw[show decide ((if L1.s.out=true then (9:Int) else 0)=(if L1.s.out=true then 9 else 0))=true from by simp]at S
 refine dq S ?_;clear S;intro a S;refine dn (aQ (kT (Ac (tG ?_))));have hlo:(jy L1.s n5).loose=L1.s.loose:=by unfold jy;split <;> rfl
 replace S:=(S.front (ay b2 L2.m L2.p L2.c (jy L1.s n5))).aL;replace S:=(S.front (yy j2 g2 m2)).aL;replace S:=((S.front (jg g1 b1 L1.q L1.e L1.x)).front (ay b1 L1.m L1.p L1.c (jy L1.s n5))).aL;replace S:=(S.front (BU j1 g1 m1)).aL;replace S:=S.aL;obtain ⟨r',hr'⟩:∃ r':MP,r'=⟨x,b1,b2,j1,j2,g1,g2,L1.iA L1.p L1.c (jy L1.s n5),L2.iA L2.p L2.c (jy L1.s n5),m1,m2⟩:=⟨_,rfl⟩;have K2:pE r' (k+3000):=by
  rw[hr'];obtain ⟨v1,v2,v3,v4,v5,v6,v7,v8⟩:=wE h (Ng L1.s n5) (by rw[hlo];omega) L1.p L2.p L1.c L2.c;exact ⟨v1,v2.more (by omega),v3,v4,v5,v6,v7,v8⟩
 replace S:=(S.front (Wk.box x 98 (sN ⟨x,b1,b2,j1,j2,g1,g2,L1,L2,m1,m2⟩))).aL;replace S:=S.sub [dw ⟨x,b1,b2,j1,j2,g1,g2,L1.iA L1.p L1.c (jy L1.s n5),L2.iA L2.p L2.c (jy L1.s n5),m1,m2⟩,ext Mr] [aE m1,aE m2];rw[←hr']at S;have NA:x=r'.x:=by rw[hr']
 have q1:=S.it (dw r');have q2:=S.bH (dw r') rfl;have q3:ag (fun k=>(dw r').aj k∨Mr k) _ (aE m1):=(S.wd.facts (aE m1) (by simp)).less fun k _ hk=>hk.elim (fun h1=>⟨dw r',by simp,h1⟩) (fun h1=>⟨ext Mr,by simp,h1⟩)
 have q4:ag (fun k=>(dw r').aj k∨Mr k) _ (aE m2):=(S.wd.facts (aE m2) (by simp)).less fun k _ hk=>hk.elim (fun h1=>⟨dw r',by simp,h1⟩) (fun h1=>⟨ext Mr,by simp,h1⟩)
 have e1:r'.m1=m1:=by rw[hr']
 have e2:r'.m2=m2:=by rw[hr']
 exact aD S (fun _=>⟨rfl,r',q1,q2,NA.symm,K2,by rw[e1];exact q3,by rw[e2];exact q4⟩);refine J7 ?_;clear S;intro a S;refine kC S (fun GF=>?_) (fun GF=>?_);refine kS ?_;replace S:=S.front (cD j1 b1 g1 L1 m1);replace S:=S.aP;replace S:=S.front (ct b1 g1 L1);replace S:=S.aP;replace S:=S.front (fI j2 b2 g2 L2 m2);replace S:=S.aP;replace S:=S.front (ct b2 g2 L2);replace S:=S.aP;obtain ⟨n5,Wz⟩:∃ n5,n5=IntKind.i64.wrap ((IntKind.u64.wrap o.n).tmod 40):=⟨_,rfl⟩;refine eY [T9 0,T9 1,T9 2,T9 3,T9 4,T9 5,T9 6,T9 7,T9 8,T9 10,T9 11,T9 12,T9 13,T9 14,T9 15,T9 16,T9 17,T9 18,F9 9,F9 19,T9 20,T9 21] [Wk.box b3 90 (nJ o),Wk.box x 98 (sN ⟨x,b1,b2,j1,j2,g1,g2,L1,L2,m1,m2⟩)] S ?_;clear S;intro w S;(iterate 18 (refine dq S ?_;clear S;intro a S));refine dl ?_;rw[←Wz]at S;refine cM (ay b1 L1.m L1.p L1.c L1.s) S (IB b1 L1.m L1.p L1.c L1.s n5 _ (S.it (ay b1 L1.m L1.p L1.c L1.s))) rfl ?_;clear S;rintro _ a w ⟨rfl,DT⟩ hS;have S:=hS (ay b1 L1.m L1.p L1.c (nV L1.s n5)) DT (fun k hk=>.inl hk);clear hS;refine de S ?_;refine dl ?_;refine cM (ay b2 L2.m L2.p L2.c L2.s) S (IB b2 L2.m L2.p L2.c L2.s n5 _ (S.it (ay b2 L2.m L2.p L2.c L2.s))) rfl ?_;clear S;rintro _ a w ⟨rfl,Gp⟩ hS;have S:=hS (ay b2 L2.m L2.p L2.c (nV L2.s n5)) Gp (fun k hk=>.inl hk);clear hS;rw[zk]at S;refine de S ?_;refine dq S ?_;clear S;intro a S;rw[show decide ((if L1.s.out=true then (9:Int) else 0)=(if L1.s.out=true then 9 else 0))=true from by simp]at S
 refine dq S ?_;clear S;intro a S;refine dn (aQ (kT (Ac (tG ?_))));have hlo:(nV L1.s n5).loose=L1.s.loose:=by unfold nV;split <;> rfl
 replace S:=(S.front (ay b2 L2.m L2.p L2.c (nV L1.s n5))).aL;replace S:=(S.front (yy j2 g2 m2)).aL;replace S:=((S.front (jg g1 b1 L1.q L1.e L1.x)).front (ay b1 L1.m L1.p L1.c (nV L1.s n5))).aL;replace S:=(S.front (BU j1 g1 m1)).aL;replace S:=S.aL;obtain ⟨r',hr'⟩:∃ r':MP,r'=⟨x,b1,b2,j1,j2,g1,g2,L1.iA L1.p L1.c (nV L1.s n5),L2.iA L2.p L2.c (nV L1.s n5),m1,m2⟩:=⟨_,rfl⟩;have K2:pE r' (k+3000):=by
  rw[hr'];obtain ⟨v1,v2,v3,v4,v5,v6,v7,v8⟩:=wE h (QY L1.s n5) (by rw[hlo];omega) L1.p L2.p L1.c L2.c;exact ⟨v1,v2.more (by omega),v3,v4,v5,v6,v7,v8⟩
 replace S:=(S.front (Wk.box x 98 (sN ⟨x,b1,b2,j1,j2,g1,g2,L1,L2,m1,m2⟩))).aL;replace S:=S.sub [dw ⟨x,b1,b2,j1,j2,g1,g2,L1.iA L1.p L1.c (nV L1.s n5),L2.iA L2.p L2.c (nV L1.s n5),m1,m2⟩,ext Mr] [aE m1,aE m2];rw[←hr']at S;have NA:x=r'.x:=by rw[hr']
 have q1:=S.it (dw r');have q2:=S.bH (dw r') rfl;have q3:ag (fun k=>(dw r').aj k∨Mr k) _ (aE m1):=(S.wd.facts (aE m1) (by simp)).less fun k _ hk=>hk.elim (fun h1=>⟨dw r',by simp,h1⟩) (fun h1=>⟨ext Mr,by simp,h1⟩)
 have q4:ag (fun k=>(dw r').aj k∨Mr k) _ (aE m2):=(S.wd.facts (aE m2) (by simp)).less fun k _ hk=>hk.elim (fun h1=>⟨dw r',by simp,h1⟩) (fun h1=>⟨ext Mr,by simp,h1⟩)
 have e1:r'.m1=m1:=by rw[hr']
 have e2:r'.m2=m2:=by rw[hr']
 exact aD S (fun _=>⟨rfl,r',q1,q2,NA.symm,K2,by rw[e1];exact q3,by rw[e2];exact q4⟩);refine kK (qw (aQ (kS (kS ?_))));replace S:=S.front (cD j1 b1 g1 L1 m1);replace S:=S.aP;replace S:=S.front (ct b1 g1 L1);replace S:=S.aP;replace S:=S.front (fI j2 b2 g2 L2 m2);replace S:=S.aP;replace S:=S.front (ct b2 g2 L2);replace S:=S.aP;refine eY [T9 0,T9 1,T9 2,T9 3,T9 5,T9 6,F9 4,F9 7,F9 8,T9 9,T9 10,T9 11,T9 12,T9 13,T9 14,T9 16,T9 17,F9 15,F9 18,F9 19,T9 20,T9 21] [Wk.box b3 90 (nJ o),Wk.box x 98 (sN ⟨x,b1,b2,j1,j2,g1,g2,L1,L2,m1,m2⟩)] S ?_;clear S;intro w S;(iterate 6 (refine dq S ?_;clear S;intro a S));refine dl (sn S ?_);clear S;intro b97 a w S;replace S:=S.bT b97 1 0 rfl (by decide);refine de S ?_;refine dl ?_;refine gA S (by omega) (by omega) ?_;clear S;rintro p8 c8 a w - S;rw[j6,Nat.zero_add]at S;replace S:=S.bA p8 o.keep (e:=4) (sz:=1) (n:=o.keep.length) (c:=c8) (fun _ _ _ _=>trivial);refine de S ?_;refine dl ?_;refine cM (ay b1 L1.m L1.p L1.c L1.s) S (uZ b1 L1.m L1.p L1.c L1.s o.keep p8 c8 _ (by omega) (S.it (ay b1 L1.m L1.p L1.c L1.s)) (S.bU (ay b1 L1.m L1.p L1.c L1.s) (S.mem.fact (av p8 o.keep)))) rfl ?_;clear S;rintro _ a w ⟨rfl,DT⟩ hS;have S:=hS (ay b1 L1.m none 0 (bp o.keep L1.s)) DT (fun k hk=>.inl (s8 k hk));clear hS;refine de S ?_;refine dq S ?_;clear S;intro a S;rw[show (!decide ((0:Int)=0))=false from rfl]at S
 refine dq S ?_;clear S;intro a S;(iterate 6 (refine iX S ?_;clear S;intro a S));refine dl (jr S ?_);refine sn S ?_;clear S;intro Uj a w S;replace S:=S.bT Uj 1 0 rfl (by decide);refine de S ?_;refine dl (jr S ?_);refine gA S (by omega) (by omega) ?_;clear S;rintro p9 c9 a w - S;rw[j6,Nat.zero_add]at S;replace S:=S.bA p9 o.keep (e:=4) (sz:=1) (n:=o.keep.length) (c:=c9) (fun _ _ _ _=>trivial);refine de S ?_;refine dl (jr S ?_);refine cM (ay b2 L2.m L2.p L2.c L2.s) S (uZ b2 L2.m L2.p L2.c L2.s o.keep p9 c9 _ (by omega) (S.it (ay b2 L2.m L2.p L2.c L2.s)) (S.bU (ay b2 L2.m L2.p L2.c L2.s) (S.mem.fact (av p9 o.keep)))) rfl ?_;clear S;rintro _ a w ⟨rfl,Gp⟩ hS;have S:=hS (ay b2 L2.m none 0 (bp o.keep L2.s)) Gp (fun k hk=>.inl (s8 k hk));clear hS;rw[zk]at S;refine de S ?_;refine iX S ?_;clear S;intro a S;rw[show (!decide ((0:Int)=0))=false from rfl]at S;refine dq S ?_;clear S;intro a S;refine dn (aQ ?_);refine jS S ?_;refine kK (aQ (kS ?_));have Pq:pE ⟨x,b1,b2,j1,j2,g1,g2,L1.iA none 0 (bp o.keep L1.s),L2.iA none 0 (bp o.keep L1.s),m1,m2⟩ (k+2000):=wE h (Kz o.keep L1.s) (by show 0≤_;omega) none none 0 0;replace S:=(S.front (ay b2 L2.m none 0 (bp o.keep L1.s))).aL;replace S:=(S.front (yy j2 g2 m2)).aL;replace S:=((S.front (jg g1 b1 L1.q L1.e L1.x)).front (ay b1 L1.m none 0 (bp o.keep L1.s))).aL;replace S:=(S.front (BU j1 g1 m1)).aL;replace S:=S.aL;replace S:=(S.front (Wk.box x 98 (sN ⟨x,b1,b2,j1,j2,g1,g2,L1,L2,m1,m2⟩))).aL
 replace S:=S.sub [dw ⟨x,b1,b2,j1,j2,g1,g2,L1.iA none 0 (bp o.keep L1.s),L2.iA none 0 (bp o.keep L1.s),m1,m2⟩,ext Mr] [aE m1,aE m2];refine J2 ?_;clear S;intro a S;refine kD (dw ⟨x,b1,b2,j1,j2,g1,g2,L1.iA none 0 (bp o.keep L1.s),L2.iA none 0 (bp o.keep L1.s),m1,m2⟩) S (K1 ⟨x,b1,b2,j1,j2,g1,g2,L1.iA none 0 (bp o.keep L1.s),L2.iA none 0 (bp o.keep L1.s),m1,m2⟩ (k+2000) Pq (by omega) (c_ _ (dw ⟨x,b1,b2,j1,j2,g1,g2,L1.iA none 0 (bp o.keep L1.s),L2.iA none 0 (bp o.keep L1.s),m1,m2⟩)) w (S.dM _) (S.it (dw ⟨x,b1,b2,j1,j2,g1,g2,L1.iA none 0 (bp o.keep L1.s),L2.iA none 0 (bp o.keep L1.s),m1,m2⟩)) ((S.mem.fact (aE m1)).split (dw ⟨x,b1,b2,j1,j2,g1,g2,L1.iA none 0 (bp o.keep L1.s),L2.iA none 0 (bp o.keep L1.s),m1,m2⟩)) ((S.mem.fact (aE m2)).split (dw ⟨x,b1,b2,j1,j2,g1,g2,L1.iA none 0 (bp o.keep L1.s),L2.iA none 0 (bp o.keep L1.s),m1,m2⟩))) rfl ?_;clear S;rintro _ a w ⟨rfl,r',Q9,hq5,UO,Nk,ha5,hb5⟩ hS;have S:=hS (dw r') [aE r'.m1,aE r'.m2] Q9 hq5 (by simp only[List.mem_cons,List.not_mem_nil,or_false];rintro Φ (rfl | rfl) <;> assumption);clear hS;refine J4 ?_;clear S;intro a S;replace S:=S.sub [dw r',ext Mr] [aE r'.m1,aE r'.m2];have q1:=S.it (dw r');have q2:=S.bH (dw r') rfl;have q3:ag (fun k=>(dw r').aj k∨Mr k) _ (aE r'.m1):=(S.wd.facts (aE r'.m1) (by simp)).less fun k _ hk=>hk.elim (fun h1=>⟨dw r',by simp,h1⟩) (fun h1=>⟨ext Mr,by simp,h1⟩)
 have q4:ag (fun k=>(dw r').aj k∨Mr k) _ (aE r'.m2):=(S.wd.facts (aE r'.m2) (by simp)).less fun k _ hk=>hk.elim (fun h1=>⟨dw r',by simp,h1⟩) (fun h1=>⟨ext Mr,by simp,h1⟩)
 exact aD S (fun _=>⟨rfl,r',q1,q2,UO,Nk,q3,q4⟩)
instance isnM8c:ey 800 800:=⟨rfl⟩
instance isnM2k:ey 2000 2000:=⟨rfl⟩
def oI (e:Bool)(x y:Wk.Item):Wk.Item:=if e then x else y
instance itOI {e:Bool}{x y:Wk.Item}[hx:cV x][hy:cV y]:cV (oI e x y):=by cases e;exact hy;exact hx
def oP (e:Bool)(a:Addr):Option Addr:=if e then some a else none
instance opOPE {P:Program}{l:Cx}{bs:List Wk.Item}{fs:List (World→Prop)}{x y:Operand}{t t' ty t2:TypeId}{e:Bool}{b:Addr}[hx:Ev l x (.pointer (oP e b))][hy:Ev l y (.pointer none)][hu:dN P t (.pointer t2)]:dO P (.binOp .eql t x y t') ty l bs fs (.bool (!e)):=by
 cases e;have:Ev l x (.pointer none):=hx;exact NY (e:=t2);have:Ev l x (.pointer (some b)):=hx;exact N0 (e:=t2)
theorem NF (L0:LG)(e:Bool)(b m:Nat)(p:Option Addr)(c:Nat)(s:DS)(he:e=true↔gr s=0)(Mr:Nat→Prop)(hl:s.loose.length≤980000)(w0:World)(jI:∀ k,Mr k→k < w0.heap.size∧¬(ay b m p c s).aj k)(hd:(ay b m p c s).holds w0) :
  aT prog 52 [.pointer (some ⟨b,0,none⟩)] w0 (ay b m p c s).aj fun v w'=>∃ h g L x p' c',v=.tuple ⟨[.pointer (oP e ⟨h,0,none⟩),.int .i64 (gr s)]⟩∧(oI e (cD h b g L x) (ay b m p' c' (aR s).1)).holds w'∧
   (∀ k,(oI e (cD h b g L x) (ay b m p' c' (aR s).1)).aj k→(ay b m p c s).aj k∨w0.heap.size≤k)∧ag (fun k=>(oI e (cD h b g L x) (ay b m p' c' (aR s).1)).aj k∨Mr k) w' (aE x)∧(e=true→iP (iz s).said=some x.m∧L.m=m∧L.v=iz s∧dY x):=
 (Aa b m p c s Mr hl w0 jI hd).mono fun v w'=>by
  rintro (⟨h0,rfl,p',c',h1,h2⟩ | ⟨h0,h,g,L,x,h1,rfl,h2,h3,h4,h5,h6,h7⟩);obtain rfl:e=false:=Bool.eq_false_iff.2 fun h=>h0 (he.1 h)
  exact ⟨0,0,L0,cW 1,p',c',rfl,h1,h2,rK 1 _ _,nofun⟩;obtain rfl:e=true:=he.2 h0;exact ⟨h,g,L,x,none,0,by rw[h0];rfl,h5,h6,h7,fun _=>⟨h1,h2,h3,h4⟩⟩
theorem NG (L0:LG)(e:Bool)(b m:Nat)(p:Option Addr)(c:Nat)(s:DS)(he:e=true↔gr s=0)(Mr:Nat→Prop)(hl:s.loose.length≤980000)(w0:World)(jI:∀ k,Mr k→k < w0.heap.size∧¬(ay b m p c s).aj k)(hd:(ay b m p c s).holds w0) :
  aT prog 55 [.pointer (some ⟨b,0,none⟩)] w0 (ay b m p c s).aj fun v w'=>∃ h g L x p' c',v=.tuple ⟨[.pointer (oP e ⟨h,0,none⟩),.int .i64 (gr s)]⟩∧(oI e (fI h b g L x) (ay b m p' c' (aR s).1)).holds w'∧
   (∀ k,(oI e (fI h b g L x) (ay b m p' c' (aR s).1)).aj k→(ay b m p c s).aj k∨w0.heap.size≤k)∧ag (fun k=>(oI e (fI h b g L x) (ay b m p' c' (aR s).1)).aj k∨Mr k) w' (aE x)∧(e=true→iP (iz s).said=some x.m∧L.m=m∧L.v=iz s∧dY x):=
 (Ab b m p c s Mr hl w0 jI hd).mono fun v w'=>by
  rintro (⟨h0,rfl,p',c',h1,h2⟩ | ⟨h0,h,g,L,x,h1,rfl,h2,h3,h4,h5,h6,h7⟩);obtain rfl:e=false:=Bool.eq_false_iff.2 fun h=>h0 (he.1 h)
  exact ⟨0,0,L0,cW 1,p',c',rfl,h1,h2,rK 1 _ _,nofun⟩;obtain rfl:e=true:=he.2 h0;exact ⟨h,g,L,x,none,0,by rw[h0];rfl,h5,h6,h7,fun _=>⟨h1,h2,h3,h4⟩⟩
abbrev V0F (n:Nat):LV:=(jG (r_ n (gZ ((2*n+2:Nat):Int))) (aY (fK 1))).1
theorem K3 (wu:Int)(w0:World):aT prog 53 [.int .i64 wu,.int .i64 1] w0 (fun _=>False) fun v w'=>∃ r,v=.pointer (some ⟨r.x,0,none⟩)∧(dw r).holds w'∧(∀ k,(dw r).aj k→w0.heap.size≤k)∧pE r 5000∧r.L1.v=V0F (sK wu):=by
 obtain ⟨n,hn⟩:∃ n,n=sK wu:=⟨_,rfl⟩;have Np:6≤n∧n≤125:=by rw[hn,sK];omega
 obtain ⟨e1,g1⟩:=zF (Dr n (by omega)) (by decide) (aY (fK 1)) (by rw[ie];omega) (by rw[ie];show 1≤n;omega);have hmay:jY (gZ ((2*n+2:Nat):Int)) n=true:=by simp[jY,gZ];omega
 rw[←hn];refine E1 func53 rfl ntmps53 (Wd.start w0) ?_;intro a S;refine jq ?_;intro a S;rw[Nq,←hn]at S;refine J6 ?_;intro a S;refine sa S ?_;intro fz a w S;refine J8 ?_;intro a S;rw[w6 (2*(n:Int))]at S;refine J1 ?_;intro a S;rw[show IntKind.i64.wrap (2+2*(n:Int))=((2*n+2:Nat):Int) from by rw[w6 _];omega]at S;refine td S (zj ((2*n+2:Nat):Int) (by omega) _) ?_;rintro _ a w - ⟨b1,m1,rfl,hh,kV⟩ hS -;have S:=hS (ay b1 m1 none 0 (gZ ((2*n+2:Nat):Int))) hh kV;clear hS;refine Hi ?_;intro a w S;rw[w6 (2*(n:Int))]at S;refine J1 ?_;intro a S;rw[show IntKind.i64.wrap (2+2*(n:Int))=((2*n+2:Nat):Int) from by rw[w6 _];omega]at S;refine td S (zj ((2*n+2:Nat):Int) (by omega) _) ?_;rintro _ a w - ⟨b2,m2,rfl,hh,kV⟩ hS -;have S:=hS (ay b2 m2 none 0 (gZ ((2*n+2:Nat):Int))) hh kV;clear hS;refine sP ?_;intro a w S;refine FF ?_;intro a S;refine cM (ay b1 m1 none 0 (gZ ((2*n+2:Nat):Int))) S (wo b1 m1 n none 0 (gZ ((2*n+2:Nat):Int)) 1 (by omega) hmay (by simp[gZ]) (lD n (by omega)).1 e1 _ (S.it (ay b1 m1 none 0 (gZ ((2*n+2:Nat):Int))))) rfl ?_;rintro _ a w ⟨h1,i1,L1,rfl,hmh1,NH,hh,hf⟩ hS;have S:=hS (cD h1 b1 i1 L1 (cW 1)) hh hf;clear hS;refine tI ?_;intro a S;refine cM (ay b2 m2 none 0 (gZ ((2*n+2:Nat):Int))) S (D5 b2 m2 n none 0 (gZ ((2*n+2:Nat):Int)) 1 (by omega) hmay (by simp[gZ]) (lD n (by omega)).1 e1 _ (S.it (ay b2 m2 none 0 (gZ ((2*n+2:Nat):Int))))) rfl ?_;rintro _ a w ⟨h2,i2,L2,rfl,hmh2,hvh2,hh,hf⟩ hS
 have S:=hS (fI h2 b2 i2 L2 (cW 1)) hh hf;clear hS;refine mK ?_;intro a S;refine sP ?_;intro a w S;refine J6 ?_;intro a S;replace S:=(S.front (fI h2 b2 i2 L2 (cW 1))).front (cD h1 b1 i1 L1 (cW 1));replace S:=S.aL;replace S:=(S.front (Wk.box fz 98 [.pointer (some ⟨b1,0,none⟩),.pointer (some ⟨b2,0,none⟩),.pointer (some ⟨h1,0,none⟩),.pointer (some ⟨h2,0,none⟩)])).aL;replace S:=S.sub [dw ⟨fz,b1,b2,h1,h2,i1,i2,L1,L2,cW 1,cW 1⟩] [];have q1:=S.it (dw ⟨fz,b1,b2,h1,h2,i1,i2,L1,L2,cW 1,cW 1⟩);have q2:=S.bH (dw ⟨fz,b1,b2,h1,h2,i1,i2,L1,L2,cW 1,cW 1⟩) rfl;have hkp:Kp (gZ ((2*n+2:Nat):Int)) L1.s:=by
  rw[show L1.s=(V0F n).s from congrArg LV.s NH];exact (Kw n _).trans (zR (r_ n (gZ ((2*n+2:Nat):Int))) _)
 refine aD S (fun _=>⟨_,rfl,q1,fun k hk=>(q2 k hk).elim (fun h=>h.elim) id,⟨NH.trans hvh2.symm,by show L1.v.Wf _;rw[NH];exact (zv (wm hmay) _).more (by simp[gZ]),hkp.1 List.nodup_nil,?_,rfl,ow 1,ow 1,rL (u:=1) (by omega)⟩,NH⟩)
 show 10≤L1.s.size∧L1.s.size≤4096
 rw[hkp.2]
 show 10≤((2*n+2:Nat):Int)∧((2*n+2:Nat):Int)≤4096
 omega
set_option maxHeartbeats 3200000 in
theorem K4 (ps:Option Addr)(cs:Nat)(tC:List UInt8)(hcs:tC.length≤cs)(pr:Option Addr)(cr:Nat)(rows:List (Sl UInt8))(hrl:rows.length≤maxLen)(o:DV)(hz:o.keep.length≤140737488355328)(w0:World)(f0:Fx w0 (av ps tC))(f1:Fx w0 (av pr rows))(f2:Fx w0 (NS o)) :
  aT prog 11 [.slice ps tC.length cs,.slice pr rows.length cr,.agg ⟨nJ o⟩] w0 (fun _=>False) fun v _=>v=.bool true:=by
 have hrl2:rows.length≤9223372036854775807:=hrl;have hn9:sK 100=106:=by decide +kernel
 obtain ⟨UA,UB,ho3',-⟩:=f2.now;have fo:Fx w0 (aE o.m):=f2.imp fun _ h=>Ra h.1
 have fk:Fx w0 (av o.p o.keep):=f2.imp fun _ h=>h.2.2.2
 obtain ⟨e1,gg⟩:=zF (Dr 106 (by omega)) (by decide) (aY (fK 1)) (by rw[ie];omega) (by rw[ie];decide);have hle:eS (min tC.length 2000) cs:=⟨by omega⟩;have hN:eu (iW 2000 tC) (min tC.length 2000):=⟨ov 2000 tC⟩;obtain ⟨rs,Uw⟩:∃ rs,rs=(rows.take 5).map fun x=>iW 800 x.xs:=⟨_,rfl⟩
 have hrsl:rs.length=min rows.length 5:=by rw[Uw,List.length_map,List.length_take];omega
 refine E1 func11 rfl ntmps11 (Wd.begin (fs:=[av ps tC,av pr rows,aE o.m,av o.p o.keep]) (by simp;exact ⟨f0,f1,fo,fk⟩)) ?_;intro a S;refine kS (kR ?_);refine sa S ?_;clear S;intro b5 a w S;refine J6 ?_;clear S;intro a S;refine sr S (KL _) ?_;clear S;rintro _ a w rfl S;refine J8 ?_;clear S;intro a S;refine td S (K3 100 _) ?_;clear S;rintro _ a w - ⟨r0,rfl,hh,kV,AM,U_⟩ hS -;have S:=hS (dw r0) hh kV;clear hS;rw[hn9]at U_;obtain ⟨x,b1,b2,j1,j2,g1,g2,L1,L2,y1,y2⟩:=r0;simp only at U_;have zk:L2.s=L1.s:=(congrArg LV.s AM.same).symm;obtain ⟨m1,uD⟩:∃ m1,m1=L1.m:=⟨_,rfl⟩;obtain ⟨m2,hm2⟩:∃ m2,m2=L2.m:=⟨_,rfl⟩;obtain ⟨s0,hs0⟩:∃ s0,s0=L1.s:=⟨_,rfl⟩;have hnd0:Nd s0:=hs0▸AM.nd;have Rp:Live s0 106 1 [aY (fK 1)]:=by rw[hs0,show L1.s=L1.v.s from rfl,U_];exact gg.live
 have ON:s0.bC.on=false:=by rw[hs0,show L1.s=L1.v.s from rfl,U_];exact gg.off
 have Va:s0.size=214:=by
  rw[hs0,show L1.s=L1.v.s from rfl,U_];have h1:=(Kw 106 (gZ ((2*106+2:Nat):Int))).2;have h2:=(zR (r_ 106 (gZ ((2*106+2:Nat):Int))) (aY (fK 1))).2;exact h2.trans (h1.trans rfl)
 have Vb:Calm s0:=by
  obtain ⟨tail,hL,-⟩:=id Rp;exact ⟨hL.up.on,hL.up.fit,ON⟩
 have Vc:s0.loose=[]:=by obtain ⟨tail,hL,-⟩:=id Rp;exact hL.loose
 obtain ⟨q1,q2,q3,q4⟩:=(xO Rp.Gh).resolve_right (fun h=>by rw[ON]at h;cases h.1);obtain ⟨VC,WO⟩:∃ VC,VC=(jG (iz s0) (iW 2000 tC)).1:=⟨_,rfl⟩;have hwo:(iz s0).Wf 1000:=(oT q1).more (by rw[Vc];simp);have hck:(jG (iz s0) (iW 2000 tC)).2=0:=by
  have e:iz s0=⟨(aR s0).1,106,1,[aY (fK 1)],bY 1 [aY (fK 1)],false⟩:=by rw[iz,q3]
  have hcl40:(iW 2000 tC).length≤2000:=by rw[ov];omega
  have P3:bN (iW 2000 tC).length≤42:=by
   unfold bN;split
   ·omega
   ·omega
  rw[e];refine KF _ _ (Fv s0 Vb) (by show 106≤1000;omega) (by show _≤106;omega) (by omega) (by show mL 1≠0;decide) rfl ?_
  show ((2*106+2:Nat):Int)≤(aR s0).1.size
  rw[(rJ s0).2,Va];decide
 have hwc:VC.Wf 1840:=WO▸(zv hwo _);obtain ⟨sF,Vd⟩:∃ sF,sF=(tw VC rs).s:=⟨_,rfl⟩;have hkF:Kp s0 sF:=by rw[Vd,WO];exact (rJ s0).trans ((zR (iz s0) _).trans (Fw rs _))
 have hcF:Calm sF:=by rw[Vd];exact Fy rs VC (by rw[WO];exact QZ (iz s0) _ (Fv s0 Vb))
 have hlF:sF.loose.length≤10000:=by have:=(Fz rs VC 1840 hwc).loose;rw[Vd];omega
 refine tI ?_;clear S;intro a S;replace S:=S.front (dw ⟨x,b1,b2,j1,j2,g1,g2,L1,L2,y1,y2⟩);replace S:=S.aP;replace S:=S.front (both (cD j1 b1 g1 L1 y1) (fI j2 b2 g2 L2 y2));replace S:=S.aP;replace S:=S.front (cD j1 b1 g1 L1 y1);replace S:=S.aP;replace S:=S.front (ct b1 g1 L1);replace S:=S.aP;replace S:=S.front (fI j2 b2 g2 L2 y2);replace S:=S.aP;replace S:=S.front (ct b2 g2 L2);replace S:=S.aP;replace S:=S.front (Wk.box x 98 (sN ⟨x,b1,b2,j1,j2,g1,g2,L1,L2,y1,y2⟩));rw[zk,←uD,←hm2,←hs0]at S;refine bM [T9 0,T9 1,T9 2,T9 3,T9 4,T9 5,T9 6,T9 7,T9 8,T9 9] [] S ?_;clear S;intro w S;(iterate 10 (refine dq S ?_;clear S;intro a S));refine dn (aQ (kB ?_));refine qI S (fun(i:Nat) (p1:Option Addr) (c1:Nat) (p2:Option Addr) (c2:Nat) uu=>[(6,uu 6),(2,uu 9),(0,uu 10),(0,uu 11),(0,uu 12),(0,uu 13),(18,.int .i64 (i:Nat)),(0,uu 33),(0,uu 34),(0,uu 35),(0,uu 36),(0,uu 37),(0,uu 38),(0,uu 39),(0,uu 40),(0,uu 41),(0,uu 42),(0,uu 43),(0,uu 44),(0,uu 45),(0,uu 46),(0,uu 47),(0,uu 48),(0,uu 49),(0,uu 50),(0,uu 51),(0,uu 52),(0,uu 53),(0,uu 54),(0,uu 55),(0,uu 56),(0,uu 57),(0,uu 58),(0,uu 59),(0,uu 60),(0,uu 61),(0,uu 62),(0,uu 63),(0,uu 64),(0,uu 65),(0,uu 66),(0,uu 67),(0,uu 68),(0,uu 69),(0,uu 70),(0,uu 71),(0,uu 72),(0,uu 73),(0,uu 74),(0,uu 75),(0,uu 76)]) (fun(i:Nat) (p1:Option Addr) (c1:Nat) (p2:Option Addr) (c2:Nat)=>[ay b1 m1 p1 c1 (if 1≤i then sF else s0),ay b2 m2 p2 c2 (if 2≤i then sF else s0),Wk.box x 98 (sN ⟨x,b1,b2,j1,j2,g1,g2,L1,L2,y1,y2⟩),Wk.box b5 90 (nJ o)]) (fun(i:Nat) (p1:Option Addr) (c1:Nat) (p2:Option Addr) (c2:Nat)=>[av ps tC,av pr rows,aE o.m,av o.p o.keep]) (fun(i:Nat) (p1:Option Addr) (c1:Nat) (p2:Option Addr) (c2:Nat)=>i≤2) (fun(i:Nat) (p1:Option Addr) (c1:Nat) (p2:Option Addr) (c2:Nat)=>2 - i) (0) (L1.p) (L1.c) (L2.p) (L2.c) ?_ S.uu ?_ ?_
 ·omega
 ·replace S:=S.front (ay b2 m2 L2.p L2.c s0)
  replace S:=S.front (ay b1 m1 L1.p L1.c s0);exact S.sub [ay b1 m1 L1.p L1.c s0,ay b2 m2 L2.p L2.c s0,Wk.box x 98 (sN ⟨x,b1,b2,j1,j2,g1,g2,L1,L2,y1,y2⟩),Wk.box b5 90 (nJ o)] [av ps tC,av pr rows,aE o.m,av o.p o.keep]
 ·clear S;rintro i p1 c1 p2 c2 uu a w hi S;refine J6 ?_;clear S;intro a S
  refine kC S (fun h7=>?_) (fun h7=>?_)
  ·refine kK (aQ (kS (kB (kS ?_))))
   have hi2:i < 2:=by have:=of_decide_eq_true h7;omega
   have Cq:cx i 2:=⟨hi2⟩;obtain ⟨b,m,p,c,bO,mO,pO,cO,sO,vH,hb,uX⟩:∃ (b m:Nat) (p:Option Addr) (c bO mO:Nat) (pO:Option Addr) (cO:Nat) (sO:DS),
     [ay b1 m1 p1 c1 (if 1≤i then sF else s0),ay b2 m2 p2 c2 (if 2≤i then sF else s0),Wk.box x 98 (sN ⟨x,b1,b2,j1,j2,g1,g2,L1,L2,y1,y2⟩),Wk.box b5 90 (nJ o)].Perm [ay b m p c s0,ay bO mO pO cO sO,Wk.box x 98 (sN ⟨x,b1,b2,j1,j2,g1,g2,L1,L2,y1,y2⟩),Wk.box b5 90 (nJ o)]∧
     (if i=0 then b1 else b2)=b∧
     (∀ p' c',∃ p3 c3 p4 c4,[ay b m p' c' sF,ay bO mO pO cO sO,Wk.box x 98 (sN ⟨x,b1,b2,j1,j2,g1,g2,L1,L2,y1,y2⟩),Wk.box b5 90 (nJ o)].Perm [ay b1 m1 p3 c3 (if 1≤i+1 then sF else s0),ay b2 m2 p4 c4 (if 2≤i+1 then sF else s0),Wk.box x 98 (sN ⟨x,b1,b2,j1,j2,g1,g2,L1,L2,y1,y2⟩),Wk.box b5 90 (nJ o)]):=by
    rcases (show i=0∨i=1 by omega) with rfl | rfl
    ·exact ⟨b1,m1,p1,c1,b2,m2,p2,c2,s0,.refl _,rfl,fun p' c'=>⟨p',c',p2,c2,.refl _⟩⟩
    ·exact ⟨b2,m2,p2,c2,b1,m1,p1,c1,sF,.swap _ _ _,rfl,fun p' c'=>⟨p1,c1,p',c',.swap _ _ _⟩⟩
   replace S:=S.perm _ vH.symm;refine J2 ?_;clear S;intro a S;rw[hb]at S;refine J6 ?_;clear S;intro a S;refine cM (ay b m p c s0) S (rf b m p c s0 (by rw[Vc];simp) _ (S.it (ay b m p c s0))) rfl ?_;clear S;rintro _ a w (⟨h,-⟩ | ⟨-,g,L,rfl,GX,yo,u7,iF⟩) hS
   ·exact absurd q1 h
   have S:=hS (ct b g L) u7 iF;clear hS;refine jq ?_;clear S;intro a S;rw[show (!decide ((0:Int)=0))=false from rfl]at S;refine sq S ?_;clear S;intro a S;refine jr S ?_;refine sq S ?_;clear S;intro a S;refine jr S ?_;refine sn S ?_;clear S;intro b43 a w S;replace S:=S.bT b43 1 0 rfl (by decide);replace S:=S.add (Φ:=av ps (iW 2000 tC)) ((S.mem.fact (av ps tC)).imp fun _ h=>h.take _);refine jr S ?_;refine sq S ?_;clear S;intro a S;refine jr S ?_;refine sq S ?_;clear S;intro a S;refine jr S ?_;refine sq S ?_;clear S;intro a S;refine jr S ?_;refine sq S ?_;clear S;intro a S;refine jr S ?_;refine sq S ?_;clear S;intro a S;refine jr S ?_;refine gA S (by simp only[maxLen];omega) (by omega) ?_;clear S;rintro Iu K_ a w - S;rw[j6,Nat.zero_add,←hN.eq]at S;replace S:=S.bA Iu (iW 2000 tC) (e:=5) (sz:=1) (n:=(iW 2000 tC).length) (c:=K_) (fun _ _ _ _=>trivial);refine jr S ?_;have hr:=Bk b g L 1000 ⟨Iu,K_,iW 2000 tC⟩ (yo▸hwo) (by omega) (by show (iW 2000 tC).length≤_;rw[ov];omega) w (S.it (ct b g L)) (S.bU (ct b g L) (S.mem.fact (av Iu (iW 2000 tC))));rw[yo]at hr;refine cM (ct b g L) S hr rfl ?_;clear S;rintro _ a w ⟨L3,rfl,DT,Bd,R1,B7⟩ hS;have S:=hS (ct b g L3) DT Bd;clear hS;rw[show (jG (iz s0) (jK.bs ⟨Iu,K_,iW 2000 tC⟩)).2=0 from hck]at S;replace B7:L3.v=VC:=by rw[WO];exact B7
   have R1:L3.m=m:=R1.trans GX;refine jr S ?_;refine sq S ?_;clear S;intro a S;rw[show (!decide ((0:Int)=0))=false from rfl]at S;refine ug ?_;clear S;intro a S;refine iI S (fun(j:Nat) (L4:LG) uu=>[(12,uu 12),(0,uu 13),(42,.int .i64 (j:Nat)),(0,uu 57),(0,uu 58),(0,uu 59),(0,uu 60),(0,uu 61),(0,uu 62),(0,uu 63),(0,uu 64),(0,uu 65),(0,uu 66),(0,uu 67),(0,uu 68),(0,uu 69),(0,uu 70),(0,uu 71),(0,uu 72),(0,uu 73),(0,uu 74),(0,uu 75)]) (fun(j:Nat) (L4:LG)=>[ct b g L4,ay bO mO pO cO sO,Wk.box x 98 (sN ⟨x,b1,b2,j1,j2,g1,g2,L1,L2,y1,y2⟩),Wk.box b5 90 (nJ o)]) (fun(j:Nat) (L4:LG)=>[av ps tC,av pr rows,aE o.m,av o.p o.keep]) (fun(j:Nat) (L4:LG)=>j≤rows.length∧tw VC rs=tw L4.v (rs.drop j)∧L4.m=m∧L4.v.Wf (1840+840*min j 5)) (fun(j:Nat) (L4:LG)=>rows.length - j) (0) (L3) ?_ S.uu ?_ ?_
   ·exact ⟨Nat.zero_le _,by rw[B7];rfl,R1,by rw[B7];exact hwc⟩
   ·first | exact S | exact S.sub _ _
   ·clear S;rintro j L4 uu a w ⟨hj,NI,R7,Rq⟩ S
    refine J6 ?_;clear S;intro a S;refine kC S (fun Ah=>?_) (fun Ah=>?_)
    ·refine kK (aQ (kS (kB (kS ?_))))
     have hjl:j < rows.length:=by have:=of_decide_eq_true Ah;omega
     have hK:cx j rows.length:=⟨hjl⟩;obtain ⟨y,hy⟩:∃ y,y=aq rows j:=⟨_,rfl⟩;have CN:y∈rows:=hy▸bh hjl;refine J4 ?_;clear S;intro a S;rw[←hy]at S;refine J5 ?_;clear S;intro a S;obtain ⟨hyc,hyc2,-⟩:=(S.mem.fact (av pr rows)).now.2 y CN;have YI:eS (min y.xs.length 800) y.cap:=⟨by omega⟩;have Nc:eu (iW 800 y.xs) (min y.xs.length 800):=⟨ov 800 y.xs⟩;refine J4 ?_;clear S;intro a S;refine gS S (fun Cm S=>?_) (fun Cm S=>?_)
     ·refine gT S ?_;refine sq S ?_;clear S;intro a S;refine gT S ?_;refine sn S ?_;clear S;intro b64 a w S
      replace S:=S.bT b64 1 0 rfl (by decide);replace S:=S.add (Φ:=av y.p (iW 800 y.xs)) ((S.mem.fact (av pr rows)).imp fun _ h=>(h.2 y CN).2.2.take _);refine gT S ?_;refine sq S ?_;clear S;intro a S;refine gT S ?_;refine sq S ?_;clear S;intro a S;refine gT S ?_;refine sq S ?_;clear S;intro a S;refine gT S ?_;refine sq S ?_;clear S;intro a S;refine gT S ?_;refine sq S ?_;clear S;intro a S;refine gT S ?_;refine gA S (by simp only[maxLen];omega) (by omega) ?_;clear S;rintro RW Ui a w - S;rw[j6,Nat.zero_add,←Nc.eq]at S;replace S:=S.bA RW (iW 800 y.xs) (e:=5) (sz:=1) (n:=(iW 800 y.xs).length) (c:=Ui) (fun _ _ _ _=>trivial);refine gT S ?_;have hr:=vE b g L4 (1840+840*min j 5) ⟨RW,Ui,iW 800 y.xs⟩ Rq (by omega) (by show (iW 800 y.xs).length≤_;rw[ov];omega) w (S.it (ct b g L4)) (S.bU (ct b g L4) (S.mem.fact (av RW (iW 800 y.xs))));refine cM (ct b g L4) S hr rfl ?_;clear S hr;rintro _ a w ⟨L5,rfl,Q9,Z9,Z8,OH⟩ hS;have S:=hS (ct b g L5) Q9 Z9;clear hS;rw[show (jK.bs ⟨RW,Ui,iW 800 y.xs⟩)=iW 800 y.xs from rfl]at S OH;have Ve:j < 5:=by have:(j:Int) < 5:=(by simpa using Cm);omega
      have hg:rs[j]? = some (iW 800 y.xs):=by
       rw[Uw,List.getElem?_map,List.getElem?_take,if_pos Ve,bu hjl,hy];rfl
      have hjr:=(List.getElem?_eq_some_iff.1 hg).1;have Cn:rs.drop j=iW 800 y.xs::rs.drop (j+1):=by rw[List.drop_eq_getElem_cons hjr,(List.getElem?_eq_some_iff.1 hg).2]
      rw[Cn,tw]at NI;refine gT S ?_;(iterate 2 (refine sq S ?_;clear S;intro a S));refine kN (aQ ?_);refine kC S (fun w_=>?_) (fun w_=>?_)
      ·refine kE (Rt (fT (fT (mM (qw (aQ (kR ?_)))))));(iterate 2 (refine sq S ?_;clear S;intro a S));refine kN (aQ ?_)
       have he:(m6 L4.v (iW 800 y.xs)).2≠0:=by simpa using w_
       rw[if_neg he,←OH]at NI;have hs5:L5.s=sF:=by rw[Vd,NI];rfl
       have hm5':L5.m=m:=Z8.trans R7;rw[w6 ((i:Int)+1)]at S;replace S:=S.front (ct b g L5);replace S:=S.aP;rw[hs5,hm5']at S;obtain ⟨p3,c3,p4,c4,hp⟩:=uX L5.p L5.c;replace S:=S.sub [ay b m L5.p L5.c sF,ay bO mO pO cO sO,Wk.box x 98 (sN ⟨x,b1,b2,j1,j2,g1,g2,L1,L2,y1,y2⟩),Wk.box b5 90 (nJ o)] [av ps tC,av pr rows,aE o.m,av o.p o.keep];replace S:=S.perm _ hp.symm;exact ⟨i+1,p3,c3,p4,c4,S.uu,by omega,S,by omega⟩
      ·refine J8 ?_;clear S;intro a S
       have he:(m6 L4.v (iW 800 y.xs)).2=0:=by simpa using w_
       rw[if_pos he,←OH]at NI;rw[w6 ((j:Int)+1)]at S;exact ⟨j+1,L5,S.uu,⟨hjl,NI,Z8.trans R7,by rw[OH];exact (tX Rq _).more (by omega)⟩,(S.front (ct b g L5)).sub _ _,by omega⟩
     ·refine gF S ?_;clear S;intro a S;(iterate 9 (refine gF S ?_;clear S;intro a S));refine sq S ?_;clear S;intro a S;refine kN (aQ ?_);refine jS S ?_;refine kK (qw (aQ (kR ?_)));(iterate 2 (refine sq S ?_;clear S;intro a S));refine kN (aQ ?_)
      have Ve:¬j < 5:=by have:¬(j:Int) < 5:=(by simpa using Cm);omega
      rw[List.drop_of_length_le (by omega)]at NI;rw[w6 ((j:Int)+1)]at S;exact ⟨j+1,L4,S.uu,⟨hjl,by rw[NI,List.drop_of_length_le (by omega)],R7,Rq.more (by omega)⟩,(S.front (ct b g L4)).sub _ _,by omega⟩
    ·refine gM ?_;clear S;intro a S
     have Td:j=rows.length:=by have:=of_decide_eq_false Ah;omega
     rw[List.drop_of_length_le (by omega),tw]at NI;have hs5:L4.s=sF:=by rw[Vd,NI];rfl
     rw[w6 ((i:Int)+1)]at S;replace S:=S.front (ct b g L4);replace S:=S.aP;rw[hs5,R7]at S;obtain ⟨p3,c3,p4,c4,hp⟩:=uX L4.p L4.c;replace S:=S.sub [ay b m L4.p L4.c sF,ay bO mO pO cO sO,Wk.box x 98 (sN ⟨x,b1,b2,j1,j2,g1,g2,L1,L2,y1,y2⟩),Wk.box b5 90 (nJ o)] [av ps tC,av pr rows,aE o.m,av o.p o.keep];replace S:=S.perm _ hp.symm;exact ⟨i+1,p3,c3,p4,c4,S.uu,by omega,S,by omega⟩
  ·refine kE (fT (fT (mM (aQ (kS ?_)))))
   obtain rfl:i=2:=by have:=of_decide_eq_false h7;omega
   rw[if_pos (by decide:1≤2),if_pos (by decide:2≤2)]at S;obtain ⟨e,he⟩:∃ e:Bool,e=true↔gr sF=0:=⟨decide (gr sF=0),decide_eq_true_iff⟩;have WM:=Nl UA;refine J5 ?_;clear S;intro a S;refine kD (ay b1 m1 p1 c1 sF) S (NF L1 e b1 m1 p1 c1 sF he (c_ _ (ay b1 m1 p1 c1 sF)) (by omega) w (S.dM _) (S.it (ay b1 m1 p1 c1 sF))) rfl ?_;clear S;rintro _ a w ⟨h3,g3,L3,x3,p3,c3,rfl,DT,Oe,DU,GO⟩ hS;have S:=hS (oI e (cD h3 b1 g3 L3 x3) (ay b1 m1 p3 c3 (aR sF).1)) [aE x3] DT Oe (by intro Φ hΦ;obtain rfl:=List.mem_singleton.1 hΦ;exact DU);clear hS;refine rP ?_;clear S;intro a S;refine kD (ay b2 m2 p2 c2 sF) S (NG L1 e b2 m2 p2 c2 sF he (c_ _ (ay b2 m2 p2 c2 sF)) (by omega) w (S.dM _) (S.it (ay b2 m2 p2 c2 sF))) rfl ?_;clear S;rintro _ a w ⟨h4,g4,L4,x4,p4,c4,rfl,Gp,U7,B8,WJ⟩ hS;have S:=hS (oI e (fI h4 b2 g4 L4 x4) (ay b2 m2 p4 c4 (aR sF).1)) [aE x4] Gp U7 (by intro Φ hΦ;obtain rfl:=List.mem_singleton.1 hΦ;exact B8);clear hS;refine rP ?_;clear S;intro a S;rw[show (!decide (gr sF=gr sF))=false from by simp]at S;refine sq S ?_;clear S;intro a S;(iterate 4 (refine gQ S ?_;clear S;intro a S));refine jr S ?_;refine sq S ?_;clear S;intro a S;rw[show (!decide ((!e)=(!e)))=false from by simp]at S;refine rP ?_;clear S;intro a S;refine kC S (fun Lb=>?_) (fun Lb=>?_)
   ·refine J7 ?_;clear S;intro a S
    exact aD S (fun _=>rfl)
   ·refine kK (aQ (kS ?_))
    obtain rfl:e=true:=by simpa using Lb
    rw[show oI true (cD h3 b1 g3 L3 x3) (ay b1 m1 p3 c3 (aR sF).1)=cD h3 b1 g3 L3 x3 from rfl,show oI true (fI h4 b2 g4 L4 x4) (ay b2 m2 p4 c4 (aR sF).1)=fI h4 b2 g4 L4 x4 from rfl,show oP true ⟨h3,0,none⟩=some ⟨h3,0,none⟩ from rfl,show oP true ⟨h4,0,none⟩=some ⟨h4,0,none⟩ from rfl]at S;obtain ⟨u3,u4,u5,u6⟩:=GO rfl;obtain ⟨v3,v4,v5,v6⟩:=WJ rfl;have hE:=he.1 rfl;obtain ⟨K,hK⟩:∃ K,K=sF.loose.length+2000:=⟨_,rfl⟩;obtain ⟨rA,Vf⟩:∃ rA:MP,rA=⟨x,b1,b2,h3,h4,g3,g4,L3,L4,x3,x4⟩:=⟨_,rfl⟩;have Vg:pE rA K:=by
     have hkp:=rJ sF;have q3:L3.s=(aR sF).1:=congrArg LV.s u5;rw[Vf];refine ⟨by show L3.v=L4.v;rw[u5,v5],by show L3.v.Wf _;rw[u5];exact (oT (yz hE)).more (by omega),by show Nd L3.s;rw[q3];exact hkp.1 (hkF.1 hnd0),by show 10≤L3.s.size∧L3.s.size≤_;rw[q3,hkp.2,hkF.2,Va];omega,?_,u6,v6,B5 u3⟩
     show x3.m=x4.m
     rw[u3]at v3;exact Option.some.inj v3
    have hxA:x=rA.x:=by rw[Vf]
    have eA1:x3=rA.m1:=by rw[Vf]
    have eA2:x4=rA.m2:=by rw[Vf]
    refine Li ?_;clear S;intro a w S;replace S:=(S.front (fI h4 b2 g4 L4 x4)).front (cD h3 b1 g3 L3 x3);replace S:=S.aL;replace S:=(S.front (Wk.box x 98 [.pointer (some ⟨b1,0,none⟩),.pointer (some ⟨b2,0,none⟩),.pointer (some ⟨h3,0,none⟩),.pointer (some ⟨h4,0,none⟩)])).aL;replace S:=S.front (dw ⟨x,b1,b2,h3,h4,g3,g4,L3,L4,x3,x4⟩);rw[←Vf,eA1,eA2,show (⟨x,b1,b2,j1,j2,g1,g2,L1,L2,y1,y2⟩:MP).x=rA.x from hxA]at S;refine tN (.q 0 (.l 1 (.q 2 (.q 3 (.l 4 (.l 5 (.q 6 (.q 7 (.q 8 (.l 9 (.q 10 (.q 11 (.q 12 (.q 13 (.q 14 (.q 16 (.q 17 (.q 18 (.b2 15 19 (.l 19 (.l 20 (.q 21 (.q 22 (.e))))) (.l 15 (.l 20 (.q 21 (.q 22 (.e)))))))))))))))))))))))) S (fun(zz:Unit) uu=>[(6,.bool true),(106,uu 113),(0,uu 114),(0,uu 115),(0,uu 116),(0,uu 117),(0,uu 118),(0,uu 119),(0,uu 120),(0,uu 121),(0,uu 122),(0,uu 123),(0,uu 124),(0,uu 125),(0,uu 126),(0,uu 127),(0,uu 128),(0,uu 129),(0,uu 130),(0,uu 131),(0,uu 132),(0,uu 133),(0,uu 134)]) [] (fun(zz:Unit)=>[]) (fun(zz:Unit)=>[]) (fun(zz:Unit)=>True) ?_ ?_
    ·intro w S
     refine tq S ?_;clear S;intro a S;refine tl ?_;refine kD (dw rA) S (Cg rA K Vg (c_ _ (dw rA)) w (S.dM _) (S.it (dw rA)) ((S.mem.fact (aE rA.m1)).split (dw rA)) ((S.mem.fact (aE rA.m2)).split (dw rA))) rfl ?_;clear S;rintro _ a w ⟨rfl,Q9⟩ hS;have S:=hS (dw rA) [] Q9 (fun k h=>.inl h) nofun
     clear hS;refine te S ?_;refine tq S ?_;clear S;intro a S;refine XO S ?_;clear S;intro a S;refine tl (gT S ?_);refine sq S ?_;clear S;intro a S;refine te S ?_;refine tl (gT S ?_);refine kD (dw rA) S (NC rA K Vg (by omega) o ⟨UB,ho3'⟩ hz WM (c_ _ (dw rA)) w (S.dM _) (S.it (dw rA)) ((S.mem.fact (aE rA.m1)).split (dw rA)) ((S.mem.fact (aE rA.m2)).split (dw rA)) ((S.mem.fact (aE o.m)).split (dw rA)) ((S.mem.fact (av o.p o.keep)).split (dw rA))) rfl ?_;clear S;rintro _ a w ⟨rfl,r',Qk,hq6,Wy,K5,ha6,We⟩ hS;have S:=hS (dw r') [aE r'.m1,aE r'.m2] Qk hq6 (by simp only[List.mem_cons,List.not_mem_nil,or_false];rintro Φ (rfl | rfl) <;> assumption);clear hS;rw[←Wy]at S;refine te S ?_;(iterate 2 (refine tq S ?_;clear S;intro a S));refine XO S ?_;clear S;intro a S;refine tl (gT S ?_);refine kD (dw r') S (Cg r' _ K5 (c_ _ (dw r')) w (S.dM _) (S.it (dw r')) ((S.mem.fact (aE r'.m1)).split (dw r')) ((S.mem.fact (aE r'.m2)).split (dw r'))) rfl ?_;clear S;rintro _ a w ⟨rfl,hh7⟩ hS;have S:=hS (dw r') [] hh7 (fun k h=>.inl h) nofun
     clear hS;obtain ⟨rx,d1,d2,k1,k2,n1,n2,M1,M2,z1,z2⟩:=r';have j0:M2.s=M1.s:=(congrArg LV.s K5.same).symm;have hlo:M1.s.loose.length≤K+3000:=K5.wf.loose;have hsz6:10≤M1.s.size∧M1.s.size≤4096:=K5.size;have Vh:Nd M1.s:=K5.nd;replace S:=S.front (dw ⟨rx,d1,d2,k1,k2,n1,n2,M1,M2,z1,z2⟩);replace S:=S.aP;replace S:=S.front (both (cD k1 d1 n1 M1 z1) (fI k2 d2 n2 M2 z2));replace S:=S.aP;replace S:=S.front (cD k1 d1 n1 M1 z1);replace S:=S.aP;replace S:=S.front (ct d1 n1 M1);replace S:=S.aP;replace S:=S.front (fI k2 d2 n2 M2 z2);replace S:=S.aP;replace S:=S.front (ct d2 n2 M2);replace S:=S.aP;replace S:=S.front (ay d1 M1.m M1.p M1.c M1.s);rw[j0]at S;replace S:=S.aL;replace S:=S.front (Wk.box rx 98 (sN ⟨rx,d1,d2,k1,k2,n1,n2,M1,M2,z1,z2⟩));refine te S ?_;(iterate 2 (refine tq S ?_;clear S;intro a S));(iterate 6 (refine XO S ?_;clear S;intro a S));refine Hp ?_ ?_
     ·refine gT S ?_;refine sq S ?_;clear S;intro a S;refine te S ?_;refine tl (gT S ?_);refine sq S ?_;clear S;intro a S;refine te S ?_;refine tl (gT S ?_)
      refine cM (both (ay d1 M1.m M1.p M1.c M1.s) (ay d2 M2.m M2.p M2.c M1.s)) S (E7 d1 M1.m M1.p M1.c d2 M2.m M2.p M2.c M1.s (by omega) ⟨by omega,by omega⟩ Vh _ (S.it (both (ay d1 M1.m M1.p M1.c M1.s) (ay d2 M2.m M2.p M2.c M1.s)))) rfl ?_;clear S;rintro _ a w ⟨rfl,hh⟩ hS;have S:=hS (both (ay d1 M1.m M1.p M1.c M1.s) (ay d2 M2.m M2.p M2.c M1.s)) hh (fun k hk=>.inl hk);clear hS;refine te S ?_;(iterate 2 (refine tq S ?_;clear S;intro a S));refine tn ?_;rw[Wy]at S;exact ⟨(),S.uu,trivial,S.sub _ _⟩
     ·refine gT S ?_;refine sq S ?_;clear S;intro a S;refine te S ?_;refine tl (gT S ?_);refine sq S ?_;clear S;intro a S;refine te S ?_;refine tl (gT S ?_)
      refine cM (both (ay d1 M1.m M1.p M1.c M1.s) (ay d2 M2.m M2.p M2.c M1.s)) S (E7 d1 M1.m M1.p M1.c d2 M2.m M2.p M2.c M1.s (by omega) ⟨by omega,by omega⟩ Vh _ (S.it (both (ay d1 M1.m M1.p M1.c M1.s) (ay d2 M2.m M2.p M2.c M1.s)))) rfl ?_;clear S;rintro _ a w ⟨rfl,hh⟩ hS;have S:=hS (both (ay d1 M1.m M1.p M1.c M1.s) (ay d2 M2.m M2.p M2.c M1.s)) hh (fun k hk=>.inl hk);clear hS;refine te S ?_;(iterate 2 (refine tq S ?_;clear S;intro a S));refine tn ?_;rw[Wy]at S;exact ⟨(),S.uu,trivial,S.sub _ _⟩
    clear S;rintro zz uu a w - S;refine aQ (kT ?_);exact aD S (fun _=>rfl)
end Go.Proofs.YtdakncgafdnjfaaGreat