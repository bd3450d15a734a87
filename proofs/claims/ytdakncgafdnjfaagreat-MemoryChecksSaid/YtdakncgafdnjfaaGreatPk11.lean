/- 11: a part of this claim's texts, joined: LawMemD RowMemA. -/
import Derived.Test.YtdakncgafdnjfaaGreatPk10
namespace Go.Proofs.YtdakncgafdnjfaaGreat
open Go Go.Wk
set_option synthInstance.maxSize 100000
set_option synthInstance.maxHeartbeats 400000
set_option maxRecDepth 100000
instance szMem:SzE LMem 7:=⟨rfl,by decide⟩
instance cellsMem {x:LMem} : CellsOf x (cMem x):=⟨rfl⟩
open Classical in
noncomputable def sameB (a b:PMem):Bool:=decide (a=b)
theorem sameB_rfl (a:PMem):sameB a a=true:=by unfold sameB;simp
theorem sameB_of {b:Bool} {x y:PMem} (h:b=true↔x=y):b=sameB x y:=by
 unfold sameB;rw[Bool.eq_iff_iff];simp[h]
instance msameI {x y:LMem} {bs fs} [hx:MemFit x] [hy:MemFit y] [h1:HasFact fs (MemF x)] [h2:HasFact fs (MemF y)]:CallV Tryz.prog 40 [vMem x,vMem y] bs fs (.bool (sameB x.m y.m)):=⟨fun w mm=>
 (msame_c x y hx.fit hy.fit w ((mm.facts _ h1.mem).less fun _ _ h=>h.elim) ((mm.facts _ h2.mem).less fun _ _ h=>h.elim)).mono fun _ _ ⟨_,hv,hb⟩=>by rw[hv,sameB_of hb]⟩
instance r20sameI {x y:LMem} {bs fs} [hx:MemFit x] [hy:MemFit y] [h1:HasFact fs (MemF x)] [h2:HasFact fs (MemF y)]:CallV Tryz.prog 41 [vMem x,vMem y] bs fs (.bool (sameB x.m y.m)):=⟨fun w mm=>
 (r20same_c x y hx.fit hy.fit w ((mm.facts _ h1.mem).less fun _ _ h=>h.elim) ((mm.facts _ h2.mem).less fun _ _ h=>h.elim)).mono fun _ _ ⟨_,hv,hb⟩=>by rw[hv,sameB_of hb]⟩
instance r20coversI {x y:LMem} {bs fs} [hx:MemFit x] [hy:MemFit y] [h1:HasFact fs (MemF x)] [h2:HasFact fs (MemF y)]:CallV Tryz.prog 39 [vMem x,vMem y] bs fs (.bool (coversB x.m y.m)):=⟨fun w mm=>r20covers_c x y hx.fit hy.fit w ((mm.facts _ h1.mem).less fun _ _ h=>h.elim) ((mm.facts _ h2.mem).less fun _ _ h=>h.elim)⟩
set_option maxHeartbeats 4000000 in
theorem memchecks_c (p:Option Addr) (c:Nat) (l:List LMem) (hll:l.length≤9223372036854775807) (w0:World) (f0:Stable (fun _=>False) w0 (GlF p l)) :
  Ret Tryz.prog 7 [.slice p l.length c] w0 (fun _=>False) fun v _=>v=.bool true:=by
 refine enter Tryz.func7 rfl rfl (Wd.begin (fs:=[GlF p l]) (by simpa using f0)) (fun a S=>?_)
 simp only[Tryz.ntmps7,qqA,qqB,Nat.reduceAdd,Nat.reduceSub,qqC,qqD,qqE,qqF]at S
 refine kS (kR (sq S ?_));clear S;intro a S;refine kN (xtn (kS (kS (kR ?_))));refine sr S (mwakes_c _) ?_;clear S;rintro _ a w rfl S;refine sq S ?_;clear S;intro a S;refine kN (xtn ?_);refine c_condF S ?_;refine kK (xtn (kS (kS (kR ?_))));(iterate 3 (refine sq S ?_;clear S;intro a S));refine kN (xtn (kB ?_))
 refine c_fore1 S (fun(k:Nat) uu=>[(2,uu 2),(0,uu 3),(0,uu 4),(0,uu 5),(0,uu 6),(0,uu 7),(0,uu 8),(0,uu 9),(0,uu 10),(4,.int .i64 (k:Nat)),(0,uu 16),(0,uu 17),(0,uu 18),(0,uu 19),(0,uu 20),(0,uu 21),(0,uu 22),(0,uu 23),(0,uu 24),(0,uu 25),(0,uu 26),(0,uu 27),(0,uu 28),(0,uu 29),(0,uu 30),(0,uu 31),(0,uu 32),(0,uu 33),(0,uu 34),(0,uu 35),(0,uu 36),(0,uu 37),(0,uu 38),(0,uu 39),(0,uu 40),(0,uu 41),(0,uu 42),(0,uu 43),(0,uu 44),(0,uu 45),(0,uu 46),(0,uu 47),(0,uu 48),(0,uu 49),(0,uu 50),(0,uu 51),(0,uu 52),(0,uu 53),(0,uu 54),(0,uu 55),(0,uu 56),(0,uu 57),(0,uu 58),(0,uu 59),(0,uu 60),(0,uu 61),(0,uu 62),(0,uu 63),(0,uu 64),(0,uu 65),(0,uu 66),(0,uu 67),(0,uu 68),(0,uu 69),(0,uu 70),(0,uu 71),(0,uu 72),(0,uu 73),(0,uu 74),(0,uu 75),(0,uu 76),(0,uu 77),(0,uu 78),(0,uu 79),(0,uu 80),(0,uu 81),(0,uu 82),(0,uu 83),(0,uu 84),(0,uu 85),(0,uu 86),(0,uu 87),(0,uu 88),(0,uu 89),(0,uu 90),(0,uu 91),(0,uu 92),(0,uu 93),(0,uu 94),(0,uu 95)]) (fun(k:Nat)=>[]) (fun(k:Nat)=>[GlF p l]) (fun(k:Nat)=>k≤l.length) (fun(k:Nat)=>l.length - k) (0) ?_ S.uu ?_ ?_
 exact Nat.zero_le _
 first | exact S | exact S.sub _ _
 clear S;rintro k uu a w hk S;refine kS (kR (sq S ?_));clear S;intro a S;refine kN (xtn (kS ?_))
 refine kC S (fun h4=>?_) (fun h4=>?_)
 refine kK (xtn (kS (kB (kS ?_))))
 have hkl:k < l.length:=by have:=of_decide_eq_true h4;omega
 have hK:KLt k l.length:=⟨hkl⟩
 have hK0:KLt 0 l.length:=⟨by omega⟩
 obtain ⟨X,hX⟩:∃ X,X=nthG l k:=⟨_,rfl⟩
 obtain ⟨Y,hY⟩:∃ Y,Y=nthG l 0:=⟨_,rfl⟩
 have hXm:X∈l:=hX▸nthG_mem hkl
 have hYm:Y∈l:=hY▸nthG_mem (by omega)
 have hXb:BigM X:=mem_big ((S.mem.fact (GlF p l)).now.2 X hXm)
 have hYb:BigM Y:=mem_big ((S.mem.fact (GlF p l)).now.2 Y hYm)
 replace S:=S.add (Φ:=MemF X) ((S.mem.fact (GlF p l)).imp fun _ h=>mem_in (h.2 X hXm))
 replace S:=S.add (Φ:=MemF Y) ((S.mem.fact (GlF p l)).imp fun _ h=>mem_in (h.2 Y hYm))
 refine kR ?_;(iterate 3 (refine sq S ?_;clear S;intro a S))
 rw[←hX]at S
 refine sa S ?_;clear S;intro b4 a w S;refine sq S ?_;clear S;intro a S;refine sw S ?_;clear S;intro a w S;refine kN (xtn (kS (kS (kR ?_))));(iterate 2 (refine sq S ?_;clear S;intro a S));refine kN (xtn ?_)
 refine kC S (fun h6=>?_) (fun h6=>?_)
 refine kE (xte (xbx (xte (xte (xbe (xtn (kS (kR (sq S ?_)))))))));clear S;intro a S;refine kN (xtn (kT ?_))
 exact end1 S (fun _=>rfl)
 refine kK (xtn (kS ?_))
 refine c_drwe4 (.q 0 (.q 2 (.q 3 (.q 4 (.b3 1 6 7 (.b3 5 6 7 (.b2 6 7 (.l 7 (.l 8 (.l 9 (.e)))) (.l 6 (.l 8 (.l 9 (.e))))) (.b2 5 7 (.l 7 (.l 8 (.l 9 (.e)))) (.l 5 (.l 8 (.l 9 (.e))))) (.b2 5 6 (.l 6 (.l 8 (.l 9 (.e)))) (.l 5 (.l 8 (.l 9 (.e)))))) (.b2 1 7 (.b2 5 7 (.l 7 (.l 8 (.l 9 (.e)))) (.l 5 (.l 8 (.l 9 (.e))))) (.l 1 (.l 5 (.l 8 (.l 9 (.e)))))) (.b2 1 6 (.b2 5 6 (.l 6 (.l 8 (.l 9 (.e)))) (.l 5 (.l 8 (.l 9 (.e))))) (.l 1 (.l 5 (.l 8 (.l 9 (.e))))))))))) S (fun(v5:Nat) (v6:Nat) (x:LMem) (y:LMem) uu=>[(5,.pointer (some ⟨v5,0,none⟩)),(0,.pointer (some ⟨v6,0,none⟩)),(15,uu 22),(0,uu 23),(0,uu 24),(0,uu 25),(0,uu 26),(0,uu 27)]) [Wk.box b4 67 (cMem X)] (fun(v5:Nat) (v6:Nat) (x:LMem) (y:LMem)=>[Wk.box v5 67 (cMem x),Wk.box v6 67 (cMem y),Wk.box b4 67 (cMem X)]) (fun(v5:Nat) (v6:Nat) (x:LMem) (y:LMem)=>[MemF x,MemF y,MemF X,GlF p l]) (fun(v5:Nat) (v6:Nat) (x:LMem) (y:LMem)=>(x.m=shortP X.m∧FitM x)∧y.m=shortP Y.m∧FitM y) ?_ ?_
 intro w S
 (iterate 4 (refine tq S ?_;clear S;intro a S))
 rw[←hY]at S
 refine tb3 ?_ ?_ ?_
 refine sr S (short_c X hXb _ w (foots_lt S) (S.mem.fact (MemF X))) ?_;clear S;rintro _ a w ⟨x,rfl,hx,hfx,hstx⟩ S
 replace S:=S.add (Φ:=MemF x) hstx
 refine te S ?_
 refine tb3 ?_ ?_ ?_
 refine sr S (short_c Y hYb _ w (foots_lt S) (S.mem.fact (MemF Y))) ?_;clear S;rintro _ a w ⟨y,rfl,hy,hfy,hsty⟩ S
 replace S:=S.add (Φ:=MemF y) hsty
 refine te S ?_
 refine tb2 ?_ ?_
 refine sa S ?_;clear S;intro b5 a w S;refine te S ?_;refine tl (sa S ?_);clear S;intro b6 a w S;refine te S ?_;refine tl (sw S ?_);clear S;intro a w S;refine te S ?_;refine tl (sw S ?_);clear S;intro a w S;refine te S ?_;refine tn ?_
 have f1:=S.mem.fact (MemF x)
 have f2:=S.mem.fact (MemF y)
 replace S:=(S.add f2).add f1
 exact ⟨b5,b6,x,y,S.uu,⟨⟨hx,hfx⟩,hy,hfy⟩,((S.front (Wk.box b6 67 (cMem y))).front (Wk.box b5 67 (cMem x))).sub _ _⟩
 refine sa S ?_;clear S;intro b6 a w S;refine te S ?_;refine tl (sa S ?_);clear S;intro b5 a w S;refine te S ?_;refine tl (sw S ?_);clear S;intro a w S;refine te S ?_;refine tl (sw S ?_);clear S;intro a w S;refine te S ?_;refine tn ?_
 have f1:=S.mem.fact (MemF x)
 have f2:=S.mem.fact (MemF y)
 replace S:=(S.add f2).add f1
 exact ⟨b5,b6,x,y,S.uu,⟨⟨hx,hfx⟩,hy,hfy⟩,((S.front (Wk.box b6 67 (cMem y))).front (Wk.box b5 67 (cMem x))).sub _ _⟩
 refine sa S ?_;clear S;intro b5 a w S;refine te S ?_
 refine tb2 ?_ ?_
 refine sr S (short_c Y hYb _ w (foots_lt S) (S.mem.fact (MemF Y))) ?_;clear S;rintro _ a w ⟨y,rfl,hy,hfy,hsty⟩ S
 replace S:=S.add (Φ:=MemF y) hsty
 refine te S ?_;refine tl (sa S ?_);clear S;intro b6 a w S;refine te S ?_;refine tl (sw S ?_);clear S;intro a w S;refine te S ?_;refine tl (sw S ?_);clear S;intro a w S;refine te S ?_;refine tn ?_
 have f1:=S.mem.fact (MemF x)
 have f2:=S.mem.fact (MemF y)
 replace S:=(S.add f2).add f1
 exact ⟨b5,b6,x,y,S.uu,⟨⟨hx,hfx⟩,hy,hfy⟩,((S.front (Wk.box b6 67 (cMem y))).front (Wk.box b5 67 (cMem x))).sub _ _⟩
 refine sa S ?_;clear S;intro b6 a w S;refine te S ?_;refine tl ?_
 refine sr S (short_c Y hYb _ w (foots_lt S) (S.mem.fact (MemF Y))) ?_;clear S;rintro _ a w ⟨y,rfl,hy,hfy,hsty⟩ S
 replace S:=S.add (Φ:=MemF y) hsty
 refine te S ?_;refine tl (sw S ?_);clear S;intro a w S;refine te S ?_;refine tl (sw S ?_);clear S;intro a w S;refine te S ?_;refine tn ?_
 have f1:=S.mem.fact (MemF x)
 have f2:=S.mem.fact (MemF y)
 replace S:=(S.add f2).add f1
 exact ⟨b5,b6,x,y,S.uu,⟨⟨hx,hfx⟩,hy,hfy⟩,((S.front (Wk.box b6 67 (cMem y))).front (Wk.box b5 67 (cMem x))).sub _ _⟩
 refine sa S ?_;clear S;intro b6 a w S;refine te S ?_
 refine tb2 ?_ ?_
 refine sr S (short_c Y hYb _ w (foots_lt S) (S.mem.fact (MemF Y))) ?_;clear S;rintro _ a w ⟨y,rfl,hy,hfy,hsty⟩ S
 replace S:=S.add (Φ:=MemF y) hsty
 refine te S ?_;refine tl (sa S ?_);clear S;intro b5 a w S;refine te S ?_;refine tl (sw S ?_);clear S;intro a w S;refine te S ?_;refine tl (sw S ?_);clear S;intro a w S;refine te S ?_;refine tn ?_
 have f1:=S.mem.fact (MemF x)
 have f2:=S.mem.fact (MemF y)
 replace S:=(S.add f2).add f1
 exact ⟨b5,b6,x,y,S.uu,⟨⟨hx,hfx⟩,hy,hfy⟩,((S.front (Wk.box b6 67 (cMem y))).front (Wk.box b5 67 (cMem x))).sub _ _⟩
 refine sa S ?_;clear S;intro b5 a w S;refine te S ?_;refine tl ?_
 refine sr S (short_c Y hYb _ w (foots_lt S) (S.mem.fact (MemF Y))) ?_;clear S;rintro _ a w ⟨y,rfl,hy,hfy,hsty⟩ S
 replace S:=S.add (Φ:=MemF y) hsty
 refine te S ?_;refine tl (sw S ?_);clear S;intro a w S;refine te S ?_;refine tl (sw S ?_);clear S;intro a w S;refine te S ?_;refine tn ?_
 have f1:=S.mem.fact (MemF x)
 have f2:=S.mem.fact (MemF y)
 replace S:=(S.add f2).add f1
 exact ⟨b5,b6,x,y,S.uu,⟨⟨hx,hfx⟩,hy,hfy⟩,((S.front (Wk.box b6 67 (cMem y))).front (Wk.box b5 67 (cMem x))).sub _ _⟩
 refine sa S ?_;clear S;intro b5 a w S;refine te S ?_
 refine tb2 ?_ ?_
 refine sr S (short_c X hXb _ w (foots_lt S) (S.mem.fact (MemF X))) ?_;clear S;rintro _ a w ⟨x,rfl,hx,hfx,hstx⟩ S
 replace S:=S.add (Φ:=MemF x) hstx
 refine te S ?_
 refine tb2 ?_ ?_
 refine sr S (short_c Y hYb _ w (foots_lt S) (S.mem.fact (MemF Y))) ?_;clear S;rintro _ a w ⟨y,rfl,hy,hfy,hsty⟩ S
 replace S:=S.add (Φ:=MemF y) hsty
 refine te S ?_;refine tl (sa S ?_);clear S;intro b6 a w S;refine te S ?_;refine tl (sw S ?_);clear S;intro a w S;refine te S ?_;refine tl (sw S ?_);clear S;intro a w S;refine te S ?_;refine tn ?_
 have f1:=S.mem.fact (MemF x)
 have f2:=S.mem.fact (MemF y)
 replace S:=(S.add f2).add f1
 exact ⟨b5,b6,x,y,S.uu,⟨⟨hx,hfx⟩,hy,hfy⟩,((S.front (Wk.box b6 67 (cMem y))).front (Wk.box b5 67 (cMem x))).sub _ _⟩
 refine sa S ?_;clear S;intro b6 a w S;refine te S ?_;refine tl ?_
 refine sr S (short_c Y hYb _ w (foots_lt S) (S.mem.fact (MemF Y))) ?_;clear S;rintro _ a w ⟨y,rfl,hy,hfy,hsty⟩ S
 replace S:=S.add (Φ:=MemF y) hsty
 refine te S ?_;refine tl (sw S ?_);clear S;intro a w S;refine te S ?_;refine tl (sw S ?_);clear S;intro a w S;refine te S ?_;refine tn ?_
 have f1:=S.mem.fact (MemF x)
 have f2:=S.mem.fact (MemF y)
 replace S:=(S.add f2).add f1
 exact ⟨b5,b6,x,y,S.uu,⟨⟨hx,hfx⟩,hy,hfy⟩,((S.front (Wk.box b6 67 (cMem y))).front (Wk.box b5 67 (cMem x))).sub _ _⟩
 refine sa S ?_;clear S;intro b6 a w S;refine te S ?_;refine tl ?_
 refine sr S (short_c X hXb _ w (foots_lt S) (S.mem.fact (MemF X))) ?_;clear S;rintro _ a w ⟨x,rfl,hx,hfx,hstx⟩ S
 replace S:=S.add (Φ:=MemF x) hstx
 refine te S ?_;refine tl ?_
 refine sr S (short_c Y hYb _ w (foots_lt S) (S.mem.fact (MemF Y))) ?_;clear S;rintro _ a w ⟨y,rfl,hy,hfy,hsty⟩ S
 replace S:=S.add (Φ:=MemF y) hsty
 refine te S ?_;refine tl (sw S ?_);clear S;intro a w S;refine te S ?_;refine tl (sw S ?_);clear S;intro a w S;refine te S ?_;refine tn ?_
 have f1:=S.mem.fact (MemF x)
 have f2:=S.mem.fact (MemF y)
 replace S:=(S.add f2).add f1
 exact ⟨b5,b6,x,y,S.uu,⟨⟨hx,hfx⟩,hy,hfy⟩,((S.front (Wk.box b6 67 (cMem y))).front (Wk.box b5 67 (cMem x))).sub _ _⟩
 refine sa S ?_;clear S;intro b6 a w S;refine te S ?_
 refine tb2 ?_ ?_
 refine sr S (short_c X hXb _ w (foots_lt S) (S.mem.fact (MemF X))) ?_;clear S;rintro _ a w ⟨x,rfl,hx,hfx,hstx⟩ S
 replace S:=S.add (Φ:=MemF x) hstx
 refine te S ?_
 refine tb2 ?_ ?_
 refine sr S (short_c Y hYb _ w (foots_lt S) (S.mem.fact (MemF Y))) ?_;clear S;rintro _ a w ⟨y,rfl,hy,hfy,hsty⟩ S
 replace S:=S.add (Φ:=MemF y) hsty
 refine te S ?_;refine tl (sa S ?_);clear S;intro b5 a w S;refine te S ?_;refine tl (sw S ?_);clear S;intro a w S;refine te S ?_;refine tl (sw S ?_);clear S;intro a w S;refine te S ?_;refine tn ?_
 have f1:=S.mem.fact (MemF x)
 have f2:=S.mem.fact (MemF y)
 replace S:=(S.add f2).add f1
 exact ⟨b5,b6,x,y,S.uu,⟨⟨hx,hfx⟩,hy,hfy⟩,((S.front (Wk.box b6 67 (cMem y))).front (Wk.box b5 67 (cMem x))).sub _ _⟩
 refine sa S ?_;clear S;intro b5 a w S;refine te S ?_;refine tl ?_
 refine sr S (short_c Y hYb _ w (foots_lt S) (S.mem.fact (MemF Y))) ?_;clear S;rintro _ a w ⟨y,rfl,hy,hfy,hsty⟩ S
 replace S:=S.add (Φ:=MemF y) hsty
 refine te S ?_;refine tl (sw S ?_);clear S;intro a w S;refine te S ?_;refine tl (sw S ?_);clear S;intro a w S;refine te S ?_;refine tn ?_
 have f1:=S.mem.fact (MemF x)
 have f2:=S.mem.fact (MemF y)
 replace S:=(S.add f2).add f1
 exact ⟨b5,b6,x,y,S.uu,⟨⟨hx,hfx⟩,hy,hfy⟩,((S.front (Wk.box b6 67 (cMem y))).front (Wk.box b5 67 (cMem x))).sub _ _⟩
 refine sa S ?_;clear S;intro b5 a w S;refine te S ?_;refine tl ?_
 refine sr S (short_c X hXb _ w (foots_lt S) (S.mem.fact (MemF X))) ?_;clear S;rintro _ a w ⟨x,rfl,hx,hfx,hstx⟩ S
 replace S:=S.add (Φ:=MemF x) hstx
 refine te S ?_;refine tl ?_
 refine sr S (short_c Y hYb _ w (foots_lt S) (S.mem.fact (MemF Y))) ?_;clear S;rintro _ a w ⟨y,rfl,hy,hfy,hsty⟩ S
 replace S:=S.add (Φ:=MemF y) hsty
 refine te S ?_;refine tl (sw S ?_);clear S;intro a w S;refine te S ?_;refine tl (sw S ?_);clear S;intro a w S;refine te S ?_;refine tn ?_
 have f1:=S.mem.fact (MemF x)
 have f2:=S.mem.fact (MemF y)
 replace S:=(S.add f2).add f1
 exact ⟨b5,b6,x,y,S.uu,⟨⟨hx,hfx⟩,hy,hfy⟩,((S.front (Wk.box b6 67 (cMem y))).front (Wk.box b5 67 (cMem x))).sub _ _⟩
 clear S;rintro v5 v6 x y uu a w ⟨⟨hx,hfx⟩,hy,hfy⟩ S
 refine xtn (kS ?_)
 have hMx:MemFit x:=⟨hfx⟩
 have hMy:MemFit y:=⟨hfy⟩
 obtain ⟨r,hr⟩:∃ r,r=memB x.m:=⟨_,rfl⟩
 have hmc:mchkF x.m=if r then 0 else 300:=by rw[mchkF,hr]
 refine kR (sq S ?_);clear S;intro a S;refine sc S ?_;clear S;intro a w S
 rw[←hr]at S
 refine sq S ?_;clear S;intro a S;refine kN (xtn (kS (kR (sq S ?_))));clear S;intro a S
 refine srn S (mencode_q x hfx _ ((S.mem.fact (MemF x)).less fun _ _ h=>h.elim)) ?_;clear S;rintro _ a w ⟨p9,c9,rfl,hown,hnew⟩ hS -
 have S:=hS hown hnew
 clear hS
 replace S:=S.rowToGl p9 (encMQ x.m) (e:=5) (sz:=1) (n:=(encMQ x.m).length) (c:=c9) (fun _ _ _ _=>trivial)
 (iterate 5 (refine sq S ?_;clear S;intro a S));refine kN (xtn (kS (kS (kR (sq S ?_)))));clear S;intro a S;refine sc S ?_;clear S;intro a w S;refine sq S ?_;clear S;intro a S;refine kN (xtn (kS (kR ?_)));(iterate 2 (refine sq S ?_;clear S;intro a S))
 rw[mchk_dec,←hr]at S
 (iterate 3 (refine sq S ?_;clear S;intro a S));(iterate 6 (refine gQ S ?_;clear S;intro a S));refine sq S ?_;clear S;intro a S;refine kN (xtn ?_)
 refine kC S (fun h11=>?_) (fun h11=>?_)
 refine kS (kR (sq S ?_));clear S;intro a S;refine kN (xtn (kT (xtr (xbr (xtr (xtr (xbr (xtr ?_))))))))
 exfalso
 rw[hmc]at h11
 cases r <;> simp at h11
 refine kK (xtn (kS (kS ?_)));refine c_drawD [(0,true),(1,true),(3,true),(4,true),(2,false),(5,false),(6,true),(7,true),(8,true),(9,true),(11,true),(12,true),(10,false),(13,false),(14,true),(15,true),(16,true),(17,true),(18,true),(19,false),(20,false),(21,true),(22,true)] [] S ?_;clear S;intro w S;(iterate 4 (refine dq S ?_;clear S;intro a S));refine dl (sc S ?_);clear S;intro a w S;refine de S ?_;refine dl (sc S ?_);clear S;intro a w S;refine de S ?_;refine dq S ?_;clear S;intro a S
 rw[show (!decide (coversB y.m x.m=coversB y.m x.m))=false from by rw[decide_eq_true rfl];rfl]at S
 refine dq S ?_;clear S;intro a S;(iterate 4 (refine dqG S ?_;clear S;intro a S));refine dl ?_;refine gC S ?_;clear S;intro a w S;refine de S ?_;refine dl ?_;refine gC S ?_;clear S;intro a w S;refine de S ?_;refine dqG S ?_;clear S;intro a S
 rw[show (!decide (sameB y.m x.m=sameB y.m x.m))=false from by rw[decide_eq_true rfl];rfl]at S
 refine dq S ?_;clear S;intro a S
 try rw[show (false||false)=false from rfl]at S
 refine dq S ?_;clear S;intro a S;(iterate 2 (refine dqG S ?_;clear S;intro a S));refine dl (gT' S ?_)
 refine sr S (short_c X hXb _ w (foots_lt S) (S.mem.fact (MemF X))) ?_;clear S;rintro _ a w ⟨z,rfl,hz,hfz,hstz⟩ S
 replace S:=S.add (Φ:=MemF z) hstz
 have hMz:MemFit z:=⟨hfz⟩
 refine de S ?_;refine dl (gT' S ?_);refine sc S ?_;clear S;intro a w S
 rw[show sameB x.m z.m=true from by rw[hx,hz];exact sameB_rfl _]at S
 refine de S ?_;refine dqG S ?_;clear S;intro a S;refine dq S ?_;clear S;intro a S;refine dn (xtn ?_)
 refine kC S (fun h13=>?_) (fun h13=>?_)
 refine kS (kR (sq S ?_));clear S;intro a S;refine kN (xtn (kT (xtr (xbr (xtr (xtr (xbr (xtr ?_))))))))
 exfalso
 simp at h13
 refine kK (xtn (kS (kS (kR ?_))));(iterate 2 (refine sq S ?_;clear S;intro a S));refine kN (xtn ?_)
 refine kC S (fun h15=>?_) (fun h15=>?_)
 refine kS (kR ?_);(iterate 3 (refine sq S ?_;clear S;intro a S));(iterate 3 (refine gQ S ?_;clear S;intro a S));refine sq S ?_;clear S;intro a S;refine kN (xtn ?_)
 refine kC S (fun h16=>?_) (fun h16=>?_)
 refine kS (kR (sq S ?_));clear S;intro a S;refine kN (xtn (kT (xtr (xbr (xtr (xtr (xbr (xtr ?_))))))))
 exfalso
 have hr0:r=false:=by simpa using h15
 rw[hmc,encMQ,←hr,hr0]at h16
 simp at h16
 refine kK (xtn (kS ?_));refine c_drawD [(0,true),(1,true),(2,false),(3,false),(4,true)] [] S ?_;clear S;intro w S;(iterate 2 (refine dq S ?_;clear S;intro a S));refine dl ?_
 refine sr S (short_c X hXb _ w (foots_lt S) (S.mem.fact (MemF X))) ?_;clear S;rintro _ a w ⟨u,rfl,hu,hfu,hstu⟩ S
 replace S:=S.add (Φ:=MemF u) hstu
 have hMu:MemFit u:=⟨hfu⟩
 refine de S ?_;refine dl (sc S ?_);clear S;intro a w S
 rw[show sameB x.m u.m=true from by rw[hx,hu];exact sameB_rfl _]at S
 refine de S ?_;refine dq S ?_;clear S;intro a S;refine dn (xtn ?_)
 refine kC S (fun h20=>?_) (fun h20=>?_)
 refine kS (kR (sq S ?_));clear S;intro a S;refine kN (xtn (kT (xbr (xtr (xtr (xbr (xtr ?_)))))))
 exfalso
 simp at h20
 refine kK (xbn (xtn (kR ?_)));(iterate 2 (refine sq S ?_;clear S;intro a S));refine kN (xtn ?_)
 rw[w64 ((k:Int)+1) (by omega) (by omega)]at S
 exact ⟨k+1,S.uu,hkl,S.sub _ _,by omega⟩
 refine kS ?_
 have hr1:r=true:=by simpa using h15
 have hz:mchkF x.m=0:=by rw[hmc,hr1];rfl
 have hok:memB x.m=true:=by rw[←hr,hr1]
 have hq:encMQ x.m=encM x.m:=by rw[encMQ,if_pos hok]
 rw[hz,hq]at S
 refine kR ?_;(iterate 2 (refine sq S ?_;clear S;intro a S))
 rw[show (!decide ((0:Int)=0))=false from rfl]at S
 refine sq S ?_;clear S;intro a S;refine gT' S ?_;refine sq S ?_;clear S;intro a S;refine gT' S ?_;refine sq S ?_;clear S;intro a S;refine gT' S ?_
 refine srn S (r20bytes_c x hfx hok _ ((S.mem.fact (MemF x)).less fun _ _ h=>h.elim)) ?_;clear S;rintro _ a w ⟨p18,c18,rfl,hown,hnew⟩ hS -
 have S:=hS hown hnew
 clear hS
 replace S:=S.rowToGl p18 (encM x.m) (e:=5) (sz:=1) (n:=(encM x.m).length) (c:=c18) (fun _ _ _ _=>trivial)
 refine gT' S ?_
 refine sr S (beq_c p9 p18 c9 c18 (encM x.m) (encM x.m) ⟨by have:=encM_small hok;omega,by have:=encM_small hok;omega⟩ w (S.gl0 p9) (S.gl0 p18)) ?_;clear S;rintro _ a w rfl S
 refine gT' S ?_;(iterate 2 (refine sq S ?_;clear S;intro a S));refine kN (xtn ?_)
 refine kC S (fun h18=>?_) (fun h18=>?_)
 refine kS (kR (sq S ?_));clear S;intro a S;refine kN (xtn (kT (xtr (xbr (xtr (xtr (xbr (xtr ?_))))))))
 exfalso
 simp at h18
 refine kK (xtn (kS ?_));refine c_drawD [(0,true),(1,true),(2,false),(3,false),(4,true)] [] S ?_;clear S;intro w S;(iterate 2 (refine dq S ?_;clear S;intro a S));refine dl ?_
 refine sr S (short_c X hXb _ w (foots_lt S) (S.mem.fact (MemF X))) ?_;clear S;rintro _ a w ⟨u,rfl,hu,hfu,hstu⟩ S
 replace S:=S.add (Φ:=MemF u) hstu
 have hMu:MemFit u:=⟨hfu⟩
 refine de S ?_;refine dl (sc S ?_);clear S;intro a w S
 rw[show sameB x.m u.m=true from by rw[hx,hu];exact sameB_rfl _]at S
 refine de S ?_;refine dq S ?_;clear S;intro a S;refine dn (xtn ?_)
 refine kC S (fun h20=>?_) (fun h20=>?_)
 refine kS (kR (sq S ?_));clear S;intro a S;refine kN (xtn (kT (xbr (xtr (xtr (xbr (xtr ?_)))))))
 exfalso
 simp at h20
 refine kK (xbn (xtn (kR ?_)));(iterate 2 (refine sq S ?_;clear S;intro a S));refine kN (xtn ?_)
 rw[w64 ((k:Int)+1) (by omega) (by omega)]at S
 exact ⟨k+1,S.uu,hkl,S.sub _ _,by omega⟩
 refine kE (xte (xte (xbe (xtn (kS (kR (sq S ?_)))))));clear S;intro a S;refine kN (xtn (kT ?_))
 exact end1 S (fun _=>rfl)
open Go.ChangeShapes Go.WideShapes Go.ChangeAt Go.RowKit
instance troStrM:Tro Tryz.prog 9 (List UInt8):=troS Tryz.underlying9 (by kernel_rfl)
instance troMarkM:Tro Tryz.prog 177 LMark:=⟨fun enc w base spare held fuel cs x h=>by
 obtain ⟨hlen,hf⟩:=trod_flds Tryz.underlying177 h
 rw[show Tryz.prog.cellsOf 177=2 from by kernel_rfl]at hlen
 obtain ⟨n0,y0,g0⟩:=hf 0 9 0 rfl
 obtain ⟨n1,y1,g1⟩:=hf 1 3 1 rfl
 obtain ⟨u0,e0,i0⟩:=trod_fld (α:=List UInt8) g0 rfl
 obtain ⟨u1,e1,i1⟩:=trod_fld (α:=Int) g1 rfl
 refine ⟨⟨u0,u1⟩,?_,trivial⟩
 match cs,hlen with
 | [c0,c1],_=>
  have q0:[c0]=[str u0]:=e0
  have q1:[c1]=[.int .i64 u1]:=e1
  simp only[List.cons.injEq,and_true]at q0 q1
  rw[q0,q1];rfl,by kernel_rfl⟩
instance troSeedM:Tro Tryz.prog 175 LMark:=⟨fun enc w base spare held fuel cs x h=>by
 obtain ⟨hlen,hf⟩:=trod_flds Tryz.underlying175 h
 rw[show Tryz.prog.cellsOf 175=2 from by kernel_rfl]at hlen
 obtain ⟨n0,y0,g0⟩:=hf 0 9 0 rfl
 obtain ⟨n1,y1,g1⟩:=hf 1 3 1 rfl
 obtain ⟨u0,e0,i0⟩:=trod_fld (α:=List UInt8) g0 rfl
 obtain ⟨u1,e1,i1⟩:=trod_fld (α:=Int) g1 rfl
 refine ⟨⟨u0,u1⟩,?_,trivial⟩
 match cs,hlen with
 | [c0,c1],_=>
  have q0:[c0]=[str u0]:=e0
  have q1:[c1]=[.int .i64 u1]:=e1
  simp only[List.cons.injEq,and_true]at q0 q1
  rw[q0,q1];rfl,by kernel_rfl⟩
instance troSeenM:Tro Tryz.prog 179 LSeen:=⟨fun enc w base spare held fuel cs x h=>by
 obtain ⟨hlen,hf⟩:=trod_flds Tryz.underlying179 h
 rw[show Tryz.prog.cellsOf 179=7 from by kernel_rfl]at hlen
 obtain ⟨n0,y0,g0⟩:=hf 0 3 0 rfl
 obtain ⟨n1,y1,g1⟩:=hf 1 3 1 rfl
 obtain ⟨n2,y2,g2⟩:=hf 2 43 2 rfl
 obtain ⟨u,e0,i0⟩:=trod_fld (α:=Int) g0 rfl
 obtain ⟨k,e1,i1⟩:=trod_fld (α:=Int) g1 rfl
 obtain ⟨t,e2,i2⟩:=trod_fld (α:=LTerm) g2 rfl
 refine ⟨⟨u,k,t⟩,?_,i2⟩
 match cs,hlen with
 | [c0,c1,d1,d2,d3,d4,d5],_=>
  have q0:[c0]=[.int .i64 u]:=e0
  have q1:[c1]=[.int .i64 k]:=e1
  have q2:[d1,d2,d3,d4,d5]=t.cells:=e2
  simp only[List.cons.injEq,and_true]at q0 q1
  show [c0]++[c1]++[d1,d2,d3,d4,d5]=[.int .i64 u]++[.int .i64 k]++t.cells
  rw[q0,q1,q2],by kernel_rfl⟩
instance troMarksM:Tro Tryz.prog 64 (Sl LMark):=troSl Tryz.underlying64 (by kernel_rfl)
instance troSeedsM:Tro Tryz.prog 63 (Sl LMark):=troSl Tryz.underlying63 (by kernel_rfl)
instance troSeensM:Tro Tryz.prog 65 (Sl LSeen):=troSl Tryz.underlying65 (by kernel_rfl)
instance troMem:Tro Tryz.prog 67 LMem:=⟨fun enc w base spare held fuel cs x h=>by
 obtain ⟨hlen,hf⟩:=trod_flds Tryz.underlying67 h
 rw[show Tryz.prog.cellsOf 67=7 from by kernel_rfl]at hlen
 obtain ⟨n0,y0,g0⟩:=hf 0 3 0 rfl
 obtain ⟨n1,y1,g1⟩:=hf 1 3 1 rfl
 obtain ⟨n2,y2,g2⟩:=hf 2 3 2 rfl
 obtain ⟨n3,y3,g3⟩:=hf 3 3 3 rfl
 obtain ⟨n4,y4,g4⟩:=hf 4 63 4 rfl
 obtain ⟨n5,y5,g5⟩:=hf 5 64 5 rfl
 obtain ⟨n6,y6,g6⟩:=hf 6 65 6 rfl
 obtain ⟨u0,e0,i0⟩:=trod_fld (α:=Int) g0 rfl
 obtain ⟨u1,e1,i1⟩:=trod_fld (α:=Int) g1 rfl
 obtain ⟨u2,e2,i2⟩:=trod_fld (α:=Int) g2 rfl
 obtain ⟨u3,e3,i3⟩:=trod_fld (α:=Int) g3 rfl
 obtain ⟨u4,e4,i4⟩:=trod_fld (α:=Sl LMark) g4 rfl
 obtain ⟨u5,e5,i5⟩:=trod_fld (α:=Sl LMark) g5 rfl
 obtain ⟨u6,e6,i6⟩:=trod_fld (α:=Sl LSeen) g6 rfl
 refine ⟨⟨u0,u1,u2,u3,u4.p,u4.cap,u4.xs,u5.p,u5.cap,u5.xs,u6.p,u6.cap,u6.xs⟩,?_,i4,i5,i6⟩
 match cs,hlen with
 | [c0,c1,c2,c3,c4,c5,c6],_=>
  have q0:[c0]=[.int .i64 u0]:=e0
  have q1:[c1]=[.int .i64 u1]:=e1
  have q2:[c2]=[.int .i64 u2]:=e2
  have q3:[c3]=[.int .i64 u3]:=e3
  have q4:[c4]=[u4.v]:=e4
  have q5:[c5]=[u5.v]:=e5
  have q6:[c6]=[u6.v]:=e6
  simp only[List.cons.injEq,and_true]at q0 q1 q2 q3 q4 q5 q6
  rw[q0,q1,q2,q3,q4,q5,q6];rfl,by kernel_rfl⟩
end Go.Proofs.YtdakncgafdnjfaaGreat