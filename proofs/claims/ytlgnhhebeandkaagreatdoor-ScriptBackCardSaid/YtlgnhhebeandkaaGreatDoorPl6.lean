/- 6: a part of this claim's texts, joined: ScrN ScrO ScrP ScrQ ScrR ScrS ScrT ScrU ScrV TroScr. -/
import Derived.Test.YtlgnhhebeandkaaGreatDoorPl5
namespace Go.Proofs.YtlgnhhebeandkaaGreatDoor
open Go Go.Wk
set_option synthInstance.maxSize 100000
set_option synthInstance.maxHeartbeats 400000
set_option maxRecDepth 100000
theorem indexS_c (x:List UInt8)(xs:List (List UInt8))(p:Option Addr)(n c:Nat)(w0:World)(hn:xs.length=n)(hl:n≤9223372036854775807)(hx:Fx w0 (GlF p xs)) :
  Ret Tryz.prog 146 [.slice p n c,str x] w0 (fun _=>False) fun v _=>v=.int .i64 (idxG (fun y=>decide (x=y)) xs 0):=by
 subst hn;refine E1 Tryz.func146 rfl Tryz.ntmps146 (Wd.begin (fs:=[GlF p xs]) (by simpa using hx)) ?_;intro a S;refine J14 ?_;intro a S;refine c_forb1 S (fun(k:Nat) uu=>[(4,uu 4),(0,uu 5),(2,.int .i64 (k:Nat)),(0,uu 9),(0,uu 10),(0,uu 11),(0,uu 12),(0,uu 13),(0,uu 14),(0,uu 15),(0,uu 16),(0,uu 17),(0,uu 18)]) (fun(k:Nat)=>k≤xs.length∧idxG (fun y=>decide (x=y)) (xs.drop k) k=idxG (fun y=>decide (x=y)) xs 0) (fun(k:Nat)=>xs.length - k) (0) ?_ S.uu ?_ ?_;exact ⟨Nat.zero_le _,rfl⟩
 first | exact S | exact S.sub _ _
 clear S;rintro k uu a w ⟨hk,hrel⟩ S;refine J6 ?_;intro a S;refine kC S (fun h2=>?_) (fun h2=>?_);refine J11 ?_;intro a S;have hkl:k < xs.length:=by simp at h2;omega
 have hK:KLt k xs.length:=⟨hkl⟩;rw[nthG_drop hkl,idxG]at hrel;refine J9 ?_;intro a S;refine kC S (fun h4=>?_) (fun h4=>?_);refine J12 ?_;intro a S;rw[if_pos h4]at hrel;refine end1 S (fun _=>?_);rw[hrel];refine J8 ?_;intro a S;rw[if_neg (by simpa using h4)]at hrel;rw[w6 ((k:Int)+1)]at S;exact ⟨k+1,S.uu,⟨hkl,by rw[←hrel];rfl⟩,S.sub _ _,by omega⟩;refine J11 ?_;intro a S;rw[List.drop_of_length_le (by simp at h2;omega)]at hrel;refine end1 S (fun _=>?_);rw[←hrel];rfl
instance opMax2 {l:Cx}{bs:List Wk.Item}{fs:List (World→Prop)}{x y:Operand}{k:IntKind}{m n:Int}{ty t t':TypeId}[Ev l x (.int k m)][Ev l y (.int k n)]:OpQ Tryz.prog (.call { callee:=.builtin .max,args:=#[x,y],argTypes:=#[t,t'] }) ty l bs fs (.int k (max m n)):=⟨fun ρ w h _=>by
 have e2:∀ (a b:Int) (w:World),(Builtin.max2 (.int k a) (.int k b)).run Tryz.prog w=.ok (.int k (max a b)) w:=fun a b w=>by
  simp[Builtin.max2];split <;> omega
 simp[xop,execOp,resolve,invoke,builtin,Builtin.max_,e2,h.ev (x:=x) (v:=.int k m),h.ev (x:=y) (v:=.int k n)]⟩
theorem off_lt {k:Int}{o:Nat}(h:o∈offE k):o < (zCE k).length:=by
 show o < 23
 unfold offE at h
 repeat' split at h
 all_goals simp only[List.mem_cons,List.not_mem_nil,or_false]at h
 all_goals omega
theorem off_len (k:Int):(offE k).length≤1000:=by have:=offE_len k;omega
theorem zSb_in (w:World):Lay.inn w zSb:=⟨Nat.le_refl _,Nat.zero_le _,gl_nil⟩
def EventR (Mr:Nat→Prop)(r:Nat)(wd rest:List UInt8)(bad:Bool)(v:Value)(w:World):Prop:=∃ (y:LEv) (r2:List UInt8) (bd:Bool),v=vEv y∧Stable (fun k=>k=r∨Mr k) w (InF y)∧FitE y∧(rI r r2 bd).holds w∧r2.length≤rest.length∧PR bad bd (evP wd rest) y.e r2
theorem wrong_pr {bad bd:Bool}{k:Int}{wd rest r2:List UInt8}{y:PEv}(hk:k=kindW wd)(h:PR bad bd (evBody k rest) y r2){b2:Bool}(hb:b2=(bd||wrongV y)):PR bad b2 (evP wd rest) y r2:=by
 obtain ⟨e1,x1⟩:=h;subst hb;unfold evP;rw[←hk];cases hbd:bd with
 | false=>
  rw[x1 hbd];have hbad:bad=false:=by
   cases q:bad with
   | false=>rfl
   | true=>rw[q,hbd,Bool.true_or]at e1;cases e1
  rw[hbad];cases hw:wrongV y with
  | false=>exact ⟨by simp[hw],fun _=>by simp[hw]⟩
  | true=>exact ⟨by simp[hw],by simp⟩
 | true=>
  refine ⟨?_,fun h=>by rw[Bool.true_or]at h;cases h⟩;rw[hbd]at e1;cases q:bad with
  | true=>rfl
  | false=>
   rw[q,Bool.false_or]at e1;have:evBody k rest=none:=Option.isNone_iff_eq_none.1 e1.symm;rw[this];rfl
set_option maxHeartbeats 2000000 in
theorem event_c (r:Nat)(wd rest:List UInt8)(bad:Bool)(Mr:Nat→Prop)(hl:rest.length≤500000)(w0:World)(hMr:∀ k,Mr k→k < w0.heap.size∧¬(rI r rest bad).foot k)(hb:(rI r rest bad).holds w0)(ht:Stable (fun k=>(rI r rest bad).foot k∨Mr k) w0 LibF):Ret Tryz.prog 102 [pB r,str wd] w0 (rI r rest bad).foot fun v w'=>EventR Mr r wd rest bad v w':=by
 refine E1 Tryz.func102 rfl Tryz.ntmps102 ((Wd.itLentM (x:=rI r rest bad) (Mr:=Mr) (fs:=[LibF]) hb hMr (by simp;exact ht))) ?_;intro a S;refine kS (kR ?_);refine sa S ?_;clear S;intro b4 a w S;refine kN (xtn (kS (kR ?_)));refine sr S (words_c _ w (foots_lt S)) ?_;clear S;rintro _ a w ⟨pw,cw,rfl,hfw⟩ S;replace S:=S.add hfw;refine J1 ?_;clear S;intro a S;refine sr S (indexS_c wd wordsE pw wordsE.length cw w rfl (by decide) (S.gl0 pw)) ?_;clear S;rintro _ a w rfl S;refine Y8 ?_;clear S;intro a w S;rw[kind_idx]at S;obtain ⟨k,hk⟩:∃ k,k=kindW wd:=⟨_,rfl⟩;have hkr:=kind_rng wd;rw[←hk]at S hkr;refine sr S (evf_c b4 (zCE k) k ⟨_,rfl⟩ _ w (foots_lt S) (BoxF.stable (S.boxF b4) (fun h=>h))) ?_;clear S;rintro _ a w ⟨p4,c4,rfl,hf4⟩ S;replace S:=S.add hf4;replace S:=((S.front (Wk.box b4 47 (zCE k))).front (rI r rest bad)).toBoth;refine sit (rbI r rest bad b4 47 (zCE k)) S (numbers_c r rest bad b4 47 (zCE k) (offE k) p4 c4 (fun o ho=>off_lt ho) (off_len k) (by omega) _ (S.it (rbI r rest bad b4 47 (zCE k))) (S.lend (rbI r rest bad b4 47 (zCE k)) (S.mem.fact LibF)) (S.lend (rbI r rest bad b4 47 (zCE k)) (S.mem.fact (GlF p4 (offs b4 k))))) rfl ?_;clear S;rintro _ a w ⟨ns,r2,hnl,hnr,hh,hl2,hx⟩ hS;have S:=hS (rbI r r2 (bad||(numsP (offE k).length rest).isNone) b4 47 (setAt (offE k) ns (zCE k))) hh (fun k h=>.inl h);clear hS hh;obtain ⟨a1,a2,a4,a5,a19,a20,a21,hcs,hnb,n1,n2,n4,n5,n19,n20,n21⟩:=setAt_numb hnl hnr;rw[hcs]at S;replace S:=S.ofBoth;have hp1:PR bad (bad||(numsP (offE k).length rest).isNone) (numsP (offE k).length rest) ns r2:=PR.of fun _=>hx
 obtain ⟨bd1,hb1⟩:∃ b,b=(bad||(numsP (offE k).length rest).isNone):=⟨_,rfl⟩;rw[←hb1]at S hp1;have hkn:N64 k:=⟨by omega,by omega⟩;have hrng:N64 k∧N64 a1∧N64 a2∧N64 a4∧N64 a5∧N64 a19∧N64 a20∧N64 a21:=⟨hkn,n1,n2,n4,n5,n19,n20,n21⟩;refine kN (xtn ?_);refine c_mrge4 S (fun(y:LEv) (cs:List Value) (r3:List UInt8) (bd:Bool) uu=>[(5,uu 5),(0,uu 6),(0,uu 7),(1,uu 9),(8,uu 18),(0,uu 19),(0,uu 20),(0,uu 21),(0,uu 22),(0,uu 23),(0,uu 24),(0,uu 25),(0,uu 26),(0,uu 27),(0,uu 28),(0,uu 29),(0,uu 30),(0,uu 31),(0,uu 32),(0,uu 33),(0,uu 34),(0,uu 35),(0,uu 36),(0,uu 37),(0,uu 38),(0,uu 39),(0,uu 40),(0,uu 41),(0,uu 42),(0,uu 43),(0,uu 44),(0,uu 45),(0,uu 46),(0,uu 47),(0,uu 48),(0,uu 49),(0,uu 50),(0,uu 51),(0,uu 52),(0,uu 53),(0,uu 54),(0,uu 55),(0,uu 56),(0,uu 57),(0,uu 58),(0,uu 59),(0,uu 60),(0,uu 61),(0,uu 62),(0,uu 63),(0,uu 64),(0,uu 65),(0,uu 66),(0,uu 67),(0,uu 68),(0,uu 69),(0,uu 70),(0,uu 71),(0,uu 72),(0,uu 73),(0,uu 74),(0,uu 75),(0,uu 76),(0,uu 77),(0,uu 78),(0,uu 79),(0,uu 80),(0,uu 81),(0,uu 82),(0,uu 83),(0,uu 84),(0,uu 85),(0,uu 86),(0,uu 87),(0,uu 88),(0,uu 89),(0,uu 90),(0,uu 91),(0,uu 92),(0,uu 93),(0,uu 94),(0,uu 95),(0,uu 96),(0,uu 97),(0,uu 98),(0,uu 99),(0,uu 100),(0,uu 101),(0,uu 102),(0,uu 103),(0,uu 104),(0,uu 105),(0,uu 106),(0,uu 107),(0,uu 108),(0,uu 109)]) (fun(y:LEv) (cs:List Value) (r3:List UInt8) (bd:Bool)=>[rI r r3 bd,Wk.box b4 47 cs,ext Mr]) (fun(y:LEv) (cs:List Value) (r3:List UInt8) (bd:Bool)=>[InF y]) (fun(y:LEv) (cs:List Value) (r3:List UInt8) (bd:Bool)=>cs=cEv y∧FitE y∧r3.length≤rest.length∧PR bad bd (evBody k rest) y.e r3) ?_ ?_
 refine J13 ?_;clear S;intro a S;refine kC S (fun h4=>?_) (fun h4=>?_);refine kS ?_;have hk1:k=1:=of_decide_eq_true h4;have hte:∀ (ns:List Int) (l:List UInt8),evTail k ns l=bnd (numberP l) fun w l=>bnd (if w=0∨w=1 then some (w,l) else none) fun w l=>bnd (nameP l) fun s l=>bnd (termP l) fun t l=>some ({ numbE k ns with ow:=decide (w=1),oname:=s,body:=t },l):=fun ns l=>by rw[evTail,if_pos hk1]
 refine J2 ?_;clear S;intro a S;refine sit (rI r r2 bd1) S (number_c r r2 bd1 (by omega) _ (S.it (rI r r2 bd1)) (S.lend (rI r r2 bd1) (S.mem.fact LibF))) rfl ?_;clear S;rintro _ a w ⟨n,r3,rfl,hn,hh,hl3,hy⟩ hS;have S:=hS (rI r r3 (bd1||(numberP r2).isNone)) hh (fun k h=>.inl h);clear hS hh;have hp2:PR bd1 (bd1||(numberP r2).isNone) (numberP r2) n r3:=PR.of fun _=>hy
 obtain ⟨bd2,hb2⟩:∃ b,b=(bd1||(numberP r2).isNone):=⟨_,rfl⟩;rw[←hb2]at S hp2;refine J20 ?_;clear S;intro a S;refine Y15 ?_;clear S;intro a w S;have hp3:PR bd2 (bd2||decide (n < 0)||decide (n > 1)) (if n=0∨n=1 then some (n,r3) else none) n r3:=by
  by_cases hn01:n=0∨n=1
  rw[if_pos hn01,decide_eq_false (by omega),decide_eq_false (by omega)];exact ⟨by simp,fun _=>rfl⟩;rw[if_neg hn01];have:decide (n < 0)||decide (n > 1):=by simp only[Bool.or_eq_true,decide_eq_true_eq];omega
  rw[Bool.or_assoc,this];exact ⟨by simp,by simp⟩
 obtain ⟨bd3,hb3⟩:∃ b,b=(bd2||decide (n < 0)||decide (n > 1)):=⟨_,rfl⟩;rw[←hb3]at S hp3;refine sit (rI r r3 bd3) S (rname_c0 r r3 bd3 (by omega) _ (S.it (rI r r3 bd3))) rfl ?_;clear S;rintro _ a w ⟨nm,r4,rfl,hh,hl4,hy4⟩ hS;have S:=hS (rI r r4 (bd3||(nameP r3).isNone)) hh (fun k h=>.inl h);clear hS hh;have hp4:PR bd3 (bd3||(nameP r3).isNone) (nameP r3) nm r4:=PR.of fun _=>hy4
 obtain ⟨bd4,hb4⟩:∃ b,b=(bd3||(nameP r3).isNone):=⟨_,rfl⟩;rw[←hb4]at S hp4;refine Y7 ?_;clear S;intro a w S;refine sitM (rI r r4 bd4) S (rterm_c r r4 bd4 (restOf _ (rI r r4 bd4)) (by omega) _ (S.restOk _) (S.it (rI r r4 bd4))) rfl ?_;clear S;rintro _ a w ⟨z,r5,rfl,hzf,hh,hl5,hy5⟩ hS;have S:=hS (rI r r5 (bd4||(termP r4).isNone)) [LtF z] hh (fun k h=>.inl h) (by intro Φ hΦ;obtain rfl:=List.mem_singleton.1 hΦ;exact hzf);clear hS hh;have hp5:PR bd4 (bd4||(termP r4).isNone) (termP r4) z.t r5:=PR.of hy5;obtain ⟨bd5,hb5⟩:∃ b,b=(bd4||(termP r4).isNone):=⟨_,rfl⟩;rw[←hb5]at S hp5;refine Y6 ?_;clear S;intro a w S;replace S:=S.add (Φ:=InF (⟨k,a1,a2,nm,a4,a5,decide (n=1),z,[],[],zeroL,a19,a20,a21,zSb⟩:LEv)) ((S.t z).imp fun w h=>⟨h,zeroL_in w,zSb_in w,hrng⟩);refine ⟨⟨k,a1,a2,nm,a4,a5,decide (n=1),z,[],[],zeroL,a19,a20,a21,zSb⟩,[.int .i64 k,.int .i64 a1,.int .i64 a2,str nm,.int .i64 a4,.int .i64 a5,.bool (decide (n=1)),.int .i64 z.kind,.int .i64 z.user,.int .i64 z.num,str z.text,.slice z.p z.kids.length z.cap,.string ⟨#[]⟩,.string ⟨#[]⟩,.int .i64 0,.int .i64 0,.int .i64 0,.string ⟨#[]⟩,.slice none 0 0,.int .i64 a19,.int .i64 a20,.int .i64 a21,.slice none 0 0],r5,bd5,S.uu,⟨rfl,⟨Nat.zero_le _⟩,by omega,?_⟩,S.sub _ _⟩;rw[evBody_nums];refine hp1.bnd ?_;rw[hte];refine hp2.bnd (hp3.bnd (hp4.bnd (hp5.bnd ?_)));rw[hnb];simp only[LEv.e,zeroLT];exact PR.ret _ _ _;refine J6 ?_;clear S;intro a S;refine kC S (fun h10=>?_) (fun h10=>?_);refine kS ?_;have hk2:k=2:=of_decide_eq_true h10;have hte:∀ (ns:List Int) (l:List UInt8),evTail k ns l=bnd (nameP l) fun s l=>bnd (termP l) fun t l=>some ({ numbE k ns with name:=s,term:=t },l):=fun ns l=>by rw[evTail,if_neg (by omega),if_pos hk2]
 refine J2 ?_;clear S;intro a S;refine sit (rI r r2 bd1) S (rname_c0 r r2 bd1 (by omega) _ (S.it (rI r r2 bd1))) rfl ?_;clear S;rintro _ a w ⟨nm,r3,rfl,hh,hlr3,hy3⟩ hS;have S:=hS (rI r r3 (bd1||(nameP r2).isNone)) hh (fun k h=>.inl h);clear hS hh;have hp2:PR bd1 (bd1||(nameP r2).isNone) (nameP r2) nm r3:=PR.of fun _=>hy3
 obtain ⟨bd2,hbd2⟩:∃ b,b=(bd1||(nameP r2).isNone):=⟨_,rfl⟩;rw[←hbd2]at S hp2;refine Y6 ?_;clear S;intro a w S;refine sitM (rI r r3 bd2) S (rterm_c r r3 bd2 (restOf _ (rI r r3 bd2)) (by omega) _ (S.restOk _) (S.it (rI r r3 bd2))) rfl ?_;clear S;rintro _ a w ⟨z,r4,rfl,hzf,hh,hlr4,hyz⟩ hS;have S:=hS (rI r r4 (bd2||(termP r3).isNone)) [LtF z] hh (fun k h=>.inl h) (by intro Φ hΦ;obtain rfl:=List.mem_singleton.1 hΦ;exact hzf);clear hS hh;have hp3:PR bd2 (bd2||(termP r3).isNone) (termP r3) z.t r4:=PR.of hyz;obtain ⟨bd3,hbd3⟩:∃ b,b=(bd2||(termP r3).isNone):=⟨_,rfl⟩;rw[←hbd3]at S hp3;refine Y5 ?_;clear S;intro a w S;replace S:=S.add (Φ:=InF (⟨k,a1,a2,[],a4,a5,false,zeroL,nm,[],z,a19,a20,a21,zSb⟩:LEv)) ((S.t z).imp fun w h=>⟨zeroL_in w,h,zSb_in w,hrng⟩);refine ⟨⟨k,a1,a2,[],a4,a5,false,zeroL,nm,[],z,a19,a20,a21,zSb⟩,[.int .i64 k,.int .i64 a1,.int .i64 a2,.string ⟨#[]⟩,.int .i64 a4,.int .i64 a5,.bool false,.int .i64 0,.int .i64 0,.int .i64 0,.string ⟨#[]⟩,.slice none 0 0,str nm,.string ⟨#[]⟩,.int .i64 z.kind,.int .i64 z.user,.int .i64 z.num,str z.text,.slice z.p z.kids.length z.cap,.int .i64 a19,.int .i64 a20,.int .i64 a21,.slice none 0 0],r4,bd3,S.uu,⟨rfl,⟨Nat.zero_le _⟩,by omega,?_⟩,S.sub _ _⟩;rw[evBody_nums];refine hp1.bnd ?_;rw[hte];refine hp2.bnd (hp3.bnd ?_);rw[hnb];simp only[LEv.e,zeroLT];exact PR.ret _ _ _;refine J6 ?_;clear S;intro a S;refine kC S (fun h13=>?_) (fun h13=>?_);refine kS ?_;have hk3:k=3:=of_decide_eq_true h13;have hte:∀ (ns:List Int) (l:List UInt8),evTail k ns l=bnd (nameP l) fun s l=>bnd (nameP l) fun t l=>some ({ numbE k ns with name:=s,src:=t },l):=fun ns l=>by rw[evTail,if_neg (by omega),if_neg (by omega),if_pos hk3]
 refine J2 ?_;clear S;intro a S;refine sit (rI r r2 bd1) S (rname_c0 r r2 bd1 (by omega) _ (S.it (rI r r2 bd1))) rfl ?_;clear S;rintro _ a w ⟨nm,r3,rfl,hh,hlr3,hy3⟩ hS;have S:=hS (rI r r3 (bd1||(nameP r2).isNone)) hh (fun k h=>.inl h);clear hS hh;have hp2:PR bd1 (bd1||(nameP r2).isNone) (nameP r2) nm r3:=PR.of fun _=>hy3
 obtain ⟨bd2,hbd2⟩:∃ b,b=(bd1||(nameP r2).isNone):=⟨_,rfl⟩;rw[←hbd2]at S hp2;refine Y6 ?_;clear S;intro a w S;refine sit (rI r r3 bd2) S (rname_c0 r r3 bd2 (by omega) _ (S.it (rI r r3 bd2))) rfl ?_;clear S;rintro _ a w ⟨sr,r4,rfl,hh,hlr4,hy4⟩ hS;have S:=hS (rI r r4 (bd2||(nameP r3).isNone)) hh (fun k h=>.inl h);clear hS hh;have hp3:PR bd2 (bd2||(nameP r3).isNone) (nameP r3) sr r4:=PR.of fun _=>hy4
 obtain ⟨bd3,hbd3⟩:∃ b,b=(bd2||(nameP r3).isNone):=⟨_,rfl⟩;rw[←hbd3]at S hp3;refine Y5 ?_;clear S;intro a w S;replace S:=S.add (Φ:=InF (⟨k,a1,a2,[],a4,a5,false,zeroL,nm,sr,zeroL,a19,a20,a21,zSb⟩:LEv)) (fun w _=>⟨zeroL_in w,zeroL_in w,zSb_in w,hrng⟩);refine ⟨⟨k,a1,a2,[],a4,a5,false,zeroL,nm,sr,zeroL,a19,a20,a21,zSb⟩,[.int .i64 k,.int .i64 a1,.int .i64 a2,.string ⟨#[]⟩,.int .i64 a4,.int .i64 a5,.bool false,.int .i64 0,.int .i64 0,.int .i64 0,.string ⟨#[]⟩,.slice none 0 0,str nm,str sr,.int .i64 0,.int .i64 0,.int .i64 0,.string ⟨#[]⟩,.slice none 0 0,.int .i64 a19,.int .i64 a20,.int .i64 a21,.slice none 0 0],r4,bd3,S.uu,⟨rfl,⟨Nat.zero_le _⟩,by omega,?_⟩,S.sub _ _⟩;rw[evBody_nums];refine hp1.bnd ?_;rw[hte];refine hp2.bnd (hp3.bnd ?_);rw[hnb];simp only[LEv.e,zeroLT];exact PR.ret _ _ _;refine J6 ?_;clear S;intro a S;refine kC S (fun h16=>?_) (fun h16=>?_);refine J3 ?_;clear S;intro a S;have hk6:k=6:=of_decide_eq_true h16;have hte:∀ (ns:List Int) (l:List UInt8),evTail k ns l=bnd (bitsP l) fun b l=>some ({ numbE k ns with keep:=b },l):=fun ns l=>by rw[evTail,if_neg (by omega),if_neg (by omega),if_neg (by omega),if_pos hk6]
 refine sit (rI r r2 bd1) S (blank_c r r2 bd1 (by omega) _ (S.it (rI r r2 bd1))) rfl ?_;clear S;rintro _ a w ⟨s,r3,rfl,hh,hl3,hls,hy3⟩ hS;have S:=hS (rI r r3 (bd1||(blankP r2).isNone)) hh (fun k h=>.inl h);clear hS hh;refine sr S (cutprefix_c s 61 (by omega) _) ?_;clear S;rintro _ a w rfl S;obtain ⟨t,ht⟩:∃ t,t=(if preB 61 s=true then s.drop 1 else s):=⟨_,rfl⟩;have hp2:=bits_end (bad:=bd1) hy3 ht;rw[←ht]at S;have htl:t.length≤s.length:=by rw[ht];split <;> simp
 obtain ⟨bd2,hb2⟩:∃ b,b=(bd1||(blankP r2).isNone):=⟨_,rfl⟩;obtain ⟨ok0,hok0⟩:∃ b,b=preB 61 s:=⟨_,rfl⟩;rw[←hb2,←hok0]at S hp2;refine J11 ?_;clear S;intro a S;refine scvb S ?_;clear S;intro b18 c18 a w S;obtain ⟨q18,hq18⟩:∃ q18:Option Addr,q18=some ⟨b18,0,none⟩:=⟨_,rfl⟩;rw[←hq18]at S;refine J5 ?_;clear S;intro a S;refine c_fore5 S (fun(j:Nat) (kl:List Bool) (q:Option Addr) (e:Nat) (ok:Bool) uu=>[(7,.bool ok),(1,uu 9),(68,.int .i64 (j:Nat)),(0,uu 79),(0,uu 80),(0,uu 81),(0,uu 82),(0,uu 83),(0,uu 84),(0,uu 85),(0,uu 86),(0,uu 87),(0,uu 88),(0,uu 89),(0,uu 90),(0,uu 91),(0,uu 92),(0,uu 93),(0,uu 94),(0,uu 95),(0,uu 96),(0,uu 97),(0,uu 98)]) (fun(j:Nat) (kl:List Bool) (q:Option Addr) (e:Nat) (ok:Bool)=>[Wk.row 4 1 q kl.length e (encL kl),rI r r3 bd2,Wk.box b4 47 [.int .i64 k,.int .i64 a1,.int .i64 a2,.string ⟨#[]⟩,.int .i64 a4,.int .i64 a5,.bool false,.int .i64 0,.int .i64 0,.int .i64 0,.string ⟨#[]⟩,.slice none 0 0,.string ⟨#[]⟩,.string ⟨#[]⟩,.int .i64 0,.int .i64 0,.int .i64 0,.string ⟨#[]⟩,.slice none 0 0,.int .i64 a19,.int .i64 a20,.int .i64 a21,.slice q kl.length e],ext Mr]) (fun(j:Nat) (kl:List Bool) (q:Option Addr) (e:Nat) (ok:Bool)=>[GlF q18 t]) (fun(j:Nat) (kl:List Bool) (q:Option Addr) (e:Nat) (ok:Bool)=>j≤t.length∧kl=(t.take j).map (fun c=>decide (c=49))∧ok=(ok0&&(t.take j).all isBit)) (fun(j:Nat) (kl:List Bool) (q:Option Addr) (e:Nat) (ok:Bool)=>t.length - j) (0) ([]) (none) (0) (ok0) ?_ S.uu ?_ ?_;exact ⟨Nat.zero_le _,rfl,by simp⟩;replace S:=S.addNil 4 1;rw[show Wk.row 4 1 none 0 0 []=Wk.row 4 1 none 0 0 (encL ([]:List Bool)) from rfl]at S
 exact S.sub _ _;clear S;rintro j kl q e ok uu a w ⟨hj,hkl,hok⟩ S;refine J6 ?_;clear S;intro a S;refine kC S (fun h19=>?_) (fun h19=>?_);refine kK (xtn (kS (kB (kS ?_))));have hjl:j < t.length:=by simp at h19;omega
 have hK:KLt j t.length:=⟨hjl⟩;have hkll:kl.length=j:=by rw[hkl,List.length_map,List.length_take];omega
 have htk:t.take (j+1)=t.take j++[nthG t j]:=by rw[List.take_add_one,nthG_get hjl];rfl
 refine J20 ?_;clear S;intro a S;refine J5 ?_;clear S;intro a S;refine sn S ?_;clear S;intro b95 a w S;refine sap S (by simp[maxLen];omega) (by omega) ?_;clear S;rintro q2 e2 a w - S;rw[show decide (((nthG t j).toNat:Int)=49)=decide (nthG t j=49) from decide_eq_decide.2 (u8_eq (d:=49)),show ∀ b:Bool,encL kl++[Value.bool b]=encL (kl++[b]) from fun b=>by rw[encL_append];rfl,show kl.length+1=(kl++[decide (nthG t j=49)]).length from by simp]at S;refine Y10 ?_;clear S;intro a w S;rw[w6 ((j:Int)+1)]at S;refine ⟨j+1,kl++[decide (nthG t j=49)],q2,e2,_,S.uu,⟨hjl,by rw[htk,List.map_append,←hkl];rfl,?_⟩,S.sub _ _,by omega⟩;rw[htk,List.all_append,hok];rw[show decide (((nthG t j).toNat:Int)=48)=decide (nthG t j=48) from decide_eq_decide.2 (u8_eq (d:=48))];simp[isBit,Bool.and_assoc];refine kE (xte (xte (xbe (xtn ?_))));have hjl:j=t.length:=by simp at h19;omega
 have hpl:=own_le (S.row q kl.length);have hpm:=own_capT (S.row q kl.length);rw[hjl,List.take_length]at hkl hok;have hkll:kl.length≤1000000:=by rw[hkl,List.length_map];omega
 replace S:=(S.front (Wk.row 4 1 q kl.length e (encL kl))).rowToGl q kl (e:=4) (sz:=1) (n:=kl.length) (c:=e) (fun _ _ _ _=>trivial);refine Y16 ?_;clear S;intro a w S;replace S:=S.add (Φ:=InF (⟨k,a1,a2,[],a4,a5,false,zeroL,[],[],zeroL,a19,a20,a21,⟨q,e,kl⟩⟩:LEv)) (fun w' hw'=>⟨zeroL_in w',zeroL_in w',⟨hpl,hpm,S.wd.facts (GlF q kl) (by simp) w' hw'⟩,hrng⟩);refine ⟨⟨k,a1,a2,[],a4,a5,false,zeroL,[],[],zeroL,a19,a20,a21,⟨q,e,kl⟩⟩,[.int .i64 k,.int .i64 a1,.int .i64 a2,.string ⟨#[]⟩,.int .i64 a4,.int .i64 a5,.bool false,.int .i64 0,.int .i64 0,.int .i64 0,.string ⟨#[]⟩,.slice none 0 0,.string ⟨#[]⟩,.string ⟨#[]⟩,.int .i64 0,.int .i64 0,.int .i64 0,.string ⟨#[]⟩,.slice none 0 0,.int .i64 a19,.int .i64 a20,.int .i64 a21,.slice q kl.length e],r3,(bd2||!ok),S.uu,⟨rfl,⟨hkll⟩,by omega,?_⟩,S.sub _ _⟩;rw[evBody_nums];refine hp1.bnd ?_;rw[hte];rw[←hok,←hkl]at hp2;refine hp2.bnd ?_;rw[hnb];simp only[LEv.e,zeroLT];exact PR.ret _ _ _;refine kK (xbn (xtn ?_));replace S:=S.add (Φ:=InF (⟨k,a1,a2,[],a4,a5,false,zeroL,[],[],zeroL,a19,a20,a21,zSb⟩:LEv)) (fun w _=>⟨zeroL_in w,zeroL_in w,zSb_in w,hrng⟩);refine ⟨⟨k,a1,a2,[],a4,a5,false,zeroL,[],[],zeroL,a19,a20,a21,zSb⟩,[.int .i64 k,.int .i64 a1,.int .i64 a2,.string ⟨#[]⟩,.int .i64 a4,.int .i64 a5,.bool false,.int .i64 0,.int .i64 0,.int .i64 0,.string ⟨#[]⟩,.slice none 0 0,.string ⟨#[]⟩,.string ⟨#[]⟩,.int .i64 0,.int .i64 0,.int .i64 0,.string ⟨#[]⟩,.slice none 0 0,.int .i64 a19,.int .i64 a20,.int .i64 a21,.slice none 0 0],r2,bd1,S.uu,⟨rfl,⟨Nat.zero_le _⟩,by omega,?_⟩,S.sub _ _⟩
 have hk1:k≠1:=of_decide_eq_false h4;have hk2:k≠2:=of_decide_eq_false h10;have hk3:k≠3:=of_decide_eq_false h13;have hk6:k≠6:=of_decide_eq_false h16;rw[evBody_nums];refine hp1.bnd ?_;rw[evTail,if_neg hk1,if_neg hk2,if_neg hk3,if_neg hk6,hnb];simp only[LEv.e,zeroLT];exact PR.ret _ _ _;clear S;rintro y cs r3 bd uu a w ⟨hcy,hfit,hl3,hpr⟩ S;refine kS ?_;subst hcy;refine J8 ?_;clear S;intro a S;refine gcr S (.bool false) (fun _=>wrong_c y hfit w (S.i0 y)) ?_;clear S;rintro vb a w hR1 hR2 S;obtain ⟨bw,rfl,hbw⟩:∃ b,vb=.bool b∧(bd||b)=(bd||wrongV y.e):=by
  cases bd with
  | true=>exact ⟨false,hR2 rfl,rfl⟩
  | false=>exact ⟨_,hR1 rfl,rfl⟩
 clear hR1 hR2;refine Y13 ?_;clear S;intro a w S;have hh:=S.it (rI r r3 (bd||bw));have hst:Stable (fun k=>k=r∨Mr k) _ (InF y):=(S.wd.facts (InF y) (by simp)).less fun k _ hk=>hk.elim (fun h1=>⟨rI r r3 (bd||bw),by simp,h1⟩) (fun h1=>⟨ext Mr,by simp,h1⟩)
 refine end1 S (fun _=>⟨y,r3,_,rfl,hst,hfit,hh,hl3,wrong_pr hk hpr hbw⟩)
theorem nums_one (l:List UInt8):numsP 1 l=(numberP l).map fun p=>([p.1],p.2):=by
 rw[numsP];simp only;cases numberP l with
 | none=>rfl
 | some q=>rfl
abbrev scI (b:Nat)(area:Int)(q:Option Addr)(e:Nat)(xs:List LEv):Wk.Item:=both (Wk.row 47 23 q xs.length e (encL xs)) (Wk.box b 26 [.int .i64 area,.slice q xs.length e])
def LineR (Mr:Nat→Prop)(w0:World)(b:Nat)(area:Int)(q:Option Addr)(e:Nat)(xs:List LEv)(n:Nat)(l:List UInt8)(v:Value)(w:World):Prop:=∃ (ok:Bool) (a2:Int) (q2:Option Addr) (e2:Nat) (ys:List LEv),v=.bool ok∧(scI b a2 q2 e2 ys).holds w∧(∀ k,(scI b a2 q2 e2 ys).foot k→(scI b area q e xs).foot k∨w0.heap.size≤k)∧Stable (fun k=>(scI b a2 q2 e2 ys).foot k∨Mr k) w (AllI ys)∧
 (∀ y∈ys,FitE y)∧N64 a2∧ys.length≤xs.length+1∧(ok=true↔(stepP n (area,xs.map LEv.e) l).isSome)∧∀ st,stepP n (area,xs.map LEv.e) l=some st→st=(a2,ys.map LEv.e)
theorem head_end {l wd r1 r2:List UInt8}{b0 b1 b2:Bool}{m area:Int}{evs:List PEv}{n:Nat}(hn:n < 1)(h0:PR false b0 (blankP l) wd r1)(h1:PR b0 b1 (numsP 1 r1) [m] r2)(h2:b2=(b1||!decide (wd=wWorld))):((!b2&&decide (r2=[]))=true↔(stepP n (area,evs) l).isSome)∧∀ st,stepP n (area,evs) l=some st→st=(m,evs):=by
 have h3:PR false b1 (bnd (blankP l) fun w r=>bnd (numberP r) fun k r=>some ((w,k),r)) (wd,m) r2:=by
  refine h0.bnd ?_;rw[nums_one]at h1;obtain ⟨e1,x1⟩:=h1;cases hq:numberP r1 with
  | none=>rw[hq]at e1 x1;exact ⟨e1,fun h=>by have:=x1 h;cases this⟩
  | some p=>rw[hq]at e1 x1;exact ⟨e1,fun h=>by have:=x1 h;simp only[Option.map_some,Option.some.injEq,Prod.mk.injEq,List.cons.injEq,and_true]at this;rw[bnd_some,this.1,this.2]⟩
 rw[stepP,if_pos hn];have hh:headP l=bnd (bnd (blankP l) fun w r=>bnd (numberP r) fun k r=>some ((w,k),r)) fun p r2=>if p.1=wWorld∧r2=[] then some p.2 else none:=by
  unfold headP;cases blankP l with
  | none=>rfl
  | some x=>
   obtain ⟨x,y⟩:=x;simp only[bnd_some];cases numberP y with
   | none=>rfl
   | some z=>rfl
 rw[hh];obtain ⟨e3,x3⟩:=h3;rw[Bool.false_or]at e3;cases hb:b1 with
 | true=>
  rw[hb]at e3;rw[Option.isNone_iff_eq_none.1 e3.symm,h2,hb];refine ⟨by simp[bnd],fun st h=>by simp[bnd]at h⟩
 | false=>
  rw[x3 hb,bnd_some,h2,hb]
  by_cases hw:wd=wWorld
  by_cases hr:r2=[]
  rw[if_pos ⟨hw,hr⟩];refine ⟨by simp[hw,hr],fun st h=>by simp at h;exact h.symm⟩;rw[if_neg fun h=>hr h.2];refine ⟨by simp[hr],fun st h=>by simp at h⟩;rw[if_neg fun h=>hw h.1];refine ⟨by simp[hw],fun st h=>by simp at h⟩
theorem event_end {l wd r1 r2:List UInt8}{b0 b1 b2:Bool}{y:PEv}{area:Int}{evs:List PEv}{n:Nat}(hn:¬n < 1)(h0:PR false b0 (blankP l) wd r1)(h1:PR b0 b1 (evP wd r1) y r2)(h2:b2=(b1||!decide (evs.length+1≤300))):((!b2&&decide (r2=[]))=true↔(stepP n (area,evs) l).isSome)∧∀ st,stepP n (area,evs) l=some st→st=(area,evs++[y]):=by
 have h3:PR false b1 (bnd (blankP l) fun w r=>evP w r) y r2:=h0.bnd h1;rw[stepP,if_neg hn];have hh:lineP l=bnd (bnd (blankP l) fun w r=>evP w r) fun x r2=>if r2=[] then some x else none:=by
  unfold lineP;cases blankP l with
  | none=>rfl
  | some x=>rfl
 rw[hh];obtain ⟨e3,x3⟩:=h3;rw[Bool.false_or]at e3;cases hb:b1 with
 | true=>
  rw[hb]at e3;rw[Option.isNone_iff_eq_none.1 e3.symm,h2,hb];refine ⟨by simp[bnd],fun st h=>by simp[bnd]at h⟩
 | false=>
  rw[x3 hb,bnd_some,h2,hb]
  by_cases hr:r2=[]
  rw[if_pos hr]
  by_cases hl:evs.length+1≤300
  simp only[Option.bind_some,if_pos hl];refine ⟨by simp[hl,hr],fun st h=>by simp at h;exact h.symm⟩;simp only[Option.bind_some,if_neg hl];refine ⟨by simp[hl],fun st h=>by simp at h⟩;rw[if_neg hr];refine ⟨by simp[hr],fun st h=>by simp at h⟩
set_option maxHeartbeats 1000000 in
theorem line_c (b:Nat)(area:Int)(q:Option Addr)(e:Nat)(xs:List LEv)(n:Nat)(l:List UInt8)(Mr:Nat→Prop)(hl:l.length≤500000)(hxl:xs.length≤1000000)(hna:N64 area)(hfx:∀ x∈xs,FitE x)(w0:World)(hMr:∀ k,Mr k→k < w0.heap.size∧¬(scI b area q e xs).foot k)(hb:(scI b area q e xs).holds w0)
  (ht:Stable (fun k=>(scI b area q e xs).foot k∨Mr k) w0 LibF) (hx:Stable (fun k=>(scI b area q e xs).foot k∨Mr k) w0 (AllI xs)):Ret Tryz.prog 58 [pB b,str l,.int .i64 (n:Nat)] w0 (scI b area q e xs).foot fun v w'=>LineR Mr w0 b area q e xs n l v w':=by
 refine E1 Tryz.func58 rfl Tryz.ntmps58 ((Wd.itLentM (x:=scI b area q e xs) (Mr:=Mr) (fs:=[LibF,AllI xs]) hb hMr (by simp;exact ⟨ht,hx⟩))) ?_;intro a S;refine J9 ?_;intro a S;refine sa S ?_;intro b11 a w S;refine J6 ?_;intro a S;replace S:=(S.front (scI b area q e xs)).ofBoth;refine sit (rI b11 l false) S (blank_c b11 l false (by omega) _ (S.it (rI b11 l false))) rfl ?_;rintro _ a w ⟨wd,r1,rfl,hh,hl1,hlw,hy⟩ hS;have S:=hS (rI b11 r1 (false||(blankP l).isNone)) hh (fun k h=>.inl h);clear hS hh;have hp0:PR false (false||(blankP l).isNone) (blankP l) wd r1:=PR.of fun _=>hy
 obtain ⟨bd0,hb0⟩:∃ x,x=(false||(blankP l).isNone):=⟨_,rfl⟩;rw[←hb0]at S hp0;refine J10 ?_;intro a S;refine kC S (fun h3=>?_) (fun h3=>?_);refine J7 ?_;intro a S;refine sn S ?_;intro b21 a w S;replace S:=St.boxGl S b21 [(⟨0⟩:OffS b)] rfl (fun _ _ _=>trivial);replace S:=((S.front (Wk.box b 26 [.int .i64 area,.slice q xs.length e])).front (rI b11 r1 bd0)).toBoth;refine sit (rbI b11 r1 bd0 b 26 [.int .i64 area,.slice q xs.length e]) S (numbers_c b11 r1 bd0 b 26 [.int .i64 area,.slice q xs.length e] [0] (some ⟨b21,0,none⟩) 1 (fun o ho=>by rw[List.mem_singleton.1 ho];exact Nat.succ_pos 1) (by decide) (by omega) _ (S.it (rbI b11 r1 bd0 b 26 [.int .i64 area,.slice q xs.length e])) (S.lend (rbI b11 r1 bd0 b 26 [.int .i64 area,.slice q xs.length e]) (S.mem.fact LibF)) (S.lend (rbI b11 r1 bd0 b 26 [.int .i64 area,.slice q xs.length e]) (S.gl (some ⟨b21,0,none⟩)))) rfl ?_;rintro _ a w ⟨ns,r2,hnl,hnr,hh,hl2,hz⟩ hS;obtain ⟨m,rfl⟩:=len_eq1 hnl;have S:=hS (rbI b11 r2 (bd0||(numsP 1 r1).isNone) b 26 [.int .i64 m,.slice q xs.length e]) hh (fun k h=>.inl h);clear hS hh;replace S:=S.ofBoth;have hp1:PR bd0 (bd0||(numsP 1 r1).isNone) (numsP 1 r1) [m] r2:=PR.of fun _=>hz
 obtain ⟨bd1,hb1⟩:∃ x,x=(bd0||(numsP 1 r1).isNone):=⟨_,rfl⟩;rw[←hb1]at S hp1;refine Y20 ?_;intro a w S;refine J15 ?_;intro a S;have hn1:n < 1:=by simp at h3;omega
 obtain ⟨h5,h6⟩:=head_end (area:=area) (evs:=xs.map LEv.e) hn1 hp0 hp1 rfl;replace S:=((S.front (Wk.box b 26 [.int .i64 m,.slice q xs.length e])).front (Wk.row 47 23 q xs.length e (encL xs))).toBoth;have hh:=S.it (scI b m q e xs);have hst:Stable (fun k=>(scI b m q e xs).foot k∨Mr k) _ (AllI xs):=(S.wd.facts (AllI xs) (by simp)).less fun k _ hk=>hk.elim (fun h1=>⟨scI b m q e xs,by simp,h1⟩) (fun h1=>⟨ext Mr,by simp,h1⟩)
 refine end1 S (fun _=>⟨_,m,q,e,xs,rfl,hh,fun k hk=>.inl hk,hst,hfx,hnr m (by simp),by omega,h5,h6⟩);refine kS ?_;refine c_drwe5 (.q 0 (.q 1 (.q 2 (.q 3 (.q 5 (.q 6 (.b2 4 7 (.l 7 (.l 8 (.l 9 (.q 10 (.q 11 (.l 12 (.e))))))) (.b2 4 8 (.l 8 (.l 9 (.q 10 (.q 11 (.l 12 (.e)))))) (.l 4 (.l 9 (.q 10 (.q 11 (.l 12 (.e)))))))))))))) S (fun(y:LEv) (r2:List UInt8) (bd1:Bool) (q2:Option Addr) (e2:Nat) uu=>[(34,uu 34),(0,uu 35),(0,uu 36),(0,uu 37),(0,uu 38),(0,uu 39),(0,uu 40),(0,uu 41),(0,uu 42),(0,uu 43),(0,uu 44),(0,uu 45)]) [] (fun(y:LEv) (r2:List UInt8) (bd1:Bool) (q2:Option Addr) (e2:Nat)=>[Wk.row 47 23 q2 (xs++[y]).length e2 (encL (xs++[y])),Wk.box b 26 [.int .i64 area,.slice q2 (xs++[y]).length e2],rI b11 r2 bd1,ext Mr]) (fun(y:LEv) (r2:List UInt8) (bd1:Bool) (q2:Option Addr) (e2:Nat)=>[AllI (xs++[y])]) (fun(y:LEv) (r2:List UInt8) (bd1:Bool) (q2:Option Addr) (e2:Nat)=>FitE y∧r2.length≤r1.length∧PR bd0 bd1 (evP wd r1) y.e r2) ?_ ?_;intro w S;(iterate 6 (refine tq S ?_;intro a S));refine tb2 ?_ ?_;refine sq S ?_;intro a S;refine te S ?_;refine tl ?_;refine sitM (rI b11 r1 bd0) S (event_c b11 wd r1 bd0 (restOf _ (rI b11 r1 bd0)) (by omega) _ (S.restOk _) (S.it (rI b11 r1 bd0)) ((S.mem.fact LibF).split (rI b11 r1 bd0))) rfl ?_;rintro _ a w ⟨y,r2,bd1,rfl,hyf,hfy,hh,hl2,hp1⟩ hS;have S:=hS (rI b11 r2 bd1) [InF y] hh (fun k h=>.inl h) (by intro Φ hΦ;obtain rfl:=List.mem_singleton.1 hΦ;exact hyf);clear hS hh;replace S:=S.add (Φ:=AllI (xs++[y])) (AllI.snoc (S.wd.facts (AllI xs) (by simp)) (S.i y))
 refine te S ?_;refine tl (sn S ?_);intro b42 a w S;refine te S ?_;refine tl ?_;refine sap S (by simp[maxLen];omega) (by omega) ?_;rintro q2 e2 a w - S;rw[show encL xs++cEv y=encL (xs++[y]) from by rw[encL_append];rfl,show xs.length+1=(xs++[y]).length from by simp]at S;refine te S ?_;(iterate 2 (refine tq S ?_;intro a S));refine tl (sw S ?_);intro a w S;refine te S ?_;refine tn ?_;exact ⟨y,r2,bd1,q2,e2,S.uu,⟨hfy,hl2,hp1⟩,S.sub _ _⟩;refine sitM (rI b11 r1 bd0) S (event_c b11 wd r1 bd0 (restOf _ (rI b11 r1 bd0)) (by omega) _ (S.restOk _) (S.it (rI b11 r1 bd0)) ((S.mem.fact LibF).split (rI b11 r1 bd0))) rfl ?_;rintro _ a w ⟨y,r2,bd1,rfl,hyf,hfy,hh,hl2,hp1⟩ hS;have S:=hS (rI b11 r2 bd1) [InF y] hh (fun k h=>.inl h) (by intro Φ hΦ;obtain rfl:=List.mem_singleton.1 hΦ;exact hyf);clear hS hh;replace S:=S.add (Φ:=AllI (xs++[y])) (AllI.snoc (S.wd.facts (AllI xs) (by simp)) (S.i y));refine te S ?_;refine tb2 ?_ ?_;refine sq S ?_;intro a S;refine te S ?_;refine tl (sn S ?_);intro b42 a w S;refine te S ?_;refine tl ?_;refine sap S (by simp[maxLen];omega) (by omega) ?_;rintro q2 e2 a w - S;rw[show encL xs++cEv y=encL (xs++[y]) from by rw[encL_append];rfl,show xs.length+1=(xs++[y]).length from by simp]at S;refine te S ?_;(iterate 2 (refine tq S ?_;intro a S));refine tl (sw S ?_);intro a w S;refine te S ?_;refine tn ?_;exact ⟨y,r2,bd1,q2,e2,S.uu,⟨hfy,hl2,hp1⟩,S.sub _ _⟩;refine sn S ?_;intro b42 a w S;refine te S ?_;refine tl (sq S ?_);intro a S;refine te S ?_;refine tl ?_;refine sap S (by simp[maxLen];omega) (by omega) ?_;rintro q2 e2 a w - S
 rw[show encL xs++cEv y=encL (xs++[y]) from by rw[encL_append];rfl,show xs.length+1=(xs++[y]).length from by simp]at S;refine te S ?_;(iterate 2 (refine tq S ?_;intro a S));refine tl (sw S ?_);intro a w S;refine te S ?_;refine tn ?_;exact ⟨y,r2,bd1,q2,e2,S.uu,⟨hfy,hl2,hp1⟩,S.sub _ _⟩;clear S;rintro y r2 bd1 q2 e2 uu a w ⟨hfy,hl2,hp1⟩ S;refine Y20 ?_;intro a w S;refine J18 ?_;intro a S;have hn1:¬n < 1:=by simp at h3;omega
 have h300:decide ((300:Int) < ((xs++[y]).length:Nat)) = !decide ((xs.map LEv.e).length+1≤300):=by
  rw[List.length_append,List.length_map,←decide_not,decide_eq_decide]
  show _↔¬xs.length+1≤300
  simp only[qqA,qqB];omega
 rw[h300]at S;obtain ⟨h5,h6⟩:=event_end (area:=area) (evs:=xs.map LEv.e) hn1 hp0 hp1 rfl;replace S:=((S.front (Wk.box b 26 [.int .i64 area,.slice q2 (xs++[y]).length e2])).front (Wk.row 47 23 q2 (xs++[y]).length e2 (encL (xs++[y])))).toBoth;have hh:=S.it (scI b area q2 e2 (xs++[y]));have hst:Stable (fun k=>(scI b area q2 e2 (xs++[y])).foot k∨Mr k) _ (AllI (xs++[y])):=(S.wd.facts (AllI (xs++[y])) (by simp)).less fun k _ hk=>hk.elim (fun h1=>⟨scI b area q2 e2 (xs++[y]),.head _,h1⟩) (fun h1=>⟨ext Mr,.tail _ (.tail _ (.head _)),h1⟩)
 have hnw:=S.itNew (scI b area q2 e2 (xs++[y]));refine end1 S (fun _=>⟨_,area,q2,e2,xs++[y],rfl,hh,hnw,hst,fun z hz=>?_,hna,by simp,h5,fun st h=>by rw[h6 st h,List.map_append];rfl⟩);rcases List.mem_append.1 hz with hz | hz
 exact hfx z hz;rw[List.mem_singleton.1 hz];exact hfy
section
variable {P:Program}{r:Option Nat}{ops:Array Oper}{Q:Exit→Act→World→Prop}{w0:World}{M0:Nat→Prop}{ds:List Deferred}{a:Act}{w:World}{l:List Value}{bs:List Wk.Item}{bs':Wk.Item→List Wk.Item}{fs:List (World→Prop)}
 {d:Option Nat} {ty:TypeId} {pos:String} {af:Array Edge} {rest:List Oper} {G:Value} {f:Nat} {x:Operand} {xs:List Operand} {args:List Value} {ts:Array TypeId} {j g:Nat} {pol:Bool}
theorem gsitM {c:Bool}{l':Value→List Value}(it:Wk.Item)[hg:GSlot ops j g][hn:Nth l g G][hc:Conds G pol [c]][EntF P f][he:CallTo ⟨[c],l⟩ x xs f args][hp:∀ v,PutO l d (gif c v) (l' v)][hr:∀ y,ReplI bs it y (bs' y)](S:St w0 M0 ds a w l bs fs)(v0:Value)(ho:it.own=true)(Φ0:World→Prop)(h0:Stable (foots bs) w Φ0){R:Value→Wk.Item→(World→Prop)→World→Prop}
  (hq:c=true→Ret P f args w it.foot fun v w'=>∃ y Φ,R v y Φ w')
  (hk:∀ v y Φ w',R v y Φ w'→ItOk y∧y.holds w'∧(∀ k,y.foot k→it.foot k∨w.heap.size≤k)∧Stable (fun k=>y.foot k∨restOf bs it k) w' Φ)
  (K:∀ v y Φ a w',(c=true→R v y Φ w')→(c=false→v=v0∧y=it∧Φ=Φ0)→St w0 M0 ds a w' (l' v) (bs' y) (Φ::fs)→WL P r ops Q rest a w'):WL P r ops Q (⟨d,.call { callee:=.value x,args:=xs.toArray,argTypes:=ts },ty,pos,af,some (j,pol)⟩::rest) a w:=by
 have hw:=wanted_iff (ops:=ops) (d:=d) (op:=.call { callee:=.value x,args:=xs.toArray,argTypes:=ts }) (ty:=ty) (pos:=pos) (af:=af) (pol:=pol) S hg.eq;have hap:=S.wd.apart;refine wl_guard (fun ht=>?_) (fun hf=>?_)
 ·have hall:=hw.1 ht
  have hct:c=true:=hall c (by simp);have:CallTo ⟨[],l⟩ x xs f args:=⟨by
   obtain ⟨fi,ca,vs,h0,h1,h2⟩:=he.ex;exact ⟨fi,ca,vs,⟨fun _ ds=>h0.eq hall ds⟩,⟨fun _ ds=>h1.eq hall ds⟩,h2⟩⟩
  refine cv_any S (hq hct) ?_;rintro e w' ⟨v,rfl,ha,y,Φ,hR⟩;obtain ⟨oy,hh,hft,hfs⟩:=hk v y Φ w' hR;have:=hp v;have S':=S.put (d:=d) (v:=gif c v);have e1:gif c v=v:=by rw[hct];rfl
  rw[e1]at S';have hwd:=S'.wd;obtain ⟨pre,post,q1,q2⟩:=(hr y).ex;rw[q1]at hwd hap;have hwd2:=hwd.swap ho ha hh hft (oy.lt w' hh) oy.loc;rw[←q2]at hwd2;have S2:St w0 M0 ds _ w' _ (bs' y) fs:=⟨S'.slots,S'.defers,hwd2⟩;refine ⟨v,rfl,K v y Φ _ w' (fun _=>hR) (fun h=>by rw[hct]at h;cases h) (S2.add (hfs.less fun k _ hk=>?_))⟩;obtain ⟨z,hz,hk⟩:=hk;rw[q2]at hz;have hp:=List.pairwise_append.1 hap;rcases List.mem_append.1 hz with hz | hz
  ·exact .inr ⟨⟨z,by rw[q1];simp[hz],hk⟩,hp.2.2 z hz it (by simp) k hk⟩
  ·rcases List.mem_cons.1 hz with rfl | hz
   ·exact .inl hk
   ·exact .inr ⟨⟨z,by rw[q1];simp[hz],hk⟩,fun hx=>(List.pairwise_cons.1 hp.2.1).1 z hz k hx hk⟩
 ·have hcf:c=false:=by
   cases q:c with
   | false=>rfl
   | true=>rw[hw.2 (by simp[q])]at hf;cases hf
  have:=hp v0;have S':=S.put (d:=d) (v:=gif c v0);have e:gif c v0=undef:=by rw[hcf];rfl
  rw[e]at S';obtain ⟨pre,post,q1,q2⟩:=(hr it).ex;have S2:=S'.add h0;have hbb:bs' it=bs:=by rw[q2,←q1]
  exact K v0 it Φ0 _ _ (fun h=>by rw[hcf]at h;cases h) (fun _=>⟨rfl,rfl,rfl⟩) (by rw[hbb];exact S2)
end
theorem parse_cut {N n:Nat}{st:Int × List PEv}{T l r:List UInt8}{a:Nat}(hT:T≠[])(hN:T.length < N)(hc:cutB 10 T=(l,some r)):parseL N n st T a=match stepP n st l with
  | none=>.error a
  | some st2=>parseL N (n+1) st2 r (a+l.length+1):=by
 match N,hN with
 | N+1,hN=>
  rw[parseL,if_neg hT,hc];simp only;cases stepP n st l with
  | none=>rfl
  | some st2=>
   have:=cut_len hc;exact parse_fuel _ _ _ _ _ _ (by omega) (by omega)
theorem parse_nocut {N n:Nat}{st:Int × List PEv}{T l:List UInt8}{a:Nat}(hT:T≠[])(hN:T.length < N)(hc:cutB 10 T=(l,none)):parseL N n st T a=.error a:=by
 match N,hN with
 | N+1,hN=>rw[parseL,if_neg hT,hc]
theorem parse_nil {N n:Nat}{st:Int × List PEv}{a:Nat} : parseL (N+1) n st [] a=if n < 1 then .error a else .ok st:=by rw[parseL,if_pos rfl]
theorem cut_rest {text l r:List UInt8}{a:Nat}(ha:a≤text.length)(hc:cutB 10 (text.drop a)=(l,some r)):r=text.drop (a+l.length+1)∧a+l.length+1≤text.length:=by
 have h1:=(cutB_some.1 hc).1;have h2:=cut_len hc;rw[List.length_drop]at h2;refine ⟨?_,by omega⟩;rw[show a+l.length+1=a+(l.length+1) from rfl,←List.drop_drop,h1,show l.length+1=(l++[(10:UInt8)]).length from by simp,show l++10::r=(l++[10])++r from by simp,List.drop_left]
abbrev zScr:LScr:=⟨0,⟨none,0,[]⟩⟩
theorem zScr_in (w:World):Lay.inn w zScr:=⟨⟨Nat.le_refl _,Nat.zero_le _,gl_nil⟩,⟨by show (-9223372036854775808:Int)≤0;omega,by show (0:Int)≤9223372036854775807;omega⟩⟩
def ParseR (M:Nat→Prop)(text:List UInt8)(v:Value)(w:World):Prop:=∃ (s:LScr) (p:Nat) (er:Int),v=.tuple ⟨[vScr s,.int .i64 (p:Nat),.int .i64 er]⟩∧Stable M w (InF s)∧FitS s∧
 ((262144 < text.length∧s=zScr∧p=0∧er=3)∨(text.length≤262144∧((parseF text=.error p∧s=zScr∧er=340)∨(parseF text=.ok (s.area,s.evs)∧p=0∧er=0))))
set_option maxHeartbeats 1000000 in
theorem parse_c (text:List UInt8)(hl:text.length≤1000000)(M:Nat→Prop)(w0:World)(hM:∀ k,M k→k < w0.heap.size)(ht:Stable M w0 LibF):Ret Tryz.prog 16 [str text] w0 (fun _=>False) fun v w'=>ParseR M text v w':=by
 refine E1 Tryz.func16 rfl Tryz.ntmps16 (Wd.beginM (M:=M) (fs:=[LibF]) hM (by simpa using ht)) ?_;intro a S;refine kS (kR ?_);refine sa S ?_;clear S;intro b2 a w S;(iterate 2 (refine sq S ?_;clear S;intro a S));refine kN (xtn (c_scope (kS (kS (kR ?_)))));(iterate 3 (refine sq S ?_;clear S;intro a S));refine kN (xtn ?_);refine kC S (fun h1=>?_) (fun h1=>?_);refine kS (kR (sq S ?_));clear S;intro a S;refine sw S ?_;clear S;intro a w S;(iterate 2 (refine sq S ?_;clear S;intro a S));refine kN (xtn (kT (xtr (xsr ?_))));have hlt:262144 < text.length:=by simp at h1;omega
 refine end3 S (fun _=>⟨zScr,0,3,rfl,fun w _=>zScr_in w,⟨Nat.zero_le _,nofun⟩,.inl ⟨hlt,rfl,rfl,rfl⟩⟩);refine kK (xtn (kS ?_));have hlt:text.length≤262144:=by simp at h1;omega
 refine kR (sa S ?_);clear S;intro b5 a w S;refine kN (xtn (kS (kR ?_)));(iterate 3 (refine sq S ?_;clear S;intro a S));refine kN (xtn (kS (c_label (xtn ?_))));refine c_mrge4 S (fun(p:Nat) (n:Nat) (ok:Bool) (s:LScr) uu=>[(6,.int .i64 (p:Nat)),(0,.int .i64 (n:Nat)),(0,.bool ok),(0,uu 9),(0,uu 10),(0,uu 11),(4,uu 16),(0,uu 17),(0,uu 18),(0,uu 19),(0,uu 20),(0,uu 21),(0,uu 22),(0,uu 23),(0,uu 24),(0,uu 25),(0,uu 26),(0,uu 27),(0,uu 28),(0,uu 29),(0,uu 30),(0,uu 31),(0,uu 32),(0,uu 33),(0,uu 34),(0,uu 35),(0,uu 36),(0,uu 37),(0,uu 38),(0,uu 39),(0,uu 40),(0,uu 41),(0,uu 42)]) (fun(p:Nat) (n:Nat) (ok:Bool) (s:LScr)=>[scI b5 s.area s.ev.p s.ev.cap s.ev.xs,Wk.box b2 26 [.int .i64 0,.slice none 0 0],ext M]) (fun(p:Nat) (n:Nat) (ok:Bool) (s:LScr)=>[AllI s.ev.xs]) (fun(p:Nat) (n:Nat) (ok:Bool) (s:LScr)=>p≤text.length∧n≤p∧s.ev.xs.length≤n+1∧N64 s.area∧(∀ x∈s.ev.xs,FitE x)∧parseF text=if ok=true then (if n < 1 then .error p else .ok (s.area,s.evs)) else .error p) ?_ ?_;refine kB ?_;refine c_fore6 S (fun(p:Nat) (n:Nat) (area:Int) (q:Option Addr) (e:Nat) (xs:List LEv) uu=>[(6,.int .i64 (p:Nat)),(0,.int .i64 (n:Nat)),(0,.bool true),(0,uu 9),(0,uu 10),(0,uu 11),(4,uu 16),(0,uu 17),(0,uu 18),(0,uu 19),(0,uu 20),(0,uu 21),(0,uu 22),(0,uu 23),(0,uu 24),(0,uu 25),(0,uu 26),(0,uu 27),(0,uu 28),(0,uu 29),(0,uu 30),(0,uu 31),(0,uu 32),(0,uu 33),(0,uu 34),(0,uu 35),(0,uu 36),(0,uu 37),(0,uu 38),(0,uu 39),(0,uu 40),(0,uu 41),(0,uu 42)]) (fun(p:Nat) (n:Nat) (area:Int) (q:Option Addr) (e:Nat) (xs:List LEv)=>[scI b5 area q e xs,Wk.box b2 26 [.int .i64 0,.slice none 0 0],ext M]) (fun(p:Nat) (n:Nat) (area:Int) (q:Option Addr) (e:Nat) (xs:List LEv)=>[AllI xs,LibF]) (fun(p:Nat) (n:Nat) (area:Int) (q:Option Addr) (e:Nat) (xs:List LEv)=>p≤text.length∧n≤p∧xs.length≤n∧N64 area∧(∀ x∈xs,FitE x)∧parseF text=parseL (text.length+1) n (area,xs.map LEv.e) (text.drop p) p) (fun(p:Nat) (n:Nat) (area:Int) (q:Option Addr) (e:Nat) (xs:List LEv)=>text.length - p) (0) (0) (0) (none) (0) ([]) ?_ S.uu ?_ ?_
 exact ⟨Nat.zero_le _,Nat.le_refl _,Nat.le_refl _,⟨by omega,by omega⟩,nofun,rfl⟩;replace S:=S.addNil 47 23;rw[show Wk.row 47 23 none 0 0 []=Wk.row 47 23 none 0 0 (encL ([]:List LEv)) from rfl]at S;replace S:=S.add (Φ:=AllI (α:=LEv) []) AllI.nil;replace S:=((S.front (Wk.box b5 26 [.int .i64 0,.slice none 0 0])).front (Wk.row 47 23 none 0 0 (encL ([]:List LEv)))).toBoth;exact S.sub _ _;clear S;rintro p n area q e xs uu a w ⟨hp,hn,hxn,hna,hfx,hpf⟩ S;refine J9 ?_;clear S;intro a S;refine kC S (fun h5=>?_) (fun h5=>?_);refine kK (xtn (kB (kS ?_)));have hpl:p < text.length:=by simp at h5;omega
 have hLp:LeC p text.length:=⟨by omega⟩;have hne:text.drop p≠[]:=fun h=>by have:=List.drop_eq_nil_iff.1 h;omega
 have hdl:(text.drop p).length=text.length - p:=List.length_drop;refine J4 ?_;clear S;intro a S;rw[List.take_length]at S;refine sr S (cut_c (text.drop p) 10 (by omega) _) ?_;clear S;rintro _ a w rfl S;obtain ⟨ln,hln⟩:∃ ln,ln=(cutB 10 (text.drop p)).1:=⟨_,rfl⟩;obtain ⟨mo,hmo⟩:∃ mo,mo=(cutB 10 (text.drop p)).2:=⟨_,rfl⟩;rw[cutV,←hln,←hmo]at S;have hcp:cutB 10 (text.drop p)=(ln,mo):=by rw[hln,hmo]
 have hlnl:ln.length≤text.length:=by
  cases mo with
  | none=>rw[←(cutB_none.1 hcp).1];omega
  | some r=>have:=cut_len hcp;omega
 refine J16 ?_;clear S;intro a S;refine gsitM (scI b5 area q e xs) S (.bool false) rfl (AllI xs) (S.wd.facts (AllI xs) (by simp)) (R:=fun v y Φ w'=>∃ (ok:Bool) (a2:Int) (q2:Option Addr) (e2:Nat) (ys:List LEv),v=.bool ok∧y=scI b5 a2 q2 e2 ys∧Φ=AllI ys∧y.holds w'∧(∀ k,y.foot k→(scI b5 area q e xs).foot k∨w.heap.size≤k)∧Stable (fun k=>y.foot k∨restOf _ (scI b5 area q e xs) k) w' Φ∧
  (∀ y∈ys,FitE y)∧N64 a2∧ys.length≤xs.length+1∧(ok=true↔(stepP n (area,xs.map LEv.e) ln).isSome)∧∀ st,stepP n (area,xs.map LEv.e) ln=some st→st=(a2,ys.map LEv.e)) (fun _=>(line_c b5 area q e xs n ln (restOf _ (scI b5 area q e xs)) (by omega) (by omega) hna hfx _ (S.restOk _) (S.it (scI b5 area q e xs)) ((S.mem.fact LibF).split (scI b5 area q e xs)) ((S.wd.facts (AllI xs) (by simp)).split (scI b5 area q e xs))).mono fun v w' ⟨ok,a2,q2,e2,ys,hv,k1,k2,k3,k4⟩=>⟨_,_,ok,a2,q2,e2,ys,hv,rfl,rfl,k1,k2,k3,k4⟩) (fun v y Φ w' ⟨ok,a2,q2,e2,ys,_,hy,_,k1,k2,k3,_⟩=>⟨by rw[hy];infer_instance,k1,k2,k3⟩) ?_;clear S;rintro v y Φ a w hR1 hR2 S
 obtain ⟨ok,a2,q2,e2,ys,rfl,rfl,rfl,hfy,hna2,hyl,hok,hst⟩:∃ (ok:Bool) (a2:Int) (q2:Option Addr) (e2:Nat) (ys:List LEv),v=.bool ok∧y=scI b5 a2 q2 e2 ys∧Φ=AllI ys∧(∀ y∈ys,FitE y)∧N64 a2∧ys.length≤xs.length+1∧(mo.isSome=true→(ok=true↔(stepP n (area,xs.map LEv.e) ln).isSome))∧(mo.isSome=true→∀ st,stepP n (area,xs.map LEv.e) ln=some st→st=(a2,ys.map LEv.e)):=by
  cases hm:mo.isSome with
  | false=>
   obtain ⟨r1,r2,r3⟩:=hR2 hm;exact ⟨false,area,q,e,xs,r1,r2,r3,hfx,hna,by omega,nofun,nofun⟩
  | true=>
   obtain ⟨ok,a2,q2,e2,ys,r1,r2,r3,-,-,-,k4,k5,k6,k7,k8⟩:=hR1 hm;exact ⟨ok,a2,q2,e2,ys,r1,r2,r3,k4,k5,k6,fun _=>k7,fun _=>k8⟩
 clear hR1 hR2;refine J10 ?_;clear S;intro a S;refine kC S (fun h8=>?_) (fun h8=>?_);refine kE (xte (xbx (xte (xbe (xtn ?_)))));have h8':(mo.isSome&&ok)=false:=by
  cases q:(mo.isSome&&ok) with
  | false=>rfl
  | true=>rw[q]at h8;cases h8
 rw[h8']at S;refine ⟨p,n,false,⟨a2,⟨q2,e2,ys⟩⟩,S.uu,⟨hp,hn,by show ys.length≤n+1;omega,hna2,hfy,?_⟩,S.sub _ _⟩;rw[hpf,if_neg (by decide)];cases mo with
 | none=>exact parse_nocut hne (by omega) hcp
 | some r=>
  rw[parse_cut hne (by omega) hcp];cases hq:stepP n (area,xs.map LEv.e) ln with
  | none=>rfl
  | some st2=>
   have:=(hok rfl).2 (by rw[hq];rfl);rw[this]at h8';cases h8'
 refine J19 ?_;clear S;intro a S;obtain ⟨hm,rfl⟩:mo.isSome=true∧ok=true:=by simpa using h8
 cases mo with
 | none=>cases hm
 | some r=>
  obtain ⟨st2,hq⟩:=Option.isSome_iff_exists.1 ((hok rfl).1 rfl);obtain ⟨hr1,hr2⟩:=cut_rest hp hcp;rw[parse_cut hne (by omega) hcp,hq,hst rfl st2 hq,hr1]at hpf;rw[w6 ((ln.length:Int)+1),w64 ((p:Int)+((ln.length:Int)+1)) (by omega) (by omega),w6 ((n:Int)+1),show (p:Int)+((ln.length:Int)+1)=((p+ln.length+1:Nat):Int) from by omega]at S;exact ⟨p+ln.length+1,n+1,a2,q2,e2,ys,S.uu,⟨hr2,by omega,by omega,hna2,hfy,hpf⟩,S.sub _ _,by omega⟩
 refine kE (xte (xte (xbe (xtn ?_))));have hpe:p=text.length:=by simp at h5;omega
 refine ⟨p,n,true,⟨area,⟨q,e,xs⟩⟩,S.uu,⟨hp,hn,by show xs.length≤n+1;omega,hna,hfx,?_⟩,S.sub _ _⟩;rw[List.drop_eq_nil_of_le (by omega),parse_nil]at hpf;rw[hpf,if_pos rfl];rfl;clear S;rintro p n ok s uu a w ⟨hp,hn,hxn,hna,hfx,hpf⟩ S;refine J11 ?_;clear S;intro a S;refine kC S (fun h11=>?_) (fun h11=>?_);refine kS (kR ?_);(iterate 2 (refine sq S ?_;clear S;intro a S));refine sw S ?_;clear S;intro a w S;(iterate 2 (refine sq S ?_;clear S;intro a S));refine kN (xtn (kT (xtr (xsr ?_))));refine end3 S (fun _=>⟨zScr,p,340,rfl,fun w _=>zScr_in w,⟨Nat.zero_le _,nofun⟩,.inr ⟨hlt,.inl ⟨?_,rfl,rfl⟩⟩⟩);rw[hpf];cases ok with
 | false=>rw[if_neg (by decide)]
 | true=>
  have:n < 1:=by simp at h11;omega
  rw[if_pos rfl,if_pos this]
 refine kK (xtn (kS ?_));replace S:=(S.front (scI b5 s.area s.ev.p s.ev.cap s.ev.xs)).ofBoth;refine kR (sq S ?_);clear S;intro a S;refine sw S ?_;clear S;intro a w S;(iterate 2 (refine sq S ?_;clear S;intro a S));refine kN (xtn (kT (xsr ?_)));obtain ⟨rfl,hn1⟩:ok=true∧¬n < 1:=by
  simp at h11;exact ⟨h11.1,by omega⟩
 rw[if_pos rfl,if_neg hn1]at hpf;have hpl:=own_le (S.row s.ev.p s.ev.xs.length);have hpm:=own_capT (S.row s.ev.p s.ev.xs.length);replace S:=(S.front (Wk.row 47 23 s.ev.p s.ev.xs.length s.ev.cap (encL s.ev.xs))).rowToGl s.ev.p s.ev.xs (e:=47) (sz:=23) (n:=s.ev.xs.length) (c:=s.ev.cap) (S.wd.facts (AllI s.ev.xs) (by simp));replace S:=S.add (Φ:=InF s) (fun w' hw'=>⟨⟨hpl,hpm,S.wd.facts (GlF s.ev.p s.ev.xs) (by simp) w' hw'⟩,hna⟩);have hlat:=S.laterFact (M:=M) (Φ:=InF s) (by simp);refine end3 S (fun _=>⟨s,0,0,rfl,hlat,⟨by omega,hfx⟩,.inr ⟨hlt,.inr ⟨hpf,rfl,rfl⟩⟩⟩)
theorem ex_parsed {M:Nat→Prop}{v:Value}{w:World}(h:ParseR M exL v w):∃ s:LScr,v=.tuple ⟨[vScr s,.int .i64 0,.int .i64 0]⟩∧Stable M w (InF s)∧FitS s∧s.area=400∧s.evs=[ex1,ex2,ex3]:=by
 obtain ⟨s,p,er,rfl,h1,h2,h3⟩:=h;rcases h3 with ⟨h,-⟩ | ⟨-,⟨h,-⟩ | ⟨h,rfl,rfl⟩⟩
 exact absurd h (by decide);rw[ex_parse]at h;cases h;rw[ex_parse]at h;simp only[Except.ok.injEq,Prod.mk.injEq]at h;exact ⟨s,rfl,h1,h2,h.1.symm,h.2.symm⟩
theorem wakes24_c (w0:World)(ht:Fx w0 LibF):Ret Tryz.prog 11 [] w0 (fun _=>False) fun v _=>v=.bool true:=by
 refine E1 Tryz.func11 rfl Tryz.ntmps11 (Wd.begin (fs:=[LibF]) (by simpa using ht)) ?_;intro a S;refine J7 ?_;clear S;intro a S;refine sr S (parse_c exL (by decide) _ _ (foots_lt S) (S.mem.fact LibF)) ?_;clear S;rintro _ a w hR S;obtain ⟨s,rfl,hsf,hfit,har,hev⟩:=ex_parsed hR;clear hR;replace S:=S.add hsf;have hlen:s.ev.xs.length=3:=by have:=congrArg List.length hev;simpa [LScr.evs] using this
 have hK0:KLt 0 s.ev.xs.length:=⟨by omega⟩;have hK2:KLt 2 s.ev.xs.length:=⟨by omega⟩;have hx:∀ k,k < 3→(nthG s.ev.xs k).e=[ex1,ex2,ex3].getD k ex1:=fun k hk=>by
  have h1:=nthG_get (xs:=s.ev.xs) (k:=k) (by omega);have h2:s.evs[k]? = some (nthG s.ev.xs k).e:=by rw[LScr.evs,List.getElem?_map,h1];rfl
  rw[hev]at h2;rw[List.getD_eq_getElem?_getD,h2];rfl
 have e0:=hx 0 (by omega);have e2:=hx 2 (by omega);have hchk:chkS s=0:=by rw[chkS,hev,if_pos ex_check]
 have hprn:printV s=(exL,0):=by rw[printV,hev,if_pos ex_check,har,ex_print,if_pos (by decide)]
 refine J4 ?_;clear S;intro a S;refine sa S ?_;clear S;intro b1 a w S;refine Y22 ?_;clear S;intro a w S;refine kC S (fun h2=>?_) (fun h2=>?_);refine J7 ?_;clear S;intro a S;exfalso;rw[hlen]at h2;simp at h2;refine kK (xtn (kS ?_));refine c_drwe2 (.q 0 (.q 1 (.q 2 (.q 3 (.q 4 (.q 5 (.q 6 (.q 7 (.b2 8 9 (.l 9 (.l 10 (.l 11 (.e)))) (.l 8 (.l 10 (.l 11 (.e))))))))))))) S (fun(b4:Nat) (b5:Nat) uu=>[(4,.pointer (some ⟨b4,0,none⟩)),(0,.pointer (some ⟨b5,0,none⟩)),(18,uu 24),(0,uu 25),(0,uu 26),(0,uu 27),(0,uu 28),(0,uu 29),(0,uu 30),(0,uu 31)]) [Wk.box b1 26 (cScr s)] (fun(b4:Nat) (b5:Nat)=>[Wk.box b4 47 (cEv (nthG s.ev.xs 0)),Wk.box b5 47 (cEv (nthG s.ev.xs 2)),Wk.box b1 26 (cScr s)]) (fun(b4:Nat) (b5:Nat)=>[InF s,LibF]) (fun(b4:Nat) (b5:Nat)=>True) ?_ ?_;intro w S;(iterate 8 (refine tq S ?_;clear S;intro a S));refine tb2 ?_ ?_;refine sa S ?_;clear S;intro b4 a w S;refine te S ?_;refine tl (sa S ?_);clear S;intro b5 a w S;refine te S ?_;refine tl (sw S ?_);clear S;intro a w S;refine te S ?_;refine tl (sw S ?_);clear S;intro a w S;refine te S ?_;refine tn ?_;replace S:=(S.front (Wk.box b5 47 (cEv (nthG s.ev.xs 2)))).front (Wk.box b4 47 (cEv (nthG s.ev.xs 0)));exact ⟨b4,b5,S.uu,trivial,S.sub _ _⟩;refine sa S ?_;clear S;intro b5 a w S;refine te S ?_;refine tl (sa S ?_);clear S;intro b4 a w S;refine te S ?_;refine tl (sw S ?_);clear S;intro a w S;refine te S ?_;refine tl (sw S ?_);clear S;intro a w S;refine te S ?_;refine tn ?_;replace S:=(S.front (Wk.box b5 47 (cEv (nthG s.ev.xs 2)))).front (Wk.box b4 47 (cEv (nthG s.ev.xs 0)))
 exact ⟨b4,b5,S.uu,trivial,S.sub _ _⟩;clear S;rintro b4 b5 uu a w - S;refine J20 ?_;clear S;intro a S;refine J3 ?_;clear S;intro a S;refine gcr S (.int .i64 0) (fun _=>scheck_c s hfit w (S.i0 s)) ?_;clear S;rintro v51 a w hR1 hR2 S;obtain rfl:v51=.int .i64 0:=by
  rw[←hchk]at hR2⊢
  generalize hc:(!_:Bool)=c at hR1 hR2
  cases c with
  | true=>exact hR1 rfl
  | false=>exact hR2 rfl
 clear hR1 hR2;refine J4 ?_;clear S;intro a S;refine kC S (fun h5=>?_) (fun h5=>?_);refine J7 ?_;clear S;intro a S;exfalso;have a1:(nthG s.ev.xs 0).oname=[49,47,102]:=congrArg PEv.oname e0;have a2:(nthG s.ev.xs 0).body.text=[120]:=by
  have h:(nthG s.ev.xs 0).body.t=exT:=congrArg PEv.body e0;rw[LTerm.t_eq,exT,Term.mk.injEq]at h;exact h.2.2.2.1
 have a3:(nthG s.ev.xs 2).keep.xs=[true,false]:=congrArg PEv.keep e2;rw[a1,a2,a3]at h5;simp at h5;refine J5 ?_;clear S;intro a S;refine sr S (print_c s hfit w (S.mem.fact0 LibF |>.imp fun _ h=>h.1) (S.i0 s)) ?_;clear S;rintro _ a w rfl S;rw[hprn]at S;refine J19 ?_;clear S;intro a S;refine end1 S (fun _=>?_);simp
theorem parse_wrong {text:List UInt8}{p:Nat}(h:parseF text=.error p):∃ pre suf,text=pre++suf∧p=pre.length∧(pre=[]∨∃ q,pre=q++[10])∧∀ line r,cutB 10 suf=(line,some r)→∀ more,parseF (pre++line++[10]++more)=.error p:=by
 obtain ⟨pre,suf,h1,h2,h3,h4⟩:=parse_where _ _ _ _ _ _ (Nat.lt_succ_self _) h;refine ⟨pre,suf,h1,by omega,h3,fun line r hc more=>?_⟩;rw[show pre++line++[10]++more=pre++line++10::more from by simp];exact h4 line r hc more _ (Nat.lt_succ_self _)
theorem cutT_c (xs:List LTerm)(m:Nat)(p:Option Addr)(c:Nat)(w0:World)(hc:xs.length≤c)(hm:m≤100000)(_hcm:c≤maxLen)(hx:Fx w0 (GlF p xs)) :
  Ret Tryz.prog 63 [.slice p xs.length c,.int .i64 (m:Nat)] w0 (fun _=>False) fun v w'=>∃ p' c',v=.slice p' (xs.take (m+1)).length c'∧w'.ownsRow 0 42 5 (.slice p' (xs.take (m+1)).length c') (xs.take (m+1)).length (encL (xs.take (m+1)))∧∀ ad,p'=some ad→w0.heap.size≤ad.block:=by
 unfold maxLen at _hcm;refine E1 Tryz.func63 rfl Tryz.ntmps63 (Wd.begin (fs:=[GlF p xs]) (by simpa using hx)) ?_;intro a S;refine J7 ?_;intro a S;refine sn S ?_;intro b5 a w S;refine J5 ?_;intro a S;rw[w6 ((m:Int)+1)]at S;refine J1 ?_;intro a S;rw[show min ((xs.length:Nat):Int) ((m:Int)+1)=(((xs.take (m+1)).length:Nat):Int) from by rw[List.length_take];omega]at S;have hL1:LeC c c:=⟨Nat.le_refl _⟩;have hL2:LeC (xs.take (m+1)).length c:=⟨by rw[List.length_take];omega⟩;have hlt:(xs.take (m+1)).length≤m+1:=by rw[List.length_take];omega
 refine J1 ?_;intro a S;replace S:=S.add (Φ:=GlF p (xs.take (m+1))) ((S.mem.fact (GlF p xs)).imp fun _ h=>h.take (m+1));replace S:=S.boxRow b5 5 0 rfl (by omega);refine sap S (by simp only[maxLen];omega) (by omega) ?_;rintro p2 c2 a w - S;rw[qqF,Nat.zero_add]at S;refine J4 ?_;intro a S;have hrow:=S.row p2 (xs.take (m+1)).length;have hnew:=S.rowNew p2 (xs.take (m+1)).length;refine end1 S (fun _=>?_);exact ⟨p2,c2,rfl,hrow,fun ad h=>(hnew ad h).elim (fun h=>h.elim) id⟩
theorem cutE_c (xs:List LEv)(m:Nat)(p:Option Addr)(c:Nat)(w0:World)(hc:xs.length≤c)(hm:m≤100000)(_hcm:c≤maxLen)(hx:Fx w0 (GlF p xs)) :
  Ret Tryz.prog 47 [.slice p xs.length c,.int .i64 (m:Nat)] w0 (fun _=>False) fun v w'=>∃ p' c',v=.slice p' (xs.take (m+1)).length c'∧w'.ownsRow 0 47 23 (.slice p' (xs.take (m+1)).length c') (xs.take (m+1)).length (encL (xs.take (m+1)))∧∀ ad,p'=some ad→w0.heap.size≤ad.block:=by
 unfold maxLen at _hcm;refine E1 Tryz.func47 rfl Tryz.ntmps47 (Wd.begin (fs:=[GlF p xs]) (by simpa using hx)) ?_;intro a S;refine J7 ?_;intro a S;refine sn S ?_;intro b5 a w S;refine J5 ?_;intro a S;rw[w6 ((m:Int)+1)]at S;refine J1 ?_;intro a S;rw[show min ((xs.length:Nat):Int) ((m:Int)+1)=(((xs.take (m+1)).length:Nat):Int) from by rw[List.length_take];omega]at S;have hL1:LeC c c:=⟨Nat.le_refl _⟩;have hL2:LeC (xs.take (m+1)).length c:=⟨by rw[List.length_take];omega⟩;have hlt:(xs.take (m+1)).length≤m+1:=by rw[List.length_take];omega
 refine J1 ?_;intro a S;replace S:=S.add (Φ:=GlF p (xs.take (m+1))) ((S.mem.fact (GlF p xs)).imp fun _ h=>h.take (m+1));replace S:=S.boxRow b5 23 0 rfl (by omega);refine sap S (by simp only[maxLen];omega) (by omega) ?_;rintro p2 c2 a w - S;rw[qqF,Nat.zero_add]at S;refine J4 ?_;intro a S;have hrow:=S.row p2 (xs.take (m+1)).length;have hnew:=S.rowNew p2 (xs.take (m+1)).length;refine end1 S (fun _=>?_);exact ⟨p2,c2,rfl,hrow,fun ad h=>(hnew ad h).elim (fun h=>h.elim) id⟩
theorem cutB24_c (xs:List Bool)(m:Nat)(p:Option Addr)(c:Nat)(w0:World)(hc:xs.length≤c)(hm:m≤100000)(_hcm:c≤maxLen)(hx:Fx w0 (GlF p xs)) :
  Ret Tryz.prog 93 [.slice p xs.length c,.int .i64 (m:Nat)] w0 (fun _=>False) fun v w'=>∃ p' c',v=.slice p' (xs.take (m+1)).length c'∧w'.ownsRow 0 4 1 (.slice p' (xs.take (m+1)).length c') (xs.take (m+1)).length (encL (xs.take (m+1)))∧∀ ad,p'=some ad→w0.heap.size≤ad.block:=by
 unfold maxLen at _hcm;refine E1 Tryz.func93 rfl Tryz.ntmps93 (Wd.begin (fs:=[GlF p xs]) (by simpa using hx)) ?_;intro a S;refine J7 ?_;intro a S;refine sn S ?_;intro b5 a w S;refine J5 ?_;intro a S;rw[w6 ((m:Int)+1)]at S;refine J1 ?_;intro a S;rw[show min ((xs.length:Nat):Int) ((m:Int)+1)=(((xs.take (m+1)).length:Nat):Int) from by rw[List.length_take];omega]at S;have hL1:LeC c c:=⟨Nat.le_refl _⟩;have hL2:LeC (xs.take (m+1)).length c:=⟨by rw[List.length_take];omega⟩;have hlt:(xs.take (m+1)).length≤m+1:=by rw[List.length_take];omega
 refine J1 ?_;intro a S;replace S:=S.add (Φ:=GlF p (xs.take (m+1))) ((S.mem.fact (GlF p xs)).imp fun _ h=>h.take (m+1));replace S:=S.boxRow b5 1 0 rfl (by omega);refine sap S (by simp only[maxLen];omega) (by omega) ?_;rintro p2 c2 a w - S;rw[qqF,Nat.zero_add]at S;refine J4 ?_;intro a S;have hrow:=S.row p2 (xs.take (m+1)).length;have hnew:=S.rowNew p2 (xs.take (m+1)).length;refine end1 S (fun _=>?_);exact ⟨p2,c2,rfl,hrow,fun ad h=>(hnew ad h).elim (fun h=>h.elim) id⟩
theorem kid_st24 {M:Nat→Prop}{w:World}{t x:LTerm}(h:Stable M w (LtF t))(hx:x∈t.kids):Stable M w (LtF x):=by
 obtain ⟨k,hk,rfl⟩:=List.mem_iff_getElem.1 hx;exact h.imp fun w' hw'=>((LtIn.iff.1 hw').2.2.get (List.getElem?_eq_getElem hk)).2
def pruneF:Nat→Term→Term
 | 0,.mk k u n s _=>.mk k u n (s.take 65) []
 | d+1,.mk k u n s ks=>.mk k u n (s.take 65) ((ks.take 3).map (pruneF d))
theorem pruneF_t (d:Nat)(t:LTerm):pruneF d t.t=.mk t.kind t.user t.num (t.text.take 65) ((if d=0 then [] else (t.kids.map LTerm.t).take 3).map (pruneF (d - 1))):=by
 rw[t.t_eq];cases d with
 | zero=>rfl
 | succ d=>rfl
theorem take_min {α:Type}(l:List α)(k:Nat):l.take (min l.length k)=l.take k:=by
 rw[List.take_eq_take_iff];omega
theorem set_mix {α:Type}{A B:List α}{k:Nat}{v:α}(hk:A[k]? = some v)(hl:A.length=B.length):(A.take k++B.drop k).set k v=A.take (k+1)++B.drop (k+1):=by
 have hkl:k < A.length:=(List.getElem?_eq_some_iff.1 hk).1;rw[List.set_append_right _ _ (by rw[List.length_take];omega),List.length_take,Nat.min_eq_left (by omega),Nat.sub_self,List.drop_eq_getElem_cons (show k < B.length by omega),List.set_cons_zero,List.take_add_one,hk];simp
theorem encL_drop24 (xs:List LTerm)(k:Nat)(h:k≤xs.length):(encL xs).drop (k*5)=encL (xs.drop k):=by
 have e:encL xs=encL (xs.take k)++encL (xs.drop k):=by rw[←encL_append,List.take_append_drop]
 have hl:(encL (xs.take k)).length=k*5:=by rw[encL_len,List.length_take,Nat.min_eq_left h];rfl
 rw[e,←hl,List.drop_left]
theorem encL_set24 (ys:List LTerm)(i:Nat)(x:LTerm)(h:i < ys.length):(encL ys).take (i*5)++x.cells++(encL ys).drop (i*5+x.cells.length)=encL (ys.set i x):=by
 have e1:(encL ys).take (i*5)=encL (ys.take i):=encL_take ys i;rw[show i*5+x.cells.length=(i+1)*5 from by simp;omega,encL_drop24 ys (i+1) (by omega),e1,←encT_cells,←encL_append,←encL_append,List.set_eq_take_append_cons_drop,if_pos h];simp
set_option maxHeartbeats 1000000 in
theorem prune_c0 (D:Nat):∀ (d:Nat) (t:LTerm) (M:Nat→Prop) (w0:World),d < D→d≤100→(∀ k,M k→k < w0.heap.size)→Stable M w0 (LtF t)→Ret Tryz.prog 20 [vL t,.int .i64 (d:Nat)] w0 (fun _=>False) fun v w'=>IsT M w' v (pruneF d t.t):=by
 induction D with
 | zero=>intro d _ _ _ h;exact absurd h (Nat.not_lt_zero _)
 | succ D ih=>
 intro d t M w0 hD hd hM hf;obtain ⟨hkc,hcm,-⟩:=LtIn.iff.1 hf.now;refine E1 Tryz.func20 rfl Tryz.ntmps20 (Wd.beginM (M:=M) (fs:=[LtF t]) hM (by simpa using hf)) ?_;intro a S;refine kS (kR ?_);refine sa S ?_;intro b2 a w S;refine sa S ?_;intro b4 a w S;refine J10 ?_;intro a S;rw[show min ((t.text.length:Nat):Int) 65=((min t.text.length 65:Nat):Int) from by omega]at S;have hL1:LeC (min t.text.length 65) t.text.length:=⟨by omega⟩;refine J1 ?_;intro a S;rw[List.drop_zero,take_min]at S;refine Y4 ?_;intro a w S;refine c_mrge3 S (fun(ks:List LTerm) (q:Option Addr) (e:Nat) uu=>[(14,uu 14),(0,uu 15),(0,uu 16),(0,uu 17),(0,uu 18),(0,uu 19),(0,uu 20)]) (fun(ks:List LTerm) (q:Option Addr) (e:Nat)=>[Wk.row 42 5 q ks.length e (encL ks),Wk.box b4 42 zTm,Wk.box b2 42 [.int .i64 t.kind,.int .i64 t.user,.int .i64 t.num,str (t.text.take 65),.slice q ks.length e],ext M]) (fun(ks:List LTerm) (q:Option Addr) (e:Nat)=>[AllL ks,LtF t]) (fun(ks:List LTerm) (q:Option Addr) (e:Nat)=>ks.map LTerm.t=(if d=0 then [] else (t.kids.map LTerm.t).take 3)∧(∀ x∈ks,x∈t.kids)∧ks.length≤3) ?_ ?_
 ·refine J4 ?_;intro a S
  refine srn S (cutT_c t.kids 2 t.p t.cap _ hkc (by decide) hcm ((ls_of_lt (S.t0 t)).imp fun _ h=>ls_gl h)) ?_;rintro _ a w ⟨p',c',rfl,hown,hnew⟩ hS -;have S:=hS hown hnew;clear hS;refine Y10 ?_;intro a w S;refine kC S (fun h3=>?_) (fun h3=>?_)
  ·refine Y5 ?_;intro a w S
   have hd0:d=0:=by simp at h3;omega
   replace S:=S.addNil 42 5;rw[show Wk.row 42 5 none 0 0 []=Wk.row 42 5 none 0 0 (encL ([]:List LTerm)) from rfl]at S;replace S:=S.add (Φ:=AllL []) (AllL.stable nofun);exact ⟨[],none,0,S.uu,⟨by rw[if_pos hd0];rfl,nofun,Nat.zero_le _⟩,S.sub _ _⟩
  ·refine kK (xtn ?_)
   have hd0:d≠0:=by simp at h3;omega
   replace S:=S.add (Φ:=AllL (t.kids.take 3)) (AllL.stable fun x hx=>kid_st24 (S.t t) (List.mem_of_mem_take hx));refine ⟨t.kids.take 3,p',c',S.uu,⟨by rw[if_neg hd0,List.map_take],fun x hx=>List.mem_of_mem_take hx,by rw[List.length_take];omega⟩,S.sub _ _⟩
 ·clear S;rintro ks q e uu a w ⟨hks,hsub,hkl3⟩ S
  refine J10 ?_;intro a S;refine c_fore2 S (fun(k:Nat) (ys:List LTerm) uu=>[(5,uu 5),(18,.int .i64 (k:Nat)),(0,uu 25),(0,uu 26),(0,uu 27),(0,uu 28),(0,uu 29),(0,uu 30),(0,uu 31),(0,uu 32),(0,uu 33),(0,uu 34),(0,uu 35),(0,uu 36),(0,uu 37),(0,uu 38),(0,uu 39)]) (fun(k:Nat) (ys:List LTerm)=>[Wk.row 42 5 q ks.length e (encL ys),Wk.box b4 42 zTm,Wk.box b2 42 [.int .i64 t.kind,.int .i64 t.user,.int .i64 t.num,str (t.text.take 65),.slice q ks.length e],ext M]) (fun(k:Nat) (ys:List LTerm)=>[AllL ys,LtF t]) (fun(k:Nat) (ys:List LTerm)=>k≤ks.length∧ys.length=ks.length∧ys.map LTerm.t=((ks.map LTerm.t).map (pruneF (d - 1))).take k++(ks.map LTerm.t).drop k∧ys.drop k=ks.drop k) (fun(k:Nat) (ys:List LTerm)=>ks.length - k) (0) (ks) ?_ S.uu ?_ ?_
  ·exact ⟨Nat.zero_le _,rfl,rfl,rfl⟩
  ·first | exact S | exact S.sub _ _
  ·clear S;rintro k ys uu a w ⟨hk,hyl,hym,hyd⟩ S
   refine J6 ?_;intro a S;refine kC S (fun h6=>?_) (fun h6=>?_)
   ·refine kK (xtn (kS (kB (kS ?_))))
    have hkl:k < ks.length:=by simp at h6;omega
    have hK:KLt k ks.length:=⟨hkl⟩;have hd1:1≤d:=by
     rcases Nat.eq_zero_or_pos d with h0 | h0
     ·rw[if_pos h0]at hks
      have:=congrArg List.length hks;simp at this;rw[this]at hkl;simp at hkl
     ·exact h0
    have hyk:ys[k]? = some (nthL ks k):=by
     have:=congrArg (fun l=>l[0]?) hyd;simp only[List.getElem?_drop,Nat.add_zero]at this;rw[this,nth_get hkl]
    refine J5 ?_;intro a S;refine c_drwe1 (.q 0 (.q 1 (.q 2 (.q 3 (.q 4 (.q 5 (.q 8 (.q 9 (.l 6 (.l 7 (.l 10 (.l 11 (.l 12 (.e)))))))))))))) S (fun(ys':List LTerm) uu=>[(27,uu 27),(0,uu 28),(0,uu 29),(0,uu 30),(0,uu 31),(0,uu 32),(0,uu 33),(0,uu 34),(0,uu 35),(0,uu 36),(0,uu 37),(0,uu 38)]) [Wk.box b4 42 zTm,Wk.box b2 42 [.int .i64 t.kind,.int .i64 t.user,.int .i64 t.num,str (t.text.take 65),.slice q ks.length e],ext M] (fun(ys':List LTerm)=>[Wk.row 42 5 q ks.length e (encL ys'),Wk.box b4 42 zTm,Wk.box b2 42 [.int .i64 t.kind,.int .i64 t.user,.int .i64 t.num,str (t.text.take 65),.slice q ks.length e],ext M]) (fun(ys':List LTerm)=>[AllL ys',LtF t]) (fun(ys':List LTerm)=>ys'.length=ks.length∧ys'.map LTerm.t=((ks.map LTerm.t).map (pruneF (d - 1))).take (k+1)++(ks.map LTerm.t).drop (k+1)∧ys'.drop (k+1)=ks.drop (k+1)) ?_ ?_
    ·intro w S
     (iterate 8 (refine tq S ?_;intro a S));rw[w6 ((d:Int) - 1),show (d:Int) - 1=((d - 1:Nat):Int) from by omega]at S;refine tl (sq S ?_);intro a S;refine te S ?_;refine tl ?_;refine slrA (nthL ks k).cells S ks.length (fun j v hj=>?_) ?_
     ·have hj5:j < 5:=(List.getElem?_eq_some_iff.1 hj).1
      rw[←hj];exact encL_get ys k _ hyk j hj5
     clear S;intro a S;refine te S ?_;refine tl ?_;refine sr S (ih (d - 1) (nthL ks k) _ w (by omega) (by omega) (foots_lt S) (kid_st24 (S.t t) (hsub _ (nth_mem hkl)))) ?_;rintro _ a w ⟨r,rfl,hr,hrf⟩ S;replace S:=S.add (Φ:=LtF r) hrf;refine te S ?_;refine tl (sq S ?_);intro a S;refine te S ?_;refine tl ?_;refine sws S ks.length (by omega) (by omega) ?_;intro a w S;rw[encL_set24 ys k r (by omega)]at S;refine te S ?_;refine tn ?_;refine ⟨ys.set k r,S.uu,⟨by simpa using hyl,?_,?_⟩,?_⟩
     ·rw[List.map_set,hym,hr]
      exact set_mix (by rw[List.getElem?_map,List.getElem?_map,nth_get hkl];rfl) (by simp)
     ·rw[List.drop_set_of_lt (by omega),←List.drop_drop,hyd,List.drop_drop]
     ·have h1:Stable _ _ (AllL ys):=S.wd.facts (AllL ys) (by simp)
      have h2:=S.t r;replace S:=S.add (Φ:=AllL (ys.set k r)) (fun w' hw' x hx=>by
       rcases List.mem_or_eq_of_mem_set hx with h | rfl
       ·exact h1 w' hw' x h
       ·exact h2 w' hw')
      exact S.sub _ _
    clear S;rintro ys' uu a w ⟨hyl',hym',hyd'⟩ S;refine J7 ?_;intro a S;rw[w6 ((k:Int)+1)]at S;exact ⟨k+1,ys',S.uu,⟨hkl,hyl',hym',hyd'⟩,S.sub _ _,by omega⟩
   ·refine Y12 ?_;intro a w S
    have hke:k=ks.length:=by simp at h6;omega
    have hrow:=S.row q ks.length;have hnewr:=S.rowNew q ks.length;have hall:=S.laterFact (M:=M) (Φ:=AllL ys) (by simp);have hym2:ys.map LTerm.t=(ks.map LTerm.t).map (pruneF (d - 1)):=by
     rw[hym,hke,List.take_of_length_le (by simp),List.drop_of_length_le (by simp),List.append_nil]
    refine end1 S (fun _=>?_);refine ⟨.mk t.kind t.user t.num (t.text.take 65) q e ys,by simp only[vL,LTerm.kind,LTerm.user,LTerm.num,LTerm.text,LTerm.p,LTerm.cap,LTerm.kids,hyl],?_,fun w' hw'=>?_⟩
    ·rw[pruneF_t,←hks,←hym2];exact LTerm.t_eq _
    ·have hls:=ls_of_own hrow (fun x hx=>AllL.get hall hx) (fun ad h hm=>(hnewr ad h).elim id (fun h2=>by have:=hM _ hm;omega))
     exact ⟨by rw[hyl];exact own_le hrow,own_capT hrow,hls w' hw'⟩
theorem prune_c (d:Nat)(hd:d≤100)(t:LTerm)(M:Nat→Prop)(w0:World)(hM:∀ k,M k→k < w0.heap.size)(hf:Stable M w0 (LtF t)):Ret Tryz.prog 20 [vL t,.int .i64 (d:Nat)] w0 (fun _=>False) fun v w'=>IsT M w' v (pruneF d t.t):=prune_c0 _ d t M w0 (Nat.lt_succ_self _) hd hM hf
theorem word_c (s:List UInt8)(w0:World):Ret Tryz.prog 92 [str s] w0 (fun _=>False) fun v _=>v=str (s.take 65):=by
 refine E1 Tryz.func92 rfl Tryz.ntmps92 (Wd.start w0) ?_;intro a S;refine J11 ?_;intro a S;rw[show min ((s.length:Nat):Int) 65=((min s.length 65:Nat):Int) from by omega]at S;have hL1:LeC (min s.length 65) s.length:=⟨by omega⟩;refine J5 ?_;intro a S;refine end1 S (fun _=>?_);rw[List.drop_zero,take_min]
instance {s:List UInt8}{bs fs} : CallV Tryz.prog 92 [str s] bs fs (str (s.take 65)):=⟨fun w _=>word_c s w⟩
def trimE (x:PEv):PEv:={ x with oname:=x.oname.take 65,name:=x.name.take 65,src:=x.src.take 65,body:=pruneF 8 x.body,term:=pruneF 8 x.term,keep:=x.keep.take 2049 }
def TrimR (M:Nat→Prop)(x:LEv)(v:Value)(w:World):Prop:=∃ y:LEv,v=vEv y∧Stable M w (InF y)∧FitE y∧y.e=trimE x.e
abbrev cutEv (x:LEv):List Value:=[.int .i64 x.kind,.int .i64 x.ok,.int .i64 x.ou,str (x.oname.take 65),.int .i64 x.oo,.int .i64 x.og,.bool x.ow,.int .i64 x.body.kind,.int .i64 x.body.user,.int .i64 x.body.num,str x.body.text,.slice x.body.p x.body.kids.length x.body.cap,str (x.name.take 65),str (x.src.take 65),
 .int .i64 x.term.kind,.int .i64 x.term.user,.int .i64 x.term.num,str x.term.text,.slice x.term.p x.term.kids.length x.term.cap,.int .i64 x.user,.int .i64 x.node,.int .i64 x.num,.slice x.keep.p x.keep.xs.length x.keep.cap]
set_option maxHeartbeats 1000000 in
theorem trim_c (x:LEv)(M:Nat→Prop)(w0:World)(hM:∀ k,M k→k < w0.heap.size)(hf:Stable M w0 (InF x)):Ret Tryz.prog 48 [vEv x] w0 (fun _=>False) fun v w'=>TrimR M x v w':=by
 have hin:=hf.now;obtain ⟨hk1,hk2,-⟩:=hin.2.2.1;refine E1 Tryz.func48 rfl Tryz.ntmps48 (Wd.beginM (M:=M) (fs:=[InF x]) hM (by simpa using hf)) ?_;intro a S;refine kS (kR ?_);refine sa S ?_;intro b1 a w S;refine sa S ?_;intro b2 a w S;refine kN (xtn (kS ?_));refine c_drwe0 (.q 0 (.q 3 (.q 6 (.q 7 (.b3 1 4 8 (.b3 2 4 8 (.b2 4 8 (.b2 5 8 (.l 8 (.q 10 (.l 9 (.l 11 (.q 12 (.l 13 (.q 14 (.q 15 (.l 16 (.e)))))))))) (.q 10 (.l 5 (.l 9 (.l 11 (.q 12 (.l 13 (.q 14 (.q 15 (.l 16 (.e))))))))))) (.l 4 (.q 10 (.l 5 (.l 9 (.l 11 (.q 12 (.l 13 (.q 14 (.q 15 (.l 16 (.e)))))))))))) (.b2 2 8 (.b2 5 8 (.l 8 (.q 10 (.l 9 (.l 11 (.q 12 (.l 13 (.q 14 (.q 15 (.l 16 (.e)))))))))) (.q 10 (.l 5 (.l 9 (.l 11 (.q 12 (.l 13 (.q 14 (.q 15 (.l 16 (.e))))))))))) (.l 2 (.q 10 (.l 5 (.l 9 (.l 11 (.q 12 (.l 13 (.q 14 (.q 15 (.l 16 (.e)))))))))))) (.b2 2 4 (.l 4 (.q 10 (.l 5 (.l 9 (.l 11 (.q 12 (.l 13 (.q 14 (.q 15 (.l 16 (.e))))))))))) (.l 2 (.q 10 (.l 5 (.l 9 (.l 11 (.q 12 (.l 13 (.q 14 (.q 15 (.l 16 (.e))))))))))))) (.b2 1 8 (.b2 2 8 (.b2 5 8 (.l 8 (.q 10 (.l 9 (.l 11 (.q 12 (.l 13 (.q 14 (.q 15 (.l 16 (.e)))))))))) (.q 10 (.l 5 (.l 9 (.l 11 (.q 12 (.l 13 (.q 14 (.q 15 (.l 16 (.e))))))))))) (.l 2 (.q 10 (.l 5 (.l 9 (.l 11 (.q 12 (.l 13 (.q 14 (.q 15 (.l 16 (.e)))))))))))) (.l 1 (.l 2 (.q 10 (.l 5 (.l 9 (.l 11 (.q 12 (.l 13 (.q 14 (.q 15 (.l 16 (.e))))))))))))) (.b2 1 4 (.b2 2 4 (.l 4 (.q 10 (.l 5 (.l 9 (.l 11 (.q 12 (.l 13 (.q 14 (.q 15 (.l 16 (.e))))))))))) (.l 2 (.q 10 (.l 5 (.l 9 (.l 11 (.q 12 (.l 13 (.q 14 (.q 15 (.l 16 (.e)))))))))))) (.l 1 (.l 2 (.q 10 (.l 5 (.l 9 (.l 11 (.q 12 (.l 13 (.q 14 (.q 15 (.l 16 (.e)))))))))))))))))) S (fun  uu=>[(3,uu 3),(0,uu 4),(0,uu 5),(0,uu 6),(0,uu 7),(0,uu 8),(0,uu 9),(0,uu 10),(0,uu 11),(0,uu 12),(0,uu 13),(0,uu 14),(0,uu 15),(0,uu 16)]) [ext M] ([Wk.box b2 47 (zCE 0),Wk.box b1 47 (cutEv x),ext M]) ([InF x]) (True) ?_ ?_
 intro w S;(iterate 4 (refine tq S ?_;intro a S));refine tb3 ?_ ?_ ?_;refine sq S ?_;intro a S;refine te S ?_;refine tb3 ?_ ?_ ?_;refine sc S ?_;intro a w S;refine te S ?_;refine tb2 ?_ ?_;refine sq S ?_;intro a S;refine te S ?_;refine tb2 ?_ ?_;refine sc S ?_;intro a w S;refine te S ?_;refine tl (sq S ?_);intro a S;refine te S ?_;refine tq S ?_;intro a S;refine tl (sc S ?_);intro a w S;refine te S ?_;refine tl (sw S ?_);intro a w S;refine te S ?_;refine tq S ?_;intro a S;refine tl (sw S ?_);intro a w S;refine te S ?_;(iterate 2 (refine tq S ?_;intro a S));refine tl (sw S ?_);intro a w S;refine te S ?_;refine tn ?_;exact ⟨S.uu,trivial,S.sub _ _⟩;refine sq S ?_;intro a S;refine te S ?_;refine tq S ?_;intro a S;refine tl (sc S ?_);intro a w S;refine te S ?_;refine tl (sc S ?_);intro a w S;refine te S ?_;refine tl (sw S ?_);intro a w S;refine te S ?_;refine tq S ?_;intro a S;refine tl (sw S ?_);intro a w S;refine te S ?_;(iterate 2 (refine tq S ?_;intro a S));refine tl (sw S ?_);intro a w S;refine te S ?_;refine tn ?_;exact ⟨S.uu,trivial,S.sub _ _⟩;refine sq S ?_;intro a S;refine te S ?_;refine tl (sq S ?_);intro a S;refine te S ?_;refine tq S ?_;intro a S;refine tl (sc S ?_);intro a w S;refine te S ?_;refine tl (sc S ?_);intro a w S;refine te S ?_;refine tl (sw S ?_);intro a w S;refine te S ?_;refine tq S ?_;intro a S;refine tl (sw S ?_);intro a w S;refine te S ?_;(iterate 2 (refine tq S ?_;intro a S));refine tl (sw S ?_);intro a w S;refine te S ?_;refine tn ?_;exact ⟨S.uu,trivial,S.sub _ _⟩
 refine sq S ?_;intro a S;refine te S ?_;refine tb2 ?_ ?_;refine sc S ?_;intro a w S;refine te S ?_;refine tb2 ?_ ?_;refine sc S ?_;intro a w S;refine te S ?_;refine tl (sq S ?_);intro a S;refine te S ?_;refine tq S ?_;intro a S;refine tl (sc S ?_);intro a w S;refine te S ?_;refine tl (sw S ?_);intro a w S;refine te S ?_;refine tq S ?_;intro a S;refine tl (sw S ?_);intro a w S;refine te S ?_;(iterate 2 (refine tq S ?_;intro a S));refine tl (sw S ?_);intro a w S;refine te S ?_;refine tn ?_;exact ⟨S.uu,trivial,S.sub _ _⟩;refine sq S ?_;intro a S;refine te S ?_;refine tq S ?_;intro a S;refine tl (sc S ?_);intro a w S;refine te S ?_;refine tl (sc S ?_);intro a w S;refine te S ?_;refine tl (sw S ?_);intro a w S;refine te S ?_;refine tq S ?_;intro a S;refine tl (sw S ?_);intro a w S;refine te S ?_;(iterate 2 (refine tq S ?_;intro a S));refine tl (sw S ?_);intro a w S;refine te S ?_;refine tn ?_;exact ⟨S.uu,trivial,S.sub _ _⟩;refine sq S ?_;intro a S;refine te S ?_;refine tl (sc S ?_);intro a w S;refine te S ?_;refine tq S ?_;intro a S;refine tl (sc S ?_);intro a w S;refine te S ?_;refine tl (sc S ?_);intro a w S;refine te S ?_;refine tl (sw S ?_);intro a w S;refine te S ?_;refine tq S ?_;intro a S;refine tl (sw S ?_);intro a w S;refine te S ?_;(iterate 2 (refine tq S ?_;intro a S));refine tl (sw S ?_);intro a w S;refine te S ?_;refine tn ?_;exact ⟨S.uu,trivial,S.sub _ _⟩;refine sq S ?_;intro a S;refine te S ?_;refine tb2 ?_ ?_;refine sc S ?_;intro a w S;refine te S ?_;refine tl (sq S ?_);intro a S;refine te S ?_;refine tq S ?_;intro a S;refine tl (sc S ?_);intro a w S;refine te S ?_;refine tl (sc S ?_);intro a w S;refine te S ?_;refine tl (sw S ?_);intro a w S;refine te S ?_;refine tq S ?_;intro a S;refine tl (sw S ?_);intro a w S;refine te S ?_;(iterate 2 (refine tq S ?_;intro a S));refine tl (sw S ?_);intro a w S;refine te S ?_;refine tn ?_
 exact ⟨S.uu,trivial,S.sub _ _⟩;refine sq S ?_;intro a S;refine te S ?_;refine tl (sc S ?_);intro a w S;refine te S ?_;refine tq S ?_;intro a S;refine tl (sc S ?_);intro a w S;refine te S ?_;refine tl (sc S ?_);intro a w S;refine te S ?_;refine tl (sw S ?_);intro a w S;refine te S ?_;refine tq S ?_;intro a S;refine tl (sw S ?_);intro a w S;refine te S ?_;(iterate 2 (refine tq S ?_;intro a S));refine tl (sw S ?_);intro a w S;refine te S ?_;refine tn ?_;exact ⟨S.uu,trivial,S.sub _ _⟩;refine sq S ?_;intro a S;refine te S ?_;refine tb2 ?_ ?_;refine sq S ?_;intro a S;refine te S ?_;refine tb2 ?_ ?_;refine sc S ?_;intro a w S;refine te S ?_;refine tb2 ?_ ?_;refine sc S ?_;intro a w S;refine te S ?_;refine tl (sq S ?_);intro a S;refine te S ?_;refine tq S ?_;intro a S;refine tl (sc S ?_);intro a w S;refine te S ?_;refine tl (sw S ?_);intro a w S;refine te S ?_;refine tq S ?_;intro a S;refine tl (sw S ?_);intro a w S;refine te S ?_;(iterate 2 (refine tq S ?_;intro a S));refine tl (sw S ?_);intro a w S;refine te S ?_;refine tn ?_;exact ⟨S.uu,trivial,S.sub _ _⟩;refine sq S ?_;intro a S;refine te S ?_;refine tq S ?_;intro a S;refine tl (sc S ?_);intro a w S;refine te S ?_;refine tl (sc S ?_);intro a w S;refine te S ?_;refine tl (sw S ?_);intro a w S;refine te S ?_;refine tq S ?_;intro a S;refine tl (sw S ?_);intro a w S;refine te S ?_;(iterate 2 (refine tq S ?_;intro a S));refine tl (sw S ?_);intro a w S;refine te S ?_;refine tn ?_;exact ⟨S.uu,trivial,S.sub _ _⟩;refine sq S ?_;intro a S;refine te S ?_;refine tl (sc S ?_);intro a w S;refine te S ?_;refine tq S ?_;intro a S;refine tl (sc S ?_);intro a w S;refine te S ?_;refine tl (sc S ?_);intro a w S;refine te S ?_;refine tl (sw S ?_);intro a w S;refine te S ?_;refine tq S ?_;intro a S;refine tl (sw S ?_);intro a w S;refine te S ?_;(iterate 2 (refine tq S ?_;intro a S));refine tl (sw S ?_);intro a w S;refine te S ?_;refine tn ?_
 exact ⟨S.uu,trivial,S.sub _ _⟩;refine sq S ?_;intro a S;refine te S ?_;refine tl (sq S ?_);intro a S;refine te S ?_;refine tl (sc S ?_);intro a w S;refine te S ?_;refine tq S ?_;intro a S;refine tl (sc S ?_);intro a w S;refine te S ?_;refine tl (sc S ?_);intro a w S;refine te S ?_;refine tl (sw S ?_);intro a w S;refine te S ?_;refine tq S ?_;intro a S;refine tl (sw S ?_);intro a w S;refine te S ?_;(iterate 2 (refine tq S ?_;intro a S));refine tl (sw S ?_);intro a w S;refine te S ?_;refine tn ?_;exact ⟨S.uu,trivial,S.sub _ _⟩;refine sq S ?_;intro a S;refine te S ?_;refine tb2 ?_ ?_;refine sq S ?_;intro a S;refine te S ?_;refine tb2 ?_ ?_;refine sc S ?_;intro a w S;refine te S ?_;refine tl (sq S ?_);intro a S;refine te S ?_;refine tq S ?_;intro a S;refine tl (sc S ?_);intro a w S;refine te S ?_;refine tl (sc S ?_);intro a w S;refine te S ?_;refine tl (sw S ?_);intro a w S;refine te S ?_;refine tq S ?_;intro a S;refine tl (sw S ?_);intro a w S;refine te S ?_;(iterate 2 (refine tq S ?_;intro a S));refine tl (sw S ?_);intro a w S;refine te S ?_;refine tn ?_;exact ⟨S.uu,trivial,S.sub _ _⟩;refine sq S ?_;intro a S;refine te S ?_;refine tl (sc S ?_);intro a w S;refine te S ?_;refine tq S ?_;intro a S;refine tl (sc S ?_);intro a w S;refine te S ?_;refine tl (sc S ?_);intro a w S;refine te S ?_;refine tl (sw S ?_);intro a w S;refine te S ?_;refine tq S ?_;intro a S;refine tl (sw S ?_);intro a w S;refine te S ?_;(iterate 2 (refine tq S ?_;intro a S));refine tl (sw S ?_);intro a w S;refine te S ?_;refine tn ?_
 exact ⟨S.uu,trivial,S.sub _ _⟩;refine sq S ?_;intro a S;refine te S ?_;refine tl (sq S ?_);intro a S;refine te S ?_;refine tl (sc S ?_);intro a w S;refine te S ?_;refine tq S ?_;intro a S;refine tl (sc S ?_);intro a w S;refine te S ?_;refine tl (sc S ?_);intro a w S;refine te S ?_;refine tl (sw S ?_);intro a w S;refine te S ?_;refine tq S ?_;intro a S;refine tl (sw S ?_);intro a w S;refine te S ?_;(iterate 2 (refine tq S ?_;intro a S));refine tl (sw S ?_);intro a w S;refine te S ?_;refine tn ?_;exact ⟨S.uu,trivial,S.sub _ _⟩;clear S;rintro  uu a w - S;refine J5 ?_;intro a S;refine srn S (cutB24_c x.keep.xs 2048 x.keep.p x.keep.cap _ hk1 (by decide) hk2 ((S.mem.fact0 (InF x)).imp fun _ h=>h.2.2.1.2.2)) ?_;rintro _ a w ⟨p',c',rfl,hown,hnew⟩ hS -;have S:=hS hown hnew;clear hS;refine Y5 ?_;intro a w S;refine c_drwe2 (.q 0 (.q 3 (.q 4 (.b2 1 5 (.b2 2 5 (.l 5 (.q 7 (.l 6 (.l 8 (.q 9 (.q 10 (.l 11 (.e)))))))) (.l 2 (.q 7 (.l 6 (.l 8 (.q 9 (.q 10 (.l 11 (.e))))))))) (.l 1 (.l 2 (.q 7 (.l 6 (.l 8 (.q 9 (.q 10 (.l 11 (.e))))))))))))) S (fun(z1:LTerm) (z2:LTerm) uu=>[(21,uu 21),(0,uu 22),(0,uu 23),(0,uu 24),(0,uu 25),(0,uu 26),(0,uu 27),(0,uu 28),(0,uu 29),(0,uu 30)]) [Wk.row 4 1 p' (x.keep.xs.take 2049).length c' (encL (x.keep.xs.take 2049)),Wk.box b2 47 (zCE 0),ext M] (fun(z1:LTerm) (z2:LTerm)=>[Wk.row 4 1 p' (x.keep.xs.take 2049).length c' (encL (x.keep.xs.take 2049)),Wk.box b2 47 (zCE 0),Wk.box b1 47 [.int .i64 x.kind,.int .i64 x.ok,.int .i64 x.ou,str (x.oname.take 65),.int .i64 x.oo,.int .i64 x.og,.bool x.ow,.int .i64 z2.kind,.int .i64 z2.user,.int .i64 z2.num,str z2.text,.slice z2.p z2.kids.length z2.cap,str (x.name.take 65),str (x.src.take 65),.int .i64 z1.kind,.int .i64 z1.user,.int .i64 z1.num,str z1.text,.slice z1.p z1.kids.length z1.cap,.int .i64 x.user,.int .i64 x.node,.int .i64 x.num,.slice p' (x.keep.xs.take 2049).length c'],ext M]) (fun(z1:LTerm) (z2:LTerm)=>[LtF z1,LtF z2]) (fun(z1:LTerm) (z2:LTerm)=>z1.t=pruneF 8 x.term.t∧z2.t=pruneF 8 x.body.t) ?_ ?_
 intro w S;(iterate 3 (refine tq S ?_;intro a S));refine tb2 ?_ ?_;refine sq S ?_;intro a S;refine te S ?_;refine tb2 ?_ ?_;refine sr S (prune_c 8 (by decide) x.term _ w (foots_lt S) (S.t x.term)) ?_;rintro _ a w ⟨z1,rfl,hz1,hf1⟩ S;replace S:=S.add (Φ:=LtF z1) hf1;refine te S ?_;refine tl (sq S ?_);intro a S;refine te S ?_;refine tq S ?_;intro a S;refine tl ?_;refine sr S (prune_c 8 (by decide) x.body _ w (foots_lt S) (S.t x.body)) ?_;rintro _ a w ⟨z2,rfl,hz2,hf2⟩ S;replace S:=S.add (Φ:=LtF z2) hf2;refine te S ?_;refine tl (sw S ?_);intro a w S;refine te S ?_;(iterate 2 (refine tq S ?_;intro a S));refine tl (sw S ?_);intro a w S;refine te S ?_;refine tn ?_;have q1:=S.t z1;have q2:=S.t z2;replace S:=(S.add (Φ:=LtF z2) q2).add (Φ:=LtF z1) q1;exact ⟨z1,z2,S.uu,⟨hz1,hz2⟩,S.sub _ _⟩;refine sq S ?_;intro a S;refine te S ?_;refine tl ?_;refine sr S (prune_c 8 (by decide) x.term _ w (foots_lt S) (S.t x.term)) ?_;rintro _ a w ⟨z1,rfl,hz1,hf1⟩ S;replace S:=S.add (Φ:=LtF z1) hf1;refine te S ?_;refine tq S ?_;intro a S;refine tl ?_;refine sr S (prune_c 8 (by decide) x.body _ w (foots_lt S) (S.t x.body)) ?_;rintro _ a w ⟨z2,rfl,hz2,hf2⟩ S;replace S:=S.add (Φ:=LtF z2) hf2;refine te S ?_;refine tl (sw S ?_);intro a w S;refine te S ?_;(iterate 2 (refine tq S ?_;intro a S));refine tl (sw S ?_);intro a w S;refine te S ?_;refine tn ?_;have q1:=S.t z1;have q2:=S.t z2;replace S:=(S.add (Φ:=LtF z2) q2).add (Φ:=LtF z1) q1;exact ⟨z1,z2,S.uu,⟨hz1,hz2⟩,S.sub _ _⟩;refine sq S ?_;intro a S;refine te S ?_;refine tl (sq S ?_);intro a S;refine te S ?_;refine tl ?_
 refine sr S (prune_c 8 (by decide) x.term _ w (foots_lt S) (S.t x.term)) ?_;rintro _ a w ⟨z1,rfl,hz1,hf1⟩ S;replace S:=S.add (Φ:=LtF z1) hf1;refine te S ?_;refine tq S ?_;intro a S;refine tl ?_;refine sr S (prune_c 8 (by decide) x.body _ w (foots_lt S) (S.t x.body)) ?_;rintro _ a w ⟨z2,rfl,hz2,hf2⟩ S;replace S:=S.add (Φ:=LtF z2) hf2;refine te S ?_;refine tl (sw S ?_);intro a w S;refine te S ?_;(iterate 2 (refine tq S ?_;intro a S));refine tl (sw S ?_);intro a w S;refine te S ?_;refine tn ?_;have q1:=S.t z1;have q2:=S.t z2;replace S:=(S.add (Φ:=LtF z2) q2).add (Φ:=LtF z1) q1;exact ⟨z1,z2,S.uu,⟨hz1,hz2⟩,S.sub _ _⟩;clear S;rintro z1 z2 uu a w ⟨hz1,hz2⟩ S;refine Y8 ?_;intro a w S;have hpl:=own_le (S.row p' (x.keep.xs.take 2049).length);have hpm:=own_capT (S.row p' (x.keep.xs.take 2049).length);replace S:=(S.front (Wk.row 4 1 p' (x.keep.xs.take 2049).length c' (encL (x.keep.xs.take 2049)))).rowToGl p' (x.keep.xs.take 2049) (e:=4) (sz:=1) (n:=(x.keep.xs.take 2049).length) (c:=c') (fun _ _ _ _=>trivial);have hrng:=hin.2.2.2;replace S:=S.add (Φ:=InF (⟨x.kind,x.ok,x.ou,x.oname.take 65,x.oo,x.og,x.ow,z2,x.name.take 65,x.src.take 65,z1,x.user,x.node,x.num,⟨p',c',x.keep.xs.take 2049⟩⟩:LEv)) (fun w' hw'=>⟨S.t z2 w' hw',S.t z1 w' hw',⟨hpl,hpm,S.wd.facts (GlF p' (x.keep.xs.take 2049)) (by simp) w' hw'⟩,hrng⟩);have hlat:=S.laterFact (M:=M) (Φ:=InF (⟨x.kind,x.ok,x.ou,x.oname.take 65,x.oo,x.og,x.ow,z2,x.name.take 65,x.src.take 65,z1,x.user,x.node,x.num,⟨p',c',x.keep.xs.take 2049⟩⟩:LEv)) (by simp)
 refine end1 S (fun _=>⟨_,rfl,hlat,⟨by show (x.keep.xs.take 2049).length≤_;rw[List.length_take];omega⟩,?_⟩);simp only[LEv.e,trimE,hz1,hz2]
theorem encL_setE (ys:List LEv)(i:Nat)(x:LEv)(h:i < ys.length):(encL ys).take (i*23)++cEv x++(encL ys).drop (i*23+(cEv x).length)=encL (ys.set i x):=by
 have e1:(encL ys).take (i*23)=encL (ys.take i):=encL_take ys i;have e2:(encL ys).drop ((i+1)*23)=encL (ys.drop (i+1)):=(encL_dropG ys (i+1)).symm;rw[show i*23+(cEv x).length=(i+1)*23 from by show i*23+23=_;omega,e2,e1,show cEv x=encL [x] from by rw[encL_cons,encL_nil,List.append_nil];rfl,←encL_append,←encL_append,List.set_eq_take_append_cons_drop,if_pos h];simp
def OwnR (M:Nat→Prop)(s:LScr)(v:Value)(w:World):Prop:=∃ s2:LScr,v=vScr s2∧Stable M w (InF s2)∧FitS s2∧s2.area=s.area∧s2.evs=(s.evs.take 301).map trimE
set_option maxHeartbeats 1000000 in
theorem own24_c (s:LScr)(M:Nat→Prop)(w0:World)(hM:∀ k,M k→k < w0.heap.size)(hf:Stable M w0 (InF s)):Ret Tryz.prog 12 [vScr s] w0 (fun _=>False) fun v w'=>OwnR M s v w':=by
 have hin:=hf.now;obtain ⟨⟨hk1,hk2,-⟩,hna⟩:=hin;refine E1 Tryz.func12 rfl Tryz.ntmps12 (Wd.beginM (M:=M) (fs:=[InF s]) hM (by simpa using hf)) ?_;intro a S;refine kS (kR ?_);refine sa S ?_;intro b1 a w S;refine sa S ?_;intro b2 a w S;refine J6 ?_;intro a S;refine srn S (cutE_c s.ev.xs 300 s.ev.p s.ev.cap _ hk1 (by decide) hk2 ((S.mem.fact0 (InF s)).imp fun _ h=>h.1.2.2)) ?_;rintro _ a w ⟨p',c',rfl,hown,hnew⟩ hS -;have S:=hS hown hnew;clear hS;obtain ⟨ks,hks⟩:∃ ks,ks=s.ev.xs.take 301:=⟨_,rfl⟩;rw[show s.ev.xs.take (300+1)=ks from hks.symm]at S;have hkl3:ks.length≤301:=by rw[hks,List.length_take];omega
 have hsub:∀ x∈ks,x∈s.ev.xs:=fun x hx=>by rw[hks]at hx;exact List.mem_of_mem_take hx
 refine Y14 ?_;intro a w S;refine c_fore2 S (fun(k:Nat) (ys:List LEv) uu=>[(3,uu 3),(0,uu 4),(7,.int .i64 (k:Nat)),(0,uu 13),(0,uu 14),(0,uu 15),(0,uu 16),(0,uu 17),(0,uu 18),(0,uu 19),(0,uu 20),(0,uu 21),(0,uu 22),(0,uu 23)]) (fun(k:Nat) (ys:List LEv)=>[Wk.row 47 23 p' ks.length c' (encL ys),Wk.box b2 26 [.int .i64 0,.slice none 0 0],Wk.box b1 26 [.int .i64 s.area,.slice p' ks.length c'],ext M]) (fun(k:Nat) (ys:List LEv)=>[AllI ys,InF s]) (fun(k:Nat) (ys:List LEv)=>k≤ks.length∧ys.length=ks.length∧ys.map LEv.e=((ks.map LEv.e).map trimE).take k++(ks.map LEv.e).drop k∧ys.drop k=ks.drop k∧∀ x∈ys.take k,FitE x) (fun(k:Nat) (ys:List LEv)=>ks.length - k) (0) (ks) ?_ S.uu ?_ ?_;exact ⟨Nat.zero_le _,rfl,rfl,rfl,nofun⟩;have q:=S.i s;replace S:=S.add (Φ:=AllI ks) (fun w' hw' x hx=>(q w' hw').1.2.2.2 x (hsub x hx));exact S.sub _ _;clear S;rintro k ys uu a w ⟨hk,hyl,hym,hyd,hyf⟩ S;refine J6 ?_;intro a S;refine kC S (fun h3=>?_) (fun h3=>?_);refine kK (xtn (kS (kB (kS ?_))));have hkl:k < ks.length:=by simp at h3;omega
 have hK:KLt k ks.length:=⟨hkl⟩;have hyk:ys[k]? = some (nthG ks k):=by
  have:=congrArg (fun l=>l[0]?) hyd;simp only[List.getElem?_drop,Nat.add_zero]at this;rw[this,nthG_get hkl]
 refine J3 ?_;intro a S;refine slrA (cEv (nthG ks k)) S ks.length (fun j v hj=>?_) ?_;have hj5:j < 23:=(List.getElem?_eq_some_iff.1 hj).1;rw[←hj];exact encL_get ys k _ hyk j hj5;clear S;intro a S;refine sa S ?_;intro b4 a w S;refine Y4 ?_;intro a w S;refine c_drwe1 (.q 0 (.q 1 (.q 2 (.q 3 (.l 4 (.l 5 (.l 6 (.e)))))))) S (fun(ys':List LEv) uu=>[(17,uu 17),(0,uu 18),(0,uu 19),(0,uu 20),(0,uu 21),(0,uu 22)]) [Wk.box b4 47 (cEv (nthG ks k)),Wk.box b2 26 [.int .i64 0,.slice none 0 0],Wk.box b1 26 [.int .i64 s.area,.slice p' ks.length c'],ext M] (fun(ys':List LEv)=>[Wk.box b4 47 (cEv (nthG ks k)),Wk.row 47 23 p' ks.length c' (encL ys'),Wk.box b2 26 [.int .i64 0,.slice none 0 0],Wk.box b1 26 [.int .i64 s.area,.slice p' ks.length c'],ext M]) (fun(ys':List LEv)=>[AllI ys',InF s]) (fun(ys':List LEv)=>ys'.length=ks.length∧ys'.map LEv.e=((ks.map LEv.e).map trimE).take (k+1)++(ks.map LEv.e).drop (k+1)∧ys'.drop (k+1)=ks.drop (k+1)∧∀ x∈ys'.take (k+1),FitE x) ?_ ?_;intro w S;(iterate 4 (refine tq S ?_;intro a S));refine tl ?_;refine sr S (trim_c (nthG ks k) _ w (foots_lt S) ((S.i s).imp fun _ h=>h.1.2.2.2 _ (hsub _ (nthG_mem hkl)))) ?_;rintro _ a w ⟨r,rfl,hrf,hfr,hr⟩ S;replace S:=S.add (Φ:=InF r) hrf;refine te S ?_;refine tl (sq S ?_);intro a S;refine te S ?_;refine tl ?_;refine sws S ks.length (by omega) (by omega) ?_;intro a w S;rw[encL_setE ys k r (by omega)]at S;refine te S ?_;refine tn ?_;refine ⟨ys.set k r,S.uu,⟨by simpa using hyl,?_,?_,?_⟩,?_⟩;rw[List.map_set,hym,hr];exact set_mix (by rw[List.getElem?_map,List.getElem?_map,nthG_get hkl];rfl) (by simp)
 rw[List.drop_set_of_lt (by omega),←List.drop_drop,hyd,List.drop_drop];intro x hx;rw[List.take_add_one,List.take_set_of_le (Nat.le_refl _),List.getElem?_set_self (by omega)]at hx;rcases List.mem_append.1 hx with hx | hx
 exact hyf x hx;have:x=r:=by simpa using hx
 rw[this];exact hfr;have h1:Stable _ _ (AllI ys):=S.wd.facts (AllI ys) (by simp);have h2:=S.i r;replace S:=S.add (Φ:=AllI (ys.set k r)) (fun w' hw' x hx=>by
  rcases List.mem_or_eq_of_mem_set hx with h | rfl
  exact h1 w' hw' x h;exact h2 w' hw')
 exact S.sub _ _;clear S;rintro ys' uu a w ⟨hyl',hym',hyd',hyf'⟩ S;refine J7 ?_;intro a S;rw[w6 ((k:Int)+1)]at S;exact ⟨k+1,ys',S.uu,⟨hkl,hyl',hym',hyd',hyf'⟩,S.sub _ _,by omega⟩;refine Y12 ?_;intro a w S;have hke:k=ks.length:=by simp at h3;omega
 have hpl:=own_le (S.row p' ks.length);have hpm:=own_capT (S.row p' ks.length);rw[←hyl]at hpl S;replace S:=(S.front (Wk.row 47 23 p' ys.length c' (encL ys))).rowToGl p' ys (e:=47) (sz:=23) (n:=ys.length) (c:=c') (S.wd.facts (AllI ys) (by simp));replace S:=S.add (Φ:=InF (⟨s.area,⟨p',c',ys⟩⟩:LScr)) (fun w' hw'=>⟨⟨hpl,hpm,S.wd.facts (GlF p' ys) (by simp) w' hw'⟩,hna⟩);have hlat:=S.laterFact (M:=M) (Φ:=InF (⟨s.area,⟨p',c',ys⟩⟩:LScr)) (by simp);refine end1 S (fun _=>⟨⟨s.area,⟨p',c',ys⟩⟩,rfl,hlat,⟨by show ys.length≤_;omega,fun x hx=>hyf x (by rw[hke,←hyl,List.take_length];exact hx)⟩,rfl,?_⟩)
 show ys.map LEv.e=_
 rw[hym,hke,List.take_of_length_le (by simp),List.drop_of_length_le (by simp),List.append_nil,hks,List.map_take];rfl
theorem check_all {l:List PEv}(h:checkE l=true):l.length≤300∧∀ x∈l,wrongV x=false:=by
 simp only[checkE,Bool.and_eq_true,decide_eq_true_eq,Bool.not_eq_true',List.any_eq_false]at h;exact ⟨h.1,fun x hx=>by simpa using h.2 x hx⟩
theorem all_check {l:List PEv}(h1:l.length≤300)(h2:∀ x∈l,wrongV x=false):checkE l=true:=by
 simp only[checkE,Bool.and_eq_true,decide_eq_true_eq,Bool.not_eq_true',List.any_eq_false];exact ⟨h1,fun x hx=>by simp[h2 x hx]⟩
theorem sameS_rfl' {s t:LScr}(h1:s.area=t.area)(h2:s.evs=t.evs):sameS s t=true:=by simp[sameS,h1,h2]
theorem print_back {w:World}{s:LScr}(hin:Lay.inn w s)(h:(printV s).2=0):(printV s).1.length≤262144∧parseF (printV s).1=.ok (s.area,s.evs):=by
 unfold printV at h⊢;split at h
 rename_i hc
 split at h
 rename_i hl
 rw[if_pos hc,if_pos hl];obtain ⟨h1,h2⟩:=check_all hc;refine ⟨hl,parse_print hin.2 (fun x hx=>⟨h2 x hx,?_⟩) h1⟩;obtain ⟨y,hy,rfl⟩:=List.mem_map.1 hx;exact nums_rng (hin.1.2.2.2 y hy).2.2.2;simp at h;simp at h
theorem parse_back {text:List UInt8}{s:LScr}(hl:text.length≤262144)(h:parseF text=.ok (s.area,s.evs)):printV s=(text,0)∧chkS s=0:=by
 obtain ⟨h1,h2,h3,h4⟩:=print_parse h;have hc:checkE s.evs=true:=all_check h4 fun x hx=>(h3 x hx).1
 rw[printV,if_pos hc,h1,if_pos hl,chkS,if_pos hc];exact ⟨rfl,rfl⟩
theorem err_le {text:List UInt8}{p:Nat}(h:parseF text=.error p):p≤text.length:=by
 obtain ⟨pre,suf,hT,hp,-⟩:=parse_wrong h;rw[hT,hp];simp
set_option maxHeartbeats 1000000 in
theorem scriptback_c (s:LScr)(t1:List UInt8)(w0:World)(ht:Fx w0 LibF)(hf:Fx w0 (InF s)):Ret Tryz.prog 4 [vScr s,str t1] w0 (fun _=>False) fun v _=>v=.bool true:=by
 refine E1 Tryz.func4 rfl Tryz.ntmps4 (Wd.begin (fs:=[LibF,InF s]) (by simp;exact ⟨ht,hf⟩)) ?_;intro a S;refine kS (kR ?_);refine sa S ?_;clear S;intro b2 a w S;refine J6 ?_;clear S;intro a S;refine sr S (wakes24_c _ (S.mem.fact0 LibF)) ?_;clear S;rintro _ a w rfl S;refine J3 ?_;clear S;intro a S;refine kC S (fun h1=>?_) (fun h1=>?_);refine J7 ?_;clear S;intro a S;exfalso;simp at h1;refine J5 ?_;clear S;intro a S;refine sr S (own24_c s _ w (foots_lt S) (S.i s)) ?_;clear S;rintro _ a w ⟨s1,rfl,hf1,hfit1,-,-⟩ S;replace S:=S.add hf1;have hin1:Lay.inn w s1:=hf1.now;refine sa S ?_;clear S;intro b5 a w S;refine Y7 ?_;clear S;intro a w S;refine sr S (print_c s1 hfit1 w ((S.mem.fact0 LibF).imp fun _ h=>h.1) (S.i0 s1)) ?_;clear S;rintro _ a w rfl S;refine J13 ?_;clear S;intro a S;refine kC S (fun h5=>?_) (fun h5=>?_);refine kS ?_;have hp0:(printV s1).2=0:=by simpa using h5
 obtain ⟨hl1,hpb⟩:=print_back hin1 hp0;refine J2 ?_;clear S;intro a S;refine sr S (parse_c (printV s1).1 (by omega) _ w (foots_lt S) (S.mem.fact LibF)) ?_;clear S;rintro _ a w ⟨s2,p,er,rfl,hf2,hfit2,hcase⟩ S;replace S:=S.add hf2;obtain ⟨har,hev,rfl,rfl⟩:s2.area=s1.area∧s2.evs=s1.evs∧p=0∧er=0:=by
  rcases hcase with ⟨h,-⟩ | ⟨-,⟨h,-⟩ | ⟨h,h2,h3⟩⟩
  omega;rw[hpb]at h;cases h;rw[hpb]at h;simp only[Except.ok.injEq,Prod.mk.injEq]at h;exact ⟨h.1.symm,h.2.symm,h2,h3⟩
 have hsame:sameS s2 s1=true:=sameS_rfl' har hev;refine J4 ?_;clear S;intro a S;refine sa S ?_;clear S;intro b8 a w S;refine Y16 ?_;clear S;intro a w S;refine gcr S (.bool true) (fun _=>scsame_c s2 s1 hfit2 w (S.i0 s2) (S.i0 s1)) ?_;clear S;rintro vv a w hR1 hR2 S;obtain rfl:vv=.bool true:=by
  rw[hsame]at hR1
  generalize hc:(!_:Bool)=c at hR1 hR2
  cases c with
  | true=>exact hR1 rfl
  | false=>exact hR2 rfl
 clear hR1 hR2;refine J4 ?_;clear S;intro a S;refine kC S (fun h7=>?_) (fun h7=>?_);refine J7 ?_;clear S;intro a S;exfalso;simp at h7;refine J8 ?_;clear S;intro a S;rw[show min ((t1.length:Nat):Int) 262144=((min t1.length 262144:Nat):Int) from by omega]at S;have hm0:LeC (min t1.length 262144) t1.length:=⟨by omega⟩;refine J1 ?_;clear S;intro a S;rw[List.drop_zero]at S;have hl0:(t1.take (min t1.length 262144)).length≤262144:=by simp;omega
 generalize t1.take (min t1.length 262144)=T at S hl0
 refine J6 ?_;clear S;intro a S;refine sr S (parse_c T (by omega) _ w (foots_lt S) (S.mem.fact LibF)) ?_;clear S;rintro _ a w ⟨s3,p3,e3,rfl,hf3,hfit3,hcase3⟩ S;replace S:=S.add hf3;refine J4 ?_;clear S;intro a S;refine sa S ?_;clear S;intro b11 a w S;refine Y12 ?_;clear S;intro a w S;refine kC S (fun h11=>?_) (fun h11=>?_);refine kS ?_;obtain ⟨hp3,rfl,rfl⟩:(printV s3=(T,0)∧chkS s3=0)∧p3=0∧e3=0:=by
  have he:e3=0:=by simpa using h11
  rcases hcase3 with ⟨-,-,-,h⟩ | ⟨-,⟨-,-,h⟩ | ⟨h,h2,h3⟩⟩
  omega;omega;exact ⟨parse_back hl0 h,h2,h3⟩
 refine J2 ?_;clear S;intro a S;refine sr S (print_c s3 hfit3 w ((S.mem.fact0 LibF).imp fun _ h=>h.1) (S.i0 s3)) ?_;clear S;rintro _ a w rfl S;rw[hp3.1]at S;refine J20 ?_;clear S;intro a S;refine J2 ?_;clear S;intro a S;refine gcr S (.int .i64 0) (fun _=>scheck_c s3 hfit3 w (S.i0 s3)) ?_;clear S;rintro vv a w hR1 hR2 S;obtain rfl:vv=.int .i64 0:=by
  rw[hp3.2]at hR1
  generalize hc:(_&&_:Bool)=c at hR1 hR2
  cases c with
  | true=>exact hR1 rfl
  | false=>exact hR2 rfl
 clear hR1 hR2;refine J7 ?_;clear S;intro a S;refine end1 S (fun _=>?_);simp;refine kK (xtn (kS ?_));obtain ⟨hp3,rfl,rfl⟩:p3≤T.length∧e3=340∧s3=zScr:=by
  have he:e3≠0:=by simpa using h11
  rcases hcase3 with ⟨h,-⟩ | ⟨-,⟨h,h2,h3⟩ | ⟨-,-,h3⟩⟩
  omega;exact ⟨err_le h,h3,h2⟩;exact absurd h3 he
 have hsz:sameS zScr zScr=true:=sameS_rfl' rfl rfl;refine J16 ?_;clear S;intro a S;refine gcr S (.bool true) (fun _=>scsame_c zScr zScr hfit3 w (fun w' _=>zScr_in w') (fun w' _=>zScr_in w')) ?_;clear S;rintro vv a w hR1 hR2 S;obtain rfl:vv=.bool true:=by
  rw[hsz]at hR1
  generalize hc:(_&&_:Bool)=c at hR1 hR2
  cases c with
  | true=>exact hR1 rfl
  | false=>exact hR2 rfl
 clear hR1 hR2;refine J5 ?_;clear S;intro a S;refine end1 S (fun _=>?_);simp[hp3];refine J8 ?_;clear S;intro a S;rw[show min ((t1.length:Nat):Int) 262144=((min t1.length 262144:Nat):Int) from by omega]at S;have hm0:LeC (min t1.length 262144) t1.length:=⟨by omega⟩;refine J1 ?_;clear S;intro a S;rw[List.drop_zero]at S;have hl0:(t1.take (min t1.length 262144)).length≤262144:=by simp;omega
 generalize t1.take (min t1.length 262144)=T at S hl0
 refine J6 ?_;clear S;intro a S;refine sr S (parse_c T (by omega) _ w (foots_lt S) (S.mem.fact LibF)) ?_;clear S;rintro _ a w ⟨s3,p3,e3,rfl,hf3,hfit3,hcase3⟩ S;replace S:=S.add hf3;refine J4 ?_;clear S;intro a S;refine sa S ?_;clear S;intro b11 a w S;refine Y12 ?_;clear S;intro a w S;refine kC S (fun h11=>?_) (fun h11=>?_);refine kS ?_;obtain ⟨hp3,rfl,rfl⟩:(printV s3=(T,0)∧chkS s3=0)∧p3=0∧e3=0:=by
  have he:e3=0:=by simpa using h11
  rcases hcase3 with ⟨-,-,-,h⟩ | ⟨-,⟨-,-,h⟩ | ⟨h,h2,h3⟩⟩
  omega;omega;exact ⟨parse_back hl0 h,h2,h3⟩
 refine J2 ?_;clear S;intro a S;refine sr S (print_c s3 hfit3 w ((S.mem.fact0 LibF).imp fun _ h=>h.1) (S.i0 s3)) ?_;clear S;rintro _ a w rfl S;rw[hp3.1]at S;refine J20 ?_;clear S;intro a S;refine J2 ?_;clear S;intro a S;refine gcr S (.int .i64 0) (fun _=>scheck_c s3 hfit3 w (S.i0 s3)) ?_;clear S;rintro vv a w hR1 hR2 S;obtain rfl:vv=.int .i64 0:=by
  rw[hp3.2]at hR1
  generalize hc:(_&&_:Bool)=c at hR1 hR2
  cases c with
  | true=>exact hR1 rfl
  | false=>exact hR2 rfl
 clear hR1 hR2;refine J7 ?_;clear S;intro a S;refine end1 S (fun _=>?_);simp;refine kK (xtn (kS ?_));obtain ⟨hp3,rfl,rfl⟩:p3≤T.length∧e3=340∧s3=zScr:=by
  have he:e3≠0:=by simpa using h11
  rcases hcase3 with ⟨h,-⟩ | ⟨-,⟨h,h2,h3⟩ | ⟨-,-,h3⟩⟩
  omega;exact ⟨err_le h,h3,h2⟩;exact absurd h3 he
 have hsz:sameS zScr zScr=true:=sameS_rfl' rfl rfl;refine J16 ?_;clear S;intro a S;refine gcr S (.bool true) (fun _=>scsame_c zScr zScr hfit3 w (fun w' _=>zScr_in w') (fun w' _=>zScr_in w')) ?_;clear S;rintro vv a w hR1 hR2 S;obtain rfl:vv=.bool true:=by
  rw[hsz]at hR1
  generalize hc:(_&&_:Bool)=c at hR1 hR2
  cases c with
  | true=>exact hR1 rfl
  | false=>exact hR2 rfl
 clear hR1 hR2;refine J5 ?_;clear S;intro a S;refine end1 S (fun _=>?_);simp[hp3]
open Go.ChangeShapes Go.WideShapes Go.ChangeAt Go.RowKit
structure NI where
 n:Int
instance encNI:Enc NI:=⟨1,fun x=>[.int .i64 x.n],fun _=>rfl,fun x u hu=>by obtain rfl:=List.mem_singleton.1 hu;rfl⟩
instance layNI:Lay NI:={ encNI with dflt:=⟨0⟩,inn:=fun _ x=>N64 x.n,mono:=fun _ _ _ _ h=>h }
instance troNI:Tro Tryz.prog 3 NI:=⟨fun enc w base spare held fuel cs x h=>by
 obtain ⟨k,e0,_,hw⟩:=DataW.trod_int Tryz.underlying3 h;have h2:(decide (IntKind.i64.min≤k)&&decide (k≤IntKind.i64.max))=true:=hw;rw[Bool.and_eq_true,decide_eq_true_eq,decide_eq_true_eq,show IntKind.i64.min = -9223372036854775808 from rfl,show IntKind.i64.max=9223372036854775807 from rfl]at h2;exact ⟨⟨k⟩,e0,h2⟩,by kernel_rfl⟩
instance troStr24:Tro Tryz.prog 9 (List UInt8):=troS Tryz.underlying9 (by kernel_rfl)
instance troBool24:Tro Tryz.prog 4 Bool:=troBo Tryz.underlying4 (by kernel_rfl)
instance troBools24:Tro Tryz.prog 45 (Sl Bool):=troSl Tryz.underlying45 (by kernel_rfl)
structure LOq where
 ok:Int
 ou:Int
 oname:List UInt8
 oo:Int
 og:Int
 ow:Bool
 body:LTerm
abbrev cOq (x:LOq):List Value:=[.int .i64 x.ok,.int .i64 x.ou,str x.oname,.int .i64 x.oo,.int .i64 x.og,.bool x.ow,.int .i64 x.body.kind,.int .i64 x.body.user,.int .i64 x.body.num,str x.body.text,.slice x.body.p x.body.kids.length x.body.cap]
instance encOq:Enc LOq:=⟨11,cOq,fun _=>rfl,fun x u hu=>by
 simp only[List.mem_cons,List.not_mem_nil,or_false]at hu;rcases hu with rfl | rfl | rfl | rfl | rfl | rfl | rfl | rfl | rfl | rfl | rfl <;> rfl⟩
instance layOq:Lay LOq:={ encOq with
 dflt:=⟨0,0,[],0,0,false,zeroL⟩
 inn:=fun w x=>LtIn w x.body∧N64 x.ok∧N64 x.ou∧N64 x.oo∧N64 x.og
 mono:=fun _w _w' x h hx=>⟨LtIn.mono h x.body hx.1,hx.2⟩ }
instance troOq:Tro Tryz.prog 44 LOq:=⟨fun enc w base spare held fuel cs x h=>by
 obtain ⟨hlen,hf⟩:=trod_flds Tryz.underlying44 h;rw[show Tryz.prog.cellsOf 44=11 from by kernel_rfl]at hlen;obtain ⟨n0,y0,g0⟩:=hf 0 3 0 rfl;obtain ⟨n1,y1,g1⟩:=hf 1 3 1 rfl;obtain ⟨n2,y2,g2⟩:=hf 2 9 2 rfl;obtain ⟨n3,y3,g3⟩:=hf 3 3 3 rfl;obtain ⟨n4,y4,g4⟩:=hf 4 3 4 rfl;obtain ⟨n5,y5,g5⟩:=hf 5 4 5 rfl;obtain ⟨n6,y6,g6⟩:=hf 6 42 6 rfl;obtain ⟨u0,e0,i0⟩:=trod_fld (α:=NI) g0 rfl;obtain ⟨u1,e1,i1⟩:=trod_fld (α:=NI) g1 rfl;obtain ⟨u2,e2,i2⟩:=trod_fld (α:=List UInt8) g2 rfl;obtain ⟨u3,e3,i3⟩:=trod_fld (α:=NI) g3 rfl;obtain ⟨u4,e4,i4⟩:=trod_fld (α:=NI) g4 rfl;obtain ⟨u5,e5,i5⟩:=trod_fld (α:=Bool) g5 rfl;obtain ⟨t,e6,i6⟩:=trod_fld (α:=LTerm) g6 rfl;refine ⟨⟨u0.n,u1.n,u2,u3.n,u4.n,u5,t⟩,?_,i6,i0,i1,i3,i4⟩
 match cs,hlen with
 | [c0,c1,c2,c3,c4,c5,d1,d2,d3,d4,d5],_=>
  have q0:[c0]=[.int .i64 u0.n]:=e0;have q1:[c1]=[.int .i64 u1.n]:=e1;have q2:[c2]=[str u2]:=e2;have q3:[c3]=[.int .i64 u3.n]:=e3;have q4:[c4]=[.int .i64 u4.n]:=e4;have q5:[c5]=[.bool u5]:=e5;have q6:[d1,d2,d3,d4,d5]=t.cells:=e6;simp only[List.cons.injEq,and_true]at q0 q1 q2 q3 q4 q5
  show [c0,c1,c2,c3,c4,c5]++[d1,d2,d3,d4,d5]=[.int .i64 u0.n,.int .i64 u1.n,str u2,.int .i64 u3.n,.int .i64 u4.n,.bool u5]++t.cells
  rw[q0,q1,q2,q3,q4,q5,q6],by kernel_rfl⟩
instance troEv:Tro Tryz.prog 47 LEv:=⟨fun enc w base spare held fuel cs x h=>by
 obtain ⟨hlen,hf⟩:=trod_flds Tryz.underlying47 h;rw[show Tryz.prog.cellsOf 47=23 from by kernel_rfl]at hlen;obtain ⟨n0,y0,g0⟩:=hf 0 3 0 rfl;obtain ⟨n1,y1,g1⟩:=hf 1 44 1 rfl;obtain ⟨n2,y2,g2⟩:=hf 2 9 12 rfl;obtain ⟨n3,y3,g3⟩:=hf 3 9 13 rfl;obtain ⟨n4,y4,g4⟩:=hf 4 42 14 rfl;obtain ⟨n5,y5,g5⟩:=hf 5 3 19 rfl;obtain ⟨n6,y6,g6⟩:=hf 6 3 20 rfl;obtain ⟨n7,y7,g7⟩:=hf 7 3 21 rfl;obtain ⟨n8,y8,g8⟩:=hf 8 45 22 rfl;obtain ⟨u0,e0,i0⟩:=trod_fld (α:=NI) g0 rfl;obtain ⟨o,e1,i1⟩:=trod_fld (α:=LOq) g1 rfl;obtain ⟨u2,e2,i2⟩:=trod_fld (α:=List UInt8) g2 rfl;obtain ⟨u3,e3,i3⟩:=trod_fld (α:=List UInt8) g3 rfl;obtain ⟨t,e4,i4⟩:=trod_fld (α:=LTerm) g4 rfl;obtain ⟨u5,e5,i5⟩:=trod_fld (α:=NI) g5 rfl;obtain ⟨u6,e6,i6⟩:=trod_fld (α:=NI) g6 rfl;obtain ⟨u7,e7,i7⟩:=trod_fld (α:=NI) g7 rfl;obtain ⟨u8,e8,i8⟩:=trod_fld (α:=Sl Bool) g8 rfl;refine ⟨⟨u0.n,o.ok,o.ou,o.oname,o.oo,o.og,o.ow,o.body,u2,u3,t,u5.n,u6.n,u7.n,u8⟩,?_,i1.1,i4,i8,i0,i1.2.1,i1.2.2.1,i1.2.2.2.1,i1.2.2.2.2,i5,i6,i7⟩
 match cs,hlen with
 | [c0,o0,o1,o2,o3,o4,o5,o6,o7,o8,o9,o10,c2,c3,d1,d2,d3,d4,d5,c5,c6,c7,c8],_=>
  have q0:[c0]=[.int .i64 u0.n]:=e0;have q1:[o0,o1,o2,o3,o4,o5,o6,o7,o8,o9,o10]=cOq o:=e1;have q2:[c2]=[str u2]:=e2;have q3:[c3]=[str u3]:=e3;have q4:[d1,d2,d3,d4,d5]=t.cells:=e4;have q5:[c5]=[.int .i64 u5.n]:=e5;have q6:[c6]=[.int .i64 u6.n]:=e6;have q7:[c7]=[.int .i64 u7.n]:=e7;have q8:[c8]=[u8.v]:=e8;simp only[List.cons.injEq,and_true]at q0 q2 q3 q5 q6 q7 q8
  show [c0]++([o0,o1,o2,o3,o4,o5,o6,o7,o8,o9,o10]++([c2,c3]++([d1,d2,d3,d4,d5]++[c5,c6,c7,c8])))=[.int .i64 u0.n]++(cOq o++([str u2,str u3]++(t.cells++[.int .i64 u5.n,.int .i64 u6.n,.int .i64 u7.n,u8.v])))
  rw[q0,q1,q2,q3,q4,q5,q6,q7,q8],by kernel_rfl⟩
instance troEvs:Tro Tryz.prog 24 (Sl LEv):=troSl Tryz.underlying24 (by kernel_rfl)
instance troSetup:Tro Tryz.prog 23 NI:=⟨fun enc w base spare held fuel cs x h=>by
 obtain ⟨hlen,hf⟩:=trod_flds Tryz.underlying23 h;rw[show Tryz.prog.cellsOf 23=1 from by kernel_rfl]at hlen;obtain ⟨n0,y0,g0⟩:=hf 0 3 0 rfl;obtain ⟨u0,e0,i0⟩:=trod_fld (α:=NI) g0 rfl;refine ⟨u0,?_,i0⟩
 match cs,hlen with
 | [c0],_=>exact e0,by kernel_rfl⟩
instance troScr:Tro Tryz.prog 26 LScr:=⟨fun enc w base spare held fuel cs x h=>by
 obtain ⟨hlen,hf⟩:=trod_flds Tryz.underlying26 h;rw[show Tryz.prog.cellsOf 26=2 from by kernel_rfl]at hlen;obtain ⟨n0,y0,g0⟩:=hf 0 23 0 rfl;obtain ⟨n1,y1,g1⟩:=hf 1 24 1 rfl;obtain ⟨u0,e0,i0⟩:=trod_fld (α:=NI) g0 rfl;obtain ⟨u1,e1,i1⟩:=trod_fld (α:=Sl LEv) g1 rfl;refine ⟨⟨u0.n,u1⟩,?_,i1,i0⟩
 match cs,hlen with
 | [c0,c1],_=>
  have q0:[c0]=[.int .i64 u0.n]:=e0;have q1:[c1]=[u1.v]:=e1;simp only[List.cons.injEq,and_true]at q0 q1
  show [c0,c1]=[.int .i64 u0.n,u1.v]
  rw[q0,q1],by kernel_rfl⟩
theorem open_str {H:Type}{enc:TypeId × Value→H}{P:Program}{w:World}{base:Nat}{sp:Nat→Bool}{held:Bool}{r:Reach}{b0:Nat}{t:TypeId}{v:Value}{d:DataW H}{ps:List MemPlace}(ht:P.underlying t=some .string)(hval:Value.okWide P w r b0 t v)(hd:DataW.Trod enc P w base sp held t v d ps) :
  ∃ s:List UInt8,v=str s∧d=.lit (.string s)∧ps=[]:=by
 obtain ⟨s,rfl,rfl,rfl,-⟩:=Go.ChangeMaps.open_string ht hval hd;exact ⟨s.data.toList,by cases s;simp[str],rfl,rfl⟩
end Go.Proofs.YtlgnhhebeandkaaGreatDoor