/- 10: a part of this claim's texts, joined: MemG MemH MemI MemJ MemK MemZ MemZB PlainMem MemL PlainMemB. -/
import Derived.Test.YtdakncgafdnjfaaGreatPm9
namespace Go.Proofs.YtdakncgafdnjfaaGreat
open Go.Proofs.Tryz
open Go Go.Wk
set_option synthInstance.maxSize 100000
set_option synthInstance.maxHeartbeats 400000
set_option maxRecDepth 100000
theorem GH (ys:List aK)(i:Nat)(x r:aK)(h:ys[i]? = some x)(hu:r.user=x.user)(hc:r.cnt=x.cnt):(aa ys).take (i*7+2)++r.root.cells++(aa ys).drop (i*7+2+r.root.cells.length)=aa (ys.set i r):=by
 induction ys generalizing i with
 | nil=>simp at h
 | cons y ys ih=>
  cases i with
  | zero=>
   obtain rfl:y=x:=by simpa using h
   obtain ⟨u,n,z⟩:=y;obtain ⟨u',n',z'⟩:=r;simp only at hu hc;subst hu hc;rw[List.set_cons_zero,bf,bf];rfl
  | succ i=>
   have:=ih i (by simpa using h);rw[List.set_cons_succ,bf,bf,←this];have h7:(cX.cells y:List Value).length=7:=cX.len y;rw[List.take_append,List.drop_append,h7,List.take_of_length_le (by rw[h7];omega),List.drop_of_length_le (by rw[h7];omega),show (i+1)*7+2 - 7=i*7+2 from by omega,show (i+1)*7+2+r.root.cells.length - 7=i*7+2+r.root.cells.length from by omega];simp
theorem Kb (xs:List aK)(p:Option Addr)(n c:Nat)(w0:World)(hn:xs.length=n)(hl:n≤1000000)(hx:Fx w0 (av p xs)) :
  aT prog 220 [.slice p n c] w0 (fun _=>False) fun v w'=>∃ p' c',v=.slice p' n c'∧w'.ownsRow 0 179 7 (.slice p' n c') n (aa xs)∧∀ ad,p'=some ad→w0.heap.size≤ad.block:=by
 refine E1 func220 rfl ntmps220 (Wd.begin (fs:=[av p xs]) (by simpa using hx)) ?_;intro a S;refine jq ?_;intro a S;refine kC S (fun h1=>?_) (fun h1=>?_);refine J7 ?_;intro a S;have hp:p=none:=by simpa using h1
 have hn0:xs=[]:=by
  rcases xs with _ | ⟨x,xs⟩
  rfl;have h1:=congrArg List.length (hx.now.1.1 hp);rw[aU]at h1;simp[cX.sz]at h1
 subst hn0;subst hn;refine aD S (fun _=>?_);exact ⟨none,0,rfl,World.ownsRow_nil _ _ _ _,fun _ h=>by cases h⟩;refine kK (aQ (kS (kR ?_)));refine sn S ?_;intro b5 a w S;refine J1 ?_;intro a S;replace S:=S.bT b5 7 0 rfl (by omega);have hN:eu xs n:=⟨hn⟩;refine gA S (by simp[maxLen];omega) (by omega) ?_;rintro p2 c2 a w - S;rw[j6,Nat.zero_add]at S;refine J4 ?_;intro a S;have hrow:=S.row p2 n;have hnew:=S.cQ p2 n;refine aD S (fun _=>?_);exact ⟨p2,c2,rfl,hrow,fun ad h=>(hnew ad h).elim (fun h=>h.elim) id⟩
theorem GI (xs:List aH)(p:Option Addr)(n c:Nat)(w0:World)(hn:xs.length=n)(hl:n≤1000000)(hx:Fx w0 (av p xs)) :
  aT prog 218 [.slice p n c] w0 (fun _=>False) fun v w'=>∃ p' c',v=.slice p' n c'∧w'.ownsRow 0 175 2 (.slice p' n c') n (aa xs)∧∀ ad,p'=some ad→w0.heap.size≤ad.block:=by
 refine E1 func218 rfl ntmps218 (Wd.begin (fs:=[av p xs]) (by simpa using hx)) ?_;intro a S;refine jq ?_;intro a S;refine kC S (fun h1=>?_) (fun h1=>?_);refine J7 ?_;intro a S;have hp:p=none:=by simpa using h1
 have hn0:xs=[]:=by
  rcases xs with _ | ⟨x,xs⟩
  rfl;have h1:=congrArg List.length (hx.now.1.1 hp);rw[aU]at h1;simp[cX.sz]at h1
 subst hn0;subst hn;refine aD S (fun _=>?_);exact ⟨none,0,rfl,World.ownsRow_nil _ _ _ _,fun _ h=>by cases h⟩;refine kK (aQ (kS (kR ?_)));refine sn S ?_;intro b5 a w S;refine J1 ?_;intro a S;replace S:=S.bT b5 2 0 rfl (by omega);have hN:eu xs n:=⟨hn⟩;refine gA S (by simp[maxLen];omega) (by omega) ?_;rintro p2 c2 a w - S;rw[j6,Nat.zero_add]at S;refine J4 ?_;intro a S;have hrow:=S.row p2 n;have hnew:=S.cQ p2 n;refine aD S (fun _=>?_);exact ⟨p2,c2,rfl,hrow,fun ad h=>(hnew ad h).elim (fun h=>h.elim) id⟩
theorem GJ (xs:List aH)(p:Option Addr)(n c:Nat)(w0:World)(hn:xs.length=n)(hl:n≤1000000)(hx:Fx w0 (av p xs)) :
  aT prog 219 [.slice p n c] w0 (fun _=>False) fun v w'=>∃ p' c',v=.slice p' n c'∧w'.ownsRow 0 177 2 (.slice p' n c') n (aa xs)∧∀ ad,p'=some ad→w0.heap.size≤ad.block:=by
 refine E1 func219 rfl ntmps219 (Wd.begin (fs:=[av p xs]) (by simpa using hx)) ?_;intro a S;refine jq ?_;intro a S;refine kC S (fun h1=>?_) (fun h1=>?_);refine J7 ?_;intro a S;have hp:p=none:=by simpa using h1
 have hn0:xs=[]:=by
  rcases xs with _ | ⟨x,xs⟩
  rfl;have h1:=congrArg List.length (hx.now.1.1 hp);rw[aU]at h1;simp[cX.sz]at h1
 subst hn0;subst hn;refine aD S (fun _=>?_);exact ⟨none,0,rfl,World.ownsRow_nil _ _ _ _,fun _ h=>by cases h⟩;refine kK (aQ (kS (kR ?_)));refine sn S ?_;intro b5 a w S;refine J1 ?_;intro a S;replace S:=S.bT b5 2 0 rfl (by omega);have hN:eu xs n:=⟨hn⟩;refine gA S (by simp[maxLen];omega) (by omega) ?_;rintro p2 c2 a w - S;rw[j6,Nat.zero_add]at S;refine J4 ?_;intro a S;have hrow:=S.row p2 n;have hnew:=S.cQ p2 n;refine aD S (fun _=>?_);exact ⟨p2,c2,rfl,hrow,fun ad h=>(hnew ad h).elim (fun h=>h.elim) id⟩
theorem GK (xs ys:List aH)(p q:Option Addr)(c e:Nat)(w0:World)(hl:xs.length≤1000000000)(hx:Fx w0 (av p xs))(hy:Fx w0 (av q ys)) :
  aT prog 129 [.slice p xs.length c,.slice q ys.length e] w0 (fun _=>False) fun v _=>v=.bool (decide (xs=ys)):=by
 refine E1 func129 rfl ntmps129 (Wd.begin (fs:=[av p xs,av q ys]) (by simp;exact ⟨hx,hy⟩)) ?_;intro a S;refine tI ?_;intro a S;refine kC S (fun h1=>?_) (fun h1=>?_);refine J7 ?_;intro a S;have hne:xs≠ys:=fun h=>by rw[h]at h1;simp at h1
 refine aD S (fun _=>?_);rw[decide_eq_false hne];refine gM ?_;intro a S;have hle:xs.length=ys.length:=by simp at h1;omega
 refine iH S (fun(k:Nat) uu=>[(4,uu 4),(0,uu 5),(7,.int .i64 (k:Nat)),(0,uu 14),(0,uu 15),(0,uu 16),(0,uu 17),(0,uu 18),(0,uu 19),(0,uu 20),(0,uu 21),(0,uu 22),(0,uu 23),(0,uu 24),(0,uu 25)]) (fun(k:Nat)=>k≤xs.length∧xs.take k=ys.take k) (fun(k:Nat)=>xs.length - k) (0) ?_ S.uu ?_ ?_;exact ⟨Nat.zero_le _,rfl⟩
 first | exact S | exact S.sub _ _
 clear S;rintro k uu a w ⟨hk,aI⟩ S;refine J6 ?_;intro a S;refine kC S (fun h4=>?_) (fun h4=>?_);refine kK (aQ (kS (kB (kS ?_))));have bn:k < xs.length:=by simpa using h4
 have SQ:cx k xs.length:=⟨bn⟩;have Cq:cx k ys.length:=⟨by omega⟩;refine J6 ?_;intro a S;refine bM [T9 0,T9 1,T9 2,T9 3,T9 4,T9 5,T9 6,T9 7,T9 8] [] S ?_;intro w S;(iterate 9 (refine dq S ?_;intro a S));refine dn (aQ ?_);refine kC S (fun h6=>?_) (fun h6=>?_);refine gM ?_;intro a S;have h9:aq xs k≠aq ys k:=by simpa using h6
 have hne:xs≠ys:=fun h=>h9 (by rw[h])
 refine aD S (fun _=>?_);rw[decide_eq_false hne];refine J8 ?_;intro a S;have h9:aq xs k=aq ys k:=by simpa using h6
 rw[w6 ((k:Int)+1)]at S;exact ⟨k+1,S.uu,⟨bn,by rw[eC bn,eC (show k < ys.length by omega),aI,h9]⟩,S.sub _ _,by omega⟩;refine gM ?_;intro a S;have h9:xs.length≤k:=by simpa using h4
 rw[List.take_of_length_le h9,List.take_of_length_le (by omega)]at aI;refine aD S (fun _=>?_);rw[decide_eq_true aI]
theorem GL (xs ys:List aH)(p q:Option Addr)(c e:Nat)(w0:World)(hl:xs.length≤1000000000)(hx:Fx w0 (av p xs))(hy:Fx w0 (av q ys)) :
  aT prog 130 [.slice p xs.length c,.slice q ys.length e] w0 (fun _=>False) fun v _=>v=.bool (decide (xs=ys)):=by
 refine E1 func130 rfl ntmps130 (Wd.begin (fs:=[av p xs,av q ys]) (by simp;exact ⟨hx,hy⟩)) ?_;intro a S;refine tI ?_;intro a S;refine kC S (fun h1=>?_) (fun h1=>?_);refine J7 ?_;intro a S;have hne:xs≠ys:=fun h=>by rw[h]at h1;simp at h1
 refine aD S (fun _=>?_);rw[decide_eq_false hne];refine gM ?_;intro a S;have hle:xs.length=ys.length:=by simp at h1;omega
 refine iH S (fun(k:Nat) uu=>[(4,uu 4),(0,uu 5),(7,.int .i64 (k:Nat)),(0,uu 14),(0,uu 15),(0,uu 16),(0,uu 17),(0,uu 18),(0,uu 19),(0,uu 20),(0,uu 21),(0,uu 22),(0,uu 23),(0,uu 24),(0,uu 25)]) (fun(k:Nat)=>k≤xs.length∧xs.take k=ys.take k) (fun(k:Nat)=>xs.length - k) (0) ?_ S.uu ?_ ?_;exact ⟨Nat.zero_le _,rfl⟩
 first | exact S | exact S.sub _ _
 clear S;rintro k uu a w ⟨hk,aI⟩ S;refine J6 ?_;intro a S;refine kC S (fun h4=>?_) (fun h4=>?_);refine kK (aQ (kS (kB (kS ?_))));have bn:k < xs.length:=by simpa using h4
 have SQ:cx k xs.length:=⟨bn⟩;have Cq:cx k ys.length:=⟨by omega⟩;refine J6 ?_;intro a S;refine bM [T9 0,T9 1,T9 2,T9 3,T9 4,T9 5,T9 6,T9 7,T9 8] [] S ?_;intro w S;(iterate 9 (refine dq S ?_;intro a S));refine dn (aQ ?_);refine kC S (fun h6=>?_) (fun h6=>?_);refine gM ?_;intro a S;have h9:aq xs k≠aq ys k:=by simpa using h6
 have hne:xs≠ys:=fun h=>h9 (by rw[h])
 refine aD S (fun _=>?_);rw[decide_eq_false hne];refine J8 ?_;intro a S;have h9:aq xs k=aq ys k:=by simpa using h6
 rw[w6 ((k:Int)+1)]at S;exact ⟨k+1,S.uu,⟨bn,by rw[eC bn,eC (show k < ys.length by omega),aI,h9]⟩,S.sub _ _,by omega⟩;refine gM ?_;intro a S;have h9:xs.length≤k:=by simpa using h4
 rw[List.take_of_length_le h9,List.take_of_length_le (by omega)]at aI;refine aD S (fun _=>?_);rw[decide_eq_true aI]
theorem lM {α:Type}(zs:List α)(k:Nat)(s:α)(h:k < zs.length):(zs.set k s).take (k+1)=zs.take k++[s]:=by
 rw[List.take_succ_eq_append_getElem (by rw[List.length_set];exact h),List.getElem_set_self,List.take_set_of_le (Nat.le_refl _)]
theorem DF (N:Nat):∀ (t:ak) (M:Nat→Prop) (w0:World),SizeOf.sizeOf t < N→cnt t.t≤1200→(∀ k,M k→k < w0.heap.size)→ag M w0 (dc t)→aT prog 221 [vL t] w0 (fun _=>False) fun v w'=>Pt M w0.heap.size w' v t.t:=by
 induction N with
 | zero=>intro t _ _ h;exact absurd h (Nat.not_lt_zero _)
 | succ N ih=>
 intro t M w0 hN hc hM hf;have hlen:t.kids.length≤1200:=by have h1:=mC t;have h2:=vO (t.kids.map ak.t);rw[List.length_map]at h2;omega
 have hkc:∀ x∈t.kids,cnt x.t≤1200:=fun x hx=>by have h1:=mC t;have h2:=uE (List.mem_map.2 ⟨x,hx,rfl⟩:x.t∈t.kids.map ak.t);omega
 refine E1 func221 rfl ntmps221 (Wd.fE (M:=M) (fs:=[dc t]) hM (by simpa using hf)) ?_;intro a S;refine kS (kR ?_);refine sa S ?_;intro b1 a w S;refine sa S ?_;intro b2 a w S;refine J6 ?_;intro a S;refine jU S (Et t.kids t.p t.kids.length t.cap _ rfl (by omega) (lT (S.t0 t))) ?_;rintro _ a w ⟨p',c',rfl,hown,hnew⟩ hS -;have S:=hS hown hnew;clear hS;refine Li ?_;intro a w S;refine iI S (fun(k:Nat) (ys:List ak) uu=>[(3,uu 3),(7,.int .i64 (k:Nat)),(0,uu 12),(0,uu 13),(0,uu 14),(0,uu 15),(0,uu 16),(0,uu 17),(0,uu 18),(0,uu 19),(0,uu 20),(0,uu 21),(0,uu 22),(0,uu 23),(0,uu 24)]) (fun(k:Nat) (ys:List ak)=>[Wk.row 43 5 p' t.kids.length c' (aa ys),Wk.box b2 43 eO.cells,Wk.box b1 43 [.int .i64 t.kind,.int .i64 t.user,.int .i64 t.num,str t.text,.slice p' t.kids.length c'],ext M]) (fun(k:Nat) (ys:List ak)=>[dA ys,dc t]) (fun(k:Nat) (ys:List ak)=>k≤t.kids.length∧ys.length=t.kids.length∧ys.map ak.t=t.kids.map ak.t∧ys.drop k=t.kids.drop k∧∀ z∈ys.take k,tf w0.heap.size z) (fun(k:Nat) (ys:List ak)=>t.kids.length - k) (0) (t.kids) ?_ S.uu ?_ ?_
 ·exact ⟨Nat.zero_le _,rfl,rfl,rfl,nofun⟩
 ·exact S.add (Φ:=dA t.kids) (dA.aO fun x hx=>rV (S.t t) hx)
 ·clear S;rintro k ys uu a w ⟨hk,wR,CN,OZ,ZL⟩ S
  refine J6 ?_;intro a S;refine kC S (fun h3=>?_) (fun h3=>?_)
  ·refine kK (aQ (kS (kB (kS ?_))))
   have bn:k < t.kids.length:=by simp at h3;omega
   have hK:cx k t.kids.length:=⟨bn⟩;have Sm:ys[k]? = some (gP t.kids k):=by
    have:=congrArg (fun l=>l[0]?) OZ;simp only[List.getElem?_drop,Nat.add_zero]at this;rw[this,jn bn]
   refine J5 ?_;intro a S;refine tN (.q 0 (.q 1 (.q 2 (.q 3 (.q 4 (.q 5 (.l 6 (.l 7 (.l 8 (.l 9 (.l 10 (.e)))))))))))) S (fun(ys':List ak) uu=>[(14,uu 14),(0,uu 15),(0,uu 16),(0,uu 17),(0,uu 18),(0,uu 19),(0,uu 20),(0,uu 21),(0,uu 22),(0,uu 23)]) [Wk.box b2 43 eO.cells,Wk.box b1 43 [.int .i64 t.kind,.int .i64 t.user,.int .i64 t.num,str t.text,.slice p' t.kids.length c'],ext M] (fun(ys':List ak)=>[Wk.row 43 5 p' t.kids.length c' (aa ys'),Wk.box b2 43 eO.cells,Wk.box b1 43 [.int .i64 t.kind,.int .i64 t.user,.int .i64 t.num,str t.text,.slice p' t.kids.length c'],ext M]) (fun(ys':List ak)=>[dA ys',dc t]) (fun(ys':List ak)=>ys'.length=t.kids.length∧ys'.map ak.t=t.kids.map ak.t∧ys'.drop (k+1)=t.kids.drop (k+1)∧∀ z∈ys'.take (k+1),tf w0.heap.size z) ?_ ?_
   ·intro w S
    (iterate 6 (refine tq S ?_;intro a S));refine tl (sq S ?_);intro a S;refine te S ?_;refine tl ?_;refine Lq (gP t.kids k).cells S t.kids.length (fun j v hj=>?_) ?_
    ·have Cm:j < 5:=(List.getElem?_eq_some_iff.1 hj).1
     rw[←hj];exact eV ys k _ Sm j Cm
    clear S;intro a S;refine te S ?_;refine tl ?_;have tv:w0.heap.size≤w.heap.size:=S.wd.agree.size;refine sr S (ih (gP t.kids k) _ w (by have:=ak.lH (fC bn);omega) (hkc _ (fC bn)) (a_ S) (rV (S.t t) (fC bn))) ?_;rintro _ a w ⟨r,rfl,hr,Ug,-,TN⟩ S;replace TN:=TN.up tv;replace S:=S.add (Φ:=dc r) Ug;refine te S ?_;refine tl (sq S ?_);intro a S;refine te S ?_;refine tl ?_;refine CJ S t.kids.length (by omega) (by omega) ?_;intro a w S;rw[BD ys k r (by omega)]at S;refine te S ?_;refine tn ?_;refine ⟨ys.set k r,S.uu,⟨by simpa using wR,Fg ys k r _ CN (by rw[List.getElem?_map,jn bn,hr];rfl),?_,?_⟩,?_⟩
    ·rw[List.drop_set_of_lt (by omega),←List.drop_drop,OZ,List.drop_drop]
    ·rw[lM ys k _ (by omega)]
     intro z hz;rcases List.mem_append.1 hz with h | h
     ·exact ZL z h
     ·rw[List.mem_singleton.1 h];exact TN
    ·have h1:ag _ _ (dA ys):=S.wd.facts (dA ys) (by simp)
     have h2:=S.t r;replace S:=S.add (Φ:=dA (ys.set k r)) (fun w' bP x hx=>by
      rcases List.mem_or_eq_of_mem_set hx with h | rfl
      ·exact h1 w' bP x h
      ·exact h2 w' bP)
     exact S.sub _ _
   clear S;rintro ys' uu a w ⟨Qn,Qo,Qp,ZM⟩ S;refine J7 ?_;intro a S;rw[w6 ((k:Int)+1)]at S;exact ⟨k+1,ys',S.uu,⟨bn,Qn,Qo,Qp,ZM⟩,S.sub _ _,by omega⟩
  ·refine uh ?_;intro a w S
   have ZN:t.kids.length≤k:=by simp at h3;omega
   rw[List.take_of_length_le (by omega)]at ZL;have hrow:=S.row p' t.kids.length;have hnew:=S.cQ p' t.kids.length;have hall:=S.fY (Φ:=dA ys) (by simp);refine aD S (fun _=>?_);refine ⟨.mk t.kind t.user t.num t.text p' c' ys,by simp only[vL,ak.kind,ak.user,ak.num,ak.text,ak.p,ak.cap,ak.kids,wR],?_,fun w' bP=>?_,?_,.mk (fun ad h=>(hnew ad h).elim (fun h=>h.elim) id) ZL⟩
   ·rw[t.mN,←CN];exact ak.mN _
   ·have hls:=j8 hrow (fun x hx=>dA.get hall hx) (fun ad h hm=>(hnew ad h).elim id (fun h2=>by have:=hM _ hm;omega))
    exact ⟨by rw[wR];exact gm hrow,Ff hrow,hls w' bP⟩
   ·have hw:=uP (M:=M) hrow (fun ad h hm=>(hnew ad h).elim id (fun h2=>by have:=hM _ hm;omega))
    rw[←wR]at hw;exact hw
theorem GM (t:ak)(M:Nat→Prop)(w0:World)(hc:cnt t.t≤1200)(hM:∀ k,M k→k < w0.heap.size)(hf:ag M w0 (dc t)):aT prog 221 [vL t] w0 (fun _=>False) fun v w'=>Pt M w0.heap.size w' v t.t:=DF _ t M w0 (Nat.lt_succ_self _) hc hM hf
theorem Ke (x y:aK)(w0:World)(fx:Fx w0 (dc x.root))(fy:Fx w0 (dc y.root)) :
  aT prog 128 [.agg ⟨kH x⟩,.agg ⟨kH y⟩] w0 (fun _=>False) fun v _=>v=.bool (decide (x.user=y.user)&&decide (x.cnt=y.cnt)&&gw x.root.t y.root.t):=by
 refine E1 func128 rfl ntmps128 (Wd.begin (fs:=[dc x.root,dc y.root]) (by simp;exact ⟨fx,fy⟩)) ?_;intro a S;refine kS (kR ?_);refine sa S ?_;intro b2 a w S;refine sa S ?_;intro b3 a w S;refine Lh ?_;intro a S;refine gS S (fun hs S=>?_) (fun hs S=>?_);refine gT S ?_;refine sq S ?_;intro a S;refine gT S ?_;refine sq S ?_;intro a S;refine gT S ?_;refine sq S ?_;intro a S;refine gT S ?_;refine sq S ?_;intro a S;refine gT S ?_;refine sr S (HN x.root y.root _ (S.t0 _) (S.t0 _)) ?_;rintro _ a w rfl S;refine J5 ?_;intro a S;exact aD S (fun _=>by rw[hs,Bool.true_and]);refine gF S ?_;intro a S;(iterate 4 (refine gF S ?_;intro a S));(iterate 2 (refine sq S ?_;intro a S));refine kN (aQ (kT ?_));exact aD S (fun _=>by rw[hs,Bool.false_and])
theorem zI {x y:aK} : (decide (x.user=y.user)&&decide (x.cnt=y.cnt)&&gw x.root.t y.root.t)=true↔x.s=y.s:=by
 rw[Bool.and_eq_true,Bool.and_eq_true,decide_eq_true_eq,decide_eq_true_eq,xe];constructor;rintro ⟨⟨h1,h2⟩,h3⟩;rw[aK.s,aK.s,h1,h2,h3];intro h;rw[aK.s,aK.s]at h;injection h with h1 h2 h3;exact ⟨⟨h1,h2⟩,h3⟩
theorem Ur (xs ys:List aK)(p q:Option Addr)(c d:Nat)(w0:World)(hl:xs.length≤1000000)(hx:Fx w0 (av p xs))(hy:Fx w0 (av q ys)) :
  aT prog 131 [.slice p xs.length c,.slice q ys.length d,.func (.func 128) #[] #[]] w0 (fun _=>False) fun v _=>∃ b,v=.bool b∧(b=true↔cU xs=cU ys):=by
 refine E1 func131 rfl ntmps131 (Wd.begin (fs:=[av p xs,av q ys]) (by simp;exact ⟨hx,hy⟩)) ?_;intro a S;refine tI ?_;intro a S;refine kC S (fun h1=>?_) (fun h1=>?_);refine J7 ?_;intro a S;refine aD S (fun _=>⟨false,rfl,⟨nofun,fun he=>?_⟩⟩);have:=congrArg List.length he;simp only[cU,List.length_map]at this;simp at h1;omega;refine gM ?_;intro a S;have hle:xs.length=ys.length:=by simp at h1;omega
 refine fD S (fun(k:Nat) uu=>[(6,uu 6),(0,uu 7),(0,uu 8),(0,uu 9),(7,.int .i64 (k:Nat)),(0,uu 18),(0,uu 19),(0,uu 20),(0,uu 21),(0,uu 22),(0,uu 23),(0,uu 24),(0,uu 25),(0,uu 26),(0,uu 27),(0,uu 28),(0,uu 29),(0,uu 30),(0,uu 31)]) (fun(k:Nat)=>[]) (fun(k:Nat)=>[av p xs,av q ys]) (fun(k:Nat)=>k≤xs.length∧∀ a,a < k→(aq xs a).s=(aq ys a).s) (fun(k:Nat)=>xs.length - k) (0) ?_ S.uu ?_ ?_;exact ⟨Nat.zero_le _,fun a h=>absurd h (Nat.not_lt_zero a)⟩
 first | exact S | exact S.sub _ _
 clear S;rintro k uu a w ⟨hk,K6⟩ S;refine J6 ?_;intro a S;refine kC S (fun h4=>?_) (fun h4=>?_);refine kK (aQ (kS (kB (kS ?_))));have bn:k < xs.length:=by have:=of_decide_eq_true h4;omega
 have hK:cx k xs.length:=⟨bn⟩;have Cq:cx k ys.length:=⟨by omega⟩;refine J4 ?_;intro a S;refine sa S ?_;intro b8 a w S;refine NJ ?_;intro a w S;refine sa S ?_;intro b9 a w S;refine Y8 ?_;intro a w S;refine sr S (Ke (aq xs k) (aq ys k) _ ((S.j9 p).imp fun _ h=>h.2 _ (bh bn)) ((S.j9 q).imp fun _ h=>h.2 _ (bh (by omega)))) ?_;rintro _ a w rfl S;refine J3 ?_;intro a S;refine kC S (fun h7=>?_) (fun h7=>?_);refine gM ?_;intro a S;refine aD S (fun _=>⟨false,rfl,⟨nofun,fun he=>?_⟩⟩);have e1:(cU xs)[k]? = some (aq xs k).s:=by rw[cU,List.getElem?_map,bu bn];rfl
 have e2:(cU ys)[k]? = some (aq ys k).s:=by rw[cU,List.getElem?_map,bu (by omega)];rfl
 rw[he,e2]at e1;rw[zI.2 (Option.some.inj e1).symm]at h7;cases h7;refine J8 ?_;intro a S;rw[w6 ((k:Int)+1)]at S;refine ⟨k+1,S.uu,⟨bn,fun b hb=>?_⟩,S.sub _ _,by omega⟩;rcases Nat.lt_succ_iff_lt_or_eq.1 hb with h | rfl
 exact K6 b h;exact zI.1 (by simpa using h7);refine gM ?_;intro a S;refine aD S (fun _=>⟨true,rfl,⟨fun _=>?_,fun _=>rfl⟩⟩);refine List.ext_getElem? fun i=>?_
 rcases Nat.lt_or_ge i xs.length with h | h
 rw[cU,cU,List.getElem?_map,List.getElem?_map,bu h,bu (by omega)];exact congrArg some (K6 i (by have:=of_decide_eq_false h4;omega));rw[List.getElem?_eq_none (by rw[cU,List.length_map];omega),List.getElem?_eq_none (by rw[cU,List.length_map];omega)]
theorem MZ (x y:aW)(hx:dY x)(_hy:dY y)(w0:World)(fx:Fx w0 (aE x))(fy:Fx w0 (aE y)):aT prog 40 [fJ x,fJ y] w0 (fun _=>False) fun v _=>∃ b,v=.bool b∧(b=true↔x.m=y.m):=by
 have l1:=hx.ah;have l2:=hx.aA;have l3:=hx.seen;refine E1 func40 rfl ntmps40 (Wd.begin (fs:=[av x.sp x.ah,av x.vp x.aA,av x.ep x.seen,av y.sp y.ah,av y.vp y.aA,av y.ep y.seen]) (by simp;exact ⟨fx.imp fun _ h=>h.1,fx.imp fun _ h=>h.2.1,fx.imp fun _ h=>h.2.2,fy.imp fun _ h=>h.1,fy.imp fun _ h=>h.2.1,fy.imp fun _ h=>h.2.2⟩)) ?_;intro a S;refine kS (kR ?_);refine sa S ?_;intro b2 a w S;refine sa S ?_;intro b3 a w S;refine mK ?_;intro a S;refine mK ?_;intro a S;refine J3 ?_;intro a S;refine gS S (fun dZ S=>?_) (fun dZ S=>?_);refine gT S ?_;refine sq S ?_;intro a S;refine gT S ?_;refine sq S ?_;intro a S;refine gT S ?_;refine sq S ?_;intro a S;refine gT S ?_;refine sq S ?_;intro a S;refine gT S ?_;refine sr S (GK x.ah y.ah x.sp y.sp x.sc y.sc _ (by omega) (S.j9 x.sp) (S.j9 y.sp)) ?_;rintro _ a w rfl S;refine J2 ?_;intro a S;refine gS S (fun j0 S=>?_) (fun j0 S=>?_);refine gT S ?_;refine sq S ?_;intro a S;refine gT S ?_;refine sq S ?_;intro a S;refine gT S ?_;refine sq S ?_;intro a S;refine gT S ?_;refine sq S ?_;intro a S;refine gT S ?_;refine sr S (GL x.aA y.aA x.vp y.vp x.vc y.vc _ (by omega) (S.j9 x.vp) (S.j9 y.vp)) ?_;rintro _ a w rfl S;refine J2 ?_;intro a S;refine gS S (fun Le S=>?_) (fun Le S=>?_);refine gT S ?_;refine sq S ?_;intro a S;refine gT S ?_;refine sq S ?_;intro a S;refine gT S ?_;refine sq S ?_;intro a S;refine gT S ?_;refine sq S ?_;intro a S;refine gT S ?_;refine sq S ?_;intro a S;refine gT S ?_
 refine sr S (Ur x.seen y.seen x.ep y.ep x.ec y.ec _ (by omega) (S.j9 x.ep) (S.j9 y.ep)) ?_;rintro _ a w ⟨b,rfl,hb⟩ S;refine J5 ?_;intro a S;refine aD S (fun _=>⟨b,rfl,?_⟩);simp only[Bool.and_eq_true,decide_eq_true_eq]at dZ;rw[hb];constructor;intro h;rw[aW.m,aW.m,dZ.1.1.1,dZ.1.1.2,dZ.1.2,dZ.2,of_decide_eq_true j0,of_decide_eq_true Le,h];intro h;exact congrArg bJ.seen h;refine gF S ?_;intro a S;(iterate 5 (refine gF S ?_;intro a S));(iterate 2 (refine sq S ?_;intro a S));refine kN (aQ (kT ?_));refine aD S (fun _=>⟨false,rfl,⟨nofun,fun h=>?_⟩⟩);rw[decide_eq_true (show x.aA=y.aA from congrArg bJ.aA h)]at Le;cases Le;refine gF S ?_;intro a S;(iterate 4 (refine gF S ?_;intro a S));(iterate 2 (refine sq S ?_;intro a S));(iterate 6 (refine gF S ?_;intro a S));(iterate 2 (refine sq S ?_;intro a S));refine kN (aQ (kT ?_));refine aD S (fun _=>⟨false,rfl,⟨nofun,fun h=>?_⟩⟩);rw[decide_eq_true (show x.ah=y.ah from congrArg bJ.ah h)]at j0;cases j0;refine gF S ?_;intro a S;(iterate 4 (refine gF S ?_;intro a S));(iterate 2 (refine sq S ?_;intro a S));(iterate 5 (refine gF S ?_;intro a S));(iterate 2 (refine sq S ?_;intro a S));(iterate 6 (refine gF S ?_;intro a S));(iterate 2 (refine sq S ?_;intro a S));refine kN (aQ (kT ?_));refine aD S (fun _=>⟨false,rfl,⟨nofun,fun h=>?_⟩⟩);rw[decide_eq_true (show x.user=y.user from congrArg bJ.user h),decide_eq_true (show x.leaf=y.leaf from congrArg bJ.leaf h),decide_eq_true (show x.counter=y.counter from congrArg bJ.counter h),decide_eq_true (show x.num=y.num from congrArg bJ.num h)]at dZ
 cases dZ
instance Us {P:Program}{ty:TypeId}{lc:Cx}{bs:List Wk.Item}{fs:List (World→Prop)}{x:Operand}{p:Option Addr}{o off s f ft:Nat}[Ev lc x (.pointer (some (dx p o)))][hf:fZ P s f off ft]:dO P (.fieldAddr s x f) ty lc bs fs (.pointer (some (dx p (o+off)))):=⟨fun ρ w h _=>by
 have e:(dx p o).add off=dx p (o+off):=by simp only[dx,add_add]
 simp[cu,execOp,h.ev (x:=x) (v:=.pointer (some (dx p o))),ld,e]⟩
def Wi (M:Nat→Prop)(w:World)(v:Value)(m:bJ):Prop:=∃ x:aW,v=fJ x∧x.m=m∧dY x∧ag M w (aE x)
set_option maxHeartbeats 2000000 in
theorem BJ (m:aW)(hfit:dY m)(hok:b_ m.m=true)(M:Nat→Prop)(w0:World)(hM:∀ k,M k→k < w0.heap.size)(hm:ag M w0 (aE m)):aT prog 143 [fJ m] w0 (fun _=>False) fun v w'=>Pu M w0.heap.size w' v m.m:=by
 have nw:=hfit.ah;have rU:=hfit.aA;have LY:=hfit.seen;have Ut:∀ x∈m.seen,Good x.root.t:=fun x hx=>by
  obtain ⟨i,hi,rfl⟩:=List.mem_iff_getElem.1 hx;have h1:=(kU m.seen 0 (mD hok)).2.2 i hi;have h2:=bu hi;rw[List.getElem?_eq_getElem hi]at h2;rw[Option.some.inj h2];exact kz.1 h1
 refine E1 func143 rfl ntmps143 (Wd.fE (M:=M) (fs:=[av m.sp m.ah,av m.vp m.aA,av m.ep m.seen]) hM (by simp;exact ⟨hm.imp fun _ h=>h.1,hm.imp fun _ h=>h.2.1,hm.imp fun _ h=>h.2.2⟩)) ?_;intro a S;refine kS (kR ?_);refine sa S ?_;intro b1 a w S;refine sa S ?_;intro b2 a w S;refine kN (aQ (kS ?_));refine zH [(0,0),(0,0),(0,1),(0,3),(0,3),(0,2),(0,6),(0,6),(0,5),(0,2),(1,8),(0,10),(1,10),(0,12),(1,12)] [(0,0),(1,0),(3,0),(4,0),(6,0),(7,0),(2,3),(9,0),(5,3),(8,3),(10,3),(11,1),(12,3),(13,1),(14,3)] ([Wk.box b1 67 (cN m)]) ([]) ([]) S ?_;intro w S;(iterate 6 (refine GG S ?_;intro a S));refine Cz ?_;refine jU S (GI m.ah m.sp m.ah.length m.sc _ rfl (by omega) (S.j9 m.sp)) ?_;rintro _ a w ⟨p1,c1,rfl,hown,hnew⟩ hS -;have S:=hS hown hnew;clear hS;refine BI S ?_;refine GG S ?_;intro a S;refine Cz ?_;refine jU S (GJ m.aA m.vp m.aA.length m.vc _ rfl (by omega) (S.j9 m.vp)) ?_;rintro _ a w ⟨p2,c2,rfl,hown,hnew⟩ hS -;have S:=hS hown hnew;clear hS;refine BI S ?_;refine Cz ?_;refine jU S (Kb m.seen m.ep m.seen.length m.ec _ rfl (by omega) (S.j9 m.ep)) ?_;rintro _ a w ⟨p3,c3,rfl,hown,hnew⟩ hS -;have S:=hS hown hnew;clear hS;refine BI S ?_;refine Cz (sw S ?_);intro a w S;refine DE S ?_;refine BH S ?_;intro a S;refine Cz (sw S ?_);intro a w S;refine DE S ?_;refine BH S ?_;intro a S;refine Cz (sw S ?_);intro a w S;refine DE S ?_;refine ZK (aQ (kS (kS (kR ?_))));(iterate 4 (refine sq S ?_;intro a S));refine kN (aQ (kB ?_))
 refine iI S (fun(k:Nat) (zs:List aK) uu=>[(3,uu 3),(15,.int .i64 (k:Nat)),(0,uu 20),(0,uu 21),(0,uu 22),(0,uu 23),(0,uu 24),(0,uu 25),(0,uu 26),(0,uu 27),(0,uu 28),(0,uu 29),(0,uu 30),(0,uu 31),(0,uu 32),(0,uu 33),(0,uu 34)]) (fun(k:Nat) (zs:List aK)=>[Wk.row 179 7 p3 m.seen.length c3 (aa zs),Wk.row 177 2 p2 m.aA.length c2 (aa m.aA),Wk.row 175 2 p1 m.ah.length c1 (aa m.ah),Wk.box b2 67 [.int .i64 0,.int .i64 0,.int .i64 0,.int .i64 0,.slice none 0 0,.slice none 0 0,.slice none 0 0],Wk.box b1 67 [.int .i64 m.user,.int .i64 m.leaf,.int .i64 m.counter,.int .i64 m.num,.slice p1 m.ah.length c1,.slice p2 m.aA.length c2,.slice p3 m.seen.length c3],ext M]) (fun(k:Nat) (zs:List aK)=>[je (zs.take k),cA zs,av m.sp m.ah,av m.vp m.aA,av m.ep m.seen]) (fun(k:Nat) (zs:List aK)=>k≤m.seen.length∧zs.length=m.seen.length∧zs.drop k=m.seen.drop k∧cU zs=cU m.seen∧uQ w0.heap.size (zs.take k)) (fun(k:Nat) (zs:List aK)=>m.seen.length - k) (0) (m.seen) ?_ S.uu ?_ ?_;exact ⟨Nat.zero_le _,rfl,rfl,rfl,nofun⟩;exact (S.add (Φ:=cA m.seen) ((S.mem.fact (av m.ep m.seen)).imp fun _ h=>h.2)).add (Φ:=je (m.seen.take 0)) (fun _ _=>nofun);clear S;rintro k zs uu a w ⟨hk,hzl,hzd,hzp,Gn⟩ S;refine J6 ?_;intro a S;refine kC S (fun h3=>?_) (fun h3=>?_);refine kK (aQ (kS (kB (kS ?_))));have bn:k < m.seen.length:=by simp at h3;omega
 have hK:cx k m.seen.length:=⟨bn⟩;have Kf:zs[k]? = some (aq m.seen k):=by
  have:=congrArg (fun l=>l[0]?) hzd;simp only[List.getElem?_drop,Nat.add_zero]at this;rw[this,bu bn]
 refine J5 ?_;intro a S;refine iN 12 [T9 0,T9 1,T9 2,T9 3,T9 4,T9 5,T9 6,T9 7,F9 8,F9 9,F9 10,T9 11,F9 12] [Wk.row 179 7 p3 m.seen.length c3 (aa zs),Wk.box b1 67 [.int .i64 m.user,.int .i64 m.leaf,.int .i64 m.counter,.int .i64 m.num,.slice p1 m.ah.length c1,.slice p2 m.aA.length c2,.slice p3 m.seen.length c3],ext M] S ?_;intro w S;(iterate 8 (refine qW S ?_;intro a S));refine mw ?_;refine Lq (aq m.seen k).root.cells S m.seen.length (fun j v hj=>?_) ?_;have Cm:j < 5:=(List.getElem?_eq_some_iff.1 hj).1;have:=eV zs k _ Kf (2+j) (by show _ < 7;omega);rw[show k*7+2+j=k*7+(2+j) from by omega];refine this.trans ?_;rw[←hj]
 show (kH (aq m.seen k))[2+j]? = _
 match j,Cm with
 | 0,_=>rfl
 | 1,_=>rfl
 | 2,_=>rfl
 | 3,_=>rfl
 | 4,_=>rfl
 clear S;intro a S;refine qx S ?_;refine mw ?_;have tv:w0.heap.size≤w.heap.size:=S.wd.agree.size;refine sr S (GM (aq m.seen k).root _ w (yH (Ut _ (bh bn))) (a_ S) ((S.mem.fact (av m.ep m.seen)).imp fun _ h=>h.2 _ (bh bn))) ?_;rintro _ a w ⟨z,rfl,hz,w5,ZO,QA⟩ S;replace QA:=QA.up tv;have Wj:ag _ _ (je (zs.take k++[(⟨(aq m.seen k).user,(aq m.seen k).cnt,z⟩:aK)])):=je.snoc (S.wd.facts (je (zs.take k)) (by simp)) ZO;rw[←lM zs k _ (by omega)]at Wj;replace S:=S.add w5;replace S:=S.add Wj;refine qx S ?_;refine mw (sq S ?_);intro a S;refine qx S ?_;refine qW S ?_;intro a S;refine mw ?_;refine CJ S m.seen.length (by omega) (by omega) ?_;intro a w S;have e7:=GH zs k (aq m.seen k) ⟨(aq m.seen k).user,(aq m.seen k).cnt,z⟩ Kf rfl rfl;rw[show (k*7+2+([.int .i64 z.kind,.int .i64 z.user,.int .i64 z.num,str z.text,.slice z.p z.kids.length z.cap]:List Value).length)=k*7+2+z.cells.length from rfl]at S;rw[show ((aa zs).take (k*7+2)++[.int .i64 z.kind,.int .i64 z.user,.int .i64 z.num,str z.text,.slice z.p z.kids.length z.cap]++(aa zs).drop (k*7+2+z.cells.length))=aa (zs.set k ⟨(aq m.seen k).user,(aq m.seen k).cnt,z⟩) from e7]at S;refine I_ (qw (aQ (kR ?_)));(iterate 2 (refine sq S ?_;intro a S));refine kN (aQ ?_);have h1:ag _ _ (cA zs):=S.wd.facts (cA zs) (by simp);have h2:=S.t z;replace S:=S.add (Φ:=cA (zs.set k ⟨(aq m.seen k).user,(aq m.seen k).cnt,z⟩)) (fun w' bP x hx=>by
  rcases List.mem_or_eq_of_mem_set hx with h | rfl
  exact h1 w' bP x h;exact h2 w' bP)
 rw[w6 ((k:Int)+1)]at S;replace S:=S.add (Φ:=je ((zs.set k ⟨(aq m.seen k).user,(aq m.seen k).cnt,z⟩).take (k+1))) (S.wd.facts _ (by simp));refine ⟨k+1,zs.set k ⟨(aq m.seen k).user,(aq m.seen k).cnt,z⟩,S.uu,⟨bn,by rw[List.length_set];exact hzl,?_,?_,by rw[lM zs k _ (by omega)];exact Gn.snoc QA⟩,S.sub _ _,by omega⟩;rw[List.drop_set_of_lt (by omega),←List.drop_drop,hzd,List.drop_drop];rw[←hzp];have hs:(zs.set k ⟨(aq m.seen k).user,(aq m.seen k).cnt,z⟩).map aK.s=(zs.map aK.s).set k (aq m.seen k).s:=by
  rw[List.map_set];rw[aK.s,aK.s,hz]
 rw[cU,hs];have hg:(zs.map aK.s)[k]? = some (aq m.seen k).s:=by rw[List.getElem?_map,Kf];rfl
 obtain ⟨h3,h4⟩:=List.getElem?_eq_some_iff.1 hg;rw[←h4,List.set_getElem_self];refine uh ?_;intro a w S;have ZN:m.seen.length≤k:=by simp at h3;omega
 rw[List.take_of_length_le (by omega)]at Gn;rw[List.take_of_length_le (by omega)]at S;have gk:=S.fY (M:=M) (Φ:=je zs) (by simp);have r3:=S.row p3 m.seen.length;have r2:=S.row p2 m.aA.length;have r1:=S.row p1 m.ah.length;have w3:nU w0.heap.size p3:=fun ad h=>(S.cQ p3 m.seen.length ad h).elim (fun h=>h.elim) id
 have w2:nU w0.heap.size p2:=fun ad h=>(S.cQ p2 m.aA.length ad h).elim (fun h=>h.elim) id
 have w1:nU w0.heap.size p1:=fun ad h=>(S.cQ p1 m.ah.length ad h).elim (fun h=>h.elim) id
 have o3:=CY (M:=M) r3 (fun ad h hm=>by have:=hM _ hm;have:=w3 ad h;omega);have o2:=uP (M:=M) r2 (fun ad h hm=>by have:=hM _ hm;have:=w2 ad h;omega);have o1:=uP (M:=M) r1 (fun ad h hm=>by have:=hM _ hm;have:=w1 ad h;omega);replace S:=S.bA p3 zs (e:=179) (sz:=7) (n:=m.seen.length) (c:=c3) (S.wd.facts (cA zs) (by simp));replace S:=S.bA p2 m.aA (e:=177) (sz:=2) (n:=m.aA.length) (c:=c2) (fun _ _ _ _=>trivial);replace S:=S.bA p1 m.ah (e:=175) (sz:=2) (n:=m.ah.length) (c:=c1) (fun _ _ _ _=>trivial);have g1:=S.fY (M:=M) (Φ:=av p1 m.ah) (by simp);have g2:=S.fY (M:=M) (Φ:=av p2 m.aA) (by simp);have g3:=S.fY (M:=M) (Φ:=av p3 zs) (by simp);refine aD S (fun _=>?_);refine ⟨⟨m.user,m.leaf,m.counter,m.num,p1,c1,m.ah,p2,c2,m.aA,p3,c3,zs⟩,?_,?_,⟨nw,rU,by show zs.length≤1000;omega,hfit.names,hfit.keys⟩,fun w' bP=>⟨g1 w' bP,g2 w' bP,g3 w' bP⟩,fun w' bP=>⟨o1 w' bP,o2 w' bP,by show w'.ownsRow _ _ _ (.slice p3 zs.length c3) zs.length (aa zs);rw[hzl];exact o3 w' bP,gk w' bP⟩,⟨w1,w2,w3,Gn⟩⟩
 show _=fJ _
 rw[fJ]
 show _=Value.agg ⟨[.int .i64 m.user,.int .i64 m.leaf,.int .i64 m.counter,.int .i64 m.num,.slice p1 m.ah.length c1,.slice p2 m.aA.length c2,.slice p3 zs.length c3]⟩
 rw[hzl]
 show bJ.mk _ _ _ _ _ _ (cU zs)=bJ.mk _ _ _ _ _ _ (cU m.seen)
 rw[hzp]
theorem QB (b:Nat)(r:RS)(w0:World)(hc:r.bs.length≤r.c)(hl:r.bs.length≤10000000)(hb:(bw b r).holds w0)(hx:ag (fun k=>k=b) w0 (av r.p r.bs)) :
  aT prog 217 [.pointer (some ⟨b,0,none⟩)] w0 (fun k=>k=b) fun v w'=>v=.int .u32 (aV (aM r 4) 0:Nat)∧(bw b (ai r 4)).holds w':=by
 have hn:=ck r 4 (by decide);refine E1 func217 rfl ntmps217 (Wd.bV (x:=bw b r) (fs:=[av r.p r.bs]) hb (by intro Φ hΦ;obtain rfl:=List.mem_singleton.1 hΦ;exact hx)) ?_;intro a S;refine J8 ?_;intro a S;refine cM (bw b r) S (va b r 4 _ (by decide) hc hl (S.it (bw b r)) (S.bU (bw b r) (S.mem.fact (av r.p r.bs)))) rfl ?_;rintro _ a w ⟨rfl,hh⟩ hS;have S:=hS (bw b (ai r 4)) hh (fun k h=>.inl h);clear hS;rw[hn.1]at S;refine J1 ?_;intro a S;rw[show IntKind.u32.wrap ((aV (aM r 4) 0:Nat):Int)=((aV (aM r 4) 0:Nat):Int) from by
  unfold IntKind.wrap;simp only[IntKind.bits,IntKind.signed,Bool.false_and];simp;omega]at S
 refine J4 ?_;intro a S;have hh:=S.it (bw b (ai r 4));exact aD S (fun _=>⟨rfl,hh⟩)
abbrev ye (h rd:Nat)(wr:Bool):Wk.Item:=Wk.box h 209 [.pointer (some ⟨rd,0,none⟩),.bool wr]
abbrev nH (h rd:Nat)(wr:Bool)(r:RS):Wk.Item:=both (ye h rd wr) (bw rd r)
def oe (r:RS):Nat:=aV (aM r 1) 0
def dL (r:RS):List UInt8:=aM (ai r 1) (oe r)
def aZ (r:RS):RS:=ai (ai r 1) (oe r)
theorem vV (r:RS):oe r < 256:=(ck r 1 (by decide)).2
theorem oY (r:RS):cK r (aZ r):=(cK.take r 1).trans (cK.take _ _)
theorem sE (r:RS):(dL r).length≤255:=by
 have h1:=(me (ai r 1) (oe r)).1;have h2:=vV r;unfold dL;omega
theorem Fj (h rd:Nat)(wr:Bool)(r:RS)(w0:World)(hc:r.bs.length≤r.c)(hl:r.bs.length≤10000000)(hd:(nH h rd wr r).holds w0)(hx:ag (nH h rd wr r).aj w0 (av r.p r.bs)) :
  aT prog 139 [.pointer (some ⟨h,0,none⟩)] w0 (nH h rd wr r).aj fun v w'=>v=str (dL r)∧(nH h rd wr (aZ r)).holds w':=by
 refine E1 func139 rfl ntmps139 (Wd.ig (x:=ye h rd wr) (y:=bw rd r) (fs:=[av r.p r.bs]) hd rfl rfl (by simpa using hx)) ?_;intro a S;refine J6 ?_;intro a S;refine iN 12 [T9 0,T9 1,T9 2,T9 3,T9 4,T9 5,T9 6,T9 7,F9 8,T9 9,F9 10,F9 11,F9 12] [ye h rd wr] S ?_;intro w S;(iterate 8 (refine qW S ?_;intro a S));refine mw ?_;refine cM (bw rd r) S (sV rd r _ hc hl (S.it (bw rd r)) (S.bU (bw rd r) (S.mem.fact (av r.p r.bs)))) rfl ?_;rintro _ a w ⟨rfl,hh⟩ hS;have S:=hS (bw rd (ai r 1)) hh (fun k h=>.inl h);clear hS;obtain ⟨nn,sC⟩:∃ nn,nn=oe r:=⟨_,rfl⟩;have xD:=vV r;rw[show aV (aM r 1) 0=nn from sC.symm]at S;rw[←sC]at xD;replace S:=S.add (Φ:=av (ai r 1).p (ai r 1).bs) (cj hc (S.mem.fact (av r.p r.bs)));have dZ:=cK.take r 1;have lR:=dZ.cap hc;have nw:=dZ.len;refine qx S ?_;refine qW S ?_;intro a S;rw[w6 (nn:Int)]at S;refine mw ?_;refine cM (bw rd (ai r 1)) S (C5 rd (ai r 1) nn _ (by omega) lR (by omega) (S.it (bw rd (ai r 1))) (S.bU (bw rd (ai r 1)) (S.mem.fact (av (ai r 1).p (ai r 1).bs)))) rfl ?_;rintro _ a w ⟨p7,c7,rfl,hh,Uu⟩ hS;have S:=hS (both (Wk.row 5 1 p7 (aM (ai r 1) nn).length c7 (aa (aM (ai r 1) nn))) (bw rd (ai (ai r 1) nn))) hh Uu;clear hS;replace S:=(S.front (both (Wk.row 5 1 p7 (aM (ai r 1) nn).length c7 (aa (aM (ai r 1) nn))) (bw rd (ai (ai r 1) nn)))).aP
 have TD:eu (aM (ai r 1) nn) (aM (ai r 1) nn).length:=⟨rfl⟩;refine qx S ?_;refine mw (sq S ?_);intro a S;refine qx S ?_;refine mw (sq S ?_);intro a S;refine I_ (aQ (kT ?_));replace S:=((S.front (bw rd (ai (ai r 1) nn))).front (ye h rd wr)).aL;have hh:=S.it (nH h rd wr (ai (ai r 1) nn));refine aD S (fun _=>?_);rw[show dL r=aM (ai r 1) nn from by rw[dL,sC],show aZ r=ai (ai r 1) nn from by rw[aZ,sC]];exact ⟨rfl,hh⟩
def eL (x:RB):aH × RB:=
 (⟨(di (aV (di 1 x).1 0) (di 1 x).2).1,(aV (di 2 (di (aV (di 1 x).1 0) (di 1 x).2).2).1 0:Nat)⟩,(di 2 (di (aV (di 1 x).1 0) (di 1 x).2).2).2)
def fX (raw:List UInt8):Term × Bool:=match iq 60 1200 raw with
 | .ok (t,_,rest)=>(t,decide (rest=[]))
 | .error _=>(At,false)
def cI (x:RB):Term × Bool × RB:=
 if (di (aV (di 4 x).1 0) (di 4 x).2).2.2=true then (At,true,(di (aV (di 4 x).1 0) (di 4 x).2).2)
 else ((fX (di (aV (di 4 x).1 0) (di 4 x).2).1).1,(fX (di (aV (di 4 x).1 0) (di 4 x).2).1).2,(di (aV (di 4 x).1 0) (di 4 x).2).2)
def eA (x:RB):fV × Bool × RB:=
 (⟨(aV (di 1 x).1 0:Nat),(aV (di 2 (di 1 x).2).1 0:Nat),(cI (di 2 (di 1 x).2).2).1⟩,(cI (di 2 (di 1 x).2).2).2.1,(cI (di 2 (di 1 x).2).2).2.2)
def cC:Nat→RB→List aH × RB
 | 0,x=>([],x)
 | k+1,x=>if x.2=true then ([],x) else ((eL x).1::(cC k (eL x).2).1,(cC k (eL x).2).2)
def cT:Nat→RB→List fV × Bool × RB
 | 0,x=>([],true,x)
 | k+1,x=>if x.2=true then ([],true,x) else ((eA x).1::(cT k (eA x).2.2).1,(eA x).2.1&&(cT k (eA x).2.2).2.1,(cT k (eA x).2.2).2.2)
theorem RS.lN {r:RS} : r.ab.2=true↔r.why≠0:=by
 show (!decide (r.why=0))=true↔_
 simp
theorem M3 (r:RS):dL r=(di (aV (di 1 r.ab).1 0) (di 1 r.ab).2).1∧(aZ r).ab=(di (aV (di 1 r.ab).1 0) (di 1 r.ab).2).2:=by
 have h1:=eP r 1;have h2:=eP (ai r 1) (oe r);rw[h1.2]at h2;rw[show oe r=aV (di 1 r.ab).1 0 from by rw[oe,h1.1]]at h2;exact ⟨by rw[←h2.1,dL,oe,h1.1],by rw[←h2.2,aZ,oe,h1.1]⟩
theorem rD (r:RS):eL r.ab=(⟨dL r,(aV (aM (aZ r) 2) 0:Nat)⟩,(ai (aZ r) 2).ab):=by
 obtain ⟨h1,h2⟩:=M3 r;obtain ⟨h3,h4⟩:=eP (aZ r) 2;rw[h2]at h3 h4;rw[eL,←h1,←h3,←h4]
def og (r:RS):Nat:=aV (aM r 4) 0
def vW (r:RS):List UInt8:=aM (ai r 4) (og r)
def ei (r:RS):RS:=ai (ai r 4) (og r)
theorem rE (r:RS):cI r.ab=if (ei r).why≠0 then (At,true,(ei r).ab) else ((fX (vW r)).1,(fX (vW r)).2,(ei r).ab):=by
 have h1:=eP r 4;have h2:=eP (ai r 4) (og r);rw[h1.2]at h2;rw[show og r=aV (di 4 r.ab).1 0 from by rw[og,h1.1]]at h2;have e1:(di (aV (di 4 r.ab).1 0) (di 4 r.ab).2).1=vW r:=by rw[←h2.1,vW,og,h1.1]
 have e2:(di (aV (di 4 r.ab).1 0) (di 4 r.ab).2).2=(ei r).ab:=by rw[←h2.2,ei,og,h1.1]
 rw[cI,e1,e2]
 by_cases h:(ei r).why=0
 rw[if_neg (by rw[RS.lN];exact fun h2=>h2 h),if_neg (fun h2=>h2 h)];rw[if_pos (RS.lN.2 h),if_pos h]
theorem DG {raw:List UInt8}{z:ak}{nz e:Int}(h:(∃ left rest,iq 60 1200 raw=.ok (z.t,left,rest)∧nz=(raw.length:Int) - rest.length∧e=0)∨(iq 60 1200 raw=.error e∧z=eO∧e≠0)):z.t=(fX raw).1∧(fX raw).2=(decide (e=0)&&decide (nz=raw.length)):=by
 rcases h with ⟨left,rest,h1,h2,h3⟩ | ⟨h1,h2,h3⟩
 rw[fX,h1];refine ⟨rfl,?_⟩;rw[h2,h3]
 show decide (rest=[])=(true&&_)
 rw[Bool.true_and,decide_eq_decide];constructor;rintro rfl;simp;intro h;exact List.eq_nil_of_length_eq_zero (by omega);rw[fX,h1,h2];refine ⟨rfl,?_⟩;rw[decide_eq_false h3];rfl
theorem GN (r:RS):cK r (ei r):=(cK.take r 4).trans (cK.take _ _)
theorem M4 (h rd:Nat)(wr:Bool)(r:RS)(Mr:Nat→Prop)(w0:World)(hc:r.bs.length≤r.c)(hl:r.bs.length≤10000000)(jI:∀ k,Mr k→k < w0.heap.size∧¬(nH h rd wr r).aj k)(hd:(nH h rd wr r).holds w0)(hx:ag (fun k=>(nH h rd wr r).aj k∨Mr k) w0 (av r.p r.bs)) :
  aT prog 142 [.pointer (some ⟨h,0,none⟩)] w0 (nH h rd wr r).aj fun v w'=>∃ z:ak,v=vL z∧z.t=(cI r.ab).1∧(nH h rd (wr||!(cI r.ab).2.1) (ei r)).holds w'∧ag (fun k=>(nH h rd wr r).aj k∨Mr k) w' (dc z):=by
 have BK:=rE r;refine E1 func142 rfl ntmps142 (Wd.nR (x:=ye h rd wr) (y:=bw rd r) (Mr:=Mr) (fs:=[av r.p r.bs]) hd rfl rfl jI (by simpa using hx)) ?_;intro a S;refine kS (kR ?_);refine sa S ?_;intro b2 a w S;refine kN (aQ (kS ?_));refine iN 11 [T9 0,T9 1,T9 2,T9 3,T9 4,T9 5,T9 6,T9 7,F9 8,T9 9,F9 10,F9 11] [ye h rd wr] S ?_;intro w S;(iterate 8 (refine qW S ?_;intro a S));refine mw ?_;refine cM (bw rd r) S (QB rd r _ hc hl (S.it (bw rd r)) (S.bU (bw rd r) (S.mem.fact (av r.p r.bs)))) rfl ?_;rintro _ a w ⟨rfl,hh⟩ hS;have S:=hS (bw rd (ai r 4)) hh (fun k h=>.inl h);clear hS;obtain ⟨nn,sC⟩:∃ nn,nn=og r:=⟨_,rfl⟩;have xD:og r < 4294967296:=(ck r 4 (by decide)).2;rw[show aV (aM r 4) 0=nn from sC.symm]at S;rw[←sC]at xD;replace S:=S.add (Φ:=av (ai r 4).p (ai r 4).bs) (cj hc (S.mem.fact (av r.p r.bs)));have dZ:=cK.take r 4;have lR:=dZ.cap hc;have nw:=dZ.len;refine qx S ?_;refine qW S ?_;intro a S;rw[w6 (nn:Int)]at S;refine mw ?_;refine cM (bw rd (ai r 4)) S (C5 rd (ai r 4) nn _ (by omega) lR (by omega) (S.it (bw rd (ai r 4))) (S.bU (bw rd (ai r 4)) (S.mem.fact (av (ai r 4).p (ai r 4).bs)))) rfl ?_;rintro _ a w ⟨p7,c7,rfl,hh,Uu⟩ hS;have S:=hS (both (Wk.row 5 1 p7 (aM (ai r 4) nn).length c7 (aa (aM (ai r 4) nn))) (bw rd (ai (ai r 4) nn))) hh Uu;clear hS;replace S:=(S.front (both (Wk.row 5 1 p7 (aM (ai r 4) nn).length c7 (aa (aM (ai r 4) nn))) (bw rd (ai (ai r 4) nn)))).aP
 obtain ⟨raw,BL⟩:∃ raw,raw=aM (ai r 4) nn:=⟨_,rfl⟩;obtain ⟨r5,RZ⟩:∃ r5,r5=ai (ai r 4) nn:=⟨_,rfl⟩;have Uv:raw.length≤10000000:=by have:=(me (ai r 4) nn).2;rw[BL];omega
 rw[←BL,←RZ]at S;have e5:ei r=r5:=by rw[RZ,sC];rfl
 have eW:vW r=raw:=by rw[BL,sC];rfl
 rw[e5,eW]at BK;replace S:=(S.front (Wk.row 5 1 p7 raw.length c7 (aa raw))).bA p7 raw (e:=5) (sz:=1) (n:=raw.length) (c:=c7) (fun _ _ _ _=>trivial);refine qx S ?_;refine mw (sq S ?_);intro a S;refine I_ (aQ (kS (kS (kR ?_))));(iterate 4 (refine sq S ?_;intro a S));refine sr S (yW rd r5 _ (az.aO (S.box rd) (fun h=>h))) ?_;rintro _ a w rfl S;refine J3 ?_;intro a S;refine kC S (fun h2=>?_) (fun h2=>?_);refine Y8 ?_;intro a w S;have hw:r5.why≠0:=by simpa using h2
 rw[if_pos hw]at BK;replace S:=((S.front (bw rd r5)).front (ye h rd wr)).aL;have hh:=S.it (nH h rd wr r5);refine aD S (fun _=>⟨eO,rfl,?_,?_,fun w' _=>eF w'⟩);rw[BK];rfl;rw[BK,e5,Bool.not_true,Bool.or_false];exact hh;refine kK (aQ (kS ?_));have hw:r5.why=0:=by simpa using h2
 rw[if_neg (fun h=>h hw)]at BK;refine J2 ?_;intro a S;refine sr S (Qu raw p7 raw.length c7 _ w rfl Uv (a_ S) (S.mem.fact (av p7 raw))) ?_;rintro _ a w ⟨z,nz,e,rfl,w5,uX⟩ S;replace S:=S.add w5;refine J4 ?_;intro a S;refine sa S ?_;intro b4 a w S;refine sP ?_;intro a w S;refine Li ?_;intro a w S;obtain ⟨Ju,hd2⟩:=DG uX;rw[show (wr||!decide (e=0)||!decide (nz=(raw.length:Int)))=(wr||!(fX raw).2) from by rw[hd2,Bool.not_and,Bool.or_assoc]]at S;replace S:=((S.front (bw rd r5)).front (ye h rd (wr||!(fX raw).2))).aL;have hh:=S.it (nH h rd (wr||!(fX raw).2) r5);have hst:ag (fun k=>(nH h rd wr r).aj k∨Mr k) _ (dc z):=(S.wd.facts (dc z) (by simp)).less fun k _ hk=>hk.elim (fun h1=>⟨nH h rd (wr||!(fX raw).2) r5,by simp,h1⟩) (fun h1=>⟨ext Mr,by simp,h1⟩)
 refine aD S (fun _=>⟨z,rfl,?_,?_,hst⟩);rw[BK];exact Ju;rw[BK,e5];exact hh
abbrev zJ (b:Nat)(m:aW):Wk.Item:=Wk.box b 67 (cN m)
abbrev CA (m:aW):Wk.Item:=Wk.row 175 2 m.sp m.ah.length m.sc (aa m.ah)
abbrev CB (m:aW):Wk.Item:=Wk.row 177 2 m.vp m.aA.length m.vc (aa m.aA)
abbrev CC (m:aW):Wk.Item:=Wk.row 179 7 m.ep m.seen.length m.ec (aa m.seen)
abbrev eN (b h rd:Nat)(m:aW)(wr:Bool)(r:RS):Wk.Item:=both (zJ b m) (both (CA m) (both (CB m) (both (CC m) (nH h rd wr r))))
theorem St.sG {w0:World}{M0:Nat→Prop}{ds:List Deferred}{a:Act}{w:World}{l:List Value}{bs:List Wk.Item}{fs:List (World→Prop)}{b h rd:Nat}{m:aW}{wr:Bool}{r:RS}(S:St w0 M0 ds a w l (eN b h rd m wr r::bs) fs):St w0 M0 ds a w l (ye h rd wr::bw rd r::CC m::CB m::CA m::zJ b m::bs) fs:=by
 have S1:=S.aP;have S2:=(S1.perm (both (CA m) (both (CB m) (both (CC m) (nH h rd wr r)))::zJ b m::bs) (List.Perm.swap _ _ _)).aP;have S3:=(S2.perm (both (CB m) (both (CC m) (nH h rd wr r))::CA m::zJ b m::bs) (List.Perm.swap _ _ _)).aP;have S4:=(S3.perm (both (CC m) (nH h rd wr r)::CB m::CA m::zJ b m::bs) (List.Perm.swap _ _ _)).aP;exact (S4.perm (nH h rd wr r::CC m::CB m::CA m::zJ b m::bs) (List.Perm.swap _ _ _)).aP
theorem St.oZ {w0:World}{M0:Nat→Prop}{ds:List Deferred}{a:Act}{w:World}{l:List Value}{bs:List Wk.Item}{fs:List (World→Prop)}{b h rd:Nat}{m:aW}{wr:Bool}{r:RS}(S:St w0 M0 ds a w l (ye h rd wr::bw rd r::CC m::CB m::CA m::zJ b m::bs) fs):St w0 M0 ds a w l (eN b h rd m wr r::bs) fs:=by
 have S1:=S.aL;have S2:=(S1.perm (CC m::nH h rd wr r::CB m::CA m::zJ b m::bs) (List.Perm.swap _ _ _)).aL;have S3:=(S2.perm (CB m::both (CC m) (nH h rd wr r)::CA m::zJ b m::bs) (List.Perm.swap _ _ _)).aL;have S4:=(S3.perm (CA m::both (CB m) (both (CC m) (nH h rd wr r))::zJ b m::bs) (List.Perm.swap _ _ _)).aL;exact (S4.perm (zJ b m::both (CA m) (both (CB m) (both (CC m) (nH h rd wr r)))::bs) (List.Perm.swap _ _ _)).aL
def Wl (Mr:Nat→Prop)(b h rd:Nat)(m:aW)(wr:Bool)(r:RS)(Q:aW→Bool→RS→Prop)(v:Value)(w0 w:World):Prop:=v=.tuple #[]∧∃ m' wr' r',Q m' wr' r'∧cK r r'∧(eN b h rd m' wr' r').holds w∧(∀ k,(eN b h rd m' wr' r').aj k→(eN b h rd m wr r).aj k∨w0.heap.size≤k)∧ag (fun k=>(eN b h rd m' wr' r').aj k∨Mr k) w (cA m'.seen)
theorem M5 (b b4 h rd:Nat)(m:aW)(wr:Bool)(r:RS)(Mr:Nat→Prop)(w0:World)(hc:r.bs.length≤r.c)(hl:r.bs.length≤10000000)(hk:m.ah.length≤1000)(jI:∀ k,Mr k→k < w0.heap.size∧¬(eN b h rd m wr r).aj k)(hd:(eN b h rd m wr r).holds w0)
  (h4:ag (fun k=>(eN b h rd m wr r).aj k∨Mr k) w0 (az b4 207 [.pointer (some ⟨h,0,none⟩)])) (hx:ag (fun k=>(eN b h rd m wr r).aj k∨Mr k) w0 (av r.p r.bs)) (hs:ag (fun k=>(eN b h rd m wr r).aj k∨Mr k) w0 (cA m.seen)) :
  aT prog 138 [.pointer (some ⟨b,0,none⟩),.pointer (some ⟨b4,0,none⟩)] w0 (eN b h rd m wr r).aj fun v w'=>Wl Mr b h rd m wr r (fun m' wr' r'=>wr'=wr∧r'.ab=(eL r.ab).2∧m'.m = { m.m with ah:=m.ah++[(eL r.ab).1] }) v w0 w':=by
 refine E1 func138 rfl ntmps138 ((Wd.ij (x:=eN b h rd m wr r) (Mr:=Mr) (fs:=[az b4 207 [.pointer (some ⟨h,0,none⟩)],av r.p r.bs,cA m.seen]) hd jI (by simp;exact ⟨h4,hx,hs⟩))) ?_;intro a S;replace S:=St.sG S;refine iN 14 [T9 0,T9 1,T9 2,T9 4,T9 5,T9 6,T9 7,F9 3,F9 8,T9 9,T9 10,F9 11,F9 12,T9 13,F9 14] [ye h rd wr,zJ b m] S ?_;intro w S;(iterate 7 (refine qW S ?_;intro a S));refine mw ?_;replace S:=((S.front (bw rd r)).front (ye h rd wr)).aL;refine cM (nH h rd wr r) S (Fj h rd wr r _ hc hl (S.it (nH h rd wr r)) (S.bU (nH h rd wr r) (S.mem.fact (av r.p r.bs)))) rfl ?_;rintro _ a w ⟨rfl,hh⟩ hS;have S:=hS (nH h rd wr (aZ r)) hh (fun k h=>.inl h);clear hS;replace S:=S.aP;have dZ:=oY r;have lR:=dZ.cap hc;have nw:=dZ.len;replace S:=S.add (Φ:=av (aZ r).p (aZ r).bs) ((S.mem.fact (av r.p r.bs)).imp fun _ h=>dZ.gl hc _ h);refine qx S ?_;refine mw ?_;refine cM (bw rd (aZ r)) S (hH rd (aZ r) _ lR (by omega) (S.it (bw rd (aZ r))) (S.bU (bw rd (aZ r)) (S.mem.fact (av (aZ r).p (aZ r).bs)))) rfl ?_;rintro _ a w ⟨rfl,hh⟩ hS;have S:=hS (bw rd (ai (aZ r) 2)) hh (fun k h=>.inl h);clear hS;obtain ⟨n2,hn2⟩:∃ n2,n2=aV (aM (aZ r) 2) 0:=⟨_,rfl⟩;rw[←hn2]at S;have Qh:n2 < 65536:=by rw[hn2];exact (ck (aZ r) 2 (by decide)).2
 refine qx S ?_;refine qW S ?_;intro a S;rw[w6 (n2:Int)]at S;refine qW S ?_;intro a S;refine mw (sn S ?_);intro kX a w S;replace S:=S.bT kX 2 1 rfl (by decide);rw[show [str (dL r),.int .i64 (n2:Int)]=aa [(⟨dL r,n2⟩:aH)] from rfl]at S;refine qx S ?_;refine mw ?_;refine gA S (by simp[maxLen];omega) (by omega) ?_;rintro p7 c7 a w - S;rw[←aC]at S;refine qx S ?_;refine qW S ?_;intro a S;refine mw (sw S ?_);intro a w S;refine I_ ?_;have hmk:=rD r;rw[←hn2]at hmk;rw[show m.ah.length+1=(m.ah++[(⟨dL r,n2⟩:aH)]).length from by simp]at S;have S2:=St.oZ (b:=b) (h:=h) (rd:=rd) (m:={ m with ah:=m.ah++[⟨dL r,n2⟩],sp:=p7,sc:=c7 }) (wr:=wr) (r:=ai (aZ r) 2) (bs:=[ext Mr]) (fs:=[cA m.seen]) (S.sub _ _);obtain ⟨m1,uD⟩:∃ m1:aW,m1 = { m with ah:=m.ah++[⟨dL r,n2⟩],sp:=p7,sc:=c7 }:=⟨_,rfl⟩;rw[←uD]at S2;have hh:=S2.it (eN b h rd m1 wr (ai (aZ r) 2));have kV:=S2.bH (eN b h rd m1 wr (ai (aZ r) 2)) rfl;have hst:ag (fun k=>(eN b h rd m1 wr (ai (aZ r) 2)).aj k∨Mr k) _ (cA m.seen):=(S2.wd.facts (cA m.seen) (by simp)).less fun k _ hk=>hk.elim (fun h1=>⟨eN b h rd m1 wr (ai (aZ r) 2),by simp,h1⟩) (fun h1=>⟨ext Mr,by simp,h1⟩)
 have e1:m1.seen=m.seen:=by rw[uD]
 refine iD S2 (fun _=>⟨rfl,m1,wr,ai (aZ r) 2,⟨rfl,by rw[hmk],by rw[hmk,uD];rfl⟩,dZ.trans (cK.take _ _),hh,kV,by rw[e1];exact hst⟩)
theorem M6 (b b4 h rd:Nat)(m:aW)(wr:Bool)(r:RS)(Mr:Nat→Prop)(w0:World)(hc:r.bs.length≤r.c)(hl:r.bs.length≤10000000)(hk:m.aA.length≤1000)(jI:∀ k,Mr k→k < w0.heap.size∧¬(eN b h rd m wr r).aj k)(hd:(eN b h rd m wr r).holds w0)
  (h4:ag (fun k=>(eN b h rd m wr r).aj k∨Mr k) w0 (az b4 207 [.pointer (some ⟨h,0,none⟩)])) (hx:ag (fun k=>(eN b h rd m wr r).aj k∨Mr k) w0 (av r.p r.bs)) (hs:ag (fun k=>(eN b h rd m wr r).aj k∨Mr k) w0 (cA m.seen)) :
  aT prog 140 [.pointer (some ⟨b,0,none⟩),.pointer (some ⟨b4,0,none⟩)] w0 (eN b h rd m wr r).aj fun v w'=>Wl Mr b h rd m wr r (fun m' wr' r'=>wr'=wr∧r'.ab=(eL r.ab).2∧m'.m = { m.m with aA:=m.aA++[(eL r.ab).1] }) v w0 w':=by
 refine E1 func140 rfl ntmps140 ((Wd.ij (x:=eN b h rd m wr r) (Mr:=Mr) (fs:=[az b4 207 [.pointer (some ⟨h,0,none⟩)],av r.p r.bs,cA m.seen]) hd jI (by simp;exact ⟨h4,hx,hs⟩))) ?_;intro a S;replace S:=St.sG S;refine iN 14 [T9 0,T9 1,T9 2,T9 4,T9 5,T9 6,T9 7,F9 3,F9 8,T9 9,T9 10,F9 11,F9 12,T9 13,F9 14] [ye h rd wr,zJ b m] S ?_;intro w S;(iterate 7 (refine qW S ?_;intro a S));refine mw ?_;replace S:=((S.front (bw rd r)).front (ye h rd wr)).aL;refine cM (nH h rd wr r) S (Fj h rd wr r _ hc hl (S.it (nH h rd wr r)) (S.bU (nH h rd wr r) (S.mem.fact (av r.p r.bs)))) rfl ?_;rintro _ a w ⟨rfl,hh⟩ hS;have S:=hS (nH h rd wr (aZ r)) hh (fun k h=>.inl h);clear hS;replace S:=S.aP;have dZ:=oY r;have lR:=dZ.cap hc;have nw:=dZ.len;replace S:=S.add (Φ:=av (aZ r).p (aZ r).bs) ((S.mem.fact (av r.p r.bs)).imp fun _ h=>dZ.gl hc _ h);refine qx S ?_;refine mw ?_;refine cM (bw rd (aZ r)) S (hH rd (aZ r) _ lR (by omega) (S.it (bw rd (aZ r))) (S.bU (bw rd (aZ r)) (S.mem.fact (av (aZ r).p (aZ r).bs)))) rfl ?_;rintro _ a w ⟨rfl,hh⟩ hS;have S:=hS (bw rd (ai (aZ r) 2)) hh (fun k h=>.inl h);clear hS;obtain ⟨n2,hn2⟩:∃ n2,n2=aV (aM (aZ r) 2) 0:=⟨_,rfl⟩;rw[←hn2]at S;have Qh:n2 < 65536:=by rw[hn2];exact (ck (aZ r) 2 (by decide)).2
 refine qx S ?_;refine qW S ?_;intro a S;rw[w6 (n2:Int)]at S;refine qW S ?_;intro a S;refine mw (sn S ?_);intro kX a w S;replace S:=S.bT kX 2 1 rfl (by decide);rw[show [str (dL r),.int .i64 (n2:Int)]=aa [(⟨dL r,n2⟩:aH)] from rfl]at S;refine qx S ?_;refine mw ?_;refine gA S (by simp[maxLen];omega) (by omega) ?_;rintro p7 c7 a w - S;rw[←aC]at S;refine qx S ?_;refine qW S ?_;intro a S;refine mw (sw S ?_);intro a w S;refine I_ ?_;have hmk:=rD r;rw[←hn2]at hmk;rw[show m.aA.length+1=(m.aA++[(⟨dL r,n2⟩:aH)]).length from by simp]at S;have S2:=St.oZ (b:=b) (h:=h) (rd:=rd) (m:={ m with aA:=m.aA++[⟨dL r,n2⟩],vp:=p7,vc:=c7 }) (wr:=wr) (r:=ai (aZ r) 2) (bs:=[ext Mr]) (fs:=[cA m.seen]) (S.sub _ _);obtain ⟨m1,uD⟩:∃ m1:aW,m1 = { m with aA:=m.aA++[⟨dL r,n2⟩],vp:=p7,vc:=c7 }:=⟨_,rfl⟩;rw[←uD]at S2;have hh:=S2.it (eN b h rd m1 wr (ai (aZ r) 2));have kV:=S2.bH (eN b h rd m1 wr (ai (aZ r) 2)) rfl;have hst:ag (fun k=>(eN b h rd m1 wr (ai (aZ r) 2)).aj k∨Mr k) _ (cA m.seen):=(S2.wd.facts (cA m.seen) (by simp)).less fun k _ hk=>hk.elim (fun h1=>⟨eN b h rd m1 wr (ai (aZ r) 2),by simp,h1⟩) (fun h1=>⟨ext Mr,by simp,h1⟩)
 have e1:m1.seen=m.seen:=by rw[uD]
 refine iD S2 (fun _=>⟨rfl,m1,wr,ai (aZ r) 2,⟨rfl,by rw[hmk],by rw[hmk,uD];rfl⟩,dZ.trans (cK.take _ _),hh,kV,by rw[e1];exact hst⟩)
set_option maxHeartbeats 2000000 in
theorem M7 (b b4 h rd:Nat)(m:aW)(wr:Bool)(r:RS)(Mr:Nat→Prop)(w0:World)(hc:r.bs.length≤r.c)(hl:r.bs.length≤10000000)(hk:m.seen.length≤1000)(jI:∀ k,Mr k→k < w0.heap.size∧¬(eN b h rd m wr r).aj k)(hd:(eN b h rd m wr r).holds w0)
  (h4:ag (fun k=>(eN b h rd m wr r).aj k∨Mr k) w0 (az b4 207 [.pointer (some ⟨h,0,none⟩)])) (hx:ag (fun k=>(eN b h rd m wr r).aj k∨Mr k) w0 (av r.p r.bs)) (hs:ag (fun k=>(eN b h rd m wr r).aj k∨Mr k) w0 (cA m.seen)) :
  aT prog 141 [.pointer (some ⟨b,0,none⟩),.pointer (some ⟨b4,0,none⟩)] w0 (eN b h rd m wr r).aj fun v w'=>Wl Mr b h rd m wr r (fun m' wr' r'=>wr'=(wr||!(eA r.ab).2.1)∧r'.ab=(eA r.ab).2.2∧m'.m = { m.m with seen:=cU m.seen++[(eA r.ab).1] }) v w0 w':=by
 have dZ:=cK.take r 1;have lR:=dZ.cap hc;have nw:=dZ.len;have j0:=cK.take (ai r 1) 2;have Ak:=j0.cap lR;have rU:=j0.len;have Uw:=GN (ai (ai r 1) 2);obtain ⟨ZP,ZQ⟩:=eP r 1;obtain ⟨ZR,ZS⟩:=eP (ai r 1) 2;have hrab:=rE (ai (ai r 1) 2);obtain ⟨n1,wG⟩:∃ n1,n1=aV (aM r 1) 0:=⟨_,rfl⟩;obtain ⟨n2,hn2⟩:∃ n2,n2=aV (aM (ai r 1) 2) 0:=⟨_,rfl⟩;obtain ⟨r2,E6⟩:∃ r2,r2=ai (ai r 1) 2:=⟨_,rfl⟩;have hn1l:n1 < 256:=by rw[wG];exact (ck r 1 (by decide)).2
 have Qh:n2 < 65536:=by rw[hn2];exact (ck (ai r 1) 2 (by decide)).2
 have Kg:eA r.ab=(⟨(n1:Nat),(n2:Nat),(cI r2.ab).1⟩,(cI r2.ab).2.1,(cI r2.ab).2.2):=by
  rw[eA,←ZP,←ZQ,←ZR,←ZS,←wG,←hn2,←E6]
 have P8:(cI r2.ab).2.2=(ei r2).ab:=by
  rw[rE r2];split <;> rfl
 rw[←E6]at j0 Ak rU Uw;refine E1 func141 rfl ntmps141 ((Wd.ij (x:=eN b h rd m wr r) (Mr:=Mr) (fs:=[az b4 207 [.pointer (some ⟨h,0,none⟩)],av r.p r.bs,cA m.seen]) hd jI (by simp;exact ⟨h4,hx,hs⟩))) ?_;intro a S;replace S:=St.sG S;refine zH [(0,0),(0,0),(0,2),(0,2),(0,3),(0,4),(0,5),(0,6),(0,8),(0,8),(0,9),(0,10),(0,6),(0,12),(0,14),(1,12),(0,15),(1,16),(1,17),(0,18),(2,18)] [(0,1),(1,1),(2,0),(3,0),(4,0),(5,0),(8,1),(9,1),(10,1),(11,0),(14,0),(6,3),(7,1),(12,3),(13,1),(15,3),(16,1),(17,3),(18,3),(19,1),(20,3)] ([ye h rd wr,zJ b m]) ([zJ b m]) ([]) S ?_;intro w S;(iterate 2 (refine BH S ?_;intro a S));(iterate 4 (refine GG S ?_;intro a S));(iterate 3 (refine BH S ?_;intro a S));(iterate 2 (refine GG S ?_;intro a S));refine Cz ?_;refine cM (bw rd r) S (sV rd r _ hc hl (S.it (bw rd r)) (S.bU (bw rd r) (S.mem.fact (av r.p r.bs)))) rfl ?_;rintro _ a w ⟨rfl,hh⟩ hS;have S:=hS (bw rd (ai r 1)) hh (fun k h=>.inl h);clear hS;rw[←wG]at S;replace S:=S.add (Φ:=av (ai r 1).p (ai r 1).bs) (cj hc (S.mem.fact (av r.p r.bs)));refine BI S ?_;refine BH S ?_;intro a S;rw[w6 (n1:Int)]at S;refine Cz ?_;refine cM (bw rd (ai r 1)) S (hH rd (ai r 1) _ lR (by omega) (S.it (bw rd (ai r 1))) (S.bU (bw rd (ai r 1)) (S.mem.fact (av (ai r 1).p (ai r 1).bs)))) rfl ?_;rintro _ a w ⟨rfl,hh⟩ hS;have S:=hS (bw rd (ai (ai r 1) 2)) hh (fun k h=>.inl h);clear hS;rw[←hn2]at S;replace S:=S.add (Φ:=av (ai (ai r 1) 2).p (ai (ai r 1) 2).bs) (cj lR (S.mem.fact (av (ai r 1).p (ai r 1).bs)))
 rw[←E6]at S;refine BI S ?_;refine BH S ?_;intro a S;rw[w6 (n2:Int)]at S;refine Cz ?_;replace S:=((S.front (bw rd r2)).front (ye h rd wr)).aL;refine kD (nH h rd wr r2) S (M4 h rd wr r2 (c_ _ (nH h rd wr r2)) w Ak (by omega) (S.dM _) (S.it (nH h rd wr r2)) ((S.mem.fact (av r2.p r2.bs)).split (nH h rd wr r2))) rfl ?_;rintro _ a w ⟨z,rfl,hz,hh,w5⟩ hS;have S:=hS (nH h rd (wr||!(cI r2.ab).2.1) (ei r2)) [dc z] hh (fun k h=>.inl h) (by intro Φ hΦ;obtain rfl:=List.mem_singleton.1 hΦ;exact w5);clear hS;replace S:=S.aP;refine DE S ?_;refine BH S ?_;intro a S;refine Cz (sn S ?_);intro b19 a w S;replace S:=S.bT b19 7 1 rfl (by decide);rw[show [.int .i64 (n1:Int),.int .i64 (n2:Int),.int .i64 z.kind,.int .i64 z.user,.int .i64 z.num,str z.text,.slice z.p z.kids.length z.cap]=aa [(⟨n1,n2,z⟩:aK)] from rfl]at S;refine DE S ?_;refine Cz ?_;refine gA S (by simp[maxLen];omega) (by omega) ?_;rintro p7 c7 a w - S;rw[←aC]at S;refine DE S ?_;refine BH S ?_;intro a S;refine Cz (sw S ?_);intro a w S;refine ZJ S ?_;refine ZK ?_;rw[show m.seen.length+1=(m.seen++[(⟨n1,n2,z⟩:aK)]).length from by simp]at S;have S2:=St.oZ (b:=b) (h:=h) (rd:=rd) (m:={ m with seen:=m.seen++[⟨n1,n2,z⟩],ep:=p7,ec:=c7 }) (wr:=(wr||!(cI r2.ab).2.1)) (r:=ei r2) (bs:=[ext Mr]) (fs:=[dc z,cA m.seen]) (S.sub _ _);obtain ⟨m1,uD⟩:∃ m1:aW,m1 = { m with seen:=m.seen++[⟨n1,n2,z⟩],ep:=p7,ec:=c7 }:=⟨_,rfl⟩;rw[←uD]at S2
 have hh:=S2.it (eN b h rd m1 (wr||!(cI r2.ab).2.1) (ei r2));have kV:=S2.bH (eN b h rd m1 (wr||!(cI r2.ab).2.1) (ei r2)) rfl;have hall:ag _ _ (cA (m.seen++[(⟨n1,n2,z⟩:aK)])):=cA.snoc (r:=(⟨n1,n2,z⟩:aK)) (S2.wd.facts (cA m.seen) (by simp)) (S2.wd.facts (dc z) (by simp));have hst:ag (fun k=>(eN b h rd m1 (wr||!(cI r2.ab).2.1) (ei r2)).aj k∨Mr k) _ (cA (m.seen++[(⟨n1,n2,z⟩:aK)])):=hall.less fun k _ hk=>hk.elim (fun h1=>⟨eN b h rd m1 (wr||!(cI r2.ab).2.1) (ei r2),by simp,h1⟩) (fun h1=>⟨ext Mr,by simp,h1⟩)
 have e1:m1.seen=m.seen++[⟨n1,n2,z⟩]:=by rw[uD]
 refine iD S2 (fun _=>⟨rfl,m1,(wr||!(cI r2.ab).2.1),ei r2,⟨by rw[Kg],by rw[Kg];exact P8.symm,?_⟩,(dZ.trans j0).trans Uw,hh,kV,by rw[e1];exact hst⟩);have e2:cU (m.seen++[(⟨n1,n2,z⟩:aK)])=cU m.seen++[⟨n1,n2,(cI r2.ab).1⟩]:=by rw[cU,cU,List.map_append,←hz];rfl
 rw[Kg,uD];exact congrArg (fun x=>bJ.mk m.user m.leaf m.counter m.num m.ah m.aA x) e2
abbrev M8 (b:Nat):Value:=.pointer (some ⟨b,0,none⟩)
def DmE (Mr:Nat→Prop)(b h rd:Nat)(m:aW)(wr:Bool)(r:RS)(Q:aW→Bool→RS→Prop)(v:Value)(w0 w:World):Prop:=v=.tuple #[]∧∃ m' wr' r',Q m' wr' r'∧cK r r'∧(eN b h rd m' wr' r').holds w∧(∀ k,(eN b h rd m' wr' r').aj k→(eN b h rd m wr r).aj k∨w0.heap.size≤k)∧ag (fun k=>(eN b h rd m' wr' r').aj k∨Mr k) w (cA m'.seen)
set_option maxHeartbeats 2000000 in
theorem zK (gf:Nat)[aF prog gf](b b4 h rd:Nat)(R:Nat→aW→Bool→RS→Prop)(stp:aW→Bool→RS→aW→Bool→RS→Prop)
  (ZT:∀ k m wr r m' wr' r',R (k+1) m wr r→r.why=0→stp m wr r m' wr' r'→R k m' wr' r')
  (Ux:∀ k m wr r (Mr:Nat→Prop) (w0:World),R (k+1) m wr r→r.bs.length≤r.c→r.bs.length≤10000000→(∀ k,Mr k→k < w0.heap.size∧¬(eN b h rd m wr r).aj k)→(eN b h rd m wr r).holds w0→ag (fun k=>(eN b h rd m wr r).aj k∨Mr k) w0 (az b4 207 [.pointer (some ⟨h,0,none⟩)])→ag (fun k=>(eN b h rd m wr r).aj k∨Mr k) w0 (av r.p r.bs)→ag (fun k=>(eN b h rd m wr r).aj k∨Mr k) w0 (cA m.seen)→
   aT prog gf [M8 b,M8 b4] w0 (eN b h rd m wr r).aj fun v w'=>Wl Mr b h rd m wr r (stp m wr r) v w0 w')
  (m:aW) (wr:Bool) (r:RS) (Mr:Nat→Prop) (w0:World) (hR:R (aV (aM r 1) 0) m wr (ai r 1)) (hc:r.bs.length≤r.c) (hl:r.bs.length≤10000000) (jI:∀ k,Mr k→k < w0.heap.size∧¬(eN b h rd m wr r).aj k) (hd:(eN b h rd m wr r).holds w0)
  (h4:ag (fun k=>(eN b h rd m wr r).aj k∨Mr k) w0 (az b4 207 [.pointer (some ⟨h,0,none⟩)])) (hx:ag (fun k=>(eN b h rd m wr r).aj k∨Mr k) w0 (av r.p r.bs)) (hs:ag (fun k=>(eN b h rd m wr r).aj k∨Mr k) w0 (cA m.seen)) :
  aT prog 137 [.pointer (some ⟨h,0,none⟩),.func (.func gf) #[] ⟨[M8 b,M8 b4]⟩] w0 (eN b h rd m wr r).aj fun v w'=>DmE Mr b h rd m wr r (fun m' wr' r'=>∃ k,R k m' wr' r'∧(k=0∨r'.why≠0)) v w0 w':=by
 refine E1 func137 rfl ntmps137 ((Wd.ij (x:=eN b h rd m wr r) (Mr:=Mr) (fs:=[av r.p r.bs,cA m.seen,az b4 207 [.pointer (some ⟨h,0,none⟩)]]) hd jI (by simp;exact ⟨hx,hs,h4⟩))) ?_;intro a S;refine kS ?_;replace S:=St.sG S;obtain ⟨n,hn⟩:∃ n,n=aV (aM r 1) 0:=⟨_,rfl⟩;rw[←hn]at hR;refine J5 ?_;intro a S;refine cM (bw rd r) S (sV rd r _ hc hl (S.it (bw rd r)) (S.bU (bw rd r) (S.mem.fact (av r.p r.bs)))) rfl ?_;rintro _ a w ⟨rfl,hh⟩ hS;have S:=hS (bw rd (ai r 1)) hh (fun k h=>.inl h);clear hS;rw[←hn]at S;have xD:n < 256:=by rw[hn];exact (ck r 1 (by decide)).2
 replace S:=S.add (Φ:=av (ai r 1).p (ai r 1).bs) (cj hc (S.mem.fact (av r.p r.bs)));have dZ:=cK.take r 1;replace S:=(((((S.front (zJ b m)).front (CA m)).front (CB m)).front (CC m)).front (bw rd (ai r 1))).front (ye h rd wr);replace S:=St.oZ S;refine J4 ?_;intro a S;refine dI S (fun(k:Nat) (m1:aW) (sH:Bool) (r1:RS) uu=>[(4,.int .u8 (k:Nat)),(5,uu 10),(0,uu 11),(0,uu 12),(0,uu 13),(0,uu 14),(0,uu 15),(0,uu 16),(0,uu 17),(0,uu 18),(0,uu 19),(0,uu 20),(0,uu 21),(0,uu 22),(0,uu 23)]) (fun(k:Nat) (m1:aW) (sH:Bool) (r1:RS)=>[eN b h rd m1 sH r1,ext Mr]) (fun(k:Nat) (m1:aW) (sH:Bool) (r1:RS)=>[av r1.p r1.bs,cA m1.seen,az b4 207 [.pointer (some ⟨h,0,none⟩)]]) (fun(k:Nat) (m1:aW) (sH:Bool) (r1:RS)=>R k m1 sH r1∧cK r r1∧k < 256) (fun(k:Nat) (m1:aW) (sH:Bool) (r1:RS)=>k) (n) (m) (wr) (ai r 1) ?_ S.uu ?_ ?_;exact ⟨hR,dZ,xD⟩
 first | exact S | exact S.sub _ _
 clear S;rintro k m1 sH r1 uu a w ⟨Wm,hsub,hk⟩ S;refine kS (kS ?_);have lR:=hsub.cap hc;have nw:=hsub.len;refine J4 ?_;intro a S;refine gS S (fun QC S=>?_) (fun QC S=>?_);refine gT S ?_;refine sq S ?_;intro a S;replace S:=St.sG S;refine gT S ?_;refine sq S ?_;intro a S;refine gT S ?_;refine sq S ?_;intro a S;refine gT S ?_;refine sq S ?_;intro a S;refine gT S ?_;refine sr S (yW rd r1 _ (az.aO (S.box rd) (fun h=>h))) ?_;rintro _ a w rfl S;replace S:=(((((S.front (zJ b m1)).front (CA m1)).front (CB m1)).front (CC m1)).front (bw rd r1)).front (ye h rd sH);replace S:=St.oZ S;refine gT S ?_;(iterate 2 (refine sq S ?_;intro a S));refine kN (aQ ?_);refine kC S (fun h1=>?_) (fun h1=>?_);refine kK (aQ (kS (kB ?_)));obtain ⟨k',rfl⟩:∃ k',k=k'+1:=⟨k - 1,by have:=of_decide_eq_true QC;omega⟩;refine J2 ?_;intro a S;refine kD (eN b h rd m1 sH r1) S (Ux k' m1 sH r1 (c_ _ (eN b h rd m1 sH r1)) _ Wm lR (by omega) (S.dM _) (S.it (eN b h rd m1 sH r1)) ((S.mem.fact (az b4 207 [.pointer (some ⟨h,0,none⟩)])).split (eN b h rd m1 sH r1)) ((S.mem.fact (av r1.p r1.bs)).split (eN b h rd m1 sH r1)) ((S.mem.fact (cA m1.seen)).split (eN b h rd m1 sH r1))) rfl ?_;rintro _ a w ⟨rfl,m2,Wn,r2,hq,hsb,hh,hf,hall⟩ hS;have S:=hS (eN b h rd m2 Wn r2) [cA m2.seen] hh hf (by intro Φ hΦ;obtain rfl:=List.mem_singleton.1 hΦ;exact hall);clear hS;refine J6 ?_;intro a S;rw[show IntKind.u8.wrap (((k'+1:Nat):Int) - 1)=(k':Nat) from by
  rw[show (((k'+1:Nat):Int) - 1)=(k':Nat) from by omega];unfold IntKind.wrap;simp only[IntKind.bits,IntKind.signed,Bool.false_and];simp;omega]at S
 refine J3 ?_;intro a S;replace S:=S.add (Φ:=av r2.p r2.bs) ((S.mem.fact (av r1.p r1.bs)).imp fun _ h=>hsb.gl lR _ h);refine ⟨k',m2,Wn,r2,S.uu,⟨ZT _ _ _ _ _ _ _ Wm (of_decide_eq_true h1) hq,hsub.trans hsb,by omega⟩,S.sub _ _,by omega⟩;refine kE (fT (fT (mM ?_)));have hh:=S.it (eN b h rd m1 sH r1);have kV:=S.bH (eN b h rd m1 sH r1) rfl;have hst:ag (fun k=>(eN b h rd m1 sH r1).aj k∨Mr k) _ (cA m1.seen):=(S.wd.facts (cA m1.seen) (by simp)).less fun k _ hk=>hk.elim (fun h1=>⟨eN b h rd m1 sH r1,by simp,h1⟩) (fun h1=>⟨ext Mr,by simp,h1⟩)
 exact iD S (fun _=>⟨rfl,m1,sH,r1,⟨k,Wm,.inr (of_decide_eq_false h1)⟩,hsub,hh,kV,hst⟩);refine gF S ?_;intro a S;(iterate 5 (refine gF S ?_;intro a S));refine sq S ?_;intro a S;refine kN (aQ ?_);refine jS S ?_;refine kE (fT (fT (mM ?_)));have hh:=S.it (eN b h rd m1 sH r1);have kV:=S.bH (eN b h rd m1 sH r1) rfl;have hst:ag (fun k=>(eN b h rd m1 sH r1).aj k∨Mr k) _ (cA m1.seen):=(S.wd.facts (cA m1.seen) (by simp)).less fun k _ hk=>hk.elim (fun h1=>⟨eN b h rd m1 sH r1,by simp,h1⟩) (fun h1=>⟨ext Mr,by simp,h1⟩)
 exact iD S (fun _=>⟨rfl,m1,sH,r1,⟨k,Wm,.inl (by have:=of_decide_eq_false QC;omega)⟩,hsub,hh,kV,hst⟩)
mutual
def jk:Term→Int→Term
 | .mk k u n s ks,d=>.mk k u n (s.take (min s.length 65)) (lO ks 0 d)
def lO:List Term→Nat→Int→List Term
 | [],_,_=>[]
 | t::ts,i,d=>if i < 3∧0 < d then jk t (d - 1)::lO ts (i+1) d else lO ts (i+1) d
end
theorem M9 (N:Nat):∀ (t:ak) (d:Int) (M:Nat→Prop) (w0:World),SizeOf.sizeOf t < N→-1000≤d→d≤1000→(∀ k,M k→k < w0.heap.size)→ag M w0 (dc t)→
  aT prog 105 [vL t,.int .i64 d] w0 (fun _=>False) fun v w'=>Pt M w0.heap.size w' v (jk t.t d):=by
 induction N with
 | zero=>intro t _ _ _ h;exact absurd h (Nat.not_lt_zero _)
 | succ N ih=>
 intro t d M w0 hN Ju hd2 hM hf;have hlen:=ak.pR hf;have hL:eS (min t.text.length 65) t.text.length:=⟨Nat.min_le_left _ _⟩;refine E1 func105 rfl ntmps105 (Wd.fE (M:=M) (fs:=[dc t]) hM (by simpa using hf)) ?_;intro a S;refine kS (kR ?_);refine sa S ?_;intro b2 a w S;refine sa S ?_;intro b4 a w S;refine sP ?_;intro a w S;refine mJ ?_;intro a S;refine dI S (fun(k:Nat) (zs:List ak) (p5:Option Addr) (c5:Nat) uu=>[(5,.slice p5 zs.length c5),(0,uu 6),(0,uu 7),(11,.int .i64 (k:Nat)),(0,uu 20),(0,uu 21),(0,uu 22),(0,uu 23),(0,uu 24),(0,uu 25),(0,uu 26),(0,uu 27),(0,uu 28),(0,uu 29),(0,uu 30),(0,uu 31),(0,uu 32),(0,uu 33),(0,uu 34),(0,uu 35),(0,uu 36),(0,uu 37)]) (fun(k:Nat) (zs:List ak) (p5:Option Addr) (c5:Nat)=>[Wk.row 43 5 p5 zs.length c5 (aa zs),Wk.box b4 43 [.int .i64 0,.int .i64 0,.int .i64 0,.string ⟨#[]⟩,.slice none 0 0],Wk.box b2 43 [.int .i64 t.kind,.int .i64 t.user,.int .i64 t.num,str (t.text.take (min t.text.length 65)),.slice t.p t.kids.length t.cap],ext M]) (fun(k:Nat) (zs:List ak) (p5:Option Addr) (c5:Nat)=>[dA zs,dc t]) (fun(k:Nat) (zs:List ak) (p5:Option Addr) (c5:Nat)=>k≤t.kids.length∧zs.length≤3∧zs.length≤k∧zs.map ak.t++lO ((t.kids.drop k).map ak.t) k d=lO (t.kids.map ak.t) 0 d∧∀ z∈zs,tf w0.heap.size z) (fun(k:Nat) (zs:List ak) (p5:Option Addr) (c5:Nat)=>t.kids.length - k) (0) ([]) (none) (0) ?_ S.uu ?_ ?_
 ·exact ⟨Nat.zero_le _,by simp,Nat.le_refl _,rfl,nofun⟩
 ·rw[List.drop_zero]at S
  replace S:=S.cP 43 5;replace S:=S.add (Φ:=dA []) (fun _ _ _ hx=>by cases hx);rw[show Wk.row 43 5 none 0 0 []=Wk.row 43 5 none 0 0 (aa ([]:List ak)) from rfl]at S;exact S.sub _ _
 ·clear S;rintro k zs p5 c5 uu a w ⟨hk,QD,Kf,aI,Gn⟩ S
  refine J6 ?_;intro a S;refine kC S (fun h4=>?_) (fun h4=>?_)
  ·refine kK (aQ (kS (kB (kS ?_))))
   have bn:k < t.kids.length:=by have:=of_decide_eq_true h4;omega
   have hK:cx k t.kids.length:=⟨bn⟩;rw[js bn,List.map_cons,lO]at aI;refine J4 ?_;intro a S;refine sa S ?_;intro b7 a w S;refine Li ?_;intro a w S;refine kC S (fun h6=>?_) (fun h6=>?_)
   ·refine J4 ?_;intro a S
    have h6':(k:Int) < 3∧0 < d:=by simpa using h6
    refine J1 ?_;intro a S;rw[w6 (d - 1)]at S;have tv:w0.heap.size≤w.heap.size:=S.wd.agree.size;refine sr S (ih (gP t.kids k) (d - 1) _ w (by have:=ak.lH (fC bn);omega) (by omega) (by omega) (a_ S) (rV (S.t t) (fC bn))) ?_;rintro _ a w ⟨z,rfl,hz,w5,-,ZU⟩ S;replace ZU:=ZU.up tv;replace S:=S.add (Φ:=dc z) w5;have JI:ag _ _ (dA zs):=S.wd.facts (dA zs) (by simp);have JJ:=S.t z;replace S:=S.add (Φ:=dA (zs++[z])) (fun w' bP x hx=>by
     rcases List.mem_append.1 hx with h | h
     ·exact JI w' bP x h
     ·rw[List.mem_singleton.1 h];exact JJ w' bP)
    refine sn S ?_;intro b35 a w S;refine gA S (by simp[maxLen];omega) (by omega) ?_;rintro p7 c7 a w - S;rw[show aa zs++[Value.int .i64 z.kind,.int .i64 z.user,.int .i64 z.num,str z.text,.slice z.p z.kids.length z.cap]=aa (zs++[z]) from by rw[aC];rfl,show zs.length+1=(zs++[z]).length from by simp]at S;refine J9 ?_;intro a S;rw[if_pos (show k < 3∧0 < d by omega)]at aI;rw[w6 ((k:Int)+1)]at S;refine ⟨k+1,zs++[z],p7,c7,S.uu,⟨bn,by simp;omega,by simp;omega,?_,fun y hy=>?_⟩,S.sub _ _,by omega⟩
    ·rw[List.map_append,List.append_assoc,←aI]
     show _++(z.t::_)=_
     rw[hz];rfl
    ·rcases List.mem_append.1 hy with h | h
     ·exact Gn y h
     ·rw[List.mem_singleton.1 h];exact ZU
   ·refine J8 ?_;intro a S
    have h6':¬(k < 3∧0 < d):=fun h=>by
     have:(decide ((k:Int) < 3)&&decide (0 < d))=true:=by rw[decide_eq_true (show (k:Int) < 3 by omega),decide_eq_true h.2];rfl
     rw[this]at h6;cases h6
    rw[if_neg h6']at aI;rw[w6 ((k:Int)+1)]at S;exact ⟨k+1,zs,p5,c5,S.uu,⟨bn,QD,by omega,aI,Gn⟩,S.sub _ _,by omega⟩
  ·refine Rs ?_;intro a w S
   have hk2:t.kids.length≤k:=by have:=of_decide_eq_false h4;omega
   rw[List.drop_of_length_le hk2,List.map_nil,lO,List.append_nil]at aI;have hrow:=S.row p5 zs.length;have hall:ag _ _ (dA zs):=S.wd.facts (dA zs) (by simp);have hap:∀ ad,p5=some ad→¬M ad.block:=fun ad had hm=>St.gj S (Wk.row 43 5 p5 zs.length c5 (aa zs)) (ext M) ad.block ⟨ad,had,rfl⟩ hm
   have vK:ag M _ (dA zs):=hall.less fun k _ hm=>⟨ext M,by simp,hm⟩
   have hls:=j8 hrow (fun x hx=>dA.get vK hx) hap;refine aD S (fun _=>⟨.mk t.kind t.user t.num (t.text.take (min t.text.length 65)) p5 c5 zs,rfl,?_,fun w' bP=>?_,uP hrow hap,.mk (fun ad h=>(S.cQ p5 zs.length ad h).elim (fun h=>h.elim) id) Gn⟩)
   ·rw[t.mN,jk,←aI];exact ak.mN _
   ·exact f_.iff.2 ⟨gm hrow,mB hrow,hls w' bP⟩
def pq (n:Nat)(x:aH):aH:=⟨x.key.take (min x.key.length n),x.dS⟩
def vX (s:fV):fV:=⟨s.user,s.cnt,jk s.root 10⟩
def nh (m:bJ):bJ:=⟨m.user,m.leaf,m.counter,m.num,(m.ah.take 7).map (pq 25),(m.aA.take 17).map (pq 65),(m.seen.take 8).map vX⟩
theorem ua {n:Nat}{xs:List aH}(k:Nat):∀ x∈(xs.take k).map (pq n),x.key.length≤n:=by
 intro x hx;obtain ⟨y,-,rfl⟩:=List.mem_map.1 hx;rw[pq];simp only[List.length_take];omega
theorem sI {α β:Type}[dW α]{xs:List α}{k:Nat}(h:k < xs.length)(f:α→β):(xs.take k).map f++[f (aq xs k)]=(xs.take (k+1)).map f:=by
 rw[List.take_add_one,bu h];simp
structure DH (m:aW):Prop where
 ah:m.ah.length≤9223372036854775807
 aA:m.aA.length≤9223372036854775807
 seen:m.seen.length≤9223372036854775807
theorem dY.big {m:aW}(h:dY m):DH m:=⟨by have:=h.ah;omega,by have:=h.aA;omega,by have:=h.seen;omega⟩
def QE (M:Nat→Prop)(p:bJ)(v:Value)(w0 w:World):Prop:=∃ x:aW,v=fJ x∧x.m=p∧dY x∧w.ownsRow 0 177 2 (.slice x.vp x.aA.length x.vc) x.aA.length (aa x.aA)∧(∀ ad,x.vp=some ad→w0.heap.size≤ad.block∧¬M ad.block)∧
 ag (fun k=>M k∨∃ ad,x.vp=some ad∧k=ad.block) w (NU x.sp x.sc x.ah)∧ag (fun k=>M k∨∃ ad,x.vp=some ad∧k=ad.block) w (K9 x.ep x.ec x.seen)∧wQ w0.heap.size x
set_option maxHeartbeats 4000000 in
theorem zL (m:aW)(hl:DH m)(M:Nat→Prop)(w0:World)(hM:∀ k,M k→k < w0.heap.size)(hf:ag M w0 (aE m)):aT prog 34 [fJ m] w0 (fun _=>False) fun v w'=>QE M (nh m.m) v w0 w':=by
 have nw:=hl.ah;have rU:=hl.aA;have LY:=hl.seen;refine E1 func34 rfl ntmps34 (Wd.fE (M:=M) (fs:=[av m.sp m.ah,av m.vp m.aA,av m.ep m.seen]) hM (by simp;exact ⟨hf.imp fun _ h=>h.1,hf.imp fun _ h=>h.2.1,hf.imp fun _ h=>h.2.2⟩)) ?_;intro a S;refine kS (kR ?_);refine sa S ?_;intro b1 a w S;refine sa S ?_;intro b2 a w S;refine kN (aQ (kS (kR ?_)));refine sa S ?_;intro b3 a w S;refine kN (aQ (kS ?_));refine bM [T9 0,T9 1,T9 2,T9 3,T9 4,T9 5,T9 6,T9 7,T9 8,F9 9,T9 10,F9 11,T9 12,F9 13,T9 14,F9 15] [b3] S ?_;intro w S;(iterate 9 (refine dq S ?_;intro a S));refine dl (sw S ?_);intro a w S;refine de S ?_;refine dq S ?_;intro a S;refine dl (sw S ?_);intro a w S;refine de S ?_;refine dq S ?_;intro a S;refine dl (sw S ?_);intro a w S;refine de S ?_;refine dq S ?_;intro a S;refine dl (sw S ?_);intro a w S;refine de S ?_;refine dn (aQ ?_);refine jX S (fun(o1:List aH) (p1:Option Addr) (c1:Nat) uu=>[(4,uu 4),(0,uu 5),(16,uu 22),(0,uu 23),(0,uu 24),(0,uu 25),(0,uu 26),(0,uu 27),(0,uu 28),(0,uu 29),(0,uu 30),(0,uu 31),(0,uu 32),(0,uu 33),(0,uu 34),(0,uu 35),(0,uu 36),(0,uu 37),(0,uu 38),(0,uu 39),(0,uu 40),(0,uu 41),(0,uu 42),(0,uu 43),(0,uu 44),(0,uu 45),(0,uu 46),(0,uu 47)]) (fun(o1:List aH) (p1:Option Addr) (c1:Nat)=>[Wk.row 175 2 p1 o1.length c1 (aa o1),Wk.box b3 67 [.int .i64 m.user,.int .i64 m.leaf,.int .i64 m.counter,.int .i64 m.num,.slice p1 o1.length c1,.slice none 0 0,.slice none 0 0],Wk.box b2 67 [.int .i64 0,.int .i64 0,.int .i64 0,.int .i64 0,.slice none 0 0,.slice none 0 0,.slice none 0 0],Wk.box b1 67 (cN m),ext M]) (fun(o1:List aH) (p1:Option Addr) (c1:Nat)=>[av m.sp m.ah,av m.vp m.aA,av m.ep m.seen]) (fun(o1:List aH) (p1:Option Addr) (c1:Nat)=>o1=(m.ah.take 7).map (pq 25)) ?_ ?_
 refine J9 ?_;intro a S;refine dI S (fun(k:Nat) (o1:List aH) (p1:Option Addr) (c1:Nat) uu=>[(4,uu 4),(0,uu 5),(19,.int .i64 (k:Nat)),(0,uu 26),(0,uu 27),(0,uu 28),(0,uu 29),(0,uu 30),(0,uu 31),(0,uu 32),(0,uu 33),(0,uu 34),(0,uu 35),(0,uu 36),(0,uu 37),(0,uu 38),(0,uu 39),(0,uu 40),(0,uu 41),(0,uu 42),(0,uu 43),(0,uu 44),(0,uu 45),(0,uu 46),(0,uu 47)]) (fun(k:Nat) (o1:List aH) (p1:Option Addr) (c1:Nat)=>[Wk.row 175 2 p1 o1.length c1 (aa o1),Wk.box b3 67 [.int .i64 m.user,.int .i64 m.leaf,.int .i64 m.counter,.int .i64 m.num,.slice p1 o1.length c1,.slice none 0 0,.slice none 0 0],Wk.box b2 67 [.int .i64 0,.int .i64 0,.int .i64 0,.int .i64 0,.slice none 0 0,.slice none 0 0,.slice none 0 0],Wk.box b1 67 (cN m),ext M]) (fun(k:Nat) (o1:List aH) (p1:Option Addr) (c1:Nat)=>[av m.sp m.ah,av m.vp m.aA,av m.ep m.seen]) (fun(k:Nat) (o1:List aH) (p1:Option Addr) (c1:Nat)=>k≤7∧k≤m.ah.length∧o1.length=k∧o1=(m.ah.take k).map (pq 25)) (fun(k:Nat) (o1:List aH) (p1:Option Addr) (c1:Nat)=>m.ah.length - k) (0) ([]) (none) (0) ?_ S.uu ?_ ?_;exact ⟨Nat.zero_le _,Nat.zero_le _,rfl,rfl⟩;replace S:=S.cP 175 2;rw[show Wk.row 175 2 none 0 0 []=Wk.row 175 2 none 0 0 (aa ([]:List aH)) from rfl]at S;exact S.sub _ _;clear S;rintro k o1 p1 c1 uu a w ⟨NQ,hk,Uy,aI⟩ S;refine J6 ?_;intro a S;refine kC S (fun h4=>?_) (fun h4=>?_);refine kK (aQ (kS (kB (kS ?_))));have bn:k < m.ah.length:=by have:=of_decide_eq_true h4;omega
 have hK:cx k m.ah.length:=⟨bn⟩;have hL:eS (min (aq m.ah k).key.length 25) (aq m.ah k).key.length:=⟨Nat.min_le_left _ _⟩;refine J4 ?_;intro a S;refine sa S ?_;intro b5 a w S;refine yA ?_;intro a w S;refine kC S (fun h6=>?_) (fun h6=>?_);refine kE (fT (Rt (fT (fT (mM (aQ ?_))))));exact ⟨o1,p1,c1,S.uu,by rw[aI,show k=7 from by have:=of_decide_eq_true h6;omega],S.sub _ _⟩;refine kK (aQ ?_);refine iN 15 [T9 0,T9 1,T9 2,T9 3,T9 4,T9 5,T9 6,T9 7,T9 8,T9 9,T9 10,T9 11,F9 12,F9 13,T9 14,F9 15] [Wk.box b5 175 [str (aq m.ah k).key,.int .i64 (aq m.ah k).dS],Wk.box b3 67 [.int .i64 m.user,.int .i64 m.leaf,.int .i64 m.counter,.int .i64 m.num,.slice p1 o1.length c1,.slice none 0 0,.slice none 0 0]] S ?_;intro w S;(iterate 9 (refine qW S ?_;intro a S));rw[List.drop_zero]at S;(iterate 3 (refine qW S ?_;intro a S));refine mw (sn S ?_);intro Uz a w S;replace S:=S.bT Uz 2 1 rfl (by decide);rw[show [str ((aq m.ah k).key.take (min (aq m.ah k).key.length 25)),.int .i64 (aq m.ah k).dS]=aa [pq 25 (aq m.ah k)] from rfl]at S;refine qx S ?_;refine mw ?_;refine gA S (by simp[maxLen];omega) (by omega) ?_;rintro p7 c7 a w - S;rw[←aC,show o1.length+1=(o1++[pq 25 (aq m.ah k)]).length from by simp]at S;refine qx S ?_;refine qW S ?_;intro a S;refine mw (sw S ?_);intro a w S;refine I_ (qw (aQ (kR ?_)));(iterate 2 (refine sq S ?_;intro a S));refine kN (aQ ?_)
 rw[w6 ((k:Int)+1)]at S;refine ⟨k+1,o1++[pq 25 (aq m.ah k)],p7,c7,S.uu,⟨by have:=of_decide_eq_false h6;omega,bn,by simp;omega,by rw[aI];exact sI bn _⟩,S.sub _ _,by omega⟩;refine kE (fT (fT (mM (aQ ?_))));have bn:m.ah.length≤k:=by have:=of_decide_eq_false h4;omega
 exact ⟨o1,p1,c1,S.uu,by rw[aI,List.take_of_length_le bn,List.take_of_length_le (by omega)],S.sub _ _⟩;clear S;rintro o1 p1 c1 uu a w UA S;refine jX S (fun(o2:List aH) (p2:Option Addr) (c2:Nat) uu=>[(6,uu 6),(0,uu 7),(40,uu 48),(0,uu 49),(0,uu 50),(0,uu 51),(0,uu 52),(0,uu 53),(0,uu 54),(0,uu 55),(0,uu 56),(0,uu 57),(0,uu 58),(0,uu 59),(0,uu 60),(0,uu 61),(0,uu 62),(0,uu 63),(0,uu 64),(0,uu 65),(0,uu 66),(0,uu 67),(0,uu 68),(0,uu 69),(0,uu 70),(0,uu 71),(0,uu 72),(0,uu 73)]) (fun(o2:List aH) (p2:Option Addr) (c2:Nat)=>[Wk.row 177 2 p2 o2.length c2 (aa o2),Wk.row 175 2 p1 o1.length c1 (aa o1),Wk.box b3 67 [.int .i64 m.user,.int .i64 m.leaf,.int .i64 m.counter,.int .i64 m.num,.slice p1 o1.length c1,.slice p2 o2.length c2,.slice none 0 0],Wk.box b2 67 [.int .i64 0,.int .i64 0,.int .i64 0,.int .i64 0,.slice none 0 0,.slice none 0 0,.slice none 0 0],Wk.box b1 67 (cN m),ext M]) (fun(o2:List aH) (p2:Option Addr) (c2:Nat)=>[av m.sp m.ah,av m.vp m.aA,av m.ep m.seen]) (fun(o2:List aH) (p2:Option Addr) (c2:Nat)=>o2=(m.aA.take 17).map (pq 65)) ?_ ?_;refine J9 ?_;intro a S;refine dI S (fun(k:Nat) (o2:List aH) (p2:Option Addr) (c2:Nat) uu=>[(6,uu 6),(0,uu 7),(43,.int .i64 (k:Nat)),(0,uu 52),(0,uu 53),(0,uu 54),(0,uu 55),(0,uu 56),(0,uu 57),(0,uu 58),(0,uu 59),(0,uu 60),(0,uu 61),(0,uu 62),(0,uu 63),(0,uu 64),(0,uu 65),(0,uu 66),(0,uu 67),(0,uu 68),(0,uu 69),(0,uu 70),(0,uu 71),(0,uu 72),(0,uu 73)]) (fun(k:Nat) (o2:List aH) (p2:Option Addr) (c2:Nat)=>[Wk.row 177 2 p2 o2.length c2 (aa o2),Wk.row 175 2 p1 o1.length c1 (aa o1),Wk.box b3 67 [.int .i64 m.user,.int .i64 m.leaf,.int .i64 m.counter,.int .i64 m.num,.slice p1 o1.length c1,.slice p2 o2.length c2,.slice none 0 0],Wk.box b2 67 [.int .i64 0,.int .i64 0,.int .i64 0,.int .i64 0,.slice none 0 0,.slice none 0 0,.slice none 0 0],Wk.box b1 67 (cN m),ext M]) (fun(k:Nat) (o2:List aH) (p2:Option Addr) (c2:Nat)=>[av m.sp m.ah,av m.vp m.aA,av m.ep m.seen]) (fun(k:Nat) (o2:List aH) (p2:Option Addr) (c2:Nat)=>k≤17∧k≤m.aA.length∧o2.length=k∧o2=(m.aA.take k).map (pq 65)) (fun(k:Nat) (o2:List aH) (p2:Option Addr) (c2:Nat)=>m.aA.length - k) (0) ([]) (none) (0) ?_ S.uu ?_ ?_
 exact ⟨Nat.zero_le _,Nat.zero_le _,rfl,rfl⟩;replace S:=S.cP 177 2;rw[show Wk.row 177 2 none 0 0 []=Wk.row 177 2 none 0 0 (aa ([]:List aH)) from rfl]at S;exact S.sub _ _;clear S;rintro k o2 p2 c2 uu a w ⟨NQ,hk,Uy,aI⟩ S;refine J6 ?_;intro a S;refine kC S (fun gi=>?_) (fun gi=>?_);refine kK (aQ (kS (kB (kS ?_))));have bn:k < m.aA.length:=by have:=of_decide_eq_true gi;omega
 have hK:cx k m.aA.length:=⟨bn⟩;have hL:eS (min (aq m.aA k).key.length 65) (aq m.aA k).key.length:=⟨Nat.min_le_left _ _⟩;refine J4 ?_;intro a S;refine sa S ?_;intro b7 a w S;refine yA ?_;intro a w S;refine kC S (fun h12=>?_) (fun h12=>?_);refine kE (fT (Rt (fT (fT (mM (aQ ?_))))));exact ⟨o2,p2,c2,S.uu,by rw[aI,show k=17 from by have:=of_decide_eq_true h12;omega],S.sub _ _⟩;refine kK (aQ ?_);refine iN 15 [T9 0,T9 1,T9 2,T9 3,T9 4,T9 5,T9 6,T9 7,T9 8,T9 9,T9 10,T9 11,F9 12,F9 13,T9 14,F9 15] [Wk.box b7 177 [str (aq m.aA k).key,.int .i64 (aq m.aA k).dS],Wk.box b3 67 [.int .i64 m.user,.int .i64 m.leaf,.int .i64 m.counter,.int .i64 m.num,.slice p1 o1.length c1,.slice p2 o2.length c2,.slice none 0 0]] S ?_;intro w S;(iterate 9 (refine qW S ?_;intro a S));rw[List.drop_zero]at S;(iterate 3 (refine qW S ?_;intro a S));refine mw (sn S ?_);intro Uz a w S;replace S:=S.bT Uz 2 1 rfl (by decide);rw[show [str ((aq m.aA k).key.take (min (aq m.aA k).key.length 65)),.int .i64 (aq m.aA k).dS]=aa [pq 65 (aq m.aA k)] from rfl]at S;refine qx S ?_;refine mw ?_;refine gA S (by simp[maxLen];omega) (by omega) ?_;rintro p7 c7 a w - S;rw[←aC,show o2.length+1=(o2++[pq 65 (aq m.aA k)]).length from by simp]at S;refine qx S ?_;refine qW S ?_;intro a S;refine mw (sw S ?_);intro a w S;refine I_ (qw (aQ (kR ?_)));(iterate 2 (refine sq S ?_;intro a S));refine kN (aQ ?_)
 rw[w6 ((k:Int)+1)]at S;refine ⟨k+1,o2++[pq 65 (aq m.aA k)],p7,c7,S.uu,⟨by have:=of_decide_eq_false h12;omega,bn,by simp;omega,by rw[aI];exact sI bn _⟩,S.sub _ _,by omega⟩;refine kE (fT (fT (mM (aQ ?_))));have bn:m.aA.length≤k:=by have:=of_decide_eq_false gi;omega
 exact ⟨o2,p2,c2,S.uu,by rw[aI,List.take_of_length_le bn,List.take_of_length_le (by omega)],S.sub _ _⟩;clear S;rintro o2 p2 c2 uu a w UB S;refine jX S (fun(o3:List aK) (p3:Option Addr) (c3:Nat) uu=>[(8,uu 8),(0,uu 9),(64,uu 74),(0,uu 75),(0,uu 76),(0,uu 77),(0,uu 78),(0,uu 79),(0,uu 80),(0,uu 81),(0,uu 82),(0,uu 83),(0,uu 84),(0,uu 85),(0,uu 86),(0,uu 87),(0,uu 88),(0,uu 89),(0,uu 90),(0,uu 91),(0,uu 92),(0,uu 93),(0,uu 94),(0,uu 95),(0,uu 96),(0,uu 97)]) (fun(o3:List aK) (p3:Option Addr) (c3:Nat)=>[Wk.row 179 7 p3 o3.length c3 (aa o3),Wk.row 177 2 p2 o2.length c2 (aa o2),Wk.row 175 2 p1 o1.length c1 (aa o1),Wk.box b3 67 [.int .i64 m.user,.int .i64 m.leaf,.int .i64 m.counter,.int .i64 m.num,.slice p1 o1.length c1,.slice p2 o2.length c2,.slice p3 o3.length c3],Wk.box b2 67 [.int .i64 0,.int .i64 0,.int .i64 0,.int .i64 0,.slice none 0 0,.slice none 0 0,.slice none 0 0],Wk.box b1 67 (cN m),ext M]) (fun(o3:List aK) (p3:Option Addr) (c3:Nat)=>[je o3,cA o3,av m.sp m.ah,av m.vp m.aA,av m.ep m.seen]) (fun(o3:List aK) (p3:Option Addr) (c3:Nat)=>(o3.map aK.s=(m.seen.take 8).map fun s=>vX s.s)∧uQ w0.heap.size o3) ?_ ?_;refine J9 ?_;intro a S;refine dI S (fun(k:Nat) (o3:List aK) (p3:Option Addr) (c3:Nat) uu=>[(8,uu 8),(0,uu 9),(67,.int .i64 (k:Nat)),(0,uu 78),(0,uu 79),(0,uu 80),(0,uu 81),(0,uu 82),(0,uu 83),(0,uu 84),(0,uu 85),(0,uu 86),(0,uu 87),(0,uu 88),(0,uu 89),(0,uu 90),(0,uu 91),(0,uu 92),(0,uu 93),(0,uu 94),(0,uu 95),(0,uu 96),(0,uu 97)]) (fun(k:Nat) (o3:List aK) (p3:Option Addr) (c3:Nat)=>[Wk.row 179 7 p3 o3.length c3 (aa o3),Wk.row 177 2 p2 o2.length c2 (aa o2),Wk.row 175 2 p1 o1.length c1 (aa o1),Wk.box b3 67 [.int .i64 m.user,.int .i64 m.leaf,.int .i64 m.counter,.int .i64 m.num,.slice p1 o1.length c1,.slice p2 o2.length c2,.slice p3 o3.length c3],Wk.box b2 67 [.int .i64 0,.int .i64 0,.int .i64 0,.int .i64 0,.slice none 0 0,.slice none 0 0,.slice none 0 0],Wk.box b1 67 (cN m),ext M]) (fun(k:Nat) (o3:List aK) (p3:Option Addr) (c3:Nat)=>[je o3,cA o3,av m.sp m.ah,av m.vp m.aA,av m.ep m.seen]) (fun(k:Nat) (o3:List aK) (p3:Option Addr) (c3:Nat)=>k≤8∧k≤m.seen.length∧o3.length=k∧(o3.map aK.s=(m.seen.take k).map fun s=>vX s.s)∧uQ w0.heap.size o3) (fun(k:Nat) (o3:List aK) (p3:Option Addr) (c3:Nat)=>m.seen.length - k) (0) ([]) (none) (0) ?_ S.uu ?_ ?_
 exact ⟨Nat.zero_le _,Nat.zero_le _,rfl,rfl,nofun⟩;replace S:=S.cP 179 7;rw[show Wk.row 179 7 none 0 0 []=Wk.row 179 7 none 0 0 (aa ([]:List aK)) from rfl]at S;replace S:=S.add (Φ:=cA ([]:List aK)) (fun _ _ _ hx=>by cases hx);replace S:=S.add (Φ:=je ([]:List aK)) (fun _ _ _ hx=>by cases hx);exact S.sub _ _;clear S;rintro k o3 p3 c3 uu a w ⟨NQ,hk,Uy,aI,hnk⟩ S;refine J6 ?_;intro a S;refine kC S (fun Cv=>?_) (fun Cv=>?_);refine kK (aQ (kS (kB (kS ?_))));have bn:k < m.seen.length:=by have:=of_decide_eq_true Cv;omega
 have hK:cx k m.seen.length:=⟨bn⟩;refine J4 ?_;intro a S;refine sa S ?_;intro b9 a w S;refine yA ?_;intro a w S;refine kC S (fun Qx=>?_) (fun Qx=>?_);refine kE (fT (Rt (fT (fT (mM (aQ ?_))))));exact ⟨o3,p3,c3,S.uu,⟨by rw[aI,show k=8 from by have:=of_decide_eq_true Qx;omega],hnk⟩,S.sub _ _⟩;refine kK (aQ ?_);refine iN 13 [T9 0,T9 1,T9 2,T9 3,T9 4,T9 5,T9 6,T9 7,F9 8,T9 9,F9 10,F9 11,T9 12,F9 13] [Wk.box b9 179 [.int .i64 (aq m.seen k).user,.int .i64 (aq m.seen k).cnt,.int .i64 (aq m.seen k).root.kind,.int .i64 (aq m.seen k).root.user,.int .i64 (aq m.seen k).root.num,str (aq m.seen k).root.text,.slice (aq m.seen k).root.p (aq m.seen k).root.kids.length (aq m.seen k).root.cap],Wk.box b3 67 [.int .i64 m.user,.int .i64 m.leaf,.int .i64 m.counter,.int .i64 m.num,.slice p1 o1.length c1,.slice p2 o2.length c2,.slice p3 o3.length c3]] S ?_;intro w S;(iterate 8 (refine qW S ?_;intro a S));refine mw ?_;have tv:w0.heap.size≤w.heap.size:=S.wd.agree.size;refine sr S (M9 _ (aq m.seen k).root 10 _ w (Nat.lt_succ_self _) (by decide) (by decide) (a_ S) ((S.mem.fact (av m.ep m.seen)).imp fun _ h=>h.2 _ (bh bn))) ?_;rintro _ a w ⟨z,rfl,hz,w5,hzo,Gn⟩ S;replace Gn:=Gn.up tv;have Wj:ag _ _ (je (o3++[(⟨(aq m.seen k).user,(aq m.seen k).cnt,z⟩:aK)])):=je.snoc (S.wd.facts (je o3) (by simp)) hzo;replace S:=S.add (Φ:=dc z) w5;have JI:ag _ _ (cA o3):=S.wd.facts (cA o3) (by simp)
 have JJ:=S.t z;replace S:=S.add (Φ:=cA (o3++[(⟨(aq m.seen k).user,(aq m.seen k).cnt,z⟩:aK)])) (cA.snoc (r:=(⟨(aq m.seen k).user,(aq m.seen k).cnt,z⟩:aK)) JI JJ);replace S:=S.add Wj;refine qx S ?_;refine qW S ?_;intro a S;refine mw (sn S ?_);intro Uz a w S;replace S:=S.bT Uz 7 1 rfl (by decide);rw[show [.int .i64 (aq m.seen k).user,.int .i64 (aq m.seen k).cnt,.int .i64 z.kind,.int .i64 z.user,.int .i64 z.num,str z.text,.slice z.p z.kids.length z.cap]=aa [(⟨(aq m.seen k).user,(aq m.seen k).cnt,z⟩:aK)] from rfl]at S;refine qx S ?_;refine mw ?_;refine gA S (by simp[maxLen];omega) (by omega) ?_;rintro p7 c7 a w - S;rw[←aC,show o3.length+1=(o3++[(⟨(aq m.seen k).user,(aq m.seen k).cnt,z⟩:aK)]).length from by simp]at S;refine qx S ?_;refine qW S ?_;intro a S;refine mw (sw S ?_);intro a w S;refine I_ (qw (aQ (kR ?_)));(iterate 2 (refine sq S ?_;intro a S));refine kN (aQ ?_);rw[w6 ((k:Int)+1)]at S;refine ⟨k+1,o3++[⟨(aq m.seen k).user,(aq m.seen k).cnt,z⟩],p7,c7,S.uu,⟨by have:=of_decide_eq_false Qx;omega,bn,by simp;omega,?_,hnk.snoc Gn⟩,S.sub _ _,by omega⟩;rw[List.map_append,aI,←sI bn]
 show _++[(⟨_,_,z.t⟩:fV)]=_
 rw[hz];rfl;refine kE (fT (fT (mM (aQ ?_))));have bn:m.seen.length≤k:=by have:=of_decide_eq_false Cv;omega
 exact ⟨o3,p3,c3,S.uu,⟨by rw[aI,List.take_of_length_le bn,List.take_of_length_le (by omega)],hnk⟩,S.sub _ _⟩;clear S;rintro o3 p3 c3 uu a w ⟨GO,Cu⟩ S;refine Y7 ?_;intro a w S;have e3:o3.length≤8:=by
  have:=congrArg List.length GO;rw[List.length_map,List.length_map,List.length_take]at this;omega
 have e1:o1.length≤7:=by rw[UA,List.length_map,List.length_take];omega
 have e2:o2.length≤17:=by rw[UB,List.length_map,List.length_take];omega
 have r3:=S.row p3 o3.length;have r1:=S.row p1 o1.length;have w3:nU w0.heap.size p3:=fun ad h=>(S.cQ p3 o3.length ad h).elim (fun h=>h.elim) id
 have w1:nU w0.heap.size p1:=fun ad h=>(S.cQ p1 o1.length ad h).elim (fun h=>h.elim) id
 have n3:∀ ad,p3=some ad→¬(M ad.block∨∃ H9,p2=some H9∧ad.block=H9.block):=fun ad had h=>h.elim
  (fun hm=>by have:=hM _ hm;have:=w3 ad had;omega) (fun⟨H9,h1,h2⟩=>St.gj S (Wk.row 179 7 p3 o3.length c3 (aa o3)) (Wk.row 177 2 p2 o2.length c2 (aa o2)) ad.block ⟨ad,had,rfl⟩ ⟨H9,h1,h2⟩)
 replace S:=S.bA p3 o3 (e:=179) (sz:=7) (n:=o3.length) (c:=c3) (S.wd.facts (cA o3) (by simp));replace S:=S.front (Wk.row 175 2 p1 o1.length c1 (aa o1));have n1:∀ ad,p1=some ad→¬(M ad.block∨∃ H9,p2=some H9∧ad.block=H9.block):=fun ad had h=>h.elim
  (fun hm=>by have:=hM _ hm;have:=w1 ad had;omega) (fun⟨H9,h1,h2⟩=>St.gj S (Wk.row 175 2 p1 o1.length c1 (aa o1)) (Wk.row 177 2 p2 o2.length c2 (aa o2)) ad.block ⟨ad,had,rfl⟩ ⟨H9,h1,h2⟩)
 replace S:=S.bA p1 o1 (e:=175) (sz:=2) (n:=o1.length) (c:=c1) (fun _ _ _ _=>trivial);have hrow:=S.row p2 o2.length;have hnew:=S.cQ p2 o2.length;have g1:ag (fun k=>M k∨∃ ad,p2=some ad∧k=ad.block) _ (av p1 o1):=(S.wd.facts (av p1 o1) (by simp)).less fun k _ hk=>hk.elim (fun h=>⟨ext M,by simp,h⟩) (fun h=>⟨Wk.row 177 2 p2 o2.length c2 (aa o2),by simp,h⟩)
 have g3:ag (fun k=>M k∨∃ ad,p2=some ad∧k=ad.block) _ (av p3 o3):=(S.wd.facts (av p3 o3) (by simp)).less fun k _ hk=>hk.elim (fun h=>⟨ext M,by simp,h⟩) (fun h=>⟨Wk.row 177 2 p2 o2.length c2 (aa o2),by simp,h⟩)
 have gk:ag (fun k=>M k∨∃ ad,p2=some ad∧k=ad.block) _ (je o3):=(S.wd.facts (je o3) (by simp)).less fun k _ hk=>hk.elim (fun h=>⟨ext M,by simp,h⟩) (fun h=>⟨Wk.row 177 2 p2 o2.length c2 (aa o2),by simp,h⟩)
 have hap:∀ ad,p2=some ad→¬M ad.block:=fun ad had hm=>St.gj S (Wk.row 177 2 p2 o2.length c2 (aa o2)) (ext M) ad.block ⟨ad,had,rfl⟩ hm
 have w2:nU w0.heap.size p2:=fun ad h=>(hnew ad h).elim (fun h=>h.elim) id
 refine aD S (fun _=>?_);refine ⟨⟨m.user,m.leaf,m.counter,m.num,p1,c1,o1,p2,c2,o2,p3,c3,o3⟩,rfl,?_,⟨by show o1.length≤1000;omega,by show o2.length≤1000;omega,by show o3.length≤1000;omega,fun x hx=>by have:=ua (n:=25) (xs:=m.ah) 7 x (by rw[←UA];exact hx);omega,fun x hx=>by have:=ua (n:=65) (xs:=m.aA) 17 x (by rw[←UB];exact hx);omega⟩,hrow,fun ad h=>⟨(hnew ad h).elim (fun h=>h.elim) id,hap ad h⟩,
  fun w' bP=>⟨g1 w' bP,uP r1 n1 w' bP⟩,fun w' bP=>⟨g3 w' bP,CY r3 n3 w' bP,gk w' bP⟩,⟨w1,w2,w3,Cu⟩⟩
 show bJ.mk _ _ _ _ o1 o2 (cU o3)=_
 rw[cU,GO,UA,UB,nh,aW.m];simp only[cU,List.map_take,List.map_map];rfl
theorem rF (m:aW)(hl:DH m)(M:Nat→Prop)(w0:World)(hM:∀ k,M k→k < w0.heap.size)(hf:ag M w0 (aE m)):aT prog 34 [fJ m] w0 (fun _=>False) fun v w'=>Pu M w0.heap.size w' v (nh m.m):=
 (zL m hl M w0 hM hf).mono fun v w' ⟨x,h1,h2,h3,h4,h5,h6,h7,h8⟩=>by
  have f6:=h6.less (N:=M) fun _ _ h=>.inl h
  have f7:=h7.less (N:=M) fun _ _ h=>.inl h
  have hap:∀ ad,x.vp=some ad→¬M ad.block:=fun ad h=>(h5 ad h).2
  exact ⟨x,h1,h2,h3,fun w2 wJ=>⟨(f6 w2 wJ).1,gJ h4 (fun _ _ _ _=>trivial) hap w2 wJ,(f7 w2 wJ).1⟩,fun w2 wJ=>⟨(f6 w2 wJ).2,uP h4 hap w2 wJ,(f7 w2 wJ).2.1,(f7 w2 wJ).2.2⟩,h8⟩
theorem Kh (c:UInt8):aV [c] 0=c.toNat:=by simp[aV]
theorem BM (c d:UInt8):aV [c,d] 0=c.toNat*256+d.toNat:=by simp[aV];omega
theorem Ki {k:Int}{bs s r:List UInt8}(h:gz k bs=.ok (s,r)):bs=gR k s++r:=by
 cases hf:cm (fieldsOf k) 1 with
 | false=>rw[m7 hf]at h;cases h;rw[gR,hf];rfl
 | true=>
  match bs with
  | []=>rw[so hf]at h;cases h
  | c::bs=>
   by_cases h1:64 < c.toNat
   rw[qk hf h1]at h;cases h
   by_cases h2:bs.length < c.toNat
   rw[od hf h1 h2]at h;cases h;rw[rm hf h1 h2]at h;cases h;rw[gR,if_pos hf,List.length_take,Nat.min_eq_left (by omega),Cl,List.take_append_drop]
   congr 1
   rw[Wk.u8];refine UInt8.toNat.inj ?_;rw[UInt8.toNat_ofNat'];have:=UInt8.toNat_lt c;omega
theorem uc (c:UInt8):Wk.u8 ((c.toNat:Nat):Int)=c:=by
 rw[Wk.u8];refine UInt8.toNat.inj ?_;rw[UInt8.toNat_ofNat'];have:=UInt8.toNat_lt c;omega
theorem Kj {k u:Int}{bs r:List UInt8}(h:h_ k bs=.ok (u,r)):bs=jM k u++r:=by
 cases hf:cm (fieldsOf k) 2 with
 | false=>rw[m8 hf]at h;cases h;rw[jM,hf];rfl
 | true=>
  match bs with
  | []=>rw[su hf]at h;cases h
  | c::bs=>
   by_cases h1:1≤c.toNat∧c.toNat≤6
   rw[rq hf h1]at h;cases h;rw[jM,if_pos hf,uc];rfl;rw[sx hf h1]at h;cases h
theorem Fk (c d:UInt8):be 2 ((aV [c,d] 0:Nat):Int)=[c,d]:=by
 have e:∀ n:Int,be 2 n=[Wk.u8 (n.fdiv (2 ^ 8)),Wk.u8 (n.fdiv (2 ^ 0))]:=fun _=>rfl
 rw[e,BM];have h1:=UInt8.toNat_lt c;have h2:=UInt8.toNat_lt d;have e1:((c.toNat*256+d.toNat:Nat):Int).fdiv (2 ^ 8)=((c.toNat:Nat):Int):=by
  rw[Int.fdiv_eq_ediv_of_nonneg _ (by decide)]
  show ((c.toNat*256+d.toNat:Nat):Int) / 256=_
  omega
 have e2:((c.toNat*256+d.toNat:Nat):Int).fdiv (2 ^ 0)=((c.toNat*256+d.toNat:Nat):Int):=by
  rw[Int.fdiv_eq_ediv_of_nonneg _ (by decide)]
  show ((c.toNat*256+d.toNat:Nat):Int) / 1=_
  omega
 rw[e1,e2,uc]
 congr 2
 rw[Wk.u8];refine UInt8.toNat.inj ?_;rw[UInt8.toNat_ofNat'];omega
theorem num_inv {k n:Int}{bs r:List UInt8}(h:nG k bs=.ok (n,r)):bs=pW k n++r:=by
 cases hf:cm (fieldsOf k) 4 with
 | false=>rw[oW hf]at h;cases h;rw[pW,hf];rfl
 | true=>
  match bs with
  | []=>rw[ru hf (by simp)]at h;cases h
  | [c]=>rw[ru hf (by simp)]at h;cases h
  | c::d::bs=>
   rw[tY hf (by simp)]at h;cases h;have h1:=UInt8.toNat_lt c;have h2:=UInt8.toNat_lt d;rw[pW,if_pos hf]
   show c::d::bs=be 2 (IntKind.u16.wrap ((aV [c,d] 0:Nat):Int))++bs
   rw[FJ _ (by rw[BM];omega) (by rw[BM];omega),Fk];rfl
theorem BN (f:Nat→List UInt8→pn (Term × Nat × List UInt8))(hf:∀ left bs t l r,f left bs=.ok (t,l,r)→bs=cn t++r):∀ (j left:Nat) (bs:List UInt8) (ks:List Term) (l:Nat) (r:List UInt8),e8 f j left bs=.ok (ks,l,r)→bs=dP ks++r
 | 0,left,bs,ks,l,r,h=>by rw[e8]at h;cases h;rfl
 | j+1,left,bs,ks,l,r,h=>by
  rw[e8]at h;cases hx:f left bs with
  | error e=>rw[hx]at h;cases h
  | ok x=>
   obtain ⟨t,l1,b1⟩:=x;rw[hx]at h;simp only at h;cases hy:e8 f j l1 b1 with
   | error e=>rw[hy]at h;cases h
   | ok y=>
    obtain ⟨ts,l2,b2⟩:=y;rw[hy]at h;cases h;rw[dP,List.append_assoc,←BN f hf j l1 b1 ts l r hy,←hf left bs t l1 b1 hx]
theorem Fl:∀ (m left:Nat) (bs:List UInt8) (t:Term) (l:Nat) (r:List UInt8),iq m left bs=.ok (t,l,r)→bs=cn t++r
 | m,_,[],_,_,_,h=>by rw[nX]at h;cases h
 | 0,left,c::bs,t,l,r,h=>by rw[gV,if_pos (.inl rfl)]at h;cases h
 | m+1,left,c::bs,t,l,r,h=>by
  rw[gV]at h;split at h;cases h;rw[o9]at h;cases h1:gz (c.toNat:Int) bs with
  | error e=>rw[h1]at h;cases h
  | ok x1=>
   obtain ⟨s,b1⟩:=x1;rw[h1]at h;simp only at h;cases h2:h_ (c.toNat:Int) b1 with
   | error e=>rw[h2]at h;cases h
   | ok x2=>
    obtain ⟨u,b2⟩:=x2;rw[h2]at h;simp only at h;cases h3:nG (c.toNat:Int) b2 with
    | error e=>rw[h3]at h;cases h
    | ok x3=>
     obtain ⟨n,b3⟩:=x3;rw[h3]at h;simp only at h;cases h4:e8 (iq (m+1 - 1)) (fL (c.toNat:Int)) (left - 1) b3 with
     | error e=>rw[h4]at h;cases h
     | ok x4=>
      obtain ⟨ks,l4,b4⟩:=x4;rw[h4]at h;cases h;have h5:=BN (iq (m+1 - 1)) (fun left bs t l r h=>Fl m left bs t l r h) _ _ _ _ _ _ h4;rw[cn,iY,uc,List.append_assoc,←h5];simp only[List.append_assoc];rw[←num_inv h3,←Kj h2,←Ki h1];rfl
def Lf (bs:List UInt8):=di 1 (bs,false)
def GP (bs:List UInt8):=di 2 (Lf bs).2
def GQ (bs:List UInt8):=di 2 (GP bs).2
def Fm (bs:List UInt8):=di 2 (GQ bs).2
def Fo (bs:List UInt8):=di 1 (Fm bs).2
def Al (bs:List UInt8):=cC (aV (Fo bs).1 0) (Fo bs).2
def DI (bs:List UInt8):=di 1 (Al bs).2
def zM (bs:List UInt8):=cC (aV (DI bs).1 0) (DI bs).2
def Fp (bs:List UInt8):=di 1 (zM bs).2
def pN (bs:List UInt8):=cT (aV (Fp bs).1 0) (Fp bs).2
def vY (bs:List UInt8):bJ:=⟨(aV (Lf bs).1 0:Nat),(aV (GP bs).1 0:Nat),(aV (GQ bs).1 0:Nat),(aV (Fm bs).1 0:Nat),(Al bs).1,(zM bs).1,(pN bs).1⟩
def vZ:bJ:=⟨0,0,0,0,[],[],[]⟩
def gL (bs:List UInt8):bJ × Int:=
 if (pN bs).2.2.2=true then (vZ,7) else
 if (pN bs).2.1=false∨0 < (pN bs).2.2.1.length∨b_ (vY bs)=false then (vZ,300) else (vY bs,0)
theorem oo {n:Int}(h:0≤n∧n≤65535)(X:List UInt8):di 2 (fS n++X,false)=(fS n,(X,false))∧(aV (fS n) 0:Int)=n:=by
 rw[fS,FJ n h.1 h.2];exact ⟨sB (bI 2 n),Bw h⟩
theorem mF {n:Int}(h:0≤n∧n≤255)(X:List UInt8):di 1 (Wk.u8 n::X,false)=([Wk.u8 n],(X,false))∧(aV [Wk.u8 n] 0:Int)=n:=
 ⟨sB (k:=1) (l:=[Wk.u8 n]) rfl,by rw[Kh];exact ry h⟩
structure qq (m:aH):Prop where
 key:m.key.length≤255
 dS:0≤m.dS∧m.dS≤65535
theorem GR {m:aH}(h:qq m)(X:List UInt8):eL (nE m++X,false)=(m,(X,false)):=by
 have hk:=E9 h.key;obtain ⟨t1,t2⟩:=oo h.dS X;have e1:di 1 (nE m++X,false)=([Wk.u8 (m.key.length:Int)],(m.key++(fS m.dS++X),false)):=by
  rw[nE,List.append_assoc];exact sB (k:=1) (l:=[Wk.u8 (m.key.length:Int)]) rfl
 have e2:di (aV [Wk.u8 (m.key.length:Int)] 0) (m.key++(fS m.dS++X),false)=(m.key,(fS m.dS++X,false)):=sB (by rw[Kh,hk]);rw[eL,e1];simp only;rw[e2];simp only;rw[t1,t2]
theorem qt:∀ (l:List aH) (X:List UInt8),(∀ m∈l,qq m)→cC l.length (bK l++X,false)=(l,(X,false))
 | [],X,_=>rfl
 | m::l,X,h=>by
  rw[jb,cC,if_neg (by simp),bK,List.append_assoc,GR (h m (.head _))];simp only;rw[qt l X fun x hx=>h x (.tail _ hx)]
structure zN (s:fV):Prop where
 user:0≤s.user∧s.user≤255
 cnt:0≤s.cnt∧s.cnt≤65535
 root:cR s.root=0
theorem Kk {n:Nat}(h:n < 4294967296):aV (be 4 (n:Int)) 0=n:=by
 have e:be 4 (n:Int)=[Wk.u8 ((n:Int).fdiv (2 ^ 24)),Wk.u8 ((n:Int).fdiv (2 ^ 16)),Wk.u8 ((n:Int).fdiv (2 ^ 8)),Wk.u8 ((n:Int).fdiv (2 ^ 0))]:=rfl;have hb:∀ x:Nat,(Wk.u8 (x:Int)).toNat=x % 256:=fun x=>by
  rw[Wk.u8,UInt8.toNat_ofNat'];omega
 have d1:(n:Int).fdiv (2 ^ 24)=((n / 16777216:Nat):Int):=by rw[Int.fdiv_eq_ediv_of_nonneg _ (by decide)];rfl
 have d2:(n:Int).fdiv (2 ^ 16)=((n / 65536:Nat):Int):=by rw[Int.fdiv_eq_ediv_of_nonneg _ (by decide)];rfl
 have d3:(n:Int).fdiv (2 ^ 8)=((n / 256:Nat):Int):=by rw[Int.fdiv_eq_ediv_of_nonneg _ (by decide)];rfl
 have d4:(n:Int).fdiv (2 ^ 0)=((n / 1:Nat):Int):=by rw[Int.fdiv_eq_ediv_of_nonneg _ (by decide)];rfl
 rw[e,d1,d2,d3,d4];simp only[aV,List.foldl_cons,List.foldl_nil,hb];omega
theorem GS {t:Term}(h:cR t=0)(X:List UInt8):cI (be 4 (IntKind.u32.wrap ((dJ t).length:Int))++dJ t++X,false)=(t,true,(X,false)):=by
 have hl:=lE t;obtain ⟨left,hd⟩:=Jz h;have e1:di 4 (be 4 (IntKind.u32.wrap ((dJ t).length:Int))++dJ t++X,false)=(be 4 ((dJ t).length:Int),(dJ t++X,false)):=by
  rw[wT _ (by omega) (by omega),List.append_assoc];exact sB (bI 4 _)
 have e2:di (aV (be 4 ((dJ t).length:Int)) 0) (dJ t++X,false)=(dJ t,(X,false)):=sB (Kk (by omega)).symm;rw[cI,e1];simp only;rw[e2];simp only;rw[if_neg (by simp),fX,hd];rfl
theorem GU {s:fV}(h:zN s)(X:List UInt8):eA (rC s++X,false)=(s,true,(X,false)):=by
 obtain ⟨b1,b2⟩:=mF h.user (fS s.cnt++(be 4 (IntKind.u32.wrap ((dJ s.root).length:Int))++dJ s.root++X));obtain ⟨t1,t2⟩:=oo h.cnt (be 4 (IntKind.u32.wrap ((dJ s.root).length:Int))++dJ s.root++X);have e:rC s++X=Wk.u8 s.user::(fS s.cnt++(be 4 (IntKind.u32.wrap ((dJ s.root).length:Int))++dJ s.root++X)):=by rw[rC];simp
 rw[e,eA,b1];simp only;rw[t1];simp only;rw[GS h.root X,b2,t2]
theorem v_:∀ (l:List fV) (X:List UInt8),(∀ s∈l,zN s)→cT l.length (cG l++X,false)=(l,true,(X,false))
 | [],X,_=>rfl
 | s::l,X,h=>by
  rw[jb,cT,if_neg (by simp),cG,List.append_assoc,GU (h s (.head _))];simp only;rw[v_ l X fun x hx=>h x (.tail _ hx)];rfl
theorem BO (u:Int):∀ (l:List aH) (k:List UInt8),iL u k l=true→∀ m∈l,qq m
 | [],_,_,m,hm=>by cases hm
 | x::l,k,h,m,hm=>by
  rw[iL]at h;simp only[Bool.and_eq_true,decide_eq_true_eq,iK,kJ]at h;obtain ⟨⟨⟨⟨⟨hu,ho⟩,-⟩,hv⟩,⟨-,qu⟩⟩,hr⟩:=h;rcases List.mem_cons.1 hm with rfl | hm
  refine ⟨?_,by omega,qu⟩;have My:1≤u:=by simp only[bX,Bool.and_eq_true,decide_eq_true_eq]at hu;exact hu.1
  unfold iT at ho;split at ho
  rename_i hc
  have:=hc.1;simp only[lu,Bool.and_eq_true,decide_eq_true_eq]at this;omega;omega;exact BO u l x.key hr m hm
theorem BP:∀ (l:List aH) (k:List UInt8),kG k l=true→∀ m∈l,qq m
 | [],_,_,m,hm=>by cases hm
 | x::l,k,h,m,hm=>by
  rw[kG]at h;simp only[Bool.and_eq_true,jP,decide_eq_true_eq]at h;rcases List.mem_cons.1 hm with rfl | hm
  exact ⟨by omega,h.1.1.1.2,h.1.1.2⟩;exact BP l x.key h.2 m hm
theorem BQ:∀ (l:List fV) (k:Int),eH k l=true→∀ s∈l,zN s
 | [],_,_,s,hs=>by cases hs
 | x::l,k,h,s,hs=>by
  rw[eH]at h;simp only[Bool.and_eq_true,decide_eq_true_eq,bX,pY]at h;rcases List.mem_cons.1 hs with rfl | hs
  exact ⟨by omega,by omega,h.1.2⟩;exact BQ l x.user h.2 s hs
theorem yf:∀ (l:List fV) (k:Int),k≤6→eH k l=true→(l.length:Int)≤6 - k
 | [],k,hk,_=>by simp;omega
 | x::l,k,hk,h=>by
  rw[eH]at h;simp only[Bool.and_eq_true,decide_eq_true_eq,bX]at h;have:=yf l x.user (by omega) h.2;rw[jb];push_cast;omega
structure UC (m:bJ):Prop where
 user:1≤m.user∧m.user≤6
 leaf:0≤m.leaf∧m.leaf≤65535
 counter:0≤m.counter∧m.counter≤65535
 num:0≤m.num∧m.num≤65535
 ah:m.ah.length≤6∧∀ x∈m.ah,qq x
 aA:m.aA.length≤16∧∀ x∈m.aA,qq x
 seen:m.seen.length≤6∧∀ s∈m.seen,zN s
theorem zO {m:bJ}(h:b_ m=true):UC m:=by
 rw[b_,nT,EA]at h;simp only[Bool.and_eq_true,decide_eq_true_eq,iK]at h;obtain ⟨⟨⟨⟨⟨⟨h1,h2⟩,h3,h4,h5⟩,h6⟩,h7⟩,h8,h9⟩,gi⟩:=h;have:=yf m.seen 0 (by omega) gi;exact ⟨⟨h1,h2⟩,h3,h4,h5,⟨by omega,BO _ _ _ h7⟩,⟨by omega,BP _ _ h9⟩,⟨by omega,BQ _ _ gi⟩⟩
theorem we (m:bJ):aY m=Wk.u8 m.user::(fS m.leaf++(fS m.counter++(fS m.num++(Wk.u8 m.ah.length::(bK m.ah++(Wk.u8 m.aA.length::(bK m.aA++(Wk.u8 m.seen.length::cG m.seen)))))))):=by
 rw[aY,ng,m_,lK];simp[eK]
theorem GV {m:bJ}(h:b_ m=true):vY (aY m)=m∧(pN (aY m)).2=(true,([],false)):=by
 have ok:=zO h;have q1:=(mF (n:=m.user) (by have:=ok.user;omega) (fS m.leaf++(fS m.counter++(fS m.num++(Wk.u8 m.ah.length::(bK m.ah++(Wk.u8 m.aA.length::(bK m.aA++(Wk.u8 m.seen.length::cG m.seen)))))))));have q2:=oo ok.leaf (fS m.counter++(fS m.num++(Wk.u8 m.ah.length::(bK m.ah++(Wk.u8 m.aA.length::(bK m.aA++(Wk.u8 m.seen.length::cG m.seen)))))));have q3:=oo ok.counter (fS m.num++(Wk.u8 m.ah.length::(bK m.ah++(Wk.u8 m.aA.length::(bK m.aA++(Wk.u8 m.seen.length::cG m.seen))))));have q4:=oo ok.num (Wk.u8 m.ah.length::(bK m.ah++(Wk.u8 m.aA.length::(bK m.aA++(Wk.u8 m.seen.length::cG m.seen)))));have q5:=mF (n:=(m.ah.length:Int)) (by have:=ok.ah.1;omega) (bK m.ah++(Wk.u8 m.aA.length::(bK m.aA++(Wk.u8 m.seen.length::cG m.seen))));have q6:=qt m.ah (Wk.u8 m.aA.length::(bK m.aA++(Wk.u8 m.seen.length::cG m.seen))) ok.ah.2;have q7:=mF (n:=(m.aA.length:Int)) (by have:=ok.aA.1;omega) (bK m.aA++(Wk.u8 m.seen.length::cG m.seen));have q8:=qt m.aA (Wk.u8 m.seen.length::cG m.seen) ok.aA.2;have q9:=mF (n:=(m.seen.length:Int)) (by have:=ok.seen.1;omega) (cG m.seen);have q10:=v_ m.seen [] ok.seen.2;rw[List.append_nil]at q10;have n1:aV [Wk.u8 (m.ah.length:Int)] 0=m.ah.length:=by have:=q5.2;omega
 have n2:aV [Wk.u8 (m.aA.length:Int)] 0=m.aA.length:=by have:=q7.2;omega
 have n3:aV [Wk.u8 (m.seen.length:Int)] 0=m.seen.length:=by have:=q9.2;omega
 have d1:=(congrArg (fun b=>di 1 (b,false)) (we m)).trans q1.1
 change Lf (aY m)=_ at d1
 have d2:=(congrArg (fun x:List UInt8 × RB=>di 2 x.2) d1).trans q2.1
 change GP (aY m)=_ at d2
 have d3:=(congrArg (fun x:List UInt8 × RB=>di 2 x.2) d2).trans q3.1
 change GQ (aY m)=_ at d3
 have d4:=(congrArg (fun x:List UInt8 × RB=>di 2 x.2) d3).trans q4.1
 change Fm (aY m)=_ at d4
 have d5:=(congrArg (fun x:List UInt8 × RB=>di 1 x.2) d4).trans q5.1
 change Fo (aY m)=_ at d5
 have d6:=congrArg (fun x:List UInt8 × RB=>cC (aV x.1 0) x.2) d5;simp only at d6;rw[n1,q6]at d6
 change Al (aY m)=_ at d6
 have d7:=(congrArg (fun x:List aH × RB=>di 1 x.2) d6).trans q7.1
 change DI (aY m)=_ at d7
 have d8:=congrArg (fun x:List UInt8 × RB=>cC (aV x.1 0) x.2) d7;simp only at d8;rw[n2,q8]at d8
 change zM (aY m)=_ at d8
 have d9:=(congrArg (fun x:List aH × RB=>di 1 x.2) d8).trans q9.1
 change Fp (aY m)=_ at d9
 have d10:=congrArg (fun x:List UInt8 × RB=>cT (aV x.1 0) x.2) d9;simp only at d10;rw[n3,q10]at d10
 change pN (aY m)=_ at d10
 refine ⟨?_,by rw[d10]⟩;rw[vY,d1,d2,d3,d4,d6,d8,d10];simp only;rw[q1.2,q2.2,q3.2,q4.2]
theorem rG {m:bJ}(h:b_ m=true):gL (aY m)=(m,0):=by
 obtain ⟨h1,h2⟩:=GV h;rw[gL,h2,if_neg (by simp),if_neg,h1];rintro (h3 | h3 | h3);cases h3;simp at h3;rw[h1,h]at h3;cases h3
structure BR (N:Nat)(X:RB)(u l c n:Int)(k:Nat)(m:aW)(wr:Bool)(r:RS):Prop where
 wr:wr=false
 flat:m.user=u∧m.leaf=l∧m.counter=c∧m.num=n∧m.aA=[]∧m.seen=[]
 rel:cC N X=(m.ah++(cC k r.ab).1,(cC k r.ab).2)
 rO:m.ah.length+k≤255
 names:∀ x∈m.ah,x.key.length≤255
theorem BR.next {N:Nat}{X:RB}{u l c n:Int}{k:Nat}{m m':aW}{wr wr':Bool}{r r':RS}(h:BR N X u l c n (k+1) m wr r)(hw:r.why=0)(h1:wr'=wr)(h2:r'.ab=(eL r.ab).2)(h3:m'.m = { m.m with ah:=m.ah++[(eL r.ab).1] })(h4:(eL r.ab).1.key.length≤255):BR N X u l c n k m' wr' r':=by
 have e1:m'.ah=m.ah++[(eL r.ab).1]:=congrArg bJ.ah h3;have e2:m'.aA=m.aA:=congrArg bJ.aA h3;have e3:cU m'.seen=cU m.seen:=congrArg bJ.seen h3;have hf:r.ab.2=false:=by show (!decide (r.why=0))=false;rw[hw];rfl
 refine ⟨h1.trans h.wr,⟨(congrArg bJ.user h3).trans h.flat.1,(congrArg bJ.leaf h3).trans h.flat.2.1,(congrArg bJ.counter h3).trans h.flat.2.2.1,(congrArg bJ.num h3).trans h.flat.2.2.2.1,e2.trans h.flat.2.2.2.2.1,?_⟩,?_,?_,fun x hx=>?_⟩
 ·rw[h.flat.2.2.2.2.2]at e3
  exact List.map_eq_nil_iff.1 e3
 ·rw[h.rel,cC,if_neg (by rw[hf];simp),e1,h2];simp
 ·have:=h.rO;rw[e1,List.length_append];simp;omega
 ·rw[e1]at hx
  rcases List.mem_append.1 hx with h5 | h5
  ·exact h.names x h5
  ·rw[List.mem_singleton.1 h5];exact h4
theorem ni {k:Nat}{r:RS}(h:k=0∨r.why≠0):cC k r.ab=([],r.ab):=by
 rcases h with rfl | h
 rfl;cases k with
 | zero=>rfl
 | succ k=>rw[cC,if_pos (RS.lN.2 h)]
theorem wg {k:Nat}{r:RS}(h:k=0∨r.why≠0):cT k r.ab=([],true,r.ab):=by
 rcases h with rfl | h
 rfl;cases k with
 | zero=>rfl
 | succ k=>rw[cT,if_pos (RS.lN.2 h)]
theorem yg (r:RS):(eL r.ab).1.key.length≤255:=by rw[rD];exact sE r
structure BS (N:Nat)(X:RB)(u l c n:Int)(ss:List aH)(k:Nat)(m:aW)(wr:Bool)(r:RS):Prop where
 wr:wr=false
 flat:m.user=u∧m.leaf=l∧m.counter=c∧m.num=n∧m.ah=ss∧m.seen=[]
 rel:cC N X=(m.aA++(cC k r.ab).1,(cC k r.ab).2)
 rO:m.aA.length+k≤255
 names:∀ x∈m.aA,x.key.length≤255
theorem BS.next {N:Nat}{X:RB}{u l c n:Int}{ss:List aH}{k:Nat}{m m':aW}{wr wr':Bool}{r r':RS}(h:BS N X u l c n ss (k+1) m wr r)(hw:r.why=0)(h1:wr'=wr)(h2:r'.ab=(eL r.ab).2)(h3:m'.m = { m.m with aA:=m.aA++[(eL r.ab).1] })(h4:(eL r.ab).1.key.length≤255):BS N X u l c n ss k m' wr' r':=by
 have e1:m'.aA=m.aA++[(eL r.ab).1]:=congrArg bJ.aA h3;have e2:m'.ah=m.ah:=congrArg bJ.ah h3;have e3:cU m'.seen=cU m.seen:=congrArg bJ.seen h3;have hf:r.ab.2=false:=by show (!decide (r.why=0))=false;rw[hw];rfl
 refine ⟨h1.trans h.wr,⟨(congrArg bJ.user h3).trans h.flat.1,(congrArg bJ.leaf h3).trans h.flat.2.1,(congrArg bJ.counter h3).trans h.flat.2.2.1,(congrArg bJ.num h3).trans h.flat.2.2.2.1,e2.trans h.flat.2.2.2.2.1,?_⟩,?_,?_,fun x hx=>?_⟩
 ·rw[h.flat.2.2.2.2.2]at e3
  exact List.map_eq_nil_iff.1 e3
 ·rw[h.rel,cC,if_neg (by rw[hf];simp),e1,h2];simp
 ·have:=h.rO;rw[e1,List.length_append];simp;omega
 ·rw[e1]at hx
  rcases List.mem_append.1 hx with h5 | h5
  ·exact h.names x h5
  ·rw[List.mem_singleton.1 h5];exact h4
structure BT (N:Nat)(X:RB)(u l c n:Int)(ss vs:List aH)(k:Nat)(m:aW)(wr:Bool)(r:RS):Prop where
 flat:m.user=u∧m.leaf=l∧m.counter=c∧m.num=n∧m.ah=ss∧m.aA=vs
 rel:cT N X=(cU m.seen++(cT k r.ab).1,!wr&&(cT k r.ab).2.1,(cT k r.ab).2.2)
 rO:m.seen.length+k≤255
theorem BT.next {N:Nat}{X:RB}{u l c n:Int}{ss vs:List aH}{k:Nat}{m m':aW}{wr wr':Bool}{r r':RS}(h:BT N X u l c n ss vs (k+1) m wr r)(hw:r.why=0)(h1:wr'=(wr||!(eA r.ab).2.1))(h2:r'.ab=(eA r.ab).2.2)(h3:m'.m = { m.m with seen:=cU m.seen++[(eA r.ab).1] }):BT N X u l c n ss vs k m' wr' r':=by
 have e1:cU m'.seen=cU m.seen++[(eA r.ab).1]:=congrArg bJ.seen h3;have hf:r.ab.2=false:=by show (!decide (r.why=0))=false;rw[hw];rfl
 have hl:=congrArg List.length e1;rw[cU,cU,List.length_append,List.length_map,List.length_map,List.length_singleton]at hl;refine ⟨⟨(congrArg bJ.user h3).trans h.flat.1,(congrArg bJ.leaf h3).trans h.flat.2.1,(congrArg bJ.counter h3).trans h.flat.2.2.1,(congrArg bJ.num h3).trans h.flat.2.2.2.1,(congrArg bJ.ah h3).trans h.flat.2.2.2.2.1,(congrArg bJ.aA h3).trans h.flat.2.2.2.2.2⟩,?_,by have:=h.rO;omega⟩;rw[h.rel,cT,if_neg (by rw[hf];simp),e1,h2,h1];simp only[List.append_assoc,List.singleton_append,Bool.not_or,Bool.not_not,Bool.and_assoc]
theorem lF {k:Nat}{x:RB}(h:(cC k x).2.2=false):x.2=false:=by
 cases k with
 | zero=>exact h
 | succ k=>
  cases hx:x.2 with
  | false=>rfl
  | true=>rw[cC,if_pos hx]at h;rw[hx]at h;exact h
theorem oq {k:Nat}{x:RB}(h:(cT k x).2.2.2=false):x.2=false:=by
 cases k with
 | zero=>exact h
 | succ k=>
  cases hx:x.2 with
  | false=>rfl
  | true=>rw[cT,if_pos hx]at h;rw[hx]at h;exact h
theorem wh {x:RB} : (cI x).2.2=(di (aV (di 4 x).1 0) (di 4 x).2).2:=by
 rw[cI];split <;> rfl
theorem DJ {x:RB}(h:(cI x).2.2.2=false):x.2=false:=by
 rw[wh]at h;exact fG (fG h)
structure M_ (bs:List UInt8):Prop where
 e1:(Lf bs).2.2=false
 e2:(GP bs).2.2=false
 e3:(GQ bs).2.2=false
 e4:(Fm bs).2.2=false
 c1:(Fo bs).2.2=false
 s1:(Al bs).2.2=false
 c2:(DI bs).2.2=false
 s2:(zM bs).2.2=false
 c3:(Fp bs).2.2=false
theorem Kl {bs:List UInt8}(h:(pN bs).2.2.2=false):M_ bs:=by
 have c3:(Fp bs).2.2=false:=oq h;have s2:(zM bs).2.2=false:=fG c3;have c2:(DI bs).2.2=false:=lF s2;have s1:(Al bs).2.2=false:=fG c2;have c1:(Fo bs).2.2=false:=lF s1;have e4:(Fm bs).2.2=false:=fG c1;have e3:(GQ bs).2.2=false:=fG e4;have e2:(GP bs).2.2=false:=fG e3;exact ⟨fG e2,e2,e3,e4,c1,s1,c2,s2,c3⟩
theorem Na {k:Nat}{l:List UInt8}(h:k≤l.length):di k (l,false)=(l.take k,(l.drop k,false)):=by rw[di,if_pos ⟨rfl,h⟩]
theorem QF {k:Nat}{l:List UInt8}(h:¬k≤l.length):di k (l,false)=([],(l,true)):=by rw[di,if_neg (fun h2=>h h2.2)]
theorem mG {k:Nat}{x:RB}(h:(di k x).2.2=false):x.1=(di k x).1++(di k x).2.1∧(di k x).1.length=k:=by
 obtain ⟨l,f⟩:=x;obtain rfl:f=false:=fG h
 by_cases hk:k≤l.length
 rw[Na hk];exact ⟨(List.take_append_drop k l).symm,by simp only[List.length_take];omega⟩;rw[QF hk]at h;cases h
theorem QG {l:List UInt8}(h:l.length=1):∃ c,l=[c]:=by
 match l,h with
 | [c],_=>exact ⟨c,rfl⟩
theorem QH {l:List UInt8}(h:l.length=2):∃ c d,l=[c,d]:=by
 match l,h with
 | [c,d],_=>exact ⟨c,d,rfl⟩
theorem mH {x:RB}(h:(di 1 x).2.2=false):x.1=Wk.u8 ((aV (di 1 x).1 0:Nat):Int)::(di 1 x).2.1:=by
 obtain ⟨h1,h2⟩:=mG h;obtain ⟨c,hc⟩:=QG h2;rw[hc]at h1;rw[hc,Kh,uc];exact h1
theorem rH {x:RB}(h:(di 2 x).2.2=false):x.1=fS ((aV (di 2 x).1 0:Nat):Int)++(di 2 x).2.1:=by
 obtain ⟨h1,h2⟩:=mG h;obtain ⟨c,d,hc⟩:=QH h2;rw[hc]at h1;have e1:=UInt8.toNat_lt c;have e2:=UInt8.toNat_lt d;rw[hc,fS,FJ _ (by rw[BM];omega) (by rw[BM];omega),Fk];exact h1
theorem Km {x:RB}(h:(eL x).2.2=false):x.1=nE (eL x).1++(eL x).2.1:=by
 have g2:=fG h;have g1:=fG g2;have h1:=mH g1;obtain ⟨h2,hl⟩:=mG g2;have h3:=rH h;rw[h1,nE]
 show _=Wk.u8 (((di (aV (di 1 x).1 0) (di 1 x).2).1.length:Nat):Int)::(di (aV (di 1 x).1 0) (di 1 x).2).1++fS _++_
 rw[hl,Cl,Cl,List.append_assoc]
 congr 1
 rw[h2]
 congr 1
theorem sJ:∀ (k:Nat) (x:RB),(cC k x).2.2=false→x.1=bK (cC k x).1++(cC k x).2.1∧(cC k x).1.length=k
 | 0,x,_=>⟨rfl,rfl⟩
 | k+1,x,h=>by
  have hx:=lF h;rw[cC,if_neg (by rw[hx];simp)]at h⊢;have g:=lF h;obtain ⟨i1,i2⟩:=sJ k (eL x).2 h;have h1:=Km g;refine ⟨?_,by simp only[jb];omega⟩;simp only[bK];rw[h1,List.append_assoc]
  congr 1
theorem Nb {l:List UInt8}(h:l.length=4):∃ a b c d,l=[a,b,c,d]:=by
 match l,h with
 | [a,b,c,d],_=>exact ⟨a,b,c,d,rfl⟩
theorem Kn (a b c d:UInt8):be 4 ((aV [a,b,c,d] 0:Nat):Int)=[a,b,c,d]:=by
 obtain ⟨n,hn⟩:∃ n,n=aV [a,b,c,d] 0:=⟨_,rfl⟩;have h1:=UInt8.toNat_lt a;have h2:=UInt8.toNat_lt b;have h3:=UInt8.toNat_lt c;have h4:=UInt8.toNat_lt d;have hv:n=((a.toNat*256+b.toNat)*256+c.toNat)*256+d.toNat:=by rw[hn];simp only[aV,List.foldl_cons,List.foldl_nil];omega
 have e:be 4 (n:Int)=[Wk.u8 ((n:Int).fdiv (2 ^ 24)),Wk.u8 ((n:Int).fdiv (2 ^ 16)),Wk.u8 ((n:Int).fdiv (2 ^ 8)),Wk.u8 ((n:Int).fdiv (2 ^ 0))]:=rfl;have d1:(n:Int).fdiv (2 ^ 24)=((n / 16777216:Nat):Int):=by rw[Int.fdiv_eq_ediv_of_nonneg _ (by decide)];rfl
 have d2:(n:Int).fdiv (2 ^ 16)=((n / 65536:Nat):Int):=by rw[Int.fdiv_eq_ediv_of_nonneg _ (by decide)];rfl
 have d3:(n:Int).fdiv (2 ^ 8)=((n / 256:Nat):Int):=by rw[Int.fdiv_eq_ediv_of_nonneg _ (by decide)];rfl
 have d4:(n:Int).fdiv (2 ^ 0)=((n / 1:Nat):Int):=by rw[Int.fdiv_eq_ediv_of_nonneg _ (by decide)];rfl
 have hb:∀ (x:Nat) (y:UInt8),x % 256=y.toNat→Wk.u8 (x:Int)=y:=fun x y h=>by
  rw[Wk.u8];refine UInt8.toNat.inj ?_;rw[UInt8.toNat_ofNat'];omega
 rw[←hn,e,d1,d2,d3,d4,hb _ a (by omega),hb _ b (by omega),hb _ c (by omega),hb _ d (by omega)]
theorem Ko {raw:List UInt8}{t:Term}(h:fX raw=(t,true)):raw=cn t:=by
 rw[fX]at h;cases hd:iq 60 1200 raw with
 | error e=>rw[hd]at h;cases h
 | ok x=>
  obtain ⟨u,l,r⟩:=x;rw[hd]at h;simp only[Prod.mk.injEq,decide_eq_true_eq]at h;obtain ⟨rfl,rfl⟩:=h;have:=Fl 60 1200 raw u l [] hd
  rwa [List.append_nil]at this
theorem Kq {x:RB}(h:(cI x).2.2.2=false)(hok:(cI x).2.1=true)(hc:cR (cI x).1=0):x.1=be 4 (IntKind.u32.wrap ((dJ (cI x).1).length:Int))++dJ (cI x).1++(cI x).2.2.1:=by
 have hfl:=h;rw[wh]at hfl;have g1:=fG hfl;have hr:cI x=((fX (di (aV (di 4 x).1 0) (di 4 x).2).1).1,(fX (di (aV (di 4 x).1 0) (di 4 x).2).1).2,(di (aV (di 4 x).1 0) (di 4 x).2).2):=by
  rw[cI,if_neg (by rw[hfl];simp)]
 obtain ⟨h1,l1⟩:=mG g1;obtain ⟨h2,l2⟩:=mG hfl;rw[hr]at hok hc⊢;simp only at hok hc⊢;have BL:=Ko (raw:=(di (aV (di 4 x).1 0) (di 4 x).2).1) (t:=(fX (di (aV (di 4 x).1 0) (di 4 x).2).1).1) (Prod.ext rfl hok);have hn:dJ (fX (di (aV (di 4 x).1 0) (di 4 x).2).1).1=(di (aV (di 4 x).1 0) (di 4 x).2).1:=by
  rw[dJ,if_neg (kz.1 hc),←BL]
 obtain ⟨a,b,c,d,h4⟩:=Nb l1;have hlt:aV (di 4 x).1 0 < 4294967296:=by
  have:=yV (di 4 x).1 0;rw[l1]at this;omega
 rw[hn,l2,wT _ (by omega) (by omega),h4,Kn,←h4,List.append_assoc,←h2];exact h1
theorem Kr {x:RB}(h:(eA x).2.2.2=false)(hok:(eA x).2.1=true)(hc:cR (eA x).1.root=0):x.1=rC (eA x).1++(eA x).2.2.1:=by
 have g2:=DJ h;have g1:=fG g2;have h1:=mH g1;have h2:=rH g2;have h3:=Kq h hok hc;rw[h1,rC];simp only[List.append_assoc,Cl,j6]
 congr 1
 rw[h2]
 congr 1
 first
  | done
  | rw[h3,List.append_assoc,List.append_assoc];done
  | (refine h3.trans ?_;simp only[List.append_assoc])
theorem yh:∀ (k:Nat) (x:RB),(cT k x).2.2.2=false→(cT k x).2.1=true→(∀ s∈(cT k x).1,cR s.root=0)→x.1=cG (cT k x).1++(cT k x).2.2.1∧(cT k x).1.length=k
 | 0,x,_,_,_=>⟨rfl,rfl⟩
 | k+1,x,h,hok,hc=>by
  have hx:=oq h;rw[cT,if_neg (by rw[hx];simp)]at h hok hc⊢;simp only[Bool.and_eq_true]at hok;have g:=oq h;obtain ⟨i1,i2⟩:=yh k (eA x).2.2 h hok.2 (fun s hs=>hc s (.tail _ hs));have h1:=Kr g hok.1 (hc _ (.head _));refine ⟨?_,by simp only[jb];omega⟩;simp only[cG];rw[h1,List.append_assoc]
  congr 1
theorem Ks {bs:List UInt8}(h:(gL bs).2=0):b_ (gL bs).1=true∧aY (gL bs).1=bs:=by
 rw[gL]at h⊢;split at h;cases h
 rename_i h7
 rw[if_neg h7];split at h;cases h
 rename_i hno
 rw[if_neg hno];have hfl:(pN bs).2.2.2=false:=by simpa using h7
 have hok:(pN bs).2.1=true:=by
  cases hx:(pN bs).2.1 with
  | true=>rfl
  | false=>exact absurd (.inl hx) hno
 have hem:(pN bs).2.2.1=[]:=List.eq_nil_of_length_eq_zero (by
  rcases Nat.eq_zero_or_pos (pN bs).2.2.1.length with h | h
  exact h;exact absurd (.inr (.inl h)) hno)
 have hB:b_ (vY bs)=true:=by
  cases hx:b_ (vY bs) with
  | true=>rfl
  | false=>exact absurd (.inr (.inr hx)) hno
 refine ⟨hB,?_⟩;have g:=Kl hfl;have ok:=zO hB;have f1:=mH g.e1;have f2:=rH g.e2;have f3:=rH g.e3;have f4:=rH g.e4;have f5:=mH g.c1;obtain ⟨f6,l6⟩:=sJ _ _ g.s1;have f7:=mH g.c2;obtain ⟨f8,l8⟩:=sJ _ _ g.s2;have f9:=mH g.c3;obtain ⟨f10,l10⟩:=yh _ _ hfl hok (fun s hs=>(ok.seen.2 s hs).root);rw[we]
 show Wk.u8 ((aV (Lf bs).1 0:Nat):Int)::(fS ((aV (GP bs).1 0:Nat):Int)++(fS ((aV (GQ bs).1 0:Nat):Int)++(fS ((aV (Fm bs).1 0:Nat):Int)++(Wk.u8 ((Al bs).1.length:Int)::(bK (Al bs).1++(Wk.u8 ((zM bs).1.length:Int)::(bK (zM bs).1++(Wk.u8 ((pN bs).1.length:Int)::cG (pN bs).1))))))))=bs
 have k10:(Fp bs).2.1=cG (pN bs).1:=by
  have:(Fp bs).2.1=cG (pN bs).1++(pN bs).2.2.1:=f10;rw[hem,List.append_nil]at this;exact this
 have k9:(zM bs).2.1=Wk.u8 ((pN bs).1.length:Int)::cG (pN bs).1:=by
  have:(zM bs).2.1=Wk.u8 ((aV (Fp bs).1 0:Nat):Int)::(Fp bs).2.1:=f9;rw[this,k10,show (pN bs).1.length=aV (Fp bs).1 0 from l10]
 have k8:(DI bs).2.1=bK (zM bs).1++(Wk.u8 ((pN bs).1.length:Int)::cG (pN bs).1):=by
  have:(DI bs).2.1=bK (zM bs).1++(zM bs).2.1:=f8;rw[this,k9]
 have k7:(Al bs).2.1=Wk.u8 ((zM bs).1.length:Int)::(DI bs).2.1:=by
  have:(Al bs).2.1=Wk.u8 ((aV (DI bs).1 0:Nat):Int)::(DI bs).2.1:=f7;rw[this,show (zM bs).1.length=aV (DI bs).1 0 from l8]
 have k6:(Fo bs).2.1=bK (Al bs).1++(Al bs).2.1:=f6;have k5:(Fm bs).2.1=Wk.u8 ((Al bs).1.length:Int)::(Fo bs).2.1:=by
  have:(Fm bs).2.1=Wk.u8 ((aV (Fo bs).1 0:Nat):Int)::(Fo bs).2.1:=f5;rw[this,show (Al bs).1.length=aV (Fo bs).1 0 from l6]
 rw[←k8,←k7,←k6,←k5];rw[show fS ((aV (Fm bs).1 0:Nat):Int)++(Fm bs).2.1=(GQ bs).2.1 from f4.symm,show fS ((aV (GQ bs).1 0:Nat):Int)++(GQ bs).2.1=(GP bs).2.1 from f3.symm,show fS ((aV (GP bs).1 0:Nat):Int)++(GP bs).2.1=(Lf bs).2.1 from f2.symm];exact f1.symm
end Go.Proofs.YtdakncgafdnjfaaGreat