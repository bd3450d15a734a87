/- 9: a part of this claim's texts, joined: MemD MemE MemF MemLaw RefMemA TermK TermL TermM VaultK VaultN PlainVaultE PlainVaultF PlainVaultG W14. -/
import Derived.Test.YtdakncgafdnjfaaGreatPm8
namespace Go.Proofs.YtdakncgafdnjfaaGreat
open Go.Proofs.Tryz
open Go Go.Wk
set_option synthInstance.maxSize 100000
set_option synthInstance.maxHeartbeats 400000
set_option maxRecDepth 100000
theorem JP (xs:List aH)(p:Option Addr)(n c:Nat)(y:aH)(w0:World)(hn:xs.length=n)(hl:n≤1000000)(hx:Fx w0 (av p xs)) :
  aT prog 204 [.slice p n c,.agg ⟨[str y.key,.int .i64 y.dS]⟩] w0 (fun _=>False) fun v _=>∃ i:Int,v=.int .i64 i∧decide (0≤i)=decide (y∈xs):=by
 subst hn;refine E1 func204 rfl ntmps204 (Wd.begin (fs:=[av p xs]) (by simpa using hx)) ?_;intro a S;refine kS (kR ?_);refine sa S ?_;intro b3 a w S;refine jq ?_;intro a S;refine iH S (fun(k:Nat) uu=>[(4,uu 4),(0,uu 5),(2,.int .i64 (k:Nat)),(0,uu 9),(0,uu 10),(0,uu 11),(0,uu 12),(0,uu 13),(0,uu 14),(0,uu 15),(0,uu 16),(0,uu 17),(0,uu 18)]) (fun(k:Nat)=>k≤xs.length∧∀ a,a < k→aq xs a≠y) (fun(k:Nat)=>xs.length - k) (0) ?_ S.uu ?_ ?_;exact ⟨Nat.zero_le _,fun a h=>absurd h (Nat.not_lt_zero a)⟩
 first | exact S | exact S.sub _ _
 clear S;rintro k uu a w ⟨hk,hno⟩ S;refine J6 ?_;intro a S;refine kC S (fun h2=>?_) (fun h2=>?_);refine gM ?_;intro a S;have bn:k < xs.length:=by simp at h2;omega
 have hK:cx k xs.length:=⟨bn⟩;refine bM [T9 0,T9 1,T9 2,T9 3,T9 4,T9 5] [] S ?_;intro w S;(iterate 6 (refine dq S ?_;intro a S));refine dn (aQ ?_);refine kC S (fun h4=>?_) (fun h4=>?_);refine jq ?_;intro a S;have he:y=aq xs k:=of_decide_eq_true h4;refine aD S (fun _=>⟨(k:Int),rfl,?_⟩);rw[decide_eq_true (show (0:Int)≤(k:Int) by omega),decide_eq_true (show y∈xs from he▸bh bn)];refine J8 ?_;intro a S;rw[w6 ((k:Int)+1)]at S;refine ⟨k+1,S.uu,⟨bn,fun a ha=>?_⟩,S.sub _ _,by omega⟩;rcases Nat.lt_succ_iff_lt_or_eq.1 ha with h | rfl
 exact hno a h;exact fun h=>(of_decide_eq_false h4) h.symm
 refine gM ?_;intro a S;refine aD S (fun _=>⟨-1,rfl,?_⟩);rw[decide_eq_false (show ¬(0:Int)≤-1 by omega),decide_eq_false];intro hm;obtain ⟨a,ha,he⟩:=List.mem_iff_getElem.1 hm;have h3:=bu ha;rw[List.getElem?_eq_getElem ha]at h3;exact hno a (by simp at h2;omega) ((Option.some.inj h3).symm.trans he)
theorem BF (xs:List aH)(p:Option Addr)(n c:Nat)(y:aH)(w0:World)(hn:xs.length=n)(hl:n≤1000000)(hx:Fx w0 (av p xs)) :
  aT prog 118 [.slice p n c,.agg ⟨[str y.key,.int .i64 y.dS]⟩] w0 (fun _=>False) fun v _=>v=.bool (decide (y∈xs)):=by
 refine E1 func118 rfl ntmps118 (Wd.begin (fs:=[av p xs]) (by simpa using hx)) ?_;intro a S;refine kS (kR ?_);refine sa S ?_;intro b3 a w S;refine J7 ?_;intro a S;refine sr S (JP xs p n c y _ hn hl (S.j9 p)) ?_;rintro _ a w ⟨i,rfl,hi⟩ S;refine J5 ?_;intro a S;exact aD S (fun _=>by rw[hi])
theorem Gv (F:Nat)[aF prog F](ca:List Value)(q:aH→Bool)(xs:List aH)(p:Option Addr)(n c:Nat)(w0:World)(hn:xs.length=n)(hl:n≤9223372036854775807)(hx:Fx w0 (av p xs))
  (hF:∀ x∈xs,∀ w,aJ (fun _=>False) w0 w→aT prog F (.agg ⟨[str x.key,.int .i64 x.dS]⟩::ca) w (fun _=>False) fun v _=>v=.bool (q x)) :
  aT prog 252 [.slice p n c,.func (.func F) #[] ⟨ca⟩] w0 (fun _=>False) fun v _=>v=.int .i64 (lZ q xs 0):=by
 refine E1 func252 rfl ntmps252 (Wd.begin (fs:=[av p xs]) (by simpa using hx)) ?_;intro a S;refine ug ?_;intro a S;refine iH S (fun(k:Nat) uu=>[(4,uu 4),(0,uu 5),(2,.int .i64 (k:Nat)),(0,uu 9),(0,uu 10),(0,uu 11),(0,uu 12),(0,uu 13),(0,uu 14),(0,uu 15),(0,uu 16),(0,uu 17),(0,uu 18)]) (fun(k:Nat)=>k≤n∧lZ q (xs.drop k) k=lZ q xs 0) (fun(k:Nat)=>n - k) (0) ?_ S.uu ?_ ?_;exact ⟨Nat.zero_le _,rfl⟩
 first | exact S | exact S.sub _ _
 clear S;rintro k uu a w ⟨hk,aI⟩ S;refine J6 ?_;intro a S;refine kC S (fun h2=>?_) (fun h2=>?_);refine gM ?_;intro a S;have bn:k < n:=by simp at h2;omega
 have hK:cx k n:=⟨bn⟩;have Cq:cx k xs.length:=⟨by omega⟩;rw[bE (show k < xs.length by omega),lZ]at aI;refine J6 ?_;intro a S;refine sr S (hF (aq xs k) (bh (by omega)) w S.wd.agree) ?_;rintro _ a w rfl S;refine kN (aQ ?_);refine kC S (fun h4=>?_) (fun h4=>?_);refine jq ?_;intro a S;rw[if_pos h4]at aI;refine aD S (fun _=>?_);rw[aI];refine J8 ?_;intro a S;rw[if_neg (by simpa using h4)]at aI;rw[w6 ((k:Int)+1)]at S;exact ⟨k+1,S.uu,⟨bn,by rw[←aI];rfl⟩,S.sub _ _,by omega⟩;refine gM ?_;intro a S;rw[List.drop_of_length_le (by simp at h2;omega)]at aI;refine aD S (fun _=>?_);rw[←aI];rfl
theorem zD (F:Nat)[aF prog F](ca:List Value)(q:aH→Bool)(xs:List aH)(p:Option Addr)(n c:Nat)(w0:World)(hn:xs.length=n)(hl:n≤9223372036854775807)(hx:Fx w0 (av p xs))
  (hF:∀ x∈xs,∀ w,aJ (fun _=>False) w0 w→aT prog F (.agg ⟨[str x.key,.int .i64 x.dS]⟩::ca) w (fun _=>False) fun v _=>v=.bool (q x)) :
  aT prog 208 [.slice p n c,.func (.func F) #[] ⟨ca⟩] w0 (fun _=>False) fun v _=>v=.bool (xs.any q):=by
 refine E1 func208 rfl ntmps208 (Wd.begin (fs:=[av p xs]) (by simpa using hx)) ?_;intro a S;refine J9 ?_;intro a S;refine sr S (Gv F ca q xs p n c _ hn hl (S.j9 p) fun x hx w' bP=>hF x hx w' (S.wd.agree.trans bP)) ?_;rintro _ a w rfl S;refine J5 ?_;intro a S;refine aD S (fun _=>?_);rw[nS q xs 0 (by omega)]
theorem Gw (F:Nat)[aF prog F](ca:List Value)(q:aK→Bool)(xs:List aK)(p:Option Addr)(n c:Nat)(w0:World)(hn:xs.length=n)(hl:n≤9223372036854775807)(hx:Fx w0 (av p xs))
  (hF:∀ x∈xs,∀ w,aJ (fun _=>False) w0 w→aT prog F (.agg ⟨kH x⟩::ca) w (fun _=>False) fun v _=>v=.bool (q x)) :
  aT prog 254 [.slice p n c,.func (.func F) #[] ⟨ca⟩] w0 (fun _=>False) fun v _=>v=.int .i64 (lZ q xs 0):=by
 refine E1 func254 rfl ntmps254 (Wd.begin (fs:=[av p xs]) (by simpa using hx)) ?_;intro a S;refine ug ?_;intro a S;refine iH S (fun(k:Nat) uu=>[(4,uu 4),(0,uu 5),(2,.int .i64 (k:Nat)),(0,uu 9),(0,uu 10),(0,uu 11),(0,uu 12),(0,uu 13),(0,uu 14),(0,uu 15),(0,uu 16),(0,uu 17),(0,uu 18)]) (fun(k:Nat)=>k≤n∧lZ q (xs.drop k) k=lZ q xs 0) (fun(k:Nat)=>n - k) (0) ?_ S.uu ?_ ?_;exact ⟨Nat.zero_le _,rfl⟩
 first | exact S | exact S.sub _ _
 clear S;rintro k uu a w ⟨hk,aI⟩ S;refine J6 ?_;intro a S;refine kC S (fun h2=>?_) (fun h2=>?_);refine gM ?_;intro a S;have bn:k < n:=by simp at h2;omega
 have hK:cx k n:=⟨bn⟩;have Cq:cx k xs.length:=⟨by omega⟩;rw[bE (show k < xs.length by omega),lZ]at aI;refine J6 ?_;intro a S;refine sr S (hF (aq xs k) (bh (by omega)) w S.wd.agree) ?_;rintro _ a w rfl S;refine kN (aQ ?_);refine kC S (fun h4=>?_) (fun h4=>?_);refine jq ?_;intro a S;rw[if_pos h4]at aI;refine aD S (fun _=>?_);rw[aI];refine J8 ?_;intro a S;rw[if_neg (by simpa using h4)]at aI;rw[w6 ((k:Int)+1)]at S;exact ⟨k+1,S.uu,⟨bn,by rw[←aI];rfl⟩,S.sub _ _,by omega⟩;refine gM ?_;intro a S;rw[List.drop_of_length_le (by simp at h2;omega)]at aI;refine aD S (fun _=>?_);rw[←aI];rfl
theorem zE (F:Nat)[aF prog F](ca:List Value)(q:aK→Bool)(xs:List aK)(p:Option Addr)(n c:Nat)(w0:World)(hn:xs.length=n)(hl:n≤9223372036854775807)(hx:Fx w0 (av p xs))
  (hF:∀ x∈xs,∀ w,aJ (fun _=>False) w0 w→aT prog F (.agg ⟨kH x⟩::ca) w (fun _=>False) fun v _=>v=.bool (q x)) :
  aT prog 213 [.slice p n c,.func (.func F) #[] ⟨ca⟩] w0 (fun _=>False) fun v _=>v=.bool (xs.any q):=by
 refine E1 func213 rfl ntmps213 (Wd.begin (fs:=[av p xs]) (by simpa using hx)) ?_;intro a S;refine J9 ?_;intro a S;refine sr S (Gw F ca q xs p n c _ hn hl (S.j9 p) fun x hx w' bP=>hF x hx w' (S.wd.agree.trans bP)) ?_;rintro _ a w rfl S;refine J5 ?_;intro a S;refine aD S (fun _=>?_);rw[nS q xs 0 (by omega)]
theorem JQ (F:Nat)[aF prog F](ca:List Value)(q:aH→Bool)(b:Nat)(x:aH)(w0:World)(hb:Fx w0 (az b 192 [.func (.func F) #[] ⟨ca⟩]))(hF:∀ w,aJ (fun _=>False) w0 w→aT prog F (.agg ⟨[str x.key,.int .i64 x.dS]⟩::ca) w (fun _=>False) fun v _=>v=.bool (q x)) :
  aT prog 209 [.agg ⟨[str x.key,.int .i64 x.dS]⟩,.pointer (some ⟨b,0,none⟩)] w0 (fun _=>False) fun v _=>v=.bool (!q x):=by
 refine E1 func209 rfl ntmps209 (Wd.begin (fs:=[az b 192 [.func (.func F) #[] ⟨ca⟩]]) (by simpa using hb)) ?_;intro a S;refine kS (kR ?_);refine sa S ?_;intro b2 a w S;refine J7 ?_;intro a S;refine sr S (hF w S.wd.agree) ?_;rintro _ a w rfl S;refine J5 ?_;intro a S;exact aD S (fun _=>rfl)
theorem MO (F:Nat)[aF prog F](ca:List Value)(q:aH→Bool)(xs:List aH)(p:Option Addr)(n c:Nat)(w0:World)(hn:xs.length=n)(hl:n≤1000000)(hx:Fx w0 (av p xs))(hF:∀ x∈xs,∀ w,aJ (fun _=>False) w0 w→aT prog F (.agg ⟨[str x.key,.int .i64 x.dS]⟩::ca) w (fun _=>False) fun v _=>v=.bool (q x)) :
  aT prog 122 [.slice p n c,.func (.func F) #[] ⟨ca⟩] w0 (fun _=>False) fun v _=>v=.bool (xs.all q):=by
 refine E1 func122 rfl ntmps122 (Wd.begin (fs:=[av p xs]) (by simpa using hx)) ?_;intro a S;refine kS (kR ?_);refine sa S ?_;intro b3 a w S;refine J7 ?_;intro a S;have ju:=az.aO (M:=fun _=>False) (S.ir b3) (fun h=>h);have iR:=S.wd.agree;refine sr S (zD 209 [.pointer (some ⟨b3,0,none⟩)] (fun x=>!q x) xs p n c _ hn (by omega) (S.j9 p) (fun x hx w' bP=>JQ F ca q b3 x w' (ju.later bP) (fun w2 wJ=>hF x hx w2 (iR.trans (bP.trans wJ))))) ?_;rintro _ a w rfl S;refine J5 ?_;intro a S;refine aD S (fun _=>?_);rw[lz]
theorem JR (F:Nat)[aF prog F](ca:List Value)(q:aK→Bool)(b:Nat)(x:aK)(w0:World)(hb:Fx w0 (az b 196 [.func (.func F) #[] ⟨ca⟩]))(hF:∀ w,aJ (fun _=>False) w0 w→aT prog F (.agg ⟨kH x⟩::ca) w (fun _=>False) fun v _=>v=.bool (q x)) :
  aT prog 214 [.agg ⟨kH x⟩,.pointer (some ⟨b,0,none⟩)] w0 (fun _=>False) fun v _=>v=.bool (!q x):=by
 refine E1 func214 rfl ntmps214 (Wd.begin (fs:=[az b 196 [.func (.func F) #[] ⟨ca⟩]]) (by simpa using hb)) ?_;intro a S;refine kS (kR ?_);refine sa S ?_;intro b2 a w S;refine J7 ?_;intro a S;refine sr S (hF w S.wd.agree) ?_;rintro _ a w rfl S;refine J5 ?_;intro a S;exact aD S (fun _=>rfl)
theorem MQ (F:Nat)[aF prog F](ca:List Value)(q:aK→Bool)(xs:List aK)(p:Option Addr)(n c:Nat)(w0:World)(hn:xs.length=n)(hl:n≤1000000)(hx:Fx w0 (av p xs))(hF:∀ x∈xs,∀ w,aJ (fun _=>False) w0 w→aT prog F (.agg ⟨kH x⟩::ca) w (fun _=>False) fun v _=>v=.bool (q x)) :
  aT prog 124 [.slice p n c,.func (.func F) #[] ⟨ca⟩] w0 (fun _=>False) fun v _=>v=.bool (xs.all q):=by
 refine E1 func124 rfl ntmps124 (Wd.begin (fs:=[av p xs]) (by simpa using hx)) ?_;intro a S;refine kS (kR ?_);refine sa S ?_;intro b3 a w S;refine J7 ?_;intro a S;have ju:=az.aO (M:=fun _=>False) (S.ir b3) (fun h=>h);have iR:=S.wd.agree;refine sr S (zE 214 [.pointer (some ⟨b3,0,none⟩)] (fun x=>!q x) xs p n c _ hn (by omega) (S.j9 p) (fun x hx w' bP=>JR F ca q b3 x w' (ju.later bP) (fun w2 wJ=>hF x hx w2 (iR.trans (bP.trans wJ))))) ?_;rintro _ a w rfl S;refine J5 ?_;intro a S;refine aD S (fun _=>?_);rw[lz]
def vP (now:List fV)(s:fV):Bool:=match pM now s.user with
 | none=>false
 | some x=>if x.cnt=s.cnt then gw x.root s.root else decide (s.cnt < x.cnt)
theorem MR (b:Nat)(m:aW)(x:aH)(w0:World)(hl:m.ah.length≤1000000)(hb:Fx w0 (az b 67 (cN m)))(hx:Fx w0 (av m.sp m.ah)) :
  aT prog 117 [.agg ⟨[str x.key,.int .i64 x.dS]⟩,.pointer (some ⟨b,0,none⟩)] w0 (fun _=>False) fun v _=>v=.bool (decide (x∈m.ah)):=by
 refine E1 func117 rfl ntmps117 (Wd.begin (fs:=[az b 67 (cN m),av m.sp m.ah]) (by simp;exact ⟨hb,hx⟩)) ?_;intro a S;refine kS (kR ?_);refine sa S ?_;intro b2 a w S;refine J8 ?_;intro a S;refine sr S (BF m.ah m.sp m.ah.length m.sc x _ rfl hl (S.j9 m.sp)) ?_;rintro _ a w rfl S;refine J4 ?_;intro a S;exact aD S (fun _=>rfl)
theorem JS {x y:Int} : decide (tr x y=1)=decide (y < x):=by
 unfold tr;split
 rename_i h;rw[decide_eq_false (show ¬y < x by omega)];rfl
 split
 rename_i h;rw[decide_eq_true h];rfl
 rename_i h;rw[decide_eq_false h];rfl
theorem MS (b:Nat)(m:aW)(s:aK)(w0:World)(hl:m.seen.length≤1000000)(hs:eH 0 (cU m.seen)=true)(_hc:1≤s.cnt)(hb:Fx w0 (az b 67 (cN m)))(hx:Fx w0 (av m.ep m.seen))(hr:Fx w0 (dc s.root)) :
  aT prog 119 [.agg ⟨kH s⟩,.pointer (some ⟨b,0,none⟩)] w0 (fun _=>False) fun v _=>v=.bool (vP (cU m.seen) s.s):=by
 refine E1 func119 rfl ntmps119 (Wd.begin (fs:=[az b 67 (cN m),av m.ep m.seen,dc s.root]) (by simp;exact ⟨hb,hx,hr⟩)) ?_;intro a S;refine kS (kR ?_);refine sa S ?_;intro b2 a w S;refine J9 ?_;intro a S;refine sr S (JO m.seen m.ep m.seen.length m.ec s.user _ w rfl hl (a_ S) (S.mem.fact (av m.ep m.seen))) ?_;rintro _ a w ⟨x,ok,rfl,hxf,I6,hno⟩ S;replace S:=S.add hxf;have MT:vP (cU m.seen) s.s=(ok&&if x.cnt=s.cnt then gw x.root.t s.root.t else decide (s.cnt < x.cnt)):=by
  rw[vP,show s.s.user=s.user from rfl,I6 hs];cases ok with
  | false=>rfl
  | true=>rfl
 have hz:ok=false→x.cnt=0:=fun h=>by rw[hno h];rfl
 refine J3 ?_;intro a S;refine sa S ?_;intro b4 a w S;refine yA ?_;intro a w S;refine sr S (JL x.cnt s.cnt _) ?_;rintro _ a w rfl S;refine J6 ?_;intro a S;rw[Fc]at S;refine J3 ?_;intro a S;refine kC S (fun h3=>?_) (fun h3=>?_);refine J4 ?_;intro a S;refine gS S (fun Zo S=>?_) (fun Zo S=>?_);refine gT S ?_;refine sq S ?_;intro a S;refine gT S ?_;refine sq S ?_;intro a S;refine gT S ?_;refine sq S ?_;intro a S;refine gT S ?_;refine sq S ?_;intro a S;refine gT S ?_;refine sr S (HN x.root s.root _ (S.t0 _) (S.t0 _)) ?_;rintro _ a w rfl S;refine J7 ?_;intro a S;refine aD S (fun _=>?_);rw[MT,if_pos (of_decide_eq_true h3),Zo,Bool.true_and];refine gF S ?_;intro a S;(iterate 4 (refine gF S ?_;intro a S));(iterate 2 (refine sq S ?_;intro a S));refine kN (aQ (kT (Ac (tG ?_))));refine aD S (fun _=>?_);rw[MT,Zo,Bool.false_and];refine J3 ?_;intro a S;rw[JS]at S;refine J3 ?_;intro a S;refine kC S (fun h5=>?_) (fun h5=>?_);refine J9 ?_;intro a S;refine aD S (fun _=>?_);rw[MT,if_neg (of_decide_eq_false h3),h5,Bool.and_true];refine J9 ?_;intro a S;refine aD S (fun _=>?_);rw[MT,if_neg (of_decide_eq_false h3),h5,Bool.and_false]
def Gx (old now:List aH):Bool:=!old.any fun m=>!now.any (vN m)
def dQ (a b:bJ):Bool:=b_ a&&b_ b&&decide (a.user=b.user)&&(decide (a.leaf≤b.leaf)&&decide (a.counter≤b.counter)&&decide (a.num≤b.num))&&(a.ah.all fun s=>decide (s∈b.ah))&&Gx a.aA b.aA&&a.seen.all (vP b.seen)
theorem rB (m:bJ):decide (jQ m=0)=b_ m:=by rw[jQ];cases b_ m <;> rfl
theorem x9:∀ (l:List aK) (k:Int),eH k (cU l)=true→∀ x∈l,1≤x.cnt
 | [],_,_,x,hx=>by cases hx
 | y::l,k,h,x,hx=>by
  replace h:(decide (k < y.user)&&bX y.user&&pY y.cnt&&decide (cR y.root.t=0)&&eH y.user (cU l))=true:=h;simp only[Bool.and_eq_true,decide_eq_true_eq,pY]at h;rcases List.mem_cons.1 hx with rfl | hx
  exact h.1.1.2.1;exact x9 l y.user h.2 x hx
theorem mD {m:aW}(h:b_ m.m=true):eH 0 (cU m.seen)=true:=by
 rw[b_,Bool.and_eq_true]at h;exact h.2
theorem vQ {a b:bJ}(h:(!b_ a||!b_ b||!decide (a.user=b.user))=true):dQ a b=false:=by
 rw[dQ];cases h1:b_ a with
 | false=>simp
 | true=>
  cases h2:b_ b with
  | false=>simp
  | true=>
   rw[h1,h2]at h;have h3:decide (a.user=b.user)=false:=by simpa using h
   rw[h3];simp
set_option maxHeartbeats 2000000 in
theorem x_ (x y:aW)(hx:dY x)(hy:dY y)(w0:World)(fx:Fx w0 (aE x))(fy:Fx w0 (aE y)):aT prog 38 [fJ x,fJ y] w0 (fun _=>False) fun v _=>v=.bool (dQ x.m y.m):=by
 have l1:=hx.ah;have l2:=hx.aA;have l3:=hx.seen;have l4:=hy.ah;have l5:=hy.aA;have l6:=hy.seen;refine E1 func38 rfl ntmps38 (Wd.begin (fs:=[aE x,aE y,av x.sp x.ah,av x.vp x.aA,av x.ep x.seen,av y.sp y.ah,av y.vp y.aA,av y.ep y.seen]) (by simp;exact ⟨fx,fy,fx.imp fun _ h=>h.1,fx.imp fun _ h=>h.2.1,fx.imp fun _ h=>h.2.2,fy.imp fun _ h=>h.1,fy.imp fun _ h=>h.2.1,fy.imp fun _ h=>h.2.2⟩)) ?_;intro a S;refine kS (kR ?_);refine sa S ?_;intro b2 a w S;refine sa S ?_;intro b3 a w S;refine J7 ?_;intro a S;refine sr S (qK x hx _ ((S.mem.fact (aE x)).less fun _ _ h=>h.elim)) ?_;rintro _ a w rfl S;refine J1 ?_;intro a S;rw[rB]at S;refine J1 ?_;intro a S;refine gS S (fun dZ S=>?_) (fun dZ S=>?_);refine Hj S ?_;intro a S;(iterate 2 (refine Hj S ?_;intro a S));(iterate 2 (refine sq S ?_;intro a S));(iterate 5 (refine Hj S ?_;intro a S));refine sq S ?_;intro a S;refine kN (aQ ?_);refine tH S ?_;refine kS (kR (sq S ?_));intro a S;refine kN (aQ (kT ?_));refine tG ?_;refine aD S (fun _=>?_);rw[vQ (by rw[dZ,Bool.true_or,Bool.true_or])];refine jr S ?_;refine sq S ?_;intro a S;refine jr S ?_;refine sr S (qK y hy _ ((S.mem.fact (aE y)).less fun _ _ h=>h.elim)) ?_;rintro _ a w rfl S;refine jr S ?_;refine sq S ?_;intro a S;rw[rB]at S;refine mJ ?_;intro a S;refine kC S (fun h1=>?_) (fun h1=>?_);refine J7 ?_;intro a S;refine aD S (fun _=>?_);rw[vQ (by rw[dZ,Bool.false_or];exact h1)]
 refine tI ?_;intro a S;have Uh:b_ x.m=true:=by simpa using dZ
 have Sj:b_ y.m=true∧x.user=y.user:=by simpa using h1
 have hsx:=mD Uh;have TL:=mD Sj.1;have V_:dQ x.m y.m=((decide (x.leaf≤y.leaf)&&decide (x.counter≤y.counter)&&decide (x.num≤y.num))&&(x.ah.all fun s=>decide (s∈y.ah))&&(!x.aA.any fun m=>!y.aA.any (vN m))&&x.seen.all fun s=>vP (cU y.seen) s.s):=by
  rw[dQ,Uh,Sj.1,decide_eq_true (show x.m.user=y.m.user from Sj.2)];simp only[Bool.true_and]
  show (_&&_&&_&&(cU x.seen).all _)=_
  rw[cU,List.all_map];rfl
 refine mK ?_;intro a S;refine J7 ?_;intro a S;refine gS S (fun LZ S=>?_) (fun LZ S=>?_);refine gT S ?_;refine sq S ?_;intro a S;refine gT S ?_;refine sq S ?_;intro a S;refine gT S ?_;refine sq S ?_;intro a S;refine gT S ?_;have ju:=az.aO (M:=fun _=>False) (S.ir b3) (fun h=>h);have wK:=S.j9 y.sp;refine sr S (MO 117 [.pointer (some ⟨b3,0,none⟩)] (fun s=>decide (s∈y.ah)) x.ah x.sp x.ah.length x.sc _ rfl (by omega) (S.j9 x.sp) (fun s _ w' bP=>MR b3 y s w' (by omega) (ju.later bP) (wK.later bP))) ?_;rintro _ a w rfl S;refine J2 ?_;intro a S;refine gS S (fun Wa S=>?_) (fun Wa S=>?_);refine gT S ?_;refine sq S ?_;intro a S;refine gT S ?_;refine sq S ?_;intro a S;refine gT S ?_;refine sq S ?_;intro a S;refine gT S ?_;refine sq S ?_;intro a S;refine gT S ?_;refine sr S (Ql x.aA y.aA x.vp y.vp x.vc y.vc _ (by omega) (by omega) (S.j9 x.vp) (S.j9 y.vp)) ?_;rintro _ a w rfl S;refine J2 ?_;intro a S;refine gS S (fun Zp S=>?_) (fun Zp S=>?_);refine gT S ?_;refine sq S ?_;intro a S;refine gT S ?_;refine sq S ?_;intro a S;refine gT S ?_;refine sq S ?_;intro a S;refine gT S ?_;have ju:=az.aO (M:=fun _=>False) (S.ir b3) (fun h=>h);have wK:=S.j9 y.ep;have hgx:=S.j9 x.ep;refine sr S (MQ 119 [.pointer (some ⟨b3,0,none⟩)] (fun s=>vP (cU y.seen) s.s) x.seen x.ep x.seen.length x.ec _ rfl (by omega) hgx (fun s hs w' bP=>MS b3 y s w' (by omega) TL (x9 x.seen 0 hsx s hs) (ju.later bP) (wK.later bP) ((hgx.later bP).imp fun _ h=>h.2 s hs))) ?_;rintro _ a w rfl S
 refine J5 ?_;intro a S;refine aD S (fun _=>?_);rw[V_,LZ,Wa,Zp];simp;refine gF S ?_;intro a S;(iterate 3 (refine gF S ?_;intro a S));(iterate 2 (refine sq S ?_;intro a S));refine kN (aQ (kT ?_));refine aD S (fun _=>?_);rw[V_,LZ,Wa,Zp];simp;refine gF S ?_;intro a S;(iterate 4 (refine gF S ?_;intro a S));(iterate 2 (refine sq S ?_;intro a S));(iterate 4 (refine gF S ?_;intro a S));(iterate 2 (refine sq S ?_;intro a S));refine kN (aQ (kT ?_));refine aD S (fun _=>?_);rw[V_,LZ,Wa];simp;refine gF S ?_;intro a S;(iterate 3 (refine gF S ?_;intro a S));(iterate 2 (refine sq S ?_;intro a S));(iterate 5 (refine gF S ?_;intro a S));(iterate 2 (refine sq S ?_;intro a S));(iterate 4 (refine gF S ?_;intro a S));(iterate 2 (refine sq S ?_;intro a S));refine kN (aQ (kT ?_));refine aD S (fun _=>?_);rw[V_,LZ];simp
abbrev m9 (h:Nat)(p:Option Addr)(c:Nat)(b:List UInt8):Wk.Item:=both (Wk.box h 25 [.slice p b.length c]) (Wk.row 5 1 p b.length c (aa b))
def fS (n:Int):List UInt8:=be 2 (IntKind.u16.wrap n)
def eK:List Int→List UInt8
 | []=>[]
 | n::l=>fS n++eK l
theorem dK (n:Int):(fS n).length=2:=bI _ _
theorem ki:∀ l:List Int,(eK l).length=2*l.length
 | []=>rfl
 | n::l=>by rw[eK,List.length_append,dK,ki l,jb];omega
def BbR (h:Nat)(p:Option Addr)(c:Nat)(b B:List UInt8)(v:Value)(w0 w:World):Prop:=v=.tuple #[]∧∃ p' c',(m9 h p' c' B).holds w∧∀ k,(m9 h p' c' B).aj k→(m9 h p c b).aj k∨w0.heap.size≤k
theorem t_ (h:Nat)(p:Option Addr)(c:Nat)(b:List UInt8)(xs:List Int)(q:Option Addr)(n d:Nat)(w0:World)(hn:xs.length=n)(hl:n≤1000)(hb:b.length≤500000000)(hd:(m9 h p c b).holds w0)(hx:ag (m9 h p c b).aj w0 (av q xs)) :
  aT prog 110 [.slice q n d,.pointer (some ⟨h,0,none⟩)] w0 (m9 h p c b).aj fun v w'=>BbR h p c b (b++eK xs) v w0 w':=by
 subst hn;refine E1 func110 rfl ntmps110 (Wd.ig (x:=Wk.box h 25 [.slice p b.length c]) (y:=Wk.row 5 1 p b.length c (aa b)) (fs:=[av q xs]) hd rfl rfl (by simpa using hx)) ?_;intro a S;refine J8 ?_;intro a S;refine dI S (fun(k:Nat) (b':List UInt8) (p':Option Addr) (c':Nat) uu=>[(4,uu 4),(2,.int .i64 (k:Nat)),(0,uu 8),(0,uu 9),(0,uu 10),(0,uu 11),(0,uu 12),(0,uu 13),(0,uu 14),(0,uu 15)]) (fun(k:Nat) (b':List UInt8) (p':Option Addr) (c':Nat)=>[Wk.box h 25 [.slice p' b'.length c'],Wk.row 5 1 p' b'.length c' (aa b')]) (fun(k:Nat) (b':List UInt8) (p':Option Addr) (c':Nat)=>[av q xs]) (fun(k:Nat) (b':List UInt8) (p':Option Addr) (c':Nat)=>k≤xs.length∧b'++eK (xs.drop k)=b++eK xs) (fun(k:Nat) (b':List UInt8) (p':Option Addr) (c':Nat)=>xs.length - k) (0) (b) (p) (c) ?_ S.uu ?_ ?_;exact ⟨Nat.zero_le _,rfl⟩
 first | exact S | exact S.sub _ _
 clear S;rintro k b' p' c' uu a w ⟨hk,aI⟩ S;refine J6 ?_;intro a S;refine kC S (fun h1=>?_) (fun h1=>?_);refine kK (aQ (kS (kB (kS ?_))));have bn:k < xs.length:=by simp at h1;omega
 have hK:cx k xs.length:=⟨bn⟩;rw[bE bn,eK]at aI;have wH:=congrArg List.length aI;simp only[List.length_append,ki,dK]at wH;refine mJ ?_;intro a S;have hr:=uC (aq xs k);refine jU S (Eh p' b'.length c' b' (IntKind.u16.wrap (aq xs k)) w rfl (by omega) hr.1 hr.2 (rT (S.row p' b'.length))) ?_;rintro _ a w ⟨g,rfl,hg,hown⟩ hS -;have S:=hS hown (fun ad had=>by cases had;exact hg);clear hS;refine Y9 ?_;intro a w S;rw[w6 ((k:Int)+1)]at S;rw[show b'.length+2=(b'++be 2 (IntKind.u16.wrap (aq xs k))).length from by rw[List.length_append,bI]]at S;replace S:=(S.front (Wk.row 5 1 (some ⟨g,0,none⟩) (b'++be 2 (IntKind.u16.wrap (aq xs k))).length (b'++be 2 (IntKind.u16.wrap (aq xs k))).length (aa (b'++be 2 (IntKind.u16.wrap (aq xs k)))))).front (Wk.box h 25 [.slice (some ⟨g,0,none⟩) (b'++be 2 (IntKind.u16.wrap (aq xs k))).length (b'++be 2 (IntKind.u16.wrap (aq xs k))).length]);exact ⟨k+1,b'++be 2 (IntKind.u16.wrap (aq xs k)),some ⟨g,0,none⟩,(b'++be 2 (IntKind.u16.wrap (aq xs k))).length,S.uu,⟨bn,by rw[List.append_assoc];exact aI⟩,S.sub _ _,by omega⟩;refine kE (fT (fT (mM ?_)));have bn:xs.length≤k:=by simp at h1;omega
 rw[List.drop_of_length_le bn,eK,List.append_nil]at aI;subst aI;replace S:=S.aL;have h1:=S.it (m9 h p' c' (b++eK xs));have h2:=S.bH (m9 h p' c' (b++eK xs)) rfl;exact iD S (fun _=>⟨rfl,p',c',h1,h2⟩)
theorem Fh (h:Nat)(p:Option Addr)(c:Nat)(b:List UInt8)(s:List UInt8)(w0:World)(hl:s.length≤1000)(hb:b.length≤500000000)(hd:(m9 h p c b).holds w0) :
  aT prog 111 [str s,.pointer (some ⟨h,0,none⟩)] w0 (m9 h p c b).aj fun v w'=>BbR h p c b (b++Wk.u8 s.length::s) v w0 w':=by
 refine E1 func111 rfl ntmps111 (Wd.ig (x:=Wk.box h 25 [.slice p b.length c]) (y:=Wk.row 5 1 p b.length c (aa b)) (fs:=[]) hd rfl rfl (by simp)) ?_;intro a S;refine J5 ?_;intro a S;refine sn S ?_;intro b7 a w S;refine gA S (by simp[maxLen];omega) (by omega) ?_;rintro p1 c1 a w - S;refine J1 ?_;intro a S;refine gA S (by simp[maxLen];omega) (by omega) ?_;rintro p2 c2 a w - S;rw[show aa b++[Value.int .u8 (IntKind.u8.wrap (s.length:Int))]++aa s=aa (b++Wk.u8 s.length::s) from by rw[cF,aC,List.append_assoc];rfl,show b.length+1+s.length=(b++Wk.u8 s.length::s).length from by simp;omega]at S;refine Y2 ?_;intro a w S;replace S:=((S.front (Wk.row 5 1 p2 (b++Wk.u8 s.length::s).length c2 (aa (b++Wk.u8 s.length::s)))).front (Wk.box h 25 [.slice p2 (b++Wk.u8 s.length::s).length c2])).aL;have h1:=S.it (m9 h p2 c2 (b++Wk.u8 s.length::s));have h2:=S.bH (m9 h p2 c2 (b++Wk.u8 s.length::s)) rfl;exact iD S (fun _=>⟨rfl,p2,c2,h1,h2⟩)
def nE (m:aH):List UInt8:=(Wk.u8 m.key.length::m.key)++fS m.dS
def bK:List aH→List UInt8
 | []=>[]
 | m::l=>nE m++bK l
def rC (s:fV):List UInt8:=[Wk.u8 s.user]++fS s.cnt++be 4 (IntKind.u32.wrap ((dJ s.root).length:Int))++dJ s.root
def cG:List fV→List UInt8
 | []=>[]
 | s::l=>rC s++cG l
def lK (m:bJ):List UInt8:=Wk.u8 m.seen.length::cG m.seen
def m_ (m:bJ):List UInt8:=Wk.u8 m.aA.length::bK m.aA++lK m
def ng (m:bJ):List UInt8:=Wk.u8 m.ah.length::bK m.ah++m_ m
def aY (m:bJ):List UInt8:=Wk.u8 m.user::eK [m.leaf,m.counter,m.num]++ng m
theorem lE (t:Term):(dJ t).length≤84000:=by
 rw[dJ];split;simp
 rename_i h;exact sQ h
theorem qn:∀ l:List aH,(∀ x∈l,x.key.length≤1000)→(bK l).length≤1003*l.length
 | [],_=>by simp[bK]
 | m::l,h=>by
  have h1:=h m (.head _);have h2:=qn l fun x hx=>h x (.tail _ hx)
  simp only[bK,nE,List.length_append,jb,dK];omega
theorem qo:∀ l:List fV,(cG l).length≤84007*l.length
 | []=>by simp[cG]
 | s::l=>by
  have h1:=lE s.root;have h2:=qo l;simp only[cG,rC,List.length_append,jb,FG,dK,bI];omega
theorem vR {m:aW}(hfit:dY m):(aY m.m).length≤100000000:=by
 have h1:=qn m.ah hfit.names;have h2:=qn m.aA hfit.keys;have h3:=qo (cU m.seen);have h4:=hfit.ah;have h5:=hfit.aA;have h6:=hfit.seen;rw[cU,List.length_map]at h3;rw[aY,ng,m_,lK];simp only[List.length_append,jb,ki,FG,aW.m,cU];omega
def Zq (m:bJ)(v:Value)(w0 w:World):Prop:=(b_ m=false∧v=.tuple ⟨[.slice none 0 0,.int .i64 300]⟩)∨
 (b_ m=true∧∃ (p:Option Addr) (c:Nat),v=.tuple ⟨[.slice p (aY m).length c,.int .i64 0]⟩∧w.ownsRow 0 5 1 (.slice p (aY m).length c) (aY m).length (aa (aY m))∧∀ ad,p=some ad→w0.heap.size≤ad.block)
set_option maxHeartbeats 4000000 in
theorem Gy (m:aW)(hfit:dY m)(w0:World)(hm:Fx w0 (aE m)):aT prog 36 [fJ m] w0 (fun _=>False) fun v w'=>Zq m.m v w0 w':=by
 have nw:=hfit.ah;have rU:=hfit.aA;have LY:=hfit.seen;have Qs:=vR hfit;obtain ⟨B,hB⟩:∃ B,B=aY m.m:=⟨_,rfl⟩;rw[←hB]at Qs;refine E1 func36 rfl ntmps36 (Wd.begin (fs:=[aE m,av m.sp m.ah,av m.vp m.aA,av m.ep m.seen]) (by simp;exact ⟨hm,hm.imp fun _ h=>h.1,hm.imp fun _ h=>h.2.1,hm.imp fun _ h=>h.2.2⟩)) ?_;intro a S;refine kS (kR ?_);refine sa S ?_;intro b1 a w S;refine J8 ?_;intro a S;refine sr S (qK m hfit _ ((S.mem.fact (aE m)).less fun _ _ h=>h.elim)) ?_;rintro _ a w rfl S;refine J7 ?_;intro a S;rw[rB]at S;refine kN (aQ ?_);refine kC S (fun h2=>?_) (fun h2=>?_);refine J9 ?_;intro a S;have hno:b_ m.m=false:=by simpa using h2
 refine gO S (fun _=>.inl ⟨hno,?_⟩);rw[jQ,hno];rfl;refine kK (aQ (kS ?_));have hyes:b_ m.m=true:=by simpa using h2
 refine J4 ?_;intro a S;refine sn S ?_;intro HP a w S;replace S:=S.bT HP 1 1 rfl (by decide);rw[show [Value.int .u8 (IntKind.u8.wrap m.user)]=aa [Wk.u8 m.user] from by rw[cF];rfl]at S;refine sa S ?_;intro b5 a w S;refine sP ?_;intro a w S;refine J4 ?_;intro a S;refine sn S ?_;intro Wb a w S;replace S:=S.bT Wb 1 3 rfl (by decide);rw[show [Value.int .i64 m.leaf,.int .i64 m.counter,.int .i64 m.num]=aa [m.leaf,m.counter,m.num] from rfl]at S;replace S:=S.bA (some ⟨Wb,0,none⟩) [m.leaf,m.counter,m.num] (e:=3) (sz:=1) (n:=3) (c:=3) (fun _ _ _ _=>trivial);replace S:=((S.front (Wk.row 5 1 (some ⟨HP,0,none⟩) 1 1 (aa [Wk.u8 m.user]))).front (Wk.box b5 25 [.slice (some ⟨HP,0,none⟩) 1 1])).aL;refine cM (m9 b5 (some ⟨HP,0,none⟩) 1 [Wk.u8 m.user]) S (t_ b5 (some ⟨HP,0,none⟩) 1 [Wk.u8 m.user] [m.leaf,m.counter,m.num] (some ⟨Wb,0,none⟩) 3 3 w rfl (by decide) (by simp) (S.it (m9 b5 (some ⟨HP,0,none⟩) 1 [Wk.u8 m.user])) (S.bU (m9 b5 (some ⟨HP,0,none⟩) 1 [Wk.u8 m.user]) (S.mem.fact (av (some ⟨Wb,0,none⟩) [m.leaf,m.counter,m.num])))) rfl ?_;rintro _ a w ⟨rfl,p1,c1,hh,hf⟩ hS;obtain ⟨B1,Dz⟩:∃ B1,B1=[Wk.u8 m.user]++eK [m.leaf,m.counter,m.num]:=⟨_,rfl⟩;rw[←Dz]at hh hf;have S:=hS (m9 b5 p1 c1 B1) hh hf;clear hS;replace S:=S.aP;have hB1l:B1.length=7:=by rw[Dz];simp[ki]
 have Zr:B=B1++ng m.m:=by rw[hB,Dz,aY];rfl
 refine J9 ?_;intro a S;refine sn S ?_;intro b41 a w S;refine gA S (by simp[maxLen];omega) (by omega) ?_;rintro p2 c2 a w - S;rw[show aa B1++[Value.int .u8 (IntKind.u8.wrap (m.ah.length:Int))]=aa (B1++[Wk.u8 m.ah.length]) from by rw[cF,aC];rfl,show B1.length+1=(B1++[Wk.u8 m.ah.length]).length from by simp]at S;refine Hi ?_;intro a w S;refine dI S (fun(k:Nat) (b:List UInt8) (p':Option Addr) (c':Nat) uu=>[(9,uu 9),(36,.int .i64 (k:Nat)),(0,uu 47),(0,uu 48),(0,uu 49),(0,uu 50),(0,uu 51),(0,uu 52),(0,uu 53),(0,uu 54),(0,uu 55),(0,uu 56),(0,uu 57),(0,uu 58),(0,uu 59)]) (fun(k:Nat) (b:List UInt8) (p':Option Addr) (c':Nat)=>[Wk.box b5 25 [.slice p' b.length c'],Wk.row 5 1 p' b.length c' (aa b),Wk.box b1 67 (cN m)]) (fun(k:Nat) (b:List UInt8) (p':Option Addr) (c':Nat)=>[av m.sp m.ah,av m.vp m.aA,av m.ep m.seen]) (fun(k:Nat) (b:List UInt8) (p':Option Addr) (c':Nat)=>k≤m.ah.length∧b++(bK (m.ah.drop k)++m_ m.m)=B) (fun(k:Nat) (b:List UInt8) (p':Option Addr) (c':Nat)=>m.ah.length - k) (0) (B1++[Wk.u8 m.ah.length]) (p2) (c2) ?_ S.uu ?_ ?_;exact ⟨Nat.zero_le _,by rw[Zr,ng,List.append_assoc];rfl⟩;exact S.sub _ _;clear S;rintro k b p' c' uu a w ⟨hk,aI⟩ S;refine J6 ?_;intro a S;refine kC S (fun gi=>?_) (fun gi=>?_);refine kK (aQ (kS (kB (kS ?_))));have bn:k < m.ah.length:=by have:=of_decide_eq_true gi;omega
 have hK:cx k m.ah.length:=⟨bn⟩;have hkey:=hfit.names _ (bh bn);rw[bE bn,bK,nE]at aI;have wH:=congrArg List.length aI;simp only[List.length_append,jb,dK]at wH;refine J3 ?_;intro a S;refine sa S ?_;intro b9 a w S;refine Y8 ?_;intro a w S;replace S:=((S.front (Wk.row 5 1 p' b.length c' (aa b))).front (Wk.box b5 25 [.slice p' b.length c'])).aL;refine cM (m9 b5 p' c' b) S (Fh b5 p' c' b (aq m.ah k).key w hkey (by omega) (S.it (m9 b5 p' c' b))) rfl ?_;rintro _ a w ⟨rfl,p3,c3,hh,hf⟩ hS;obtain ⟨b3,zC⟩:∃ b3,b3=b++Wk.u8 (aq m.ah k).key.length::(aq m.ah k).key:=⟨_,rfl⟩;rw[←zC]at hh hf;have S:=hS (m9 b5 p3 c3 b3) hh hf;clear hS;have Qt:=congrArg List.length zC;simp only[List.length_append,jb]at Qt;refine J6 ?_;intro a S;refine sn S ?_;intro Fi a w S;replace S:=S.bT Fi 1 1 rfl (by decide);rw[show [Value.int .i64 (aq m.ah k).dS]=aa [(aq m.ah k).dS] from rfl]at S;replace S:=S.bA (some ⟨Fi,0,none⟩) [(aq m.ah k).dS] (e:=3) (sz:=1) (n:=1) (c:=1) (fun _ _ _ _=>trivial);replace S:=S.front (m9 b5 p3 c3 b3);refine cM (m9 b5 p3 c3 b3) S (t_ b5 p3 c3 b3 [(aq m.ah k).dS] (some ⟨Fi,0,none⟩) 1 1 w rfl (by decide) (by omega) (S.it (m9 b5 p3 c3 b3)) (S.bU (m9 b5 p3 c3 b3) (S.mem.fact (av (some ⟨Fi,0,none⟩) [(aq m.ah k).dS])))) rfl ?_;rintro _ a w ⟨rfl,p4,c4,hh,hf⟩ hS;have S:=hS (m9 b5 p4 c4 (b3++eK [(aq m.ah k).dS])) hh hf;clear hS;replace S:=(S.front (m9 b5 p4 c4 (b3++eK [(aq m.ah k).dS]))).aP
 refine J8 ?_;intro a S;rw[w6 ((k:Int)+1)]at S;refine ⟨k+1,_,p4,c4,S.uu,⟨bn,?_⟩,S.sub [Wk.box b5 25 [.slice p4 (b3++eK [(aq m.ah k).dS]).length c4],Wk.row 5 1 p4 (b3++eK [(aq m.ah k).dS]).length c4 (aa (b3++eK [(aq m.ah k).dS])),Wk.box b1 67 (cN m)] _,by omega⟩;rw[←aI,zC];simp[eK];refine jq ?_;intro a S;refine sn S ?_;intro b65 a w S;have bn:m.ah.length≤k:=by have:=of_decide_eq_false gi;omega
 rw[List.drop_of_length_le bn,bK,j6,m_]at aI;have wH:=congrArg List.length aI;simp only[List.length_append,jb]at wH;refine gA S (by simp[maxLen];omega) (by omega) ?_;rintro RW Ui a w - S;rw[show aa b++[Value.int .u8 (IntKind.u8.wrap (m.aA.length:Int))]=aa (b++[Wk.u8 m.aA.length]) from by rw[cF,aC];rfl,show b.length+1=(b++[Wk.u8 m.aA.length]).length from by simp]at S;replace aI:(b++[Wk.u8 m.aA.length])++(bK m.aA++lK m.m)=B:=by rw[←aI];simp[aW.m]
 obtain ⟨B2,Zs⟩:∃ B2,B2=b++[Wk.u8 m.aA.length]:=⟨_,rfl⟩;rw[←Zs]at S aI;refine Hi ?_;intro a w S;refine dI S (fun(j:Nat) (bb:List UInt8) (pp:Option Addr) (cc:Nat) uu=>[(11,uu 11),(58,.int .i64 (j:Nat)),(0,uu 71),(0,uu 72),(0,uu 73),(0,uu 74),(0,uu 75),(0,uu 76),(0,uu 77),(0,uu 78),(0,uu 79),(0,uu 80),(0,uu 81),(0,uu 82),(0,uu 83)]) (fun(j:Nat) (bb:List UInt8) (pp:Option Addr) (cc:Nat)=>[Wk.box b5 25 [.slice pp bb.length cc],Wk.row 5 1 pp bb.length cc (aa bb),Wk.box b1 67 (cN m)]) (fun(j:Nat) (bb:List UInt8) (pp:Option Addr) (cc:Nat)=>[av m.vp m.aA,av m.ep m.seen]) (fun(j:Nat) (bb:List UInt8) (pp:Option Addr) (cc:Nat)=>j≤m.aA.length∧bb++(bK (m.aA.drop j)++lK m.m)=B) (fun(j:Nat) (bb:List UInt8) (pp:Option Addr) (cc:Nat)=>m.aA.length - j) (0) (B2) (RW) (Ui) ?_ S.uu ?_ ?_;exact ⟨Nat.zero_le _,aI⟩;exact S.sub _ _;clear S;rintro j bb pp cc uu a w ⟨hj,fu⟩ S;refine J6 ?_;intro a S;refine kC S (fun Hu=>?_) (fun Hu=>?_);refine kK (aQ (kS (kB (kS ?_))));have hjl:j < m.aA.length:=by have:=of_decide_eq_true Hu;omega
 have hK:cx j m.aA.length:=⟨hjl⟩;have hkey:=hfit.keys _ (bh hjl);rw[bE hjl,bK,nE]at fu;have vS:=congrArg List.length fu;simp only[List.length_append,jb,dK]at vS;refine J3 ?_;intro a S;refine sa S ?_;intro Zt a w S;refine Y8 ?_;intro a w S;replace S:=((S.front (Wk.row 5 1 pp bb.length cc (aa bb))).front (Wk.box b5 25 [.slice pp bb.length cc])).aL;refine cM (m9 b5 pp cc bb) S (Fh b5 pp cc bb (aq m.aA j).key w hkey (by omega) (S.it (m9 b5 pp cc bb))) rfl ?_;rintro _ a w ⟨rfl,p3,c3,hh,hf⟩ hS;obtain ⟨b3,zC⟩:∃ b3,b3=bb++Wk.u8 (aq m.aA j).key.length::(aq m.aA j).key:=⟨_,rfl⟩;rw[←zC]at hh hf;have S:=hS (m9 b5 p3 c3 b3) hh hf;clear hS;have Qt:=congrArg List.length zC;simp only[List.length_append,jb]at Qt;refine J6 ?_;intro a S;refine sn S ?_;intro Fi a w S;replace S:=S.bT Fi 1 1 rfl (by decide);rw[show [Value.int .i64 (aq m.aA j).dS]=aa [(aq m.aA j).dS] from rfl]at S;replace S:=S.bA (some ⟨Fi,0,none⟩) [(aq m.aA j).dS] (e:=3) (sz:=1) (n:=1) (c:=1) (fun _ _ _ _=>trivial);replace S:=S.front (m9 b5 p3 c3 b3);refine cM (m9 b5 p3 c3 b3) S (t_ b5 p3 c3 b3 [(aq m.aA j).dS] (some ⟨Fi,0,none⟩) 1 1 w rfl (by decide) (by omega) (S.it (m9 b5 p3 c3 b3)) (S.bU (m9 b5 p3 c3 b3) (S.mem.fact (av (some ⟨Fi,0,none⟩) [(aq m.aA j).dS])))) rfl ?_;rintro _ a w ⟨rfl,p4,c4,hh,hf⟩ hS;have S:=hS (m9 b5 p4 c4 (b3++eK [(aq m.aA j).dS])) hh hf;clear hS;replace S:=(S.front (m9 b5 p4 c4 (b3++eK [(aq m.aA j).dS]))).aP
 refine J8 ?_;intro a S;rw[w6 ((j:Int)+1),show (j:Int)+1=((j+1:Nat):Int) from rfl]at S;refine ⟨j+1,_,p4,c4,S.uu,⟨hjl,?_⟩,S.sub [Wk.box b5 25 [.slice p4 (b3++eK [(aq m.aA j).dS]).length c4],Wk.row 5 1 p4 (b3++eK [(aq m.aA j).dS]).length c4 (aa (b3++eK [(aq m.aA j).dS])),Wk.box b1 67 (cN m)] _,by omega⟩;rw[←fu,zC];simp[eK];refine jq ?_;intro a S;refine sn S ?_;intro b89 a w S;have hjl:m.aA.length≤j:=by have:=of_decide_eq_false Hu;omega
 rw[List.drop_of_length_le hjl,bK,j6,lK]at fu;have vS:=congrArg List.length fu;simp only[List.length_append,jb]at vS;refine gA S (by simp[maxLen];omega) (by omega) ?_;rintro p22 c22 a w - S;rw[show aa bb++[Value.int .u8 (IntKind.u8.wrap (m.seen.length:Int))]=aa (bb++[Wk.u8 m.seen.length]) from by rw[cF,aC];rfl,show bb.length+1=(bb++[Wk.u8 m.seen.length]).length from by simp]at S;replace fu:(bb++[Wk.u8 m.seen.length])++cG (cU m.seen)=B:=by rw[←fu];simp[aW.m,cU]
 obtain ⟨B3,Zu⟩:∃ B3,B3=bb++[Wk.u8 m.seen.length]:=⟨_,rfl⟩;rw[←Zu]at S fu;refine Hi ?_;intro a w S;refine dI S (fun(i:Nat) (bz:List UInt8) (pz:Option Addr) (cz:Nat) uu=>[(13,uu 13),(0,uu 14),(0,uu 15),(78,.int .i64 (i:Nat)),(0,uu 95),(0,uu 96),(0,uu 97),(0,uu 98),(0,uu 99),(0,uu 100),(0,uu 101),(0,uu 102),(0,uu 103),(0,uu 104),(0,uu 105),(0,uu 106),(0,uu 107),(0,uu 108),(0,uu 109),(0,uu 110),(0,uu 111),(0,uu 112),(0,uu 113),(0,uu 114),(0,uu 115),(0,uu 116),(0,uu 117),(0,uu 118),(0,uu 119),(0,uu 120),(0,uu 121),(0,uu 122)]) (fun(i:Nat) (bz:List UInt8) (pz:Option Addr) (cz:Nat)=>[Wk.box b5 25 [.slice pz bz.length cz],Wk.row 5 1 pz bz.length cz (aa bz),Wk.box b1 67 (cN m)]) (fun(i:Nat) (bz:List UInt8) (pz:Option Addr) (cz:Nat)=>[av m.ep m.seen]) (fun(i:Nat) (bz:List UInt8) (pz:Option Addr) (cz:Nat)=>i≤m.seen.length∧bz++cG (cU (m.seen.drop i))=B) (fun(i:Nat) (bz:List UInt8) (pz:Option Addr) (cz:Nat)=>m.seen.length - i) (0) (B3) (p22) (c22) ?_ S.uu ?_ ?_;exact ⟨Nat.zero_le _,fu⟩;exact S.sub _ _;clear S;rintro i bz pz cz uu a w ⟨hi,jH⟩ S;refine J6 ?_;intro a S;refine kC S (fun PL=>?_) (fun PL=>?_);refine kK (aQ (kS (kB (kS ?_))));have hil:i < m.seen.length:=by have:=of_decide_eq_true PL;omega
 have hK:cx i m.seen.length:=⟨hil⟩;obtain ⟨s,hs⟩:∃ s,s=aq m.seen i:=⟨_,rfl⟩;rw[bE hil,←hs,cU,List.map_cons,cG,rC]at jH;obtain ⟨X,hX⟩:∃ X,X=dJ s.root.t:=⟨_,rfl⟩;have Zv:=lE s.root.t;rw[←hX]at Zv;replace jH:bz++(([Wk.u8 s.user]++fS s.cnt++be 4 (IntKind.u32.wrap (X.length:Int))++X)++cG (cU (m.seen.drop (i+1))))=B:=by rw[hX];exact jH
 have JT:=congrArg List.length jH;simp only[List.length_append,jb,FG,dK,bI]at JT;refine J3 ?_;intro a S;rw[←hs]at S;refine sa S ?_;intro kX a w S;refine Y7 ?_;intro a w S;replace S:=S.add (Φ:=dc s.root) ((S.mem.fact (av m.ep m.seen)).imp fun _ h=>h.2 _ (hs▸bh hil));refine jU S (HQ s.root _ (S.t0 s.root)) ?_;rintro _ a w ⟨p9,c9,rfl,hown,hnew⟩ hS -;have S:=hS hown hnew;clear hS;rw[←hX]at S;refine rP ?_;intro a S;refine sn S ?_;intro Uj a w S;refine gA S (by simp[maxLen];omega) (by omega) ?_;rintro RX RY a w - S;rw[show aa bz++[Value.int .u8 (IntKind.u8.wrap s.user)]=aa (bz++[Wk.u8 s.user]) from by rw[cF,aC];rfl,show bz.length+1=(bz++[Wk.u8 s.user]).length from by simp]at S;refine Y8 ?_;intro a w S;refine sn S ?_;intro Fi a w S;replace S:=S.bT Fi 1 1 rfl (by decide);rw[show [Value.int .i64 s.cnt]=aa [s.cnt] from rfl]at S;replace S:=S.bA (some ⟨Fi,0,none⟩) [s.cnt] (e:=3) (sz:=1) (n:=1) (c:=1) (fun _ _ _ _=>trivial);obtain ⟨b4,Zw⟩:∃ b4,b4=bz++[Wk.u8 s.user]:=⟨_,rfl⟩;rw[←Zw]at S;have Zx:b4.length=bz.length+1:=by rw[Zw];simp
 replace S:=((S.front (Wk.row 5 1 RX b4.length RY (aa b4))).front (Wk.box b5 25 [.slice RX b4.length RY])).aL;refine cM (m9 b5 RX RY b4) S (t_ b5 RX RY b4 [s.cnt] (some ⟨Fi,0,none⟩) 1 1 w rfl (by decide) (by omega) (S.it (m9 b5 RX RY b4)) (S.bU (m9 b5 RX RY b4) (S.mem.fact (av (some ⟨Fi,0,none⟩) [s.cnt])))) rfl ?_;rintro _ a w ⟨rfl,Wc,Zy,hh,hf⟩ hS;obtain ⟨b6,We⟩:∃ b6,b6=b4++eK [s.cnt]:=⟨_,rfl⟩;rw[←We]at hh hf;have S:=hS (m9 b5 Wc Zy b6) hh hf;clear hS;have hb6l:b6.length=bz.length+3:=by rw[We,List.length_append,ki,Zx];rfl
 replace S:=(S.front (m9 b5 Wc Zy b6)).aP;refine J7 ?_;intro a S;rw[wT (X.length:Int) (by omega) (by omega)]at S;refine jU S (oH Wc b6.length Zy b6 (X.length:Int) w rfl (by omega) (by omega) (by omega) (rT (S.row Wc b6.length))) ?_;rintro _ a w ⟨g,rfl,hg,hown⟩ hS -;have S:=hS hown (fun ad had=>by cases had;exact hg);clear hS;refine J1 ?_;intro a S;refine gA S (by simp[maxLen];omega) (by omega) ?_;rintro Uk Ul a w - S;rw[←aC,show b6.length+4+X.length=(b6++be 4 (X.length:Int)++X).length from by simp[bI];omega]at S;refine Y9 ?_;intro a w S;rw[w6 ((i:Int)+1),show (i:Int)+1=((i+1:Nat):Int) from rfl]at S;replace S:=(S.front (Wk.row 5 1 Uk (b6++be 4 (X.length:Int)++X).length Ul (aa (b6++be 4 (X.length:Int)++X)))).front (Wk.box b5 25 [.slice Uk (b6++be 4 (X.length:Int)++X).length Ul]);refine ⟨i+1,_,Uk,Ul,S.uu,⟨hil,?_⟩,S.sub [Wk.box b5 25 [.slice Uk (b6++be 4 (X.length:Int)++X).length Ul],Wk.row 5 1 Uk (b6++be 4 (X.length:Int)++X).length Ul (aa (b6++be 4 (X.length:Int)++X)),Wk.box b1 67 (cN m)] _,by omega⟩;rw[←jH,We,Zw,wT (X.length:Int) (by omega) (by omega)];simp[eK];refine rP ?_;intro a S;have hil:m.seen.length≤i:=by have:=of_decide_eq_false PL;omega
 rw[List.drop_of_length_le hil,cU,List.map_nil,cG,List.append_nil]at jH;subst jH;have hrow:=S.row pz bz.length;have hnew:=S.cQ pz bz.length;refine gO S (fun _=>.inr ⟨hyes,pz,cz,?_⟩);rw[←hB];exact ⟨rfl,hrow,fun ad h=>(hnew ad h).elim (fun h=>h.elim) id⟩
def mE (m:bJ):List UInt8:=if b_ m then aY m else []
theorem sD (m:aW)(hfit:dY m)(w0:World)(hm:Fx w0 (aE m)):aT prog 36 [fJ m] w0 (fun _=>False) fun v w'=>
  ∃ (p:Option Addr) (c:Nat),v=.tuple ⟨[.slice p (mE m.m).length c,.int .i64 (jQ m.m)]⟩∧w'.ownsRow 0 5 1 (.slice p (mE m.m).length c) (mE m.m).length (aa (mE m.m))∧∀ ad,p=some ad→w0.heap.size≤ad.block:=by
 refine (Gy m hfit w0 hm).mono fun v w' h=>?_
 rcases h with ⟨h1,rfl⟩ | ⟨h1,p,c,rfl,h2,h3⟩
 rw[mE,jQ,h1];exact ⟨none,0,rfl,World.ownsRow_nil _ _ _ _,fun _ h=>by cases h⟩;rw[mE,jQ,h1];exact ⟨p,c,rfl,h2,h3⟩
structure CovP (a b:bJ):Prop where
 ok:b_ a=true∧b_ b=true
 user:a.user=b.user
 rises:a.leaf≤b.leaf∧a.counter≤b.counter∧a.num≤b.num
 ah:∀ s∈a.ah,s∈b.ah
 aA:∀ m∈a.aA,∃ x∈b.aA,x.key=m.key∧m.dS≤x.dS
 seen:∀ s∈a.seen,∃ x,pM b.seen s.user=some x∧(s.cnt < x.cnt∨(x.cnt=s.cnt∧x.root=s.root))
theorem JU (m:aH)(w0:World):aT prog 193 [xl m] w0 (fun _=>False) fun v _=>v=.bool (jP m):=by
 refine E1 func193 rfl ntmps193 (Wd.start w0) ?_;intro a S;refine kS (kR ?_);refine sa S ?_;intro b1 a w S;refine mK ?_;intro a S;refine J9 ?_;intro a S;refine aD S (fun _=>?_)
 congr 1
 have e:(decide (m.key=[]))=decide (m.key.length=0):=by
  rw[Bool.eq_iff_iff];simp[List.length_eq_zero_iff]
 rw[jP,e,Bool.eq_iff_iff];simp only[Bool.and_eq_true,decide_eq_true_eq,Bool.not_eq_true',decide_eq_false_iff_not];omega
instance {m:aH}{bs fs} : cB prog 193 [.agg ⟨[str m.key,.int .i64 m.dS]⟩] bs fs (.bool (jP m)):=⟨fun w _=>JU m w⟩
theorem vT {c b:Bool}{k:Nat}(hb:b=true→1≤k)(hk:k≤1000000):An c (An b (.int .i64 (IntKind.i64.wrap ((k:Int) - 1))))=An c (An b (.int .i64 ((k - 1:Nat):Int))):=by
 cases b with
 | false=>rfl
 | true=>rw[w6 _,show (k:Int) - 1=((k - 1:Nat):Int) from by have:=hb rfl;omega]
theorem JV {m:aH}(h:jP m=true):m.key≠[]:=by
 intro he;simp[jP,he]at h
theorem JW {s:List UInt8}(h:s≠[]):Op.bytesLess [] s=true:=by
 cases s with
 | nil=>exact absurd rfl h
 | cons c s=>rfl
theorem DA (l:List aH)(k:Nat)(hk:k < l.length):kG (jw l k) (l.drop k)=(jP (aq l k)&&Op.bytesLess (jw l k) (aq l k).key&&kG (jw l (k+1)) (l.drop (k+1))):=by
 rw[bE hk];rfl
theorem DB (l:List aH)(p:Option Addr)(n c:Nat)(w0:World)(hn:l.length=n)(hl:n≤1000000)(hx:Fx w0 (av p l)) :
  aT prog 108 [.slice p n c] w0 (fun _=>False) fun v _=>v=.bool (EA l):=by
 subst hn;refine E1 func108 rfl ntmps108 (Wd.begin (fs:=[av p l]) (by simpa using hx)) ?_;intro a S;refine ug ?_;intro a S;refine iH S (fun(k:Nat) uu=>[(2,uu 2),(0,uu 3),(0,uu 4),(2,.int .i64 (k:Nat)),(0,uu 8),(0,uu 9),(0,uu 10),(0,uu 11),(0,uu 12),(0,uu 13),(0,uu 14),(0,uu 15),(0,uu 16),(0,uu 17),(0,uu 18),(0,uu 19),(0,uu 20),(0,uu 21),(0,uu 22),(0,uu 23),(0,uu 24),(0,uu 25),(0,uu 26),(0,uu 27),(0,uu 28),(0,uu 29),(0,uu 30)]) (fun(k:Nat)=>k≤l.length∧kG (jw l k) (l.drop k)=kG [] l) (fun(k:Nat)=>l.length - k) (0) ?_ S.uu ?_ ?_;exact ⟨Nat.zero_le _,rfl⟩
 first | exact S | exact S.sub _ _
 clear S;rintro k uu a w ⟨hk,aI⟩ S;refine J6 ?_;intro a S;refine kC S (fun h2=>?_) (fun h2=>?_);refine kK (aQ (kS (kB (kS ?_))));have bn:k < l.length:=by simp at h2;omega
 have hK:cx k l.length:=⟨bn⟩;have hst:=DA l k bn;have hC:K7 [!!jP (aq l k),decide (0 < (k:Int))] (k - 1) l.length:=⟨fun _=>by omega⟩;have nC:jP (aq l k)=true→Op.bytesLess (jw l k) (aq l k).key=(!(decide (0 < (k:Int))&&!Op.bytesLess (aq l (k - 1)).key (aq l k).key)):=fun hm=>by
  cases k with
  | zero=>rw[show jw l 0=[] from rfl,JW (JV hm)];rfl
  | succ j=>
   rw[show jw l (j+1)=(aq l j).key from rfl,show j+1 - 1=j from by omega,decide_eq_true (by omega:(0:Int) < ((j+1:Nat):Int))];simp
 refine J4 ?_;intro a S;refine sa S ?_;intro b4 a w S;refine Y5 ?_;intro a w S;refine bM [T9 0,F9 1,T9 2,T9 3,T9 4,T9 5,T9 6,T9 7,T9 8,T9 9,T9 10,T9 11,T9 12,T9 13,T9 14,T9 15,T9 16,T9 17] [] S ?_;intro w S;refine dq S ?_;intro a S;refine dl (sc S ?_);intro a w S;refine de S ?_;(iterate 2 (refine dq S ?_;intro a S));(iterate 6 (refine iX S ?_;intro a S));rw[vT (by simp;omega) (by omega)]at S;(iterate 7 (refine iX S ?_;intro a S));refine dq S ?_;intro a S;refine dn (aQ ?_);refine kC S (fun h4=>?_) (fun h4=>?_);refine gM ?_;intro a S;refine aD S (fun _=>?_);have:EA l=false:=by
  have hf:kG (jw l k) (l.drop k)=false:=by
   rw[hst];cases hm:jP (aq l k) with
   | false=>rfl
   | true=>
    have h5:=nC hm;rw[hm]at h4;simp only[Bool.not_true,Bool.false_or]at h4;rw[h5,h4];rfl
  rw[EA,←aI,hf,Bool.and_false]
 rw[this];refine J8 ?_;intro a S;rw[w6 ((k:Int)+1)]at S;refine ⟨k+1,S.uu,⟨bn,?_⟩,S.sub _ _,by omega⟩;rw[←aI,hst];cases hm:jP (aq l k) with
 | false=>rw[hm]at h4;simp at h4
 | true=>
  have h5:=nC hm;rw[hm]at h4;simp only[Bool.not_true,Bool.false_or]at h4;rw[h5,h4];rfl
 refine ug ?_;intro a S;rw[List.drop_of_length_le (by simp at h2;omega),kG]at aI;refine aD S (fun _=>?_);rw[EA,←aI,Bool.and_true]
instance {l:List aH}{p:Option Addr}{n c:Nat}{bs fs}[hg:lI fs p aH oJ l][hn:eu l n][hk:eS n 1000000]:cB prog 108 [.slice p n c] bs fs (.bool (EA l)):=⟨fun w m=>DB l p n c w hn.eq hk.le ((hg.of _ _ m.facts).less fun _ _ h=>h.elim)⟩
theorem Gz (xs ys:List aH)(p q:Option Addr)(c e:Nat)(w0:World)(hl:xs.length≤1000000)(hx:Fx w0 (av p xs))(hy:Fx w0 (av q ys)) :
  aT prog 132 [.slice p xs.length c,.slice q ys.length e] w0 (fun _=>False) fun v _=>v=.bool (decide (xs=ys)):=by
 refine E1 func132 rfl ntmps132 (Wd.begin (fs:=[av p xs,av q ys]) (by simp;exact ⟨hx,hy⟩)) ?_;intro a S;refine tI ?_;intro a S;refine kC S (fun h1=>?_) (fun h1=>?_);refine J7 ?_;intro a S;refine aD S (fun _=>?_);have:¬xs=ys:=fun h=>by rw[h]at h1;simp at h1
 rw[decide_eq_false this];refine kK (aQ (kS (kS ?_)));have hle:xs.length=ys.length:=by simp at h1;omega
 refine J7 ?_;intro a S;refine iH S (fun(k:Nat) uu=>[(4,uu 4),(0,uu 5),(7,.int .i64 (k:Nat)),(0,uu 14),(0,uu 15),(0,uu 16),(0,uu 17),(0,uu 18),(0,uu 19),(0,uu 20),(0,uu 21),(0,uu 22),(0,uu 23),(0,uu 24),(0,uu 25)]) (fun(k:Nat)=>k≤xs.length∧xs.take k=ys.take k) (fun(k:Nat)=>xs.length - k) (0) ?_ S.uu ?_ ?_;exact ⟨Nat.zero_le _,rfl⟩
 first | exact S | exact S.sub _ _
 clear S;rintro k uu a w ⟨hk,aI⟩ S;refine J6 ?_;intro a S;refine kC S (fun h4=>?_) (fun h4=>?_);refine kK (aQ (kS (kB (kS ?_))));have bn:k < xs.length:=by simp at h4;omega
 have hK:cx k xs.length:=⟨bn⟩;have Cq:cx k ys.length:=⟨by omega⟩;refine J6 ?_;intro a S;refine bM [T9 0,T9 1,T9 2,T9 3,T9 4,T9 5,T9 6,T9 7,T9 8] [] S ?_;intro w S;(iterate 9 (refine dq S ?_;intro a S));refine dn (aQ ?_);refine kC S (fun h6=>?_) (fun h6=>?_);refine gM ?_;intro a S;refine aD S (fun _=>?_);have:¬xs=ys:=fun h=>by subst h;simp at h6
 rw[decide_eq_false this];refine J8 ?_;intro a S;rw[w6 ((k:Int)+1)]at S;refine ⟨k+1,S.uu,⟨bn,?_⟩,S.sub _ _,by omega⟩;have he:aq xs k=aq ys k:=by simpa using h6
 rw[eC bn,eC (by omega),aI,he];refine gM ?_;intro a S;have bn:k=xs.length:=by simp at h4;omega
 rw[List.take_of_length_le (by omega),List.take_of_length_le (by omega)]at aI;refine aD S (fun _=>?_);rw[decide_eq_true aI]
section
variable {P:Program}{cs:List Bool}{ls:List Value}{bs:List Wk.Item}{fs:List (World→Prop)}{x y:Operand}{k:Nat}{kk:IntKind}{m:Int}{t ty:TypeId}{s:List UInt8}
instance (priority:=800) Oz [Ev ⟨cs,ls⟩ x (str s)][Ev ⟨cs,ls⟩ y (.int kk m)][dN P t .string][hm:ey m k][hk:K7 cs k s.length]:dO P (.index t x y) ty ⟨cs,ls⟩ bs fs (.int .u8 ((aq s k).toNat:Int)):=⟨fun ρ w h _=>by
 have h2:=hm.eq;subst h2;have hlt:=hk.lt h.1;have hsz:k < (⟨s.toArray⟩:ByteArray).size:=hlt;have hb:(⟨s.toArray⟩:ByteArray)[k]? = some (aq s k):=by
  rw[getElem?_pos (⟨s.toArray⟩:ByteArray) k hsz];have:(⟨s.toArray⟩:ByteArray)[k]=s[k]:=rfl;rw[this];have:=bu hlt;rw[List.getElem?_eq_getElem hlt]at this;exact this
 simp[cu,execOp,h.ev (x:=x) (v:=str s),h.ev (x:=y) (v:=.int kk (k:Int)),Instr.index,asIntOf,Sem.run_bind,cp,hb]⟩
end
theorem GA (s:List UInt8)(hl:s.length≤1000000)(w0:World):aT prog 191 [str s] w0 (fun _=>False) fun v _=>v=.bool (lu s):=by
 refine E1 func191 rfl ntmps191 (Wd.start w0) ?_;intro a S;refine jq ?_;intro a S;refine iH S (fun(i:Nat) uu=>[(2,uu 2),(0,.int .i64 (i:Nat)),(0,uu 4),(0,uu 5),(0,uu 6),(0,uu 7),(0,uu 8),(0,uu 9),(0,uu 10),(0,uu 11),(0,uu 12),(0,uu 13),(0,uu 14),(0,uu 15),(0,uu 16),(0,uu 17),(0,uu 18),(0,uu 19)]) (fun(i:Nat)=>i≤s.length∧∀ j,j < i→EE (aq s j)=true) (fun(i:Nat)=>s.length - i) (0) ?_ S.uu ?_ ?_;exact ⟨Nat.zero_le _,fun j hj=>by omega⟩
 first | exact S | exact S.sub _ _
 clear S;rintro i uu a w ⟨hi,aI⟩ S;refine J9 ?_;intro a S;refine kC S (fun h2=>?_) (fun h2=>?_);refine kK (aQ (kS (kB (kS ?_))));have hil:i < s.length:=by simp at h2;omega
 have hK:cx i s.length:=⟨hil⟩;have hb:=UInt8.toNat_lt (aq s i);refine rP ?_;intro a S;refine kC S (fun h4=>?_) (fun h4=>?_);refine gM ?_;intro a S;have Pn:EE (aq s i)=false:=by
  simp only[Bool.or_eq_true,decide_eq_true_eq]at h4;simp only[EE,Bool.and_eq_false_iff,decide_eq_false_iff_not];omega
 refine aD S (fun _=>?_);have:lu s=false:=by
  have hall:s.all EE=false:=List.all_eq_false.2 ⟨aq s i,bh hil,by rw[Pn];simp⟩;rw[lu,hall];rfl
 rw[this];refine J9 ?_;intro a S;rw[w6 ((i:Int)+1),show (i:Int)+1=((i+1:Nat):Int) from rfl]at S;refine ⟨i+1,S.uu,⟨hil,fun j hj=>?_⟩,S.sub _ _,by omega⟩;rcases Nat.lt_or_ge j i with h | h
 exact aI j h;obtain rfl:j=i:=by omega
 simp only[Bool.or_eq_false_iff,decide_eq_false_iff_not]at h4;simp only[EE,Bool.and_eq_true,decide_eq_true_eq];omega;refine OP ?_;intro a S;have hall:s.all EE=true:=by
  refine List.all_eq_true.2 fun x hx=>?_
  obtain ⟨j,hj,rfl⟩:=List.getElem_of_mem hx;have:=aI j (by simp at h2;omega)
  rwa [aq,List.getD_eq_getElem?_getD,List.getElem?_eq_getElem hj]at this
 refine aD S (fun _=>?_);rw[lu,hall,Bool.true_and]
 congr 1
 rw[Bool.eq_iff_iff];simp only[Bool.and_eq_true,decide_eq_true_eq];omega
instance {s:List UInt8}{bs fs}[h:eS s.length 1000000]:cB prog 191 [str s] bs fs (.bool (lu s)):=⟨fun w _=>GA s h.le w⟩
theorem GB (n:Int)(w:World):aT prog 192 [.int .i64 n] w (fun _=>False) fun v _=>v=.bool (bX n):=by
 refine E1 func192 rfl ntmps192 (Wd.start w) ?_;intro a S;refine D8 ?_;intro a S;exact aD S (fun _=>rfl)
instance {n:Int}{bs fs} : cB prog 192 [.int .i64 n] bs fs (.bool (bX n)):=⟨fun w _=>GB n w⟩
theorem JX (s:List UInt8)(hl:s.length≤1000000)(w0:World):aT prog 107 [str s] w0 (fun _=>False) fun v _=>v=.int .i64 (iT s):=by
 have hL:eS s.length 1000000:=⟨hl⟩;have hCf:K7 [!true] 0 s.length:=⟨fun h=>by simpa using h _ (List.mem_singleton.2 rfl)⟩;refine E1 func107 rfl ntmps107 (Wd.start w0) ?_;intro a S;refine CD ?_;intro a w S;refine gS S (fun hs S=>?_) (fun hs S=>?_);refine Hj S ?_;intro a S;(iterate 2 (refine Hj S ?_;intro a S));(iterate 2 (refine sq S ?_;intro a S));(iterate 2 (refine gQ S ?_;intro a S));have hb0:=UInt8.toNat_lt (aq s 0);refine J1 ?_;intro a S;rw[w6 _]at S;refine J1 ?_;intro a S;rw[w6 _]at S;refine Hi ?_;intro a w S;refine aD S (fun _=>?_);rw[iT,if_neg];rintro ⟨h1,h2,-⟩;rw[h1]at hs;simp at hs;omega;refine jr S ?_;refine sq S ?_;intro a S;refine jr S ?_;have h3:lu s=true∧3≤s.length:=by
  simp only[Bool.or_eq_false_iff,Bool.not_eq_false',decide_eq_false_iff_not]at hs;exact ⟨hs.1,by have:=hs.2;omega⟩
 have SQ:cx 1 s.length:=⟨by omega⟩;have Yj:cx 0 s.length:=⟨by omega⟩;have hb:=UInt8.toNat_lt (aq s 0);refine sq S ?_;intro a S;refine jr S ?_;(iterate 3 (refine sq S ?_;intro a S));(iterate 2 (refine gQ S ?_;intro a S));have hb0:=UInt8.toNat_lt (aq s 0);refine J1 ?_;intro a S;rw[w6 _]at S;refine J1 ?_;intro a S;rw[w6 _]at S;refine Y5 ?_;intro a w S;refine kC S (fun h1=>?_) (fun h1=>?_);refine J7 ?_;intro a S;refine aD S (fun _=>?_);rw[iT,if_neg];rintro ⟨-,-,h4,h5⟩;rw[h5]at h1;simp at h1;omega;refine J7 ?_;intro a S;rw[w6 _]at S;refine J1 ?_;intro a S;rw[w6 _]at S;refine J4 ?_;intro a S;refine aD S (fun _=>?_);simp only[Bool.or_eq_false_iff,Bool.not_eq_false',decide_eq_true_eq]at h1;rw[iT,if_pos ⟨h3.1,h3.2,by omega,h1.2⟩]
instance {s:List UInt8}{bs fs}[h:eS s.length 1000000]:cB prog 107 [str s] bs fs (.int .i64 (iT s)):=⟨fun w _=>JX s h.le w⟩
theorem GC {k e:Int}{bs:List UInt8}(h:gz k bs=.error e):e≠0:=by
 unfold gz at h;split at h;split at h;cases h;decide;split at h;cases h;decide;split at h;cases h;decide;cases h;cases h
theorem GD {k e:Int}{bs:List UInt8}(h:h_ k bs=.error e):e≠0:=by
 unfold h_ at h;split at h;split at h;cases h;decide;split at h;cases h;cases h;decide;cases h
theorem JY {k e:Int}{bs:List UInt8}(h:nG k bs=.error e):e≠0:=by
 unfold nG at h;split at h;split at h;cases h;decide;cases h;cases h
theorem ya {f:Nat→List UInt8→pn (Term × Nat × List UInt8)}(hf:∀ l b e,f l b=.error e→e≠0):∀ (k l:Nat) (b:List UInt8) (e:Int),e8 f k l b=.error e→e≠0
 | 0,l,b,e,h=>by rw[e8]at h;cases h
 | k+1,l,b,e,h=>by
  rw[e8]at h;split at h
  rename_i e' he
  cases h;exact hf _ _ _ he;split at h
  rename_i e' he
  cases h;exact ya hf _ _ _ _ he;cases h
theorem JZ:∀ (m left:Nat) (bs:List UInt8) (e:Int),iq m left bs=.error e→e≠0:=by
 intro m
 induction m with
 | zero=>
  intro left bs e h;cases bs with
  | nil=>rw[nX]at h;cases h;decide
  | cons c t=>rw[gV,if_pos (.inl rfl)]at h;cases h;decide
 | succ m ih=>
  intro left bs e h;cases bs with
  | nil=>rw[nX]at h;cases h;decide
  | cons c t=>
   rw[gV]at h;split at h
   ·cases h;decide
   ·rw[show m+1 - 1=m from rfl,o9]at h
    split at h
    ·rename_i h1;cases h;exact GC h1
    ·split at h
     ·rename_i h1;cases h;exact GD h1
     ·split at h
      ·rename_i h1;cases h;exact JY h1
      ·split at h
       ·rename_i h1;cases h;exact ya ih _ _ _ _ h1
       ·cases h
theorem DC (p2 p3 p4:Value)(w:World):CallsDIn (FW none) 0 prog 168 #[p2,p3,p4] .returning w fun e u' w'=>(∃ v,e=.returned v)∧u'=.returning∧aJ (fun _=>False) w w':=by
 refine qJ func168 rfl (l:=[p2,p3,p4,undef,undef,undef,undef,undef,undef,undef,undef,undef,undef,undef,undef,undef,undef,undef,undef,undef]) (args:=[p2,p3,p4]) rfl (Wd.start w) (.inl rfl) ?_;rintro x u' (⟨-,rfl,rfl⟩ | ⟨pv,h,-⟩) a S;refine J8 ?_;intro a S;exact ⟨.inl rfl,S.defers,.tuple #[],SW S,⟨_,rfl⟩,rfl,S.wd.agree⟩;cases h
theorem DD (g2 g3 g4:Nat)(x0 x1 x2 x3 x4 y z:Value)(e0:Int)(w0 w:World)(M0:Nat→Prop)(hw:Wd w0 M0 w [Wk.box g4 26 [z],Wk.box g3 3 [y],Wk.box g2 43 [x0,x1,x2,x3,x4]] []) :
  CallsDIn (FW none) 0 prog 168 #[.pointer (some ⟨g2,0,none⟩),.pointer (some ⟨g3,0,none⟩),.pointer (some ⟨g4,0,none⟩)] (.panicking (Hq (sj e0))) w fun e u' w'=>(∃ v,e=.returned v)∧u'=.panicking [{ v:=sj e0,recovered:=true }]∧
   Wd w0 M0 w' [Wk.box g4 26 [.int .i64 e0],Wk.box g3 3 [.int .i64 0],Wk.box g2 43 [.int .i64 0,.int .i64 0,.int .i64 0,.string ⟨#[]⟩,.slice none 0 0]] []:=by
 refine qJ func168 rfl (l:=[.pointer (some ⟨g2,0,none⟩),.pointer (some ⟨g3,0,none⟩),.pointer (some ⟨g4,0,none⟩),undef,undef,undef,undef,undef,undef,undef,undef,undef,undef,undef,undef,undef,undef,undef,undef,undef]) (args:=[.pointer (some ⟨g2,0,none⟩),.pointer (some ⟨g3,0,none⟩),.pointer (some ⟨g4,0,none⟩)]) rfl hw (.inr ⟨_,rfl⟩) ?_;rintro x u' (⟨h,-⟩ | ⟨pv,h,rfl,rfl⟩) a S;cases h;obtain rfl:x=sj e0:=by injection h with h;injection h with h _;injection h with h;exact h.symm
 refine ug ?_;intro a S;refine sa S ?_;intro b4 a w S;refine Y9 ?_;intro a w S;rw[show (!true)=false from rfl]at S;refine kN (aQ ?_);refine jS S ?_;refine kK (aQ ?_);refine bM [T9 0,T9 1,T9 2,F9 3,F9 4,F9 5] [g2,g3,g4] S ?_;intro w S;(iterate 3 (refine dq S ?_;intro a S));refine dl (sw S ?_);intro a w S;refine de S ?_;refine dl (sw S ?_);intro a w S;refine de S ?_;refine dl (sw S ?_);intro a w S;refine de S ?_;refine dn ?_;refine ⟨.inl rfl,S.defers,.tuple #[],SW S,⟨_,rfl⟩,rfl,?_⟩;exact (S.sub _ _).wd
theorem MU (b n c:Nat)(p:Option Addr)(why:Int)(w0:World)(hb:Fx w0 (az b 238 [.slice p n c,.int .i64 why])):aT prog 72 [.pointer (some ⟨b,0,none⟩)] w0 (fun _=>False) fun v _=>v=.int .i64 (n:Nat):=by
 refine E1 func72 rfl ntmps72 (Wd.begin (fs:=[az b 238 [.slice p n c,.int .i64 why]]) (by simpa using hb)) ?_;intro a S;refine mK ?_;intro a S;refine J7 ?_;intro a S;exact aD S (fun _=>rfl)
instance {b n c:Nat}{p:Option Addr}{why:Int}{bs fs}[hb:e9 bs b 238 [.slice p n c,.int .i64 why]]:cB prog 72 [.pointer (some ⟨b,0,none⟩)] bs fs (.int .i64 (n:Nat)):=⟨fun w m=>MU b n c p why w (az.aO m.box (fun h=>h))⟩
abbrev tu (b:Nat):Value:=.pointer (some ⟨b,0,none⟩)
abbrev Zz (b2 b3 b4:Nat):Deferred:={ target:=.fn (.func 168) ⟨[tu b2,tu b3,tu b4]⟩,args:=#[] }
abbrev MV:List Value:=[.int .i64 0,.int .i64 0,.int .i64 0,.string ⟨#[]⟩,.slice none 0 0]
theorem J0 {a:Act}{w0 w:World}{M0:Nat→Prop}{Rr:Ending→World→Prop}(b2 b3 b4:Nat)(x0 x1 x2 x3 x4 y z:Value)(e0:Int)(hd:a.defers=[Zz b2 b3 b4])(h2:a.tmps[2]? = some (tu b2))(h3:a.tmps[3]? = some (tu b3))(h4:a.tmps[4]? = some (tu b4))
  (hw:Wd w0 M0 w [Wk.box b4 26 [z],Wk.box b3 3 [y],Wk.box b2 43 [x0,x1,x2,x3,x4]] [])
  (hR:∀ w',aJ M0 w0 w'→Rr (.returned (.tuple ⟨[vL eO,.int .i64 0,.int .i64 e0]⟩)) w'):bodyPostDIn (FW none) 0 prog Tryz.f70 Rr (.panic (Hq (sj e0))) a w:=by
 refine HX (ca:=[tu b2,tu b3,tu b4]) hd (DD b2 b3 b4 x0 x1 x2 x3 x4 y z e0 w0 w M0 hw) fun w' hK=>⟨_,?_,hR w' hK.agree⟩
 have n2:pF a.tmps.toList 2 (tu b2):=⟨by simpa using h2⟩;have n3:pF a.tmps.toList 3 (tu b3):=⟨by simpa using h3⟩;have n4:pF a.tmps.toList 4 (tu b4):=⟨by simpa using h4⟩;exact SX (l:=a.tmps.toList) rfl hK.held
def Um (M:Nat→Prop)(bs:List UInt8)(v:Value)(w:World):Prop:=∃ (z:ak) (n e:Int),v=.tuple ⟨[vL z,.int .i64 n,.int .i64 e]⟩∧ag M w (dc z)∧
 ((∃ left rest,iq 60 1200 bs=.ok (z.t,left,rest)∧n=(bs.length:Int) - rest.length∧e=0)∨(iq 60 1200 bs=.error e∧z=eO∧e≠0))
theorem Qu (bs:List UInt8)(p:Option Addr)(n c:Nat)(M:Nat→Prop)(w0:World)(hn:bs.length=n)(hl:n≤10000000)(hM:∀ k,M k→k < w0.heap.size)(hf:ag M w0 (av p bs)) :
  aT prog 70 [.slice p n c] w0 (fun _=>False) fun v w'=>Um M bs v w':=by
 subst hn;refine CV func70 rfl rfl (Wd.fE (M:=M) (fs:=[av p bs]) hM (by simpa using hf)) (fun a S=>?_);refine E0 ntmps70 ?_;intro S;refine kS (kR ?_);refine sa S ?_;intro b2 a w S;refine sa S ?_;intro b3 a w S;refine sa S ?_;intro b4 a w S;refine J5 ?_;intro a S;refine td S (EL bs p bs.length c _ rfl hl (S.j9 p)) ?_;rintro _ a w - ⟨rd,p1,c1,rfl,hh,kV⟩ hS -;have S:=hS (both (bw rd ⟨p1,c1,bs,0⟩) (Wk.row 5 1 p1 bs.length c1 (aa bs))) hh kV;clear hS;replace S:=S.aP;have lR:=gm (S.row p1 bs.length);replace S:=(S.front (Wk.row 5 1 p1 bs.length c1 (aa bs))).bA p1 bs (e:=5) (sz:=1) (n:=bs.length) (c:=c1) (fun _ _ _ _=>trivial);refine J1 ?_;intro a S;refine sa S ?_;intro b9 a w S;refine sq S ?_;intro a S;refine kN (aQ (kS (kR (sq S ?_))));intro a S;refine X_ S ?_;intro a S;refine kN (aQ (kS (kR (sq S ?_))));intro a S;replace S:=((S.front (bw rd ⟨p1,c1,bs,0⟩)).front (Cw b9 rd 1200)).aL;refine Ow (xX b9 rd ((1200:Nat):Int) ⟨p1,c1,bs,0⟩) S (JC 61 60 b9 rd 1200 ⟨p1,c1,bs,0⟩ (c_ _ (xX b9 rd ((1200:Nat):Int) ⟨p1,c1,bs,0⟩)) w (by decide) (by decide) (by decide) rfl lR hl (S.dM _) (S.it (xX b9 rd ((1200:Nat):Int) ⟨p1,c1,bs,0⟩)) ((S.mem.fact (av p1 bs)).split (xX b9 rd ((1200:Nat):Int) ⟨p1,c1,bs,0⟩))) rfl (fun ch w' hx hS=>?_) ?_
 ·obtain ⟨e,rfl,he⟩:=hx
  have S:=hS (bs':=_);refine J0 b2 b3 b4 _ _ _ _ _ _ _ e S.defers (by rw[S.slots];rfl) (by rw[S.slots];rfl) (by rw[S.slots];rfl) (S.sub [Wk.box b4 26 [.int .i64 0],Wk.box b3 3 [.int .i64 0],Wk.box b2 43 MV] []).wd (fun w' ha=>⟨_,rfl,ha,eO,0,e,rfl,fun _ _=>eF _,.inr ⟨he,rfl,JZ _ _ _ _ he⟩⟩)
 clear S;rintro _ a w ⟨z,lf,r6,rfl,Qj,-,hw6,BA,Qk,hz⟩ hS;have S:=hS (xX b9 rd (lf:Nat) r6) [dc z] Qk (fun k h=>.inl h) (by simp only[List.mem_cons,List.not_mem_nil,or_false];rintro Φ rfl;exact hz);clear hS;replace S:=S.aP;refine Y4 ?_;intro a w S
 refine' qF (.q 1 (.q 2 (.q 3 (.q 4 (.q 5 (.q 6 (.b2 0 7 (.l 7 (.q 8 (.l 9 (.l 10 (.l 11 (.e)))))) (.q 8 (.l 0 (.l 9 (.l 10 (.l 11 (.e))))))))))))) [b2,b3,b4] S ?_ ?_
 rotate_left 3
 ·intro w S
  (iterate 6 (refine tq S ?_;intro a S));refine Hp ?_ ?_
  ·refine sq S ?_;intro a S;refine te S ?_;refine tl (sc S ?_);intro a w S;refine te S ?_;refine tq S ?_;intro a S
   rw[Ar ((bs.length:Int) - (r6.bs.length:Int)) (by have:=BA.len;have:r6.bs.length≤bs.length:=this;omega) (by omega)]at S;refine tl (sw S ?_);intro a w S;refine te S ?_;refine tl (sw S ?_);intro a w S;refine te S ?_;refine tl (sw S ?_);intro a w S;refine te S ?_;refine tn ?_;exact S
  ·refine sc S ?_;intro a w S;refine te S ?_;refine tq S ?_;intro a S
   rw[Ar ((bs.length:Int) - (r6.bs.length:Int)) (by have:=BA.len;have:r6.bs.length≤bs.length:=this;omega) (by omega)]at S;refine tl (sq S ?_);intro a S;refine te S ?_;refine tl (sw S ?_);intro a w S;refine te S ?_;refine tl (sw S ?_);intro a w S;refine te S ?_;refine tl (sw S ?_);intro a w S;refine te S ?_;refine tn ?_;exact S
 intro  a w S;refine aQ (kT ?_);have Qr:=S.CG (M:=M) z;refine HW S.defers (DC _ _ _ w) (fun w' bP=>⟨_,SX S.slots (S.wd.step bP).held,_,rfl,(S.wd.step bP).agree,z,(bs.length:Int) - (r6.bs.length:Int),0,rfl,?_,.inl ⟨lf,r6.bs,Qj,rfl,rfl⟩⟩);exact Qr.later (bP.mono fun _ _ h=>h.elim)
theorem Qv {bs:List UInt8}{p:Option Addr}{c lo k:Nat}{w:World}(h:av p bs w)(hc:bs.length≤c):av (if c=lo then p else p.map (·.add (lo*1))) ((bs.drop lo).take k) w:=(h.drop (sz:=1) lo hc).take k
def Un (M:Nat→Prop)(bs:List UInt8)(i m left:Nat)(v:Value)(w:World):Prop:=∃ (z:ak) (j k:Nat) (e:Int),v=.tuple ⟨[vL z,.int .i64 (j:Nat),.int .i64 (k:Nat),.int .i64 e]⟩∧Ox bs i m left z.t j k e∧ag M w (dc z)
set_option maxHeartbeats 4000000 in
theorem Qw (N:Nat):∀ (m left i:Nat) (bs:List UInt8) (p:Option Addr) (n c:Nat) (M:Nat→Prop) (w0:World),m < N→m≤60→left≤1200→bs.length=n→n≤10000000→n≤c→i≤n→(∀ k,M k→k < w0.heap.size)→ag M w0 (av p bs)→
  aT prog 83 [.slice p n c,.int .i64 (i:Nat),.int .i64 (left:Nat),.int .i64 (m:Nat)] w0 (fun _=>False) fun v w'=>Un M bs i m left v w':=by
 induction N with
 | zero=>intro m _ _ _ _ _ _ _ _ h;exact absurd h (Nat.not_lt_zero _)
 | succ N ih=>
 intro m left i bs p n c M w0 hmN hm hlf hn hl hc hi hM hf;subst hn;refine E1 func83 rfl ntmps83 (Wd.fE (M:=M) (fs:=[av p bs]) hM (by simpa using hf)) ?_;intro a S;refine kS (kR ?_);refine sa S ?_;intro b8 a w S;refine J8 ?_;intro a S;refine sa S ?_;intro wL a w S;refine uh ?_;intro a w S;refine kC S (fun h2=>?_) (fun h2=>?_)
 ·refine yA ?_;intro a w S
  have hil:bs.length≤i:=by simpa using h2
  refine wM S (fun _=>⟨Wk.eO,0,0,7,rfl,.inr ⟨?_,by decide,rfl,rfl,rfl⟩,fun _ _=>eF _⟩);rw[List.drop_of_length_le hil,nX]
 ·refine kK (aQ (kS ?_))
  have hil:i < bs.length:=by simpa using h2
  have hK:cx i bs.length:=⟨hil⟩;obtain ⟨kd,MI⟩:∃ kd,kd=(aq bs i).toNat:=⟨_,rfl⟩;have bn:kd < 256:=by rw[MI];exact UInt8.toNat_lt _
  obtain ⟨g1,g2,g3,g4,g5⟩:=By (kd:Int);refine J6 ?_;intro a S;rw[←MI,w6 (kd:Int)]at S;refine J1 ?_;intro a S;refine sa S ?_;intro kX a w S;refine sP ?_;intro a w S;refine kC S (fun h5=>?_) (fun h5=>?_)
  ·refine yA ?_;intro a w S
   refine wM S (fun _=>⟨Wk.eO,0,0,150,rfl,.inr ⟨?_,by decide,rfl,rfl,rfl⟩,fun _ _=>eF _⟩);rw[bE hil,gV,←MI,if_pos];simp only[Bool.or_eq_true,decide_eq_true_eq]at h5;rcases h5 with (h | h) | h
   ·exact .inr (.inl (g1.1 h))
   ·exact .inr (.inr (by omega))
   ·exact .inl (by omega)
  ·refine kK (aQ (kS ?_))
   simp only[Bool.or_eq_false_iff,decide_eq_false_iff_not]at h5;have ji:iq m left (bs.drop i)=o9 (iq (m - 1)) left (kd:Int) (bs.drop (i+1)):=by
    rw[bE hil,gV,←MI,if_neg];rintro (h | h | h)
    ·omega
    ·exact h5.1.1 (g1.2 h)
    ·omega
   have hkn:=g2 (by omega);refine J3 ?_;intro a S;rw[w6 ((i:Int)+1),show (i:Int)+1=((i+1:Nat):Int) from rfl]at S;refine J3 ?_;intro a S;refine lq S (fun(i2:Nat) (s:List UInt8) uu=>[(1,.int .i64 (i2:Nat)),(7,uu 9),(0,uu 10),(0,uu 11),(2,uu 14),(33,uu 48),(0,uu 49),(0,uu 50),(0,uu 51),(0,uu 52),(0,uu 53),(0,uu 54),(0,uu 55),(0,uu 56),(0,uu 57),(0,uu 58),(0,uu 59),(0,uu 60),(0,uu 61),(0,uu 62),(0,uu 63),(0,uu 64),(0,uu 65),(0,uu 66),(0,uu 67),(0,uu 68),(0,uu 69),(0,uu 70),(0,uu 71),(0,uu 72),(0,uu 73),(0,uu 74),(0,uu 75),(0,uu 76),(0,uu 77),(0,uu 78),(0,uu 79),(0,uu 80),(0,uu 81),(0,uu 82),(0,uu 83),(0,uu 84),(0,uu 85)]) (fun(i2:Nat) (s:List UInt8)=>[Wk.box kX 43 [.int .i64 kd,.int .i64 0,.int .i64 0,str s,.slice none 0 0],Wk.box wL 43 MV,Wk.box b8 43 MV,ext M]) (fun(i2:Nat) (s:List UInt8)=>[av p bs]) (fun(i2:Nat) (s:List UInt8)=>gz (kd:Int) (bs.drop (i+1))=.ok (s,bs.drop i2)∧i2≤bs.length) ?_ ?_
   ·refine J7 ?_;intro a S
    refine kC S (fun h8=>?_) (fun h8=>?_)
    ·refine kS (kS ?_)
     have kr:cm (fieldsOf (kd:Int)) 1=true:=by rw[g3];exact h8
     refine J7 ?_;intro a S;refine kC S (fun h9=>?_) (fun h9=>?_)
     ·refine uh ?_;intro a w S
      refine wM S (fun _=>⟨Wk.eO,0,0,7,rfl,.inr ⟨?_,by decide,rfl,rfl,rfl⟩,fun _ _=>eF _⟩);have:bs.length≤i+1:=by have:=of_decide_eq_true h9;omega
      rw[ji,List.drop_of_length_le this];exact kg (so kr)
     ·refine kK (aQ (kS ?_))
      have MW:i+1 < bs.length:=by have:=of_decide_eq_false h9;omega
      have Cq:cx (i+1) bs.length:=⟨MW⟩;obtain ⟨nn,sC⟩:∃ nn,nn=(aq bs (i+1)).toNat:=⟨_,rfl⟩;have xD:nn < 256:=by rw[sC];exact UInt8.toNat_lt _
      refine J6 ?_;intro a S;rw[←sC,w6 (nn:Int)]at S;refine mJ ?_;intro a S;refine kC S (fun h12=>?_) (fun h12=>?_)
      ·refine uh ?_;intro a w S
       refine wM S (fun _=>⟨Wk.eO,0,0,150,rfl,.inr ⟨?_,by decide,rfl,rfl,rfl⟩,fun _ _=>eF _⟩);rw[ji,bE MW];exact kg (qk kr (by have:=of_decide_eq_true h12;omega))
      ·refine J9 ?_;intro a S
       rw[Ar ((bs.length:Int) - ((i+1:Nat):Int)) (by omega) (by omega)]at S;refine J1 ?_;intro a S;rw[Ar ((bs.length:Int) - ((i+1:Nat):Int) - 1) (by omega) (by omega)]at S;refine J4 ?_;intro a S;refine kC S (fun GF=>?_) (fun GF=>?_)
       ·refine uh ?_;intro a w S
        refine wM S (fun _=>⟨Wk.eO,0,0,7,rfl,.inr ⟨?_,by decide,rfl,rfl,rfl⟩,fun _ _=>eF _⟩);rw[ji,bE MW];have ZA:=of_decide_eq_false h12;have hsh:=of_decide_eq_true GF;exact kg (od kr (by omega) (by rw[List.length_drop];omega))
       ·refine kK (aQ (kS ?_))
        have ZA:=of_decide_eq_false h12;have hsh:=of_decide_eq_false GF;have sR:eS (i+2+nn) c:=⟨by omega⟩;have K8:eS (i+2) (i+2+nn):=⟨by omega⟩;have TD:eu ((bs.drop (i+2)).take nn) (i+2+nn - (i+2)):=⟨by rw[List.length_take,List.length_drop];omega⟩;refine J4 ?_;intro a S;rw[Ar (((i+1:Nat):Int)+1) (by omega) (by omega),show ((i+1:Nat):Int)+1=((i+2:Nat):Int) from rfl]at S;refine J2 ?_;intro a S;rw[Ar (((i+1:Nat):Int)+1) (by omega) (by omega),show ((i+1:Nat):Int)+1=((i+2:Nat):Int) from rfl]at S;refine J2 ?_;intro a S;rw[Ar (((i+2:Nat):Int)+(nn:Int)) (by omega) (by omega),show ((i+2:Nat):Int)+(nn:Int)=((i+2+nn:Nat):Int) from by omega]at S;refine J1 ?_;intro a S;replace S:=S.add (Φ:=iE (if c=i+2 then p else p.map (·.add ((i+2)*1))) (aa ((bs.drop (i+2)).take nn))) ((S.mem.fact (av p bs)).imp fun _ h=>(Qv h hc).1);refine Y8 ?_;intro a w S;rw[Ar (((i+1:Nat):Int)+1) (by omega) (by omega),show ((i+1:Nat):Int)+1=((i+2:Nat):Int) from rfl]at S;refine J2 ?_;intro a S;rw[Ar (((i+2:Nat):Int)+(nn:Int)) (by omega) (by omega),show ((i+2:Nat):Int)+(nn:Int)=((i+2+nn:Nat):Int) from by omega]at S;refine J3 ?_;intro a S;refine ⟨i+2+nn,(bs.drop (i+2)).take nn,S.uu,⟨?_,by omega⟩,S.sub _ _⟩;rw[bE MW,rm kr (by omega) (by rw[List.length_drop];omega),←sC,List.drop_drop]
    ·refine kK (aQ ?_)
     have kr:cm (fieldsOf (kd:Int)) 1=false:=by rw[g3];exact h8
     exact ⟨i+1,[],S.uu,⟨m7 kr,by omega⟩,S.sub _ _⟩
   ·clear S;rintro i2 s uu a w ⟨JE,hi2⟩ S
    refine lq S (fun(i3:Nat) (u:Int) uu=>[(1,.int .i64 (i3:Nat)),(7,uu 9),(0,uu 10),(0,uu 11),(74,uu 86),(0,uu 87),(0,uu 88),(0,uu 89),(0,uu 90),(0,uu 91),(0,uu 92),(0,uu 93),(0,uu 94),(0,uu 95),(0,uu 96),(0,uu 97),(0,uu 98),(0,uu 99),(0,uu 100),(0,uu 101),(0,uu 102),(0,uu 103),(0,uu 104),(0,uu 105),(0,uu 106),(0,uu 107),(0,uu 108),(0,uu 109),(0,uu 110)]) (fun(i3:Nat) (u:Int)=>[Wk.box kX 43 [.int .i64 kd,.int .i64 u,.int .i64 0,str s,.slice none 0 0],Wk.box wL 43 MV,Wk.box b8 43 MV,ext M]) (fun(i3:Nat) (u:Int)=>[av p bs]) (fun(i3:Nat) (u:Int)=>h_ (kd:Int) (bs.drop i2)=.ok (u,bs.drop i3)∧i3≤bs.length) ?_ ?_
    ·refine Y7 ?_;intro a w S
     refine kC S (fun Qx=>?_) (fun Qx=>?_)
     ·refine kS (kS ?_)
      have iF:cm (fieldsOf (kd:Int)) 2=true:=by rw[g4];exact Qx
      refine J7 ?_;intro a S;refine kC S (fun PY=>?_) (fun PY=>?_)
      ·refine uh ?_;intro a w S
       refine wM S (fun _=>⟨Wk.eO,0,0,7,rfl,.inr ⟨?_,by decide,rfl,rfl,rfl⟩,fun _ _=>eF _⟩);have:bs.length≤i2:=by have:=of_decide_eq_true PY;omega
       rw[ji];refine oV JE ?_;rw[List.drop_of_length_le this];exact su iF
      ·refine kK (aQ (kS ?_))
       have Qy:i2 < bs.length:=by have:=of_decide_eq_false PY;omega
       have hK3:cx i2 bs.length:=⟨Qy⟩;obtain ⟨us,JF⟩:∃ us,us=(aq bs i2).toNat:=⟨_,rfl⟩;have hul:us < 256:=by rw[JF];exact UInt8.toNat_lt _
       refine J6 ?_;intro a S;rw[←JF,w6 (us:Int)]at S;refine CD ?_;intro a w S;refine kC S (fun Lb=>?_) (fun Lb=>?_)
       ·refine uh ?_;intro a w S
        refine wM S (fun _=>⟨Wk.eO,0,0,150,rfl,.inr ⟨?_,by decide,rfl,rfl,rfl⟩,fun _ _=>eF _⟩);rw[ji];refine oV JE ?_;rw[bE Qy];refine sx iF ?_;simp only[Bool.or_eq_true,decide_eq_true_eq]at Lb;omega
       ·refine J5 ?_;intro a S
        rw[w6 ((i2:Int)+1),show (i2:Int)+1=((i2+1:Nat):Int) from rfl]at S;refine J3 ?_;intro a S;simp only[Bool.or_eq_false_iff,decide_eq_false_iff_not]at Lb;refine ⟨i2+1,(us:Int),S.uu,⟨?_,by omega⟩,S.sub _ _⟩;rw[bE Qy,rq iF (by omega),←JF]
     ·refine kK (aQ ?_)
      have iF:cm (fieldsOf (kd:Int)) 2=false:=by rw[g4];exact Qx
      exact ⟨i2,0,S.uu,⟨m8 iF,hi2⟩,S.sub _ _⟩
    ·clear S;rintro i3 u uu a w ⟨JF,Qz⟩ S
     refine lq S (fun(i4:Nat) (nu:Int) uu=>[(1,.int .i64 (i4:Nat)),(7,uu 9),(0,uu 10),(0,uu 11),(99,uu 111),(0,uu 112),(0,uu 113),(0,uu 114),(0,uu 115),(0,uu 116),(0,uu 117),(0,uu 118),(0,uu 119),(0,uu 120),(0,uu 121),(0,uu 122),(0,uu 123),(0,uu 124),(0,uu 125),(0,uu 126),(0,uu 127),(0,uu 128),(0,uu 129),(0,uu 130),(0,uu 131),(0,uu 132),(0,uu 133),(0,uu 134),(0,uu 135)]) (fun(i4:Nat) (nu:Int)=>[Wk.box kX 43 [.int .i64 kd,.int .i64 u,.int .i64 nu,str s,.slice none 0 0],Wk.box wL 43 MV,Wk.box b8 43 MV,ext M]) (fun(i4:Nat) (nu:Int)=>[av p bs]) (fun(i4:Nat) (nu:Int)=>nG (kd:Int) (bs.drop i3)=.ok (nu,bs.drop i4)∧i4≤bs.length) ?_ ?_
     ·refine Y7 ?_;intro a w S
      refine kC S (fun ZB=>?_) (fun ZB=>?_)
      ·refine kS (kS ?_)
       have Ou:cm (fieldsOf (kd:Int)) 4=true:=by rw[g5];exact ZB
       refine J5 ?_;intro a S;rw[w6 ((bs.length:Int) - (i3:Nat))]at S;refine J3 ?_;intro a S;refine kC S (fun ZC=>?_) (fun ZC=>?_)
       ·refine uh ?_;intro a w S
        refine wM S (fun _=>⟨Wk.eO,0,0,7,rfl,.inr ⟨?_,by decide,rfl,rfl,rfl⟩,fun _ _=>eF _⟩);rw[ji];refine Bu JE JF (ru Ou ?_);have:=of_decide_eq_true ZC;rw[List.length_drop];omega
       ·refine kK (aQ (kS ?_))
        have hsh2:=of_decide_eq_false ZC;have ZD:i3+2≤bs.length:=by omega
        have hK4:cx i3 bs.length:=⟨by omega⟩;have hK5:cx (i3+1) bs.length:=⟨by omega⟩;obtain ⟨a1,ZE⟩:∃ a1,a1=(aq bs i3).toNat:=⟨_,rfl⟩;obtain ⟨a2,ZF⟩:∃ a2,a2=(aq bs (i3+1)).toNat:=⟨_,rfl⟩;have ha1l:a1 < 256:=by rw[ZE];exact UInt8.toNat_lt _
        have ha2l:a2 < 256:=by rw[ZF];exact UInt8.toNat_lt _
        refine bM [T9 0,T9 1,T9 2,T9 3,T9 4,T9 5,T9 6,T9 7,T9 8,T9 9,T9 10,T9 11,T9 12,T9 13,F9 14] [kX] S ?_;intro w S;refine J5 ?_;intro a S;rw[←ZE,w6 (a1:Int)]at S;refine J1 ?_;intro a S;rw[w6 ((a1:Int)*256)]at S;refine J3 ?_;intro a S;rw[w6 ((i3:Int)+1),show (i3:Int)+1=((i3+1:Nat):Int) from rfl]at S;refine J3 ?_;intro a S;rw[←ZF,w6 (a2:Int)]at S;refine J1 ?_;intro a S;rw[w6 ((a1:Int)*256+(a2:Int))]at S;refine dq S ?_;intro a S;refine dl (sw S ?_);intro a w S;refine de S ?_;refine dn (aQ (kR ?_));(iterate 2 (refine sq S ?_;intro a S));rw[w6 ((i3:Int)+2),show (i3:Int)+2=((i3+2:Nat):Int) from rfl]at S;refine J3 ?_;intro a S;refine ⟨i3+2,(a1:Int)*256+(a2:Int),S.uu,⟨?_,by omega⟩,S.sub _ _⟩;rw[tY Ou (by rw[List.length_drop];omega),List.drop_drop,JA ZD,T3,←ZE,←ZF]
        push_cast;rfl
      ·refine kK (aQ ?_)
       have Ou:cm (fieldsOf (kd:Int)) 4=false:=by rw[g5];exact ZB
       exact ⟨i3,0,S.uu,⟨oW Ou,Qz⟩,S.sub _ _⟩
     ·clear S;rintro i4 nu uu a w ⟨N_,hi4⟩ S
      refine jq ?_;intro a S;refine tO S (fun(k:Nat) (zs:List ak) (j5:Nat) (q:Nat) (p5:Option Addr) (c5:Nat) uu=>[(1,.int .i64 (j5:Nat)),(7,uu 9),(0,uu 10),(0,uu 11),(3,.int .i64 (q:Nat)),(0,.int .i64 (k:Nat)),(0,uu 17),(0,uu 18),(0,uu 19),(0,uu 20),(115,uu 136),(0,uu 137),(0,uu 138),(0,uu 139),(0,uu 140),(0,uu 141),(0,uu 142),(0,uu 143),(0,uu 144),(0,uu 145),(0,uu 146),(0,uu 147),(0,uu 148),(0,uu 149),(0,uu 150),(0,uu 151),(0,uu 152),(0,uu 153),(0,uu 154),(0,uu 155),(0,uu 156),(0,uu 157),(0,uu 158),(0,uu 159),(0,uu 160),(0,uu 161),(0,uu 162),(0,uu 163),(0,uu 164),(0,uu 165),(0,uu 166),(0,uu 167),(0,uu 168),(0,uu 169)]) (fun(k:Nat) (zs:List ak) (j5:Nat) (q:Nat) (p5:Option Addr) (c5:Nat)=>[Wk.box kX 43 [.int .i64 kd,.int .i64 u,.int .i64 nu,str s,.slice p5 k c5],Wk.row 43 5 p5 k c5 (aa zs),Wk.box wL 43 MV,Wk.box b8 43 MV,ext M]) (fun(k:Nat) (zs:List ak) (j5:Nat) (q:Nat) (p5:Option Addr) (c5:Nat)=>[dA zs,av p bs]) (fun(k:Nat) (zs:List ak) (j5:Nat) (q:Nat) (p5:Option Addr) (c5:Nat)=>k=zs.length∧k≤fL (kd:Int)∧(1≤q∧q≤left)∧j5≤bs.length∧e8 (iq (m - 1)) (fL (kd:Int)) (left - 1) (bs.drop i4)=w4 (zs.map ak.t) (e8 (iq (m - 1)) (fL (kd:Int) - k) (left - q) (bs.drop j5))) (fun(k:Nat) (zs:List ak) (j5:Nat) (q:Nat) (p5:Option Addr) (c5:Nat)=>fL (kd:Int) - k) (0) ([]) (i4) (1) (none) (0) ?_ S.uu ?_ ?_
      ·exact ⟨rfl,Nat.zero_le _,⟨Nat.le_refl _,by omega⟩,hi4,(Bt _).symm⟩
      ·replace S:=S.cP 43 5
       replace S:=S.add (Φ:=dA []) (fun _ _ _ hx=>by cases hx);rw[show Wk.row 43 5 none 0 0 []=Wk.row 43 5 none 0 0 (aa ([]:List ak)) from rfl]at S;exact S.front (Wk.box kX 43 [.int .i64 kd,.int .i64 u,.int .i64 nu,str s,.slice none 0 0])
      ·clear S;rintro k zs j5 q p5 c5 uu a w ⟨MK,hk,hq,Cm,aI⟩ S
       refine J6 ?_;intro a S;refine sr S (Ei (kd:Int) _) ?_;rintro _ a w rfl S;refine J3 ?_;intro a S;refine kC S (fun ZG=>?_) (fun ZG=>?_)
       ·refine kK (aQ (kS (kB (kS ?_))))
        have bn:k < fL (kd:Int):=by have:=of_decide_eq_true ZG;rw[hkn]at this;omega
        have hkN2:=(sA (kd:Int)).2;have hkk:fL (kd:Int) - k=(fL (kd:Int) - (k+1))+1:=by omega
        refine J6 ?_;intro a S;rw[w6 ((left:Int) - (q:Int)),show (left:Int) - (q:Int)=((left - q:Nat):Int) from by omega]at S;refine J2 ?_;intro a S;rw[w6 ((m:Int) - 1),show (m:Int) - 1=((m - 1:Nat):Int) from by omega]at S;refine sr S (ih (m - 1) (left - q) j5 bs p bs.length c _ w (by omega) (by omega) (by omega) rfl hl hc Cm (a_ S) (S.mem.fact (av p bs))) ?_;rintro _ a w ⟨z,jj,kk,e,rfl,hda,w5⟩ S;replace S:=S.add w5;refine J5 ?_;intro a S;refine sa S ?_;intro fz a w S;refine Hi ?_;intro a w S;refine kC S (fun ZH=>?_) (fun ZH=>?_)
        ·refine CD ?_;intro a w S
         have he:e≠0:=by simpa using ZH
         rcases hda with ⟨h0,-⟩ | ⟨Qj,-⟩
         ·exact absurd h0 he
         refine wM S (fun _=>⟨Wk.eO,0,0,e,rfl,.inr ⟨?_,he,rfl,rfl,rfl⟩,fun _ _=>eF _⟩);rw[ji];refine xZ JE JF N_ ?_;rw[aI,hkk];exact xY _ _ _ _ _ _ Qj
        ·refine kK (aQ (kS ?_))
         have he:e=0:=by simpa using ZH
         obtain ⟨-,Qj,hkq,hjj⟩:=hda.resolve_right (fun h=>h.2.1 he);have JI:ag _ _ (dA zs):=S.wd.facts (dA zs) (by simp);have JJ:=S.t z;replace S:=S.add (Φ:=dA (zs++[z])) (fun w' bP x hx=>by
          rcases List.mem_append.1 hx with h | h
          ·exact JI w' bP x h
          ·rw[List.mem_singleton.1 h];exact JJ w' bP)
         refine J4 ?_;intro a S;refine sn S ?_;intro b163 a w S;refine gA S (by simp[maxLen];omega) (by omega) ?_;rintro p7 c7 a w - S;rw[show aa zs++[Value.int .i64 z.kind,.int .i64 z.user,.int .i64 z.num,str z.text,.slice z.p z.kids.length z.cap]=aa (zs++[z]) from by rw[aC];rfl]at S;refine Li ?_;intro a w S;rw[w6 ((q:Int)+(kk:Int)),show (q:Int)+(kk:Int)=((q+kk:Nat):Int) from by omega]at S;refine J7 ?_;intro a S;rw[w6 ((k:Int)+1),show (k:Int)+1=((k+1:Nat):Int) from rfl]at S;refine J3 ?_;intro a S;replace S:=((S.front (Wk.row 43 5 p7 (k+1) c7 (aa (zs++[z])))).front (Wk.box kX 43 [.int .i64 kd,.int .i64 u,.int .i64 nu,str s,.slice p7 (k+1) c7]));refine ⟨k+1,zs++[z],jj,q+kk,p7,c7,S.uu,⟨by simp[MK],bn,⟨by omega,by omega⟩,hjj,?_⟩,S.sub _ _,by omega⟩;rw[aI,hkk,vJ _ _ _ _ _ z.t (left - q - kk) (bs.drop jj) Qj,List.map_append,Nat.sub_sub];rfl
       ·refine CD ?_;intro a w S
        have hk2:fL (kd:Int)=k:=by have:=of_decide_eq_false ZG;rw[hkn]at this;omega
        subst MK;have hrow:=S.row p5 zs.length;have hall:ag _ _ (dA zs):=S.wd.facts (dA zs) (by simp);have hap:∀ ad,p5=some ad→¬M ad.block:=fun ad had hm=>St.gj S (Wk.row 43 5 p5 zs.length c5 (aa zs)) (ext M) ad.block ⟨ad,had,rfl⟩ hm
        have vK:ag M _ (dA zs):=hall.less fun k _ hm=>⟨ext M,by simp,hm⟩
        have hls:=j8 hrow (fun x hx=>dA.get vK hx) hap;refine wM S (fun _=>⟨.mk kd u nu s p5 c5 zs,j5,q,0,rfl,.inl ⟨rfl,?_,hq.2,Cm⟩,fun w' bP=>?_⟩)
        ·rw[ji,ak.mN]
         refine zA JE JF N_ ?_;rw[aI,hk2,Nat.sub_self,e8,w4,List.append_nil];rfl
        ·exact f_.iff.2 ⟨gm hrow,mB hrow,hls w' bP⟩
class Wg (xs:List C9):Prop where
 all:∀ x∈xs,x.name.length≤9223372036854775807
theorem BG {t:Int}(h0:0≤t)(h1:t+1≤4294967295):mL t=t+1:=by rw[mL,wT _ (by omega) (by omega)]
theorem J_ {V:LV}{n:Nat}{t:Int}{said:List (List UInt8)}(h:Bn V n t said)(ht:t+1≤4294967295)(bs:List UInt8):gY V.x bs=if 40000 < bs.length then 3 else if n < bN bs.length then 6 else 0:=by
 obtain ⟨q1,q2,q3,q4,q5,q6⟩:=h;obtain ⟨s,n',au,ja,fin,broken⟩:=V;simp only at q1 q2 q3 q4 q5 q6;subst q1 q2 q3 q4 q5;obtain ⟨s',hs,tail,hL,-⟩:=q6;have Wh:=BG hL.ht.1 ht;have ht0:=hL.ht.1
 by_cases hb:40000 < bs.length
 have e1:jD (LV.x ⟨s,n',au,ja,bY au ja,false⟩) bs=3:=by rw[jD,if_pos hb]
 rw[if_pos hb,gY,if_neg (by rw[e1];decide),e1];have e1:jD (LV.x ⟨s,n',au,ja,bY au ja,false⟩) bs=0:=by rw[jD,if_neg hb];rfl
 rw[if_neg hb,gY,if_pos e1]
 show (if n' < bN bs.length∨mL au=0 then (6:Int) else 0)=_
 by_cases h6:n' < bN bs.length
 rw[if_pos (.inl h6),if_pos h6];rw[if_neg (by rintro (h | h);exact h6 h;omega),if_neg h6]
theorem zF {V:LV}{n:Nat}{t:Int}{said:List (List UInt8)}(h:vG V n t said)(ht:t+1≤4294967295)(bs:List UInt8)(hb:bs.length≤40000)(hr:bN bs.length≤n) :
  (jG V bs).2=0∧vG (jG V bs).1 n (t+1) [bs]:=by
 have hroom:=J_ h.ok ht bs;rw[if_neg (by omega),if_neg (by omega)]at hroom;obtain ⟨⟨q1,q2,q3,q4,q5,q6⟩,hl,ho⟩:=h;obtain ⟨s,n',au,ja,fin,broken⟩:=V;simp only at q1 q2 q3 q4 q5 q6 hl ho hroom;subst q1 q2 q3 q4 q5;obtain ⟨s',hsim,tail,hL,hfr⟩:=id q6;have Wh:=BG hL.ht.1 ht;obtain ⟨a1,a2,a3⟩:=(Jh hl bs hb hr ht).resolve_right (fun h=>by rw[ho]at h;cases h.1);unfold jG;rw[if_neg (fun h=>h hroom)]
 show ((if (eT n' (mL au) _ s).2=0 then _ else _):LV × Int).2=0∧_
 rw[Wh,if_pos a1];refine ⟨rfl,⟨⟨rfl,rfl,rfl,?_,rfl,a2.Jn (fun h=>by rw[a3 ho]at h;cases h)⟩,a2,a3 ho⟩⟩
 show bN bs.length=_
 rw[q_];simp
structure Went (V:LV × Int)(n:Nat)(t t':Int)(said ja:List (List UInt8)):Prop where
 yes:V.2=0→Bn V.1 n t' ja
 no:V.2≠0→V.1.broken=true∧∀ keep,vA (bp keep V.1.s) n t said∨vA (bp keep V.1.s) n t' ja
end Go.Proofs.YtdakncgafdnjfaaGreat
namespace Go.Wk
open Go
section
variable {P:Program}{ops:Array Oper}{C:Nat→World→Prop}{R:Act→World→Prop}
def OA (lv:Nat→Nat)(P:Program)(ops:Array Oper)(C:Nat→World→Prop)(R:Act→World→Prop):Nat→Array Bool→Act→World→Prop
 | 0,listed,a,w=>Region.ready .any ops listed=[]∧R a w
 | fuel+1,listed,a,w=>
  (Region.ready .any ops listed=[]→R a w)∧
  ∀ i∈Region.ready .any ops listed,WN P ops i (fun a' w'=>(∀ k,lv i≤k→C k w→C k w')∧OA lv P ops C R fuel (listed.setIfInBounds i true) a' w') a w
def j3 (ops:Array Oper)(listed:Array Bool):Prop:=∀ k ok,ops[k]? = some ok→listed.getD k false=true→∀ e∈ok.after,Region.binds .any e=true→listed.getD e.on false=true
theorem j3.set {listed:Array Bool}{j:Nat}(h:j3 ops listed)(hj:j∈Region.ready .any ops listed):j3 ops (listed.setIfInBounds j true):=by
 intro k ok hk hl e he hb;obtain ⟨-,oj,tJ,hall⟩:=mem_ready.1 hj
 by_cases hkj:j=k
 subst hkj;rw[hk]at tJ;obtain rfl:=Option.some.inj tJ;exact getD_set_true (hall e he hb);rw[getD_set_ne false hkj]at hl;exact getD_set_true (h k ok hk hl e he hb)
theorem MX {listed:Array Bool}{i:Nat}(h:listed.getD i true=false):¬listed.getD i false=true:=by
 rcases Nat.lt_or_ge i listed.size with h' | h'
 simp[h']at h⊢;exact h;simp[Array.getElem?_eq_none h']at h
theorem yb {lv:Nat→Nat}{k i:Nat}{oi:Oper}{v:Value}(hi:ops[i]? = some oi)(hsel:∀ (j:Nat) (o:Oper) cs b,ops[j]? = some o→o.op≠.select cs b) :
  (∀ j o listed,ops[j]? = some o→k < lv j→j≠i→j3 ops listed→(∀ e∈o.after,Region.binds .any e=true→listed.getD e.on false=true)→listed.getD i false=true)→∀ (fuel:Nat) (listed:Array Bool) (a:Act) (w:World),j3 ops listed→
   (∀ j oj,ops[j]? = some oj→j≠i→listed.getD j true=false→(∀ e∈oj.after,Region.binds .any e=true→e.on≠i)→oi.apart ops oj=true)→
   i∈Region.ready .any ops listed→dG P ops (C k) oi v a→C k w→
   OA lv P ops C R fuel (listed.setIfInBounds i true) (a.put oi.dst v) w→OA lv P ops C R (fuel+1) listed a w:=by
 intro hlv fuel
 induction fuel with
 | zero=>
  intro listed a w _ _ hr hy hS H;refine ⟨fun h=>(by rw[h]at hr;cases hr),fun j hj=>?_⟩
  by_cases hji:j=i
  ·subst hji;exact hy.wn hi hS ⟨fun _ _ h=>h,H⟩
  ·have:=ready_mono hj hji
   rw[H.1]at this;cases this
 | succ fuel ih=>
  intro listed a w pg hfree hr hy hS H;refine ⟨fun h=>(by rw[h]at hr;cases hr),fun j hj=>?_⟩
  by_cases hji:j=i
  ·subst hji;exact hy.wn hi hS ⟨fun _ _ h=>h,H⟩
  ·have h1:=H.2 j (ready_mono hj hji)
   obtain ⟨uk,oj,tJ,hall⟩:=mem_ready.1 hj;have Uo:=MX (mem_ready.1 hr).1;have hnot:∀ e∈oj.after,Region.binds .any e=true→e.on≠i:=fun e he hb heq=>Uo (heq▸hall e he hb)
   have hjl:lv j≤k:=Nat.le_of_not_lt fun e=>Uo (hlv j oj listed tJ e hji pg hall)
   have h2:=CF tJ (hfree j oj tJ hji uk hnot) (fun cs b=>hsel i oi cs b hi) (fun cs b=>hsel j oj cs b tJ) hy h1;have pQ:∀ k ok,ops[k]? = some ok→k≠i→(listed.setIfInBounds j true).getD k true=false→
     (∀ e∈ok.after,Region.binds .any e=true→e.on≠i)→oi.apart ops ok=true:=fun k ok hk hki hun hno=>by
    refine hfree k ok hk hki ?_ hno
    by_cases Hx:j=k
    ·subst Hx;exact uk
    ·rw[getD_set_ne true Hx]at hun;exact hun
   refine wpOpIn_mono (fun a' w' h3=>⟨h3.2.1,ih (listed.setIfInBounds j true) a' w' (pg.set hj) pQ (ready_mono hr (Ne.symm hji)) h3.1 (h3.2.1 k hjl hS) ?_⟩) h2;rw[Array.setIfInBounds_comm _ _ hji];exact h3.2.2
variable {r:Option Nat}{Q:Exit→Act→World→Prop}{w0:World}{M0:Nat→Prop}{ds:List Deferred}{a:Act}{w:World}{l l':List Value}{bs bs' b0 b1 b2 bk:List Item}{fs dz:List (World→Prop)}
 {d:Option Nat} {op:Op} {ty:TypeId} {pos:String} {af:Array Edge} {rest:List Oper} {v v' G:Value} {j g:Nat} {kZ:Bool} {cs:List Bool} {n:Nat} {listed:Array Bool}
def fH (w0:World)(M0:Nat→Prop)(b0 b1 b2:List Item)(fs:List (World→Prop)):Nat→World→Prop
 | 0,w=>Wd w0 M0 w b0 fs
 | 1,w=>Wd w0 M0 w b1 fs
 | _+2,w=>Wd w0 M0 w b2 fs
theorem oX [h1:dj b1 b0][h2:dj b2 b1]:∀ p q w,p≤q→fH w0 M0 b0 b1 b2 fs p w→fH w0 M0 b0 b1 b2 fs q w
 | 0,0,_,_,h=>h
 | 0,1,_,_,h=>Wd.sub h h1.sub (List.Sublist.refl _)
 | 0,_+2,_,_,h=>Wd.sub (Wd.sub h h1.sub (List.Sublist.refl _)) h2.sub (List.Sublist.refl _)
 | 1,1,_,_,h=>h
 | 1,_+2,_,_,h=>Wd.sub h h2.sub (List.Sublist.refl _)
 | _+2,_+2,_,_,h=>h
 | 1,0,_,hle,_=>absurd hle (by omega)
 | _+2,0,_,hle,_=>absurd hle (by omega)
 | _+2,1,_,hle,_=>absurd hle (by omega)
def yc (lv:List (Nat × Nat))(i:Nat):Nat:=(lv.getD i (0,i)).1
def MY (lv:List (Nat × Nat))(i:Nat):Nat:=(lv.getD i (0,i)).2
def Ka (ops:Array Oper)(lv:List (Nat × Nat)):Nat→Nat→Nat→Bool
 | 0,_,_=>false
 | f+1,j,i=>vr ops j i||(vr ops j (MY lv j)&&Ka ops lv f (MY lv j) i)
theorem vU {lv:List (Nat × Nat)}{listed:Array Bool}(hc:j3 ops listed):∀ (f j i:Nat) (oj:Oper),ops[j]? = some oj→(∀ e∈oj.after,Region.binds .any e=true→listed.getD e.on false=true)→Ka ops lv f j i=true→listed.getD i false=true
 | 0,_,_,_,_,_,h=>by cases h
 | f+1,j,i,oj,tJ,hall,h=>by
  rw[Ka,Bool.or_eq_true,Bool.and_eq_true]at h;rcases h with h | ⟨h1,h2⟩
  obtain ⟨e,he,hb,ho⟩:=(mZ h).2 oj tJ;exact ho▸hall e he hb;obtain ⟨e,he,hb,ho⟩:=(mZ h1).2 oj tJ;have hl:=hall e he hb;rw[ho]at hl;cases hp:ops[MY lv j]? with
  | none=>
   cases f with
   | zero=>cases h2
   | succ f=>
    rw[Ka,Bool.or_eq_true,Bool.and_eq_true]at h2;have hno:∀ x,vr ops (MY lv j) x=true→False:=fun x hx=>by
     rw[vr,hp]at hx;simp at hx
    rcases h2 with h2 | ⟨h2,-⟩
    exact (hno _ h2).elim;exact (hno _ h2).elim
  | some op=>exact vU hc f _ i op hp (hc _ op hp hl) h2
def zG (ops:Array Oper)(lv:List (Nat × Nat))(k i:Nat):Bool:=(List.range ops.size).all fun j=>Nat.beq j i||(Nat.ble (yc lv j) k||Ka ops lv ops.size j i)
theorem s4 {lv:List (Nat × Nat)}{k i:Nat}(h:zG ops lv k i=true):∀ j o listed,ops[j]? = some o→k < yc lv j→j≠i→j3 ops listed→(∀ e∈o.after,Region.binds .any e=true→listed.getD e.on false=true)→listed.getD i false=true:=by
 rw[zG]at h;refine fun j o listed ho hk hji hc hall=>?_
 have hj:j < ops.size:=(Array.getElem?_eq_some_iff.1 ho).1;have:=List.all_eq_true.1 h j (List.mem_range.2 hj);simp only[Bool.or_eq_true]at this;rcases this with h1 | h1 | h1
 exact absurd (Nat.eq_of_beq_eq_true h1) hji;exact absurd (Nat.le_of_ble_eq_true h1) (by omega);exact vU hc _ j i o ho hall h1
def yd (lv:List (Nat × Nat))(ops:Array Oper):List (Nat × Nat)→Array Bool→Bool
 | [],listed=>(Region.ready .any ops listed).isEmpty
 | (i,k)::ord,listed=>(if Nat.beq k 3 then (match Region.ready .any ops listed with | [j]=>Nat.beq j i | _=>false) else (((Region.ready .any ops listed).contains i&&Region.free .any ops listed i)&&zG ops lv k i))&&yd lv ops ord (listed.setIfInBounds i true)
def Cy (lv:List (Nat × Nat))(P:Program)(ops:Array Oper)(C:Nat→World→Prop)(R:Act→World→Prop)(ord:List (Nat × Nat))(a:Act)(w:World):Prop:=
 ∀ listed,j3 ops listed→Region.noSelect ops=true→yd lv ops ord listed=true→OA (yc lv) P ops C R ord.length listed a w
variable {ord:List (Nat × Nat)}{i:Nat}{lv:List (Nat × Nat)}
theorem Uq (k:Nat)(ZI:Nat.beq k 3=false)(hC:∀ w,C k w↔Wd w0 M0 w bk dz)(S:St w0 M0 ds a w l bs fs)[hb:dj bk bs][hf:dj dz fs][ho:jL ops i ⟨d,op,ty,pos,af,none⟩][hq:dO P op ty ⟨[],l⟩ bk dz v][hp:cZ l d v l']
  (K:∀ a,St w0 M0 ds a w l' bs fs→Cy lv P ops C R ord a w):Cy lv P ops C R ((i,k)::ord) a w:=by
 intro listed pg hs aS;simp only[yd,ZI,Bool.and_eq_true,Bool.false_eq_true,if_false]at aS;refine yb ho.eq (Region.noSelect_spec hs) (s4 aS.1.2) _ listed a w pg (Region.free_spec ho.eq aS.1.1.2) (by simpa using aS.1.1.1) (v:=v) (.inl ⟨rfl,fun w' bP=>?_⟩) ((hC w).2 (S.wd.sub hb.sub hf.sub)) (K _ S.put _ (pg.set (by simpa using aS.1.1.1)) hs aS.2);rw[gN];exact hq.run a.eval w' S.fr ((hC w').1 bP).mem
theorem GG (S:St w0 M0 ds a w l bs fs)[hb:dj b0 bs][hf:dj dz fs][ho:jL ops i ⟨d,op,ty,pos,af,none⟩][hq:dO P op ty ⟨[],l⟩ b0 dz v][hp:cZ l d v l']
  (K:∀ a,St w0 M0 ds a w l' bs fs→Cy lv P ops (fH w0 M0 b0 b1 b2 dz) R ord a w):Cy lv P ops (fH w0 M0 b0 b1 b2 dz) R ((i,0)::ord) a w:=
 Uq 0 rfl (fun _=>Iff.rfl) S K
theorem BH (S:St w0 M0 ds a w l bs fs)[hb:dj b1 bs][hf:dj dz fs][ho:jL ops i ⟨d,op,ty,pos,af,none⟩][hq:dO P op ty ⟨[],l⟩ b1 dz v][hp:cZ l d v l']
  (K:∀ a,St w0 M0 ds a w l' bs fs→Cy lv P ops (fH w0 M0 b0 b1 b2 dz) R ord a w):Cy lv P ops (fH w0 M0 b0 b1 b2 dz) R ((i,1)::ord) a w:=
 Uq 1 rfl (fun _=>Iff.rfl) S K
theorem Cz {o:Oper}[h1:dj b1 b0][h2:dj b2 b1][ho:jL ops i o](h:WL P none ops (fun e a' w'=>e=.normal∧fH w0 M0 b0 b1 b2 dz (yc lv i) w'∧Cy lv P ops (fH w0 M0 b0 b1 b2 dz) R ord a' w') [o] a w):Cy lv P ops (fH w0 M0 b0 b1 b2 dz) R ((i,3)::ord) a w:=by
 intro listed pg hs aS;simp only[yd,Bool.and_eq_true]at aS;have hr:Region.ready .any ops listed=[i]:=by
  have:=aS.1;simp only[show Nat.beq 3 3=true from rfl,if_true]at this;split at this
  rename_i k hk;rw[hk,Nat.eq_of_beq_eq_true this]
  cases this
 refine ⟨fun h0=>(by rw[h0]at hr;cases hr),fun k hk=>?_⟩;rw[hr]at hk;obtain rfl:k=i:=by simpa using hk
 exact wpOpIn_mono (fun a' w' h'=>⟨fun q hq _=>oX _ _ _ hq h'.1,h'.2 _ (pg.set (by rw[hr];exact List.mem_cons_self ..)) hs aS.2⟩) (uI h)
theorem BI [hb:dj b0 bs][hf:dj dz fs](S:St w0 M0 ds a w l bs fs)(h:Cy lv P ops (fH w0 M0 b0 b1 b2 dz) R ord a w)(hl:Nat.beq (yc lv i) 0=true:=by rfl):WL P none ops (fun e a' w'=>e=.normal∧fH w0 M0 b0 b1 b2 dz (yc lv i) w'∧Cy lv P ops (fH w0 M0 b0 b1 b2 dz) R ord a' w') [] a w:=
 kN ⟨rfl,by rw[Nat.eq_of_beq_eq_true hl];exact S.wd.sub hb.sub hf.sub,h⟩
theorem DE [hb:dj b1 bs][hf:dj dz fs](S:St w0 M0 ds a w l bs fs)(h:Cy lv P ops (fH w0 M0 b0 b1 b2 dz) R ord a w)(hl:Nat.beq (yc lv i) 1=true:=by rfl):WL P none ops (fun e a' w'=>e=.normal∧fH w0 M0 b0 b1 b2 dz (yc lv i) w'∧Cy lv P ops (fH w0 M0 b0 b1 b2 dz) R ord a' w') [] a w:=
 kN ⟨rfl,by rw[Nat.eq_of_beq_eq_true hl];exact S.wd.sub hb.sub hf.sub,h⟩
theorem ZJ [hb:dj b2 bs][hf:dj dz fs](S:St w0 M0 ds a w l bs fs)(h:Cy lv P ops (fH w0 M0 b0 b1 b2 dz) R ord a w)(hl:Nat.beq (yc lv i) 2=true:=by rfl):WL P none ops (fun e a' w'=>e=.normal∧fH w0 M0 b0 b1 b2 dz (yc lv i) w'∧Cy lv P ops (fH w0 M0 b0 b1 b2 dz) R ord a' w') [] a w:=
 kN ⟨rfl,by rw[Nat.eq_of_beq_eq_true hl];exact S.wd.sub hb.sub hf.sub,h⟩
theorem ZK (h:R a w):Cy lv P ops C R [] a w:=fun listed _ _ hf=>⟨by simpa [yd] using hf,h⟩
theorem qp {lv:Nat→Nat}(hd:∀ (i:Nat) o,ops[i]? = some o→cE o.op=false):∀ (fuel:Nat) (listed:Array Bool) (a:Act) (w:World),OA lv P ops C (fun a w=>Q .normal a w) fuel listed a w→wpAnyIn (FW r) 0 P .any ops Q fuel listed a w
 | 0,_,_,_,h=>h
 | fuel+1,_,_,_,h=>⟨h.1,fun i hi=>um hd (wpOpIn_mono (fun a' w' h'=>qp hd fuel _ a' w' h'.2) (h.2 i hi))⟩
theorem zH {id:Nat}{lo:List Oper}(lv:List (Nat × Nat))(ord:List (Nat × Nat))(b0 b1 b2:List Item)(S:St w0 M0 ds a w l bs fs)(h:∀ w,St w0 M0 ds a w l bs fs→Cy lv P lo.toArray (fH w0 M0 b0 b1 b2 fs) (fun a w=>Q .normal a w) ord a w)
  (hm:P.follows .mixedOrders=true:=by kernel_rfl) (hd:((lo.all fun o=>!cE o.op)&&(Nat.beq ord.length lo.length&&(Region.noSelect lo.toArray&&yd lv lo.toArray ord (Array.replicate lo.length false))))=true:=by kernel_rfl):Wp P r (.region id lo.toArray true) Q a w:=by
 simp only[Bool.and_eq_true]at hd;refine wpIn_region_any hm (qp (lv:=yc lv) (C:=fH w0 M0 b0 b1 b2 fs) (fun i o ho=>?_) _ _ _ _ ?_);have:=List.all_eq_true.1 hd.1 o (by
  rw[List.getElem?_toArray]at ho;exact List.mem_of_getElem? ho)
 simpa using this;have:=h { w with drawn:=w.drawn+1 } ⟨S.slots,S.defers,S.wd.step (aJ.drawn _ w _)⟩ (Array.replicate lo.length false) (fun k ok _ hl=>by simp[Array.getD]at hl) hd.2.2.1 hd.2.2.2;rw[Nat.eq_of_beq_eq_true hd.2.1]at this;simpa using this
end
end Go.Wk