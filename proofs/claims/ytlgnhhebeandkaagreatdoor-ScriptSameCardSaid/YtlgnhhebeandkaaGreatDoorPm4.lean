/- 4: a part of this claim's texts, joined: PlainDecC PlainDecD PlainScript PlainScriptB PlainScriptC PlainScriptE TermJ TermK TermL W14 W15 ConvB GuardR ScrA ScrB ScrC. -/
import Derived.Test.YtlgnhhebeandkaaGreatDoorPm3
import Derived.Lib.AtoiAll
import Derived.Lib.ItoaNum
import Derived.Lib.ConvBytes
import Derived.Lib.Builder
import Derived.Lib.UnsafeStr
namespace Go.Proofs.YtlgnhhebeandkaaGreatDoor
open Go Go.Wk
set_option synthInstance.maxSize 100000
set_option synthInstance.maxHeartbeats 400000
set_option maxRecDepth 100000
theorem fields_kind {k:Int}(h:fieldsOf k≠0):1≤k∧k≤8:=by
 unfold fieldsOf at h
 repeat (split at h;· omega)
 exact absurd rfl h
theorem u8_natD {n:Int}(h:0≤n∧n≤255):((Wk.u8 n).toNat:Int)=n:=by
 rw[←u8_wrap];unfold IntKind.wrap;simp only[IntKind.bits,IntKind.signed,Bool.false_and];simp;omega
theorem u8_lenD {l:Nat}(h:l≤255):(Wk.u8 (l:Int)).toNat=l:=by
 have:=u8_natD (n:=(l:Int)) (by omega);omega
theorem be2_numD {n:Int}(h:0≤n∧n≤65535):(numN (be 2 n) 0:Int)=n:=by
 have e:be 2 n=[Wk.u8 (n.fdiv (2 ^ 8)),Wk.u8 (n.fdiv (2 ^ 0))]:=rfl;have h1:n.fdiv (2 ^ 8)=n / 256:=by rw[Int.fdiv_eq_ediv_of_nonneg _ (by decide)];rfl
 have h0:n.fdiv (2 ^ 0)=n:=by rw[Int.fdiv_eq_ediv_of_nonneg _ (by decide)];simp
 have h3:=u8_natD (n:=n / 256) (by omega);have h4:((Wk.u8 n).toNat:Int)=n % 256:=by
  rw[←u8_wrap];unfold IntKind.wrap;simp only[IntKind.bits,IntKind.signed,Bool.false_and];simp
 rw[e,h1,h0];simp only[numN,List.foldl_cons,List.foldl_nil]
 push_cast
 rw[h3,h4];omega
structure PlainOk (k u n:Int)(s:List UInt8)(m:Nat):Prop where
 kind:fieldsOf k≠0
 kids:(m:Int)=kidsF (fieldsOf k)
 short:s.length≤64
 text:hasF (fieldsOf k) 1=false→s=[]
 user:hasF (fieldsOf k) 2=true→1≤u∧u≤6
 nouser:hasF (fieldsOf k) 2=false→u=0
 num:hasF (fieldsOf k) 4=true→0≤n∧n≤65535
 nonum:hasF (fieldsOf k) 4=false→n=0
theorem plain_ok {k u n:Int}{s:List UInt8}{m:Nat}(h:plainF k u n s m=true):PlainOk k u n s m:=by
 simp only[plainF,knownF,Bool.and_eq_true,Bool.or_eq_true,Bool.not_eq_true',decide_eq_true_eq,decide_eq_false_iff_not]at h;obtain ⟨⟨⟨⟨⟨h1,h2⟩,h3⟩,h4⟩,h5⟩,h6⟩:=h;refine ⟨h1,h2,by omega,fun e=>?_,fun e=>?_,fun e=>?_,fun e=>?_,fun e=>?_⟩;rcases h4 with h | h
 rw[e]at h;cases h;exact h;rcases h5 with h | h
 exact h.2;rw[e]at h;cases h.1;rcases h5 with h | h
 rw[e]at h;cases h.1;exact h.2;rcases h6 with h | h
 exact ⟨h.1.2,h.2⟩;rw[e]at h;cases h.1;rcases h6 with h | h
 rw[e]at h;cases h.1.1;exact h.2
theorem text_back {k u n:Int}{s:List UInt8}{m:Nat}(h:PlainOk k u n s m)(X:List UInt8):textD k (put1 k s++X)=.ok (s,X):=by
 cases hf:hasF (fieldsOf k) 1 with
 | false=>rw[put1,hf,h.text hf];exact textD_none hf
 | true=>
  have hs:=h.short;have hl:=u8_lenD (l:=s.length) (by omega);rw[put1,if_pos hf,qqE,textD_ok hf (by rw[hl];omega) (by rw[hl,List.length_append];omega),hl,List.take_left,List.drop_left]
theorem user_back {k u n:Int}{s:List UInt8}{m:Nat}(h:PlainOk k u n s m)(X:List UInt8):userD k (put2 k u++X)=.ok (u,X):=by
 cases hf:hasF (fieldsOf k) 2 with
 | false=>rw[put2,hf,h.nouser hf];exact userD_none hf
 | true=>
  have hu:=h.user hf;have hl:=u8_natD (n:=u) (by omega);rw[put2,if_pos hf,qqE,qqF,userD_ok hf (by omega),hl]
theorem num_back {k u n:Int}{s:List UInt8}{m:Nat}(h:PlainOk k u n s m)(X:List UInt8):numD k (put4 k n++X)=.ok (n,X):=by
 cases hf:hasF (fieldsOf k) 4 with
 | false=>rw[put4,hf,h.nonum hf];exact numD_none hf
 | true=>
  have hn:=h.num hf;have hw:IntKind.u16.wrap n=n:=by
   unfold IntKind.wrap;simp only[IntKind.bits,IntKind.signed,Bool.false_and];simp;omega
  have hl:(be 2 n).length=2:=by simp[be]
  rw[put4,if_pos hf,hw,numD_ok hf (by rw[List.length_append];omega),List.take_left' hl,List.drop_left' hl,be2_numD hn]
mutual
theorem dec_back:∀ (t:Term) (m:Nat) (left:Nat) (X:List UInt8),m≤60→(walkF t (61 - (m:Int)) (left:Int)).1=true→decT m left (bytesF t++X)=.ok (t,(walkF t (61 - (m:Int)) (left:Int)).2.toNat,X)
 | .mk k u n s ks,m,left,X=>by
  intro hm h;rw[walkF]at h⊢;split at h;cases h
  rename_i hc
  rw[if_neg hc];have hc':0 < left∧0 < m∧plainF k u n s ks.length=true:=by
   refine ⟨by omega,by omega,?_⟩;cases hp:plainF k u n s ks.length with
   | true=>rfl
   | false=>exact absurd (.inr (.inr hp)) hc
  obtain ⟨hl,hm0,hp⟩:=hc';have hok:=plain_ok hp;have hk:=fields_kind hok.kind;have hk8:=u8_natD (n:=k) (by omega);rw[bytesF,headF];simp only[List.append_assoc,qqE,qqF];rw[decT_cons,hk8,if_neg (by have:=hok.kind;omega)];have hkn:kidsN k=ks.length:=by
   have h1:=(kidsN_int k).1;have h2:=hok.kids;omega
  rw[show (61:Int) - (m:Int)+1=61 - ((m - 1:Nat):Int) from by omega,show (left:Int) - 1=((left - 1:Nat):Int) from by omega]at h⊢;refine decB_ok (text_back hok _) (user_back hok _) (num_back hok _) ?_;rw[hkn];exact decL_back ks (m - 1) (left - 1) X (by omega) h
theorem decL_back:∀ (ts:List Term) (m:Nat) (left:Nat) (X:List UInt8),m≤60→(walkLF ts (61 - (m:Int)) (left:Int)).1=true→kidsD (decT m) ts.length left (bytesLF ts++X)=.ok (ts,(walkLF ts (61 - (m:Int)) (left:Int)).2.toNat,X)
 | [],m,left,X=>by
  intro _ _;simp[kidsD,walkLF,bytesLF]
 | t::ts,m,left,X=>by
  intro hm h;rw[walkLF]at h⊢;split at h
  rename_i hc
  rw[if_pos hc];have h0:=walkF_ge t _ _ (by omega) hc;have e:(walkF t (61 - (m:Int)) (left:Int)).2=(((walkF t (61 - (m:Int)) (left:Int)).2.toNat:Nat):Int):=by omega
  rw[e]at h;have h1:=dec_back t m left (bytesLF ts++X) hm hc;have h2:=decL_back ts m _ X hm h;rw[bytesLF,List.append_assoc,qqA,kidsD,h1];simp only[h2];rw[←e];cases h
end
theorem dec_name {t:Term}(h:checkF t=0):∃ left,decT 60 1200 (nameF t)=.ok (t,left,[]):=by
 have hs:sizeF t≠0:=fun e=>by rw[checkF,if_pos e]at h;cases h
 have hw:(walkF t 1 1200).1=true:=by
  cases hw:(walkF t 1 1200).1 with
  | true=>rfl
  | false=>rw[sizeF,hw]at hs;simp at hs
 have:=dec_back t 60 1200 [] (Nat.le_refl _) hw;rw[List.append_nil]at this;rw[nameF,if_neg hs];exact ⟨_,this⟩
theorem numM2 (c d:UInt8):numN [c,d] 0=c.toNat*256+d.toNat:=by simp[numN];omega
theorem text_inv {k:Int}{bs s r:List UInt8}(h:textD k bs=.ok (s,r)):bs=put1 k s++r:=by
 cases hf:hasF (fieldsOf k) 1 with
 | false=>rw[textD_none hf]at h;cases h;rw[put1,hf];rfl
 | true=>
  match bs with
  | []=>rw[textD_nil hf]at h;cases h
  | c::bs=>
   by_cases h1:64 < c.toNat
   rw[textD_long hf h1]at h;cases h
   by_cases h2:bs.length < c.toNat
   rw[textD_short hf h1 h2]at h;cases h;rw[textD_ok hf h1 h2]at h;cases h;rw[put1,if_pos hf,List.length_take,Nat.min_eq_left (by omega),qqE,List.take_append_drop]
   congr 1
   rw[Wk.u8];refine UInt8.toNat.inj ?_;rw[UInt8.toNat_ofNat'];have:=UInt8.toNat_lt c;omega
theorem u8_back (c:UInt8):Wk.u8 ((c.toNat:Nat):Int)=c:=by
 rw[Wk.u8];refine UInt8.toNat.inj ?_;rw[UInt8.toNat_ofNat'];have:=UInt8.toNat_lt c;omega
theorem user_inv {k u:Int}{bs r:List UInt8}(h:userD k bs=.ok (u,r)):bs=put2 k u++r:=by
 cases hf:hasF (fieldsOf k) 2 with
 | false=>rw[userD_none hf]at h;cases h;rw[put2,hf];rfl
 | true=>
  match bs with
  | []=>rw[userD_nil hf]at h;cases h
  | c::bs=>
   by_cases h1:1≤c.toNat∧c.toNat≤6
   rw[userD_ok hf h1]at h;cases h;rw[put2,if_pos hf,u8_back];rfl;rw[userD_bad hf h1]at h;cases h
theorem be2_two (c d:UInt8):be 2 ((numN [c,d] 0:Nat):Int)=[c,d]:=by
 have e:∀ n:Int,be 2 n=[Wk.u8 (n.fdiv (2 ^ 8)),Wk.u8 (n.fdiv (2 ^ 0))]:=fun _=>rfl
 rw[e,numM2];have h1:=UInt8.toNat_lt c;have h2:=UInt8.toNat_lt d;have e1:((c.toNat*256+d.toNat:Nat):Int).fdiv (2 ^ 8)=((c.toNat:Nat):Int):=by
  rw[Int.fdiv_eq_ediv_of_nonneg _ (by decide)]
  show ((c.toNat*256+d.toNat:Nat):Int) / 256=_
  omega
 have e2:((c.toNat*256+d.toNat:Nat):Int).fdiv (2 ^ 0)=((c.toNat*256+d.toNat:Nat):Int):=by
  rw[Int.fdiv_eq_ediv_of_nonneg _ (by decide)]
  show ((c.toNat*256+d.toNat:Nat):Int) / 1=_
  omega
 rw[e1,e2,u8_back]
 congr 2
 rw[Wk.u8];refine UInt8.toNat.inj ?_;rw[UInt8.toNat_ofNat'];omega
theorem num_inv {k n:Int}{bs r:List UInt8}(h:numD k bs=.ok (n,r)):bs=put4 k n++r:=by
 cases hf:hasF (fieldsOf k) 4 with
 | false=>rw[numD_none hf]at h;cases h;rw[put4,hf];rfl
 | true=>
  match bs with
  | []=>rw[numD_bad hf (by simp)]at h;cases h
  | [c]=>rw[numD_bad hf (by simp)]at h;cases h
  | c::d::bs=>
   rw[numD_ok hf (by simp)]at h;cases h;have h1:=UInt8.toNat_lt c;have h2:=UInt8.toNat_lt d;rw[put4,if_pos hf]
   show c::d::bs=be 2 (IntKind.u16.wrap ((numN [c,d] 0:Nat):Int))++bs
   rw[wu16 _ (by rw[numM2];omega) (by rw[numM2];omega),be2_two];rfl
theorem kids_inv (f:Nat→List UInt8→DecE (Term × Nat × List UInt8))(hf:∀ left bs t l r,f left bs=.ok (t,l,r)→bs=bytesF t++r):∀ (j left:Nat) (bs:List UInt8) (ks:List Term) (l:Nat) (r:List UInt8),kidsD f j left bs=.ok (ks,l,r)→bs=bytesLF ks++r
 | 0,left,bs,ks,l,r,h=>by rw[kidsD]at h;cases h;rfl
 | j+1,left,bs,ks,l,r,h=>by
  rw[kidsD]at h;cases hx:f left bs with
  | error e=>rw[hx]at h;cases h
  | ok x=>
   obtain ⟨t,l1,b1⟩:=x;rw[hx]at h;simp only at h;cases hy:kidsD f j l1 b1 with
   | error e=>rw[hy]at h;cases h
   | ok y=>
    obtain ⟨ts,l2,b2⟩:=y;rw[hy]at h;cases h;rw[bytesLF,List.append_assoc,←kids_inv f hf j l1 b1 ts l r hy,←hf left bs t l1 b1 hx]
theorem dec_inv:∀ (m left:Nat) (bs:List UInt8) (t:Term) (l:Nat) (r:List UInt8),decT m left bs=.ok (t,l,r)→bs=bytesF t++r
 | m,_,[],_,_,_,h=>by rw[decT_nil]at h;cases h
 | 0,left,c::bs,t,l,r,h=>by rw[decT_cons,if_pos (.inl rfl)]at h;cases h
 | m+1,left,c::bs,t,l,r,h=>by
  rw[decT_cons]at h;split at h;cases h;rw[decB]at h;cases h1:textD (c.toNat:Int) bs with
  | error e=>rw[h1]at h;cases h
  | ok x1=>
   obtain ⟨s,b1⟩:=x1;rw[h1]at h;simp only at h;cases h2:userD (c.toNat:Int) b1 with
   | error e=>rw[h2]at h;cases h
   | ok x2=>
    obtain ⟨u,b2⟩:=x2;rw[h2]at h;simp only at h;cases h3:numD (c.toNat:Int) b2 with
    | error e=>rw[h3]at h;cases h
    | ok x3=>
     obtain ⟨n,b3⟩:=x3;rw[h3]at h;simp only at h;cases h4:kidsD (decT (m+1 - 1)) (kidsN (c.toNat:Int)) (left - 1) b3 with
     | error e=>rw[h4]at h;cases h
     | ok x4=>
      obtain ⟨ks,l4,b4⟩:=x4;rw[h4]at h;cases h;have h5:=kids_inv (decT (m+1 - 1)) (fun left bs t l r h=>dec_inv m left bs t l r h) _ _ _ _ _ _ h4;rw[bytesF,headF,u8_back,List.append_assoc,←h5];simp only[List.append_assoc];rw[←num_inv h3,←user_inv h2,←text_inv h1];rfl
structure PEv where
 kind:Int
 ok:Int
 ou:Int
 oname:List UInt8
 oo:Int
 og:Int
 ow:Bool
 body:Term
 name:List UInt8
 src:List UInt8
 term:Term
 user:Int
 node:Int
 num:Int
 keep:List Bool
abbrev zeroE:PEv:=⟨0,0,0,[],0,0,false,zeroT,[],[],zeroT,0,0,0,[]⟩
def numsE (x:PEv):List Int:=
 if x.kind=1 then [x.ok,x.ou,x.oo,x.og] else if x.kind=3 then [x.num] else if x.kind=4 then [x.user] else if x.kind=5 then [x.node,x.num] else if x.kind=6∨x.kind=7 then [x.node] else []
def spokenE (x:PEv):PEv:=
 if x.kind=1 then { zeroE with kind:=1,ok:=x.ok,ou:=x.ou,oo:=x.oo,og:=x.og,ow:=x.ow,oname:=x.oname,body:=x.body }
 else if x.kind=2 then { zeroE with kind:=2,name:=x.name,term:=x.term }
 else if x.kind=3 then { zeroE with kind:=3,name:=x.name,src:=x.src,num:=x.num }
 else if x.kind=4 then { zeroE with kind:=4,user:=x.user }
 else if x.kind=5 then { zeroE with kind:=5,node:=x.node,num:=x.num }
 else if x.kind=6 then { zeroE with kind:=6,node:=x.node,keep:=x.keep }
 else if x.kind=7 then { zeroE with kind:=7,node:=x.node }
 else { zeroE with kind:=x.kind }
def sameE (a b:PEv):Bool:=
 (decide (a.ok=b.ok)&&decide (a.ou=b.ou)&&decide (a.oname=b.oname)&&decide (a.oo=b.oo)&&decide (a.og=b.og)&&decide (a.ow=b.ow)&&sameF a.body b.body)&&
 (decide (a.kind=b.kind)&&decide (a.name=b.name)&&decide (a.src=b.src)&&decide (a.user=b.user)&&decide (a.node=b.node)&&decide (a.num=b.num))&&sameF a.term b.term&&decide (a.keep=b.keep)
theorem sameE_iff {a b:PEv} : sameE a b=true↔a=b:=by
 rw[show a=⟨a.kind,a.ok,a.ou,a.oname,a.oo,a.og,a.ow,a.body,a.name,a.src,a.term,a.user,a.node,a.num,a.keep⟩ from rfl,show b=⟨b.kind,b.ok,b.ou,b.oname,b.oo,b.og,b.ow,b.body,b.name,b.src,b.term,b.user,b.node,b.num,b.keep⟩ from rfl];simp only[sameE,Bool.and_eq_true,decide_eq_true_eq,sameF_iff,PEv.mk.injEq];constructor;rintro ⟨⟨⟨⟨⟨⟨⟨⟨⟨a1,a2⟩,a3⟩,a4⟩,a5⟩,a6⟩,a7⟩,⟨⟨⟨⟨⟨b1,b2⟩,b3⟩,b4⟩,b5⟩,b6⟩⟩,c1⟩,c2⟩;exact ⟨b1,a1,a2,a3,a4,a5,a6,a7,b2,b3,c1,b4,b5,b6,c2⟩;rintro ⟨b1,a1,a2,a3,a4,a5,a6,a7,b2,b3,c1,b4,b5,b6,c2⟩;exact ⟨⟨⟨⟨⟨⟨⟨⟨⟨a1,a2⟩,a3⟩,a4⟩,a5⟩,a6⟩,a7⟩,⟨⟨⟨⟨⟨b1,b2⟩,b3⟩,b4⟩,b5⟩,b6⟩⟩,c1⟩,c2⟩
instance:DecidableEq PEv:=fun _ _=>decidable_of_iff _ sameE_iff
def badT (t:Term):Bool:=!sameF t zeroT&&!decide (checkF t=0)
def wrongV (x:PEv):Bool:=
 (decide (x.kind < 1)||decide (7 < x.kind)||decide (2048 < x.keep.length))||(decide (64 < x.name.length)||decide (64 < x.src.length)||decide (64 < x.oname.length))||badT x.term||badT x.body||!sameE x (spokenE x)
def checkE (l:List PEv):Bool:=decide (l.length≤300)&&!(l.any wrongV)
def dig16 (n:Nat):UInt8:=if n < 10 then UInt8.ofNat (48+n) else UInt8.ofNat (87+n)
def hexB (c:UInt8):List UInt8:=[dig16 (c.toNat / 16),dig16 (c.toNat % 16)]
def quoteC (c:UInt8):List UInt8:=if c=34∨c=92 then [92,c] else if c.toNat < 32∨126 < c.toNat then 92::120::hexB c else [c]
def quoteE (s:List UInt8):List UInt8:=34::(s.flatMap quoteC++[34])
def encT (t:Term):List UInt8:=if checkF t=0 then (nameF t).flatMap hexB else [45]
def bitB (b:Bool):UInt8:=if b then 49 else 48
def bitsE (l:List Bool):List UInt8:=61::l.map bitB
abbrev wDo:List UInt8:=[100,111]
abbrev wPut:List UInt8:=[112,117,116]
abbrev wBring:List UInt8:=[98,114,105,110,103]
abbrev wCorrupt:List UInt8:=[99,111,114,114,117,112,116]
abbrev wArm:List UInt8:=[97,114,109]
abbrev wCrash:List UInt8:=[99,114,97,115,104]
abbrev wOpen:List UInt8:=[111,112,101,110]
abbrev wWorld:List UInt8:=[119,111,114,108,100]
def wordsE:List (List UInt8):=[[],wDo,wPut,wBring,wCorrupt,wArm,wCrash,wOpen]
def wordE (k:Int):List UInt8:=wordsE.getD k.toNat []
def partsE (x:PEv):List (List UInt8):=
 (numsE x).map Lib.itoa++(if x.kind=1 then [Lib.itoa (if x.ow then 1 else 0),quoteE x.oname,encT x.body] else if x.kind=2 then [quoteE x.name,encT x.term] else if x.kind=3 then [quoteE x.name,quoteE x.src] else if x.kind=6 then [bitsE x.keep] else [])
def lineB (x:PEv):List UInt8:=wordE x.kind++(partsE x).flatMap (fun p=>32::p)
def lineE (x:PEv):List UInt8:=lineB x++[10]
def headE (area:Int):List UInt8:=wWorld++32::Lib.itoa area
def printF (area:Int)(l:List PEv):List UInt8:=headE area++[10]++l.flatMap lineE
def cutB (c:UInt8):List UInt8→List UInt8 × Option (List UInt8)
 | []=>([],none)
 | x::xs=>if x=c then ([],some xs) else (x::(cutB c xs).1,(cutB c xs).2)
theorem cutB_none {c:UInt8} : ∀ {l s:List UInt8},cutB c l=(s,none)↔l=s∧c ∉ s
 | [],s=>by
  simp only[cutB,Prod.mk.injEq,and_true];exact ⟨fun h=>by subst h;simp,fun h=>h.1⟩
 | x::xs,s=>by
  rw[cutB];split
  rename_i h;subst h
  simp only[Prod.mk.injEq,reduceCtorEq,and_false,false_iff];rintro ⟨rfl,h⟩;simp at h
  rename_i h
  have ih:=@cutB_none c xs (cutB c xs).1;simp only[Prod.mk.injEq];constructor;rintro ⟨rfl,h2⟩;obtain ⟨h3,h4⟩:=ih.1 (Prod.ext rfl h2);exact ⟨by rw[←h3],by simp only[List.mem_cons,not_or];exact ⟨fun e=>h e.symm,h4⟩⟩;rintro ⟨rfl,h3⟩;simp only[List.mem_cons,not_or]at h3;have:=(@cutB_none c xs xs).2 ⟨rfl,h3.2⟩;rw[this];exact ⟨rfl,rfl⟩
theorem cutB_some {c:UInt8} : ∀ {l s r:List UInt8},cutB c l=(s,some r)↔l=s++c::r∧c ∉ s
 | [],s,r=>by simp[cutB]
 | x::xs,s,r=>by
  rw[cutB];split
  rename_i h;subst h
  simp only[Prod.mk.injEq,Option.some.injEq];constructor;rintro ⟨rfl,rfl⟩;exact ⟨rfl,by simp⟩;rintro ⟨h1,h2⟩;cases s with
  | nil=>simp at h1;exact ⟨rfl,h1⟩
  | cons y ys=>simp at h1;exact absurd (by rw[h1.1];simp) h2
  rename_i h
  simp only[Prod.mk.injEq];constructor;rintro ⟨rfl,h2⟩;obtain ⟨h3,h4⟩:=(@cutB_some c xs (cutB c xs).1 r).1 (Prod.ext rfl h2);exact ⟨by rw[qqE,←h3],by simp only[List.mem_cons,not_or];exact ⟨fun e=>h e.symm,h4⟩⟩;rintro ⟨h1,h3⟩;cases s with
  | nil=>simp at h1;exact absurd h1.1 h
  | cons y ys=>
   simp only[qqE,List.cons.injEq]at h1;simp only[List.mem_cons,not_or]at h3;have:=(@cutB_some c xs ys r).2 ⟨h1.2,h3.2⟩;rw[this,h1.1];exact ⟨rfl,rfl⟩
def tailE (r:List UInt8):List UInt8:=if r=[] then [] else 32::r
abbrev PA (α:Type):=List UInt8→Option (α × List UInt8)
def blankP:PA (List UInt8):=fun l=>match cutB 32 l with
 | (s,none)=>some (s,[])
 | (s,some r)=>if r=[] then none else some (s,r)
theorem blankP_iff {l s r:List UInt8} : blankP l=some (s,r)↔l=s++tailE r∧(32:UInt8) ∉ s:=by
 unfold blankP
 match h:cutB 32 l with
 | (s',none)=>
  obtain ⟨h1,h2⟩:=cutB_none.1 h;simp only[Option.some.injEq,Prod.mk.injEq];constructor;rintro ⟨rfl,rfl⟩;exact ⟨by simp[tailE,h1],h2⟩;rintro ⟨h3,h4⟩
  by_cases hr:r=[]
  subst hr;simp[tailE]at h3;exact ⟨by rw[←h1,h3],rfl⟩;rw[tailE,if_neg hr]at h3;exact absurd (by rw[←h1,h3];simp) h2
 | (s',some r')=>
  obtain ⟨h1,h2⟩:=cutB_some.1 h
  by_cases hr:r'=[]
  subst hr;simp only[if_pos];refine ⟨nofun,fun ⟨h3,h4⟩=>?_⟩
  by_cases hr2:r=[]
  subst hr2;simp[tailE]at h3;exact absurd (by rw[←h3,h1];simp) h4;rw[tailE,if_neg hr2]at h3;have h5:=(cutB_some (c:=32) (l:=l) (s:=s) (r:=r)).2 ⟨h3,h4⟩;rw[h]at h5;simp only[Prod.mk.injEq,Option.some.injEq]at h5;exact absurd h5.2.symm hr2;simp only[if_neg hr,Option.some.injEq,Prod.mk.injEq];constructor;rintro ⟨rfl,rfl⟩;exact ⟨by rw[tailE,if_neg hr,h1],h2⟩;rintro ⟨h3,h4⟩
  by_cases hr2:r=[]
  subst hr2;simp[tailE]at h3;exact absurd (by rw[←h3,h1];simp) h4;rw[tailE,if_neg hr2]at h3;have h5:=(cutB_some (c:=32) (l:=l) (s:=s) (r:=r)).2 ⟨h3,h4⟩;rw[h]at h5;simp only[Prod.mk.injEq,Option.some.injEq]at h5;exact h5
def okN:Lib.NumEnd Int→Option Int
 | .ok v=>some v
 | _=>none
def numV (s:List UInt8):Option Int:=match okN (Lib.atoiAll s) with
 | some n=>if Lib.itoa n=s then some n else none
 | none=>none
def N64 (n:Int):Prop:=-9223372036854775808≤n∧n≤9223372036854775807
theorem parse_decS:∀ (N u:Nat) (r:List UInt8),u≤N→u < 18446744073709551616→Lib.parseUint10 0 (Lib.decDigits u++r)=Lib.parseUint10 u r:=by
 intro N
 induction N with
 | zero=>
  intro u r hu _;obtain rfl:u=0:=by omega
  rw[Lib.decDigits,dif_pos (by omega)]
  show Lib.parseUint10 0 (UInt8.ofNat 48::r)=_
  rw[Lib.parseUint10];rfl
 | succ N ih=>
  intro u r hu hb;have hd:∀ d:Nat,d < 10→(UInt8.ofNat (48+d)).toNat=48+d:=fun d hd=>by rw[UInt8.toNat_ofNat_of_lt' (by show 48+d < 256;omega)]
  rw[Lib.decDigits];split
  ·rename_i h
   show Lib.parseUint10 0 (UInt8.ofNat (48+u)::r)=_
   rw[Lib.parseUint10,hd u h,if_pos (by omega),if_neg (by omega),if_neg (by omega)]
   congr 1;omega
  ·rename_i h
   rw[List.append_assoc,ih (u / 10) _ (by omega) (by omega)]
   show Lib.parseUint10 (u / 10) (UInt8.ofNat (48+u % 10)::r)=_
   rw[Lib.parseUint10,hd (u % 10) (by omega),if_pos (by omega),if_neg (by omega),if_neg (by omega)]
   congr 1;omega
theorem dec_digS:∀ (N u:Nat),u≤N→(∃ c r,Lib.decDigits u=c::r)∧∀ x∈Lib.decDigits u,48≤x.toNat∧x.toNat≤57:=by
 intro N
 induction N with
 | zero=>
  intro u hu;obtain rfl:u=0:=by omega
  rw[Lib.decDigits,dif_pos (by omega)];exact ⟨⟨_,_,rfl⟩,by decide⟩
 | succ N ih=>
  intro u hu;have hd:∀ d:Nat,d < 10→(UInt8.ofNat (48+d)).toNat=48+d:=fun d hd=>by rw[UInt8.toNat_ofNat_of_lt' (by show 48+d < 256;omega)]
  rw[Lib.decDigits];split
  ·rename_i h
   refine ⟨⟨_,_,rfl⟩,fun x hx=>?_⟩;rw[List.mem_singleton.1 hx,hd u h];omega
  ·rename_i h
   obtain ⟨⟨c,r,h1⟩,h2⟩:=ih (u / 10) (by omega);refine ⟨⟨c,r++[UInt8.ofNat (48+u % 10)],by rw[h1];rfl⟩,fun x hx=>?_⟩;rcases List.mem_append.1 hx with hx | hx
   ·exact h2 x hx
   ·rw[List.mem_singleton.1 hx,hd _ (by omega)];omega
theorem mag_dec {u:Nat}(hu:u < 18446744073709551616):Lib.parseMag (Lib.decDigits u)=.ok u:=by
 obtain ⟨⟨c,r,h1⟩,-⟩:=dec_digS u u (Nat.le_refl _);have hp:=parse_decS u u [] (Nat.le_refl _) hu;rw[List.append_nil,Lib.parseUint10]at hp;rw[Lib.parseMag,if_neg (by rw[h1];simp),hp]
theorem atoi_all {n:Int}(h:N64 n):Lib.atoiAll (Lib.itoa n)=.ok n:=by
 obtain ⟨h1,h2⟩:=h
 by_cases hn:n < 0
 have e:Lib.itoa n=45::Lib.decDigits n.natAbs:=by rw[Lib.itoa,if_pos hn]
 have hm:=mag_dec (u:=n.natAbs) (by omega);have hb:¬9223372036854775808 < n.natAbs:=by omega
 rw[e];simp only[Lib.atoiAll,show (45:UInt8).toNat=45 from rfl,or_true,if_true,hm,not_true_eq_false,false_and,if_false,true_and,hb]
 congr 1;omega
 have e:Lib.itoa n=Lib.decDigits n.toNat:=by rw[Lib.itoa,if_neg hn]
 obtain ⟨⟨c,r,h3⟩,h4⟩:=dec_digS n.toNat n.toNat (Nat.le_refl _);have h5:=h4 c (by rw[h3];simp);have hm:=mag_dec (u:=n.toNat) (by omega);rw[h3]at hm;have hc:¬(c.toNat=43∨c.toNat=45):=by omega
 have hc2:¬c.toNat=45:=by omega
 have hc1:¬c.toNat=43:=by omega
 have hb:¬9223372036854775808≤n.toNat:=by omega
 rw[e,h3];simp only[Lib.atoiAll,hc1,hc2,or_self,if_false,hm,not_false_eq_true,true_and,false_and,hb]
 congr 1;omega
theorem itoa_blank (n:Int):(32:UInt8) ∉ Lib.itoa n∧(10:UInt8) ∉ Lib.itoa n∧Lib.itoa n≠[]:=by
 obtain ⟨⟨c,r,h3⟩,h4⟩:=dec_digS n.natAbs n.natAbs (Nat.le_refl _);obtain ⟨⟨c',r',h3'⟩,h4'⟩:=dec_digS n.toNat n.toNat (Nat.le_refl _);rw[Lib.itoa];split;refine ⟨fun h=>?_,fun h=>?_,by simp⟩;rcases List.mem_cons.1 h with h | h
 cases h;have:=(h4 _ h).1;simp at this;rcases List.mem_cons.1 h with h | h
 cases h;have:=(h4 _ h).1;simp at this;refine ⟨fun h=>?_,fun h=>?_,by rw[h3'];simp⟩;have:=(h4' _ h).1;simp at this;have:=(h4' _ h).1;simp at this
theorem atoi_i64 {s:List UInt8}{n:Int}(h:okN (Lib.atoiAll s)=some n):N64 n:=by
 unfold Lib.atoiAll at h;cases s with
 | nil=>cases h
 | cons c r=>
  simp only at h;split at h;cases h;cases h
  rename_i u hu
  have hl:=Lib.parseMag_lt hu;split at h;cases h;split at h;cases h;simp only[okN,Option.some.injEq]at h;split at h <;> unfold N64 <;> omega
theorem numV_iff {s:List UInt8}{n:Int} : numV s=some n↔s=Lib.itoa n∧N64 n:=by
 unfold numV;constructor;intro h;split at h
 rename_i m hm
 split at h
 rename_i he
 cases h;exact ⟨he.symm,atoi_i64 hm⟩;cases h;cases h;rintro ⟨rfl,h⟩;rw[atoi_all h];simp[okN]
def numberP:PA Int:=fun l=>match blankP l with
 | some (s,r)=>(numV s).map fun n=>(n,r)
 | none=>none
theorem numberP_iff {l r:List UInt8}{n:Int} : numberP l=some (n,r)↔l=Lib.itoa n++tailE r∧N64 n:=by
 unfold numberP;constructor;intro h
 match hb:blankP l with
 | none=>rw[hb]at h;cases h
 | some (s,r')=>
  rw[hb]at h;simp only[Option.map_eq_some_iff,Prod.mk.injEq]at h;obtain ⟨m,h1,rfl,rfl⟩:=h;obtain ⟨h2,h3⟩:=numV_iff.1 h1;rw[(blankP_iff.1 hb).1,h2];exact ⟨rfl,h3⟩
 rintro ⟨rfl,h⟩;rw[blankP_iff.2 ⟨rfl,(itoa_blank n).1⟩];simp only[numV_iff.2 ⟨rfl,h⟩,Option.map_some]
def unhexC (c:UInt8):Option Nat:=if 48≤c.toNat∧c.toNat≤57 then some (c.toNat - 48) else if 97≤c.toNat∧c.toNat≤102 then some (c.toNat - 87) else none
theorem u8_of {a:UInt8}{n:Nat}(h:a.toNat=n):a=UInt8.ofNat n:=by rw[←h];simp
theorem dig_nat {n:Nat}(h:n < 16):(dig16 n).toNat=if n < 10 then 48+n else 87+n:=by
 unfold dig16;split;rw[UInt8.toNat_ofNat_of_lt' (by show 48+n < 256;omega)];rw[UInt8.toNat_ofNat_of_lt' (by show 87+n < 256;omega)]
theorem unhexC_iff {c:UInt8}{n:Nat} : unhexC c=some n↔n < 16∧c=dig16 n:=by
 unfold unhexC;constructor;intro h;split at h
 rename_i h1
 cases h;refine ⟨by omega,?_⟩;rw[dig16,if_pos (by omega)];exact u8_of (by omega);split at h;cases h;refine ⟨by omega,?_⟩;rw[dig16,if_neg (by omega)];exact u8_of (by omega);cases h;rintro ⟨h,rfl⟩;rw[dig_nat h]
 by_cases h1:n < 10
 rw[if_pos h1,if_pos (by omega)];congr 1;omega;rw[if_neg h1,if_neg (by omega),if_pos (by omega)];congr 1;omega
theorem hex_byte {x y:Nat}(hx:x < 16)(hy:y < 16):hexB (UInt8.ofNat (16*x+y))=[dig16 x,dig16 y]:=by
 unfold hexB;rw[UInt8.toNat_ofNat_of_lt' (by show 16*x+y < 256;omega),show (16*x+y) / 16=x from by omega,show (16*x+y) % 16=y from by omega]
theorem byte_hex (c:UInt8):unhexC (dig16 (c.toNat / 16))=some (c.toNat / 16)∧unhexC (dig16 (c.toNat % 16))=some (c.toNat % 16)∧UInt8.ofNat (16*(c.toNat / 16)+c.toNat % 16)=c:=by
 have hc:c.toNat < 256:=c.toNat_lt;refine ⟨unhexC_iff.2 ⟨by omega,rfl⟩,unhexC_iff.2 ⟨by omega,rfl⟩,?_⟩;rw[show 16*(c.toNat / 16)+c.toNat % 16=c.toNat from by omega];simp
def unhex:List UInt8→Option (List UInt8)
 | []=>some []
 | [_]=>none
 | a::b::r=>match unhexC a,unhexC b with
  | some x,some y=>(unhex r).map fun l=>UInt8.ofNat (16*x+y)::l
  | _,_=>none
theorem unhex_iff:∀ {s b:List UInt8},unhex s=some b↔s=b.flatMap hexB
 | [],b=>by
  rw[unhex];constructor;intro h;cases h;rfl;intro h;cases b with
  | nil=>rfl
  | cons c b=>simp[hexB]at h
 | [a],b=>by
  rw[unhex];refine ⟨nofun,fun h=>?_⟩;cases b with
  | nil=>cases h
  | cons c b=>simp[hexB]at h
 | a::a2::r,b=>by
  rw[unhex];constructor;intro h
  match h1:unhexC a,h2:unhexC a2 with
  | some x,some y=>
   rw[h1,h2]at h;simp only[Option.map_eq_some_iff]at h;obtain ⟨l,h3,rfl⟩:=h;obtain ⟨k1,rfl⟩:=unhexC_iff.1 h1;obtain ⟨k2,rfl⟩:=unhexC_iff.1 h2;rw[List.flatMap_cons,hex_byte k1 k2,←unhex_iff.1 h3];rfl
  | none,_=>rw[h1]at h;cases h
  | some x,none=>rw[h1,h2]at h;cases h
  intro h;cases b with
  | nil=>cases h
  | cons c b=>
   rw[List.flatMap_cons,hexB]at h;simp only[qqE,qqF,List.cons.injEq]at h;obtain ⟨rfl,rfl,h3⟩:=h;obtain ⟨q1,q2,q3⟩:=byte_hex c;rw[q1,q2,unhex_iff.2 h3];simp only[Option.map_some,q3]
def scanN:List UInt8→Option (List UInt8 × List UInt8)
 | []=>none
 | c::r=>
  if c=34 then some ([],r)
  else if c=92 then
   match r with
   | []=>none
   | d::r2=>
    if d=120 then
     match r2 with
     | a::b::r3=>match unhexC a,unhexC b with
      | some x,some y=>(scanN r3).map fun p=>(UInt8.ofNat (16*x+y)::p.1,p.2)
      | _,_=>none
     | _=>none
    else (scanN r2).map fun p=>(d::p.1,p.2)
  else (scanN r).map fun p=>(c::p.1,p.2)
theorem scanN_cons (c:UInt8)(r:List UInt8):scanN (c::r)=if c=34 then some ([],r)
  else if c=92 then
   match r with
   | []=>none
   | d::r2=>
    if d=120 then
     match r2 with
     | a::b::r3=>match unhexC a,unhexC b with
      | some x,some y=>(scanN r3).map fun p=>(UInt8.ofNat (16*x+y)::p.1,p.2)
      | _,_=>none
     | _=>none
    else (scanN r2).map fun p=>(d::p.1,p.2)
  else (scanN r).map fun p=>(c::p.1,p.2):=by rw[scanN.eq_def]
theorem scan_quote (r:List UInt8):∀ s:List UInt8,scanN (s.flatMap quoteC++34::r)=some (s,r)
 | []=>by rw[List.flatMap_nil,qqF,scanN_cons,if_pos rfl]
 | c::s=>by
  have ih:=scan_quote r s;rw[List.flatMap_cons,List.append_assoc,quoteC]
  by_cases h1:c=34∨c=92
  rw[if_pos h1,qqE,qqE,qqF,scanN_cons,if_neg (by decide),if_pos rfl];have h2:¬c=120:=by rcases h1 with rfl | rfl <;> decide
  simp only[if_neg h2,ih,Option.map_some];rw[if_neg h1]
  by_cases h2:c.toNat < 32∨126 < c.toNat
  obtain ⟨q1,q2,q3⟩:=byte_hex c;rw[if_pos h2,hexB,qqE,qqE,qqE,qqE,qqF,scanN_cons,if_neg (by decide),if_pos rfl];simp only[if_pos,q1,q2,ih,Option.map_some,q3];rw[if_neg h2,qqE,qqF,scanN_cons,if_neg (fun h=>h1 (.inl h)),if_neg (fun h=>h1 (.inr h)),ih];rfl
def nameP:PA (List UInt8)
 | []=>none
 | c::s=>if c=34 then (match scanN s with
   | some (b,r)=>if c::s=quoteE b++r then (match r with
    | []=>some (b,[])
    | d::r2=>if d=32∧r2≠[] then some (b,r2) else none) else none
   | none=>none) else none
theorem nameP_iff {l b r:List UInt8} : nameP l=some (b,r)↔l=quoteE b++tailE r:=by
 cases l with
 | nil=>simp[nameP,quoteE]
 | cons c s=>
  rw[nameP];constructor;intro h;split at h;split at h
  rename_i b2 r2 hs
  split at h
  rename_i he
  split at h;cases h;rw[he];rfl
  rename_i d r3
  split at h
  rename_i hd
  cases h;rw[he,tailE,if_neg hd.2,hd.1];cases h;cases h;cases h;cases h;intro h;have h1:c=34∧s=b.flatMap quoteC++34::tailE r:=by
   rw[quoteE]at h;simp only[qqE,List.append_assoc,qqF,List.cons.injEq]at h;exact h
  obtain ⟨rfl,rfl⟩:=h1;rw[if_pos rfl,scan_quote];simp only[h,if_true]
  by_cases hr:r=[]
  subst hr;simp[tailE];have ht:tailE r=32::r:=by rw[tailE,if_neg hr]
  rw[ht];simp only[true_and,if_pos hr,ne_eq]
def termV (s:List UInt8):Option Term:=if s=[45] then some zeroT else match unhex s with
 | none=>none
 | some b=>match decT 60 1200 b with
  | .ok (t,_,r)=>if r=[] then some t else none
  | .error _=>none
theorem check_zeroT:checkF zeroT≠0:=by decide
theorem termV_sound {s:List UInt8}{t:Term}(h:termV s=some t)(hb:badT t=false):s=encT t:=by
 unfold termV at h;split at h
 rename_i h1
 cases h;rw[h1,encT,if_neg check_zeroT];split at h;cases h
 rename_i b hu
 split at h
 rename_i t2 l2 r2 hd
 split at h
 rename_i hr
 cases h;subst hr;have h2:=dec_inv _ _ _ _ _ _ hd;rw[List.append_nil]at h2;have hz:t≠zeroT:=by
  rintro rfl;rw[h2]at hd;exact absurd hd (by
   intro h3;rw[show bytesF zeroT=[0] from rfl,decT_cons,if_pos (.inr (.inl rfl))]at h3;cases h3)
 have hc:checkF t=0:=by
  simp only[badT,Bool.and_eq_false_iff,Bool.not_eq_false',sameF_iff,decide_eq_true_eq]at hb;exact hb.resolve_left hz
 rw[encT,if_pos hc,nameF,if_neg (good_check.1 hc),←h2];exact unhex_iff.1 hu;cases h;cases h
theorem hex_len (l:List UInt8):(l.flatMap hexB).length=2*l.length:=by
 induction l with
 | nil=>rfl
 | cons c l ih=>rw[List.flatMap_cons,List.length_append,ih];simp[hexB];omega
theorem termV_complete {t:Term}(hb:badT t=false):termV (encT t)=some t:=by
 by_cases hc:checkF t=0
 obtain ⟨left,hd⟩:=dec_name hc;rw[encT,if_pos hc,termV,if_neg (fun h=>by have:=congrArg List.length h;rw[hex_len]at this;simp at this;omega),unhex_iff.2 rfl];simp only[hd,if_true];have hz:t=zeroT:=by
  simp only[badT,Bool.and_eq_false_iff,Bool.not_eq_false',sameF_iff,decide_eq_true_eq]at hb;exact hb.resolve_right hc
 rw[encT,if_neg hc,termV,if_pos rfl,hz]
theorem dig_ok {n:Nat}(h:n < 16):dig16 n≠32∧dig16 n≠10:=by
 have:=dig_nat h;constructor;intro e;rw[e]at this;split at this <;> simp at this <;> omega
 intro e;rw[e]at this;split at this <;> simp at this <;> omega
theorem hex_ok (l:List UInt8):(32:UInt8) ∉ l.flatMap hexB∧(10:UInt8) ∉ l.flatMap hexB:=by
 have h:∀ x∈l.flatMap hexB,x≠32∧x≠10:=fun x hx=>by
  obtain ⟨c,-,hc⟩:=List.mem_flatMap.1 hx;have hl:=c.toNat_lt;simp only[hexB,List.mem_cons,List.not_mem_nil,or_false]at hc;rcases hc with rfl | rfl
  exact dig_ok (by omega);exact dig_ok (by omega)
 exact ⟨fun hx=>(h _ hx).1 rfl,fun hx=>(h _ hx).2 rfl⟩
theorem encT_ok (t:Term):(32:UInt8) ∉ encT t∧(10:UInt8) ∉ encT t∧encT t≠[]:=by
 unfold encT;split
 rename_i hc
 refine ⟨(hex_ok _).1,(hex_ok _).2,fun h=>?_⟩;have h1:=congrArg List.length h;rw[hex_len]at h1;obtain ⟨left,hd⟩:=dec_name hc;have h2:nameF t=[]:=List.length_eq_zero_iff.1 (by simp only[qqB]at h1;omega);rw[h2,decT_nil]at hd;cases hd;exact ⟨by decide,by decide,by simp⟩
theorem quoteE_ok (s:List UInt8):(10:UInt8) ∉ quoteE s∧quoteE s≠[]:=by
 refine ⟨fun h=>?_,by simp[quoteE]⟩;rw[quoteE]at h;simp only[List.mem_cons,List.mem_append,List.not_mem_nil,or_false]at h;rcases h with h | h | h
 cases h;obtain ⟨c,-,hc⟩:=List.mem_flatMap.1 h;have hl:=c.toNat_lt;rw[quoteC]at hc;split at hc
 rename_i h1
 simp only[List.mem_cons,List.not_mem_nil,or_false]at hc;rcases hc with hc | rfl
 cases hc;rcases h1 with h1 | h1 <;> cases h1
 split at hc;simp only[hexB,List.mem_cons,List.not_mem_nil,or_false]at hc;rcases hc with hc | hc | hc | hc
 cases hc;cases hc;exact (dig_ok (by omega)).2 hc.symm;exact (dig_ok (by omega)).2 hc.symm
 rename_i h2
 rw[←List.mem_singleton.1 hc]at h2;exact h2 (.inl (by decide));cases h
def termP:PA Term:=fun l=>match blankP l with
 | some (s,r)=>(termV s).map fun t=>(t,r)
 | none=>none
theorem termP_sound {l r:List UInt8}{t:Term}(h:termP l=some (t,r))(hb:badT t=false):l=encT t++tailE r:=by
 unfold termP at h
 match hl:blankP l with
 | none=>rw[hl]at h;cases h
 | some (s,r2)=>
  rw[hl]at h;simp only[Option.map_eq_some_iff,Prod.mk.injEq]at h;obtain ⟨t2,h1,rfl,rfl⟩:=h;rw[(blankP_iff.1 hl).1,termV_sound h1 hb]
theorem termP_complete {t:Term}(hb:badT t=false)(r:List UInt8):termP (encT t++tailE r)=some (t,r):=by
 rw[termP,blankP_iff.2 ⟨rfl,(encT_ok t).1⟩];simp only[termV_complete hb,Option.map_some]
def allBits:List UInt8→Option (List Bool)
 | []=>some []
 | c::r=>if c=48∨c=49 then (allBits r).map fun l=>decide (c=49)::l else none
theorem allBits_iff:∀ {s:List UInt8} {k:List Bool},allBits s=some k↔s=k.map bitB
 | [],k=>by
  rw[allBits];constructor;intro h;cases h;rfl;intro h;cases k with
  | nil=>rfl
  | cons _ _=>cases h
 | c::r,k=>by
  rw[allBits];constructor;intro h;split at h
  rename_i hc
  simp only[Option.map_eq_some_iff]at h;obtain ⟨l,h1,rfl⟩:=h;rw[allBits_iff.1 h1];rcases hc with rfl | rfl <;> rfl
  cases h;intro h;cases k with
  | nil=>cases h
  | cons b k=>
   simp only[List.map_cons,List.cons.injEq]at h;obtain ⟨rfl,h2⟩:=h;rw[if_pos (by cases b <;> decide),allBits_iff.2 h2];cases b <;> rfl
def bitsV:List UInt8→Option (List Bool)
 | []=>none
 | c::s=>if c=61 then allBits s else none
theorem bitsV_iff {s:List UInt8}{k:List Bool} : bitsV s=some k↔s=bitsE k:=by
 cases s with
 | nil=>simp[bitsV,bitsE]
 | cons c s=>
  rw[bitsV,bitsE];constructor;intro h;split at h
  rename_i hc;rw[hc,allBits_iff.1 h]
  cases h;intro h;simp only[List.cons.injEq]at h;rw[if_pos h.1,allBits_iff.2 h.2]
theorem bitsE_ok (k:List Bool):(32:UInt8) ∉ bitsE k∧(10:UInt8) ∉ bitsE k∧bitsE k≠[]:=by
 have h:∀ x∈bitsE k,x≠32∧x≠10:=fun x hx=>by
  rcases List.mem_cons.1 hx with rfl | hx
  decide
  obtain ⟨b,-,rfl⟩:=List.mem_map.1 hx;cases b <;> decide
 exact ⟨fun hx=>(h _ hx).1 rfl,fun hx=>(h _ hx).2 rfl,by simp[bitsE]⟩
def bitsP:PA (List Bool):=fun l=>match blankP l with
 | some (s,r)=>(bitsV s).map fun t=>(t,r)
 | none=>none
theorem bitsP_iff {l r:List UInt8}{k:List Bool} : bitsP l=some (k,r)↔l=bitsE k++tailE r:=by
 unfold bitsP;constructor;intro h
 match hl:blankP l with
 | none=>rw[hl]at h;cases h
 | some (s,r2)=>
  rw[hl]at h;simp only[Option.map_eq_some_iff,Prod.mk.injEq]at h;obtain ⟨t2,h1,rfl,rfl⟩:=h;rw[(blankP_iff.1 hl).1,bitsV_iff.1 h1]
 rintro rfl;rw[blankP_iff.2 ⟨rfl,(bitsE_ok k).1⟩];simp only[bitsV_iff.2 rfl,Option.map_some]
def bnd {α β:Type}(p:Option (α × List UInt8))(f:α→List UInt8→Option β):Option β:=match p with
 | some (a,r)=>f a r
 | none=>none
theorem bnd_iff {α β:Type}{p:Option (α × List UInt8)}{f:α→List UInt8→Option β}{b:β} : bnd p f=some b↔∃ a r,p=some (a,r)∧f a r=some b:=by
 unfold bnd;cases p with
 | none=>simp
 | some q=>
  obtain ⟨a,r⟩:=q;simp only[Option.some.injEq,Prod.mk.injEq];exact ⟨fun h=>⟨a,r,⟨rfl,rfl⟩,h⟩,fun ⟨_,_,⟨h1,h2⟩,h3⟩=>by rw[h1,h2];exact h3⟩
theorem bnd_some {α β:Type}{a:α}{r:List UInt8}{f:α→List UInt8→Option β} : bnd (some (a,r)) f=f a r:=rfl
def kindW (w:List UInt8):Int:=if w=wDo then 1 else if w=wPut then 2 else if w=wBring then 3 else if w=wCorrupt then 4 else if w=wArm then 5 else if w=wCrash then 6 else if w=wOpen then 7 else 0
def evBody (k:Int)(l:List UInt8):Option (PEv × List UInt8):=
 if k=1 then bnd (numberP l) fun a l=>bnd (numberP l) fun b l=>bnd (numberP l) fun c l=>bnd (numberP l) fun d l=>bnd (numberP l) fun w l=>if w=0∨w=1 then bnd (nameP l) fun s l=>bnd (termP l) fun t l=>some ({ zeroE with kind:=1,ok:=a,ou:=b,oo:=c,og:=d,ow:=decide (w=1),oname:=s,body:=t },l) else none
 else if k=2 then bnd (nameP l) fun s l=>bnd (termP l) fun t l=>some ({ zeroE with kind:=2,name:=s,term:=t },l)
 else if k=3 then bnd (numberP l) fun n l=>bnd (nameP l) fun s l=>bnd (nameP l) fun t l=>some ({ zeroE with kind:=3,name:=s,src:=t,num:=n },l)
 else if k=4 then bnd (numberP l) fun n l=>some ({ zeroE with kind:=4,user:=n },l)
 else if k=5 then bnd (numberP l) fun n l=>bnd (numberP l) fun m l=>some ({ zeroE with kind:=5,node:=n,num:=m },l)
 else if k=6 then bnd (numberP l) fun n l=>bnd (bitsP l) fun b l=>some ({ zeroE with kind:=6,node:=n,keep:=b },l)
 else if k=7 then bnd (numberP l) fun n l=>some ({ zeroE with kind:=7,node:=n },l)
 else some ({ zeroE with kind:=k },l)
def evP (w l:List UInt8):Option (PEv × List UInt8):=match evBody (kindW w) l with
 | some (x,r)=>if wrongV x=true then none else some (x,r)
 | none=>none
def seqE:List (List UInt8)→List UInt8→List UInt8
 | [],r=>r
 | p::ps,r=>p++tailE (seqE ps r)
theorem wrong_not {x:PEv}(h:wrongV x=false):(1≤x.kind∧x.kind≤7)∧badT x.term=false∧badT x.body=false∧x=spokenE x:=by
 simp only[wrongV,Bool.or_eq_false_iff,decide_eq_false_iff_not,Bool.not_eq_false',sameE_iff]at h;obtain ⟨⟨⟨⟨⟨⟨h1,h2⟩,-⟩,-⟩,h3⟩,h4⟩,h5⟩:=h;exact ⟨⟨by omega,by omega⟩,h3,h4,h5⟩
theorem ev_sound {w l r:List UInt8}{x:PEv}(h:evP w l=some (x,r)):wrongV x=false∧x.kind=kindW w∧l=seqE (partsE x) r∧∀ n∈numsE x,N64 n:=by
 unfold evP at h
 match hb:evBody (kindW w) l with
 | none=>rw[hb]at h;cases h
 | some (x',r')=>
  rw[hb]at h;have hw:¬wrongV x'=true∧x'=x∧r'=r:=by
   simp only at h;split at h;cases h
   rename_i hw;cases h;exact ⟨hw,rfl,rfl⟩
  obtain ⟨hw,rfl,rfl⟩:=hw;replace hw:wrongV x'=false:=by simpa using hw
  obtain ⟨hk,ht,hbd,-⟩:=wrong_not hw;refine ⟨hw,?_⟩;unfold evBody at hb
  generalize kindW w=k at hb
  split at hb
  rename_i hk1
  simp only[bnd_iff]at hb;obtain ⟨a,l1,h1,b,l2,h2,c,l3,h3,d,l4,h4,v,l5,h5,h6⟩:=hb;split at h6
  rename_i hv
  simp only[bnd_iff,Option.some.injEq,Prod.mk.injEq]at h6;obtain ⟨s,l6,h7,t,l7,h8,rfl,rfl⟩:=h6;obtain ⟨e1,i1⟩:=numberP_iff.1 h1;obtain ⟨e2,i2⟩:=numberP_iff.1 h2;obtain ⟨e3,i3⟩:=numberP_iff.1 h3;obtain ⟨e4,i4⟩:=numberP_iff.1 h4;obtain ⟨e5,i5⟩:=numberP_iff.1 h5;have e6:=nameP_iff.1 h7;have e7:=termP_sound h8 hbd;refine ⟨hk1.symm,?_,?_⟩;have hv2:Lib.itoa (if decide (v=1)=true then 1 else 0)=Lib.itoa v:=by rcases hv with rfl | rfl <;> rfl
  rw[show partsE ({ zeroE with kind:=1,ok:=a,ou:=b,oo:=c,og:=d,ow:=decide (v=1),oname:=s,body:=t } : PEv)=[Lib.itoa a,Lib.itoa b,Lib.itoa c,Lib.itoa d,Lib.itoa (if decide (v=1)=true then 1 else 0),quoteE s,encT t] from rfl,hv2];simp only[seqE];rw[←e7,←e6,←e5,←e4,←e3,←e2,←e1];intro n hn;rw[show numsE ({ zeroE with kind:=1,ok:=a,ou:=b,oo:=c,og:=d,ow:=decide (v=1),oname:=s,body:=t } : PEv)=[a,b,c,d] from rfl]at hn;simp only[List.mem_cons,List.not_mem_nil,or_false]at hn;rcases hn with rfl | rfl | rfl | rfl <;> assumption
  cases h6;split at hb
  rename_i hk1
  simp only[bnd_iff,Option.some.injEq,Prod.mk.injEq]at hb;obtain ⟨s,l1,h1,t,l2,h2,rfl,rfl⟩:=hb;refine ⟨hk1.symm,?_,nofun⟩;rw[show partsE ({ zeroE with kind:=2,name:=s,term:=t } : PEv)=[quoteE s,encT t] from rfl];simp only[seqE];rw[←termP_sound h2 ht,←nameP_iff.1 h1];split at hb
  rename_i hk1
  simp only[bnd_iff,Option.some.injEq,Prod.mk.injEq]at hb;obtain ⟨n,l0,h0,s,l1,h1,t,l2,h2,rfl,rfl⟩:=hb;obtain ⟨e0,i0⟩:=numberP_iff.1 h0;refine ⟨hk1.symm,?_,fun m hm=>by rw[List.mem_singleton.1 (show m∈[n] from hm)];exact i0⟩;rw[show partsE ({ zeroE with kind:=3,name:=s,src:=t,num:=n } : PEv)=[Lib.itoa n,quoteE s,quoteE t] from rfl];simp only[seqE];rw[←nameP_iff.1 h2,←nameP_iff.1 h1,←e0];split at hb
  rename_i hk1
  simp only[bnd_iff,Option.some.injEq,Prod.mk.injEq]at hb;obtain ⟨n,l0,h0,rfl,rfl⟩:=hb;obtain ⟨e0,i0⟩:=numberP_iff.1 h0;exact ⟨hk1.symm,by rw[show partsE ({ zeroE with kind:=4,user:=n } : PEv)=[Lib.itoa n] from rfl];simp only[seqE];exact e0,fun m hm=>by rw[List.mem_singleton.1 (show m∈[n] from hm)];exact i0⟩;split at hb
  rename_i hk1
  simp only[bnd_iff,Option.some.injEq,Prod.mk.injEq]at hb;obtain ⟨n,l0,h0,m,l1,h1,rfl,rfl⟩:=hb;obtain ⟨e0,i0⟩:=numberP_iff.1 h0;obtain ⟨e1,i1⟩:=numberP_iff.1 h1;refine ⟨hk1.symm,?_,fun j hj=>?_⟩;rw[show partsE ({ zeroE with kind:=5,node:=n,num:=m } : PEv)=[Lib.itoa n,Lib.itoa m] from rfl];simp only[seqE];rw[←e1,←e0];rcases List.mem_cons.1 (show j∈[n,m] from hj) with rfl | hj
  exact i0;rw[List.mem_singleton.1 hj];exact i1;split at hb
  rename_i hk1
  simp only[bnd_iff,Option.some.injEq,Prod.mk.injEq]at hb;obtain ⟨n,l0,h0,b,l1,h1,rfl,rfl⟩:=hb;obtain ⟨e0,i0⟩:=numberP_iff.1 h0;refine ⟨hk1.symm,?_,fun m hm=>by rw[List.mem_singleton.1 (show m∈[n] from hm)];exact i0⟩;rw[show partsE ({ zeroE with kind:=6,node:=n,keep:=b } : PEv)=[Lib.itoa n,bitsE b] from rfl];simp only[seqE];rw[←bitsP_iff.1 h1,←e0];split at hb
  rename_i hk1
  simp only[bnd_iff,Option.some.injEq,Prod.mk.injEq]at hb;obtain ⟨n,l0,h0,rfl,rfl⟩:=hb;obtain ⟨e0,i0⟩:=numberP_iff.1 h0;exact ⟨hk1.symm,by rw[show partsE ({ zeroE with kind:=7,node:=n } : PEv)=[Lib.itoa n] from rfl];simp only[seqE];exact e0,fun m hm=>by rw[List.mem_singleton.1 (show m∈[n] from hm)];exact i0⟩;simp only[Option.some.injEq,Prod.mk.injEq]at hb;obtain ⟨rfl,rfl⟩:=hb;simp only at hk;omega
theorem kind_cases {k:Int}(h:1≤k∧k≤7):k=1∨k=2∨k=3∨k=4∨k=5∨k=6∨k=7:=by omega
theorem kindW_word {k:Int}(h:1≤k∧k≤7):kindW (wordE k)=k:=by
 rcases kind_cases h with rfl | rfl | rfl | rfl | rfl | rfl | rfl <;> decide
theorem word_kindW {w:List UInt8}(h:1≤kindW w):w=wordE (kindW w):=by
 unfold kindW at h⊢
 repeat' split at h
 all_goals first
  | omega
  | (subst_vars;decide)
  | (rename_i h0;rw[h0];decide)
theorem wordE_ok {k:Int}(h:1≤k∧k≤7):(32:UInt8) ∉ wordE k∧(10:UInt8) ∉ wordE k:=by
 rcases kind_cases h with rfl | rfl | rfl | rfl | rfl | rfl | rfl <;> decide
theorem ev_complete {x:PEv}(hw:wrongV x=false)(hi:∀ n∈numsE x,N64 n)(r:List UInt8):evP (wordE x.kind) (seqE (partsE x) r)=some (x,r):=by
 obtain ⟨hk,ht,hb,hs⟩:=wrong_not hw;rw[evP,kindW_word hk]
 suffices h:evBody x.kind (seqE (partsE x) r)=some (x,r) by
  rw[h];simp only[hw,Bool.false_eq_true,if_false]
 rcases kind_cases hk with q | q | q | q | q | q | q
 have hs2:x = { zeroE with kind:=1,ok:=x.ok,ou:=x.ou,oo:=x.oo,og:=x.og,ow:=x.ow,oname:=x.oname,body:=x.body }:=by rw[spokenE,if_pos q]at hs;exact hs
 have hn:numsE x=[x.ok,x.ou,x.oo,x.og]:=by rw[numsE,if_pos q]
 have hp:partsE x=[Lib.itoa x.ok,Lib.itoa x.ou,Lib.itoa x.oo,Lib.itoa x.og,Lib.itoa (if x.ow then 1 else 0),quoteE x.oname,encT x.body]:=by rw[partsE,hn,if_pos q];rfl
 rw[hn]at hi;simp only[List.mem_cons,List.not_mem_nil,or_false,forall_eq_or_imp,forall_eq]at hi;have hv:N64 (if x.ow=true then (1:Int) else 0):=by cases x.ow <;> simp[N64]
 have hv2:((if x.ow=true then (1:Int) else 0)=0∨(if x.ow=true then (1:Int) else 0)=1):=by cases x.ow <;> simp
 have hv3:decide ((if x.ow=true then (1:Int) else 0)=1)=x.ow:=by cases x.ow <;> simp
 rw[evBody,if_pos q,hp];simp only[seqE];rw[numberP_iff.2 ⟨rfl,hi.1⟩,bnd_some,numberP_iff.2 ⟨rfl,hi.2.1⟩,bnd_some,numberP_iff.2 ⟨rfl,hi.2.2.1⟩,bnd_some,numberP_iff.2 ⟨rfl,hi.2.2.2⟩,bnd_some,numberP_iff.2 ⟨rfl,hv⟩,bnd_some,if_pos hv2,nameP_iff.2 rfl,bnd_some,termP_complete hb,bnd_some,hv3,←hs2];have hs2:x = { zeroE with kind:=2,name:=x.name,term:=x.term }:=by rw[spokenE,if_neg (by omega),if_pos q]at hs;exact hs
 have hp:partsE x=[quoteE x.name,encT x.term]:=by rw[hs2];rfl
 rw[evBody,if_neg (by omega),if_pos q,hp];simp only[seqE];rw[nameP_iff.2 rfl,bnd_some,termP_complete ht,bnd_some,←hs2];have hs2:x = { zeroE with kind:=3,name:=x.name,src:=x.src,num:=x.num }:=by rw[spokenE,if_neg (by omega),if_neg (by omega),if_pos q]at hs;exact hs
 have hn:numsE x=[x.num]:=by rw[hs2];rfl
 have hp:partsE x=[Lib.itoa x.num,quoteE x.name,quoteE x.src]:=by rw[hs2];rfl
 rw[hn]at hi;rw[evBody,if_neg (by omega),if_neg (by omega),if_pos q,hp];simp only[seqE];rw[numberP_iff.2 ⟨rfl,hi _ (by simp)⟩,bnd_some,nameP_iff.2 rfl,bnd_some,nameP_iff.2 rfl,bnd_some,←hs2];have hs2:x = { zeroE with kind:=4,user:=x.user }:=by rw[spokenE,if_neg (by omega),if_neg (by omega),if_neg (by omega),if_pos q]at hs;exact hs
 have hn:numsE x=[x.user]:=by rw[hs2];rfl
 have hp:partsE x=[Lib.itoa x.user]:=by rw[hs2];rfl
 rw[hn]at hi;rw[evBody,if_neg (by omega),if_neg (by omega),if_neg (by omega),if_pos q,hp];simp only[seqE];rw[numberP_iff.2 ⟨rfl,hi _ (by simp)⟩,bnd_some,←hs2];have hs2:x = { zeroE with kind:=5,node:=x.node,num:=x.num }:=by rw[spokenE,if_neg (by omega),if_neg (by omega),if_neg (by omega),if_neg (by omega),if_pos q]at hs;exact hs
 have hn:numsE x=[x.node,x.num]:=by rw[hs2];rfl
 have hp:partsE x=[Lib.itoa x.node,Lib.itoa x.num]:=by rw[hs2];rfl
 rw[hn]at hi;rw[evBody,if_neg (by omega),if_neg (by omega),if_neg (by omega),if_neg (by omega),if_pos q,hp];simp only[seqE];rw[numberP_iff.2 ⟨rfl,hi _ (by simp)⟩,bnd_some,numberP_iff.2 ⟨rfl,hi _ (by simp)⟩,bnd_some,←hs2];have hs2:x = { zeroE with kind:=6,node:=x.node,keep:=x.keep }:=by rw[spokenE,if_neg (by omega),if_neg (by omega),if_neg (by omega),if_neg (by omega),if_neg (by omega),if_pos q]at hs;exact hs
 have hn:numsE x=[x.node]:=by rw[hs2];rfl
 have hp:partsE x=[Lib.itoa x.node,bitsE x.keep]:=by rw[hs2];rfl
 rw[hn]at hi;rw[evBody,if_neg (by omega),if_neg (by omega),if_neg (by omega),if_neg (by omega),if_neg (by omega),if_pos q,hp];simp only[seqE];rw[numberP_iff.2 ⟨rfl,hi _ (by simp)⟩,bnd_some,bitsP_iff.2 rfl,bnd_some,←hs2];have hs2:x = { zeroE with kind:=7,node:=x.node }:=by rw[spokenE,if_neg (by omega),if_neg (by omega),if_neg (by omega),if_neg (by omega),if_neg (by omega),if_neg (by omega),if_pos q]at hs;exact hs
 have hn:numsE x=[x.node]:=by rw[hs2];rfl
 have hp:partsE x=[Lib.itoa x.node]:=by rw[hs2];rfl
 rw[hn]at hi;rw[evBody,if_neg (by omega),if_neg (by omega),if_neg (by omega),if_neg (by omega),if_neg (by omega),if_neg (by omega),if_pos q,hp];simp only[seqE];rw[numberP_iff.2 ⟨rfl,hi _ (by simp)⟩,bnd_some,←hs2]
theorem seq_flat:∀ ps:List (List UInt8),(∀ p∈ps,p≠[])→tailE (seqE ps [])=ps.flatMap (fun p=>32::p)
 | [],_=>rfl
 | p::ps,h=>by
  have hp:=h p (by simp);have ih:=seq_flat ps (fun q hq=>h q (by simp[hq]));rw[seqE,List.flatMap_cons,ih,tailE,if_neg (by simp[hp])];rfl
theorem parts_ok {x:PEv}{p:List UInt8}(h:p∈partsE x):p≠[]∧(10:UInt8) ∉ p:=by
 rw[partsE]at h;rcases List.mem_append.1 h with h | h
 obtain ⟨n,-,rfl⟩:=List.mem_map.1 h;exact ⟨(itoa_blank n).2.2,(itoa_blank n).2.1⟩;split at h;simp only[List.mem_cons,List.not_mem_nil,or_false]at h;rcases h with rfl | rfl | rfl
 exact ⟨(itoa_blank _).2.2,(itoa_blank _).2.1⟩;exact ⟨(quoteE_ok _).2,(quoteE_ok _).1⟩;exact ⟨(encT_ok _).2.2,(encT_ok _).2.1⟩;split at h;simp only[List.mem_cons,List.not_mem_nil,or_false]at h;rcases h with rfl | rfl
 exact ⟨(quoteE_ok _).2,(quoteE_ok _).1⟩;exact ⟨(encT_ok _).2.2,(encT_ok _).2.1⟩;split at h;simp only[List.mem_cons,List.not_mem_nil,or_false]at h;rcases h with rfl | rfl
 exact ⟨(quoteE_ok _).2,(quoteE_ok _).1⟩;exact ⟨(quoteE_ok _).2,(quoteE_ok _).1⟩;split at h;rw[List.mem_singleton.1 h];exact ⟨(bitsE_ok _).2.2,(bitsE_ok _).2.1⟩;cases h
theorem lineB_eq (x:PEv):lineB x=wordE x.kind++tailE (seqE (partsE x) []):=by
 rw[lineB,seq_flat _ fun p hp=>(parts_ok hp).1]
theorem lineB_nl {x:PEv}(hk:1≤x.kind∧x.kind≤7):(10:UInt8) ∉ lineB x:=by
 rw[lineB,List.mem_append,not_or];refine ⟨(wordE_ok hk).2,fun h=>?_⟩;obtain ⟨p,hp,hx⟩:=List.mem_flatMap.1 h;rcases List.mem_cons.1 hx with hx | hx
 cases hx;exact (parts_ok hp).2 hx
def lineP (l:List UInt8):Option PEv:=bnd (blankP l) fun w r=>bnd (evP w r) fun x r2=>if r2=[] then some x else none
theorem lineP_iff {l:List UInt8}{x:PEv} : lineP l=some x↔l=lineB x∧wrongV x=false∧∀ n∈numsE x,N64 n:=by
 rw[lineP];simp only[bnd_iff];constructor;rintro ⟨w,r,h1,y,r2,h2,h3⟩;split at h3
 rename_i hr
 cases h3;subst hr;obtain ⟨q1,q2,q3,q4⟩:=ev_sound h2;obtain ⟨h4,h5⟩:=blankP_iff.1 h1;have hk:=(wrong_not q1).1;refine ⟨?_,q1,q4⟩;rw[lineB_eq,h4,q3,q2,←word_kindW (by omega)];cases h3;rintro ⟨rfl,h1,h2⟩;have hk:=(wrong_not h1).1;refine ⟨wordE x.kind,seqE (partsE x) [],blankP_iff.2 ⟨lineB_eq x,(wordE_ok hk).1⟩,x,[],ev_complete h1 h2 [],rfl⟩
def headP (l:List UInt8):Option Int:=bnd (blankP l) fun w r=>bnd (numberP r) fun n r2=>if w=wWorld∧r2=[] then some n else none
theorem headP_iff {l:List UInt8}{n:Int} : headP l=some n↔l=headE n∧N64 n:=by
 have he:headE n=wWorld++tailE (Lib.itoa n++tailE []):=by
  rw[headE,tailE,if_neg (by simp[(itoa_blank n).2.2]),tailE,if_pos rfl,List.append_nil]
 rw[headP];simp only[bnd_iff];constructor;rintro ⟨w,r,h1,m,r2,h2,h3⟩;split at h3
 rename_i hr
 cases h3;obtain ⟨rfl,rfl⟩:=hr;obtain ⟨h4,h5⟩:=numberP_iff.1 h2;refine ⟨?_,h5⟩;rw[he,(blankP_iff.1 h1).1,h4];cases h3;rintro ⟨rfl,h⟩;exact ⟨wWorld,Lib.itoa n++tailE [],blankP_iff.2 ⟨he,by decide⟩,n,[],numberP_iff.2 ⟨rfl,h⟩,by simp⟩
def stepP (n:Nat)(st:Int × List PEv)(l:List UInt8):Option (Int × List PEv):=
 if n < 1 then (headP l).map fun a=>(a,st.2) else (lineP l).bind fun x=>if st.2.length+1≤300 then some (st.1,st.2++[x]) else none
def parseL:Nat→Nat→Int × List PEv→List UInt8→Nat→Except Nat (Int × List PEv)
 | 0,_,_,_,at'=>.error at'
 | k+1,n,st,text,at'=>
  if text=[] then (if n < 1 then .error at' else .ok st)
  else match cutB 10 text with
   | (_,none)=>.error at'
   | (l,some r)=>match stepP n st l with
    | none=>.error at'
    | some st2=>parseL k (n+1) st2 r (at'+l.length+1)
abbrev parseF (text:List UInt8):Except Nat (Int × List PEv):=parseL (text.length+1) 0 (0,[]) text 0
theorem cut_len {c:UInt8}{l s r:List UInt8}(h:cutB c l=(s,some r)):l.length=s.length+1+r.length:=by
 rw[(cutB_some.1 h).1];simp;omega
theorem parse_fuel:∀ (k k2 n:Nat) (st:Int × List PEv) (text:List UInt8) (a:Nat),text.length < k→text.length < k2→parseL k n st text a=parseL k2 n st text a
 | 0,_,_,_,_,_,h,_=>by omega
 | _,0,_,_,_,_,_,h=>by omega
 | k+1,k2+1,n,st,text,a,h1,h2=>by
  rw[parseL,parseL];split;rfl
  match hc:cutB 10 text with
  | (l,none)=>rfl
  | (l,some r)=>
   have:=cut_len hc;simp only
   match stepP n st l with
   | none=>rfl
   | some st2=>exact parse_fuel k k2 _ _ _ _ (by omega) (by omega)
theorem step_ev {n:Nat}(hn:1≤n){st st2:Int × List PEv}{l:List UInt8} : stepP n st l=some st2↔∃ x,l=lineB x∧wrongV x=false∧(∀ m∈numsE x,N64 m)∧st.2.length+1≤300∧st2=(st.1,st.2++[x]):=by
 rw[stepP,if_neg (by omega)];simp only[Option.bind_eq_some_iff];constructor;rintro ⟨x,h1,h2⟩;split at h2
 rename_i h3
 cases h2;obtain ⟨q1,q2,q3⟩:=lineP_iff.1 h1;exact ⟨x,q1,q2,q3,h3,rfl⟩;cases h2;rintro ⟨x,h1,h2,h3,h4,h5⟩;exact ⟨x,lineP_iff.2 ⟨h1,h2,h3⟩,by rw[if_pos h4,h5]⟩
theorem step_head {st st2:Int × List PEv}{l:List UInt8} : stepP 0 st l=some st2↔∃ a,l=headE a∧N64 a∧st2=(a,st.2):=by
 rw[stepP,if_pos (by omega)];simp only[Option.map_eq_some_iff];constructor;rintro ⟨a,h1,rfl⟩;obtain ⟨q1,q2⟩:=headP_iff.1 h1;exact ⟨a,q1,q2,rfl⟩;rintro ⟨a,h1,h2,rfl⟩;exact ⟨a,headP_iff.2 ⟨h1,h2⟩,rfl⟩
theorem parse_evs (a:Int):∀ (l:List PEv) (k n:Nat) (pre:List PEv) (at':Nat),1≤n→(∀ x∈l,wrongV x=false∧∀ m∈numsE x,N64 m)→pre.length+l.length≤300→(l.flatMap lineE).length < k→parseL k n (a,pre) (l.flatMap lineE) at'=.ok (a,pre++l)
 | _,0,_,_,_,_,_,_,h=>by omega
 | [],k+1,n,pre,at',hn,_,_,_=>by
  rw[List.flatMap_nil,parseL,if_pos rfl,if_neg (by omega),List.append_nil]
 | x::l,k+1,n,pre,at',hn,hx,hl,hk=>by
  obtain ⟨h1,h2⟩:=hx x (by simp);have hc:cutB 10 (List.flatMap lineE (x::l))=(lineB x,some (l.flatMap lineE)):=cutB_some.2 ⟨by rw[List.flatMap_cons,lineE];simp,lineB_nl (wrong_not h1).1⟩;have hlen:=cut_len hc;rw[parseL,if_neg (fun h=>by rw[h]at hlen;simp at hlen;omega),hc];simp only;rw[(step_ev hn).2 ⟨x,rfl,h1,h2,by simp at hl⊢;omega,rfl⟩];simp only;rw[parse_evs a l k (n+1) (pre++[x]) _ (by omega) (fun y hy=>hx y (by simp[hy])) (by simp at hl⊢;omega) (by omega),List.append_assoc];rfl
theorem head_nl (a:Int):(10:UInt8) ∉ headE a:=by
 rw[headE,List.mem_append];rintro (h | h)
 revert h;decide
 rcases List.mem_cons.1 h with h | h
 cases h;exact (itoa_blank a).2.1 h
theorem parse_print {a:Int}{l:List PEv}(ha:N64 a)(hx:∀ x∈l,wrongV x=false∧∀ m∈numsE x,N64 m)(hl:l.length≤300):parseF (printF a l)=.ok (a,l):=by
 have hc:cutB 10 (printF a l)=(headE a,some (l.flatMap lineE)):=cutB_some.2 ⟨by rw[printF];simp,head_nl a⟩;have hlen:=cut_len hc;rw[parseF,parseL,if_neg (fun h=>by rw[h]at hlen;simp at hlen;omega),hc];simp only;rw[step_head.2 ⟨a,rfl,ha,rfl⟩];simp only;rw[parse_evs a l _ 1 [] _ (Nat.le_refl _) hx (by simpa using hl) (by omega)];rfl
theorem itoa_dig {n:Int}(h:0≤n∧n < 10):Lib.itoa n=[UInt8.ofNat (48+n.toNat)]:=by
 rw[Lib.itoa,if_neg (by omega),Lib.decDigits,dif_pos (by omega)]
theorem itoa_400:Lib.itoa 400=[52,48,48]:=by
 rw[Lib.itoa,if_neg (by omega)]
 show Lib.decDigits 400=_
 rw[Lib.decDigits,dif_neg (by omega)];rw[show (400 / 10:Nat)=40 from rfl,Lib.decDigits,dif_neg (by omega),show (40 / 10:Nat)=4 from rfl,Lib.decDigits,dif_pos (by omega)];rfl
def exT:Term:=.mk 1 0 0 [120] []
def ex1:PEv:={ zeroE with kind:=1,ok:=1,ou:=1,oname:=[49,47,102],body:=exT }
def ex2:PEv:={ zeroE with kind:=2,name:=[120] }
def ex3:PEv:={ zeroE with kind:=6,node:=6,keep:=[true,false] }
abbrev exL:List UInt8:=[119,111,114,108,100,32,52,48,48,10,100,111,32,49,32,49,32,48,32,48,32,48,32,34,49,47,102,34,32,48,49,48,49,55,56,10,112,117,116,32,34,120,34,32,45,10,99,114,97,115,104,32,54,32,61,49,48,10]
theorem ex_encT:encT exT=[48,49,48,49,55,56]:=by decide +kernel
theorem ex_enc0:encT zeroT=[45]:=by decide +kernel
theorem ex_wrong:∀ x∈[ex1,ex2,ex3],wrongV x=false:=by decide +kernel
theorem ex_print:printF 400 [ex1,ex2,ex3]=exL:=by
 have i0:Lib.itoa 0=[48]:=itoa_dig ⟨by omega,by omega⟩;have i1:Lib.itoa 1=[49]:=itoa_dig ⟨by omega,by omega⟩;have i6:Lib.itoa 6=[54]:=itoa_dig ⟨by omega,by omega⟩;have p1:partsE ex1=[Lib.itoa 1,Lib.itoa 1,Lib.itoa 0,Lib.itoa 0,Lib.itoa 0,quoteE [49,47,102],encT exT]:=rfl;have p2:partsE ex2=[quoteE [120],encT zeroT]:=rfl;have p3:partsE ex3=[Lib.itoa 6,bitsE [true,false]]:=rfl;simp only[printF,List.flatMap_cons,List.flatMap_nil,lineE,lineB,p1,p2,p3,ex_encT,ex_enc0,i0,i1,i6,headE,itoa_400]
 decide +kernel
theorem ex_parse:parseF exL=.ok (400,[ex1,ex2,ex3]):=by
 rw[←ex_print];refine parse_print ⟨by omega,by omega⟩ (fun x hx=>⟨ex_wrong x hx,fun m hm=>?_⟩) (by decide);have:∀ x∈[ex1,ex2,ex3],∀ m∈numsE x,-10≤m∧m≤10:=by decide +kernel
 have:=this x hx m hm;exact ⟨by omega,by omega⟩
theorem ex_check:checkE [ex1,ex2,ex3]=true:=by decide +kernel
theorem own_capT {w:World}{e:TypeId}{sz:Nat}{p:Option Addr}{n c:Nat}{xs:List Value}(h:w.ownsRow 0 e sz (.slice p n c) n xs):c≤maxLen:=by
 rcases h.2 with ⟨hv,h0⟩ | ⟨g,cap,cur,hv,hb,hg,hnc,hcm,hcs,ht⟩
 cases hv;exact Nat.zero_le _;cases hv;exact hcm
def DecR (Mr:Nat→Prop)(h rd m left:Nat)(r:RS)(v:Value)(w:World):Prop:=∃ (z:LTerm) (left':Nat) (r':RS),v=vL z∧decT m left r.bs=.ok (z.t,left',r'.bs)∧left'≤left∧r'.why=0∧SubR r r'∧
 (rtI h rd (left':Nat) r').holds w∧Stable (fun k=>(rtI h rd (left':Nat) r').foot k∨Mr k) w (LtF z)
def DecX (m left:Nat)(r:RS)(ch:List PanicEntry):Prop:=∃ e,ch=pch (wrongE e)∧decT m left r.bs=.error e
theorem rterm_c0 (N:Nat):∀ (m h rd left:Nat) (r:RS) (Mr:Nat→Prop) (w0:World),m < N→m≤60→left≤1200→r.why=0→r.bs.length≤r.c→r.bs.length≤10000000→(∀ k,Mr k→k < w0.heap.size∧¬(rtI h rd (left:Nat) r).foot k)→(rtI h rd (left:Nat) r).holds w0→Stable (fun k=>(rtI h rd (left:Nat) r).foot k∨Mr k) w0 (GlF r.p r.bs)→
  RetP Tryz.prog 226 [.pointer (some ⟨h,0,none⟩),.int .i64 (61 - (m:Nat):Int)] w0 (rtI h rd (left:Nat) r).foot (fun v w'=>DecR Mr h rd m left r v w') (fun ch _=>DecX m left r ch):=by
 induction N with
 | zero=>intro m _ _ _ _ _ _ h;exact absurd h (Nat.not_lt_zero _)
 | succ N ih=>
 intro m h rd left r Mr w0 hmN hm hleft hw hc hl hMr hd hf;refine E1 Tryz.func226 rfl Tryz.ntmps226 (Wd.it2LentM (x:=tmI h rd (left:Nat)) (y:=rdI rd r) (Mr:=Mr) (fs:=[GlF r.p r.bs]) hd rfl rfl hMr (by simpa using hf)) ?_;intro a S;refine kS (kR ?_);refine sa S ?_;intro b4 a w S;refine J8 ?_;intro a S;refine sit (rdI rd r) S (u8R_c rd r _ hc hl (S.it (rdI rd r)) (S.lend (rdI rd r) (S.mem.fact (GlF r.p r.bs)))) rfl ?_;rintro _ a w ⟨rfl,hh⟩ hS;have S:=hS (rdI rd (takeR r 1)) hh (fun k h=>.inl h);clear hS;obtain ⟨kd,hkd⟩:∃ kd,kd=numN (tookR r 1) 0:=⟨_,rfl⟩;rw[←hkd]at S;have hkl:kd < 256:=by rw[hkd];exact (took_num r 1 (by decide)).2
 refine J1 ?_;intro a S;rw[w6 (kd:Int)]at S;refine J1 ?_;intro a S;refine sa S ?_;intro b5 a w S;refine Y18 ?_;intro a w S;rw[w6 ((left:Int) - 1)]at S;replace S:=S.add (Φ:=GlF (takeR r 1).p (takeR r 1).bs) (takeR_gl hc (S.mem.fact (GlF r.p r.bs)));have hsub1:SubR r (takeR r 1):=SubR.take r 1;refine Y20 ?_;intro a w S;refine J1 ?_;intro a S;refine srP S (needR_c h rd ((left:Int) - 1) (takeR r 1) _ w (BoxF.stable (S.box h) (fun h=>h)) (BoxF.stable (S.box rd) (fun h=>h))) (fun ch w' hx S=>?_) ?_
 ·repeat (first | refine xtp ?_ | refine xbp ?_)
  refine endX S ?_;obtain ⟨e,rfl,(⟨h1,rfl⟩ | ⟨h1,h2,rfl⟩)⟩:=hx
  ·exact ⟨7,rfl,by rw[take1_bad hw h1,decT_nil]⟩
  ·obtain ⟨c,t,hbs,hnum,hr1⟩:=take1_ok hw h1
   refine ⟨150,rfl,?_⟩;rw[hbs,decT_cons,if_pos];rw[hkd,hnum]at h2;simp only[Bool.and_eq_false_iff,Bool.not_eq_false',decide_eq_true_eq,decide_eq_false_iff_not]at h2;omega
 clear S;rintro _ a w ⟨hw1,hb⟩ S;obtain ⟨c,t,hbs,hnum,hr1⟩:=take1_ok hw hw1;rw[←hkd]at hnum;simp only[Bool.and_eq_true,Bool.not_eq_true',decide_eq_true_eq,decide_eq_false_iff_not]at hb;have hdec:decT m left r.bs=decB (decT (m - 1)) left (kd:Int) t:=by
  rw[hbs,decT_cons,if_neg (by rw[←hnum];omega),←hnum]
 obtain ⟨r1,hr1e⟩:∃ r1,r1=takeR r 1:=⟨_,rfl⟩;rw[←hr1e]at S hw1 hr1 hsub1;have hc1:=hsub1.cap hc;have hl1:=hsub1.len;refine kN (xtn ?_);refine c_mrge2 S (fun(r2:RS) (s:List UInt8) uu=>[(7,uu 7),(32,uu 40),(0,uu 41),(0,uu 42),(0,uu 43),(0,uu 44),(0,uu 45),(0,uu 46),(0,uu 47),(0,uu 48),(0,uu 49),(0,uu 50),(0,uu 51),(0,uu 52),(0,uu 53),(0,uu 54),(0,uu 55),(0,uu 56),(0,uu 57),(0,uu 58),(0,uu 59),(0,uu 60),(0,uu 61)]) (fun(r2:RS) (s:List UInt8)=>[Wk.box b5 42 [.int .i64 kd,.int .i64 0,.int .i64 0,str s,.slice none 0 0],tmI h rd ((left:Int) - 1),rdI rd r2,Wk.box b4 42 [.int .i64 0,.int .i64 0,.int .i64 0,.string ⟨#[]⟩,.slice none 0 0],ext Mr]) (fun(r2:RS) (s:List UInt8)=>[GlF r2.p r2.bs]) (fun(r2:RS) (s:List UInt8)=>textD (kd:Int) t=.ok (s,r2.bs)∧r2.why=0∧SubR r1 r2) ?_ ?_
 ·refine Y6 ?_;intro a w S
  refine kC S (fun h5=>?_) (fun h5=>?_)
  ·refine J6 ?_;intro a S
   refine sit (rdI rd r1) S (u8R_c rd r1 _ hc1 (by omega) (S.it (rdI rd r1)) (S.lend (rdI rd r1) (S.mem.fact (GlF r1.p r1.bs)))) rfl ?_;rintro _ a w ⟨rfl,hh⟩ hS;have S:=hS (rdI rd (takeR r1 1)) hh (fun k h=>.inl h);clear hS;obtain ⟨nn,hnn⟩:∃ nn,nn=numN (tookR r1 1) 0:=⟨_,rfl⟩;rw[←hnn]at S;have hnl:nn < 256:=by rw[hnn];exact (took_num r1 1 (by decide)).2
   replace S:=S.add (Φ:=GlF (takeR r1 1).p (takeR r1 1).bs) (takeR_gl hc1 (S.mem.fact (GlF r1.p r1.bs)));refine J1 ?_;intro a S;rw[w6 (nn:Int)]at S;refine J8 ?_;intro a S;refine srP S (needR_c h rd ((left:Int) - 1) (takeR r1 1) _ w (BoxF.stable (S.box h) (fun h=>h)) (BoxF.stable (S.box rd) (fun h=>h))) (fun ch w' hx S=>?_) ?_
   ·repeat (first | refine xtp ?_ | refine xbp ?_)
    refine endX S ?_;obtain ⟨e,rfl,(⟨h1,rfl⟩ | ⟨h1,h2,rfl⟩)⟩:=hx
    ·refine ⟨7,rfl,?_⟩
     rw[hdec,←hr1,take1_bad hw1 h1];exact decB_text (textD_nil h5)
    ·obtain ⟨c2,t2,hb2,hn2,-⟩:=take1_ok hw1 h1
     refine ⟨150,rfl,?_⟩;rw[hdec,←hr1,hb2];refine decB_text (textD_long h5 ?_);have:=of_decide_eq_false h2;omega
   clear S;rintro _ a w ⟨hw1b,hb1⟩ S;obtain ⟨c2,t2,hb2,hn2,hr2⟩:=take1_ok hw1 hw1b;rw[←hnn]at hn2;have hb1:=of_decide_eq_true hb1;obtain ⟨r1b,hr1b⟩:∃ r1b,r1b=takeR r1 1:=⟨_,rfl⟩;have hsub1b:SubR r1 r1b:=hr1b▸SubR.take r1 1;rw[←hr1b]at S hw1b hr2;have hc1b:=hsub1b.cap hc1;have hl1b:=hsub1b.len;refine J9 ?_;intro a S;refine sit (rdI rd r1b) S (rawR_c rd r1b nn _ (by omega) hc1b (by omega) (S.it (rdI rd r1b)) (S.lend (rdI rd r1b) (S.mem.fact (GlF r1b.p r1b.bs)))) rfl ?_;rintro _ a w ⟨p8,c8,rfl,hh,hf8⟩ hS;have S:=hS (both (Wk.row 5 1 p8 (tookR r1b nn).length c8 (encL (tookR r1b nn))) (rdI rd (takeR r1b nn))) hh hf8;clear hS;replace S:=S.front (both (Wk.row 5 1 p8 (tookR r1b nn).length c8 (encL (tookR r1b nn))) (rdI rd (takeR r1b nn)));replace S:=S.ofBoth;replace S:=S.add (Φ:=GlF (takeR r1b nn).p (takeR r1b nn).bs) (takeR_gl hc1b (S.mem.fact (GlF r1b.p r1b.bs)));refine Y7 ?_;intro a w S;refine srP S (needR_c h rd ((left:Int) - 1) (takeR r1b nn) _ w (BoxF.stable (S.box h) (fun h=>h)) (BoxF.stable (S.box rd) (fun h=>h))) (fun ch w' hx S=>?_) ?_
   ·repeat (first | refine xtp ?_ | refine xbp ?_)
    refine endX S ?_;obtain ⟨e,rfl,(⟨h1,rfl⟩ | ⟨h1,h2,rfl⟩)⟩:=hx
    ·refine ⟨7,rfl,?_⟩
     have hsh:=take_bad hw1b h1;rw[hdec,←hr1,hb2];refine decB_text (textD_short h5 (by omega) ?_);rw[←hr2,←hn2];exact hsh
    ·cases h2
   clear S;rintro _ a w ⟨hw1c,-⟩ S;obtain ⟨q1,q2,q3⟩:=take_ok hw1b hw1c;refine kN (xtn ?_);replace S:=((((S.front (ext Mr)).front (Wk.box b4 42 [.int .i64 0,.int .i64 0,.int .i64 0,.string ⟨#[]⟩,.slice none 0 0])).front (rdI rd (takeR r1b nn))).front (tmI h rd ((left:Int) - 1))).front (Wk.box b5 42 [.int .i64 kd,.int .i64 0,.int .i64 0,str (tookR r1b nn),.slice none 0 0]);refine ⟨takeR r1b nn,tookR r1b nn,S.uu,⟨?_,hw1c,hsub1b.trans (SubR.take r1b nn)⟩,S.sub _ _⟩;rw[←hr1,hb2,textD_ok h5 (by omega) (by rw[←hr2,←hn2];omega),q2,q3,←hr2,←hn2]
  ·refine kK (xtn ?_)
   rw[show (Value.string ⟨#[]⟩)=str [] from rfl]at S;replace S:=((((S.front (ext Mr)).front (Wk.box b4 42 [.int .i64 0,.int .i64 0,.int .i64 0,str [],.slice none 0 0])).front (rdI rd r1)).front (tmI h rd ((left:Int) - 1))).front (Wk.box b5 42 [.int .i64 kd,.int .i64 0,.int .i64 0,str [],.slice none 0 0]);exact ⟨r1,[],S.uu,⟨by rw[←hr1];exact textD_none h5,hw1,SubR.refl r1⟩,S.sub _ _⟩
 ·clear S;rintro r2 s uu a w ⟨htx,hw2,hsub2⟩ S
  have hc2:=hsub2.cap hc1;have hl2:=hsub2.len;refine c_mrge2 S (fun(r3:RS) (u:Int) uu=>[(62,uu 62),(0,uu 63),(0,uu 64),(0,uu 65),(0,uu 66),(0,uu 67),(0,uu 68),(0,uu 69),(0,uu 70),(0,uu 71),(0,uu 72),(0,uu 73),(0,uu 74),(0,uu 75)]) (fun(r3:RS) (u:Int)=>[Wk.box b5 42 [.int .i64 kd,.int .i64 u,.int .i64 0,str s,.slice none 0 0],tmI h rd ((left:Int) - 1),rdI rd r3,Wk.box b4 42 [.int .i64 0,.int .i64 0,.int .i64 0,.string ⟨#[]⟩,.slice none 0 0],ext Mr]) (fun(r3:RS) (u:Int)=>[GlF r3.p r3.bs]) (fun(r3:RS) (u:Int)=>userD (kd:Int) r2.bs=.ok (u,r3.bs)∧r3.why=0∧SubR r2 r3) ?_ ?_
  ·refine Y6 ?_;intro a w S
   refine kC S (fun h10=>?_) (fun h10=>?_)
   ·refine J6 ?_;intro a S
    refine sit (rdI rd r2) S (u8R_c rd r2 _ hc2 (by omega) (S.it (rdI rd r2)) (S.lend (rdI rd r2) (S.mem.fact (GlF r2.p r2.bs)))) rfl ?_;rintro _ a w ⟨rfl,hh⟩ hS;have S:=hS (rdI rd (takeR r2 1)) hh (fun k h=>.inl h);clear hS;obtain ⟨uu',huu⟩:∃ uu',uu'=numN (tookR r2 1) 0:=⟨_,rfl⟩;rw[←huu]at S;have hul:uu' < 256:=by rw[huu];exact (took_num r2 1 (by decide)).2
    replace S:=S.add (Φ:=GlF (takeR r2 1).p (takeR r2 1).bs) (takeR_gl hc2 (S.mem.fact (GlF r2.p r2.bs)));refine J1 ?_;intro a S;rw[w6 (uu':Int)]at S;refine Y9 ?_;intro a w S;refine srP S (needR_c h rd ((left:Int) - 1) (takeR r2 1) _ w (BoxF.stable (S.box h) (fun h=>h)) (BoxF.stable (S.box rd) (fun h=>h))) (fun ch w' hx S=>?_) ?_
    ·repeat (first | refine xtp ?_ | refine xbp ?_)
     refine endX S ?_;obtain ⟨e,rfl,(⟨h1,rfl⟩ | ⟨h1,h2,rfl⟩)⟩:=hx
     ·refine ⟨7,rfl,?_⟩
      rw[hdec];refine decB_user htx ?_;rw[take1_bad hw2 h1];exact userD_nil h10
     ·obtain ⟨c3,t3,hb3,hn3,-⟩:=take1_ok hw2 h1
      refine ⟨150,rfl,?_⟩;rw[hdec];refine decB_user htx ?_;rw[hb3];refine userD_bad h10 ?_;simp only[knownF,Bool.and_eq_false_iff,decide_eq_false_iff_not]at h2;omega
    clear S;rintro _ a w ⟨hw2b,hb3⟩ S;obtain ⟨c3,t3,hbb3,hn3,hr3⟩:=take1_ok hw2 hw2b;rw[←huu]at hn3;simp only[knownF,Bool.and_eq_true,decide_eq_true_eq]at hb3;refine kN (xtn ?_);replace S:=((((S.front (ext Mr)).front (Wk.box b4 42 [.int .i64 0,.int .i64 0,.int .i64 0,.string ⟨#[]⟩,.slice none 0 0])).front (rdI rd (takeR r2 1))).front (tmI h rd ((left:Int) - 1))).front (Wk.box b5 42 [.int .i64 kd,.int .i64 (uu':Int),.int .i64 0,str s,.slice none 0 0]);refine ⟨takeR r2 1,(uu':Int),S.uu,⟨?_,hw2b,SubR.take r2 1⟩,S.sub _ _⟩;rw[hbb3,userD_ok h10 (by omega),hr3,hn3]
   ·refine kK (xtn ?_)
    exact ⟨r2,0,S.uu,⟨userD_none h10,hw2,SubR.refl r2⟩,S.sub _ _⟩
  ·clear S;rintro r3 u uu a w ⟨hus,hw3,hsub3⟩ S
   have hc3:=hsub3.cap hc2;have hl3:=hsub3.len;refine c_mrge2 S (fun(r4:RS) (n:Int) uu=>[(76,uu 76),(0,uu 77),(0,uu 78),(0,uu 79),(0,uu 80),(0,uu 81),(0,uu 82),(0,uu 83),(0,uu 84),(0,uu 85),(0,uu 86)]) (fun(r4:RS) (n:Int)=>[Wk.box b5 42 [.int .i64 kd,.int .i64 u,.int .i64 n,str s,.slice none 0 0],tmI h rd ((left:Int) - 1),rdI rd r4,Wk.box b4 42 [.int .i64 0,.int .i64 0,.int .i64 0,.string ⟨#[]⟩,.slice none 0 0],ext Mr]) (fun(r4:RS) (n:Int)=>[GlF r4.p r4.bs]) (fun(r4:RS) (n:Int)=>numD (kd:Int) r3.bs=.ok (n,r4.bs)∧r4.why=0∧SubR r3 r4) ?_ ?_
   ·refine Y6 ?_;intro a w S
    refine kC S (fun h13=>?_) (fun h13=>?_)
    ·refine J6 ?_;intro a S
     refine sit (rdI rd r3) S (u16R_c rd r3 _ hc3 (by omega) (S.it (rdI rd r3)) (S.lend (rdI rd r3) (S.mem.fact (GlF r3.p r3.bs)))) rfl ?_;rintro _ a w ⟨rfl,hh⟩ hS;have S:=hS (rdI rd (takeR r3 2)) hh (fun k h=>.inl h);clear hS;obtain ⟨n2,hn2⟩:∃ n2,n2=numN (tookR r3 2) 0:=⟨_,rfl⟩;rw[←hn2]at S;have hn2l:n2 < 65536:=by rw[hn2];exact (took_num r3 2 (by decide)).2
     replace S:=S.add (Φ:=GlF (takeR r3 2).p (takeR r3 2).bs) (takeR_gl hc3 (S.mem.fact (GlF r3.p r3.bs)));refine J1 ?_;intro a S;rw[w6 (n2:Int)]at S;refine Y6 ?_;intro a w S;refine srP S (needR_c h rd ((left:Int) - 1) (takeR r3 2) _ w (BoxF.stable (S.box h) (fun h=>h)) (BoxF.stable (S.box rd) (fun h=>h))) (fun ch w' hx S=>?_) ?_
     ·repeat (first | refine xtp ?_ | refine xbp ?_)
      refine endX S ?_;obtain ⟨e,rfl,(⟨h1,rfl⟩ | ⟨h1,h2,rfl⟩)⟩:=hx
      ·refine ⟨7,rfl,?_⟩
       rw[hdec];refine decB_num htx hus ?_;exact numD_bad h13 (take_bad hw3 h1)
      ·cases h2
     clear S;rintro _ a w ⟨hw3b,-⟩ S;obtain ⟨q1,q2,q3⟩:=take_ok hw3 hw3b;refine kN (xtn ?_);replace S:=((((S.front (ext Mr)).front (Wk.box b4 42 [.int .i64 0,.int .i64 0,.int .i64 0,.string ⟨#[]⟩,.slice none 0 0])).front (rdI rd (takeR r3 2))).front (tmI h rd ((left:Int) - 1))).front (Wk.box b5 42 [.int .i64 kd,.int .i64 u,.int .i64 (n2:Int),str s,.slice none 0 0]);refine ⟨takeR r3 2,(n2:Int),S.uu,⟨?_,hw3b,SubR.take r3 2⟩,S.sub _ _⟩;rw[numD_ok h13 (by omega),q3,hn2,q2]
    ·refine kK (xtn ?_)
     exact ⟨r3,0,S.uu,⟨numD_none h13,hw3,SubR.refl r3⟩,S.sub _ _⟩
   ·clear S;rintro r4 n uu a w ⟨hnu,hw4,hsub4⟩ S
    refine J4 ?_;intro a S;have hc4:=hsub4.cap hc3;have hl4:=hsub4.len;obtain ⟨hkn,hkn2⟩:=kidsN_int (kd:Int);refine sr S (kids_c (fieldsOf (kd:Int)) _) ?_;rintro _ a w rfl S;rw[hkn,show (left:Int) - 1=((left - 1:Nat):Int) from by omega]at S;refine J4 ?_;intro a S;refine c_fore6 S (fun(k:Nat) (zs:List LTerm) (r5:RS) (lf:Nat) (p5:Option Addr) (c5:Nat) uu=>[(89,.int .i64 (k:Nat)),(0,uu 90),(0,uu 91),(0,uu 92),(0,uu 93),(0,uu 94),(0,uu 95),(0,uu 96),(0,uu 97),(0,uu 98),(0,uu 99),(0,uu 100)]) (fun(k:Nat) (zs:List LTerm) (r5:RS) (lf:Nat) (p5:Option Addr) (c5:Nat)=>[Wk.box b5 42 [.int .i64 kd,.int .i64 u,.int .i64 n,str s,.slice p5 k c5],Wk.row 42 5 p5 k c5 (encL zs),tmI h rd (lf:Nat),rdI rd r5,Wk.box b4 42 [.int .i64 0,.int .i64 0,.int .i64 0,.string ⟨#[]⟩,.slice none 0 0],ext Mr]) (fun(k:Nat) (zs:List LTerm) (r5:RS) (lf:Nat) (p5:Option Addr) (c5:Nat)=>[AllL zs,GlF r5.p r5.bs]) (fun(k:Nat) (zs:List LTerm) (r5:RS) (lf:Nat) (p5:Option Addr) (c5:Nat)=>k=zs.length∧k≤kidsN (kd:Int)∧lf≤left - 1∧r5.why=0∧SubR r4 r5∧kidsD (decT (m - 1)) (kidsN (kd:Int)) (left - 1) r4.bs=preD (zs.map LTerm.t) (kidsD (decT (m - 1)) (kidsN (kd:Int) - k) lf r5.bs)) (fun(k:Nat) (zs:List LTerm) (r5:RS) (lf:Nat) (p5:Option Addr) (c5:Nat)=>kidsN (kd:Int) - k) (0) ([]) (r4) (left - 1) (none) (0) ?_ S.uu ?_ ?_
    ·exact ⟨rfl,Nat.zero_le _,Nat.le_refl _,hw4,SubR.refl r4,(preD_nil _).symm⟩
    ·replace S:=S.addNil 42 5
     replace S:=S.add (Φ:=AllL []) (fun _ _ _ hx=>by cases hx);rw[show Wk.row 42 5 none 0 0 []=Wk.row 42 5 none 0 0 (encL ([]:List LTerm)) from rfl]at S;exact S.front (Wk.box b5 42 [.int .i64 kd,.int .i64 u,.int .i64 n,str s,.slice none 0 0])
    ·clear S;rintro k zs r5 lf p5 c5 uu a w ⟨hkz,hk,hlf,hw5,hsub5,hkd5⟩ S
     refine J6 ?_;intro a S;refine kC S (fun h17=>?_) (fun h17=>?_)
     ·refine kK (xtn (kS (kB ?_)))
      have hkl:k < kidsN (kd:Int):=by simp at h17;omega
      have hc5:=hsub5.cap hc4;have hl5:=hsub5.len;have hkk:kidsN (kd:Int) - k=(kidsN (kd:Int) - (k+1))+1:=by omega
      refine c_drawXL 9 [T9 0,T9 1,T9 2,T9 3,T9 4,F9 5,F9 6,F9 7,T9 8,F9 9] [Wk.box b5 42 [.int .i64 kd,.int .i64 u,.int .i64 n,str s,.slice p5 k c5]] (⟨[],[],fun ch w=>Agree (rtI h rd (left:Nat) r).foot w0 w∧DecX m left r ch⟩) S (fun ch a w ⟨_,hd,ha,hx⟩=>by repeat (first | refine xtp ?_ | refine xbp ?_);exact ⟨hd,.inr ⟨ch,rfl,ha,hx⟩⟩) ?_;intro w S;(iterate 5 (refine dqXL S ?_;intro a S));rw[w6 ((61:Int) - (m:Nat)+1),show (61:Int) - (m:Nat)+1=61 - ((m - 1:Nat):Int) from by omega]at S;refine dlXL ?_;replace S:=((S.front (rdI rd r5)).front (tmI h rd (lf:Nat))).toBoth;refine sitMP (rtI h rd (lf:Nat) r5) S (ih (m - 1) h rd lf r5 (restOf _ (rtI h rd (lf:Nat) r5)) w (by omega) (by omega) (by omega) hw5 hc5 (by omega) (S.restOk _) (S.it (rtI h rd (lf:Nat) r5)) ((S.mem.fact (GlF r5.p r5.bs)).split (rtI h rd (lf:Nat) r5))) rfl (fun ch w' hx hS=>?_) ?_
      ·obtain ⟨e,rfl,he⟩:=hx
       have S:=hS (bs':=_);refine XP.of S (by simp) rfl ⟨S.wd.agree,e,rfl,?_⟩;rw[hdec];refine decB_kids htx hus hnu ?_;rw[hkd5,hkk];exact kidsD_bad _ _ _ _ _ _ he
      clear S;rintro _ a w ⟨z,lf',r6,rfl,hde,hlf',hw6,hsub6,hh6,hz⟩ hS;have S:=hS (rtI h rd (lf':Nat) r6) [LtF z] hh6 (fun k h=>.inl h) (by simp only[List.mem_cons,List.not_mem_nil,or_false];rintro Φ rfl;exact hz);clear hS;replace S:=S.ofBoth;replace S:=S.add (Φ:=GlF r6.p r6.bs) ((S.mem.fact (GlF r5.p r5.bs)).imp fun _ h=>hsub6.gl hc5 _ h);have hA1:Stable _ _ (AllL zs):=S.wd.facts (AllL zs) (by simp);have hA2:=S.t z;replace S:=S.add (Φ:=AllL (zs++[z])) (fun w' hw' x hx=>by
       rcases List.mem_append.1 hx with h | h
       ·exact hA1 w' hw' x h
       ·rw[List.mem_singleton.1 h];exact hA2 w' hw')
      refine deXL S ?_;refine dlXL (sn S ?_);intro b97 a w S;refine deXL S ?_;refine dlXL ?_;refine sap S (by simp[maxLen];omega) (by omega) ?_;rintro p7 c7 a w - S;rw[show encL zs++[Value.int .i64 z.kind,.int .i64 z.user,.int .i64 z.num,str z.text,.slice z.p z.kids.length z.cap]=encL (zs++[z]) from by rw[encL_append];rfl]at S;refine deXL S ?_;refine dqXL S ?_;intro a S;refine dlXL (sw S ?_);intro a w S;refine dzXL (xbn (xtn (kR ?_)));(iterate 2 (refine sq S ?_;intro a S));refine kN (xtn ?_);rw[w6 ((k:Int)+1)]at S;replace S:=((((S.front (rdI rd r6)).front (tmI h rd (lf':Nat))).front (Wk.row 42 5 p7 (k+1) c7 (encL (zs++[z])))).front (Wk.box b5 42 [.int .i64 kd,.int .i64 u,.int .i64 n,str s,.slice p7 (k+1) c7]));refine ⟨k+1,zs++[z],r6,lf',p7,c7,S.uu,⟨by simp[hkz],hkl,by omega,hw6,hsub5.trans hsub6,?_⟩,S.sub _ _,by omega⟩;rw[hkd5,hkk,kidsD_step _ _ _ _ _ z.t lf' r6.bs hde,List.map_append];rfl
     ·refine kE (xte (xte (xbe (xtn (kS ?_)))))
      have hk2:kidsN (kd:Int)=k:=by simp at h17;omega
      subst hkz;refine Y6 ?_;intro a w S;have hrow:=S.row p5 zs.length;have hall:Stable _ _ (AllL zs):=S.wd.facts (AllL zs) (by simp);have hap:∀ ad,p5=some ad→¬((rtI h rd (lf:Nat) r5).foot ad.block∨Mr ad.block):=fun ad had hm=>by
       rcases hm with (hm | hm) | hm
       ·exact St.apart2 S (Wk.row 42 5 p5 zs.length c5 (encL zs)) (tmI h rd (lf:Nat)) ad.block ⟨ad,had,rfl⟩ hm
       ·exact St.apart2 S (Wk.row 42 5 p5 zs.length c5 (encL zs)) (rdI rd r5) ad.block ⟨ad,had,rfl⟩ hm
       ·exact St.apart2 S (Wk.row 42 5 p5 zs.length c5 (encL zs)) (ext Mr) ad.block ⟨ad,had,rfl⟩ hm
      have hkids:Stable (fun k=>(rtI h rd (lf:Nat) r5).foot k∨Mr k) _ (AllL zs):=hall.less fun k _ hm=>by
       rcases hm with (hm | hm) | hm
       ·exact ⟨tmI h rd (lf:Nat),by simp,hm⟩
       ·exact ⟨rdI rd r5,by simp,hm⟩
       ·exact ⟨ext Mr,by simp,hm⟩
      have hls:=ls_of_own hrow (fun x hx=>AllL.get hkids hx) hap;replace S:=((S.front (rdI rd r5)).front (tmI h rd (lf:Nat))).toBoth;have hh:=S.it (rtI h rd (lf:Nat) r5);refine endP (end1 S (fun _=>?_));refine ⟨.mk kd u n s p5 c5 zs,lf,r5,rfl,?_,by omega,hw5,((((hsub1.trans hsub2).trans hsub3).trans hsub4).trans hsub5),hh,fun w' hw'=>?_⟩
      ·rw[hdec,LTerm.t_eq]
       refine decB_ok htx hus hnu ?_;rw[hkd5,hk2,Nat.sub_self,kidsD,preD,List.append_nil];rfl
      ·exact LtIn.iff.2 ⟨own_le hrow,own_capT hrow,hls w' hw'⟩
theorem textD_err {k e:Int}{bs:List UInt8}(h:textD k bs=.error e):e≠0:=by
 unfold textD at h;split at h;split at h;cases h;decide;split at h;cases h;decide;split at h;cases h;decide;cases h;cases h
theorem userD_err {k e:Int}{bs:List UInt8}(h:userD k bs=.error e):e≠0:=by
 unfold userD at h;split at h;split at h;cases h;decide;split at h;cases h;cases h;decide;cases h
theorem numD_err {k e:Int}{bs:List UInt8}(h:numD k bs=.error e):e≠0:=by
 unfold numD at h;split at h;split at h;cases h;decide;cases h;cases h
theorem kidsD_err {f:Nat→List UInt8→DecE (Term × Nat × List UInt8)}(hf:∀ l b e,f l b=.error e→e≠0):∀ (k l:Nat) (b:List UInt8) (e:Int),kidsD f k l b=.error e→e≠0
 | 0,l,b,e,h=>by rw[kidsD]at h;cases h
 | k+1,l,b,e,h=>by
  rw[kidsD]at h;split at h
  rename_i e' he
  cases h;exact hf _ _ _ he;split at h
  rename_i e' he
  cases h;exact kidsD_err hf _ _ _ _ he;cases h
theorem decT_err:∀ (m left:Nat) (bs:List UInt8) (e:Int),decT m left bs=.error e→e≠0:=by
 intro m
 induction m with
 | zero=>
  intro left bs e h;cases bs with
  | nil=>rw[decT_nil]at h;cases h;decide
  | cons c t=>rw[decT_cons,if_pos (.inl rfl)]at h;cases h;decide
 | succ m ih=>
  intro left bs e h;cases bs with
  | nil=>rw[decT_nil]at h;cases h;decide
  | cons c t=>
   rw[decT_cons]at h;split at h
   ·cases h;decide
   ·rw[show m+1 - 1=m from rfl,decB]at h
    split at h
    ·rename_i h1;cases h;exact textD_err h1
    ·split at h
     ·rename_i h1;cases h;exact userD_err h1
     ·split at h
      ·rename_i h1;cases h;exact numD_err h1
      ·split at h
       ·rename_i h1;cases h;exact kidsD_err ih _ _ _ _ h1
       ·cases h
theorem tcatch_ret (p2 p3 p4:Value)(w:World):CallsDIn (FW none) 0 Tryz.prog 225 #[p2,p3,p4] .returning w fun e u' w'=>(∃ v,e=.returned v)∧u'=.returning∧Agree (fun _=>False) w w':=by
 refine callsD_catch Tryz.func225 rfl (l:=[p2,p3,p4,undef,undef,undef,undef,undef,undef,undef,undef,undef,undef,undef,undef,undef,undef,undef,undef,undef]) (args:=[p2,p3,p4]) rfl (Wd.start w) (.inl rfl) ?_;rintro x u' (⟨-,rfl,rfl⟩ | ⟨pv,h,-⟩) a S;refine J8 ?_;intro a S;exact ⟨.inl rfl,S.defers,.tuple #[],resC S,⟨_,rfl⟩,rfl,S.wd.agree⟩;cases h
theorem tcatch_pan (g2 g3 g4:Nat)(x0 x1 x2 x3 x4 y z:Value)(e0:Int)(w0 w:World)(M0:Nat→Prop)(hw:Wd w0 M0 w [Wk.box g4 30 [z],Wk.box g3 3 [y],Wk.box g2 42 [x0,x1,x2,x3,x4]] []) :
  CallsDIn (FW none) 0 Tryz.prog 225 #[.pointer (some ⟨g2,0,none⟩),.pointer (some ⟨g3,0,none⟩),.pointer (some ⟨g4,0,none⟩)] (.panicking (pch (wrongE e0))) w fun e u' w'=>(∃ v,e=.returned v)∧u'=.panicking [{ v:=wrongE e0,recovered:=true }]∧
   Wd w0 M0 w' [Wk.box g4 30 [.int .i64 e0],Wk.box g3 3 [.int .i64 0],Wk.box g2 42 [.int .i64 0,.int .i64 0,.int .i64 0,.string ⟨#[]⟩,.slice none 0 0]] []:=by
 refine callsD_catch Tryz.func225 rfl (l:=[.pointer (some ⟨g2,0,none⟩),.pointer (some ⟨g3,0,none⟩),.pointer (some ⟨g4,0,none⟩),undef,undef,undef,undef,undef,undef,undef,undef,undef,undef,undef,undef,undef,undef,undef,undef,undef]) (args:=[.pointer (some ⟨g2,0,none⟩),.pointer (some ⟨g3,0,none⟩),.pointer (some ⟨g4,0,none⟩)]) rfl hw (.inr ⟨_,rfl⟩) ?_;rintro x u' (⟨h,-⟩ | ⟨pv,h,rfl,rfl⟩) a S;cases h;obtain rfl:x=wrongE e0:=by injection h with h;injection h with h _;injection h with h;exact h.symm
 refine J14 ?_;intro a S;refine sa S ?_;intro b4 a w S;refine Y9 ?_;intro a w S;rw[show (!true)=false from rfl]at S;refine kN (xtn ?_);refine c_condF S ?_;refine kK (xtn ?_);refine c_drawD [T9 0,T9 1,T9 2,F9 3,F9 4,F9 5] [g2,g3,g4] S ?_;intro w S;(iterate 3 (refine dq S ?_;intro a S));refine dl (sw S ?_);intro a w S;refine de S ?_;refine dl (sw S ?_);intro a w S;refine de S ?_;refine dl (sw S ?_);intro a w S;refine de S ?_;refine dn ?_;refine ⟨.inl rfl,S.defers,.tuple #[],resC S,⟨_,rfl⟩,rfl,?_⟩;exact (S.sub _ _).wd
theorem leftG_c (b n c:Nat)(p:Option Addr)(why:Int)(w0:World)(hb:Fx w0 (BoxF b 193 [.slice p n c,.int .i64 why])):Ret Tryz.prog 227 [.pointer (some ⟨b,0,none⟩)] w0 (fun _=>False) fun v _=>v=.int .i64 (n:Nat):=by
 refine E1 Tryz.func227 rfl Tryz.ntmps227 (Wd.begin (fs:=[BoxF b 193 [.slice p n c,.int .i64 why]]) (by simpa using hb)) ?_;intro a S;refine J20 ?_;intro a S;refine J7 ?_;intro a S;exact end1 S (fun _=>rfl)
instance {b n c:Nat}{p:Option Addr}{why:Int}{bs fs}[hb:HasBox bs b 193 [.slice p n c,.int .i64 why]]:CallV Tryz.prog 227 [.pointer (some ⟨b,0,none⟩)] bs fs (.int .i64 (n:Nat)):=⟨fun w m=>leftG_c b n c p why w (BoxF.stable m.box (fun h=>h))⟩
abbrev ptrT (b:Nat):Value:=.pointer (some ⟨b,0,none⟩)
abbrev defT (b2 b3 b4:Nat):Deferred:={ target:=.fn (.func 225) ⟨[ptrT b2,ptrT b3,ptrT b4]⟩,args:=#[] }
abbrev zTm:List Value:=[.int .i64 0,.int .i64 0,.int .i64 0,.string ⟨#[]⟩,.slice none 0 0]
theorem tdec_pan {a:Act}{w0 w:World}{M0:Nat→Prop}{Rr:Ending→World→Prop}(b2 b3 b4:Nat)(x0 x1 x2 x3 x4 y z:Value)(e0:Int)(hd:a.defers=[defT b2 b3 b4])(h2:a.tmps[2]? = some (ptrT b2))(h3:a.tmps[3]? = some (ptrT b3))(h4:a.tmps[4]? = some (ptrT b4))
  (hw:Wd w0 M0 w [Wk.box b4 30 [z],Wk.box b3 3 [y],Wk.box b2 42 [x0,x1,x2,x3,x4]] [])
  (hR:∀ w',Agree M0 w0 w'→Rr (.returned (.tuple ⟨[vL zeroL,.int .i64 0,.int .i64 e0]⟩)) w'):bodyPostDIn (FW none) 0 Tryz.prog Tryz.f197 Rr (.panic (pch (wrongE e0))) a w:=by
 refine leavePan (ca:=[ptrT b2,ptrT b3,ptrT b4]) hd (tcatch_pan b2 b3 b4 x0 x1 x2 x3 x4 y z e0 w0 w M0 hw) fun w' hK=>⟨_,?_,hR w' hK.agree⟩
 have n2:Nth a.tmps.toList 2 (ptrT b2):=⟨by simpa using h2⟩;have n3:Nth a.tmps.toList 3 (ptrT b3):=⟨by simpa using h3⟩;have n4:Nth a.tmps.toList 4 (ptrT b4):=⟨by simpa using h4⟩;exact res3 (l:=a.tmps.toList) rfl hK.held
def TDecR (M:Nat→Prop)(bs:List UInt8)(v:Value)(w:World):Prop:=∃ (z:LTerm) (n e:Int),v=.tuple ⟨[vL z,.int .i64 n,.int .i64 e]⟩∧Stable M w (LtF z)∧
 ((∃ left rest,decT 60 1200 bs=.ok (z.t,left,rest)∧n=(bs.length:Int) - rest.length∧e=0)∨(decT 60 1200 bs=.error e∧z=zeroL∧e≠0))
theorem tdec_c (bs:List UInt8)(p:Option Addr)(n c:Nat)(M:Nat→Prop)(w0:World)(hn:bs.length=n)(hl:n≤10000000)(hM:∀ k,M k→k < w0.heap.size)(hf:Stable M w0 (GlF p bs)) :
  Ret Tryz.prog 197 [.slice p n c] w0 (fun _=>False) fun v w'=>TDecR M bs v w':=by
 subst hn;refine enterD Tryz.func197 rfl rfl (Wd.beginM (M:=M) (fs:=[GlF p bs]) hM (by simpa using hf)) (fun a S=>?_);refine E0 Tryz.ntmps197 ?_;intro S;refine kS (kR ?_);refine sa S ?_;intro b2 a w S;refine sa S ?_;intro b3 a w S;refine sa S ?_;intro b4 a w S;refine J5 ?_;intro a S;refine snew S (readR_c bs p bs.length c _ rfl hl (S.gl0 p)) ?_;rintro _ a w - ⟨rd,p1,c1,rfl,hh,hnw⟩ hS -;have S:=hS (both (rdI rd ⟨p1,c1,bs,0⟩) (Wk.row 5 1 p1 bs.length c1 (encL bs))) hh hnw;clear hS;replace S:=S.ofBoth;have hc1:=own_le (S.row p1 bs.length);replace S:=(S.front (Wk.row 5 1 p1 bs.length c1 (encL bs))).rowToGl p1 bs (e:=5) (sz:=1) (n:=bs.length) (c:=c1) (fun _ _ _ _=>trivial);refine J1 ?_;intro a S;refine sa S ?_;intro b9 a w S;refine sq S ?_;intro a S;refine kN (xtn (kS (kR (sq S ?_))));intro a S;refine sdef S ?_;intro a S;refine kN (xtn (kS (kR (sq S ?_))));intro a S;replace S:=((S.front (rdI rd ⟨p1,c1,bs,0⟩)).front (tmI b9 rd 1200)).toBoth;refine sitMP (rtI b9 rd ((1200:Nat):Int) ⟨p1,c1,bs,0⟩) S (rterm_c0 61 60 b9 rd 1200 ⟨p1,c1,bs,0⟩ (restOf _ (rtI b9 rd ((1200:Nat):Int) ⟨p1,c1,bs,0⟩)) w (by decide) (by decide) (by decide) rfl hc1 hl (S.restOk _) (S.it (rtI b9 rd ((1200:Nat):Int) ⟨p1,c1,bs,0⟩)) ((S.mem.fact (GlF p1 bs)).split (rtI b9 rd ((1200:Nat):Int) ⟨p1,c1,bs,0⟩))) rfl (fun ch w' hx hS=>?_) ?_
 ·obtain ⟨e,rfl,he⟩:=hx
  have S:=hS (bs':=_);refine tdec_pan b2 b3 b4 _ _ _ _ _ _ _ e S.defers (by rw[S.slots];rfl) (by rw[S.slots];rfl) (by rw[S.slots];rfl) (S.sub [Wk.box b4 30 [.int .i64 0],Wk.box b3 3 [.int .i64 0],Wk.box b2 42 zTm] []).wd (fun w' ha=>⟨_,rfl,ha,zeroL,0,e,rfl,fun _ _=>zeroL_in _,.inr ⟨he,rfl,decT_err _ _ _ _ he⟩⟩)
 clear S;rintro _ a w ⟨z,lf,r6,rfl,hde,-,hw6,hsub6,hh6,hz⟩ hS;have S:=hS (rtI b9 rd (lf:Nat) r6) [LtF z] hh6 (fun k h=>.inl h) (by simp only[List.mem_cons,List.not_mem_nil,or_false];rintro Φ rfl;exact hz);clear hS;replace S:=S.ofBoth;refine Y4 ?_;intro a w S
 refine' c_drawT0 (.q 1 (.q 2 (.q 3 (.q 4 (.q 5 (.q 6 (.b2 0 7 (.l 7 (.q 8 (.l 9 (.l 10 (.l 11 (.e)))))) (.q 8 (.l 0 (.l 9 (.l 10 (.l 11 (.e))))))))))))) [b2,b3,b4] S ?_ ?_
 rotate_left 3
 ·intro w S
  (iterate 6 (refine tq S ?_;intro a S));refine tb2 ?_ ?_
  ·refine sq S ?_;intro a S;refine te S ?_;refine tl (sc S ?_);intro a w S;refine te S ?_;refine tq S ?_;intro a S
   rw[w64 ((bs.length:Int) - (r6.bs.length:Int)) (by have:=hsub6.len;have:r6.bs.length≤bs.length:=this;omega) (by omega)]at S;refine tl (sw S ?_);intro a w S;refine te S ?_;refine tl (sw S ?_);intro a w S;refine te S ?_;refine tl (sw S ?_);intro a w S;refine te S ?_;refine tn ?_;exact S
  ·refine sc S ?_;intro a w S;refine te S ?_;refine tq S ?_;intro a S
   rw[w64 ((bs.length:Int) - (r6.bs.length:Int)) (by have:=hsub6.len;have:r6.bs.length≤bs.length:=this;omega) (by omega)]at S;refine tl (sq S ?_);intro a S;refine te S ?_;refine tl (sw S ?_);intro a w S;refine te S ?_;refine tl (sw S ?_);intro a w S;refine te S ?_;refine tl (sw S ?_);intro a w S;refine te S ?_;refine tn ?_;exact S
 intro  a w S;refine xtn (kT ?_);have hlat:=S.laterT (M:=M) z;refine leaveRet S.defers (tcatch_ret _ _ _ w) (fun w' hw'=>⟨_,res3 S.slots (S.wd.step hw').held,_,rfl,(S.wd.step hw').agree,z,(bs.length:Int) - (r6.bs.length:Int),0,rfl,?_,.inl ⟨lf,r6.bs,hde,rfl,rfl⟩⟩);exact hlat.later (hw'.mono fun _ _ h=>h.elim)
end Go.Proofs.YtlgnhhebeandkaaGreatDoor
namespace Go.Wk
open Go
section
variable {P:Program}{ops:Array Oper}{C:Nat→World→Prop}{R:Act→World→Prop}
variable {r:Option Nat}{Q:Exit→Act→World→Prop}{w0:World}{M0:Nat→Prop}{ds:List Deferred}{a:Act}{w:World}{l l':List Value}{bs bs' b0 b1 b2 bk:List Item}{fs fs0:List (World→Prop)}
 {d:Option Nat} {op:Op} {ty:TypeId} {pos:String} {af:Array Edge} {rest:List Oper} {v v' G:Value} {j g:Nat} {pol:Bool} {cs:List Bool} {n:Nat} {listed:Array Bool}
variable {ord:List (Nat × Nat)}{i:Nat}{lv:List (Nat × Nat)}
end
inductive TrV where
 | e
 | q (i k:Nat) (t:TrV)
 | l (i:Nat) (t:TrV)
 | b (i j:Nat) (t u:TrV)
def TrV.len:TrV→Nat
 | .e=>0
 | .q _ _ t=>t.len+1
 | .l _ t=>t.len+1
 | .b _ _ t _=>t.len+1
section
variable {P:Program}{ops:Array Oper}{C:Nat→World→Prop}{R:Act→World→Prop}
variable {r:Option Nat}{Q:Exit→Act→World→Prop}{w0:World}{M0:Nat→Prop}{ds:List Deferred}{a:Act}{w:World}{l l':List Value}{bs bs' b0 b1 b2 bk:List Item}{fs fs0:List (World→Prop)}
 {d:Option Nat} {op:Op} {ty:TypeId} {pos:String} {af:Array Edge} {v:Value} {listed:Array Bool}
variable {t u:TrV}{i j:Nat}{lv:List (Nat × Nat)}
end
end Go.Wk
namespace Go.Proofs.YtlgnhhebeandkaaGreatDoor
open Go Go.Wk
set_option synthInstance.maxSize 100000
set_option synthInstance.maxHeartbeats 400000
set_option maxRecDepth 100000
section
variable {P:Program}{r:Option Nat}{ops:Array Oper}{Q:Exit→Act→World→Prop}{w0:World}{M0:Nat→Prop}{ds:List Deferred}{a:Act}{w:World}{l:List Value}{bs:List Wk.Item}{fs:List (World→Prop)}
 {d:Option Nat} {t t' ty:TypeId} {pos:String} {af:Array Edge} {rest:List Oper} {e:TypeId} {x:Operand} {ys:List UInt8}
theorem scvb {l':Nat→Nat→List Value}(S:St w0 M0 ds a w l bs fs)[Ev ⟨[],l⟩ x (str ys)][ht:Und P t .string][ht':Und P t' (.slice e)][he:Und P e (.int .u8)][hp:∀ b c,PutO l d (.slice (some ⟨b,0,none⟩) ys.length c) (l' b c)]
  (K:∀ b c a w,St w0 M0 ds a w (l' b c) bs (GlF (some ⟨b,0,none⟩) ys::fs)→WL P r ops Q rest a w):WL P r ops Q (⟨d,.convert t t' x,ty,pos,af,none⟩::rest) a w:=by
 refine wl_plain rfl ?_;rw[semAt_nd rfl];have hr:=Lib.run_convert_string_bytes (P:=P) w t t' e ⟨ys.toArray⟩ ht.eq ht'.eq he.eq;have e1:(xop a.eval (.convert t t' x) ty).run P w=.ok (.value (.slice (some ⟨w.heap.size,0,none⟩) ys.length (grownCap w (ByteArray.size ⟨ys.toArray⟩) 0 e))) (Lib.bytesWorld w e ⟨ys.toArray⟩):=by
  simp only[xop,execOp,S.fr.ev (x:=x) (v:=str ys),Sem.run_bind,str];rw[hr];rfl
 simp only[e1,Oper.uponIn];have:=hp w.heap.size (grownCap w (ByteArray.size ⟨ys.toArray⟩) 0 e);have S':=S.put (d:=d) (v:=.slice (some ⟨w.heap.size,0,none⟩) ys.length (grownCap w (ByteArray.size ⟨ys.toArray⟩) 0 e));have hg:Grow w (Lib.bytesWorld w e ⟨ys.toArray⟩):=⟨rfl,rfl,rfl,by rw[Lib.bytesWorld_size];omega,fun k hk _=>Lib.bytesWorld_at_old w e _ k hk⟩;have hwd:=S'.wd.step hg;have S2:St w0 M0 ds _ _ _ bs fs:=⟨S'.slots,S'.defers,hwd⟩;refine K _ _ _ _ (S2.add ?_);have hs:SlF (some ⟨w.heap.size,0,none⟩) (encL ys) (Lib.bytesWorld w e ⟨ys.toArray⟩):=⟨nofun,fun ad had j u hu=>by
  cases had;have hj:j < ys.length:=by
   have:=(List.getElem?_eq_some_iff.1 hu).1;rw[encL_len]at this;have h2:ys.length*Enc.sz UInt8=ys.length:=Nat.mul_one _;omega
  have h1:=Lib.bytesWorld_cell w e ⟨ys.toArray⟩ j hj;rw[encB_map,List.getElem?_map,List.getElem?_map,List.getElem?_eq_getElem hj]at hu;simp only[Option.map_some,Option.some.injEq]at hu;rw[show (⟨w.heap.size,0,none⟩:Addr).add j=⟨w.heap.size,j,none⟩ from by simp only[Addr.add,Nat.zero_add];split <;> simp_all,h1,←hu];simp[List.getD,List.getElem?_eq_getElem hj]⟩
 exact fun w' hw'=>⟨hs.stable (fun ad had hm=>by
  cases had;obtain ⟨it,hi,hk⟩:=hm;exact absurd (S.wd.lt it hi _ hk) (Nat.lt_irrefl _)) w' hw',fun _ _=>trivial⟩
end
end Go.Proofs.YtlgnhhebeandkaaGreatDoor
namespace Go.Wk
open Go
section
variable {P:Program}{r:Option Nat}{ops:Array Oper}{Q:Exit→Act→World→Prop}{w0:World}{M0:Nat→Prop}{ds:List Deferred}{a:Act}{w:World}{l:List Value}{bs:List Item}{fs:List (World→Prop)}
 {d:Option Nat} {ty:TypeId} {pos:String} {af:Array Edge} {rest:List Oper} {G:Value} {f:Nat} {x:Operand} {xs:List Operand} {args:List Value} {ts:Array TypeId} {j g:Nat} {pol:Bool} {cs:List Bool}
theorem gcr {c:Bool}{l':Value→List Value}[hg:GSlot ops j g][hn:Nth l g G][hc:Conds G pol [c]][EntF P f][he:CallTo ⟨[c],l⟩ x xs f args][hp:∀ v,PutO l d (gif c v) (l' v)](S:St w0 M0 ds a w l bs fs)(v0:Value){R:Value→World→Prop}
  (hq:c=true→Ret P f args w (fun _=>False) R)
  (K:∀ v a w',(c=true→R v w')→(c=false→v=v0)→St w0 M0 ds a w' (l' v) bs fs→WL P r ops Q rest a w'):WL P r ops Q (⟨d,.call { callee:=.value x,args:=xs.toArray,argTypes:=ts },ty,pos,af,some (j,pol)⟩::rest) a w:=by
 have hw:=wanted_iff (ops:=ops) (d:=d) (op:=.call { callee:=.value x,args:=xs.toArray,argTypes:=ts }) (ty:=ty) (pos:=pos) (af:=af) (pol:=pol) S hg.eq;refine wl_guard (fun ht=>?_) (fun hf=>?_);have hall:=hw.1 ht;have hct:c=true:=hall c (by simp);have:CallTo ⟨[],l⟩ x xs f args:=⟨by
  obtain ⟨fi,ca,vs,h0,h1,h2⟩:=he.ex;exact ⟨fi,ca,vs,⟨fun _ ds=>h0.eq hall ds⟩,⟨fun _ ds=>h1.eq hall ds⟩,h2⟩⟩
 refine cv_any S (hq hct) ?_;rintro e w' ⟨v,rfl,ha,hR⟩;have:=hp v;have S':=S.put (d:=d) (v:=gif c v);have e1:gif c v=v:=by rw[hct];rfl
 rw[e1]at S';exact ⟨v,rfl,K v _ w' (fun _=>hR) (fun h=>by rw[hct]at h;cases h) ⟨S'.slots,S'.defers,S'.wd.step ha⟩⟩;have hcf:c=false:=by
  cases q:c with
  | false=>rfl
  | true=>rw[hw.2 (by simp[q])]at hf;cases hf
 have:=hp v0;have S':=S.put (d:=d) (v:=gif c v0);have e:gif c v0=undef:=by rw[hcf];rfl
 rw[e]at S';exact K v0 _ _ (fun h=>by rw[hcf]at h;cases h) (fun _=>rfl) S'
end
end Go.Wk
namespace Go.Proofs.YtlgnhhebeandkaaGreatDoor
open Go Go.Wk
set_option synthInstance.maxSize 100000
set_option synthInstance.maxHeartbeats 400000
set_option maxRecDepth 100000
abbrev pB (b:Nat):Value:=.pointer (some ⟨b,0,none⟩)
class AdOk (a:Value)(b:Nat):Prop where ok:a=.pointer none∨a=pB b
instance {b:Nat} : AdOk (.pointer none) b:=⟨.inl rfl⟩
instance {b:Nat} : AdOk (.pointer (some ⟨b,0,none⟩)) b:=⟨.inr rfl⟩
abbrev wX (b:Nat)(a v:Value):Wk.Item:=Wk.box b 106 [a,v]
abbrev wI (b:Nat)(u:Value)(p:Option Addr)(c:Nat)(s:List UInt8):Wk.Item:=both (wX b u (.slice p s.length c)) (Wk.row 5 1 p s.length c (encL s))
instance cvTo {l:Cx}{bs:List Wk.Item}{fs:List (World→Prop)}{x:Operand}{ty b:Nat}{cs:List Value}[Ev l x (.pointer (some ⟨b,0,none⟩))][hb:HasBox bs b 106 cs][hc:LenIs cs 2]:OpQ Tryz.prog (.convert 102 215 x) ty l bs fs (.pointer (some ⟨b,0,none⟩)):=⟨fun ρ w h m=>by
 obtain ⟨j,hj,hjs⟩:=Option.map_eq_some_iff.1 (show (Tryz.prog.info? 104).map (fun i=>i.size)=some 2 by kernel_rfl);have hh:w.heap[b]? = some (.cells cs.toArray 106 (0,0)):=m.held _ hb.mem;have e:=Lib.run_to_unsafe (P:=Tryz.prog) w ⟨b,0,none⟩ (src:=102) (dst:=215) (show Tryz.prog.underlying 102=some (.pointer 104) by kernel_rfl) (show Tryz.prog.underlying 215=some .unsafePointer by kernel_rfl) hj (by rw[hjs];decide) (e:=106) (cells:=2) (by simp[World.shape?,hh,hc.eq]) (Nat.zero_lt_succ 1);simp[xop,execOp,h.ev (x:=x) (v:=.pointer (some ⟨b,0,none⟩)),e]⟩
instance cvFrom {l:Cx}{bs:List Wk.Item}{fs:List (World→Prop)}{x:Operand}{ty b:Nat}{cs:List Value}[Ev l x (.pointer (some ⟨b,0,none⟩))][hb:HasBox bs b 106 cs][hc:LenIs cs 2]:OpQ Tryz.prog (.convert 215 102 x) ty l bs fs (.pointer (some ⟨b,0,none⟩)):=⟨fun ρ w h m=>by
 obtain ⟨j,hj,hjs⟩:=Option.map_eq_some_iff.1 (show (Tryz.prog.info? 104).map (fun i=>i.size)=some 2 by kernel_rfl);have hh:w.heap[b]? = some (.cells cs.toArray 106 (0,0)):=m.held _ hb.mem;have e:=Lib.run_from_unsafe (P:=Tryz.prog) w ⟨b,0,none⟩ (src:=215) (dst:=102) (show Tryz.prog.underlying 215=some .unsafePointer by kernel_rfl) (show Tryz.prog.underlying 102=some (.pointer 104) by kernel_rfl) hj (e:=106) (cells:=2) (by simp[World.shape?,hh,hc.eq]) (by kernel_rfl);simp[xop,execOp,h.ev (x:=x) (v:=.pointer (some ⟨b,0,none⟩)),e]⟩
instance neSame {l:Cx}{bs:List Wk.Item}{fs:List (World→Prop)}{x y:Operand}{ty b:Nat}[Ev l x (.pointer (some ⟨b,0,none⟩))][Ev l y (.pointer (some ⟨b,0,none⟩))]:OpQ Tryz.prog (.binOp .neq 102 x y 102) ty l bs fs (.bool false):=⟨fun ρ w h m=>by
 obtain ⟨j,hj,hjs⟩:=Option.map_eq_some_iff.1 (show (Tryz.prog.info? 104).map (fun i=>i.size)=some 2 by kernel_rfl);have e:=Lib.run_neq_ptr_same (P:=Tryz.prog) w (tp:=102) (te:=104) ⟨b,0,none⟩ (show Tryz.prog.underlying 102=some (.pointer 104) by kernel_rfl) hj;simp[xop,execOp,eqGuard,h.ev (x:=x) (v:=.pointer (some ⟨b,0,none⟩)),h.ev (x:=y) (v:=.pointer (some ⟨b,0,none⟩)),e]⟩
theorem run_noesc (x:Value)(w:World):(callFunc 143 #[x]).run Tryz.prog w=.ok (.value x) w:=by
 rw[run_callFunc_extern Tryz.func143 (by kernel_rfl) (by kernel_rfl) (by kernel_rfl) (e:=Extern.AbiNoEscape.same) (by kernel_rfl),Lib.run_noEscape];rfl
theorem copycheck_c (u:Value)(b:Nat)[hu:AdOk u b](v:Value)(w0:World)(hb:(wX b u v).holds w0):Ret Tryz.prog 95 [pB b] w0 (wX b u v).foot fun _ w'=>(wX b (pB b) v).holds w':=by
 rcases hu.ok with rfl | rfl
 ·
  have hb':(wX b (.pointer none) v).holds w0:=hb;refine E1 Tryz.func95 rfl Tryz.ntmps95 (Wd.itLent (fs:=[]) hb' (by simp)) ?_;intro a S;refine J14 ?_;intro a S;refine sext S (run_noesc _ _) ?_;intro a S;refine Y5 ?_;intro a w S;refine end0 S (fun _=>S.it (wX b (pB b) v))
 ·
  have hb':(wX b (pB b) v).holds w0:=hb;refine E1 Tryz.func95 rfl Tryz.ntmps95 (Wd.itLent (fs:=[]) hb' (by simp)) ?_;intro a S;refine J22 ?_;intro a S;refine end0 S (fun _=>S.it (wX b (pB b) v))
def WrR (b:Nat)(M:Nat→Prop)(w0:World)(s:List UInt8)(w:World):Prop:=∃ u p c,AdOk u b∧(wI b u p c s).holds w∧∀ k,(wI b u p c s).foot k→M k∨w0.heap.size≤k
theorem wstr_c (b:Nat)(u:Value)[AdOk u b](p:Option Addr)(c:Nat)(s t:List UInt8)(hl:s.length+t.length≤1000000000000)(w0:World)(hb:(wI b u p c s).holds w0):Ret Tryz.prog 52 [pB b,str t] w0 (wI b u p c s).foot fun _ w'=>WrR b (wI b u p c s).foot w0 (s++t) w':=by
 refine E1 Tryz.func52 rfl Tryz.ntmps52 (Wd.it2Lent (fs:=[]) hb rfl rfl (by simp)) ?_;intro a S;refine J9 ?_;intro a S;refine sit (wX b u (.slice p s.length c)) S (copycheck_c u b _ _ (S.it (wX b u (.slice p s.length c)))) rfl ?_;rintro _ a w hh hS;have S:=hS (wX b (pB b) (.slice p s.length c)) hh (fun k h=>.inl h);clear hS hh;refine J10 ?_;intro a S;refine sap S (by simp[maxLen];omega) (by omega) ?_;rintro p2 c2 a w - S;rw[←encL_append,←List.length_append]at S;refine Y14 ?_;intro a w S;replace S:=(S.sub [wX b (pB b) (.slice p2 (s++t).length c2),Wk.row 5 1 p2 (s++t).length c2 (encL (s++t))] []).toBoth;have hh:=S.it (wI b (pB b) p2 c2 (s++t));have hn:=S.wd.own (wI b (pB b) p2 c2 (s++t)) (List.mem_cons_self ..) rfl;refine end2 S (fun _=>⟨pB b,p2,c2,inferInstance,hh,hn⟩)
theorem wbyte_c (b:Nat)(u:Value)[AdOk u b](p:Option Addr)(c:Nat)(s:List UInt8)(x:UInt8)(hl:s.length+1≤1000000000000)(w0:World)(hb:(wI b u p c s).holds w0):Ret Tryz.prog 54 [pB b,.int .u8 x.toNat] w0 (wI b u p c s).foot fun _ w'=>WrR b (wI b u p c s).foot w0 (s++[x]) w':=by
 refine E1 Tryz.func54 rfl Tryz.ntmps54 (Wd.it2Lent (fs:=[]) hb rfl rfl (by simp)) ?_;intro a S;refine J8 ?_;intro a S;refine sit (wX b u (.slice p s.length c)) S (copycheck_c u b _ _ (S.it (wX b u (.slice p s.length c)))) rfl ?_;rintro _ a w hh hS;have S:=hS (wX b (pB b) (.slice p s.length c)) hh (fun k h=>.inl h);clear hS hh;refine J10 ?_;intro a S;refine sn S ?_;intro b13 a w S;refine sap S (by simp[maxLen];omega) (by omega) ?_;rintro p2 c2 a w - S;rw[show encL s++[Value.int .u8 x.toNat]=encL (s++[x]) from by rw[encL_append];rfl,show s.length+1=(s++[x]).length from by simp]at S;refine Y11 ?_;intro a w S;replace S:=(S.sub [wX b (pB b) (.slice p2 (s++[x]).length c2),Wk.row 5 1 p2 (s++[x]).length c2 (encL (s++[x]))] []).toBoth;have hh:=S.it (wI b (pB b) p2 c2 (s++[x]));have hn:=S.wd.own (wI b (pB b) p2 c2 (s++[x])) (List.mem_cons_self ..) rfl;refine end1 S (fun _=>⟨pB b,p2,c2,inferInstance,hh,hn⟩)
theorem wlen_c (b:Nat)(u:Value)[AdOk u b](p:Option Addr)(c:Nat)(s:List UInt8)(w0:World)(hb:Fx w0 (BoxF b 106 [u,.slice p s.length c])):Ret Tryz.prog 56 [pB b] w0 (fun _=>False) fun v _=>v=.int .i64 (s.length:Nat):=by
 refine E1 Tryz.func56 rfl Tryz.ntmps56 (Wd.begin (fs:=[BoxF b 106 [u,.slice p s.length c]]) (by simpa using hb)) ?_;intro a S;refine J16 ?_;intro a S;refine end1 S (fun _=>rfl)
class PosN (n:Nat):Prop where pos:0 < n
instance usd {l:Cx}{bs:List Wk.Item}{fs:List (World→Prop)}{x:Operand}{t ty n c:Nat}{a:Addr}[Ev l x (.slice (some a) n c)][hc:PosN c]:OpQ Tryz.prog (.call { callee:=.builtin .unsafeSliceData,args:=#[x],argTypes:=#[t] }) ty l bs fs (.pointer (some a)):=⟨fun ρ w h m=>by
 have e:=Lib.run_unsafeSliceData_row (P:=Tryz.prog) (w:=w) #[t] ty a n c (by have:=hc.pos;omega);simp[xop,execOp,resolve,invoke,builtin,h.ev (x:=x) (v:=.slice (some a) n c),e]⟩
section
variable {P:Program}{r:Option Nat}{ops:Array Oper}{Q:Exit→Act→World→Prop}{w0:World}{M0:Nat→Prop}{ds:List Deferred}{a:Act}{w:World}{l l':List Value}{bs bs':List Wk.Item}{fs:List (World→Prop)}
 {d:Option Nat} {ty:TypeId} {pos:String} {af:Array Edge} {rest:List Oper} {x y:Operand}
theorem sus {g c:Nat}{s:List UInt8}{pt it e:TypeId}(n:Nat)(S:St w0 M0 ds a w l bs fs)[Ev ⟨[],l⟩ x (.pointer (some ⟨g,0,none⟩))][Ev ⟨[],l⟩ y (.int .i64 (s.length:Nat))][hpt:Und P pt (.pointer e)][hr:HasRow bs (some ⟨g,0,none⟩) n e 1 c (encL s)][hrep:ReplI bs (Wk.row e 1 (some ⟨g,0,none⟩) n c (encL s)) noI bs'][hp:PutO l d (str s) l']
  (hce:P.cellsOf e=1) (h0:s≠[]) (K:∀ a w,St w0 M0 ds a w l' bs' fs→WL P r ops Q rest a w) :
  WL P r ops Q (⟨d,.call { callee:=.builtin .unsafeString,args:=#[x,y],argTypes:=#[pt,it] },ty,pos,af,none⟩::rest) a w:=by
 refine wl_plain rfl ?_;rw[semAt_nd rfl];have hrow:=S.row (some ⟨g,0,none⟩) n (e:=e) (sz:=1) (c:=c) (xs:=encL s);have hn:s.length=n:=by have:=hrow.1;rw[encL_len]at this;simpa [Enc.sz] using this
 have hpos:0 < n:=by rw[←hn];exact List.length_pos_iff.2 h0
 obtain ⟨g',cur,hg,hb,hnc,hcs,htk,hcm⟩:=own_cells hrow hpos;cases hg;have e1:=Lib.run_unsafeString_row (P:=P) w pt it ty e hpt.eq hce g cur.size (by simp[World.shape?,hb]) s h0 (by omega) (by unfold maxLen at hcm;omega) (fun j v hj=>by
  have hsl:=own_sl hrow;exact hsl.2 _ rfl j _ (by
   have:=encL_get s j v hj 0 (by decide);simpa [Enc.sz,Enc.cells] using this))
 have e2:(xop a.eval (.call { callee:=.builtin .unsafeString,args:=#[x,y],argTypes:=#[pt,it] }) ty).run P w=.ok (.value (str s)) (w.freeze ⟨g,0,none⟩ s.length):=by
  simp[xop,execOp,resolve,invoke,builtin,S.fr.ev (x:=x) (v:=.pointer (some ⟨g,0,none⟩)),S.fr.ev (x:=y) (v:=.int .i64 (s.length:Nat)),e1,str]
 simp only[e2,Oper.uponIn];have S':=S.put (d:=d) (v:=str s) (l':=l');obtain ⟨pre,post,q1,q2⟩:=hrep.ex;have hwd:=S'.wd;rw[q1]at hwd;refine K _ _ ⟨S'.slots,S'.defers,?_⟩;rw[q2];have hag:Agree (Wk.row e 1 (some ⟨g,0,none⟩) n c (encL s)).foot w (w.freeze ⟨g,0,none⟩ s.length):=by
  unfold World.freeze;rw[if_neg (by omega)];refine ⟨rfl,rfl,rfl,by simp,fun k hk hm=>?_⟩;have:g≠k:=fun h=>hm ⟨_,rfl,h.symm⟩
  simp[Array.getElem?_modify,this]
 exact hwd.swap rfl hag trivial (fun k h=>h.elim) (fun k h=>h.elim) (fun _ _ _ _=>trivial)
end
theorem wstring_c (b:Nat)(u:Value)(p:Option Addr)(c:Nat)(s:List UInt8)(h0:s≠[])(w0:World)(hb:(wI b u p c s).holds w0):Ret Tryz.prog 57 [pB b] w0 (wI b u p c s).foot fun v _=>v=str s:=by
 obtain ⟨g,cur,rfl,-,hnc,-⟩:=own_cells (show w0.ownsRow 0 5 1 (.slice p s.length c) s.length (encL s) from hb.2.1) (List.length_pos_iff.2 h0);have hP:PosN c:=⟨by have:=List.length_pos_iff.2 h0;omega⟩;refine E1 Tryz.func57 rfl Tryz.ntmps57 (Wd.it2Lent (fs:=[]) hb rfl rfl (by simp)) ?_;intro a S;refine J6 ?_;intro a S;refine c_drawE [T9 0,T9 1,T9 2,T9 3,T9 5,T9 6,T9 7,T9 8,T9 9,F9 4,F9 10,T9 11] [wX b u (.slice (some ⟨g,0,none⟩) s.length c)] S ?_;intro w S;(iterate 9 (refine dq S ?_;intro a S));refine dl (sq S ?_);intro a S;refine de S ?_;refine dl ?_;refine sus s.length S (by kernel_rfl) h0 ?_;intro a w S;refine de S ?_;refine dq S ?_;intro a S;refine dn (xtn (kT ?_));refine end1 S (fun _=>rfl)
structure LEv where
 kind:Int
 ok:Int
 ou:Int
 oname:List UInt8
 oo:Int
 og:Int
 ow:Bool
 body:LTerm
 name:List UInt8
 src:List UInt8
 term:LTerm
 user:Int
 node:Int
 num:Int
 keep:Sl Bool
abbrev cEv (x:LEv):List Value:=[.int .i64 x.kind,.int .i64 x.ok,.int .i64 x.ou,str x.oname,.int .i64 x.oo,.int .i64 x.og,.bool x.ow,.int .i64 x.body.kind,.int .i64 x.body.user,.int .i64 x.body.num,str x.body.text,.slice x.body.p x.body.kids.length x.body.cap,str x.name,str x.src,
 .int .i64 x.term.kind,.int .i64 x.term.user,.int .i64 x.term.num,str x.term.text,.slice x.term.p x.term.kids.length x.term.cap,.int .i64 x.user,.int .i64 x.node,.int .i64 x.num,.slice x.keep.p x.keep.xs.length x.keep.cap]
abbrev vEv (x:LEv):Value:=.agg ⟨cEv x⟩
def LEv.e (x:LEv):PEv:=⟨x.kind,x.ok,x.ou,x.oname,x.oo,x.og,x.ow,x.body.t,x.name,x.src,x.term.t,x.user,x.node,x.num,x.keep.xs⟩
def LEv.rng (x:LEv):Prop:=N64 x.kind∧N64 x.ok∧N64 x.ou∧N64 x.oo∧N64 x.og∧N64 x.user∧N64 x.node∧N64 x.num
instance encEv:Enc LEv:=⟨23,cEv,fun _=>rfl,fun x u hu=>by
 simp only[List.mem_cons,List.not_mem_nil,or_false]at hu;rcases hu with rfl | rfl | rfl | rfl | rfl | rfl | rfl | rfl | rfl | rfl | rfl | rfl | rfl | rfl | rfl | rfl | rfl | rfl | rfl | rfl | rfl | rfl | rfl <;> rfl⟩
abbrev zSb:Sl Bool:=⟨none,0,[]⟩
abbrev zLE:LEv:=⟨0,0,0,[],0,0,false,zeroL,[],[],zeroL,0,0,0,zSb⟩
instance layEv:Lay LEv:={ encEv with
 dflt:=zLE
 inn:=fun w x=>LtIn w x.body∧LtIn w x.term∧Lay.inn w x.keep∧x.rng
 mono:=fun w w' x h hx=>⟨LtIn.mono h x.body hx.1,LtIn.mono h x.term hx.2.1,Lay.mono w w' _ h hx.2.2.1,hx.2.2.2⟩ }
instance:SzE LEv 23:=⟨rfl,by decide⟩
instance {x:LEv} : CellsOf x (cEv x):=⟨rfl⟩
instance (priority:=850) hast_ebody {fs:List (World→Prop)}{x:LEv}[h:HasI fs x]:HasT fs x.body:=⟨fun M w hf=>(h.of M w hf).imp fun _ h=>h.1⟩
instance (priority:=850) hast_eterm {fs:List (World→Prop)}{x:LEv}[h:HasI fs x]:HasT fs x.term:=⟨fun M w hf=>(h.of M w hf).imp fun _ h=>h.2.1⟩
instance (priority:=850) hasi_ekeep {fs:List (World→Prop)}{x:LEv}[h:HasI fs x]:HasI fs x.keep:=⟨fun M w hf=>(h.of M w hf).imp fun _ h=>h.2.2.1⟩
class OLt (cs:List Value)(o:Nat):Prop where lt:o < cs.length
def atI (cs:List Value)(o:Nat):Int:=match cs[o]? with
 | some (.int _ n)=>n
 | _=>0
class IntAt (cs:List Value)(o:Nat):Prop where ex:∃ n,cs[o]? = some (.int .i64 n)
theorem IntAt.eq {cs:List Value}{o:Nat}(h:IntAt cs o):cs[o]? = some (.int .i64 (atI cs o)):=by
 obtain ⟨n,hn⟩:=h.ex;rw[atI,hn]
instance (priority:=400) nthIA {cs:List Value}{o:Nat}[h:IntAt cs o]:Nth cs o (.int .i64 (atI cs o)):=⟨h.eq⟩
instance (priority:=400) ssO {cs:List Value}{o:Nat}{v:Value}[h:OLt cs o]:SetSeg cs o [v] (cs.set o v):=⟨by
 refine ⟨by have:=h.lt;simp;omega,?_⟩;rw[List.set_eq_take_append_cons_drop,if_pos h.lt];simp⟩
structure OffS (b:Nat) where
 o:Nat
instance encOff {b:Nat} : Enc (OffS b):=⟨1,fun x=>[.pointer (some ⟨b,x.o,none⟩)],fun _=>rfl,fun x u hu=>by obtain rfl:=List.mem_singleton.1 hu;rfl⟩
instance layOff {b:Nat} : Lay (OffS b):={ encOff with dflt:=⟨0⟩,inn:=fun _ _=>True,mono:=fun _ _ _ _ h=>h }
instance {b:Nat} : SzE (OffS b) 1:=⟨rfl,by decide⟩
instance {b:Nat}{x:OffS b} : CellsOf x [.pointer (some ⟨b,x.o,none⟩)]:=⟨rfl⟩
def offE (k:Int):List Nat:=if k=1 then [1,2,4,5] else if k=3 then [21] else if k=4 then [19] else if k=5 then [20,21] else if k=6∨k=7 then [20] else []
abbrev offs (b:Nat)(k:Int):List (OffS b):=(offE k).map OffS.mk
def FieldsR (M:Nat→Prop)(b:Nat)(k:Int)(v:Value)(w:World):Prop:=∃ (p:Option Addr) (c:Nat),v=.slice p (offE k).length c∧Stable M w (GlF p (offs b k))
section
variable {w0:World}{M0:Nat→Prop}{ds:List Deferred}{a:Act}{w:World}{l:List Value}{bs:List Wk.Item}{fs:List (World→Prop)}{M:Nat→Prop}
theorem fields_end {b g:Nat}{k:Int}{cs:List Value}{T:TypeId}(S:St w0 M0 ds a w l bs fs)[hb:HasBox bs g T cs](hc:cs=encL (offs b k))(hn:M0 g∨w0.heap.size≤g)(hM:∀ k,M k→k < w0.heap.size)(h0:¬M0 g):Stable M w (GlF (some ⟨g,0,none⟩) (offs b k)):=by
 have hbx:w.heap[g]? = some (.cells cs.toArray T (0,0)):=S.wd.held _ hb.mem;have hgl:GlF (some ⟨g,0,none⟩) (offs b k) w:=⟨⟨nofun,fun ad had j u hj=>by
  cases had;rw[show (⟨g,0,none⟩:Addr).add j=⟨g,j,none⟩ from add_lit g j];simp only[World.cell?,hbx];rw[←hc]at hj;simpa using hj⟩,fun _ _=>trivial⟩
 intro w' hw';have hg:w'.heap[g]? = some (.cells cs.toArray T (0,0)):=by
  rw[hw'.blk (Array.getElem?_eq_some_iff.1 hbx).1 (fun hm=>by have:=hM _ hm;rcases hn with h | h;exact h0 h;omega),hbx]
 exact ⟨⟨nofun,fun ad had j u hj=>by
  cases had;rw[show (⟨g,0,none⟩:Addr).add j=⟨g,j,none⟩ from add_lit g j];simp only[World.cell?,hg];rw[←hc]at hj;simpa using hj⟩,fun _ _=>trivial⟩
end
theorem evf_c (b:Nat)(cs:List Value)(k:Int)(hk0:∃ r,cs=.int .i64 k::r)(M:Nat→Prop)(w0:World)(hM:∀ k,M k→k < w0.heap.size)(hb:Fx w0 (BoxF b 47 cs)) :
  Ret Tryz.prog 98 [pB b] w0 (fun _=>False) fun v w'=>FieldsR M b k v w':=by
 obtain ⟨r,rfl⟩:=hk0;refine E1 Tryz.func98 rfl Tryz.ntmps98 (Wd.begin (fs:=[BoxF b 47 (.int .i64 k::r)]) (by simpa using hb)) ?_;intro a S;refine J21 ?_;clear S;intro a S;refine kC S (fun h2=>?_) (fun h2=>?_);refine kS ?_;refine c_drawD [T9 0,T9 1,T9 2,T9 3,T9 4,T9 5,T9 6,T9 7,T9 8,T9 9,T9 10,T9 11,T9 12,T9 13,T9 14,T9 15,F9 16,T9 17] [] S ?_;clear S;intro w S;(iterate 16 (refine dq S ?_;clear S;intro a S));refine dl (sn S ?_);clear S;intro b25 a w S;refine de S ?_;refine dq S ?_;clear S;intro a S;refine dn (xtn (kT (xbr (xtr ?_))));have hk:k=1:=by simpa using h2
 have hs:=fields_end (M:=M) (b:=b) (k:=k) (g:=b25) S (by rw[hk];rfl) (S.boxNew b25) hM (fun h=>h);refine end1 S (fun _=>⟨some ⟨b25,0,none⟩,4,by rw[hk];rfl,hs⟩);refine J6 ?_;clear S;intro a S;refine kC S (fun h4=>?_) (fun h4=>?_);refine J5 ?_;clear S;intro a S;refine sn S ?_;clear S;intro b31 a w S;refine J6 ?_;clear S;intro a S;have hk:k=3:=by simpa using h4
 have hs:=fields_end (M:=M) (b:=b) (k:=k) (g:=b31) S (by rw[hk];rfl) (S.boxNew b31) hM (fun h=>h);refine end1 S (fun _=>⟨some ⟨b31,0,none⟩,1,by rw[hk];rfl,hs⟩);refine J6 ?_;clear S;intro a S;refine kC S (fun h6=>?_) (fun h6=>?_);refine J5 ?_;clear S;intro a S;refine sn S ?_;clear S;intro b37 a w S;refine J6 ?_;clear S;intro a S;have hk:k=4:=by simpa using h6
 have hs:=fields_end (M:=M) (b:=b) (k:=k) (g:=b37) S (by rw[hk];rfl) (S.boxNew b37) hM (fun h=>h);refine end1 S (fun _=>⟨some ⟨b37,0,none⟩,1,by rw[hk];rfl,hs⟩);refine J6 ?_;clear S;intro a S;refine kC S (fun h8=>?_) (fun h8=>?_);refine kS ?_;refine c_drawD [T9 0,T9 1,T9 2,T9 3,T9 4,T9 5,F9 6,T9 7] [] S ?_;clear S;intro w S;(iterate 6 (refine dq S ?_;clear S;intro a S));refine dl (sn S ?_);clear S;intro b46 a w S;refine de S ?_;refine dq S ?_;clear S;intro a S;refine dn (xtn (kT (xbr (xtr ?_))));have hk:k=5:=by simpa using h8
 have hs:=fields_end (M:=M) (b:=b) (k:=k) (g:=b46) S (by rw[hk];rfl) (S.boxNew b46) hM (fun h=>h);refine end1 S (fun _=>⟨some ⟨b46,0,none⟩,2,by rw[hk];rfl,hs⟩);refine J7 ?_;clear S;intro a S;refine kC S (fun h10=>?_) (fun h10=>?_);refine kK (xtn ?_);refine kC S (fun h10=>?_) (fun h10=>?_);refine J5 ?_;clear S;intro a S;refine sn S ?_;clear S;intro b53 a w S;refine J6 ?_;clear S;intro a S;have hk:k=6:=of_decide_eq_true (by assumption);have hs:=fields_end (M:=M) (b:=b) (k:=k) (g:=b53) S (by rw[hk];rfl) (S.boxNew b53) hM (fun h=>h);refine end1 S (fun _=>⟨some ⟨b53,0,none⟩,1,by rw[hk];rfl,hs⟩);refine J9 ?_;clear S;intro a S;exfalso;have hk:k=6:=of_decide_eq_true (by assumption);rw[hk]at h10;cases h10;refine J5 ?_;clear S;intro a S;refine kC S (fun h11=>?_) (fun h11=>?_);refine J5 ?_;clear S;intro a S;refine sn S ?_;clear S;intro b53 a w S;refine J6 ?_;clear S;intro a S;have hk:k=7:=by simpa using h11
 have hs:=fields_end (M:=M) (b:=b) (k:=k) (g:=b53) S (by rw[hk];rfl) (S.boxNew b53) hM (fun h=>h);refine end1 S (fun _=>⟨some ⟨b53,0,none⟩,1,by rw[hk];rfl,hs⟩);refine J9 ?_;clear S;intro a S;have hk:offE k=[]:=by
  simp only[decide_eq_false_iff_not]at h2 h4 h6 h8 h10 h11;simp[offE,h2,h4,h6,h8,h10,h11]
 refine end1 S (fun _=>⟨none,0,by rw[hk];rfl,?_⟩);rw[offs,hk];exact fun _ _=>gl_nil
theorem nthG_off (b:Nat)(k:Int)(j:Nat)(h:j < (offE k).length):(nthG (offs b k) j).o=(offE k).getD j 0:=by
 have h1:=nthG_get (xs:=offs b k) (k:=j) (by simpa using h);rw[List.getElem?_map,List.getElem?_eq_getElem h]at h1;simp only[Option.map_some,Option.some.injEq]at h1;rw[←h1,List.getD_eq_getElem?_getD,List.getElem?_eq_getElem h];rfl
def putOff (src:List Value):List Nat→List Value→List Value
 | [],cs=>cs
 | o::os,cs=>putOff src os (cs.set o (.int .i64 (atI src o)))
theorem putOff_snoc (src:List Value)(o:Nat):∀ (os:List Nat) (cs:List Value),putOff src (os++[o]) cs=(putOff src os cs).set o (.int .i64 (atI src o))
 | [],_cs=>rfl
 | _q::os,_cs=>putOff_snoc src o os _
theorem putOff_len (src:List Value):∀ (os:List Nat) (cs:List Value),(putOff src os cs).length=cs.length
 | [],_=>rfl
 | q::os,cs=>by rw[putOff,putOff_len src os,List.length_set]
theorem offE_ints (x:LEv){o:Nat}(h:o∈offE x.kind):(∃ n,(cEv x)[o]? = some (.int .i64 n))∧o < 23:=by
 unfold offE at h
 repeat' split at h
 all_goals simp only[List.mem_cons,List.not_mem_nil,or_false]at h
 ·rcases h with rfl | rfl | rfl | rfl <;> exact ⟨⟨_,rfl⟩,by omega⟩
 ·obtain rfl:=h;exact ⟨⟨_,rfl⟩,by omega⟩
 ·obtain rfl:=h;exact ⟨⟨_,rfl⟩,by omega⟩
 ·rcases h with rfl | rfl <;> exact ⟨⟨_,rfl⟩,by omega⟩
 ·obtain rfl:=h;exact ⟨⟨_,rfl⟩,by omega⟩
abbrev zCE (k:Int):List Value:=[.int .i64 k,.int .i64 0,.int .i64 0,.string ⟨#[]⟩,.int .i64 0,.int .i64 0,.bool false,.int .i64 0,.int .i64 0,.int .i64 0,.string ⟨#[]⟩,.slice none 0 0,.string ⟨#[]⟩,.string ⟨#[]⟩,.int .i64 0,.int .i64 0,.int .i64 0,.string ⟨#[]⟩,.slice none 0 0,.int .i64 0,.int .i64 0,.int .i64 0,.slice none 0 0]
theorem offE_len (k:Int):(offE k).length≤4:=by
 unfold offE
 repeat' split
 all_goals simp
def midE (x:LEv):LEv:={ zLE with kind:=x.kind,ok:=if x.kind=1 then x.ok else 0,ou:=if x.kind=1 then x.ou else 0,oo:=if x.kind=1 then x.oo else 0,og:=if x.kind=1 then x.og else 0,num:=if x.kind=3∨x.kind=5 then x.num else 0,user:=if x.kind=4 then x.user else 0,node:=if x.kind=5∨x.kind=6∨x.kind=7 then x.node else 0 }
theorem mid_cells (x:LEv):putOff (cEv x) (offE x.kind) (zCE x.kind)=cEv (midE x):=by
 unfold offE midE
 by_cases h1:x.kind=1
 simp only[h1,if_pos];rfl
 by_cases h3:x.kind=3
 simp only[h3];rfl
 by_cases h4:x.kind=4
 simp only[h4];rfl
 by_cases h5:x.kind=5
 simp only[h5];rfl
 by_cases h6:x.kind=6
 simp only[h6];rfl
 by_cases h7:x.kind=7
 simp only[h7];rfl;simp only[if_neg h1,if_neg h4,h6,h7,h3,h5,or_self,if_false];rfl
theorem n64_if {c:Prop}[Decidable c]{n:Int}(h:N64 n):N64 (if c then n else 0):=by
 split;exact h;exact ⟨by omega,by omega⟩
theorem mid_rng {x:LEv}(h:x.rng):(midE x).rng:=⟨h.1,n64_if h.2.1,n64_if h.2.2.1,n64_if h.2.2.2.1,n64_if h.2.2.2.2.1,n64_if h.2.2.2.2.2.1,n64_if h.2.2.2.2.2.2.1,n64_if h.2.2.2.2.2.2.2⟩
theorem zeroLT:zeroL.t=zeroT:=by rw[LTerm.t_eq];rfl
def SpokenR (M:Nat→Prop)(x:LEv)(v:Value)(w:World):Prop:=∃ y:LEv,v=vEv y∧Stable M w (InF y)∧y.e=spokenE x.e
theorem spoken_c (x:LEv)(M:Nat→Prop)(w0:World)(hM:∀ k,M k→k < w0.heap.size)(hf:Stable M w0 (InF x)):Ret Tryz.prog 106 [vEv x] w0 (fun _=>False) fun v w'=>SpokenR M x v w':=by
 refine E1 Tryz.func106 rfl Tryz.ntmps106 (Wd.beginM (M:=M) (fs:=[InF x]) hM (by simpa using hf)) ?_;intro a S;refine kS (kR ?_);refine sa S ?_;intro b1 a w S;refine sa S ?_;intro b2 a w S;refine J7 ?_;intro a S;refine sa S ?_;intro b3 a w S;refine Y5 ?_;intro a w S;refine sr S (evf_c b3 (zCE x.kind) x.kind ⟨_,rfl⟩ _ w (foots_lt S) (BoxF.stable (S.boxF b3) (fun h=>h))) ?_;rintro _ a w ⟨p4,c4,rfl,hf4⟩ S;replace S:=S.add hf4;refine J6 ?_;intro a S;refine sr S (evf_c b1 (cEv x) x.kind ⟨_,rfl⟩ _ w (foots_lt S) (BoxF.stable (S.boxF b1) (fun h=>h))) ?_;rintro _ a w ⟨p11,c11,rfl,hf11⟩ S;replace S:=S.add hf11;refine J5 ?_;intro a S;have hol:=offE_len x.kind;refine c_fore2 S (fun(j:Nat) (cs:List Value) uu=>[(5,uu 5),(0,uu 6),(6,.int .i64 (j:Nat)),(0,uu 14),(0,uu 15),(0,uu 16),(0,uu 17),(0,uu 18),(0,uu 19),(0,uu 20),(0,uu 21),(0,uu 22),(0,uu 23),(0,uu 24),(0,uu 25),(0,uu 26)]) (fun(j:Nat) (cs:List Value)=>[Wk.box b3 47 cs,Wk.box b2 47 (zCE 0),Wk.box b1 47 (cEv x),ext M]) (fun(j:Nat) (cs:List Value)=>[GlF p11 (offs b1 x.kind),GlF p4 (offs b3 x.kind),InF x]) (fun(j:Nat) (cs:List Value)=>j≤(offE x.kind).length∧cs=putOff (cEv x) ((offE x.kind).take j) (zCE x.kind)) (fun(j:Nat) (cs:List Value)=>(offE x.kind).length - j) (0) (zCE x.kind) ?_ S.uu ?_ ?_;exact ⟨Nat.zero_le _,rfl⟩
 first | exact S | exact S.sub _ _
 clear S;rintro j cs uu a w ⟨hj,hcs⟩ S;refine J6 ?_;intro a S;refine kC S (fun h4=>?_) (fun h4=>?_);refine kK (xtn (kS (kB (kS ?_))));have hjl:j < (offE x.kind).length:=by simp at h4;omega
 have hK:KLt j (offE x.kind).length:=⟨hjl⟩;have hK1:KLt j (offs b1 x.kind).length:=⟨by simpa using hjl⟩;have hK3:KLt j (offs b3 x.kind).length:=⟨by simpa using hjl⟩;have hmem:(offE x.kind).getD j 0∈offE x.kind:=by
  rw[List.getD_eq_getElem?_getD,List.getElem?_eq_getElem hjl];exact List.getElem_mem hjl
 obtain ⟨hi,hlt⟩:=offE_ints x hmem;have hIA:IntAt (cEv x) ((offE x.kind).getD j 0):=⟨hi⟩;have hOL:OLt cs ((offE x.kind).getD j 0):=⟨by rw[hcs,putOff_len];exact hlt⟩;refine J4 ?_;intro a S;rw[nthG_off b1 x.kind j hjl]at S;refine J4 ?_;intro a S;refine c_drawD [T9 0,T9 1,T9 2,T9 3,T9 4,T9 5,T9 6,T9 7,F9 8] [b3] S ?_;intro w S;refine J4 ?_;intro a S;rw[nthG_off b3 x.kind j hjl]at S;(iterate 4 (refine dq S ?_;intro a S));refine dl (sw S ?_);intro a w S;refine de S ?_;refine dn (xbn (xtn (kR ?_)));(iterate 2 (refine sq S ?_;intro a S));refine kN (xtn ?_);rw[w6 ((j:Int)+1)]at S;refine ⟨j+1,cs.set ((offE x.kind).getD j 0) (.int .i64 (atI (cEv x) ((offE x.kind).getD j 0))),S.uu,⟨hjl,?_⟩,S.sub _ _,by omega⟩;have ht:(offE x.kind).take (j+1)=(offE x.kind).take j++[(offE x.kind).getD j 0]:=by
  rw[List.take_add_one,List.getD_eq_getElem?_getD,List.getElem?_eq_getElem hjl];rfl
 rw[ht,putOff_snoc,hcs];refine kE (xte (xte (xbe (xtn (kS (kS ?_))))));have hje:j=(offE x.kind).length:=by simp at h4;omega
 rw[hje,List.take_length,mid_cells]at hcs;subst hcs;refine J12 ?_;intro a S;refine kC S (fun h9=>?_) (fun h9=>?_);refine Y20 ?_;intro a w S;refine Y9 ?_;intro a w S;have hk:x.kind=1:=by simpa using h9
 have hlat:=S.laterFact (M:=M) (Φ:=InF x) (by simp);refine end1 S (fun _=>⟨{ midE x with ow:=x.ow,oname:=x.oname,body:=x.body },rfl,hlat.imp fun w h=>⟨h.1,zeroL_in w,⟨Nat.le_refl _,Nat.zero_le _,gl_nil⟩,mid_rng h.2.2.2⟩,?_⟩);simp[zeroLT,LEv.e,midE,spokenE,hk];refine J6 ?_;intro a S;refine kC S (fun h11=>?_) (fun h11=>?_);refine Y19 ?_;intro a w S;have hk:x.kind=2:=by simpa using h11
 have hlat:=S.laterFact (M:=M) (Φ:=InF x) (by simp);refine end1 S (fun _=>⟨{ midE x with name:=x.name,term:=x.term },rfl,hlat.imp fun w h=>⟨zeroL_in w,h.2.1,⟨Nat.le_refl _,Nat.zero_le _,gl_nil⟩,mid_rng h.2.2.2⟩,?_⟩);simp[zeroLT,LEv.e,midE,spokenE,hk];refine J6 ?_;intro a S;refine kC S (fun h13=>?_) (fun h13=>?_);refine Y19 ?_;intro a w S;have hk:x.kind=3:=by simpa using h13
 have hlat:=S.laterFact (M:=M) (Φ:=InF x) (by simp);refine end1 S (fun _=>⟨{ midE x with name:=x.name,src:=x.src },rfl,hlat.imp fun w h=>⟨zeroL_in w,zeroL_in w,⟨Nat.le_refl _,Nat.zero_le _,gl_nil⟩,mid_rng h.2.2.2⟩,?_⟩);simp[zeroLT,LEv.e,midE,spokenE,hk];refine J6 ?_;intro a S;refine kC S (fun h15=>?_) (fun h15=>?_);refine Y15 ?_;intro a w S;have hk:x.kind=6:=by simpa using h15
 have hlat:=S.laterFact (M:=M) (Φ:=InF x) (by simp);refine end1 S (fun _=>⟨{ midE x with keep:=x.keep },rfl,hlat.imp fun w h=>⟨zeroL_in w,zeroL_in w,h.2.2.1,mid_rng h.2.2.2⟩,?_⟩);simp[zeroLT,LEv.e,midE,spokenE,hk];refine Y10 ?_;intro a w S;simp only[decide_eq_false_iff_not]at h9 h11 h13 h15;have hlat:=S.laterFact (M:=M) (Φ:=InF x) (by simp);refine end1 S (fun _=>⟨midE x,rfl,hlat.imp fun w h=>⟨zeroL_in w,zeroL_in w,⟨Nat.le_refl _,Nat.zero_le _,gl_nil⟩,mid_rng h.2.2.2⟩,?_⟩)
 by_cases h4k:x.kind=4
 simp[zeroLT,LEv.e,midE,spokenE,h4k]
 by_cases h5k:x.kind=5
 simp[zeroLT,LEv.e,midE,spokenE,h5k]
 by_cases h7k:x.kind=7
 simp[zeroLT,LEv.e,midE,spokenE,h7k];simp[zeroLT,LEv.e,midE,spokenE,h9,h11,h13,h15,h4k,h5k,h7k]
theorem equalBo_c (xs ys:List Bool)(p q:Option Addr)(c e:Nat)(w0:World)(hl:xs.length≤1000000000)(hx:Fx w0 (GlF p xs))(hy:Fx w0 (GlF q ys)) :
  Ret Tryz.prog 94 [.slice p xs.length c,.slice q ys.length e] w0 (fun _=>False) fun v _=>v=.bool (decide (xs=ys)):=by
 refine E1 Tryz.func94 rfl Tryz.ntmps94 (Wd.begin (fs:=[GlF p xs,GlF q ys]) (by simp;exact ⟨hx,hy⟩)) ?_;intro a S;refine J15 ?_;intro a S;refine kC S (fun h1=>?_) (fun h1=>?_);refine J7 ?_;intro a S;have hne:xs≠ys:=fun h=>by rw[h]at h1;simp at h1
 refine end1 S (fun _=>?_);rw[decide_eq_false hne];refine J11 ?_;intro a S;have hle:xs.length=ys.length:=by simp at h1;omega
 refine c_forb1 S (fun(k:Nat) uu=>[(4,uu 4),(0,uu 5),(7,.int .i64 (k:Nat)),(0,uu 14),(0,uu 15),(0,uu 16),(0,uu 17),(0,uu 18),(0,uu 19),(0,uu 20),(0,uu 21),(0,uu 22),(0,uu 23),(0,uu 24),(0,uu 25)]) (fun(k:Nat)=>k≤xs.length∧xs.take k=ys.take k) (fun(k:Nat)=>xs.length - k) (0) ?_ S.uu ?_ ?_;exact ⟨Nat.zero_le _,rfl⟩
 first | exact S | exact S.sub _ _
 clear S;rintro k uu a w ⟨hk,hrel⟩ S;refine J6 ?_;intro a S;refine kC S (fun h4=>?_) (fun h4=>?_);refine kK (xtn (kS (kB (kS ?_))));have hkl:k < xs.length:=by simpa using h4
 have hK1:KLt k xs.length:=⟨hkl⟩;have hK2:KLt k ys.length:=⟨by omega⟩;refine J6 ?_;intro a S;refine c_drawD [T9 0,T9 1,T9 2,T9 3,T9 4,T9 5,T9 6,T9 7,T9 8] [] S ?_;intro w S;(iterate 9 (refine dq S ?_;intro a S));refine dn (xtn ?_);refine kC S (fun h6=>?_) (fun h6=>?_);refine J11 ?_;intro a S;have h9:nthG xs k≠nthG ys k:=by simpa using h6
 have hne:xs≠ys:=fun h=>h9 (by rw[h])
 refine end1 S (fun _=>?_);rw[decide_eq_false hne];refine J8 ?_;intro a S;have h9:nthG xs k=nthG ys k:=by simpa using h6
 rw[w6 ((k:Int)+1)]at S;exact ⟨k+1,S.uu,⟨hkl,by rw[nthG_take hkl,nthG_take (show k < ys.length by omega),hrel,h9]⟩,S.sub _ _,by omega⟩;refine J11 ?_;intro a S;have h9:xs.length≤k:=by simpa using h4
 rw[List.take_of_length_le h9,List.take_of_length_le (by omega)]at hrel;refine end1 S (fun _=>?_);rw[decide_eq_true hrel]
class FitE (x:LEv):Prop where
 keep:x.keep.xs.length≤1000000
instance callKeep {fs:List (World→Prop)}{bs:List Wk.Item}{x y:LEv}[h:HasI fs x][h2:HasI fs y][hc:FitE x]:CallV Tryz.prog 94 [.slice x.keep.p x.keep.xs.length x.keep.cap,.slice y.keep.p y.keep.xs.length y.keep.cap] bs fs (.bool (decide (x.keep.xs=y.keep.xs))):=⟨fun w m=>equalBo_c x.keep.xs y.keep.xs x.keep.p y.keep.p x.keep.cap y.keep.cap w (by have:=hc.keep;omega) ((m.i0 x).imp fun _ h=>h.2.2.1.2.2) ((m.i0 y).imp fun _ h=>h.2.2.1.2.2)⟩
abbrev cOp (x:LEv):List Value:=[.int .i64 x.ok,.int .i64 x.ou,str x.oname,.int .i64 x.oo,.int .i64 x.og,.bool x.ow,.int .i64 x.body.kind,.int .i64 x.body.user,.int .i64 x.body.num,str x.body.text,.slice x.body.p x.body.kids.length x.body.cap]
theorem evsame_c (x y:LEv)(hfit:FitE x)(w0:World)(hx:Fx w0 (InF x))(hy:Fx w0 (InF y)):Ret Tryz.prog 50 [vEv x,vEv y] w0 (fun _=>False) fun v _=>v=.bool (sameE x.e y.e):=by
 refine E1 Tryz.func50 rfl Tryz.ntmps50 (Wd.begin (fs:=[InF x,InF y]) (by simp;exact ⟨hx,hy⟩)) ?_;intro a S;refine kS (kR ?_);refine sa S ?_;intro b2 a w S;refine sa S ?_;intro b3 a w S;refine J4 ?_;intro a S;refine c_drwe2 (.q 0 (.q 1 (.q 2 (.q 3 (.b2 4 5 (.l 5 (.l 6 (.l 7 (.e)))) (.l 4 (.l 6 (.l 7 (.e))))))))) S (fun(ba:Nat) (bb:Nat) uu=>[(5,.pointer (some ⟨ba,0,none⟩)),(0,.pointer (some ⟨bb,0,none⟩)),(2,uu 9),(0,uu 10),(0,uu 11),(0,uu 12)]) [Wk.box b3 47 (cEv y),Wk.box b2 47 (cEv x)] (fun(ba:Nat) (bb:Nat)=>[Wk.box ba 44 (cOp x),Wk.box bb 44 (cOp y),Wk.box b3 47 (cEv y),Wk.box b2 47 (cEv x)]) (fun(ba:Nat) (bb:Nat)=>[InF x,InF y]) (fun(ba:Nat) (bb:Nat)=>True) ?_ ?_
 ·intro w S
  (iterate 4 (refine tq S ?_;intro a S));refine tb2 ?_ ?_
  ·refine sa S ?_;intro b5 a w S;refine te S ?_;refine tl (sa S ?_);intro b6 a w S;refine te S ?_;refine tl (sw S ?_);intro a w S;refine te S ?_;refine tl (sw S ?_);intro a w S;refine te S ?_;refine tn ?_
   first
   | exact ⟨b5,b6,S.uu,trivial,S.sub _ _⟩
   | exact ⟨b5,b6,S.uu,trivial,(S.perm _ (List.Perm.swap _ _ _)).sub _ _⟩
  ·refine sa S ?_;intro b6 a w S;refine te S ?_;refine tl (sa S ?_);intro b5 a w S;refine te S ?_;refine tl (sw S ?_);intro a w S;refine te S ?_;refine tl (sw S ?_);intro a w S;refine te S ?_;refine tn ?_
   first
   | exact ⟨b5,b6,S.uu,trivial,S.sub _ _⟩
   | exact ⟨b5,b6,S.uu,trivial,(S.perm _ (List.Perm.swap _ _ _)).sub _ _⟩
 clear S;rintro ba bb uu a w hrel S;refine J20 ?_;intro a S;refine J20 ?_;intro a S;refine Y20 ?_;intro a w S;refine J20 ?_;intro a S;refine J20 ?_;intro a S;refine Y22 ?_;intro a w S;refine end1 S (fun _=>?_);rfl
theorem evsEq_c (xs ys:List LEv)(p q:Option Addr)(c e:Nat)(w0:World)(hl:xs.length≤1000000)(hls:∀ s∈xs,FitE s)(hx:Fx w0 (GlF p xs))(hy:Fx w0 (GlF q ys)) :
  Ret Tryz.prog 49 [.slice p xs.length c,.slice q ys.length e,.func (.func 50) #[] #[]] w0 (fun _=>False) fun v _=>v=.bool (decide (xs.map LEv.e=ys.map LEv.e)):=by
 refine E1 Tryz.func49 rfl Tryz.ntmps49 (Wd.begin (fs:=[GlF p xs,GlF q ys]) (by simp;exact ⟨hx,hy⟩)) ?_;intro a S;refine J15 ?_;intro a S;refine kC S (fun h1=>?_) (fun h1=>?_);refine J7 ?_;intro a S;have hne:¬xs.map LEv.e=ys.map LEv.e:=fun h=>by
  have:=congrArg List.length h;rw[List.length_map,List.length_map]at this;rw[this]at h1;simp at h1
 refine end1 S (fun _=>?_);rw[decide_eq_false hne];refine J11 ?_;intro a S;have hle:xs.length=ys.length:=by simp at h1;omega
 refine c_fore1 S (fun(k:Nat) uu=>[(6,uu 6),(0,uu 7),(0,uu 8),(0,uu 9),(7,.int .i64 (k:Nat)),(0,uu 18),(0,uu 19),(0,uu 20),(0,uu 21),(0,uu 22),(0,uu 23),(0,uu 24),(0,uu 25),(0,uu 26),(0,uu 27),(0,uu 28),(0,uu 29),(0,uu 30),(0,uu 31)]) (fun(k:Nat)=>[]) (fun(k:Nat)=>[GlF p xs,GlF q ys]) (fun(k:Nat)=>k≤xs.length∧(xs.map LEv.e).take k=(ys.map LEv.e).take k) (fun(k:Nat)=>xs.length - k) (0) ?_ S.uu ?_ ?_;exact ⟨Nat.zero_le _,rfl⟩
 first | exact S | exact S.sub _ _
 clear S;rintro k uu a w ⟨hk,hrel⟩ S;refine J6 ?_;intro a S;refine kC S (fun h4=>?_) (fun h4=>?_);refine kK (xtn (kS (kB (kS ?_))));have hkl:k < xs.length:=by have:=of_decide_eq_true h4;omega
 have hK1:KLt k xs.length:=⟨hkl⟩;have hK2:KLt k ys.length:=⟨by omega⟩;have hx1:(xs.map LEv.e)[k]? = some (nthG xs k).e:=by rw[List.getElem?_map,nthG_get hkl];rfl
 have hy1:(ys.map LEv.e)[k]? = some (nthG ys k).e:=by rw[List.getElem?_map,nthG_get (by omega)];rfl
 refine J4 ?_;intro a S;refine sa S ?_;intro b8 a w S;refine Y10 ?_;intro a w S;refine sa S ?_;intro b9 a w S;refine Y8 ?_;intro a w S;refine sr S (evsame_c (nthG xs k) (nthG ys k) (hls _ (nthG_mem hkl)) _ (S.i0 (nthG xs k)) (S.i0 (nthG ys k))) ?_;rintro _ a w rfl S;refine J3 ?_;intro a S;refine kC S (fun h7=>?_) (fun h7=>?_);refine J11 ?_;intro a S;have h9:¬(nthG xs k).e=(nthG ys k).e:=fun h=>by rw[sameE_iff.2 h]at h7;cases h7
 have hne:¬xs.map LEv.e=ys.map LEv.e:=fun h=>by
  rw[h,hy1]at hx1;exact h9 (Option.some.inj hx1).symm
 refine end1 S (fun _=>?_);rw[decide_eq_false hne];refine J8 ?_;intro a S;have h9:(nthG xs k).e=(nthG ys k).e:=sameE_iff.1 (by simpa using h7);rw[w6 ((k:Int)+1)]at S;exact ⟨k+1,S.uu,⟨hkl,by rw[List.take_add_one,List.take_add_one,hx1,hy1,hrel,h9]⟩,S.sub _ _,by omega⟩;refine J11 ?_;intro a S;have h9:xs.length≤k:=by have:=of_decide_eq_false h4;omega
 rw[List.take_of_length_le (by rw[List.length_map];omega),List.take_of_length_le (by rw[List.length_map];omega)]at hrel;refine end1 S (fun _=>?_);rw[decide_eq_true hrel]
end Go.Proofs.YtlgnhhebeandkaaGreatDoor