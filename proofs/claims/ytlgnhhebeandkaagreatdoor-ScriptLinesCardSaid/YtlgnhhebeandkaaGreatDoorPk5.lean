/- 5: a part of this claim's texts, joined: ScrI ScrJ PlainScriptD ScrK ScrL ScrM ScrN ScrO ScrP ScrQ ScrR. -/
import Derived.Test.YtlgnhhebeandkaaGreatDoorPk4
namespace Go.Proofs.YtlgnhhebeandkaaGreatDoor
open Go Go.Wk
set_option synthInstance.maxSize 100000
set_option synthInstance.maxHeartbeats 400000
set_option maxRecDepth 100000
theorem index_none {c:UInt8} : ∀ {s:List UInt8},(cutB c s).2=none→Lib.indexByte s c = -1
 | [],_=>rfl
 | x::xs,h=>by
  rw[cutB]at h;split at h;cases h
  rename_i hx
  have ih:=index_none (c:=c) (s:=xs) h;rw[Lib.indexByte,if_neg (by simpa using hx),ih];rfl
theorem index_some {c:UInt8} : ∀ {s r:List UInt8},(cutB c s).2=some r→Lib.indexByte s c=((cutB c s).1.length:Nat)
 | [],_,h=>by cases h
 | x::xs,r,h=>by
  rw[cutB]at h⊢;split at h
  rename_i hx
  rw[if_pos hx,Lib.indexByte,if_pos (by simpa using hx)];rfl
  rename_i hx
  have ih:=index_some (c:=c) (s:=xs) h;rw[if_neg hx,Lib.indexByte,if_neg (by simpa using hx),ih,if_neg (by simp)];simp
theorem index1_c (s:List UInt8)(c:UInt8)(w0:World):Ret Tryz.prog 107 [str s,str [c]] w0 (fun _=>False) fun v _=>v=.int .i64 (Lib.indexByte s c):=by
 refine Calls.mono (Any.stringslite_Index_one Tryz.lays219 ⟨s.toArray⟩ c w0) ?_;rintro e w' ⟨rfl,rfl⟩;exact ⟨_,rfl,Agree.refl _ _,rfl⟩
def cutV (c:UInt8)(s:List UInt8):Value:=.tuple ⟨[str (cutB c s).1,str ((cutB c s).2.getD []),.bool (cutB c s).2.isSome]⟩
theorem cutI_c (s:List UInt8)(c:UInt8)(hl:s.length≤1000000)(w0:World):Ret Tryz.prog 62 [str s,str [c]] w0 (fun _=>False) fun v _=>v=cutV c s:=by
 cases h:(cutB c s).2 with
 | none=>
  have hi:=index_none h;refine E1 Tryz.func62 rfl Tryz.ntmps62 (Wd.start w0) ?_;intro a S;refine J12 ?_;intro a S;refine sr S (index1_c s c _) ?_;rintro _ a w rfl S;rw[hi]at S;refine J21 ?_;intro a S;refine end3 S (fun _=>?_);have h1:=(cutB_none (c:=c) (l:=s) (s:=(cutB c s).1)).1 (by rw[←h]);rw[cutV,h,←h1.1];rfl
 | some r=>
  have hi:=index_some h;have h1:=(cutB_some (c:=c) (l:=s) (s:=(cutB c s).1) (r:=r)).1 (by rw[←h]);have hsl:=congrArg List.length h1.1;simp only[List.length_append,qqA]at hsl;obtain ⟨n,hn⟩:∃ n,n=(cutB c s).1.length:=⟨_,rfl⟩;rw[←hn]at hi hsl;have hL1:LeC n s.length:=⟨by omega⟩;have hL2:LeC (n+1) s.length:=⟨by omega⟩;refine E1 Tryz.func62 rfl Tryz.ntmps62 (Wd.start w0) ?_;intro a S;refine J12 ?_;intro a S;refine sr S (index1_c s c _) ?_;rintro _ a w rfl S;rw[hi]at S;refine J9 ?_;intro a S;refine kC S (fun h2=>?_) (fun h2=>?_);refine kS ?_;refine c_drawD [T9 0,T9 1,T9 2,T9 3,T9 4,T9 5,T9 6,T9 7,T9 8,T9 9,T9 10,T9 11] [] S ?_;intro w S;refine J8 ?_;intro a S;rw[show IntKind.i64.wrap ((n:Int)+(([c]:List UInt8).length:Nat))=((n+1:Nat):Int) from by rw[w64 _ (by simp;omega) (by simp;omega)];simp]at S;(iterate 4 (refine dq S ?_;intro a S));refine dn (xtn (kT (xtr ?_)));refine end3 S (fun _=>?_);have e1:s.take n=(cutB c s).1:=by
   conv=>lhs;rw[h1.1]
   rw[hn,List.take_left'];rfl
  have e2:s.drop (n+1)=r:=by
   conv=>lhs;rw[h1.1]
   rw[hn,show (cutB c s).1.length+1=((cutB c s).1++[c]).length from by simp,show (cutB c s).1++c::r=((cutB c s).1++[c])++r from by simp,List.drop_left'];rfl
  rw[cutV,h,List.take_length,e1,e2];rfl;refine J11 ?_;intro a S;exfalso;simp at h2
theorem cut_c (s:List UInt8)(c:UInt8)(hl:s.length≤1000000)(w0:World):Ret Tryz.prog 19 [str s,str [c]] w0 (fun _=>False) fun v _=>v=cutV c s:=by
 refine E1 Tryz.func19 rfl Tryz.ntmps19 (Wd.start w0) ?_;intro a S;refine J11 ?_;intro a S;refine sr S (cutI_c s c hl _) ?_;rintro _ a w rfl S;rw[cutV]at S;refine J9 ?_;intro a S;refine end3 S (fun _=>rfl)
def preB (c:UInt8):List UInt8→Bool
 | []=>false
 | x::_=>decide (x=c)
instance (priority:=50) opFalse {P:Program}{op:Op}{ty:TypeId}{cs:List Bool}{l:List Value}{bs:List Wk.Item}{fs:List (World→Prop)} : OpQ P op ty ⟨false::cs,l⟩ bs fs undef:=⟨fun ρ w h _=>by
 have:=h.1 false (by simp);cases this⟩
theorem hasprefix_c (s:List UInt8)(c:UInt8)(hl:s.length≤1000000)(w0:World):Ret Tryz.prog 228 [str s,str [c]] w0 (fun _=>False) fun v _=>v=.bool (preB c s):=by
 cases s with
 | nil=>
  refine E1 Tryz.func228 rfl Tryz.ntmps228 (Wd.start w0) ?_;intro a S;refine J12 ?_;intro a S;rw[show decide (((([c]:List UInt8).length:Nat):Int)≤((([]:List UInt8).length:Nat):Int))=false from by simp]at S;refine J12 ?_;intro a S;refine end1 S (fun _=>?_);simp[preB]
 | cons x s=>
  have hL1:LeC ([c]:List UInt8).length (x::s).length:=⟨by simp⟩;refine E1 Tryz.func228 rfl Tryz.ntmps228 (Wd.start w0) ?_;intro a S;refine J20 ?_;intro a S;refine J4 ?_;intro a S;refine end1 S (fun _=>?_);simp[preB];intro _;omega
theorem cutprefixI_c (s:List UInt8)(c:UInt8)(hl:s.length≤1000000)(w0:World):Ret Tryz.prog 198 [str s,str [c]] w0 (fun _=>False) fun v _=>v=.tuple ⟨[str (if preB c s then s.drop 1 else s),.bool (preB c s)]⟩:=by
 refine E1 Tryz.func198 rfl Tryz.ntmps198 (Wd.start w0) ?_;intro a S;refine J11 ?_;intro a S;refine sr S (hasprefix_c s c hl _) ?_;rintro _ a w rfl S;refine J3 ?_;intro a S;refine kC S (fun h1=>?_) (fun h1=>?_);refine J9 ?_;intro a S;have h:preB c s=false:=by simpa using h1
 refine end2 S (fun _=>?_);rw[h];rfl;refine kK (xtn (kS ?_));have h:preB c s=true:=by simpa using h1
 have hL1:LeC ([c]:List UInt8).length s.length:=⟨by
  cases s with
  | nil=>cases h
  | cons x s=>simp⟩
 refine J10 ?_;intro a S;refine end2 S (fun _=>?_);rw[h,List.take_length];rfl
theorem cutprefix_c (s:List UInt8)(c:UInt8)(hl:s.length≤1000000)(w0:World):Ret Tryz.prog 149 [str s,str [c]] w0 (fun _=>False) fun v _=>v=.tuple ⟨[str (if preB c s then s.drop 1 else s),.bool (preB c s)]⟩:=by
 refine E1 Tryz.func149 rfl Tryz.ntmps149 (Wd.start w0) ?_;intro a S;refine J10 ?_;intro a S;refine sr S (cutprefixI_c s c hl _) ?_;rintro _ a w rfl S;refine J7 ?_;intro a S;refine end2 S (fun _=>rfl)
abbrev rI (r:Nat)(s:List UInt8)(bad:Bool):Wk.Item:=Wk.box r 174 [str s,.bool bad]
def BlankR (r:Nat)(rest:List UInt8)(bad:Bool)(v:Value)(w:World):Prop:=∃ (s r2:List UInt8),v=str s∧(rI r r2 (bad||(blankP rest).isNone)).holds w∧r2.length≤rest.length∧s.length≤rest.length∧∀ x y,blankP rest=some (x,y)→s=x∧r2=y
theorem blank_c (r:Nat)(rest:List UInt8)(bad:Bool)(hl:rest.length≤1000000)(w0:World)(hb:(rI r rest bad).holds w0):Ret Tryz.prog 100 [pB r] w0 (rI r rest bad).foot fun v w'=>BlankR r rest bad v w':=by
 refine E1 Tryz.func100 rfl Tryz.ntmps100 (Wd.itLent (fs:=[]) hb (by simp)) ?_;intro a S;refine J11 ?_;intro a S;refine sr S (cut_c rest 32 hl _) ?_;rintro _ a w rfl S;rw[cutV]at S;refine Y20 ?_;intro a w S;refine Y20 ?_;intro a w S;refine J4 ?_;intro a S;have hh:=S.it (rI r ((cutB 32 rest).2.getD []) (bad||(cutB 32 rest).2.isSome&&decide ((cutB 32 rest).2.getD []=[])));have hlen:(cutB 32 rest).1.length≤rest.length∧((cutB 32 rest).2.getD []).length≤rest.length:=by
  cases h:(cutB 32 rest).2 with
  | none=>
   have h1:=(cutB_none (c:=32) (l:=rest) (s:=(cutB 32 rest).1)).1 (by rw[←h]);rw[←h1.1];simp
  | some q=>
   have h1:=(cutB_some (c:=32) (l:=rest) (s:=(cutB 32 rest).1) (r:=q)).1 (by rw[←h]);have:=congrArg List.length h1.1;simp at this⊢;omega
 have hbl:((cutB 32 rest).2.isSome&&decide ((cutB 32 rest).2.getD []=[]))=(blankP rest).isNone∧∀ x y,blankP rest=some (x,y)→(cutB 32 rest).1=x∧(cutB 32 rest).2.getD []=y:=by
  unfold blankP
  match h:cutB 32 rest with
  | (s,none)=>exact ⟨rfl,fun x y hx=>by cases hx;exact ⟨rfl,rfl⟩⟩
  | (s,some q)=>
   by_cases hq:q=[]
   simp[hq];simp[hq]
 rw[hbl.1]at hh;refine end1 S (fun _=>⟨_,_,rfl,hh,hlen.2,hlen.1,hbl.2⟩)
instance opErrN {P:Program}{l:Cx}{bs:List Wk.Item}{fs:List (World→Prop)}{x:Operand}{t t' ty:TypeId}{b:Bool}{te:TypeId}{pe:Value}[Ev l x (errV b te pe)][hi:IfT P t]:OpQ P (.binOp .neq t x (.const .nilIface) t') ty l bs fs (.bool (!b)):=⟨fun ρ w h _=>by
 have e2:ρ (.const .nilIface)=.nilIface:=h.ev (x:=.const .nilIface) (v:=.nilIface);cases b <;> simp[xop,execOp,h.ev (x:=x) (v:=errV _ te pe),e2,errV,eqGuard,binOp,Sem.run_bind,run_equal_held_nil w t te pe hi.eq,run_equal_nil_nil w t hi.eq]⟩
def NumR (r:Nat)(rest:List UInt8)(bad:Bool)(v:Value)(w:World):Prop:=∃ (n:Int) (r2:List UInt8),v=.int .i64 n∧N64 n∧(rI r r2 (bad||(numberP rest).isNone)).holds w∧r2.length≤rest.length∧∀ x y,numberP rest=some (x,y)→n=x∧r2=y
theorem okN_iff {s:List UInt8}{bk:Bool}{n:Int}(h1:bk=true↔∃ m,Lib.atoiAll s=.ok m)(h2:∀ m,Lib.atoiAll s=.ok m→n=m):okN (Lib.atoiAll s)=if bk then some n else none:=by
 cases bk with
 | true=>
  obtain ⟨m,hm⟩:=h1.1 rfl;rw[hm,h2 m hm];rfl
 | false=>
  have hno:∀ m,Lib.atoiAll s≠.ok m:=fun m hm=>by have:=h1.2 ⟨m,hm⟩;cases this
  revert hno
  cases Lib.atoiAll s with
  | ok m=>exact fun h=>absurd rfl (h m)
  | _=>exact fun _=>rfl
theorem number_c (r:Nat)(rest:List UInt8)(bad:Bool)(hl:rest.length≤1000000)(w0:World)(hb:(rI r rest bad).holds w0)(ht:Stable (rI r rest bad).foot w0 LibF):Ret Tryz.prog 145 [pB r] w0 (rI r rest bad).foot fun v w'=>NumR r rest bad v w':=by
 refine E1 Tryz.func145 rfl Tryz.ntmps145 (Wd.itLent (fs:=[TabF,LibF]) hb (by simp;exact ⟨ht.imp fun _ h=>h.1,ht⟩)) ?_;intro a S;refine J8 ?_;intro a S;refine sit (rI r rest bad) S (blank_c r rest bad hl _ (S.it (rI r rest bad))) rfl ?_;rintro _ a w ⟨s,r2,rfl,hh,hl2,hls,hx⟩ hS;have S:=hS (rI r r2 (bad||(blankP rest).isNone)) hh (fun k h=>.inl h);clear hS hh;refine J6 ?_;intro a S;have hlib:=(S.mem.fact0 LibF).now;refine sr S (atoiL_c s (by omega) _ hlib.2.1 hlib.2.2) ?_;rintro _ a w ⟨n,bk,te,pe,rfl,hnr,hbk,hnm⟩ S;have hI:I64 n:=⟨hnr.1,hnr.2⟩;refine J20 ?_;intro a S;refine Y16 ?_;intro a w S;have hh:=S.it (rI r r2 (bad||(blankP rest).isNone||!bk||!decide (Lib.itoa n=s)));have hval:(bad||(blankP rest).isNone||!bk||!decide (Lib.itoa n=s))=(bad||(numberP rest).isNone)∧∀ x y,numberP rest=some (x,y)→n=x∧r2=y:=by
  unfold numberP
  match hbl:blankP rest with
  | none=>simp
  | some (s',r')=>
   obtain ⟨rfl,rfl⟩:=hx s' r' hbl;have hok:=okN_iff hbk hnm;simp only[numV,hok];cases bk with
   | false=>simp
   | true=>
    by_cases hs:Lib.itoa n=s
    simp[hs];simp[hs]
 rw[hval.1]at hh;refine end1 S (fun _=>⟨n,r2,rfl,hnr,hh,hl2,hval.2⟩)
def numsP:Nat→PA (List Int)
 | 0=>fun l=>some ([],l)
 | k+1=>fun l=>match numberP l with
  | some (n,r)=>(numsP k r).map fun p=>(n::p.1,p.2)
  | none=>none
theorem numsP_snoc:∀ (k:Nat) (l:List UInt8),numsP (k+1) l=match numsP k l with
  | some (ns,r)=>(numberP r).map fun p=>(ns++[p.1],p.2)
  | none=>none
 | 0,l=>by
  simp only[numsP];cases h:numberP l with
  | none=>rfl
  | some p=>obtain ⟨n,r⟩:=p;rfl
 | k+1,l=>by
  rw[numsP];simp only;cases h:numberP l with
  | none=>simp[numsP,h]
  | some p=>
   obtain ⟨n,r⟩:=p;simp only[numsP_snoc k r];rw[numsP];simp only[h];cases h2:numsP k r with
   | none=>rfl
   | some q=>
    obtain ⟨ns,r2⟩:=q;simp only[Option.map_some];cases numberP r2 with
    | none=>rfl
    | some z=>rfl
def setAt:List Nat→List Int→List Value→List Value
 | o::os,n::ns,cs=>setAt os ns (cs.set o (.int .i64 n))
 | _,_,cs=>cs
theorem setAt_snoc (o:Nat)(n:Int):∀ (os:List Nat) (ns:List Int) (cs:List Value),os.length=ns.length→setAt (os++[o]) (ns++[n]) cs=(setAt os ns cs).set o (.int .i64 n)
 | [],[],cs,_=>rfl
 | [],_::_,_,h=>by cases h
 | _::_,[],_,h=>by cases h
 | q::os,m::ns,cs,h=>setAt_snoc o n os ns _ (by simpa using h)
theorem setAt_len:∀ (os:List Nat) (ns:List Int) (cs:List Value),(setAt os ns cs).length=cs.length
 | [],_,_=>rfl
 | _::_,[],_=>rfl
 | _::os,n::ns,cs=>by rw[setAt,setAt_len os ns,List.length_set]
abbrev rbI (r:Nat)(s:List UInt8)(bad:Bool)(b:Nat)(T:TypeId)(cs:List Value):Wk.Item:=both (rI r s bad) (Wk.box b T cs)
def NumsR (r:Nat)(rest:List UInt8)(bad:Bool)(b:Nat)(T:TypeId)(os:List Nat)(cs:List Value)(w:World):Prop:=∃ (ns:List Int) (r2:List UInt8),ns.length=os.length∧(∀ n∈ns,N64 n)∧(rbI r r2 (bad||(numsP os.length rest).isNone) b T (setAt os ns cs)).holds w∧r2.length≤rest.length∧∀ x y,numsP os.length rest=some (x,y)→ns=x∧r2=y
theorem numbers_c (r:Nat)(rest:List UInt8)(bad:Bool)(b:Nat)(T:TypeId)(cs:List Value)(os:List Nat)(q:Option Addr)(e:Nat)(ho:∀ o∈os,o < cs.length)(hol:os.length≤1000)(hl:rest.length≤1000000)(w0:World)(hb:(rbI r rest bad b T cs).holds w0)(ht:Stable (rbI r rest bad b T cs).foot w0 LibF)
  (hf:Stable (rbI r rest bad b T cs).foot w0 (GlF q (os.map (OffS.mk (b:=b))))):Ret Tryz.prog 101 [pB r,.slice q os.length e] w0 (rbI r rest bad b T cs).foot fun _ w'=>NumsR r rest bad b T os cs w':=by
 refine E1 Tryz.func101 rfl Tryz.ntmps101 (Wd.it2Lent (fs:=[LibF,GlF q (os.map (OffS.mk (b:=b)))]) hb rfl rfl (by simp;exact ⟨ht,hf⟩)) ?_;intro a S;refine J8 ?_;intro a S;refine c_fore4 S (fun(k:Nat) (ns:List Int) (r3:List UInt8) (bd:Bool) uu=>[(5,uu 5),(2,.int .i64 (k:Nat)),(0,uu 9),(0,uu 10),(0,uu 11),(0,uu 12),(0,uu 13),(0,uu 14),(0,uu 15),(0,uu 16)]) (fun(k:Nat) (ns:List Int) (r3:List UInt8) (bd:Bool)=>[rI r r3 bd,Wk.box b T (setAt (os.take k) ns cs)]) (fun(k:Nat) (ns:List Int) (r3:List UInt8) (bd:Bool)=>[LibF,GlF q (os.map (OffS.mk (b:=b)))]) (fun(k:Nat) (ns:List Int) (r3:List UInt8) (bd:Bool)=>k≤os.length∧ns.length=k∧(∀ n∈ns,N64 n)∧r3.length≤rest.length∧bd=(bad||(numsP k rest).isNone)∧∀ x y,numsP k rest=some (x,y)→ns=x∧r3=y) (fun(k:Nat) (ns:List Int) (r3:List UInt8) (bd:Bool)=>os.length - k) (0) ([]) (rest) (bad) ?_ S.uu ?_ ?_;exact ⟨Nat.zero_le _,rfl,nofun,Nat.le_refl _,by simp[numsP],fun x y h=>by simp[numsP]at h;exact ⟨h.1.symm,h.2⟩⟩
 first | exact S | exact S.sub _ _
 clear S;rintro k ns r3 bd uu a w ⟨hk,hnl,hnr,hl3,hbd,hx⟩ S;refine J6 ?_;intro a S;refine kC S (fun h1=>?_) (fun h1=>?_);refine kK (xtn (kS (kB (kS ?_))));have hkl:k < os.length:=by simp at h1;omega
 have hK1:KLt k os.length:=⟨hkl⟩;have hK2:KLt k (os.map (OffS.mk (b:=b))).length:=⟨by simpa using hkl⟩;have hoff:(nthG (os.map (OffS.mk (b:=b))) k).o=os.getD k 0:=by
  have h1:=nthG_get (xs:=os.map (OffS.mk (b:=b))) (k:=k) (by simpa using hkl);rw[List.getElem?_map,List.getElem?_eq_getElem hkl]at h1;simp only[Option.map_some,Option.some.injEq]at h1;rw[←h1,List.getD_eq_getElem?_getD,List.getElem?_eq_getElem hkl];rfl
 have htk:os.take (k+1)=os.take k++[os.getD k 0]:=by
  rw[List.take_add_one,List.getD_eq_getElem?_getD,List.getElem?_eq_getElem hkl];rfl
 have hOL:OLt (setAt (os.take k) ns cs) (os.getD k 0):=⟨by
  rw[setAt_len,List.getD_eq_getElem?_getD,List.getElem?_eq_getElem hkl];exact ho _ (List.getElem_mem hkl)⟩
 refine J3 ?_;intro a S;rw[hoff]at S;refine J6 ?_;intro a S;refine sit (rI r r3 bd) S (number_c r r3 bd (by omega) _ (S.it (rI r r3 bd)) (S.lend (rI r r3 bd) (S.mem.fact LibF))) rfl ?_;rintro _ a w ⟨n,r4,rfl,hn,hh,hl4,hy⟩ hS;have S:=hS (rI r r4 (bd||(numberP r3).isNone)) hh (fun k h=>.inl h);clear hS hh;refine Y10 ?_;intro a w S;rw[w6 ((k:Int)+1)]at S;refine ⟨k+1,ns++[n],r4,(bd||(numberP r3).isNone),S.uu,⟨hkl,by simp;omega,fun m hm=>?_,by omega,?_,fun x y h=>?_⟩,?_,by omega⟩;rcases List.mem_append.1 hm with hm | hm
 exact hnr m hm;rw[List.mem_singleton.1 hm];exact hn;rw[numsP_snoc,hbd];cases h:numsP k rest with
 | none=>simp
 | some p=>
  obtain ⟨x,y⟩:=p;obtain ⟨rfl,rfl⟩:=hx x y h;simp
 rw[numsP_snoc]at h;cases h2:numsP k rest with
 | none=>rw[h2]at h;cases h
 | some p=>
  obtain ⟨x',y'⟩:=p;obtain ⟨rfl,rfl⟩:=hx x' y' h2;rw[h2]at h;simp only[Option.map_eq_some_iff]at h;obtain ⟨⟨m,z⟩,h3,h4⟩:=h;obtain ⟨rfl,rfl⟩:=hy m z h3;simp only[Prod.mk.injEq]at h4;exact h4
 rw[htk,setAt_snoc _ _ _ _ _ (by rw[List.length_take,hnl];omega)];exact S.sub _ _;refine kE (xte (xte (xbe ?_)));have hke:k=os.length:=by simp at h1;omega
 subst hke;rw[List.take_length]at S;replace S:=(S.sub [rI r r3 bd,Wk.box b T (setAt os ns cs)] []).toBoth;have hh:=S.it (rbI r r3 bd b T (setAt os ns cs));rw[hbd]at hh;refine end0 S (fun _=>⟨ns,r3,hnl,hnr,hh,hl3,hx⟩)
def PR {α:Type}(bad bd:Bool)(p:Option (α × List UInt8))(v:α)(r:List UInt8):Prop:=bd=(bad||p.isNone)∧(bd=false→p=some (v,r))
theorem PR.of {α:Type}{bad:Bool}{p:Option (α × List UInt8)}{v:α}{r:List UInt8}(h:bad=false→∀ x y,p=some (x,y)→v=x∧r=y):PR bad (bad||p.isNone) p v r:=⟨rfl,fun hb=>by
 cases p with
 | none=>simp at hb
 | some q=>
  obtain ⟨x,y⟩:=q;obtain ⟨rfl,rfl⟩:=h (by simpa using hb) x y rfl;rfl⟩
theorem PR.ret {α:Type}(bad:Bool)(v:α)(r:List UInt8):PR bad bad (some (v,r)) v r:=⟨by simp,fun _=>rfl⟩
theorem PR.bnd {α β:Type}{bad b1 b2:Bool}{p:Option (α × List UInt8)}{v:α}{r r2:List UInt8}{q:α→List UInt8→Option (β × List UInt8)}{u:β}(h:PR bad b1 p v r)(h2:PR b1 b2 (q v r) u r2):PR bad b2 (Proofs.YtlgnhhebeandkaaGreatDoor.bnd p q) u r2:=by
 obtain ⟨e1,x1⟩:=h;obtain ⟨e2,x2⟩:=h2;cases hb:b1 with
 | false=>
  rw[x1 hb,bnd_some];have hbad:bad=false:=by
   cases q:bad with
   | false=>rfl
   | true=>rw[q,hb,Bool.true_or]at e1;cases e1
  rw[hb]at e2;rw[hbad];exact ⟨e2,x2⟩
 | true=>
  have h3:b2=true:=by rw[e2,hb];rfl
  refine ⟨?_,fun h=>by rw[h3]at h;cases h⟩;rw[h3];rw[hb]at e1;cases p with
  | none=>simp[Proofs.YtlgnhhebeandkaaGreatDoor.bnd]
  | some q=>
   have:bad=true:=by simpa using e1.symm
   simp[this]
theorem kind_idx (w:List UInt8):max (idxG (fun y=>decide (w=y)) wordsE 0) 0=kindW w:=by
 unfold kindW wordsE
 by_cases h0:w=[]
 ·subst h0;rfl
 ·simp only[idxG,decide_eq_true_eq,if_neg h0]
  repeat' split
  all_goals rfl
theorem kind_rng (w:List UInt8):0≤kindW w∧kindW w≤7:=by
 unfold kindW
 repeat' split
 all_goals omega
def numbE (k:Int)(ns:List Int):PEv:={ zeroE with kind:=k,ok:=if k=1 then ns.getD 0 0 else 0,ou:=if k=1 then ns.getD 1 0 else 0,oo:=if k=1 then ns.getD 2 0 else 0,og:=if k=1 then ns.getD 3 0 else 0,num:=if k=3 then ns.getD 0 0 else if k=5 then ns.getD 1 0 else 0,user:=if k=4 then ns.getD 0 0 else 0,node:=if k=5∨k=6∨k=7 then ns.getD 0 0 else 0 }
theorem len_eq1 {l:List Int}(h:l.length=1):∃ a,l=[a]:=by
 match l,h with
 | [a],_=>exact ⟨a,rfl⟩
theorem len_eq2 {l:List Int}(h:l.length=2):∃ a b,l=[a,b]:=by
 match l,h with
 | [a,b],_=>exact ⟨a,b,rfl⟩
theorem len_eq4 {l:List Int}(h:l.length=4):∃ a b c d,l=[a,b,c,d]:=by
 match l,h with
 | [a,b,c,d],_=>exact ⟨a,b,c,d,rfl⟩
theorem setAt_numb {k:Int}{ns:List Int}(hl:ns.length=(offE k).length)(hn:∀ n∈ns,N64 n):∃ a1 a2 a4 a5 a19 a20 a21:Int,
  setAt (offE k) ns (zCE k)=[.int .i64 k,.int .i64 a1,.int .i64 a2,.string ⟨#[]⟩,.int .i64 a4,.int .i64 a5,.bool false,.int .i64 0,.int .i64 0,.int .i64 0,.string ⟨#[]⟩,.slice none 0 0,.string ⟨#[]⟩,.string ⟨#[]⟩,.int .i64 0,.int .i64 0,.int .i64 0,.string ⟨#[]⟩,.slice none 0 0,.int .i64 a19,.int .i64 a20,.int .i64 a21,.slice none 0 0]∧
   numbE k ns = { zeroE with kind:=k,ok:=a1,ou:=a2,oo:=a4,og:=a5,num:=a21,user:=a19,node:=a20 }∧N64 a1∧N64 a2∧N64 a4∧N64 a5∧N64 a19∧N64 a20∧N64 a21:=by
 have hg:∀ j,N64 (ns.getD j 0):=fun j=>by
  rw[List.getD_eq_getElem?_getD]
  by_cases h:j < ns.length
  ·rw[List.getElem?_eq_getElem h];exact hn _ (List.getElem_mem h)
  ·rw[List.getElem?_eq_none (by omega)];exact ⟨by show (-9223372036854775808:Int)≤0;omega,by show (0:Int)≤_;omega⟩
 have h0:N64 0:=⟨by omega,by omega⟩;refine ⟨if k=1 then ns.getD 0 0 else 0,if k=1 then ns.getD 1 0 else 0,if k=1 then ns.getD 2 0 else 0,if k=1 then ns.getD 3 0 else 0,if k=4 then ns.getD 0 0 else 0,if k=5∨k=6∨k=7 then ns.getD 0 0 else 0,if k=3 then ns.getD 0 0 else if k=5 then ns.getD 1 0 else 0,?_,rfl,?_,?_,?_,?_,?_,?_,?_⟩
 ·unfold offE at hl⊢
  by_cases h1:k=1
  ·subst h1;obtain ⟨a,b,c,d,rfl⟩:=len_eq4 hl;rfl
  by_cases h3:k=3
  ·subst h3;obtain ⟨a,rfl⟩:=len_eq1 hl;rfl
  by_cases h4:k=4
  ·subst h4;obtain ⟨a,rfl⟩:=len_eq1 hl;rfl
  by_cases h5:k=5
  ·subst h5;obtain ⟨a,b,rfl⟩:=len_eq2 hl;rfl
  by_cases h6:k=6
  ·subst h6;obtain ⟨a,rfl⟩:=len_eq1 hl;rfl
  by_cases h7:k=7
  ·subst h7;obtain ⟨a,rfl⟩:=len_eq1 hl;rfl
  ·simp only[if_neg h1,if_neg h3,if_neg h4,if_neg h5,h6,h7,h5,or_self,if_false];rfl
 all_goals repeat' split
 all_goals first | exact hg _ | exact h0
def evTail (k:Int)(ns:List Int)(l:List UInt8):Option (PEv × List UInt8):=
 if k=1 then bnd (numberP l) fun w l=>bnd (if w=0∨w=1 then some (w,l) else none) fun w l=>bnd (nameP l) fun s l=>bnd (termP l) fun t l=>some ({ numbE k ns with ow:=decide (w=1),oname:=s,body:=t },l)
 else if k=2 then bnd (nameP l) fun s l=>bnd (termP l) fun t l=>some ({ numbE k ns with name:=s,term:=t },l)
 else if k=3 then bnd (nameP l) fun s l=>bnd (nameP l) fun t l=>some ({ numbE k ns with name:=s,src:=t },l)
 else if k=6 then bnd (bitsP l) fun b l=>some ({ numbE k ns with keep:=b },l)
 else some (numbE k ns,l)
theorem bnd_map {α β γ:Type}(p:Option (α × List UInt8))(f:α→γ)(q:γ→List UInt8→Option β):bnd (p.map fun x=>(f x.1,x.2)) q=bnd p fun a r=>q (f a) r:=by
 cases p with
 | none=>rfl
 | some x=>rfl
theorem nums_bnd {β:Type}(n:Nat)(l:List UInt8)(q:List Int→List UInt8→Option β):bnd (numsP (n+1) l) q=bnd (numberP l) fun a r=>bnd (numsP n r) fun ns r=>q (a::ns) r:=by
 rw[numsP];simp only;cases numberP l with
 | none=>rfl
 | some x=>
  obtain ⟨a,r⟩:=x;rw[bnd_some]
  show bnd ((numsP n r).map fun p=>(a::p.1,p.2)) q=_
  exact bnd_map (numsP n r) (fun ns=>a::ns) q
theorem nums_bnd0 {β:Type}(l:List UInt8)(q:List Int→List UInt8→Option β):bnd (numsP 0 l) q=q [] l:=rfl
theorem evBody_nums (k:Int)(l:List UInt8):evBody k l=bnd (numsP (offE k).length l) (evTail k):=by
 unfold evBody
 by_cases h1:k=1
 subst h1;rw[if_pos rfl]
 show _=bnd (numsP 4 l) _
 simp only[nums_bnd,nums_bnd0]
 congr 1;funext a l;congr 1;funext b l;congr 1;funext c l;congr 1;funext d l
 show _=bnd (numberP l) _
 congr 1;funext w l
 split;rfl;rfl;rw[if_neg h1]
 by_cases h2:k=2
 subst h2;rw[if_pos rfl];rfl;rw[if_neg h2]
 by_cases h3:k=3
 subst h3;rw[if_pos rfl]
 show _=bnd (numsP 1 l) _
 simp only[nums_bnd,nums_bnd0];rfl;rw[if_neg h3]
 by_cases h4:k=4
 subst h4;rw[if_pos rfl]
 show _=bnd (numsP 1 l) _
 simp only[nums_bnd,nums_bnd0];rfl;rw[if_neg h4]
 by_cases h5:k=5
 subst h5;rw[if_pos rfl]
 show _=bnd (numsP 2 l) _
 simp only[nums_bnd,nums_bnd0];rfl;rw[if_neg h5]
 by_cases h6:k=6
 subst h6;rw[if_pos rfl]
 show _=bnd (numsP 1 l) _
 simp only[nums_bnd,nums_bnd0];rfl;rw[if_neg h6]
 by_cases h7:k=7
 subst h7;rw[if_pos rfl]
 show _=bnd (numsP 1 l) _
 simp only[nums_bnd,nums_bnd0];rfl;rw[if_neg h7];have:offE k=[]:=by simp[offE,h1,h3,h4,h5,h6,h7]
 rw[this]
 show _=evTail k [] l
 simp[evTail,numbE,h1,h2,h3,h4,h5,h6,h7]
abbrev isBit (c:UInt8):Bool:=decide (c=48)||decide (c=49)
theorem allBits_all:∀ s:List UInt8,allBits s=if s.all isBit then some (s.map fun c=>decide (c=49)) else none
 | []=>rfl
 | c::r=>by
  rw[allBits,allBits_all r,List.all_cons]
  by_cases h:c=48∨c=49
  rw[if_pos h];have:isBit c=true:=by simpa [isBit] using h
  rw[this,Bool.true_and];split <;> simp_all
  rw[if_neg h];have:isBit c=false:=by simpa [isBit] using h
  rw[this,Bool.false_and];rfl
theorem bits_end {rest s r2 t:List UInt8}{bad:Bool}(hx:∀ x y,blankP rest=some (x,y)→s=x∧r2=y)(ht:t=if preB 61 s=true then s.drop 1 else s):PR bad (bad||(blankP rest).isNone||!(preB 61 s&&t.all isBit)) (bitsP rest) (t.map fun c=>decide (c=49)) r2:=by
 have h:(blankP rest).isNone=false→bitsV s=if preB 61 s&&t.all isBit then some (t.map fun c=>decide (c=49)) else none:=fun _=>by
  rw[ht];cases s with
  | nil=>rfl
  | cons c s=>
   rw[bitsV,allBits_all]
   by_cases hc:c=61
   subst hc;simp[preB];simp[preB,hc]
 unfold bitsP
 match hb:blankP rest with
 | none=>exact ⟨by simp,by simp⟩
 | some (x,y)=>
  obtain ⟨rfl,rfl⟩:=hx x y hb;simp only;rw[h (by rw[hb];rfl)];split
  rename_i hq;exact ⟨by simp[hq],fun _=>rfl⟩
  rename_i hq;exact ⟨by simp[hq],fun hf=>by simp[hq]at hf⟩
def ixV (o:Option Nat):Int:=match o with
 | some n=>(n:Int)
 | none=>-1
theorem ix_unhex (c:UInt8):Lib.indexByte digL c=ixV (unhexC c):=by
 have h:∀ n:Nat,n < 256→Lib.indexByte digL (UInt8.ofNat n)=ixV (unhexC (UInt8.ofNat n)):=by decide +kernel
 have:=h c.toNat c.toNat_lt;simpa using this
theorem indexbyte_c (s:List UInt8)(c:UInt8)(w0:World):Ret Tryz.prog 224 [str s,.int .u8 c.toNat] w0 (fun _=>False) fun v _=>v=.int .i64 (Lib.indexByte s c):=by
 refine Calls.mono (Any.strings_IndexByte Tryz.lays137 ⟨s.toArray⟩ c.toNat w0) ?_;rintro e w' ⟨rfl,rfl⟩;refine ⟨_,rfl,Agree.refl _ _,?_⟩;rw[show ((c.toNat:Int)).toNat.toUInt8=c from by simp]
instance {c:UInt8}{bs fs} : CallV Tryz.prog 224 [.string ⟨#[48,49,50,51,52,53,54,55,56,57,97,98,99,100,101,102]⟩,.int .u8 c.toNat] bs fs (.int .i64 (ixV (unhexC c))):=⟨fun w _=>by
 have:=indexbyte_c digL c w;rw[ix_unhex]at this;exact this⟩
def pairV:List UInt8→Option UInt8
 | a::b::_=>match unhexC a,unhexC b with
  | some x,some y=>some (UInt8.ofNat (16*x+y))
  | _,_=>none
 | _=>none
theorem pairV_at {t:List UInt8}(h:2≤t.length):pairV t=match unhexC (nthG t 0),unhexC (nthG t 1) with
  | some x,some y=>some (UInt8.ofNat (16*x+y))
  | _,_=>none:=by
 match t,h with
 | a::b::t,_=>rfl
theorem pair_val:∀ x:Nat,x < 16→∀ y:Nat,y < 16→Wk.u8 (ior .i64 (IntKind.i64.wrap (ixV (some x)*2 ^ min 4 IntKind.i64.bits)) (iand .i64 (ixV (some y)) 15))=UInt8.ofNat (16*x+y):=by decide +kernel
def PairR (r:Nat)(rest:List UInt8)(bad:Bool)(t:List UInt8)(v:Value)(w:World):Prop:=∃ c:UInt8,v=.int .u8 c.toNat∧(rI r rest (bad||(pairV t).isNone)).holds w∧∀ x,pairV t=some x→c=x
theorem pair_cS (r:Nat)(rest:List UInt8)(bad:Bool)(t:List UInt8)(hl:t.length≤1000000)(w0:World)(hb:(rI r rest bad).holds w0):Ret Tryz.prog 196 [pB r,str t] w0 (rI r rest bad).foot fun v w'=>PairR r rest bad t v w':=by
 refine E1 Tryz.func196 rfl Tryz.ntmps196 (Wd.itLent (fs:=[]) hb (by simp)) ?_;intro a S;refine J13 ?_;intro a S;refine kC S (fun h1=>?_) (fun h1=>?_);refine Y15 ?_;intro a w S;have hlt:t.length < 2:=by simp at h1;omega
 have hn:pairV t=none:=by
  match t,hlt with
  | [],_=>rfl
  | [_],_=>rfl
 have hh:=S.it (rI r rest true);refine end1 S (fun _=>⟨0,rfl,by rw[hn];simpa using hh,fun x hx=>by rw[hn]at hx;cases hx⟩);refine kK (xtn (kS ?_));have hlt:2≤t.length:=by simp at h1;omega
 have hK0:KLt 0 t.length:=⟨by omega⟩;have hK1:KLt 1 t.length:=⟨by omega⟩;refine c_drawD [T9 0,T9 1,T9 3,T9 4,F9 2,F9 5,T9 6,T9 7] [] S ?_;intro w S;(iterate 4 (refine dq S ?_;intro a S));refine dl (sc S ?_);intro a w S;refine de S ?_;refine dl (sc S ?_);intro a w S;refine de S ?_;(iterate 2 (refine dq S ?_;intro a S));refine dn (xtn (kS (kR ?_)));(iterate 6 (refine sq S ?_;intro a S));(iterate 2 (refine gQ S ?_;intro a S));refine Y22 ?_;intro a w S;have hix:∀ o:Option Nat,decide (ixV o < 0)=o.isNone:=fun o=>by
  cases o with
  | none=>rfl
  | some n=>
   show decide ((n:Int) < 0)=false
   rw[decide_eq_false_iff_not];omega
 have hh:=S.it (rI r rest (bad||decide (ixV (unhexC (nthG t 0)) < 0)||decide (ixV (unhexC (nthG t 1)) < 0)));rw[hix,hix]at hh;have hpn:(bad||(unhexC (nthG t 0)).isNone||(unhexC (nthG t 1)).isNone)=(bad||(pairV t).isNone):=by
  rw[pairV_at hlt];cases unhexC (nthG t 0) with
  | none=>simp
  | some x=>
   cases unhexC (nthG t 1) with
   | none=>simp
   | some y=>simp
 rw[hpn]at hh;refine end1 S (fun _=>⟨_,by rw[u8_wrap],hh,fun x hx=>?_⟩);rw[pairV_at hlt]at hx;cases h1:unhexC (nthG t 0) with
 | none=>rw[h1]at hx;cases hx
 | some x1=>
  cases h2:unhexC (nthG t 1) with
  | none=>rw[h1,h2]at hx;cases hx
  | some y1=>
   rw[h1,h2]at hx;cases hx;exact pair_val x1 (unhexC_iff.1 h1).1 y1 (unhexC_iff.1 h2).1
section
variable {P:Program}{r:Option Nat}{ops:Array Oper}{Q:Exit→Act→World→Prop}{w0:World}{M0:Nat→Prop}{ds:List Deferred}{a:Act}{w:World}{l:List Value}{bs bs':List Wk.Item}{fs:List (World→Prop)}
 {d:Option Nat} {ty:TypeId} {pos:String} {af:Array Edge} {rest:List Oper} {G:Value} {f:Nat} {x:Operand} {xs:List Operand} {args:List Value} {ts:Array TypeId} {j g:Nat} {pol:Bool}
theorem gcn {c:Bool}{l':Value→List Value}(it:Wk.Item)[hg:GSlot ops j g][hn:Nth l g G][hc:Conds G pol [c]][EntF P f][he:CallTo ⟨[c],l⟩ x xs f args][hp:∀ v,PutO l d (gif c v) (l' v)][hr:ReplI bs it noI bs'](S:St w0 M0 ds a w l bs fs)(v0:Value)(ho:it.own=true){R:Value→World→Prop}
  (hq:c=true→Ret P f args w it.foot R)
  (K:∀ v a w',(c=true→R v w')→(c=false→v=v0)→St w0 M0 ds a w' (l' v) bs' fs→WL P r ops Q rest a w'):WL P r ops Q (⟨d,.call { callee:=.value x,args:=xs.toArray,argTypes:=ts },ty,pos,af,some (j,pol)⟩::rest) a w:=by
 have hw:=wanted_iff (ops:=ops) (d:=d) (op:=.call { callee:=.value x,args:=xs.toArray,argTypes:=ts }) (ty:=ty) (pos:=pos) (af:=af) (pol:=pol) S hg.eq;obtain ⟨pre,post,q1,q2⟩:=hr.ex;refine wl_guard (fun ht=>?_) (fun hf=>?_)
 ·have hall:=hw.1 ht
  have hct:c=true:=hall c (by simp);have:CallTo ⟨[],l⟩ x xs f args:=⟨by
   obtain ⟨fi,ca,vs,h0,h1,h2⟩:=he.ex;exact ⟨fi,ca,vs,⟨fun _ ds=>h0.eq hall ds⟩,⟨fun _ ds=>h1.eq hall ds⟩,h2⟩⟩
  refine cv_any S (hq hct) ?_;rintro e w' ⟨v,rfl,ha,hR⟩;have:=hp v;have S':=S.put (d:=d) (v:=gif c v);have e1:gif c v=v:=by rw[hct];rfl
  rw[e1]at S';have hwd:=S'.wd;rw[q1]at hwd;exact ⟨v,rfl,K v _ w' (fun _=>hR) (fun h=>by rw[hct]at h;cases h) ⟨S'.slots,S'.defers,by rw[q2];exact hwd.swap ho ha trivial (fun k h=>h.elim) (fun k h=>h.elim) (fun _ _ _ _=>trivial)⟩⟩
 ·have hcf:c=false:=by
   cases q:c with
   | false=>rfl
   | true=>rw[hw.2 (by simp[q])]at hf;cases hf
  have:=hp v0;have S':=S.put (d:=d) (v:=gif c v0);have e:gif c v0=undef:=by rw[hcf];rfl
  rw[e]at S';have hwd:=S'.wd;rw[q1]at hwd;exact K v0 _ _ (fun h=>by rw[hcf]at h;cases h) (fun _=>rfl) ⟨S'.slots,S'.defers,by rw[q2];exact hwd.swap ho (Agree.refl _ _) trivial (fun k h=>h.elim) (fun k h=>h.elim) (fun _ _ _ _=>trivial)⟩
end
abbrev preN (out:List UInt8)(p:List UInt8 × List UInt8):List UInt8 × List UInt8:=(out++p.1,p.2)
def ScanAt (s out:List UInt8)(i:Nat)(bad bd:Bool):Prop:=(bd=bad∧scanN s=(scanN (s.drop i)).map (preN out))∨(bd=true∧scanN s=none)
theorem scan_drop {s:List UInt8}{i:Nat}(h:i < s.length):s.drop i=nthG s i::s.drop (i+1):=nthG_drop h
theorem ScanAt.plain {s out:List UInt8}{i:Nat}{bad bd:Bool}(h:ScanAt s out i bad bd)(hi:i < s.length)(h1:nthG s i≠34)(h2:nthG s i≠92):ScanAt s (out++[nthG s i]) (i+1) bad bd:=by
 rcases h with ⟨h3,h4⟩ | h
 refine .inl ⟨h3,?_⟩;rw[h4,scan_drop hi,scanN_cons,if_neg h1,if_neg h2];cases scanN (s.drop (i+1)) with
 | none=>rfl
 | some p=>simp[preN]
 exact .inr h
theorem ScanAt.last {s out:List UInt8}{i:Nat}{bad bd:Bool}(h:ScanAt s out i bad bd)(hi:i+1=s.length)(h2:nthG s i=92)(o2:List UInt8):ScanAt s o2 (i+1) bad bd:=by
 rcases h with ⟨h3,h4⟩ | h
 refine .inl ⟨h3,?_⟩;have hd:s.drop (i+1)=[]:=List.drop_eq_nil_of_le (by omega);rw[h4,scan_drop (by omega),hd,h2,scanN_cons,if_neg (by decide),if_pos rfl];rfl;exact .inr h
theorem ScanAt.esc {s out:List UInt8}{i:Nat}{bad bd:Bool}(h:ScanAt s out i bad bd)(hi:i+1 < s.length)(h2:nthG s i=92)(h3:nthG s (i+1)≠120):ScanAt s (out++[nthG s (i+1)]) (i+2) bad bd:=by
 rcases h with ⟨h4,h5⟩ | h
 refine .inl ⟨h4,?_⟩;rw[h5,scan_drop (by omega),scan_drop hi,h2,scanN_cons,if_neg (by decide),if_pos rfl];simp only[if_neg h3];cases scanN (s.drop (i+1+1)) with
 | none=>rfl
 | some p=>simp[preN]
 exact .inr h
theorem ScanAt.hex {s out:List UInt8}{i:Nat}{bad bd:Bool}(h:ScanAt s out i bad bd)(hi:i+1 < s.length)(h2:nthG s i=92)(h3:nthG s (i+1)=120){c:UInt8}(hc:∀ x,pairV (s.drop (i+2))=some x→c=x):ScanAt s (out++[c]) (i+4) bad (bd||(pairV (s.drop (i+2))).isNone):=by
 rcases h with ⟨h4,h5⟩ | h
 rw[scan_drop (show i < s.length by omega),scan_drop hi,h2,h3,scanN_cons,if_neg (by decide),if_pos rfl]at h5;simp only[if_true]at h5
 generalize hD:s.drop (i+1+1)=D at h5
 have hD4:s.drop (i+4)=D.drop 2:=by rw[←hD,List.drop_drop]
 have hc':∀ x,pairV D=some x→c=x:=fun x hx=>hc x (by rw[show i+2=i+1+1 from rfl,hD];exact hx)
 clear hc hD
 match D,h5,hc',hD4 with
 | [],h5,_,_=>exact .inr ⟨by simp[pairV],by rw[h5];rfl⟩
 | [_],h5,_,_=>exact .inr ⟨by simp[pairV],by rw[h5];rfl⟩
 | a::b::D',h5,hc',hD4=>
  simp only at h5;cases ha:unhexC a with
  | none=>exact .inr ⟨by simp[pairV,ha],by rw[h5,ha];rfl⟩
  | some x=>
   cases hb:unhexC b with
   | none=>exact .inr ⟨by simp[pairV,ha,hb],by rw[h5,ha,hb];rfl⟩
   | some y=>
    have hp:pairV (a::b::D')=some (UInt8.ofNat (16*x+y)):=by simp[pairV,ha,hb]
    refine .inl ⟨by rw[hp,h4];simp,?_⟩;rw[h5,ha,hb,hD4,hc' _ hp]
    show _=(scanN D').map (preN _)
    simp only;cases scanN D' with
    | none=>rfl
    | some p=>simp[preN]
 exact .inr ⟨by rw[h.1];rfl,h.2⟩
theorem ScanAt.done {s out:List UInt8}{i:Nat}{bad bd:Bool}(h:ScanAt s out i bad bd)(hi:i < s.length)(h2:nthG s i=34):(bd=bad∧scanN s=some (out,s.drop (i+1)))∨(bd=true∧scanN s=none):=by
 rcases h with ⟨h4,h5⟩ | h
 ·refine .inl ⟨h4,?_⟩
  rw[h5,scan_drop hi,h2,scanN_cons,if_pos rfl];simp[preN]
 ·exact .inr h
theorem ScanAt.over {s out:List UInt8}{i:Nat}{bad bd:Bool}(h:ScanAt s out i bad bd)(hi:s.length≤i):scanN s=none:=by
 rcases h with ⟨h4,h5⟩ | h
 rw[h5,List.drop_eq_nil_of_le hi];rfl;exact h.2
theorem nameP_none {rest s:List UInt8}(hs:s=if preB 34 rest=true then rest.drop 1 else rest)(h:preB 34 rest=false∨scanN s=none):nameP rest=none:=by
 cases rest with
 | nil=>rfl
 | cons c r=>
  rw[nameP]
  by_cases hc:c=34
  subst hc;rcases h with h | h
  simp[preB]at h;rw[show s=r from by rw[hs];simp[preB]]at h;rw[if_pos rfl,h];rw[if_neg hc]
theorem name_end {rest s out:List UInt8}{i:Nat}{bad bd:Bool}(hs:s=if preB 34 rest=true then rest.drop 1 else rest)(hp:preB 34 rest=true)(hi:i < s.length)(h:(bd=bad∧scanN s=some (out,s.drop (i+1)))∨(bd=true∧scanN s=none)) :
  ((bd||!decide (32::quoteE out=[32,34]++s.take (i+1)))||(!decide (s.drop (i+1)=[])&&(!preB 32 (s.drop (i+1))||decide ((if preB 32 (s.drop (i+1))=true then (s.drop (i+1)).drop 1 else s.drop (i+1))=[]))))=(bad||(nameP rest).isNone)∧
   ∀ x y,nameP rest=some (x,y)→out=x∧(if preB 32 (s.drop (i+1))=true then (s.drop (i+1)).drop 1 else s.drop (i+1))=y:=by
 obtain ⟨r,rfl⟩:∃ r,rest=34::r:=by
  cases rest with
  | nil=>cases hp
  | cons c r=>exact ⟨r,by rw[show c=34 from by simpa [preB] using hp]⟩
 obtain rfl:s=r:=by rw[hs];simp[preB]
 rcases h with ⟨h1,h2⟩ | ⟨h1,h2⟩
 have hq:(32::quoteE out=[32,34]++s.take (i+1))↔34::s=quoteE out++s.drop (i+1):=by
  constructor;intro h;simp only[qqE,qqF,List.cons.injEq,true_and]at h;rw[h];simp;intro h
  conv at h=>lhs;rw[←List.take_append_drop (i+1) s]
  rw[←qqE]at h;have:=List.append_cancel_right h;rw[←this];rfl
 rw[nameP,if_pos rfl,h2];simp only
 by_cases hqq:34::s=quoteE out++s.drop (i+1)
 rw[if_pos hqq,decide_eq_true (hq.2 hqq),h1]
 generalize s.drop (i+1)=D
 cases D with
 | nil=>simp[preB]
 | cons d D=>
  by_cases hd:d=32
  subst hd;cases D with
  | nil=>simp[preB]
  | cons d2 D=>simp[preB]
  simp[preB,hd]
 rw[if_neg hqq,decide_eq_false (fun h=>hqq (hq.1 h))];simp;rw[nameP,if_pos rfl,h2,h1];simp
theorem encL_snocB (out:List UInt8)(x:UInt8):encL out++[Value.int .u8 x.toNat]=encL (out++[x]):=by rw[encL_append];rfl
theorem len_snocB (out:List UInt8)(x:UInt8):out.length+1=(out++[x]).length:=by simp
def NameR (r:Nat)(rest:List UInt8)(bad:Bool)(v:Value)(w:World):Prop:=∃ (n r2:List UInt8),v=str n∧(rI r r2 (bad||(nameP rest).isNone)).holds w∧r2.length≤rest.length∧∀ x y,nameP rest=some (x,y)→n=x∧r2=y
set_option maxHeartbeats 1000000 in
theorem rname_c0 (r:Nat)(rest:List UInt8)(bad:Bool)(hl:rest.length≤500000)(w0:World)(hb:(rI r rest bad).holds w0):Ret Tryz.prog 147 [pB r] w0 (rI r rest bad).foot fun v w'=>NameR r rest bad v w':=by
 refine E1 Tryz.func147 rfl Tryz.ntmps147 (Wd.itLent (fs:=[]) hb (by simp)) ?_;intro a S;refine kS (kR (sq S ?_));clear S;intro a S;refine kN (xtn (c_scope (kS (kR ?_))));(iterate 4 (refine sq S ?_;clear S;intro a S));refine sr S (cutprefix_c rest 34 (by omega) _) ?_;clear S;rintro _ a w rfl S;obtain ⟨s,hs⟩:∃ s,s=(if preB 34 rest=true then rest.drop 1 else rest):=⟨_,rfl⟩;rw[←hs]at S;have hsl:s.length≤rest.length:=by rw[hs];split <;> simp
 refine J15 ?_;clear S;intro a S;replace S:=S.addNil 5 1;rw[show Wk.row 5 1 none 0 0 []=Wk.row 5 1 none 0 0 (encL ([]:List UInt8)) from rfl]at S;refine kN (xtn (kS (c_label (xtn ?_))));refine c_mrgf5 S (fun(en:Int) (out:List UInt8) (q:Option Addr) (e:Nat) (bd:Bool) uu=>[(5,.slice q out.length e),(0,.int .i64 en),(0,uu 7),(0,uu 8),(12,uu 21),(0,uu 22),(0,uu 23),(0,uu 24),(0,uu 25),(0,uu 26),(0,uu 27),(0,uu 28),(0,uu 29),(0,uu 30),(0,uu 31),(0,uu 32),(0,uu 33),(0,uu 34),(0,uu 35),(0,uu 36),(0,uu 37),(0,uu 38),(0,uu 39),(0,uu 40),(0,uu 41),(0,uu 42),(0,uu 43),(0,uu 44),(0,uu 45),(0,uu 46),(0,uu 47),(0,uu 48),(0,uu 49),(0,uu 50),(0,uu 51),(0,uu 52),(0,uu 53),(0,uu 54),(0,uu 55),(0,uu 56),(0,uu 57),(0,uu 58),(0,uu 59),(0,uu 60),(0,uu 61),(0,uu 62),(0,uu 63),(0,uu 64),(0,uu 65)]) (fun(en:Int) (out:List UInt8) (q:Option Addr) (e:Nat) (bd:Bool)=>[Wk.row 5 1 q out.length e (encL out),rI r rest bd]) (fun(en:Int) (out:List UInt8) (q:Option Addr) (e:Nat) (bd:Bool)=>out.length≤s.length+5∧((en = -1∧(preB 34 rest=false∨scanN s=none))∨∃ i:Nat,en=(i:Nat)∧i < s.length∧preB 34 rest=true∧((bd=bad∧scanN s=some (out,s.drop (i+1)))∨(bd=true∧scanN s=none)))) ?_ ?_
 ·refine J6 ?_;clear S;intro a S
  refine c_fore5 S (fun(i:Nat) (out:List UInt8) (q:Option Addr) (e:Nat) (bd:Bool) uu=>[(5,.slice q out.length e),(0,.int .i64 (-1)),(0,.int .i64 (i:Nat)),(0,uu 8),(12,uu 21),(0,uu 22),(0,uu 23),(0,uu 24),(0,uu 25),(0,uu 26),(0,uu 27),(0,uu 28),(0,uu 29),(0,uu 30),(0,uu 31),(0,uu 32),(0,uu 33),(0,uu 34),(0,uu 35),(0,uu 36),(0,uu 37),(0,uu 38),(0,uu 39),(0,uu 40),(0,uu 41),(0,uu 42),(0,uu 43),(0,uu 44),(0,uu 45),(0,uu 46),(0,uu 47),(0,uu 48),(0,uu 49),(0,uu 50),(0,uu 51),(0,uu 52),(0,uu 53),(0,uu 54),(0,uu 55),(0,uu 56),(0,uu 57),(0,uu 58),(0,uu 59),(0,uu 60),(0,uu 61),(0,uu 62),(0,uu 63),(0,uu 64),(0,uu 65)]) (fun(i:Nat) (out:List UInt8) (q:Option Addr) (e:Nat) (bd:Bool)=>[Wk.row 5 1 q out.length e (encL out),rI r rest bd]) (fun(i:Nat) (out:List UInt8) (q:Option Addr) (e:Nat) (bd:Bool)=>[]) (fun(i:Nat) (out:List UInt8) (q:Option Addr) (e:Nat) (bd:Bool)=>i≤s.length+4∧out.length≤i∧ScanAt s out i bad bd) (fun(i:Nat) (out:List UInt8) (q:Option Addr) (e:Nat) (bd:Bool)=>s.length+5 - i) (0) ([]) (none) (0) (bad) ?_ S.uu ?_ ?_
  ·exact ⟨Nat.zero_le _,Nat.le_refl _,.inl ⟨rfl,by
     rw[List.drop_zero];cases scanN s <;> rfl⟩⟩
  ·first | exact S | exact S.sub _ _
  ·clear S;rintro i out q e bd uu a w ⟨hi4,hol,hsc⟩ S
   refine J12 ?_;clear S;intro a S;refine kC S (fun h5=>?_) (fun h5=>?_)
   ·refine kK (xtn (kS (kB (kS ?_))))
    obtain ⟨hok,hil⟩:preB 34 rest=true∧i < s.length:=by simpa using h5
    have hKi:KLt i s.length:=⟨hil⟩;refine J16 ?_;clear S;intro a S;refine kC S (fun h8=>?_) (fun h8=>?_)
    ·refine kS (kR ?_);(iterate 2 (refine sq S ?_;clear S;intro a S));refine kN (xtn (kE (xbx (xte (xbx (xte (xte (xbe (xtn ?_)))))))))
     have h34:nthG s i=34:=u8_eq.1 (of_decide_eq_true h8);exact ⟨(i:Nat),out,q,e,bd,S.uu,⟨by omega,.inr ⟨i,rfl,hil,hok,hsc.done hil h34⟩⟩,S.sub _ _⟩
    ·refine J14 ?_;clear S;intro a S
     refine kC S (fun h10=>?_) (fun h10=>?_)
     ·refine kS ?_
      have hn34:nthG s i≠34:=fun h=>(of_decide_eq_false h8) (by rw[h];rfl)
      rw[w6 ((i:Int)+1)]at h10;obtain ⟨h92,hi1⟩:nthG s i=92∧i+1 < s.length:=by
       simp only[Bool.and_eq_true,decide_eq_true_eq]at h10;exact ⟨u8_eq.1 h10.1,by omega⟩
      have hKi1:KLt (i+1) s.length:=⟨hi1⟩;have hLi2:LeC (i+2) s.length:=⟨by omega⟩;refine J3 ?_;clear S;intro a S;rw[w6 ((i:Int)+1),show (i:Int)+1=((i+1:Nat):Int) from rfl]at S;refine J17 ?_;clear S;intro a S;refine kC S (fun h13=>?_) (fun h13=>?_)
      ·refine J6 ?_;clear S;intro a S
       rw[w64 (((i+1:Nat):Int)+1) (by omega) (by omega),show ((i+1:Nat):Int)+1=((i+2:Nat):Int) from rfl]at S;refine J1 ?_;clear S;intro a S;rw[List.take_length]at S;refine sit (rI r rest bd) S (pair_cS r rest bd (s.drop (i+2)) (by simp;omega) _ (S.it (rI r rest bd))) rfl ?_;clear S;rintro _ a w ⟨pc,rfl,hh,hpc⟩ hS;have S:=hS (rI r rest (bd||(pairV (s.drop (i+2))).isNone)) hh (fun k h=>.inl h);clear hS hh;refine J6 ?_;clear S;intro a S;rw[w64 (((i+1:Nat):Int)+2) (by omega) (by omega),show ((i+1:Nat):Int)+2=((i+3:Nat):Int) from rfl]at S;refine J7 ?_;clear S;intro a S;refine sn S ?_;clear S;intro b64 a w S;refine sap S (by simp[maxLen];omega) (by omega) ?_;clear S;rintro q2 e2 a w - S;refine J10 ?_;clear S;intro a S;have h120:nthG s (i+1)=120:=u8_eq.1 (of_decide_eq_true h13);rw[w64 (((i+3:Nat):Int)+1) (by omega) (by omega),encL_snocB,len_snocB out pc]at S;exact ⟨i+4,out++[pc],q2,e2,_,S.uu,⟨by omega,by simp;omega,hsc.hex hi1 h92 h120 hpc⟩,S.sub _ _,by omega⟩
      ·refine J6 ?_;clear S;intro a S;refine sn S ?_;clear S;intro b64 a w S
       refine sap S (by simp[maxLen];omega) (by omega) ?_;clear S;rintro q2 e2 a w - S;refine J10 ?_;clear S;intro a S;have h120:nthG s (i+1)≠120:=fun h=>(of_decide_eq_false h13) (by rw[h];rfl)
       rw[w64 (((i+1:Nat):Int)+1) (by omega) (by omega),encL_snocB,len_snocB out (nthG s (i+1))]at S;exact ⟨i+2,out++[nthG s (i+1)],q2,e2,bd,S.uu,⟨by omega,by simp;omega,hsc.esc hi1 h92 h120⟩,S.sub _ _,by omega⟩
     ·refine J6 ?_;clear S;intro a S;refine sn S ?_;clear S;intro b64 a w S
      refine sap S (by simp[maxLen];omega) (by omega) ?_;clear S;rintro q2 e2 a w - S;refine J10 ?_;clear S;intro a S;have hn34:nthG s i≠34:=fun h=>(of_decide_eq_false h8) (by rw[h];rfl)
      rw[w6 ((i:Int)+1)]at h10;rw[w6 ((i:Int)+1),encL_snocB,len_snocB out (nthG s i)]at S;refine ⟨i+1,out++[nthG s i],q2,e2,bd,S.uu,⟨by omega,by simp;omega,?_⟩,S.sub _ _,by omega⟩
      by_cases h92:nthG s i=92
      ·have hi1:i+1=s.length:=by
        rw[h92]at h10;simp at h10;omega
       exact hsc.last hi1 h92 _
      ·exact hsc.plain hil hn34 h92
   ·refine kE (xte (xte (xbe (xtn ?_))))
    refine ⟨-1,out,q,e,bd,S.uu,⟨by omega,.inl ⟨rfl,?_⟩⟩,S.sub _ _⟩
    by_cases hok:preB 34 rest=true
    ·rw[hok]at h5
     exact .inr (hsc.over (by simp at h5;omega))
    ·exact .inl (by simpa using hok)
 ·clear S;rintro en out q e bd uu a w ⟨hol,hcase⟩ S
  refine J7 ?_;clear S;intro a S;refine kC S (fun h17=>?_) (fun h17=>?_)
  ·refine kS (kR ?_);(iterate 4 (refine sq S ?_;clear S;intro a S));refine sw S ?_;clear S;intro a w S;(iterate 2 (refine sq S ?_;clear S;intro a S));refine sw S ?_;clear S;intro a w S;refine kN (xtn (kS (kR (sq S ?_))));clear S;intro a S;refine kN (xtn (kT (xtr (xsr ?_))))
   have hen:nameP rest=none:=by
    rcases hcase with ⟨-,h⟩ | ⟨i,rfl,-⟩
    ·exact nameP_none hs h
    ·simp at h17;omega
   have hh:=S.it (rI r [] true);refine end1 S (fun _=>⟨[],[],rfl,by rw[hen];simpa using hh,by simp,fun x y h=>by rw[hen]at h;cases h⟩)
  ·refine kK (xtn (kS ?_))
   obtain ⟨i,rfl,hil,hok,hsc⟩:∃ i:Nat,en=(i:Nat)∧i < s.length∧preB 34 rest=true∧((bd=bad∧scanN s=some (out,s.drop (i+1)))∨(bd=true∧scanN s=none)):=by
    rcases hcase with ⟨h,-⟩ | h
    ·rw[h]at h17;simp at h17
    ·exact h
   have hLi:LeC (i+1) s.length:=⟨by omega⟩;have hLC:LeC (([32,34]:List UInt8).length+((s.take (i+1)).drop 0).length) 4611686018427387904:=⟨by simp;omega⟩;refine kR (sa S ?_);clear S;intro b9 a w S;replace S:=St.newW S;refine J6 ?_;clear S;intro a S;refine sn S ?_;clear S;intro b76 a w S;replace S:=St.boxGl S b76 [out] rfl (fun _ _ _=>trivial);refine swr b9 (.pointer none) none 0 [] S (wnames_c b9 (.pointer none) none 0 [] [out] (some ⟨b76,0,none⟩) 1 (fun n hn=>by rw[List.mem_singleton.1 hn];omega) (by simp) _ (S.it (wI b9 (.pointer none) none 0 [])) (S.lend (wI b9 (.pointer none) none 0 []) (S.gl (some ⟨b76,0,none⟩)))) ?_;clear S;intro v77 u1 p1 c1 a w hu1 S;rw[qqF]at S;refine J7 ?_;clear S;intro a S;rw[w6 ((i:Int)+1),show (i:Int)+1=((i+1:Nat):Int) from rfl]at S;refine J1 ?_;clear S;intro a S;rw[List.take_length]at S;refine J6 ?_;clear S;intro a S;refine sr S (cutprefix_c (s.drop (i+1)) 32 (by simp;omega) _) ?_;clear S;rintro _ a w rfl S;refine J8 ?_;clear S;intro a S;refine c_drwe1 (.q 0 (.q 1 (.q 2 (.q 3 (.l 4 (.q 5 (.q 6 (.q 8 (.q 9 (.q 10 (.q 11 (.q 12 (.l 7 (.q 13 (.q 14 (.q 15 (.q 16 (.q 17 (.q 18 (.q 19 (.q 20 (.q 21 (.q 22 (.q 23 (.q 24 (.q 25 (.q 26 (.q 27 (.q 28 (.l 29 (.e))))))))))))))))))))))))))))))) S (fun(bdf:Bool) uu=>[(87,uu 87),(0,uu 88),(0,uu 89),(0,uu 90),(0,uu 91),(0,uu 92),(0,uu 93),(0,uu 94),(0,uu 95),(0,uu 96),(0,uu 97),(0,uu 98),(0,uu 99),(0,uu 100),(0,uu 101),(0,uu 102),(0,uu 103),(0,uu 104),(0,uu 105),(0,uu 106),(0,uu 107),(0,uu 108),(0,uu 109),(0,uu 110),(0,uu 111),(0,uu 112),(0,uu 113),(0,uu 114),(0,uu 115)]) [] (fun(bdf:Bool)=>[Wk.row 5 1 q out.length e (encL out),rI r rest bdf]) (fun(bdf:Bool)=>[]) (fun(bdf:Bool)=>bdf=(bad||(nameP rest).isNone)) ?_ ?_
   ·intro w S
    (iterate 4 (refine tq S ?_;clear S;intro a S));refine tl (sq S ?_);clear S;intro a S;refine te S ?_;refine tq S ?_;clear S;intro a S;(iterate 4 (refine tqG S ?_;clear S;intro a S));rw[w6 ((i:Int)+1),show (i:Int)+1=((i+1:Nat):Int) from rfl]at S;(iterate 2 (refine tqG S ?_;clear S;intro a S));refine tl ?_;refine gcn (wI b9 u1 p1 c1 (namesB [out])) S (str (namesB [out])) rfl (fun _=>wstring_c b9 u1 p1 c1 (namesB [out]) (by simp[namesB]) _ (S.it (wI b9 u1 p1 c1 (namesB [out])))) ?_;clear S;rintro v94 a w hR1 hR2 S;obtain rfl:v94=str (namesB [out]):=by
     cases hq:(!bd) with
     | true=>exact hR1 hq
     | false=>exact hR2 hq
    clear hR1 hR2;refine te S ?_;refine tqG S ?_;clear S;intro a S;(iterate 2 (refine tq S ?_;clear S;intro a S));(iterate 10 (refine tqG S ?_;clear S;intro a S));(iterate 3 (refine tq S ?_;clear S;intro a S));refine tl (sw S ?_);clear S;intro a w S;refine te S ?_;refine tn ?_;rw[show namesB [out]=32::quoteE out from by simp[namesB],List.drop_zero,(name_end hs hok hil hsc).1]at S;exact ⟨_,S.uu,rfl,S.sub _ _⟩
   clear S;rintro bdf uu a w hbdf S;refine xtn (kS (kR ?_));(iterate 4 (refine sq S ?_;clear S;intro a S));refine sw S ?_;clear S;intro a w S;refine kN (xtn (kS (kR ?_)));(iterate 3 (refine sq S ?_;clear S;intro a S));refine kN (xtn (kT (xsr ?_)));have hh:=S.it (rI r (if preB 32 (s.drop (i+1))=true then (s.drop (i+1)).drop 1 else s.drop (i+1)) bdf);rw[hbdf]at hh;refine end1 S (fun _=>⟨out,_,rfl,hh,?_,(name_end hs hok hil hsc).2⟩);split <;> simp <;> omega
def UnAt (s out:List UInt8)(i:Nat)(bad bd:Bool):Prop:=(bd=bad∧unhex s=(unhex (s.drop i)).map (out++·))∨(bd=true∧unhex s=none)
theorem UnAt.step {s out:List UInt8}{i:Nat}{bad bd:Bool}(h:UnAt s out i bad bd)(hi:i < s.length){c:UInt8}(hc:∀ x,pairV (s.drop i)=some x→c=x):UnAt s (out++[c]) (i+2) bad (bd||(pairV (s.drop i)).isNone):=by
 rcases h with ⟨h1,h2⟩ | h
 have hD4:s.drop (i+2)=(s.drop i).drop 2:=by rw[List.drop_drop]
 have hne:s.drop i≠[]:=by intro h;have:=List.drop_eq_nil_iff.1 h;omega
 generalize s.drop i=D at h2 hc hD4 hne
 match D,hne,h2,hc,hD4 with
 | [_],_,h2,_,_=>exact .inr ⟨by simp[pairV],by rw[h2];rfl⟩
 | a::b::D',_,h2,hc,hD4=>
  rw[unhex]at h2;cases ha:unhexC a with
  | none=>exact .inr ⟨by simp[pairV,ha],by rw[h2,ha];rfl⟩
  | some x=>
   cases hb:unhexC b with
   | none=>exact .inr ⟨by simp[pairV,ha,hb],by rw[h2,ha,hb];rfl⟩
   | some y=>
    have hp:pairV (a::b::D')=some (UInt8.ofNat (16*x+y)):=by simp[pairV,ha,hb]
    refine .inl ⟨by rw[hp,h1];simp,?_⟩;rw[h2,ha,hb,hD4,hc _ hp]
    show _=(unhex D').map _
    simp only;cases unhex D' with
    | none=>rfl
    | some p=>simp
 exact .inr ⟨by rw[h.1];rfl,h.2⟩
theorem term_end {rest s r2 out:List UInt8}{bad bd:Bool}{i:Nat}(hx:∀ x y,blankP rest=some (x,y)→s=x∧r2=y)(hs:s≠[45])(hu:UnAt s out i (bad||(blankP rest).isNone) bd)(hend:¬(i < s.length∧bd=false)){z:Term}{n e:Int}
  (hd:(∃ left r,decT 60 1200 out=.ok (z,left,r)∧n=(out.length:Int) - r.length∧e=0)∨(decT 60 1200 out=.error e∧e≠0)) :
  (bd||!decide (e=0)||!decide (n=(out.length:Nat)))=(bad||(termP rest).isNone)∧(bad=false→∀ t y,termP rest=some (t,y)→z=t∧r2=y):=by
 unfold termP
 match hb:blankP rest with
 | none=>
  have:bd=true:=by
   rcases hu with ⟨h,-⟩ | ⟨h,-⟩
   rw[h,hb];simp;exact h
  simp[this]
 | some (x,y)=>
  obtain ⟨rfl,rfl⟩:=hx x y hb;simp only[hb,Option.isNone_some,Bool.or_false]at hu;simp only[termV,if_neg hs];rcases hu with ⟨h1,h2⟩ | ⟨h1,h2⟩
  cases hbd:bd with
  | true=>
   rw[hbd]at h1;rw[←h1];exact ⟨by simp,nofun⟩
  | false=>
   have hi:s.length≤i:=Classical.byContradiction fun h=>hend ⟨by omega,hbd⟩
   rw[List.drop_eq_nil_of_le hi,unhex]at h2;simp only[Option.map_some,List.append_nil]at h2;rw[h2,←h1,hbd];simp only;rcases hd with ⟨left,r,h3,h4,h5⟩ | ⟨h3,h5⟩
   rw[h3,h5];simp only
   by_cases hr:r=[]
   subst hr;have:n=(out.length:Nat):=by rw[h4];simp
   simp[this];have:¬n=(out.length:Nat):=by
    have:=List.length_pos_iff.2 hr;omega
   simp[this,hr];rw[h3];simp[h5]
  rw[h2,h1];simp
def RTermR (Mr:Nat→Prop)(r:Nat)(rest:List UInt8)(bad:Bool)(v:Value)(w:World):Prop:=∃ (z:LTerm) (r2:List UInt8),v=vL z∧Stable (fun k=>k=r∨Mr k) w (LtF z)∧(rI r r2 (bad||(termP rest).isNone)).holds w∧r2.length≤rest.length∧(bad=false→∀ t y,termP rest=some (t,y)→z.t=t∧r2=y)
set_option maxHeartbeats 1000000 in
theorem rterm_c (r:Nat)(rest:List UInt8)(bad:Bool)(Mr:Nat→Prop)(hl:rest.length≤500000)(w0:World)(hMr:∀ k,Mr k→k < w0.heap.size∧¬(rI r rest bad).foot k)(hb:(rI r rest bad).holds w0):Ret Tryz.prog 148 [pB r] w0 (rI r rest bad).foot fun v w'=>RTermR Mr r rest bad v w':=by
 refine E1 Tryz.func148 rfl Tryz.ntmps148 ((Wd.itLentM (x:=rI r rest bad) (Mr:=Mr) (fs:=[]) hb hMr (by simp))) ?_;intro a S;refine kS (kR ?_);refine sa S ?_;intro b2 a w S;refine J5 ?_;intro a S;refine sit (rI r rest bad) S (blank_c r rest bad (by omega) _ (S.it (rI r rest bad))) rfl ?_;rintro _ a w ⟨s,r2,rfl,hh,hl2,hls,hx⟩ hS;have S:=hS (rI r r2 (bad||(blankP rest).isNone)) hh (fun k h=>.inl h);clear hS hh;refine J10 ?_;intro a S;refine kC S (fun h2=>?_) (fun h2=>?_);refine Y8 ?_;intro a w S;have hs:s=[45]:=of_decide_eq_true h2;have hh:=S.it (rI r r2 (bad||(blankP rest).isNone));have hv:(blankP rest).isNone=(termP rest).isNone∧∀ t y,termP rest=some (t,y)→zeroT=t∧r2=y:=by
  unfold termP
  match hbl:blankP rest with
  | none=>simp
  | some (x,y)=>
   obtain ⟨rfl,rfl⟩:=hx x y hbl;simp[termV,hs]
 rw[hv.1]at hh;refine end1 S (fun _=>⟨zeroL,r2,rfl,fun _ _=>zeroL_in _,hh,hl2,fun _=>hv.2⟩);refine kK (xtn (kS ?_));have hs:s≠[45]:=of_decide_eq_false h2;replace S:=S.addNil 5 1;rw[show Wk.row 5 1 none 0 0 []=Wk.row 5 1 none 0 0 (encL ([]:List UInt8)) from rfl]at S;refine J11 ?_;intro a S;refine c_fore5 S (fun(i:Nat) (out:List UInt8) (q:Option Addr) (e:Nat) (bd:Bool) uu=>[(4,.slice q out.length e),(0,.int .i64 (i:Nat)),(8,uu 14),(0,uu 15),(0,uu 16),(0,uu 17),(0,uu 18),(0,uu 19),(0,uu 20),(0,uu 21),(0,uu 22),(0,uu 23),(0,uu 24),(0,uu 25),(0,uu 26),(0,uu 27),(0,uu 28),(0,uu 29),(0,uu 30),(0,uu 31),(0,uu 32),(0,uu 33),(0,uu 34)]) (fun(i:Nat) (out:List UInt8) (q:Option Addr) (e:Nat) (bd:Bool)=>[Wk.row 5 1 q out.length e (encL out),Wk.box b2 42 zTm,rI r r2 bd,ext Mr]) (fun(i:Nat) (out:List UInt8) (q:Option Addr) (e:Nat) (bd:Bool)=>[]) (fun(i:Nat) (out:List UInt8) (q:Option Addr) (e:Nat) (bd:Bool)=>i≤s.length+2∧out.length≤i∧UnAt s out i (bad||(blankP rest).isNone) bd) (fun(i:Nat) (out:List UInt8) (q:Option Addr) (e:Nat) (bd:Bool)=>s.length+3 - i) (0) ([]) (none) (0) ((bad||(blankP rest).isNone)) ?_ S.uu ?_ ?_;exact ⟨Nat.zero_le _,Nat.le_refl _,.inl ⟨rfl,by
   rw[List.drop_zero];cases unhex s <;> rfl⟩⟩
 first | exact S | exact S.sub _ _
 clear S;rintro i out q e bd uu a w ⟨hi2,hol,hun⟩ S;refine J16 ?_;intro a S;refine kC S (fun h6=>?_) (fun h6=>?_);refine kK (xtn (kS (kB ?_)));obtain ⟨hil,hbd⟩:i < s.length∧bd=false:=by simpa using h6
 have hLi:LeC i s.length:=⟨by omega⟩;refine J6 ?_;intro a S;rw[List.take_length]at S;refine sit (rI r r2 bd) S (pair_cS r r2 bd (s.drop i) (by simp;omega) _ (S.it (rI r r2 bd))) rfl ?_;rintro _ a w ⟨pc,rfl,hh,hpc⟩ hS;have S:=hS (rI r r2 (bd||(pairV (s.drop i)).isNone)) hh (fun k h=>.inl h);clear hS hh;refine sn S ?_;intro b33 a w S;refine sap S (by simp[maxLen];omega) (by omega) ?_;rintro q2 e2 a w - S;refine J10 ?_;intro a S;rw[w6 ((i:Int)+2),encL_snocB,len_snocB out pc]at S;exact ⟨i+2,out++[pc],q2,e2,_,S.uu,⟨by omega,by simp;omega,hun.step hil hpc⟩,S.sub _ _,by omega⟩;refine kE (xte (xte (xbe (xtn (kS ?_)))));have hend:¬(i < s.length∧bd=false):=by simpa using h6
 replace S:=(S.front (Wk.row 5 1 q out.length e (encL out))).rowToGl q out (e:=5) (sz:=1) (n:=out.length) (c:=e) (fun _ _ _ _=>trivial);refine J2 ?_;intro a S;refine sr S (tdec_c out q out.length e _ w rfl (by omega) (foots_lt S) (S.mem.fact (GlF q out))) ?_;rintro _ a w ⟨z,n,e1,rfl,hzf,hcase⟩ S;replace S:=S.add hzf;refine J4 ?_;intro a S;refine sa S ?_;intro b6 a w S;refine Y20 ?_;intro a w S;refine Y14 ?_;intro a w S;have hte:=term_end hx hs hun hend (z:=z.t) (n:=n) (e:=e1) (hcase.imp (fun h=>h) (fun h=>⟨h.1,h.2.2⟩));have hh:=S.it (rI r r2 (bd||!decide (e1=0)||!decide (n=(out.length:Nat))));rw[hte.1]at hh;have hst:Stable (fun k=>k=r∨Mr k) _ (LtF z):=(S.wd.facts (LtF z) (by simp)).less fun k _ hk=>hk.elim (fun h1=>⟨rI r r2 (bd||!decide (e1=0)||!decide (n=(out.length:Nat))),by simp,h1⟩) (fun h1=>⟨ext Mr,by simp,h1⟩)
 refine end1 S (fun _=>⟨z,r2,rfl,hst,hh,hl2,hte.2⟩)
theorem indexS_c (x:List UInt8)(xs:List (List UInt8))(p:Option Addr)(n c:Nat)(w0:World)(hn:xs.length=n)(hl:n≤9223372036854775807)(hx:Fx w0 (GlF p xs)) :
  Ret Tryz.prog 146 [.slice p n c,str x] w0 (fun _=>False) fun v _=>v=.int .i64 (idxG (fun y=>decide (x=y)) xs 0):=by
 subst hn;refine E1 Tryz.func146 rfl Tryz.ntmps146 (Wd.begin (fs:=[GlF p xs]) (by simpa using hx)) ?_;intro a S;refine J14 ?_;intro a S;refine c_forb1 S (fun(k:Nat) uu=>[(4,uu 4),(0,uu 5),(2,.int .i64 (k:Nat)),(0,uu 9),(0,uu 10),(0,uu 11),(0,uu 12),(0,uu 13),(0,uu 14),(0,uu 15),(0,uu 16),(0,uu 17),(0,uu 18)]) (fun(k:Nat)=>k≤xs.length∧idxG (fun y=>decide (x=y)) (xs.drop k) k=idxG (fun y=>decide (x=y)) xs 0) (fun(k:Nat)=>xs.length - k) (0) ?_ S.uu ?_ ?_;exact ⟨Nat.zero_le _,rfl⟩
 first | exact S | exact S.sub _ _
 clear S;rintro k uu a w ⟨hk,hrel⟩ S;refine J6 ?_;intro a S;refine kC S (fun h2=>?_) (fun h2=>?_);refine J11 ?_;intro a S;have hkl:k < xs.length:=by simp at h2;omega
 have hK:KLt k xs.length:=⟨hkl⟩;rw[nthG_drop hkl,idxG]at hrel;refine J9 ?_;intro a S;refine kC S (fun h4=>?_) (fun h4=>?_);refine J12 ?_;intro a S;rw[if_pos h4]at hrel;refine end1 S (fun _=>?_);rw[hrel];refine J8 ?_;intro a S;rw[if_neg (by simpa using h4)]at hrel;rw[w6 ((k:Int)+1)]at S;exact ⟨k+1,S.uu,⟨hkl,by rw[←hrel];rfl⟩,S.sub _ _,by omega⟩;refine J11 ?_;intro a S;rw[List.drop_of_length_le (by simp at h2;omega)]at hrel;refine end1 S (fun _=>?_);rw[←hrel];rfl
instance opMax2 {l:Cx}{bs:List Wk.Item}{fs:List (World→Prop)}{x y:Operand}{k:IntKind}{m n:Int}{ty t t':TypeId}[Ev l x (.int k m)][Ev l y (.int k n)]:OpQ Tryz.prog (.call { callee:=.builtin .max,args:=#[x,y],argTypes:=#[t,t'] }) ty l bs fs (.int k (max m n)):=⟨fun ρ w h _=>by
 have e2:∀ (a b:Int) (w:World),(Builtin.max2 (.int k a) (.int k b)).run Tryz.prog w=.ok (.int k (max a b)) w:=fun a b w=>by
  simp[Builtin.max2];split <;> omega
 simp[xop,execOp,resolve,invoke,builtin,Builtin.max_,e2,h.ev (x:=x) (v:=.int k m),h.ev (x:=y) (v:=.int k n),Sem.run_bind]⟩
theorem off_lt {k:Int}{o:Nat}(h:o∈offE k):o < (zCE k).length:=by
 show o < 23
 unfold offE at h
 repeat' split at h
 all_goals simp only[List.mem_cons,List.not_mem_nil,or_false]at h
 all_goals omega
theorem off_len (k:Int):(offE k).length≤1000:=by have:=offE_len k;omega
theorem zSb_in (w:World):Lay.inn w zSb:=⟨Nat.le_refl _,Nat.zero_le _,gl_nil⟩
def EventR (Mr:Nat→Prop)(r:Nat)(wd rest:List UInt8)(bad:Bool)(v:Value)(w:World):Prop:=∃ (y:LEv) (r2:List UInt8) (bd:Bool),v=vEv y∧Stable (fun k=>k=r∨Mr k) w (InF y)∧FitE y∧(rI r r2 bd).holds w∧r2.length≤rest.length∧PR bad bd (evP wd rest) y.e r2
theorem wrong_pr {bad bd:Bool}{k:Int}{wd rest r2:List UInt8}{y:PEv}(hk:k=kindW wd)(h:PR bad bd (evBody k rest) y r2){b2:Bool}(hb:b2=(bd||wrongV y)):PR bad b2 (evP wd rest) y r2:=by
 obtain ⟨e1,x1⟩:=h;subst hb;unfold evP;rw[←hk];cases hbd:bd with
 | false=>
  rw[x1 hbd];have hbad:bad=false:=by
   cases q:bad with
   | false=>rfl
   | true=>rw[q,hbd,Bool.true_or]at e1;cases e1
  rw[hbad];cases hw:wrongV y with
  | false=>exact ⟨by simp[hw],fun _=>by simp[hw]⟩
  | true=>exact ⟨by simp[hw],by simp⟩
 | true=>
  refine ⟨?_,fun h=>by rw[Bool.true_or]at h;cases h⟩;rw[hbd]at e1;cases q:bad with
  | true=>rfl
  | false=>
   rw[q,Bool.false_or]at e1;have:evBody k rest=none:=Option.isNone_iff_eq_none.1 e1.symm;rw[this];rfl
set_option maxHeartbeats 2000000 in
theorem event_c (r:Nat)(wd rest:List UInt8)(bad:Bool)(Mr:Nat→Prop)(hl:rest.length≤500000)(w0:World)(hMr:∀ k,Mr k→k < w0.heap.size∧¬(rI r rest bad).foot k)(hb:(rI r rest bad).holds w0)(ht:Stable (fun k=>(rI r rest bad).foot k∨Mr k) w0 LibF):Ret Tryz.prog 102 [pB r,str wd] w0 (rI r rest bad).foot fun v w'=>EventR Mr r wd rest bad v w':=by
 refine E1 Tryz.func102 rfl Tryz.ntmps102 ((Wd.itLentM (x:=rI r rest bad) (Mr:=Mr) (fs:=[LibF]) hb hMr (by simp;exact ht))) ?_;intro a S;refine kS (kR ?_);refine sa S ?_;clear S;intro b4 a w S;refine kN (xtn (kS (kR ?_)));refine sr S (words_c _ w (foots_lt S)) ?_;clear S;rintro _ a w ⟨pw,cw,rfl,hfw⟩ S;replace S:=S.add hfw;refine J1 ?_;clear S;intro a S;refine sr S (indexS_c wd wordsE pw wordsE.length cw w rfl (by decide) (S.gl0 pw)) ?_;clear S;rintro _ a w rfl S;refine Y8 ?_;clear S;intro a w S;rw[kind_idx]at S;obtain ⟨k,hk⟩:∃ k,k=kindW wd:=⟨_,rfl⟩;have hkr:=kind_rng wd;rw[←hk]at S hkr;refine sr S (evf_c b4 (zCE k) k ⟨_,rfl⟩ _ w (foots_lt S) (BoxF.stable (S.boxF b4) (fun h=>h))) ?_;clear S;rintro _ a w ⟨p4,c4,rfl,hf4⟩ S;replace S:=S.add hf4;replace S:=((S.front (Wk.box b4 47 (zCE k))).front (rI r rest bad)).toBoth;refine sit (rbI r rest bad b4 47 (zCE k)) S (numbers_c r rest bad b4 47 (zCE k) (offE k) p4 c4 (fun o ho=>off_lt ho) (off_len k) (by omega) _ (S.it (rbI r rest bad b4 47 (zCE k))) (S.lend (rbI r rest bad b4 47 (zCE k)) (S.mem.fact LibF)) (S.lend (rbI r rest bad b4 47 (zCE k)) (S.mem.fact (GlF p4 (offs b4 k))))) rfl ?_;clear S;rintro _ a w ⟨ns,r2,hnl,hnr,hh,hl2,hx⟩ hS;have S:=hS (rbI r r2 (bad||(numsP (offE k).length rest).isNone) b4 47 (setAt (offE k) ns (zCE k))) hh (fun k h=>.inl h);clear hS hh;obtain ⟨a1,a2,a4,a5,a19,a20,a21,hcs,hnb,n1,n2,n4,n5,n19,n20,n21⟩:=setAt_numb hnl hnr;rw[hcs]at S;replace S:=S.ofBoth;have hp1:PR bad (bad||(numsP (offE k).length rest).isNone) (numsP (offE k).length rest) ns r2:=PR.of fun _=>hx
 obtain ⟨bd1,hb1⟩:∃ b,b=(bad||(numsP (offE k).length rest).isNone):=⟨_,rfl⟩;rw[←hb1]at S hp1;have hkn:N64 k:=⟨by omega,by omega⟩;have hrng:N64 k∧N64 a1∧N64 a2∧N64 a4∧N64 a5∧N64 a19∧N64 a20∧N64 a21:=⟨hkn,n1,n2,n4,n5,n19,n20,n21⟩;refine kN (xtn ?_);refine c_mrge4 S (fun(y:LEv) (cs:List Value) (r3:List UInt8) (bd:Bool) uu=>[(5,uu 5),(0,uu 6),(0,uu 7),(1,uu 9),(8,uu 18),(0,uu 19),(0,uu 20),(0,uu 21),(0,uu 22),(0,uu 23),(0,uu 24),(0,uu 25),(0,uu 26),(0,uu 27),(0,uu 28),(0,uu 29),(0,uu 30),(0,uu 31),(0,uu 32),(0,uu 33),(0,uu 34),(0,uu 35),(0,uu 36),(0,uu 37),(0,uu 38),(0,uu 39),(0,uu 40),(0,uu 41),(0,uu 42),(0,uu 43),(0,uu 44),(0,uu 45),(0,uu 46),(0,uu 47),(0,uu 48),(0,uu 49),(0,uu 50),(0,uu 51),(0,uu 52),(0,uu 53),(0,uu 54),(0,uu 55),(0,uu 56),(0,uu 57),(0,uu 58),(0,uu 59),(0,uu 60),(0,uu 61),(0,uu 62),(0,uu 63),(0,uu 64),(0,uu 65),(0,uu 66),(0,uu 67),(0,uu 68),(0,uu 69),(0,uu 70),(0,uu 71),(0,uu 72),(0,uu 73),(0,uu 74),(0,uu 75),(0,uu 76),(0,uu 77),(0,uu 78),(0,uu 79),(0,uu 80),(0,uu 81),(0,uu 82),(0,uu 83),(0,uu 84),(0,uu 85),(0,uu 86),(0,uu 87),(0,uu 88),(0,uu 89),(0,uu 90),(0,uu 91),(0,uu 92),(0,uu 93),(0,uu 94),(0,uu 95),(0,uu 96),(0,uu 97),(0,uu 98),(0,uu 99),(0,uu 100),(0,uu 101),(0,uu 102),(0,uu 103),(0,uu 104),(0,uu 105),(0,uu 106),(0,uu 107),(0,uu 108),(0,uu 109)]) (fun(y:LEv) (cs:List Value) (r3:List UInt8) (bd:Bool)=>[rI r r3 bd,Wk.box b4 47 cs,ext Mr]) (fun(y:LEv) (cs:List Value) (r3:List UInt8) (bd:Bool)=>[InF y]) (fun(y:LEv) (cs:List Value) (r3:List UInt8) (bd:Bool)=>cs=cEv y∧FitE y∧r3.length≤rest.length∧PR bad bd (evBody k rest) y.e r3) ?_ ?_
 refine J13 ?_;clear S;intro a S;refine kC S (fun h4=>?_) (fun h4=>?_);refine kS ?_;have hk1:k=1:=of_decide_eq_true h4;have hte:∀ (ns:List Int) (l:List UInt8),evTail k ns l=bnd (numberP l) fun w l=>bnd (if w=0∨w=1 then some (w,l) else none) fun w l=>bnd (nameP l) fun s l=>bnd (termP l) fun t l=>some ({ numbE k ns with ow:=decide (w=1),oname:=s,body:=t },l):=fun ns l=>by rw[evTail,if_pos hk1]
 refine J2 ?_;clear S;intro a S;refine sit (rI r r2 bd1) S (number_c r r2 bd1 (by omega) _ (S.it (rI r r2 bd1)) (S.lend (rI r r2 bd1) (S.mem.fact LibF))) rfl ?_;clear S;rintro _ a w ⟨n,r3,rfl,hn,hh,hl3,hy⟩ hS;have S:=hS (rI r r3 (bd1||(numberP r2).isNone)) hh (fun k h=>.inl h);clear hS hh;have hp2:PR bd1 (bd1||(numberP r2).isNone) (numberP r2) n r3:=PR.of fun _=>hy
 obtain ⟨bd2,hb2⟩:∃ b,b=(bd1||(numberP r2).isNone):=⟨_,rfl⟩;rw[←hb2]at S hp2;refine J20 ?_;clear S;intro a S;refine Y15 ?_;clear S;intro a w S;have hp3:PR bd2 (bd2||decide (n < 0)||decide (n > 1)) (if n=0∨n=1 then some (n,r3) else none) n r3:=by
  by_cases hn01:n=0∨n=1
  rw[if_pos hn01,decide_eq_false (by omega),decide_eq_false (by omega)];exact ⟨by simp,fun _=>rfl⟩;rw[if_neg hn01];have:decide (n < 0)||decide (n > 1):=by simp only[Bool.or_eq_true,decide_eq_true_eq];omega
  rw[Bool.or_assoc,this];exact ⟨by simp,by simp⟩
 obtain ⟨bd3,hb3⟩:∃ b,b=(bd2||decide (n < 0)||decide (n > 1)):=⟨_,rfl⟩;rw[←hb3]at S hp3;refine sit (rI r r3 bd3) S (rname_c0 r r3 bd3 (by omega) _ (S.it (rI r r3 bd3))) rfl ?_;clear S;rintro _ a w ⟨nm,r4,rfl,hh,hl4,hy4⟩ hS;have S:=hS (rI r r4 (bd3||(nameP r3).isNone)) hh (fun k h=>.inl h);clear hS hh;have hp4:PR bd3 (bd3||(nameP r3).isNone) (nameP r3) nm r4:=PR.of fun _=>hy4
 obtain ⟨bd4,hb4⟩:∃ b,b=(bd3||(nameP r3).isNone):=⟨_,rfl⟩;rw[←hb4]at S hp4;refine Y7 ?_;clear S;intro a w S;refine sitM (rI r r4 bd4) S (rterm_c r r4 bd4 (restOf _ (rI r r4 bd4)) (by omega) _ (S.restOk _) (S.it (rI r r4 bd4))) rfl ?_;clear S;rintro _ a w ⟨z,r5,rfl,hzf,hh,hl5,hy5⟩ hS;have S:=hS (rI r r5 (bd4||(termP r4).isNone)) [LtF z] hh (fun k h=>.inl h) (by intro Φ hΦ;obtain rfl:=List.mem_singleton.1 hΦ;exact hzf);clear hS hh;have hp5:PR bd4 (bd4||(termP r4).isNone) (termP r4) z.t r5:=PR.of hy5;obtain ⟨bd5,hb5⟩:∃ b,b=(bd4||(termP r4).isNone):=⟨_,rfl⟩;rw[←hb5]at S hp5;refine Y6 ?_;clear S;intro a w S;replace S:=S.add (Φ:=InF (⟨k,a1,a2,nm,a4,a5,decide (n=1),z,[],[],zeroL,a19,a20,a21,zSb⟩:LEv)) ((S.t z).imp fun w h=>⟨h,zeroL_in w,zSb_in w,hrng⟩);refine ⟨⟨k,a1,a2,nm,a4,a5,decide (n=1),z,[],[],zeroL,a19,a20,a21,zSb⟩,[.int .i64 k,.int .i64 a1,.int .i64 a2,str nm,.int .i64 a4,.int .i64 a5,.bool (decide (n=1)),.int .i64 z.kind,.int .i64 z.user,.int .i64 z.num,str z.text,.slice z.p z.kids.length z.cap,.string ⟨#[]⟩,.string ⟨#[]⟩,.int .i64 0,.int .i64 0,.int .i64 0,.string ⟨#[]⟩,.slice none 0 0,.int .i64 a19,.int .i64 a20,.int .i64 a21,.slice none 0 0],r5,bd5,S.uu,⟨rfl,⟨Nat.zero_le _⟩,by omega,?_⟩,S.sub _ _⟩;rw[evBody_nums];refine hp1.bnd ?_;rw[hte];refine hp2.bnd (hp3.bnd (hp4.bnd (hp5.bnd ?_)));rw[hnb];simp only[LEv.e,zeroLT];exact PR.ret _ _ _;refine J6 ?_;clear S;intro a S;refine kC S (fun h10=>?_) (fun h10=>?_);refine kS ?_;have hk2:k=2:=of_decide_eq_true h10;have hte:∀ (ns:List Int) (l:List UInt8),evTail k ns l=bnd (nameP l) fun s l=>bnd (termP l) fun t l=>some ({ numbE k ns with name:=s,term:=t },l):=fun ns l=>by rw[evTail,if_neg (by omega),if_pos hk2]
 refine J2 ?_;clear S;intro a S;refine sit (rI r r2 bd1) S (rname_c0 r r2 bd1 (by omega) _ (S.it (rI r r2 bd1))) rfl ?_;clear S;rintro _ a w ⟨nm,r3,rfl,hh,hlr3,hy3⟩ hS;have S:=hS (rI r r3 (bd1||(nameP r2).isNone)) hh (fun k h=>.inl h);clear hS hh;have hp2:PR bd1 (bd1||(nameP r2).isNone) (nameP r2) nm r3:=PR.of fun _=>hy3
 obtain ⟨bd2,hbd2⟩:∃ b,b=(bd1||(nameP r2).isNone):=⟨_,rfl⟩;rw[←hbd2]at S hp2;refine Y6 ?_;clear S;intro a w S;refine sitM (rI r r3 bd2) S (rterm_c r r3 bd2 (restOf _ (rI r r3 bd2)) (by omega) _ (S.restOk _) (S.it (rI r r3 bd2))) rfl ?_;clear S;rintro _ a w ⟨z,r4,rfl,hzf,hh,hlr4,hyz⟩ hS;have S:=hS (rI r r4 (bd2||(termP r3).isNone)) [LtF z] hh (fun k h=>.inl h) (by intro Φ hΦ;obtain rfl:=List.mem_singleton.1 hΦ;exact hzf);clear hS hh;have hp3:PR bd2 (bd2||(termP r3).isNone) (termP r3) z.t r4:=PR.of hyz;obtain ⟨bd3,hbd3⟩:∃ b,b=(bd2||(termP r3).isNone):=⟨_,rfl⟩;rw[←hbd3]at S hp3;refine Y5 ?_;clear S;intro a w S;replace S:=S.add (Φ:=InF (⟨k,a1,a2,[],a4,a5,false,zeroL,nm,[],z,a19,a20,a21,zSb⟩:LEv)) ((S.t z).imp fun w h=>⟨zeroL_in w,h,zSb_in w,hrng⟩);refine ⟨⟨k,a1,a2,[],a4,a5,false,zeroL,nm,[],z,a19,a20,a21,zSb⟩,[.int .i64 k,.int .i64 a1,.int .i64 a2,.string ⟨#[]⟩,.int .i64 a4,.int .i64 a5,.bool false,.int .i64 0,.int .i64 0,.int .i64 0,.string ⟨#[]⟩,.slice none 0 0,str nm,.string ⟨#[]⟩,.int .i64 z.kind,.int .i64 z.user,.int .i64 z.num,str z.text,.slice z.p z.kids.length z.cap,.int .i64 a19,.int .i64 a20,.int .i64 a21,.slice none 0 0],r4,bd3,S.uu,⟨rfl,⟨Nat.zero_le _⟩,by omega,?_⟩,S.sub _ _⟩;rw[evBody_nums];refine hp1.bnd ?_;rw[hte];refine hp2.bnd (hp3.bnd ?_);rw[hnb];simp only[LEv.e,zeroLT];exact PR.ret _ _ _;refine J6 ?_;clear S;intro a S;refine kC S (fun h13=>?_) (fun h13=>?_);refine kS ?_;have hk3:k=3:=of_decide_eq_true h13;have hte:∀ (ns:List Int) (l:List UInt8),evTail k ns l=bnd (nameP l) fun s l=>bnd (nameP l) fun t l=>some ({ numbE k ns with name:=s,src:=t },l):=fun ns l=>by rw[evTail,if_neg (by omega),if_neg (by omega),if_pos hk3]
 refine J2 ?_;clear S;intro a S;refine sit (rI r r2 bd1) S (rname_c0 r r2 bd1 (by omega) _ (S.it (rI r r2 bd1))) rfl ?_;clear S;rintro _ a w ⟨nm,r3,rfl,hh,hlr3,hy3⟩ hS;have S:=hS (rI r r3 (bd1||(nameP r2).isNone)) hh (fun k h=>.inl h);clear hS hh;have hp2:PR bd1 (bd1||(nameP r2).isNone) (nameP r2) nm r3:=PR.of fun _=>hy3
 obtain ⟨bd2,hbd2⟩:∃ b,b=(bd1||(nameP r2).isNone):=⟨_,rfl⟩;rw[←hbd2]at S hp2;refine Y6 ?_;clear S;intro a w S;refine sit (rI r r3 bd2) S (rname_c0 r r3 bd2 (by omega) _ (S.it (rI r r3 bd2))) rfl ?_;clear S;rintro _ a w ⟨sr,r4,rfl,hh,hlr4,hy4⟩ hS;have S:=hS (rI r r4 (bd2||(nameP r3).isNone)) hh (fun k h=>.inl h);clear hS hh;have hp3:PR bd2 (bd2||(nameP r3).isNone) (nameP r3) sr r4:=PR.of fun _=>hy4
 obtain ⟨bd3,hbd3⟩:∃ b,b=(bd2||(nameP r3).isNone):=⟨_,rfl⟩;rw[←hbd3]at S hp3;refine Y5 ?_;clear S;intro a w S;replace S:=S.add (Φ:=InF (⟨k,a1,a2,[],a4,a5,false,zeroL,nm,sr,zeroL,a19,a20,a21,zSb⟩:LEv)) (fun w _=>⟨zeroL_in w,zeroL_in w,zSb_in w,hrng⟩);refine ⟨⟨k,a1,a2,[],a4,a5,false,zeroL,nm,sr,zeroL,a19,a20,a21,zSb⟩,[.int .i64 k,.int .i64 a1,.int .i64 a2,.string ⟨#[]⟩,.int .i64 a4,.int .i64 a5,.bool false,.int .i64 0,.int .i64 0,.int .i64 0,.string ⟨#[]⟩,.slice none 0 0,str nm,str sr,.int .i64 0,.int .i64 0,.int .i64 0,.string ⟨#[]⟩,.slice none 0 0,.int .i64 a19,.int .i64 a20,.int .i64 a21,.slice none 0 0],r4,bd3,S.uu,⟨rfl,⟨Nat.zero_le _⟩,by omega,?_⟩,S.sub _ _⟩;rw[evBody_nums];refine hp1.bnd ?_;rw[hte];refine hp2.bnd (hp3.bnd ?_);rw[hnb];simp only[LEv.e,zeroLT];exact PR.ret _ _ _;refine J6 ?_;clear S;intro a S;refine kC S (fun h16=>?_) (fun h16=>?_);refine J3 ?_;clear S;intro a S;have hk6:k=6:=of_decide_eq_true h16;have hte:∀ (ns:List Int) (l:List UInt8),evTail k ns l=bnd (bitsP l) fun b l=>some ({ numbE k ns with keep:=b },l):=fun ns l=>by rw[evTail,if_neg (by omega),if_neg (by omega),if_neg (by omega),if_pos hk6]
 refine sit (rI r r2 bd1) S (blank_c r r2 bd1 (by omega) _ (S.it (rI r r2 bd1))) rfl ?_;clear S;rintro _ a w ⟨s,r3,rfl,hh,hl3,hls,hy3⟩ hS;have S:=hS (rI r r3 (bd1||(blankP r2).isNone)) hh (fun k h=>.inl h);clear hS hh;refine sr S (cutprefix_c s 61 (by omega) _) ?_;clear S;rintro _ a w rfl S;obtain ⟨t,ht⟩:∃ t,t=(if preB 61 s=true then s.drop 1 else s):=⟨_,rfl⟩;have hp2:=bits_end (bad:=bd1) hy3 ht;rw[←ht]at S;have htl:t.length≤s.length:=by rw[ht];split <;> simp
 obtain ⟨bd2,hb2⟩:∃ b,b=(bd1||(blankP r2).isNone):=⟨_,rfl⟩;obtain ⟨ok0,hok0⟩:∃ b,b=preB 61 s:=⟨_,rfl⟩;rw[←hb2,←hok0]at S hp2;refine J11 ?_;clear S;intro a S;refine scvb S ?_;clear S;intro b18 c18 a w S;obtain ⟨q18,hq18⟩:∃ q18:Option Addr,q18=some ⟨b18,0,none⟩:=⟨_,rfl⟩;rw[←hq18]at S;refine J5 ?_;clear S;intro a S;refine c_fore5 S (fun(j:Nat) (kl:List Bool) (q:Option Addr) (e:Nat) (ok:Bool) uu=>[(7,.bool ok),(1,uu 9),(68,.int .i64 (j:Nat)),(0,uu 79),(0,uu 80),(0,uu 81),(0,uu 82),(0,uu 83),(0,uu 84),(0,uu 85),(0,uu 86),(0,uu 87),(0,uu 88),(0,uu 89),(0,uu 90),(0,uu 91),(0,uu 92),(0,uu 93),(0,uu 94),(0,uu 95),(0,uu 96),(0,uu 97),(0,uu 98)]) (fun(j:Nat) (kl:List Bool) (q:Option Addr) (e:Nat) (ok:Bool)=>[Wk.row 4 1 q kl.length e (encL kl),rI r r3 bd2,Wk.box b4 47 [.int .i64 k,.int .i64 a1,.int .i64 a2,.string ⟨#[]⟩,.int .i64 a4,.int .i64 a5,.bool false,.int .i64 0,.int .i64 0,.int .i64 0,.string ⟨#[]⟩,.slice none 0 0,.string ⟨#[]⟩,.string ⟨#[]⟩,.int .i64 0,.int .i64 0,.int .i64 0,.string ⟨#[]⟩,.slice none 0 0,.int .i64 a19,.int .i64 a20,.int .i64 a21,.slice q kl.length e],ext Mr]) (fun(j:Nat) (kl:List Bool) (q:Option Addr) (e:Nat) (ok:Bool)=>[GlF q18 t]) (fun(j:Nat) (kl:List Bool) (q:Option Addr) (e:Nat) (ok:Bool)=>j≤t.length∧kl=(t.take j).map (fun c=>decide (c=49))∧ok=(ok0&&(t.take j).all isBit)) (fun(j:Nat) (kl:List Bool) (q:Option Addr) (e:Nat) (ok:Bool)=>t.length - j) (0) ([]) (none) (0) (ok0) ?_ S.uu ?_ ?_;exact ⟨Nat.zero_le _,rfl,by simp⟩;replace S:=S.addNil 4 1;rw[show Wk.row 4 1 none 0 0 []=Wk.row 4 1 none 0 0 (encL ([]:List Bool)) from rfl]at S
 exact S.sub _ _;clear S;rintro j kl q e ok uu a w ⟨hj,hkl,hok⟩ S;refine J6 ?_;clear S;intro a S;refine kC S (fun h19=>?_) (fun h19=>?_);refine kK (xtn (kS (kB (kS ?_))));have hjl:j < t.length:=by simp at h19;omega
 have hK:KLt j t.length:=⟨hjl⟩;have hkll:kl.length=j:=by rw[hkl,List.length_map,List.length_take];omega
 have htk:t.take (j+1)=t.take j++[nthG t j]:=by rw[List.take_add_one,nthG_get hjl];rfl
 refine J20 ?_;clear S;intro a S;refine J5 ?_;clear S;intro a S;refine sn S ?_;clear S;intro b95 a w S;refine sap S (by simp[maxLen];omega) (by omega) ?_;clear S;rintro q2 e2 a w - S;rw[show decide (((nthG t j).toNat:Int)=49)=decide (nthG t j=49) from decide_eq_decide.2 (u8_eq (d:=49)),show ∀ b:Bool,encL kl++[Value.bool b]=encL (kl++[b]) from fun b=>by rw[encL_append];rfl,show kl.length+1=(kl++[decide (nthG t j=49)]).length from by simp]at S;refine Y10 ?_;clear S;intro a w S;rw[w6 ((j:Int)+1)]at S;refine ⟨j+1,kl++[decide (nthG t j=49)],q2,e2,_,S.uu,⟨hjl,by rw[htk,List.map_append,←hkl];rfl,?_⟩,S.sub _ _,by omega⟩;rw[htk,List.all_append,hok];rw[show decide (((nthG t j).toNat:Int)=48)=decide (nthG t j=48) from decide_eq_decide.2 (u8_eq (d:=48))];simp[isBit,Bool.and_assoc];refine kE (xte (xte (xbe (xtn ?_))));have hjl:j=t.length:=by simp at h19;omega
 have hpl:=own_le (S.row q kl.length);have hpm:=own_capT (S.row q kl.length);rw[hjl,List.take_length]at hkl hok;have hkll:kl.length≤1000000:=by rw[hkl,List.length_map];omega
 replace S:=(S.front (Wk.row 4 1 q kl.length e (encL kl))).rowToGl q kl (e:=4) (sz:=1) (n:=kl.length) (c:=e) (fun _ _ _ _=>trivial);refine Y16 ?_;clear S;intro a w S;replace S:=S.add (Φ:=InF (⟨k,a1,a2,[],a4,a5,false,zeroL,[],[],zeroL,a19,a20,a21,⟨q,e,kl⟩⟩:LEv)) (fun w' hw'=>⟨zeroL_in w',zeroL_in w',⟨hpl,hpm,S.wd.facts (GlF q kl) (by simp) w' hw'⟩,hrng⟩);refine ⟨⟨k,a1,a2,[],a4,a5,false,zeroL,[],[],zeroL,a19,a20,a21,⟨q,e,kl⟩⟩,[.int .i64 k,.int .i64 a1,.int .i64 a2,.string ⟨#[]⟩,.int .i64 a4,.int .i64 a5,.bool false,.int .i64 0,.int .i64 0,.int .i64 0,.string ⟨#[]⟩,.slice none 0 0,.string ⟨#[]⟩,.string ⟨#[]⟩,.int .i64 0,.int .i64 0,.int .i64 0,.string ⟨#[]⟩,.slice none 0 0,.int .i64 a19,.int .i64 a20,.int .i64 a21,.slice q kl.length e],r3,(bd2||!ok),S.uu,⟨rfl,⟨hkll⟩,by omega,?_⟩,S.sub _ _⟩;rw[evBody_nums];refine hp1.bnd ?_;rw[hte];rw[←hok,←hkl]at hp2;refine hp2.bnd ?_;rw[hnb];simp only[LEv.e,zeroLT];exact PR.ret _ _ _;refine kK (xbn (xtn ?_));replace S:=S.add (Φ:=InF (⟨k,a1,a2,[],a4,a5,false,zeroL,[],[],zeroL,a19,a20,a21,zSb⟩:LEv)) (fun w _=>⟨zeroL_in w,zeroL_in w,zSb_in w,hrng⟩);refine ⟨⟨k,a1,a2,[],a4,a5,false,zeroL,[],[],zeroL,a19,a20,a21,zSb⟩,[.int .i64 k,.int .i64 a1,.int .i64 a2,.string ⟨#[]⟩,.int .i64 a4,.int .i64 a5,.bool false,.int .i64 0,.int .i64 0,.int .i64 0,.string ⟨#[]⟩,.slice none 0 0,.string ⟨#[]⟩,.string ⟨#[]⟩,.int .i64 0,.int .i64 0,.int .i64 0,.string ⟨#[]⟩,.slice none 0 0,.int .i64 a19,.int .i64 a20,.int .i64 a21,.slice none 0 0],r2,bd1,S.uu,⟨rfl,⟨Nat.zero_le _⟩,by omega,?_⟩,S.sub _ _⟩
 have hk1:k≠1:=of_decide_eq_false h4;have hk2:k≠2:=of_decide_eq_false h10;have hk3:k≠3:=of_decide_eq_false h13;have hk6:k≠6:=of_decide_eq_false h16;rw[evBody_nums];refine hp1.bnd ?_;rw[evTail,if_neg hk1,if_neg hk2,if_neg hk3,if_neg hk6,hnb];simp only[LEv.e,zeroLT];exact PR.ret _ _ _;clear S;rintro y cs r3 bd uu a w ⟨hcy,hfit,hl3,hpr⟩ S;refine kS ?_;subst hcy;refine J8 ?_;clear S;intro a S;refine gcr S (.bool false) (fun _=>wrong_c y hfit w (S.i0 y)) ?_;clear S;rintro vb a w hR1 hR2 S;obtain ⟨bw,rfl,hbw⟩:∃ b,vb=.bool b∧(bd||b)=(bd||wrongV y.e):=by
  cases bd with
  | true=>exact ⟨false,hR2 rfl,rfl⟩
  | false=>exact ⟨_,hR1 rfl,rfl⟩
 clear hR1 hR2;refine Y13 ?_;clear S;intro a w S;have hh:=S.it (rI r r3 (bd||bw));have hst:Stable (fun k=>k=r∨Mr k) _ (InF y):=(S.wd.facts (InF y) (by simp)).less fun k _ hk=>hk.elim (fun h1=>⟨rI r r3 (bd||bw),by simp,h1⟩) (fun h1=>⟨ext Mr,by simp,h1⟩)
 refine end1 S (fun _=>⟨y,r3,_,rfl,hst,hfit,hh,hl3,wrong_pr hk hpr hbw⟩)
theorem nums_one (l:List UInt8):numsP 1 l=(numberP l).map fun p=>([p.1],p.2):=by
 rw[numsP];simp only;cases numberP l with
 | none=>rfl
 | some q=>rfl
abbrev scI (b:Nat)(area:Int)(q:Option Addr)(e:Nat)(xs:List LEv):Wk.Item:=both (Wk.row 47 23 q xs.length e (encL xs)) (Wk.box b 26 [.int .i64 area,.slice q xs.length e])
def LineR (Mr:Nat→Prop)(w0:World)(b:Nat)(area:Int)(q:Option Addr)(e:Nat)(xs:List LEv)(n:Nat)(l:List UInt8)(v:Value)(w:World):Prop:=∃ (ok:Bool) (a2:Int) (q2:Option Addr) (e2:Nat) (ys:List LEv),v=.bool ok∧(scI b a2 q2 e2 ys).holds w∧(∀ k,(scI b a2 q2 e2 ys).foot k→(scI b area q e xs).foot k∨w0.heap.size≤k)∧Stable (fun k=>(scI b a2 q2 e2 ys).foot k∨Mr k) w (AllI ys)∧
 (∀ y∈ys,FitE y)∧N64 a2∧ys.length≤xs.length+1∧(ok=true↔(stepP n (area,xs.map LEv.e) l).isSome)∧∀ st,stepP n (area,xs.map LEv.e) l=some st→st=(a2,ys.map LEv.e)
theorem head_end {l wd r1 r2:List UInt8}{b0 b1 b2:Bool}{m area:Int}{evs:List PEv}{n:Nat}(hn:n < 1)(h0:PR false b0 (blankP l) wd r1)(h1:PR b0 b1 (numsP 1 r1) [m] r2)(h2:b2=(b1||!decide (wd=wWorld))):((!b2&&decide (r2=[]))=true↔(stepP n (area,evs) l).isSome)∧∀ st,stepP n (area,evs) l=some st→st=(m,evs):=by
 have h3:PR false b1 (bnd (blankP l) fun w r=>bnd (numberP r) fun k r=>some ((w,k),r)) (wd,m) r2:=by
  refine h0.bnd ?_;rw[nums_one]at h1;obtain ⟨e1,x1⟩:=h1;cases hq:numberP r1 with
  | none=>rw[hq]at e1 x1;exact ⟨e1,fun h=>by have:=x1 h;cases this⟩
  | some p=>rw[hq]at e1 x1;exact ⟨e1,fun h=>by have:=x1 h;simp only[Option.map_some,Option.some.injEq,Prod.mk.injEq,List.cons.injEq,and_true]at this;rw[bnd_some,this.1,this.2]⟩
 rw[stepP,if_pos hn];have hh:headP l=bnd (bnd (blankP l) fun w r=>bnd (numberP r) fun k r=>some ((w,k),r)) fun p r2=>if p.1=wWorld∧r2=[] then some p.2 else none:=by
  unfold headP;cases blankP l with
  | none=>rfl
  | some x=>
   obtain ⟨x,y⟩:=x;simp only[bnd_some];cases numberP y with
   | none=>rfl
   | some z=>rfl
 rw[hh];obtain ⟨e3,x3⟩:=h3;rw[Bool.false_or]at e3;cases hb:b1 with
 | true=>
  rw[hb]at e3;rw[Option.isNone_iff_eq_none.1 e3.symm,h2,hb];refine ⟨by simp[bnd],fun st h=>by simp[bnd]at h⟩
 | false=>
  rw[x3 hb,bnd_some,h2,hb]
  by_cases hw:wd=wWorld
  by_cases hr:r2=[]
  rw[if_pos ⟨hw,hr⟩];refine ⟨by simp[hw,hr],fun st h=>by simp at h;exact h.symm⟩;rw[if_neg fun h=>hr h.2];refine ⟨by simp[hr],fun st h=>by simp at h⟩;rw[if_neg fun h=>hw h.1];refine ⟨by simp[hw],fun st h=>by simp at h⟩
theorem event_end {l wd r1 r2:List UInt8}{b0 b1 b2:Bool}{y:PEv}{area:Int}{evs:List PEv}{n:Nat}(hn:¬n < 1)(h0:PR false b0 (blankP l) wd r1)(h1:PR b0 b1 (evP wd r1) y r2)(h2:b2=(b1||!decide (evs.length+1≤300))):((!b2&&decide (r2=[]))=true↔(stepP n (area,evs) l).isSome)∧∀ st,stepP n (area,evs) l=some st→st=(area,evs++[y]):=by
 have h3:PR false b1 (bnd (blankP l) fun w r=>evP w r) y r2:=h0.bnd h1;rw[stepP,if_neg hn];have hh:lineP l=bnd (bnd (blankP l) fun w r=>evP w r) fun x r2=>if r2=[] then some x else none:=by
  unfold lineP;cases blankP l with
  | none=>rfl
  | some x=>rfl
 rw[hh];obtain ⟨e3,x3⟩:=h3;rw[Bool.false_or]at e3;cases hb:b1 with
 | true=>
  rw[hb]at e3;rw[Option.isNone_iff_eq_none.1 e3.symm,h2,hb];refine ⟨by simp[bnd],fun st h=>by simp[bnd]at h⟩
 | false=>
  rw[x3 hb,bnd_some,h2,hb]
  by_cases hr:r2=[]
  rw[if_pos hr]
  by_cases hl:evs.length+1≤300
  simp only[Option.bind_some,if_pos hl];refine ⟨by simp[hl,hr],fun st h=>by simp at h;exact h.symm⟩;simp only[Option.bind_some,if_neg hl];refine ⟨by simp[hl],fun st h=>by simp at h⟩;rw[if_neg hr];refine ⟨by simp[hr],fun st h=>by simp at h⟩
set_option maxHeartbeats 1000000 in
theorem line_c (b:Nat)(area:Int)(q:Option Addr)(e:Nat)(xs:List LEv)(n:Nat)(l:List UInt8)(Mr:Nat→Prop)(hl:l.length≤500000)(hxl:xs.length≤1000000)(hna:N64 area)(hfx:∀ x∈xs,FitE x)(w0:World)(hMr:∀ k,Mr k→k < w0.heap.size∧¬(scI b area q e xs).foot k)(hb:(scI b area q e xs).holds w0)
  (ht:Stable (fun k=>(scI b area q e xs).foot k∨Mr k) w0 LibF) (hx:Stable (fun k=>(scI b area q e xs).foot k∨Mr k) w0 (AllI xs)):Ret Tryz.prog 58 [pB b,str l,.int .i64 (n:Nat)] w0 (scI b area q e xs).foot fun v w'=>LineR Mr w0 b area q e xs n l v w':=by
 refine E1 Tryz.func58 rfl Tryz.ntmps58 ((Wd.itLentM (x:=scI b area q e xs) (Mr:=Mr) (fs:=[LibF,AllI xs]) hb hMr (by simp;exact ⟨ht,hx⟩))) ?_;intro a S;refine J9 ?_;intro a S;refine sa S ?_;intro b11 a w S;refine J6 ?_;intro a S;replace S:=(S.front (scI b area q e xs)).ofBoth;refine sit (rI b11 l false) S (blank_c b11 l false (by omega) _ (S.it (rI b11 l false))) rfl ?_;rintro _ a w ⟨wd,r1,rfl,hh,hl1,hlw,hy⟩ hS;have S:=hS (rI b11 r1 (false||(blankP l).isNone)) hh (fun k h=>.inl h);clear hS hh;have hp0:PR false (false||(blankP l).isNone) (blankP l) wd r1:=PR.of fun _=>hy
 obtain ⟨bd0,hb0⟩:∃ x,x=(false||(blankP l).isNone):=⟨_,rfl⟩;rw[←hb0]at S hp0;refine J10 ?_;intro a S;refine kC S (fun h3=>?_) (fun h3=>?_);refine J7 ?_;intro a S;refine sn S ?_;intro b21 a w S;replace S:=St.boxGl S b21 [(⟨0⟩:OffS b)] rfl (fun _ _ _=>trivial);replace S:=((S.front (Wk.box b 26 [.int .i64 area,.slice q xs.length e])).front (rI b11 r1 bd0)).toBoth;refine sit (rbI b11 r1 bd0 b 26 [.int .i64 area,.slice q xs.length e]) S (numbers_c b11 r1 bd0 b 26 [.int .i64 area,.slice q xs.length e] [0] (some ⟨b21,0,none⟩) 1 (fun o ho=>by rw[List.mem_singleton.1 ho];exact Nat.succ_pos 1) (by decide) (by omega) _ (S.it (rbI b11 r1 bd0 b 26 [.int .i64 area,.slice q xs.length e])) (S.lend (rbI b11 r1 bd0 b 26 [.int .i64 area,.slice q xs.length e]) (S.mem.fact LibF)) (S.lend (rbI b11 r1 bd0 b 26 [.int .i64 area,.slice q xs.length e]) (S.gl (some ⟨b21,0,none⟩)))) rfl ?_;rintro _ a w ⟨ns,r2,hnl,hnr,hh,hl2,hz⟩ hS;obtain ⟨m,rfl⟩:=len_eq1 hnl;have S:=hS (rbI b11 r2 (bd0||(numsP 1 r1).isNone) b 26 [.int .i64 m,.slice q xs.length e]) hh (fun k h=>.inl h);clear hS hh;replace S:=S.ofBoth;have hp1:PR bd0 (bd0||(numsP 1 r1).isNone) (numsP 1 r1) [m] r2:=PR.of fun _=>hz
 obtain ⟨bd1,hb1⟩:∃ x,x=(bd0||(numsP 1 r1).isNone):=⟨_,rfl⟩;rw[←hb1]at S hp1;refine Y20 ?_;intro a w S;refine J15 ?_;intro a S;have hn1:n < 1:=by simp at h3;omega
 obtain ⟨h5,h6⟩:=head_end (area:=area) (evs:=xs.map LEv.e) hn1 hp0 hp1 rfl;replace S:=((S.front (Wk.box b 26 [.int .i64 m,.slice q xs.length e])).front (Wk.row 47 23 q xs.length e (encL xs))).toBoth;have hh:=S.it (scI b m q e xs);have hst:Stable (fun k=>(scI b m q e xs).foot k∨Mr k) _ (AllI xs):=(S.wd.facts (AllI xs) (by simp)).less fun k _ hk=>hk.elim (fun h1=>⟨scI b m q e xs,by simp,h1⟩) (fun h1=>⟨ext Mr,by simp,h1⟩)
 refine end1 S (fun _=>⟨_,m,q,e,xs,rfl,hh,fun k hk=>.inl hk,hst,hfx,hnr m (by simp),by omega,h5,h6⟩);refine kS ?_;refine c_drwe5 (.q 0 (.q 1 (.q 2 (.q 3 (.q 5 (.q 6 (.b2 4 7 (.l 7 (.l 8 (.l 9 (.q 10 (.q 11 (.l 12 (.e))))))) (.b2 4 8 (.l 8 (.l 9 (.q 10 (.q 11 (.l 12 (.e)))))) (.l 4 (.l 9 (.q 10 (.q 11 (.l 12 (.e)))))))))))))) S (fun(y:LEv) (r2:List UInt8) (bd1:Bool) (q2:Option Addr) (e2:Nat) uu=>[(34,uu 34),(0,uu 35),(0,uu 36),(0,uu 37),(0,uu 38),(0,uu 39),(0,uu 40),(0,uu 41),(0,uu 42),(0,uu 43),(0,uu 44),(0,uu 45)]) [] (fun(y:LEv) (r2:List UInt8) (bd1:Bool) (q2:Option Addr) (e2:Nat)=>[Wk.row 47 23 q2 (xs++[y]).length e2 (encL (xs++[y])),Wk.box b 26 [.int .i64 area,.slice q2 (xs++[y]).length e2],rI b11 r2 bd1,ext Mr]) (fun(y:LEv) (r2:List UInt8) (bd1:Bool) (q2:Option Addr) (e2:Nat)=>[AllI (xs++[y])]) (fun(y:LEv) (r2:List UInt8) (bd1:Bool) (q2:Option Addr) (e2:Nat)=>FitE y∧r2.length≤r1.length∧PR bd0 bd1 (evP wd r1) y.e r2) ?_ ?_;intro w S;(iterate 6 (refine tq S ?_;intro a S));refine tb2 ?_ ?_;refine sq S ?_;intro a S;refine te S ?_;refine tl ?_;refine sitM (rI b11 r1 bd0) S (event_c b11 wd r1 bd0 (restOf _ (rI b11 r1 bd0)) (by omega) _ (S.restOk _) (S.it (rI b11 r1 bd0)) ((S.mem.fact LibF).split (rI b11 r1 bd0))) rfl ?_;rintro _ a w ⟨y,r2,bd1,rfl,hyf,hfy,hh,hl2,hp1⟩ hS;have S:=hS (rI b11 r2 bd1) [InF y] hh (fun k h=>.inl h) (by intro Φ hΦ;obtain rfl:=List.mem_singleton.1 hΦ;exact hyf);clear hS hh;replace S:=S.add (Φ:=AllI (xs++[y])) (AllI.snoc (S.wd.facts (AllI xs) (by simp)) (S.i y))
 refine te S ?_;refine tl (sn S ?_);intro b42 a w S;refine te S ?_;refine tl ?_;refine sap S (by simp[maxLen];omega) (by omega) ?_;rintro q2 e2 a w - S;rw[show encL xs++cEv y=encL (xs++[y]) from by rw[encL_append];rfl,show xs.length+1=(xs++[y]).length from by simp]at S;refine te S ?_;(iterate 2 (refine tq S ?_;intro a S));refine tl (sw S ?_);intro a w S;refine te S ?_;refine tn ?_;exact ⟨y,r2,bd1,q2,e2,S.uu,⟨hfy,hl2,hp1⟩,S.sub _ _⟩;refine sitM (rI b11 r1 bd0) S (event_c b11 wd r1 bd0 (restOf _ (rI b11 r1 bd0)) (by omega) _ (S.restOk _) (S.it (rI b11 r1 bd0)) ((S.mem.fact LibF).split (rI b11 r1 bd0))) rfl ?_;rintro _ a w ⟨y,r2,bd1,rfl,hyf,hfy,hh,hl2,hp1⟩ hS;have S:=hS (rI b11 r2 bd1) [InF y] hh (fun k h=>.inl h) (by intro Φ hΦ;obtain rfl:=List.mem_singleton.1 hΦ;exact hyf);clear hS hh;replace S:=S.add (Φ:=AllI (xs++[y])) (AllI.snoc (S.wd.facts (AllI xs) (by simp)) (S.i y));refine te S ?_;refine tb2 ?_ ?_;refine sq S ?_;intro a S;refine te S ?_;refine tl (sn S ?_);intro b42 a w S;refine te S ?_;refine tl ?_;refine sap S (by simp[maxLen];omega) (by omega) ?_;rintro q2 e2 a w - S;rw[show encL xs++cEv y=encL (xs++[y]) from by rw[encL_append];rfl,show xs.length+1=(xs++[y]).length from by simp]at S;refine te S ?_;(iterate 2 (refine tq S ?_;intro a S));refine tl (sw S ?_);intro a w S;refine te S ?_;refine tn ?_;exact ⟨y,r2,bd1,q2,e2,S.uu,⟨hfy,hl2,hp1⟩,S.sub _ _⟩;refine sn S ?_;intro b42 a w S;refine te S ?_;refine tl (sq S ?_);intro a S;refine te S ?_;refine tl ?_;refine sap S (by simp[maxLen];omega) (by omega) ?_;rintro q2 e2 a w - S
 rw[show encL xs++cEv y=encL (xs++[y]) from by rw[encL_append];rfl,show xs.length+1=(xs++[y]).length from by simp]at S;refine te S ?_;(iterate 2 (refine tq S ?_;intro a S));refine tl (sw S ?_);intro a w S;refine te S ?_;refine tn ?_;exact ⟨y,r2,bd1,q2,e2,S.uu,⟨hfy,hl2,hp1⟩,S.sub _ _⟩;clear S;rintro y r2 bd1 q2 e2 uu a w ⟨hfy,hl2,hp1⟩ S;refine Y20 ?_;intro a w S;refine J18 ?_;intro a S;have hn1:¬n < 1:=by simp at h3;omega
 have h300:decide ((300:Int) < ((xs++[y]).length:Nat)) = !decide ((xs.map LEv.e).length+1≤300):=by
  rw[List.length_append,List.length_map,←decide_not,decide_eq_decide]
  show _↔¬xs.length+1≤300
  simp only[qqA,qqB];omega
 rw[h300]at S;obtain ⟨h5,h6⟩:=event_end (area:=area) (evs:=xs.map LEv.e) hn1 hp0 hp1 rfl;replace S:=((S.front (Wk.box b 26 [.int .i64 area,.slice q2 (xs++[y]).length e2])).front (Wk.row 47 23 q2 (xs++[y]).length e2 (encL (xs++[y])))).toBoth;have hh:=S.it (scI b area q2 e2 (xs++[y]));have hst:Stable (fun k=>(scI b area q2 e2 (xs++[y])).foot k∨Mr k) _ (AllI (xs++[y])):=(S.wd.facts (AllI (xs++[y])) (by simp)).less fun k _ hk=>hk.elim (fun h1=>⟨scI b area q2 e2 (xs++[y]),.head _,h1⟩) (fun h1=>⟨ext Mr,.tail _ (.tail _ (.head _)),h1⟩)
 have hnw:=S.itNew (scI b area q2 e2 (xs++[y]));refine end1 S (fun _=>⟨_,area,q2,e2,xs++[y],rfl,hh,hnw,hst,fun z hz=>?_,hna,by simp,h5,fun st h=>by rw[h6 st h,List.map_append];rfl⟩);rcases List.mem_append.1 hz with hz | hz
 exact hfx z hz;rw[List.mem_singleton.1 hz];exact hfy
section
variable {P:Program}{r:Option Nat}{ops:Array Oper}{Q:Exit→Act→World→Prop}{w0:World}{M0:Nat→Prop}{ds:List Deferred}{a:Act}{w:World}{l:List Value}{bs:List Wk.Item}{bs':Wk.Item→List Wk.Item}{fs:List (World→Prop)}
 {d:Option Nat} {ty:TypeId} {pos:String} {af:Array Edge} {rest:List Oper} {G:Value} {f:Nat} {x:Operand} {xs:List Operand} {args:List Value} {ts:Array TypeId} {j g:Nat} {pol:Bool}
theorem gsitM {c:Bool}{l':Value→List Value}(it:Wk.Item)[hg:GSlot ops j g][hn:Nth l g G][hc:Conds G pol [c]][EntF P f][he:CallTo ⟨[c],l⟩ x xs f args][hp:∀ v,PutO l d (gif c v) (l' v)][hr:∀ y,ReplI bs it y (bs' y)](S:St w0 M0 ds a w l bs fs)(v0:Value)(ho:it.own=true)(Φ0:World→Prop)(h0:Stable (foots bs) w Φ0){R:Value→Wk.Item→(World→Prop)→World→Prop}
  (hq:c=true→Ret P f args w it.foot fun v w'=>∃ y Φ,R v y Φ w')
  (hk:∀ v y Φ w',R v y Φ w'→ItOk y∧y.holds w'∧(∀ k,y.foot k→it.foot k∨w.heap.size≤k)∧Stable (fun k=>y.foot k∨restOf bs it k) w' Φ)
  (K:∀ v y Φ a w',(c=true→R v y Φ w')→(c=false→v=v0∧y=it∧Φ=Φ0)→St w0 M0 ds a w' (l' v) (bs' y) (Φ::fs)→WL P r ops Q rest a w'):WL P r ops Q (⟨d,.call { callee:=.value x,args:=xs.toArray,argTypes:=ts },ty,pos,af,some (j,pol)⟩::rest) a w:=by
 have hw:=wanted_iff (ops:=ops) (d:=d) (op:=.call { callee:=.value x,args:=xs.toArray,argTypes:=ts }) (ty:=ty) (pos:=pos) (af:=af) (pol:=pol) S hg.eq;have hap:=S.wd.apart;refine wl_guard (fun ht=>?_) (fun hf=>?_)
 ·have hall:=hw.1 ht
  have hct:c=true:=hall c (by simp);have:CallTo ⟨[],l⟩ x xs f args:=⟨by
   obtain ⟨fi,ca,vs,h0,h1,h2⟩:=he.ex;exact ⟨fi,ca,vs,⟨fun _ ds=>h0.eq hall ds⟩,⟨fun _ ds=>h1.eq hall ds⟩,h2⟩⟩
  refine cv_any S (hq hct) ?_;rintro e w' ⟨v,rfl,ha,y,Φ,hR⟩;obtain ⟨oy,hh,hft,hfs⟩:=hk v y Φ w' hR;have:=hp v;have S':=S.put (d:=d) (v:=gif c v);have e1:gif c v=v:=by rw[hct];rfl
  rw[e1]at S';have hwd:=S'.wd;obtain ⟨pre,post,q1,q2⟩:=(hr y).ex;rw[q1]at hwd hap;have hwd2:=hwd.swap ho ha hh hft (oy.lt w' hh) oy.loc;rw[←q2]at hwd2;have S2:St w0 M0 ds _ w' _ (bs' y) fs:=⟨S'.slots,S'.defers,hwd2⟩;refine ⟨v,rfl,K v y Φ _ w' (fun _=>hR) (fun h=>by rw[hct]at h;cases h) (S2.add (hfs.less fun k _ hk=>?_))⟩;obtain ⟨z,hz,hk⟩:=hk;rw[q2]at hz;have hp:=List.pairwise_append.1 hap;rcases List.mem_append.1 hz with hz | hz
  ·exact .inr ⟨⟨z,by rw[q1];simp[hz],hk⟩,hp.2.2 z hz it (by simp) k hk⟩
  ·rcases List.mem_cons.1 hz with rfl | hz
   ·exact .inl hk
   ·exact .inr ⟨⟨z,by rw[q1];simp[hz],hk⟩,fun hx=>(List.pairwise_cons.1 hp.2.1).1 z hz k hx hk⟩
 ·have hcf:c=false:=by
   cases q:c with
   | false=>rfl
   | true=>rw[hw.2 (by simp[q])]at hf;cases hf
  have:=hp v0;have S':=S.put (d:=d) (v:=gif c v0);have e:gif c v0=undef:=by rw[hcf];rfl
  rw[e]at S';obtain ⟨pre,post,q1,q2⟩:=(hr it).ex;have S2:=S'.add h0;have hbb:bs' it=bs:=by rw[q2,←q1]
  exact K v0 it Φ0 _ _ (fun h=>by rw[hcf]at h;cases h) (fun _=>⟨rfl,rfl,rfl⟩) (by rw[hbb];exact S2)
end
theorem parse_cut {N n:Nat}{st:Int × List PEv}{T l r:List UInt8}{a:Nat}(hT:T≠[])(hN:T.length < N)(hc:cutB 10 T=(l,some r)):parseL N n st T a=match stepP n st l with
  | none=>.error a
  | some st2=>parseL N (n+1) st2 r (a+l.length+1):=by
 match N,hN with
 | N+1,hN=>
  rw[parseL,if_neg hT,hc];simp only;cases stepP n st l with
  | none=>rfl
  | some st2=>
   have:=cut_len hc;exact parse_fuel _ _ _ _ _ _ (by omega) (by omega)
theorem parse_nocut {N n:Nat}{st:Int × List PEv}{T l:List UInt8}{a:Nat}(hT:T≠[])(hN:T.length < N)(hc:cutB 10 T=(l,none)):parseL N n st T a=.error a:=by
 match N,hN with
 | N+1,hN=>rw[parseL,if_neg hT,hc]
theorem parse_nil {N n:Nat}{st:Int × List PEv}{a:Nat} : parseL (N+1) n st [] a=if n < 1 then .error a else .ok st:=by rw[parseL,if_pos rfl]
theorem cut_rest {text l r:List UInt8}{a:Nat}(ha:a≤text.length)(hc:cutB 10 (text.drop a)=(l,some r)):r=text.drop (a+l.length+1)∧a+l.length+1≤text.length:=by
 have h1:=(cutB_some.1 hc).1;have h2:=cut_len hc;rw[List.length_drop]at h2;refine ⟨?_,by omega⟩;rw[show a+l.length+1=a+(l.length+1) from rfl,←List.drop_drop,h1,show l.length+1=(l++[(10:UInt8)]).length from by simp,show l++10::r=(l++[10])++r from by simp,List.drop_left]
abbrev zScr:LScr:=⟨0,⟨none,0,[]⟩⟩
theorem zScr_in (w:World):Lay.inn w zScr:=⟨⟨Nat.le_refl _,Nat.zero_le _,gl_nil⟩,⟨by show (-9223372036854775808:Int)≤0;omega,by show (0:Int)≤9223372036854775807;omega⟩⟩
def ParseR (M:Nat→Prop)(text:List UInt8)(v:Value)(w:World):Prop:=∃ (s:LScr) (p:Nat) (er:Int),v=.tuple ⟨[vScr s,.int .i64 (p:Nat),.int .i64 er]⟩∧Stable M w (InF s)∧FitS s∧
 ((262144 < text.length∧s=zScr∧p=0∧er=3)∨(text.length≤262144∧((parseF text=.error p∧s=zScr∧er=340)∨(parseF text=.ok (s.area,s.evs)∧p=0∧er=0))))
set_option maxHeartbeats 1000000 in
theorem parse_c (text:List UInt8)(hl:text.length≤1000000)(M:Nat→Prop)(w0:World)(hM:∀ k,M k→k < w0.heap.size)(ht:Stable M w0 LibF):Ret Tryz.prog 16 [str text] w0 (fun _=>False) fun v w'=>ParseR M text v w':=by
 refine E1 Tryz.func16 rfl Tryz.ntmps16 (Wd.beginM (M:=M) (fs:=[LibF]) hM (by simpa using ht)) ?_;intro a S;refine kS (kR ?_);refine sa S ?_;clear S;intro b2 a w S;(iterate 2 (refine sq S ?_;clear S;intro a S));refine kN (xtn (c_scope (kS (kS (kR ?_)))));(iterate 3 (refine sq S ?_;clear S;intro a S));refine kN (xtn ?_);refine kC S (fun h1=>?_) (fun h1=>?_);refine kS (kR (sq S ?_));clear S;intro a S;refine sw S ?_;clear S;intro a w S;(iterate 2 (refine sq S ?_;clear S;intro a S));refine kN (xtn (kT (xtr (xsr ?_))));have hlt:262144 < text.length:=by simp at h1;omega
 refine end3 S (fun _=>⟨zScr,0,3,rfl,fun w _=>zScr_in w,⟨Nat.zero_le _,nofun⟩,.inl ⟨hlt,rfl,rfl,rfl⟩⟩);refine kK (xtn (kS ?_));have hlt:text.length≤262144:=by simp at h1;omega
 refine kR (sa S ?_);clear S;intro b5 a w S;refine kN (xtn (kS (kR ?_)));(iterate 3 (refine sq S ?_;clear S;intro a S));refine kN (xtn (kS (c_label (xtn ?_))));refine c_mrge4 S (fun(p:Nat) (n:Nat) (ok:Bool) (s:LScr) uu=>[(6,.int .i64 (p:Nat)),(0,.int .i64 (n:Nat)),(0,.bool ok),(0,uu 9),(0,uu 10),(0,uu 11),(4,uu 16),(0,uu 17),(0,uu 18),(0,uu 19),(0,uu 20),(0,uu 21),(0,uu 22),(0,uu 23),(0,uu 24),(0,uu 25),(0,uu 26),(0,uu 27),(0,uu 28),(0,uu 29),(0,uu 30),(0,uu 31),(0,uu 32),(0,uu 33),(0,uu 34),(0,uu 35),(0,uu 36),(0,uu 37),(0,uu 38),(0,uu 39),(0,uu 40),(0,uu 41),(0,uu 42)]) (fun(p:Nat) (n:Nat) (ok:Bool) (s:LScr)=>[scI b5 s.area s.ev.p s.ev.cap s.ev.xs,Wk.box b2 26 [.int .i64 0,.slice none 0 0],ext M]) (fun(p:Nat) (n:Nat) (ok:Bool) (s:LScr)=>[AllI s.ev.xs]) (fun(p:Nat) (n:Nat) (ok:Bool) (s:LScr)=>p≤text.length∧n≤p∧s.ev.xs.length≤n+1∧N64 s.area∧(∀ x∈s.ev.xs,FitE x)∧parseF text=if ok=true then (if n < 1 then .error p else .ok (s.area,s.evs)) else .error p) ?_ ?_;refine kB ?_;refine c_fore6 S (fun(p:Nat) (n:Nat) (area:Int) (q:Option Addr) (e:Nat) (xs:List LEv) uu=>[(6,.int .i64 (p:Nat)),(0,.int .i64 (n:Nat)),(0,.bool true),(0,uu 9),(0,uu 10),(0,uu 11),(4,uu 16),(0,uu 17),(0,uu 18),(0,uu 19),(0,uu 20),(0,uu 21),(0,uu 22),(0,uu 23),(0,uu 24),(0,uu 25),(0,uu 26),(0,uu 27),(0,uu 28),(0,uu 29),(0,uu 30),(0,uu 31),(0,uu 32),(0,uu 33),(0,uu 34),(0,uu 35),(0,uu 36),(0,uu 37),(0,uu 38),(0,uu 39),(0,uu 40),(0,uu 41),(0,uu 42)]) (fun(p:Nat) (n:Nat) (area:Int) (q:Option Addr) (e:Nat) (xs:List LEv)=>[scI b5 area q e xs,Wk.box b2 26 [.int .i64 0,.slice none 0 0],ext M]) (fun(p:Nat) (n:Nat) (area:Int) (q:Option Addr) (e:Nat) (xs:List LEv)=>[AllI xs,LibF]) (fun(p:Nat) (n:Nat) (area:Int) (q:Option Addr) (e:Nat) (xs:List LEv)=>p≤text.length∧n≤p∧xs.length≤n∧N64 area∧(∀ x∈xs,FitE x)∧parseF text=parseL (text.length+1) n (area,xs.map LEv.e) (text.drop p) p) (fun(p:Nat) (n:Nat) (area:Int) (q:Option Addr) (e:Nat) (xs:List LEv)=>text.length - p) (0) (0) (0) (none) (0) ([]) ?_ S.uu ?_ ?_
 exact ⟨Nat.zero_le _,Nat.le_refl _,Nat.le_refl _,⟨by omega,by omega⟩,nofun,rfl⟩;replace S:=S.addNil 47 23;rw[show Wk.row 47 23 none 0 0 []=Wk.row 47 23 none 0 0 (encL ([]:List LEv)) from rfl]at S;replace S:=S.add (Φ:=AllI (α:=LEv) []) AllI.nil;replace S:=((S.front (Wk.box b5 26 [.int .i64 0,.slice none 0 0])).front (Wk.row 47 23 none 0 0 (encL ([]:List LEv)))).toBoth;exact S.sub _ _;clear S;rintro p n area q e xs uu a w ⟨hp,hn,hxn,hna,hfx,hpf⟩ S;refine J9 ?_;clear S;intro a S;refine kC S (fun h5=>?_) (fun h5=>?_);refine kK (xtn (kB (kS ?_)));have hpl:p < text.length:=by simp at h5;omega
 have hLp:LeC p text.length:=⟨by omega⟩;have hne:text.drop p≠[]:=fun h=>by have:=List.drop_eq_nil_iff.1 h;omega
 have hdl:(text.drop p).length=text.length - p:=List.length_drop;refine J4 ?_;clear S;intro a S;rw[List.take_length]at S;refine sr S (cut_c (text.drop p) 10 (by omega) _) ?_;clear S;rintro _ a w rfl S;obtain ⟨ln,hln⟩:∃ ln,ln=(cutB 10 (text.drop p)).1:=⟨_,rfl⟩;obtain ⟨mo,hmo⟩:∃ mo,mo=(cutB 10 (text.drop p)).2:=⟨_,rfl⟩;rw[cutV,←hln,←hmo]at S;have hcp:cutB 10 (text.drop p)=(ln,mo):=by rw[hln,hmo]
 have hlnl:ln.length≤text.length:=by
  cases mo with
  | none=>rw[←(cutB_none.1 hcp).1];omega
  | some r=>have:=cut_len hcp;omega
 refine J16 ?_;clear S;intro a S;refine gsitM (scI b5 area q e xs) S (.bool false) rfl (AllI xs) (S.wd.facts (AllI xs) (by simp)) (R:=fun v y Φ w'=>∃ (ok:Bool) (a2:Int) (q2:Option Addr) (e2:Nat) (ys:List LEv),v=.bool ok∧y=scI b5 a2 q2 e2 ys∧Φ=AllI ys∧y.holds w'∧(∀ k,y.foot k→(scI b5 area q e xs).foot k∨w.heap.size≤k)∧Stable (fun k=>y.foot k∨restOf _ (scI b5 area q e xs) k) w' Φ∧
  (∀ y∈ys,FitE y)∧N64 a2∧ys.length≤xs.length+1∧(ok=true↔(stepP n (area,xs.map LEv.e) ln).isSome)∧∀ st,stepP n (area,xs.map LEv.e) ln=some st→st=(a2,ys.map LEv.e)) (fun _=>(line_c b5 area q e xs n ln (restOf _ (scI b5 area q e xs)) (by omega) (by omega) hna hfx _ (S.restOk _) (S.it (scI b5 area q e xs)) ((S.mem.fact LibF).split (scI b5 area q e xs)) ((S.wd.facts (AllI xs) (by simp)).split (scI b5 area q e xs))).mono fun v w' ⟨ok,a2,q2,e2,ys,hv,k1,k2,k3,k4⟩=>⟨_,_,ok,a2,q2,e2,ys,hv,rfl,rfl,k1,k2,k3,k4⟩) (fun v y Φ w' ⟨ok,a2,q2,e2,ys,_,hy,_,k1,k2,k3,_⟩=>⟨by rw[hy];infer_instance,k1,k2,k3⟩) ?_;clear S;rintro v y Φ a w hR1 hR2 S
 obtain ⟨ok,a2,q2,e2,ys,rfl,rfl,rfl,hfy,hna2,hyl,hok,hst⟩:∃ (ok:Bool) (a2:Int) (q2:Option Addr) (e2:Nat) (ys:List LEv),v=.bool ok∧y=scI b5 a2 q2 e2 ys∧Φ=AllI ys∧(∀ y∈ys,FitE y)∧N64 a2∧ys.length≤xs.length+1∧(mo.isSome=true→(ok=true↔(stepP n (area,xs.map LEv.e) ln).isSome))∧(mo.isSome=true→∀ st,stepP n (area,xs.map LEv.e) ln=some st→st=(a2,ys.map LEv.e)):=by
  cases hm:mo.isSome with
  | false=>
   obtain ⟨r1,r2,r3⟩:=hR2 hm;exact ⟨false,area,q,e,xs,r1,r2,r3,hfx,hna,by omega,nofun,nofun⟩
  | true=>
   obtain ⟨ok,a2,q2,e2,ys,r1,r2,r3,-,-,-,k4,k5,k6,k7,k8⟩:=hR1 hm;exact ⟨ok,a2,q2,e2,ys,r1,r2,r3,k4,k5,k6,fun _=>k7,fun _=>k8⟩
 clear hR1 hR2;refine J10 ?_;clear S;intro a S;refine kC S (fun h8=>?_) (fun h8=>?_);refine kE (xte (xbx (xte (xbe (xtn ?_)))));have h8':(mo.isSome&&ok)=false:=by
  cases q:(mo.isSome&&ok) with
  | false=>rfl
  | true=>rw[q]at h8;cases h8
 rw[h8']at S;refine ⟨p,n,false,⟨a2,⟨q2,e2,ys⟩⟩,S.uu,⟨hp,hn,by show ys.length≤n+1;omega,hna2,hfy,?_⟩,S.sub _ _⟩;rw[hpf,if_neg (by decide)];cases mo with
 | none=>exact parse_nocut hne (by omega) hcp
 | some r=>
  rw[parse_cut hne (by omega) hcp];cases hq:stepP n (area,xs.map LEv.e) ln with
  | none=>rfl
  | some st2=>
   have:=(hok rfl).2 (by rw[hq];rfl);rw[this]at h8';cases h8'
 refine J19 ?_;clear S;intro a S;obtain ⟨hm,rfl⟩:mo.isSome=true∧ok=true:=by simpa using h8
 cases mo with
 | none=>cases hm
 | some r=>
  obtain ⟨st2,hq⟩:=Option.isSome_iff_exists.1 ((hok rfl).1 rfl);obtain ⟨hr1,hr2⟩:=cut_rest hp hcp;rw[parse_cut hne (by omega) hcp,hq,hst rfl st2 hq,hr1]at hpf;rw[w6 ((ln.length:Int)+1),w64 ((p:Int)+((ln.length:Int)+1)) (by omega) (by omega),w6 ((n:Int)+1),show (p:Int)+((ln.length:Int)+1)=((p+ln.length+1:Nat):Int) from by omega]at S;exact ⟨p+ln.length+1,n+1,a2,q2,e2,ys,S.uu,⟨hr2,by omega,by omega,hna2,hfy,hpf⟩,S.sub _ _,by omega⟩
 refine kE (xte (xte (xbe (xtn ?_))));have hpe:p=text.length:=by simp at h5;omega
 refine ⟨p,n,true,⟨area,⟨q,e,xs⟩⟩,S.uu,⟨hp,hn,by show xs.length≤n+1;omega,hna,hfx,?_⟩,S.sub _ _⟩;rw[List.drop_eq_nil_of_le (by omega),parse_nil]at hpf;rw[hpf,if_pos rfl];rfl;clear S;rintro p n ok s uu a w ⟨hp,hn,hxn,hna,hfx,hpf⟩ S;refine J11 ?_;clear S;intro a S;refine kC S (fun h11=>?_) (fun h11=>?_);refine kS (kR ?_);(iterate 2 (refine sq S ?_;clear S;intro a S));refine sw S ?_;clear S;intro a w S;(iterate 2 (refine sq S ?_;clear S;intro a S));refine kN (xtn (kT (xtr (xsr ?_))));refine end3 S (fun _=>⟨zScr,p,340,rfl,fun w _=>zScr_in w,⟨Nat.zero_le _,nofun⟩,.inr ⟨hlt,.inl ⟨?_,rfl,rfl⟩⟩⟩);rw[hpf];cases ok with
 | false=>rw[if_neg (by decide)]
 | true=>
  have:n < 1:=by simp at h11;omega
  rw[if_pos rfl,if_pos this]
 refine kK (xtn (kS ?_));replace S:=(S.front (scI b5 s.area s.ev.p s.ev.cap s.ev.xs)).ofBoth;refine kR (sq S ?_);clear S;intro a S;refine sw S ?_;clear S;intro a w S;(iterate 2 (refine sq S ?_;clear S;intro a S));refine kN (xtn (kT (xsr ?_)));obtain ⟨rfl,hn1⟩:ok=true∧¬n < 1:=by
  simp at h11;exact ⟨h11.1,by omega⟩
 rw[if_pos rfl,if_neg hn1]at hpf;have hpl:=own_le (S.row s.ev.p s.ev.xs.length);have hpm:=own_capT (S.row s.ev.p s.ev.xs.length);replace S:=(S.front (Wk.row 47 23 s.ev.p s.ev.xs.length s.ev.cap (encL s.ev.xs))).rowToGl s.ev.p s.ev.xs (e:=47) (sz:=23) (n:=s.ev.xs.length) (c:=s.ev.cap) (S.wd.facts (AllI s.ev.xs) (by simp));replace S:=S.add (Φ:=InF s) (fun w' hw'=>⟨⟨hpl,hpm,S.wd.facts (GlF s.ev.p s.ev.xs) (by simp) w' hw'⟩,hna⟩);have hlat:=S.laterFact (M:=M) (Φ:=InF s) (by simp);refine end3 S (fun _=>⟨s,0,0,rfl,hlat,⟨by omega,hfx⟩,.inr ⟨hlt,.inr ⟨hpf,rfl,rfl⟩⟩⟩)
theorem ex_parsed {M:Nat→Prop}{v:Value}{w:World}(h:ParseR M exL v w):∃ s:LScr,v=.tuple ⟨[vScr s,.int .i64 0,.int .i64 0]⟩∧Stable M w (InF s)∧FitS s∧s.area=400∧s.evs=[ex1,ex2,ex3]:=by
 obtain ⟨s,p,er,rfl,h1,h2,h3⟩:=h;rcases h3 with ⟨h,-⟩ | ⟨-,⟨h,-⟩ | ⟨h,rfl,rfl⟩⟩
 exact absurd h (by decide);rw[ex_parse]at h;cases h;rw[ex_parse]at h;simp only[Except.ok.injEq,Prod.mk.injEq]at h;exact ⟨s,rfl,h1,h2,h.1.symm,h.2.symm⟩
theorem wakes24_c (w0:World)(ht:Fx w0 LibF):Ret Tryz.prog 11 [] w0 (fun _=>False) fun v _=>v=.bool true:=by
 refine E1 Tryz.func11 rfl Tryz.ntmps11 (Wd.begin (fs:=[LibF]) (by simpa using ht)) ?_;intro a S;refine J7 ?_;clear S;intro a S;refine sr S (parse_c exL (by decide) _ _ (foots_lt S) (S.mem.fact LibF)) ?_;clear S;rintro _ a w hR S;obtain ⟨s,rfl,hsf,hfit,har,hev⟩:=ex_parsed hR;clear hR;replace S:=S.add hsf;have hlen:s.ev.xs.length=3:=by have:=congrArg List.length hev;simpa [LScr.evs] using this
 have hK0:KLt 0 s.ev.xs.length:=⟨by omega⟩;have hK2:KLt 2 s.ev.xs.length:=⟨by omega⟩;have hx:∀ k,k < 3→(nthG s.ev.xs k).e=[ex1,ex2,ex3].getD k ex1:=fun k hk=>by
  have h1:=nthG_get (xs:=s.ev.xs) (k:=k) (by omega);have h2:s.evs[k]? = some (nthG s.ev.xs k).e:=by rw[LScr.evs,List.getElem?_map,h1];rfl
  rw[hev]at h2;rw[List.getD_eq_getElem?_getD,h2];rfl
 have e0:=hx 0 (by omega);have e2:=hx 2 (by omega);have hchk:chkS s=0:=by rw[chkS,hev,if_pos ex_check]
 have hprn:printV s=(exL,0):=by rw[printV,hev,if_pos ex_check,har,ex_print,if_pos (by decide)]
 refine J4 ?_;clear S;intro a S;refine sa S ?_;clear S;intro b1 a w S;refine Y22 ?_;clear S;intro a w S;refine kC S (fun h2=>?_) (fun h2=>?_);refine J7 ?_;clear S;intro a S;exfalso;rw[hlen]at h2;simp at h2;refine kK (xtn (kS ?_));refine c_drwe2 (.q 0 (.q 1 (.q 2 (.q 3 (.q 4 (.q 5 (.q 6 (.q 7 (.b2 8 9 (.l 9 (.l 10 (.l 11 (.e)))) (.l 8 (.l 10 (.l 11 (.e))))))))))))) S (fun(b4:Nat) (b5:Nat) uu=>[(4,.pointer (some ⟨b4,0,none⟩)),(0,.pointer (some ⟨b5,0,none⟩)),(18,uu 24),(0,uu 25),(0,uu 26),(0,uu 27),(0,uu 28),(0,uu 29),(0,uu 30),(0,uu 31)]) [Wk.box b1 26 (cScr s)] (fun(b4:Nat) (b5:Nat)=>[Wk.box b4 47 (cEv (nthG s.ev.xs 0)),Wk.box b5 47 (cEv (nthG s.ev.xs 2)),Wk.box b1 26 (cScr s)]) (fun(b4:Nat) (b5:Nat)=>[InF s,LibF]) (fun(b4:Nat) (b5:Nat)=>True) ?_ ?_;intro w S;(iterate 8 (refine tq S ?_;clear S;intro a S));refine tb2 ?_ ?_;refine sa S ?_;clear S;intro b4 a w S;refine te S ?_;refine tl (sa S ?_);clear S;intro b5 a w S;refine te S ?_;refine tl (sw S ?_);clear S;intro a w S;refine te S ?_;refine tl (sw S ?_);clear S;intro a w S;refine te S ?_;refine tn ?_;replace S:=(S.front (Wk.box b5 47 (cEv (nthG s.ev.xs 2)))).front (Wk.box b4 47 (cEv (nthG s.ev.xs 0)));exact ⟨b4,b5,S.uu,trivial,S.sub _ _⟩;refine sa S ?_;clear S;intro b5 a w S;refine te S ?_;refine tl (sa S ?_);clear S;intro b4 a w S;refine te S ?_;refine tl (sw S ?_);clear S;intro a w S;refine te S ?_;refine tl (sw S ?_);clear S;intro a w S;refine te S ?_;refine tn ?_;replace S:=(S.front (Wk.box b5 47 (cEv (nthG s.ev.xs 2)))).front (Wk.box b4 47 (cEv (nthG s.ev.xs 0)))
 exact ⟨b4,b5,S.uu,trivial,S.sub _ _⟩;clear S;rintro b4 b5 uu a w - S;refine J20 ?_;clear S;intro a S;refine J3 ?_;clear S;intro a S;refine gcr S (.int .i64 0) (fun _=>scheck_c s hfit w (S.i0 s)) ?_;clear S;rintro v51 a w hR1 hR2 S;obtain rfl:v51=.int .i64 0:=by
  rw[←hchk]at hR2⊢
  generalize hc:(!_:Bool)=c at hR1 hR2
  cases c with
  | true=>exact hR1 rfl
  | false=>exact hR2 rfl
 clear hR1 hR2;refine J4 ?_;clear S;intro a S;refine kC S (fun h5=>?_) (fun h5=>?_);refine J7 ?_;clear S;intro a S;exfalso;have a1:(nthG s.ev.xs 0).oname=[49,47,102]:=congrArg PEv.oname e0;have a2:(nthG s.ev.xs 0).body.text=[120]:=by
  have h:(nthG s.ev.xs 0).body.t=exT:=congrArg PEv.body e0;rw[LTerm.t_eq,exT,Term.mk.injEq]at h;exact h.2.2.2.1
 have a3:(nthG s.ev.xs 2).keep.xs=[true,false]:=congrArg PEv.keep e2;rw[a1,a2,a3]at h5;simp at h5;refine J5 ?_;clear S;intro a S;refine sr S (print_c s hfit w (S.mem.fact0 LibF |>.imp fun _ h=>h.1) (S.i0 s)) ?_;clear S;rintro _ a w rfl S;rw[hprn]at S;refine J19 ?_;clear S;intro a S;refine end1 S (fun _=>?_);simp
theorem hassufI_c (s:List UInt8)(c:UInt8)(hl:s.length≤1000000)(w0:World):Ret Tryz.prog 61 [str s,str [c]] w0 (fun _=>False) fun v _=>∃ b,v=.bool b∧(b=true↔∃ q,s=q++[c]):=by
 rcases List.eq_nil_or_concat s with rfl | ⟨q,x,hs⟩
 refine E1 Tryz.func61 rfl Tryz.ntmps61 (Wd.start w0) ?_;intro a S;refine J12 ?_;intro a S;rw[show decide (((([c]:List UInt8).length:Nat):Int)≤((([]:List UInt8).length:Nat):Int))=false from by simp]at S;refine J15 ?_;intro a S;refine end1 S (fun _=>⟨false,rfl,by simp⟩);rw[List.concat_eq_append]at hs;subst hs;have hlq:(q++[x]).length=q.length+1:=by simp
 have hL1:LeC q.length (q++[x]).length:=⟨by omega⟩;refine E1 Tryz.func61 rfl Tryz.ntmps61 (Wd.start w0) ?_;intro a S;refine J12 ?_;intro a S;rw[show decide (((([c]:List UInt8).length:Nat):Int)≤(((q++[x]).length:Nat):Int))=true from by simp;omega]at S;refine J7 ?_;intro a S;rw[show IntKind.i64.wrap ((((q++[x]).length:Nat):Int) - ((([c]:List UInt8).length:Nat):Int))=((q.length:Nat):Int) from by rw[w64 _ (by simp only[List.length_append,qqA,qqB];omega) (by simp only[List.length_append,qqA,qqB];omega),hlq];simp only[qqA,qqB];omega]at S;refine J1 ?_;intro a S;rw[List.take_length,show (q++[x]).drop q.length=[x] from by simp]at S;refine J7 ?_;intro a S;refine end1 S (fun _=>⟨_,rfl,?_⟩);simp
theorem hassuf_c (s:List UInt8)(c:UInt8)(hl:s.length≤1000000)(w0:World):Ret Tryz.prog 18 [str s,str [c]] w0 (fun _=>False) fun v _=>∃ b,v=.bool b∧(b=true↔∃ q,s=q++[c]):=by
 refine E1 Tryz.func18 rfl Tryz.ntmps18 (Wd.start w0) ?_;intro a S;refine J9 ?_;intro a S;refine sr S (hassufI_c s c hl _) ?_;rintro _ a w ⟨b,rfl,hb⟩ S;refine J4 ?_;intro a S;refine end1 S (fun _=>⟨b,rfl,hb⟩)
def sufB (c:UInt8)(s:List UInt8):Bool:=decide (s.getLast? = some c)
theorem sufB_iff {c:UInt8}{s:List UInt8} : sufB c s=true↔∃ q,s=q++[c]:=by rw[sufB,decide_eq_true_eq,List.getLast?_eq_some_iff]
instance {s:List UInt8}{bs fs}[h:LeC s.length 1000000]:CallV Tryz.prog 18 [str s,.string ⟨#[10]⟩] bs fs (.bool (sufB 10 s)):=⟨fun w _=>(hassuf_c s 10 h.le w).mono (by
 rintro v w' ⟨b,rfl,hb⟩;rw[←sufB_iff]at hb
 congr 1
 cases b <;> cases q:sufB 10 s <;> simp_all)⟩
theorem parse_wrong {text:List UInt8}{p:Nat}(h:parseF text=.error p):∃ pre suf,text=pre++suf∧p=pre.length∧(pre=[]∨∃ q,pre=q++[10])∧∀ line r,cutB 10 suf=(line,some r)→∀ more,parseF (pre++line++[10]++more)=.error p:=by
 obtain ⟨pre,suf,h1,h2,h3,h4⟩:=parse_where _ _ _ _ _ _ (Nat.lt_succ_self _) h;refine ⟨pre,suf,h1,by omega,h3,fun line r hc more=>?_⟩;rw[show pre++line++[10]++more=pre++line++10::more from by simp];exact h4 line r hc more _ (Nat.lt_succ_self _)
theorem scriptlines_c (t0 t1:List UInt8)(w0:World)(ht:Fx w0 LibF):Ret Tryz.prog 5 [str t0,str t1] w0 (fun _=>False) fun v _=>v=.bool true:=by
 refine E1 Tryz.func5 rfl Tryz.ntmps5 (Wd.begin (fs:=[LibF]) (by simpa using ht)) ?_;intro a S;refine J8 ?_;clear S;intro a S;refine sr S (wakes24_c _ (S.mem.fact0 LibF)) ?_;clear S;rintro _ a w rfl S;refine J3 ?_;clear S;intro a S;refine kC S (fun h1=>?_) (fun h1=>?_);refine J7 ?_;clear S;intro a S;exfalso;simp at h1;refine kK (xtn (kS ?_));refine c_drawD [T9 0,T9 1,T9 2,T9 3,T9 4,T9 5,T9 6,T9 7,T9 8,T9 9,T9 10,T9 11] [] S ?_;clear S;intro w S;refine J4 ?_;clear S;intro a S;rw[show min ((t0.length:Nat):Int) 20000=((min t0.length 20000:Nat):Int) from by omega]at S;have hm0:LeC (min t0.length 20000) t0.length:=⟨by omega⟩;refine J1 ?_;clear S;intro a S;rw[List.drop_zero]at S;refine J4 ?_;clear S;intro a S;rw[show min ((t1.length:Nat):Int) 1000=((min t1.length 1000:Nat):Int) from by omega]at S;have hm1:LeC (min t1.length 1000) t1.length:=⟨by omega⟩;refine J1 ?_;clear S;intro a S;rw[List.drop_zero]at S;have hl0:(t0.take (min t0.length 20000)).length≤20000:=by simp;omega
 have hl1:(t1.take (min t1.length 1000)).length≤1000:=by simp;omega
 generalize t0.take (min t0.length 20000)=T at S hl0
 generalize t1.take (min t1.length 1000)=U at S hl1
 (iterate 2 (refine dq S ?_;clear S;intro a S));refine dn (xtn (kS (kR (sq S ?_))));clear S;intro a S;refine sr S (parse_c T (by omega) _ w (foots_lt S) (S.mem.fact LibF)) ?_;clear S;rintro _ a w ⟨s,p,er,rfl,hsf,hfit,hcase⟩ S;replace S:=S.add hsf;refine J4 ?_;clear S;intro a S;refine sa S ?_;clear S;intro b5 a w S;refine Y12 ?_;clear S;intro a w S;refine kC S (fun h5=>?_) (fun h5=>?_);refine J9 ?_;clear S;intro a S;have her:er=0:=by simpa using h5
 have hp:p=0:=by
  rcases hcase with ⟨h,-⟩ | ⟨-,⟨-,-,h⟩ | ⟨-,h,-⟩⟩
  omega;omega;exact h
 refine end1 S (fun _=>?_);rw[hp];rfl;refine kK (xtn (kS (kS ?_)));have her:er≠0:=by simpa using h5
 obtain ⟨hpe,rfl⟩:parseF T=.error p∧er=340:=by
  rcases hcase with ⟨h,-⟩ | ⟨-,⟨h1,-,h2⟩ | ⟨-,-,h⟩⟩
  omega;exact ⟨h1,h2⟩;exact absurd h her
 obtain ⟨pre,suf,hT,hp,hq,hmore⟩:=parse_wrong hpe;have htk:T.take p=pre:=by rw[hT,hp,List.take_left]
 have hdr:T.drop p=suf:=by rw[hT,hp,List.drop_left]
 have hpT:p≤T.length:=by rw[hT,hp];simp
 have hLp:LeC p T.length:=⟨hpT⟩;have hLs:LeC ((T.take p).drop 0).length 1000000:=⟨by simp;omega⟩;refine J20 ?_;clear S;intro a S;refine Y6 ?_;clear S;intro a w S;refine kC S (fun h7=>?_) (fun h7=>?_);refine J7 ?_;clear S;intro a S;exfalso;rw[List.drop_zero,htk]at h7;have h0:¬((p:Int) < 0):=by omega
 have h1:¬((T.length:Int) < (p:Int)):=by omega
 rw[decide_eq_false h0,decide_eq_false h1]at h7;rcases hq with hq | ⟨q,hq⟩
 have h2:¬((0:Int) < (p:Int)):=by rw[hp,hq];simp
 rw[decide_eq_false h2]at h7;simp at h7;rw[sufB_iff.2 ⟨q,hq⟩]at h7;simp at h7;refine kK (xtn (kS ?_));clear h7;refine J4 ?_;clear S;intro a S;rw[List.take_length,hdr]at S;refine sr S (cut_c suf 10 (by rw[←hdr];simp;omega) _) ?_;clear S;rintro _ a w rfl S;obtain ⟨ln,hln⟩:∃ ln,ln=(cutB 10 suf).1:=⟨_,rfl⟩;obtain ⟨mo,hmo⟩:∃ mo,mo=(cutB 10 suf).2:=⟨_,rfl⟩;rw[cutV,←hln,←hmo]at S;have hcp:cutB 10 suf=(ln,mo):=by rw[hln,hmo]
 refine J16 ?_;clear S;intro a S;refine kC S (fun h10=>?_) (fun h10=>?_);refine J7 ?_;clear S;intro a S;refine end1 S (fun _=>rfl);refine kK (xtn (kS ?_));obtain ⟨r,rfl⟩:∃ r,mo=some r:=Option.isSome_iff_exists.1 (by simpa using h10);have hlr:=cut_len hcp;have hsl:suf.length≤20000:=by rw[←hdr];simp;omega
 have hpl:pre.length≤20000:=by rw[←htk];simp;omega
 have hL1:LeC (pre.length+ln.length) 4611686018427387904:=⟨by omega⟩;have hL2:LeC ((pre++ln).length+([10]:List UInt8).length) 4611686018427387904:=⟨by simp;omega⟩;have hL3:LeC ((pre++ln++[10]).length+U.length) 4611686018427387904:=⟨by simp;omega⟩;refine J4 ?_;clear S;intro a S;rw[List.drop_zero,htk]at S;refine J5 ?_;clear S;intro a S;refine sr S (parse_c (pre++ln++[10]++U) (by simp;omega) _ w (foots_lt S) (S.mem.fact LibF)) ?_;clear S;rintro _ a w ⟨s2,p2,er2,rfl,hsf2,hfit2,hcase2⟩ S;replace S:=S.add hsf2;refine J4 ?_;clear S;intro a S;refine sa S ?_;clear S;intro b11 a w S;refine Y19 ?_;clear S;intro a w S;obtain ⟨rfl,rfl⟩:p2=p∧er2=340:=by
  have hm:=hmore ln r hcp U;rcases hcase2 with ⟨h,-⟩ | ⟨-,⟨h1,-,h2⟩ | ⟨h,-⟩⟩
  simp at h;omega;rw[hm]at h1;cases h1;exact ⟨rfl,h2⟩;rw[hm]at h;cases h
 refine end1 S (fun _=>?_);simp
end Go.Proofs.YtlgnhhebeandkaaGreatDoor