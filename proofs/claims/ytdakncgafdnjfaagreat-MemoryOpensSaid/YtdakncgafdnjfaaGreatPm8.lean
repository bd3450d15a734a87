/- 8: a part of this claim's texts, joined: W12 DiskI MemPa MemPb W13 TermI PlainDecB PlainDecC PlainVaultD PlainVaultJ RefBytes TermJ MemC. -/
import Derived.Test.YtdakncgafdnjfaaGreatPm7
import Derived.Lib.ConvBytes
namespace Go.Wk
open Go
def P5 (x:Int × Value):Value × Value:=(.int .i64 x.1,x.2)
def ME (x:Value × Value):Int × Value:=(match x.1 with | .int _ n=>n | _=>0,x.2)
theorem Jo (x:Int × Value):ME (P5 x)=x:=by simp[ME,P5]
theorem Bo (l:List (Int × Value)):(l.map P5).map ME=l:=by
 rw[List.map_map]
 conv=>rhs;rw[←List.map_id l]
 apply List.map_congr_left;intro x _;exact Jo x
def lJ (b r:Nat)(kv done:List (Int × Value)):Item where
 aj:=fun k=>k=b∨k=r
 holds:=fun w=>∃ (es:Array MapEntry) (clock:Nat) (ds:List MapEntry),w.heap[b]? = some (.map es clock)∧es.toList.map CR=kv.map P5∧(∀ e∈es.toList,e.born < clock)∧(es.toList.map (·.born)).Nodup∧
  w.heap[r]? = some (.mapIter (some b) clock (ds.map (·.born)).toArray clock)∧(∀ e∈ds,e∈es.toList)∧(ds.map (·.born)).Nodup∧ds.map CR=done.map P5
theorem Bp (b r:Nat)(kv done:List (Int × Value))(w1 w2:World)(h:∀ k,(lJ b r kv done).aj k→w2.heap[k]? = w1.heap[k]?)(h1:(lJ b r kv done).holds w1):(lJ b r kv done).holds w2:=by
 obtain ⟨es,clock,ds,q1,q2,q3,q4,q5,q6⟩:=h1;exact ⟨es,clock,ds,(h b (.inl rfl)).trans q1,q2,q3,q4,(h r (.inr rfl)).trans q5,q6⟩
theorem Bq {b r:Nat}{kv done:List (Int × Value)}{w:World}(h:(lJ b r kv done).holds w):(lQ b kv).holds w:=by
 obtain ⟨es,clock,ds,q1,q2,q3,q4,_⟩:=h;exact ⟨es,clock,q1,q2,q3,q4⟩
class zx (bs:List Item)(r:Nat)(b:outParam Nat)(kv done:outParam (List (Int × Value))):Prop where mem:lJ b r kv done∈bs
instance Y0 {b r:Nat}{kv done:List (Int × Value)}{bs:List Item} : zx (lJ b r kv done::bs) r b kv done:=⟨List.mem_cons_self ..⟩
def Ld (more:Bool)(k:Int)(v:Value):Value:=bif more then .tuple ⟨[.bool true,(.int .i64 k:Value),v]⟩ else .tuple ⟨[.bool false]⟩
instance (priority:=1100) TT {P ty}{l:Cx}{bs fs x more k v}[Ev l x (Ld more k v)]:dO P (.extract x 0) ty l bs fs (.bool more):=⟨fun ρ w h _=>by
 cases more <;> simp[cu,execOp,h.ev (x:=x) (v:=Ld _ k v),Ld,Instr.extract]⟩
class RR (bs:List Item)(b:Nat)(kv:outParam (List (Int × Value))):Prop where mem:∃ r done,lJ b r kv done∈bs
section
variable {P:Program}{r0:Option Nat}{ops:Array Oper}{Q:Exit→Act→World→Prop}{w0:World}{M0:Nat→Prop}{ds:List Deferred}{a:Act}{w:World}{l:List Value}{bs:List Item}{fs:List (World→Prop)}
 {d:Option Nat} {op:Op} {ty:TypeId} {pos:String} {af:Array Edge} {rest:List Oper} {t kt et:TypeId} {x:Operand} {b:Nat} {kv:List (Int × Value)}
theorem TU {l':Nat→List Value}{bs':Nat→List Item}(S:St w0 M0 ds a w l bs fs)[Ev ⟨[],l⟩ x (.map (some b))][ht:dN P t (.map kt et)][hm:uS bs b kv][k4:∀ r,dD bs (lQ b kv) (lJ b r kv []) (bs' r)][hp:∀ r,cZ l d (.pointer (some ⟨r,0,none⟩)) (l' r)]
  (K:∀ r a w,St w0 M0 ds a w (l' r) (bs' r) fs→WL P r0 ops Q rest a w):WL P r0 ops Q (⟨d,.range t x,ty,pos,af,none⟩::rest) a w:=by
 refine bR rfl ?_;rw[bQ rfl];obtain ⟨es,clock,hb,he,Co,k_⟩:(lQ b kv).holds w:=S.wd.held _ hm.mem;have e1:(cu a.eval (.range t x) ty).run P w=.ok (.value (.pointer (some ⟨w.heap.size,0,none⟩))) (w.alloc (.mapIter (some b) clock #[] clock)):=by
  have h1:=MapKept.run_getObj_map (P:=P) hb;have h2:(Instr.range t (.map (some b))).run P w=.ok (.pointer (some ⟨w.heap.size,0,none⟩)) (w.alloc (.mapIter (some b) clock #[] clock)):=by
   simp[Instr.range,Sem.run_bind,cp,h1,Result.andThen,newObj,Sem.run]
  simp[cu,execOp,S.fr.ev (x:=x) (v:=.map (some b)),Sem.run_bind,h2]
 simp only[e1,Oper.uponIn];have:=hp w.heap.size;have S':=S.put (d:=d) (v:=.pointer (some ⟨w.heap.size,0,none⟩));have hlt:b < w.heap.size:=(Array.getElem?_eq_some_iff.1 hb).1;have iR:aJ (lQ b kv).aj w (w.alloc (.mapIter (some b) clock #[] clock)):=aJ.alloc _ _ _;refine K _ _ _ (S.lg (x:=lQ b kv) (y:=lJ b w.heap.size kv []) S'.slots S'.defers (hr:=k4 _) rfl iR ⟨es,clock,[],?_,he,Co,k_,heap_alloc_new w _,by simp,by simp,rfl⟩ (fun k hk=>hk.imp id (fun h=>by omega)) (fun k hk=>by rcases hk with rfl | rfl <;> simp <;> omega) (Bp _ _ _ _));exact (RowKit.Below.heap_alloc _ _ _ hlt).trans hb
theorem Y_ {ri:Nat}{done:List (Int × Value)}{l':Bool→Int→Value→List Value}{bs':List (Int × Value)→List Item}(S:St w0 M0 ds a w l bs fs)[Ev ⟨[],l⟩ x (.pointer (some ⟨ri,0,none⟩))][hm:zx bs ri b kv done][k4:∀ dn,dD bs (lJ b ri kv done) (lJ b ri kv dn) (bs' dn)][hp:∀ m k v,cZ l d (Ld m k v) (l' m k v)]
  (K:∀ (more:Bool) (k:Int) (v:Value) a w,(more=false→done.Perm kv)→(more=true→(k,v)∈kv∧done.length+1≤kv.length)→St w0 M0 ds a w (l' more k v) (bs' (bif more then done++[(k,v)] else done)) fs→WL P r0 ops Q rest a w) :
  WL P r0 ops Q (⟨d,.next x false,ty,pos,af,none⟩::rest) a w:=by
 refine bR rfl ?_;rw[bQ rfl];have hold:=S.wd.held _ hm.mem;obtain ⟨es,clock,dn,hb,he,Co,k_,hr,hsub,hdn,hdone⟩:=hold;have hx:a.eval x=.pointer (some ⟨ri,0,none⟩):=S.fr.ev;have PU:ri < w.heap.size:=(Array.getElem?_eq_some_iff.1 hr).1;have pL:b≠ri:=fun e=>by rw[e,hr]at hb;cases hb
 have hleft:∀ e,e∈(leftOf es (dn.map (·.born)).toArray).toList↔e∈es.toList∧e.born ∉ dn.map (·.born):=fun e=>by
  unfold leftOf;simp
 rcases run_next_at (P:=P) w ty ri b clock clock (dn.map (·.born)).toArray es clock hr hb Co (Nat.le_refl _) with ⟨h0,hrun⟩ | ⟨e,hel,w1,hw1,hrun⟩
 ·have e1:(cu a.eval (.next x false) ty).run P w=.ok (.value (Ld false 0 undef)) w:=by
   simp[cu,execOp,hx,Sem.run_bind,hrun,Ld]
  simp only[e1,Oper.uponIn];have:=hp false 0 undef;have S':=S.put (d:=d) (v:=Ld false 0 undef);have hall:∀ e∈es.toList,e∈dn:=fun e TV=>by
   have xD:e ∉ (leftOf es (dn.map (·.born)).toArray).toList:=by
    have h00:(leftOf es (dn.map (·.born)).toArray).toList=[]:=List.eq_nil_of_length_eq_zero (by rw[Array.length_toList];exact h0);rw[h00];simp
   rw[hleft]at xD;have xR:e.born∈dn.map (·.born):=Classical.not_not.1 fun hc=>xD ⟨TV,hc⟩
   obtain ⟨e2,n7,hee⟩:=List.mem_map.1 xR;rw[←born_inj k_ (hsub e2 n7) TV hee];exact n7
  have vH:dn.Perm es.toList:=(List.perm_ext_iff_of_nodup (jW hdn) (jW k_)).2 fun e=>⟨hsub e,hall e⟩
  have P6:done.Perm kv:=by
   have:=(vH.map CR).map ME;rw[hdone,he,Bo,Bo]at this;exact this
  refine K false 0 undef _ _ (fun _=>P6) (fun h=>by cases h) ⟨S'.slots,S'.defers,?_⟩;obtain ⟨pre,post,q1,q2⟩:=(k4 done).ex;have hO:=S'.wd;rw[q1]at hO
  show Wd w0 M0 w (bs' done) fs
  rw[q2];exact hO
 ·obtain ⟨TV,hnb⟩:=(hleft e).1 hel
  have hkv:CR e∈kv.map P5:=by rw[←he];exact List.mem_map.2 ⟨e,TV,rfl⟩
  obtain ⟨⟨k,v⟩,Za,P7⟩:=List.mem_map.1 hkv;have E5:e.key=(.int .i64 k:Value):=(congrArg Prod.fst P7).symm;have Zb:e.val=v:=(congrArg Prod.snd P7).symm;have e1:(cu a.eval (.next x false) ty).run P w=.ok (.value (Ld true k v)) (ChangeMaps.setBlock w1 ri (.mapIter (some b) clock ((dn.map (·.born)).toArray.push e.born) clock)):=by
   rw[E5,Zb]at hrun;simp[cu,execOp,hx,Sem.run_bind,hrun,Ld]
  simp only[e1,Oper.uponIn];have:=hp true k v;have S':=S.put (d:=d) (v:=Ld true k v);obtain ⟨iR,P8,hsz⟩:=sU (M:=(lJ b ri kv done).aj) (o:=.mapIter (some b) clock ((dn.map (·.born)).toArray.push e.born) clock) hw1 (.inr rfl) PU;have Zc:=(sU (M:=fun k=>k=ri) (o:=.mapIter (some b) clock ((dn.map (·.born)).toArray.push e.born) clock) hw1 rfl PU).1;have Zd:b < w.heap.size:=(Array.getElem?_eq_some_iff.1 hb).1;have TW:((dn++[e]).map (·.born)).Nodup:=by
   rw[List.map_append,List.map_singleton];refine List.nodup_append.2 ⟨hdn,by simp,fun x hx y hy hxy=>?_⟩;obtain rfl:=List.mem_singleton.1 hy;exact hnb (hxy▸hx)
  have xT:∀ e'∈dn++[e],e'∈es.toList:=fun e' h'=>by
   rcases List.mem_append.1 h' with h' | h'
   ·exact hsub e' h'
   ·obtain rfl:=List.mem_singleton.1 h';exact TV
  have hlen:done.length+1≤kv.length:=by
   have h1:=List.Nodup.length_le_of_subset (jW TW) xT;have h2:=congrArg List.length hdone;have h3:=congrArg List.length he;simp only[List.length_map,List.length_append,List.length_singleton]at h1 h2 h3;omega
  refine K true k v _ _ (fun h=>by cases h) (fun _=>⟨Za,hlen⟩) (S.lg (x:=lJ b ri kv done) (y:=lJ b ri kv (done++[(k,v)])) S'.slots S'.defers (hr:=k4 _) rfl iR
   ⟨es,clock,dn++[e],(Zc.iB Zd pL).trans hb,he,Co,k_,by rw[P8];simp,xT,TW,by rw[List.map_append,List.map_append,hdone,List.map_singleton,List.map_singleton];congr 2;exact P7.symm⟩
   (fun k hk=>.inl hk) (fun k hk=>by rw[hsz];rcases hk with rfl | rfl <;> assumption) (Bp _ _ _ _))
instance TX {lc:Cx}{ri:Nat}{done:List (Int × Value)}{k:Int}{v:Value}[Ev lc x (.pointer (some ⟨ri,0,none⟩))][hm:zx bs ri b kv (done++[(k,v)])]:dO P (.entry x) ty lc bs fs (.tuple ⟨[(.int .i64 k:Value),v]⟩):=⟨fun ρ w h mm=>by
 obtain ⟨es,clock,dn,hb,he,Co,k_,hr,hsub,hdn,hdone⟩:=mm.held _ hm.mem;have hne:dn≠[]:=by rintro rfl;simp at hdone
 obtain ⟨V6,e,rfl⟩:∃ V6 e,dn=V6++[e]:=⟨dn.dropLast,dn.getLast hne,(List.dropLast_concat_getLast hne).symm⟩;have hke:CR e=P5 (k,v):=by
  rw[List.map_append,List.map_append]at hdone;have:=List.append_inj_right' hdone rfl;simpa using this
 have E5:e.key=(.int .i64 k:Value):=congrArg Prod.fst hke;have Zb:e.val=v:=congrArg Prod.snd hke;have E6:w.heap[ri]? = some (.mapIter (some b) clock ((V6.map (·.born)).toArray.push e.born) clock):=by rw[hr];simp
 have hrun:=run_entry_at (P:=P) w ri b clock (V6.map (·.born)).toArray es clock e E6 hb (hsub e (by simp)) k_;rw[E5,Zb]at hrun;simp[cu,execOp,h.ev (x:=x) (v:=.pointer (some ⟨ri,0,none⟩)),Sem.run_bind,hrun]⟩
end
end Go.Wk
namespace Go.Proofs.YtdakncgafdnjfaaGreat
open Go.Proofs.Tryz
open Go Go.Wk
set_option synthInstance.maxSize 100000
set_option synthInstance.maxHeartbeats 400000
set_option maxRecDepth 100000
instance (priority:=1200) segWr {a:Value}{b:bF} : Lk (a::aa b.l) 0 65 (a::aa b.l):=⟨by rw[jb,b.len],fun j _=>by rw[Nat.zero_add]⟩
theorem sg (b m:Nat)(p:Option Addr)(c:Nat)(s:DS)(hl:s.loose.length≤1000000)(w0:World)(f0:Fx w0 (az b 170 (bq m p s.loose.length c s)))(f1:Fx w0 (av p s.loose)) :
  aT prog 157 [.pointer (some ⟨b,0,none⟩)] w0 (fun _=>False) fun v _=>∃ q e,v=.slice q s.loose.length e:=by
 refine E1 func157 rfl ntmps157 (Wd.begin (fs:=[az b 170 (bq m p s.loose.length c s),av p s.loose]) (by simp;exact ⟨f0,f1⟩)) ?_;intro a S;refine mK ?_;intro a S;refine rP ?_;intro a S;replace S:=S.cP 3 1;refine dI S (fun(i:Nat) (q:Option Addr) (e:Nat) (xs:List Int) uu=>[(3,.slice q i e),(1,uu 5),(8,.int .i64 (i:Nat)),(0,uu 15),(0,uu 16),(0,uu 17),(0,uu 18),(0,uu 19),(0,uu 20),(0,uu 21),(0,uu 22),(0,uu 23)]) (fun(i:Nat) (q:Option Addr) (e:Nat) (xs:List Int)=>[Wk.row 3 1 q i e (aa xs)]) (fun(i:Nat) (q:Option Addr) (e:Nat) (xs:List Int)=>[az b 170 (bq m p s.loose.length c s),av p s.loose]) (fun(i:Nat) (q:Option Addr) (e:Nat) (xs:List Int)=>i≤s.loose.length∧xs.length=i) (fun(i:Nat) (q:Option Addr) (e:Nat) (xs:List Int)=>s.loose.length - i) (0) (none) (0) ([]) ?_ S.uu ?_ ?_;exact ⟨Nat.zero_le _,rfl⟩
 first | exact S | exact S.sub _ _
 clear S;rintro i q e xs uu a w ⟨hi,hx⟩ S;refine J6 ?_;intro a S;refine kC S (fun h5=>?_) (fun h5=>?_);refine kK (aQ (kS (kB (kS ?_))));have hil:i < s.loose.length:=by have:=of_decide_eq_true h5;omega
 have hK:cx i s.loose.length:=⟨hil⟩;refine J3 ?_;intro a S;refine sa S ?_;intro b5 a w S;refine Y7 ?_;intro a w S;refine sn S ?_;intro b21 a w S;rw[show [Value.int .i64 (aq s.loose i).at_]=aa [(aq s.loose i).at_] from rfl]at S;replace S:=S.bT b21 1 1 rfl (by decide);refine gA S (by simp only[maxLen];omega) (by omega) ?_;rintro p7 c7 a w - S;rw[show aa xs++aa [(aq s.loose i).at_]=aa (xs++[(aq s.loose i).at_]) from by rw[aC]]at S;refine J9 ?_;intro a S;rw[w6 ((i:Int)+1)]at S;exact ⟨i+1,p7,c7,xs++[(aq s.loose i).at_],S.uu,⟨hil,by simp[hx]⟩,S.sub _ _,by omega⟩;refine jq ?_;intro a S;have hil:i=s.loose.length:=by have:=of_decide_eq_false h5;omega
 subst hil;exact aD S (fun _=>⟨q,e,rfl⟩)
def fF (l:List (Int × bF))(f:List (Int × bF)):List (Int × bF):=l.foldl (fun f x=>qO x.1 x.2 f) f
theorem vI (k:Int):∀ (l f:List (Int × bF)),(l.map Prod.fst).Nodup→eo k (fF l f)=(eo k l).or (eo k f)
 | [],f,_=>by rw[eo,Option.none_or];rfl
 | (u,x)::l,f,h=>by
  have h2:=List.nodup_cons.1 (show (u::l.map Prod.fst).Nodup from h)
  show eo k (fF l (qO u x f))=_
  rw[vI k l _ h2.2,mz,eo]
  by_cases hk:k=u
  ·subst hk
   rw[if_pos rfl,if_pos rfl];have hn:eo k l=none:=by
    cases hg:eo k l with
    | none=>rfl
    | some y=>
     exfalso;have:∀ (l:List (Int × bF)),eo k l=some y→k∈l.map Prod.fst:=fun l=>by
      induction l with
      | nil=>intro h;cases h
      | cons z l ih=>
       obtain ⟨v,w⟩:=z;intro h;rw[eo]at h
       by_cases hv:k=v
       ·subst hv;simp
       ·rw[if_neg hv]at h;exact List.mem_cons_of_mem _ (ih h)
     exact h2.1 (this l hg)
   rw[hn];rfl
  ·rw[if_neg hk,if_neg hk]
theorem Jp (k:Int){l l':List (Int × bF)}(h:l.Perm l'):(l.map Prod.fst).Nodup→eo k l=eo k l':=by
 induction h with
 | nil=>intro _;rfl
 | cons x _ ih=>
  intro hn;obtain ⟨u,y⟩:=x;rw[eo,eo,ih (List.nodup_cons.1 (show (u::_).Nodup from hn)).2]
 | swap x y l=>
  intro hn;obtain ⟨u,z⟩:=x;obtain ⟨u2,z2⟩:=y;have h1:=(List.nodup_cons.1 (show (u2::u::l.map Prod.fst).Nodup from hn)).1;simp only[eo]
  by_cases hk:k=u
  ·by_cases hk2:k=u2
   ·exact absurd (List.mem_cons.2 (.inl (hk2.symm.trans hk))) h1
   ·subst hk
    simp[hk2]
  ·by_cases hk2:k=u2
   ·subst hk2
    simp[hk]
   ·simp[hk,hk2]
 | trans h1 _ ih1 ih2=>intro hn;rw[ih1 hn,ih2 ((h1.map _).nodup_iff.1 hn)]
theorem Gl {k:Int}{v:Value}{f:List (Int × bF)}(h:(k,v)∈jJ f):∃ x,(k,x)∈f∧v=iy x:=by
 obtain ⟨⟨u,x⟩,h1,h2⟩:=List.mem_map.1 h;cases h2;exact ⟨x,h1,rfl⟩
theorem Jq {x y:bF}(h:iy x=iy y):x=y:=by
 have h1:(aa x.l)=aa y.l:=by
  have:=congrArg Value.cells h;simpa [iy,Value.cells] using this
 exact bF.ext' (AS h1)
open Classical in
noncomputable def unB (x:Int × Value):Int × bF:=(x.1,if h:∃ y,x.2=iy y then h.choose else zB)
open Classical in
theorem Jr (f:List (Int × bF)):(jJ f).map unB=f:=by
 rw[jJ,List.map_map]
 conv=>rhs;rw[←List.map_id f]
 refine List.map_congr_left fun x _=>?_
 obtain ⟨u,x⟩:=x;have h:∃ y,iy x=iy y:=⟨x,rfl⟩
 show (u,if h:∃ y,iy x=iy y then h.choose else zB)=(u,x)
 rw[dif_pos h,Jq h.choose_spec.symm]
theorem Js {f g:List (Int × bF)}(h:(jJ f).Perm (jJ g)):f.Perm g:=by
 have:=h.map unB
 rwa [Jr,Jr]at this
theorem Br:∀ n:Nat,aa (List.replicate n (⟨0,zB⟩:rN))=(List.replicate n (.int .i64 0::aa (List.replicate 64 (0:UInt8)))).flatten
 | 0=>rfl
 | n+1=>by rw[rQ,bf,rQ,List.flatten_cons,Br n];rfl
abbrev zy (s:DS)(f:List (Int × bF)):DS:={ s with cg:=f }
theorem P9 (b m:Nat)(p:Option Addr)(c:Nat)(s:DS)(hl:s.loose.length≤1000000)(w0:World)(hd:(ay b m p c s).holds w0) :
  aT prog 229 [.pointer (some ⟨b,0,none⟩)] w0 (ay b m p c s).aj fun v w'=>∃ b' m' p' c' dn,v=.pointer (some ⟨b',0,none⟩)∧dn.Perm s.cg∧
   (both (ay b m p c s) (ay b' m' p' c' (zy s (fF dn [])))).holds w'∧∀ k,(both (ay b m p c s) (ay b' m' p' c' (zy s (fF dn [])))).aj k→(ay b m p c s).aj k∨w0.heap.size≤k:=by
 refine E1 func229 rfl ntmps229 (Wd.uW (fs:=[]) hd (by simp)) ?_;intro a S;refine mK ?_;intro a S;refine J2 ?_;intro a S;refine sa S ?_;intro kX a w S;refine J6 ?_;intro a S;refine Tb S ?_;intro mb a w S;refine Li ?_;intro a w S;refine TU S ?_;intro ri a w S;refine kN (aQ (kB ?_));refine fD S (fun(gone:List (Int × bF)) uu=>[(4,uu 4),(0,uu 5),(19,uu 25),(0,uu 26),(0,uu 27),(0,uu 28),(0,uu 29),(0,uu 30),(0,uu 31),(0,uu 32),(0,uu 33),(0,uu 34),(0,uu 35),(0,uu 36)]) (fun(gone:List (Int × bF))=>[lJ m ri (jJ s.cg) (jJ gone),lQ mb (jJ (fF gone [])),Wk.box kX 170 (bq mb p s.loose.length c s),Wk.box b 170 (bq m p s.loose.length c s),Wk.row 265 65 p s.loose.length c (aa s.loose)]) (fun(gone:List (Int × bF))=>[]) (fun(gone:List (Int × bF))=>gone.length≤s.cg.length) (fun(gone:List (Int × bF))=>s.cg.length - gone.length) ([]) ?_ S.uu ?_ ?_;exact Nat.zero_le _;replace S:=S.front (lJ m ri (jJ s.cg) []);exact S.sub [lJ m ri (jJ s.cg) [],lQ mb [],Wk.box kX 170 (bq mb p s.loose.length c s),Wk.box b 170 (bq m p s.loose.length c s),Wk.row 265 65 p s.loose.length c (aa s.loose)] [];clear S;rintro gone uu a w Tp S;refine kS (kR ?_);refine Y_ S ?_;intro more k v a w FN Ik S;refine J4 ?_;intro a S;refine kC S (fun h6=>?_) (fun h6=>?_);refine kK (aQ (kB (kS ?_)));subst h6;obtain ⟨hkv,TY⟩:=Ik rfl;obtain ⟨x,hx,rfl⟩:=Gl hkv;have rU:gone.length+1≤s.cg.length:=by simpa [jJ] using TY
 rw[cond_true]at S;refine J4 ?_;intro a S;refine sa S ?_;intro b5 a w S;refine Y4 ?_;intro a w S;refine eY [T9 0,T9 1,T9 2,T9 3,T9 4,T9 5,T9 6,F9 7] [Wk.box b5 129 (aa x.l),Wk.box kX 170 (bq mb p s.loose.length c s)] S ?_;intro w S;(iterate 7 (refine dq S ?_;intro a S));refine dl ?_;refine Tc S ?_;intro a w S;rw[show nA k (.agg ⟨aa x.l⟩) (jJ (fF gone []))=jJ (fF (gone++[(k,x)]) []) from by rw[show (Value.agg ⟨aa x.l⟩)=iy x from rfl,xx];unfold fF;rw[List.foldl_append];rfl]at S;refine de S ?_;refine dn (qw (aQ ?_));rw[show jJ gone++[(k,iy x)]=jJ (gone++[(k,x)]) from by rw[jJ,jJ,List.map_append];rfl]at S;exact ⟨gone++[(k,x)],S.uu,by simp;omega,(S.front (lJ m ri (jJ s.cg) (jJ (gone++[(k,x)])))).sub _ _,by simp;omega⟩;refine kE (fT (fT (mM (aQ (kS ?_)))));subst h6;rw[cond_false]at S;have vH:=Js (FN rfl);have Aj:=Bq (S.it (lJ m ri (jJ s.cg) (jJ gone)));replace S:=St.Dh S (lJ m ri (jJ s.cg) (jJ gone)) (lQ m (jJ s.cg)) (S.it (lJ m ri (jJ s.cg) (jJ gone))) Bq (fun k hk=>.inl hk);refine J8 ?_;intro a S;refine NO s.loose.length S rfl rfl (by omega) (by simp only[maxLen];omega) ?_;intro g a w S;rw[show (List.replicate s.loose.length (.int .i64 0::aa (List.replicate 64 (0:UInt8)))).flatten=aa (List.replicate s.loose.length (⟨0,zB⟩:rN)) from (Br _).symm]at S;refine Y7 ?_;intro a w S;refine eY [T9 0,T9 1,T9 2,T9 3,T9 4,T9 5,T9 6,T9 7,T9 8,T9 9,F9 10] [Wk.box kX 170 (bq mb (some ⟨g,0,none⟩) s.loose.length s.loose.length s),Wk.box b 170 (bq m p s.loose.length c s)] S ?_;intro w S
 (iterate 10 (refine dq S ?_;intro a S));refine dl ?_;refine scp S (Nat.le_refl _) ?_;intro a w S;rw[List.drop_of_length_le (by rw[aU,List.length_replicate];exact Nat.le_refl _),List.append_nil]at S;refine de S ?_;refine dn (aQ (kS (kR ?_)));(iterate 2 (refine sq S ?_;intro a S));refine kN (aQ (kT ?_));replace S:=S.sub [Wk.row 265 65 (some ⟨g,0,none⟩) s.loose.length s.loose.length (aa s.loose),lQ m (jJ s.cg),lQ mb (jJ (fF gone [])),Wk.box kX 170 (bq mb (some ⟨g,0,none⟩) s.loose.length s.loose.length s),Wk.box b 170 (bq m p s.loose.length c s),Wk.row 265 65 p s.loose.length c (aa s.loose)] [];replace S:=S.front (lQ mb (jJ (fF gone [])));replace S:=S.front (Wk.box kX 170 (bq mb (some ⟨g,0,none⟩) s.loose.length s.loose.length s));replace S:=S.front (Wk.row 265 65 p s.loose.length c (aa s.loose));replace S:=S.front (lQ m (jJ s.cg));replace S:=S.front (Wk.box b 170 (bq m p s.loose.length c s));replace S:=St.mT S;replace S:=S.front (Wk.row 265 65 (some ⟨g,0,none⟩) s.loose.length s.loose.length (aa s.loose));replace S:=S.front (lQ mb (jJ (fF gone [])));replace S:=S.front (Wk.box kX 170 (bq mb (some ⟨g,0,none⟩) s.loose.length s.loose.length s));replace S:=St.mT S;replace S:St w0 (ay b m p c s).aj [] a w _ [ay kX mb (some ⟨g,0,none⟩) s.loose.length (zy s (fF gone [])),ay b m p c s] []:=S;replace S:=S.front (ay b m p c s);replace S:=S.aL;have h1:=S.it (both (ay b m p c s) (ay kX mb (some ⟨g,0,none⟩) s.loose.length (zy s (fF gone []))))
 have h2:=S.bH (both (ay b m p c s) (ay kX mb (some ⟨g,0,none⟩) s.loose.length (zy s (fF gone [])))) rfl;exact aD S (fun _=>⟨kX,mb,some ⟨g,0,none⟩,s.loose.length,gone,rfl,vH,h1,h2⟩)
def Nd (s:DS):Prop:=(s.cg.map Prod.fst).Nodup
def ef (s:DS)(all:Bool):List bF:=(List.range s.size.toNat).map fun (i:Nat)=>aN (bp (List.replicate s.loose.length all) s) (i:Int)
theorem xU (s:DS)(all:Bool):(ef s all).length=s.size.toNat:=by simp[ef]
theorem oc {f g:List (Int × bF)}(h:∀ j,eo j f=eo j g)(st:Nat→Bool)(l:List rN):∀ (k:Nat) (j:Int),eo j (cL st l f k)=eo j (cL st l g k)
 | 0,j=>h j
 | k+1,j=>by
  rw[cL,cL];split;rw[mz,mz,oc h st l k j];exact oc h st l k j
theorem Du (l:List Bool){s:DS}{dn:List (Int × bF)}(hn:Nd s)(hp:dn.Perm s.cg)(j:Int):aN (bp l (zy s (fF dn []))) j=aN (bp l s) j:=by
 have hg:∀ j,eo j (fF dn [])=eo j s.cg:=fun j=>by
  have k_:(dn.map Prod.fst).Nodup:=((hp.map _).nodup_iff).2 hn;rw[vI j dn [] k_,Jp j hp k_,show eo j []=none from rfl,Option.or_none]
 rw[fj (s:=bp l (zy s (fF dn []))) rfl,fj (s:=bp l s) rfl]
 show (eo j (cL (qP l) s.loose (fF dn []) s.loose.length)).getD zB=(eo j (cL (qP l) s.loose s.cg s.loose.length)).getD zB
 rw[oc hg]
theorem Gm (l1 l2:List Bool)(x y:Bool):(aa (l1++y::l2)).take l1.length++[Value.bool x]++(aa (l1++y::l2)).drop (l1.length + [Value.bool x].length)=aa (l1++x::l2):=by
 have h1:(aa l1).length=l1.length:=by rw[aU];exact Nat.mul_one _
 have e:aa (l1++y::l2)=aa l1++(.bool y::aa l2):=by rw[aC,bf];rfl
 have e2:aa (l1++x::l2)=aa l1++(.bool x::aa l2):=by rw[aC,bf];rfl
 rw[e,e2,←h1,List.take_left,List.drop_append,List.drop_of_length_le (by omega),j6,List.length_singleton,show (aa l1).length+1 - (aa l1).length=1 from by omega];simp
theorem xW:∀ n:Nat,aa (List.replicate n false)=(List.replicate n [Value.bool false]).flatten
 | 0=>rfl
 | n+1=>by rw[rQ,bf,rQ,List.flatten_cons,xW n];rfl
theorem Jt (b m:Nat)(p:Option Addr)(c:Nat)(s:DS)(all:Bool)(hl:s.loose.length≤1000000)(hz:1≤s.size∧s.size≤4096)(hn:Nd s)(w0:World)(hd:(ay b m p c s).holds w0) :
  aT prog 158 [.pointer (some ⟨b,0,none⟩),.bool all] w0 (ay b m p c s).aj fun v w'=>∃ q e,v=.slice q (ef s all).length e∧
   (both (Wk.row 129 64 q (ef s all).length e (aa (ef s all))) (ay b m p c s)).holds w'∧∀ k,(both (Wk.row 129 64 q (ef s all).length e (aa (ef s all))) (ay b m p c s)).aj k→(ay b m p c s).aj k∨w0.heap.size≤k:=by
 have Gn:s.size=(s.size.toNat:Int):=by omega
 refine E1 func158 rfl ntmps158 (Wd.bV (x:=ay b m p c s) (fs:=[]) hd (by simp)) ?_;intro a S;refine J8 ?_;intro a S;refine cM (ay b m p c s) S (P9 b m p c s hl _ (S.it (ay b m p c s))) rfl ?_;rintro _ a w ⟨b1,m1,p1,c1,gone,rfl,vH,hh,hf⟩ hS;have S:=hS (both (ay b m p c s) (ay b1 m1 p1 c1 (zy s (fF gone [])))) hh hf;clear hS;replace S:=S.aP;obtain ⟨s1,dZ⟩:∃ s1,s1=zy s (fF gone []):=⟨_,rfl⟩;rw[←dZ]at S;have hlo:s1.loose=s.loose:=by rw[dZ]
 have nw:s1.loose.length≤1000000:=by rw[hlo];exact hl
 have hsz:s1.size=s.size:=by rw[dZ]
 refine J6 ?_;intro a S;have Ju:=S.it (ay b1 m1 p1 c1 s1);refine sr S (sg b1 m1 p1 c1 s1 (by rw[hlo];exact hl) _ (az.aO Ju.1 (fun h=>h)) (gJ Ju.2.1.2.1 (fun _ _ _ _=>trivial) (fun _ _ h=>h))) ?_;rintro _ a w ⟨q2,e2,rfl⟩ S;refine J1 ?_;intro a S;refine NO s1.loose.length S rfl rfl (by rw[hlo];omega) (by rw[hlo];simp only[maxLen];omega) ?_;intro g a w S;rw[show (List.replicate s1.loose.length [Value.bool false]).flatten=aa (List.replicate s1.loose.length false) from (xW _).symm]at S;refine jq ?_;intro a S;refine fD S (fun(i:Nat) uu=>[(7,uu 7),(12,.int .i64 (i:Nat)),(0,uu 21),(0,uu 22),(0,uu 23),(0,uu 24),(0,uu 25),(0,uu 26),(0,uu 27)]) (fun(i:Nat)=>[Wk.row 4 1 (some ⟨g,0,none⟩) s1.loose.length s1.loose.length (aa (List.replicate i all++List.replicate (s1.loose.length - i) false)),ay b1 m1 p1 c1 s1,ay b m p c s]) (fun(i:Nat)=>[]) (fun(i:Nat)=>i≤s1.loose.length) (fun(i:Nat)=>s1.loose.length - i) (0) ?_ S.uu ?_ ?_;exact Nat.zero_le _;replace S:=S.front (ay b1 m1 p1 c1 s1);replace S:=S.front (Wk.row 4 1 (some ⟨g,0,none⟩) s1.loose.length s1.loose.length (aa (List.replicate s1.loose.length false)));exact S;clear S;rintro i uu a w hi S;refine J6 ?_;intro a S;refine kC S (fun h4=>?_) (fun h4=>?_);refine kK (aQ (kS (kB (kS ?_))));have hil:i < s1.loose.length:=by have:=of_decide_eq_true h4;omega
 have hK:cx i s1.loose.length:=⟨hil⟩;refine mJ ?_;intro a S;rw[show (⟨g,i,none⟩:Addr)=dx (some ⟨g,0,none⟩) i from by rw[dx,Option.getD_some,add_lit]]at S;refine CJ S s1.loose.length (by omega) (by omega) ?_;intro a w S;rw[show s1.loose.length - i=(s1.loose.length - (i+1))+1 from by omega,rQ]at S;have he:=Gm (List.replicate i all) (List.replicate (s1.loose.length - (i+1)) false) all false;rw[List.length_replicate]at he;rw[he,show List.replicate i all++all::List.replicate (s1.loose.length - (i+1)) false=List.replicate (i+1) all++List.replicate (s1.loose.length - (i+1)) false from by rw[List.replicate_succ',List.append_assoc];rfl]at S;refine J8 ?_;intro a S;rw[w6 ((i:Int)+1)]at S;exact ⟨i+1,S.uu,hil,S.sub _ _,by omega⟩;refine kE (fT (fT (mM (aQ (kS (kS ?_))))));have Ze:i=s1.loose.length:=by have:=of_decide_eq_false h4;omega
 subst Ze;rw[Nat.sub_self,Lj,List.append_nil]at S;have hKl:(List.replicate s1.loose.length all).length=s1.loose.length:=List.length_replicate;replace S:=S.bA (some ⟨g,0,none⟩) (List.replicate s1.loose.length all) (e:=4) (sz:=1) (n:=s1.loose.length) (c:=s1.loose.length) (fun _ _ _ _=>trivial);refine J3 ?_;intro a S;have Mu:=uZ b1 m1 p1 c1 s1 (List.replicate s1.loose.length all) (some ⟨g,0,none⟩) s1.loose.length w (by rw[hlo];exact hl) (S.it (ay b1 m1 p1 c1 s1)) (S.bU (ay b1 m1 p1 c1 s1) (S.mem.fact (av (some ⟨g,0,none⟩) (List.replicate s1.loose.length all))));rw[hKl]at Mu;refine cM (ay b1 m1 p1 c1 s1) S Mu rfl ?_;rintro _ a w ⟨rfl,u7⟩ hS;have S:=hS (ay b1 m1 none 0 (bp (List.replicate s1.loose.length all) s1)) u7 (fun k hk=>.inl (Dp k hk));clear hS;obtain ⟨u1,u2,u3,-,-⟩:=kf (List.replicate s1.loose.length all) s1;have u4:∀ j,aN (bp (List.replicate s1.loose.length all) s1) j=aN (bp (List.replicate s.loose.length all) s) j:=fun j=>by rw[hlo,dZ];exact Du _ hn vH j
 obtain ⟨s2,j0⟩:∃ s2,s2=bp (List.replicate s1.loose.length all) s1:=⟨_,rfl⟩;rw[←j0]at S u1 u2 u3 u4;rw[hsz]at u3;refine tI ?_;intro a S;refine sr S (N6 b1 m1 none s2.loose.length 0 s2 _ (az.aO (S.it (ay b1 m1 none 0 s2)).1 (fun h=>h))) ?_;rintro _ a w rfl S;rw[u3,Gn]at S;refine J4 ?_;intro a S;replace S:=S.cP 129 64;refine tO S (fun(i:Nat) (q:Option Addr) (e:Nat) (p3:Option Addr) (c3:Nat) (s3:DS) uu=>[(4,uu 4),(3,.slice q i e),(0,uu 9),(0,uu 10),(0,uu 11),(22,.int .i64 (i:Nat)),(0,uu 35),(0,uu 36),(0,uu 37),(0,uu 38),(0,uu 39),(0,uu 40),(0,uu 41),(0,uu 42),(0,uu 43),(0,uu 44),(0,uu 45),(0,uu 46),(0,uu 47),(0,uu 48),(0,uu 49)]) (fun(i:Nat) (q:Option Addr) (e:Nat) (p3:Option Addr) (c3:Nat) (s3:DS)=>[Wk.row 129 64 q i e (aa ((ef s all).take i)),ay b1 m1 p3 c3 s3,ay b m p c s]) (fun(i:Nat) (q:Option Addr) (e:Nat) (p3:Option Addr) (c3:Nat) (s3:DS)=>[]) (fun(i:Nat) (q:Option Addr) (e:Nat) (p3:Option Addr) (c3:Nat) (s3:DS)=>i≤s.size.toNat∧Up s3∧s3.loose=[]∧s3.size=s.size∧∀ j,aN s3 j=aN (bp (List.replicate s.loose.length all) s) j) (fun(i:Nat) (q:Option Addr) (e:Nat) (p3:Option Addr) (c3:Nat) (s3:DS)=>s.size.toNat - i) (0) (none) (0) (none) (0) (s2) ?_ S.uu ?_ ?_;exact ⟨Nat.zero_le _,u1,u2,u3,u4⟩;exact S.sub [Wk.row 129 64 none 0 0 [],ay b1 m1 none 0 s2,ay b m p c s] [];clear S;rintro i q e p3 c3 s3 uu a w ⟨hi,v1,v2,v3,v4⟩ S;refine J6 ?_;intro a S;refine kC S (fun h12=>?_) (fun h12=>?_);refine kK (aQ (kS (kB (kS ?_))))
 have hil:i < s.size.toNat:=by have:=of_decide_eq_true h12;omega
 refine J9 ?_;intro a S;obtain ⟨r1,r2,r3⟩:=E2 v1 (k:=(i:Int)) (by omega);refine cM (ay b1 m1 p3 c3 s3) S (yU b1 m1 p3 c3 s3 (i:Int) _ (by rw[v2];simp) (S.it (ay b1 m1 p3 c3 s3))) rfl ?_;rintro _ a w ⟨rfl,p4,c4,Gp,Ou⟩ hS;have S:=hS (ay b1 m1 p4 c4 (lA s3 (i:Int))) Gp Ou;clear hS;rw[r1,r2,v4,r3]at S;obtain ⟨x,hx⟩:∃ x,x=aN (bp (List.replicate s.loose.length all) s) (i:Int):=⟨_,rfl⟩;rw[←hx]at S;refine J3 ?_;intro a S;refine sa S ?_;intro b10 a w S;refine CD ?_;intro a w S;refine sn S ?_;intro b47 a w S;replace S:=S.bT b47 64 1 (by rw[x.len]) (by decide);refine gA S (by simp only[maxLen];omega) (by omega) ?_;rintro p17 c17 a w - S;have e1:aa [x]=aa x.l:=by rw[bf];exact List.append_nil _
 have S_:(ef s all).take i++[x]=(ef s all).take (i+1):=by
  have hg:(ef s all)[i]? = some x:=by rw[ef,List.getElem?_map,List.getElem?_range hil,hx];rfl
  rw[List.take_add_one,hg];rfl
 rw[show aa ((ef s all).take i)++aa x.l=aa ((ef s all).take (i+1)) from by rw[←S_,aC,e1]]at S;refine J9 ?_;intro a S;rw[w6 ((i:Int)+1)]at S;exact ⟨i+1,p17,c17,p4,c4,oK s3,S.uu,⟨hil,⟨v1.on,v1.fit⟩,v2,v3,v4⟩,S.sub _ _,by omega⟩;refine jq ?_;intro a S;have Ze:i=(ef s all).length:=by rw[xU];have:=of_decide_eq_false h12;omega
 rw[Ze,List.take_length]at S;replace S:=S.sub [Wk.row 129 64 q (ef s all).length e (aa (ef s all)),ay b m p c s] [];replace S:=S.aL;have h1:=S.it (both (Wk.row 129 64 q (ef s all).length e (aa (ef s all))) (ay b m p c s));have h2:=S.bH (both (Wk.row 129 64 q (ef s all).length e (aa (ef s all))) (ay b m p c s)) rfl;exact aD S (fun _=>⟨q,e,rfl,h1,h2⟩)
instance V7 {P:Program}{ty t e:TypeId}{l:Cx}{bs:List Wk.Item}{fs:List (World→Prop)}{x y:Operand}{kk:IntKind}{i:Nat}{z:Value}{dy:Nat}[hx:Ev l x (.agg ⟨[.bool false,.bool true]⟩)][hy:Ev l y (.int kk (i:Int))][ht:dN P t (.array 2 e)][o_:TI P e z 1 dy][ha:eU P e false][hk:cx i 2]:dO P (.index t x y) ty l bs fs (.bool (decide (i=1))):=⟨fun ρ w h _=>
 qQ [.bool false,.bool true] i _ (by have:=hk.lt;rcases (show i=0∨i=1 by omega) with rfl | rfl <;> rfl) rfl h w⟩
theorem E7 (b1 m1:Nat)(p1:Option Addr)(c1:Nat)(b2 m2:Nat)(p2:Option Addr)(c2:Nat)(s:DS)(hl:s.loose.length≤1000000)(hz:1≤s.size∧s.size≤4096)(hn:Nd s)(w0:World)(hd:(both (ay b1 m1 p1 c1 s) (ay b2 m2 p2 c2 s)).holds w0) :
  aT prog 58 [.pointer (some ⟨b1,0,none⟩),.pointer (some ⟨b2,0,none⟩)] w0 (both (ay b1 m1 p1 c1 s) (ay b2 m2 p2 c2 s)).aj fun v w'=>v=.bool true∧(both (ay b1 m1 p1 c1 s) (ay b2 m2 p2 c2 s)).holds w':=by
 refine E1 func58 rfl ntmps58 (Wd.ig (x:=ay b1 m1 p1 c1 s) (y:=ay b2 m2 p2 c2 s) (fs:=[]) hd rfl rfl (by simp)) ?_;intro a S;refine J9 ?_;intro a S;refine sr S (IA b1 m1 p1 s.loose.length c1 s _ (az.aO (S.it (ay b1 m1 p1 c1 s)).1 (fun h=>h))) ?_;rintro _ a w rfl S;refine J1 ?_;intro a S;refine sr S (IA b2 m2 p2 s.loose.length c2 s _ (az.aO (S.it (ay b2 m2 p2 c2 s)).1 (fun h=>h))) ?_;rintro _ a w rfl S;refine J1 ?_;intro a S;rw[show (!decide (s.out=s.out))=false from by simp]at S;refine sq S ?_;intro a S;refine jr S ?_;refine sq S ?_;intro a S;refine jr S ?_;refine sr S (ID b1 m1 p1 s.loose.length c1 s _ (az.aO (S.it (ay b1 m1 p1 c1 s)).1 (fun h=>h))) ?_;rintro _ a w rfl S;refine jr S ?_;refine sq S ?_;intro a S;refine jr S ?_;refine sr S (ID b2 m2 p2 s.loose.length c2 s _ (az.aO (S.it (ay b2 m2 p2 c2 s)).1 (fun h=>h))) ?_;rintro _ a w rfl S;refine jr S ?_;refine sq S ?_;intro a S;rw[show (!decide (s.ops=s.ops))=false from by simp]at S;(iterate 2 (refine sq S ?_;intro a S));refine jr S ?_;refine sq S ?_;intro a S;refine jr S ?_;have Ju:=S.it (ay b1 m1 p1 c1 s);refine sr S (sg b1 m1 p1 c1 s hl _ (az.aO Ju.1 (fun h=>h)) (gJ Ju.2.1.2.1 (fun _ _ _ _=>trivial) (fun _ _ h=>h))) ?_;rintro _ a w ⟨q1,e1,rfl⟩ S;refine jr S ?_;refine sq S ?_;intro a S;refine jr S ?_;refine sq S ?_;intro a S;refine jr S ?_;have Ju:=S.it (ay b2 m2 p2 c2 s);refine sr S (sg b2 m2 p2 c2 s hl _ (az.aO Ju.1 (fun h=>h)) (gJ Ju.2.1.2.1 (fun _ _ _ _=>trivial) (fun _ _ h=>h))) ?_;rintro _ a w ⟨q2,e2,rfl⟩ S
 refine jr S ?_;refine sq S ?_;intro a S;refine jr S ?_;refine sq S ?_;intro a S;rw[show (!decide ((s.loose.length:Int)=(s.loose.length:Int)))=false from by simp]at S;refine ug ?_;intro a S;refine fD S (fun(i:Nat) uu=>[(4,uu 4),(1,uu 6),(0,uu 7),(0,uu 8),(0,uu 9),(22,.int .i64 (i:Nat)),(0,uu 33),(0,uu 34),(0,uu 35),(0,uu 36),(0,uu 37),(0,uu 38),(0,uu 39),(0,uu 40),(0,uu 41),(0,uu 42),(0,uu 43),(0,uu 44),(0,uu 45),(0,uu 46),(0,uu 47),(0,uu 48),(0,uu 49),(0,uu 50),(0,uu 51),(0,uu 52),(0,uu 53),(0,uu 54),(0,uu 55),(0,uu 56),(0,uu 57),(0,uu 58),(0,uu 59),(0,uu 60),(0,uu 61),(0,uu 62),(0,uu 63),(0,uu 64),(0,uu 65),(0,uu 66)]) (fun(i:Nat)=>[ay b1 m1 p1 c1 s,ay b2 m2 p2 c2 s]) (fun(i:Nat)=>[]) (fun(i:Nat)=>i≤2) (fun(i:Nat)=>2 - i) (0) ?_ S.uu ?_ ?_;omega;exact S;clear S;rintro i uu a w hi S;refine J6 ?_;intro a S;refine kC S (fun h4=>?_) (fun h4=>?_);refine kK (aQ (kS (kB (kS ?_))));have hi2:i < 2:=by have:=of_decide_eq_true h4;omega
 have Cq:cx i 2:=⟨hi2⟩;refine J9 ?_;intro a S;refine cM (ay b1 m1 p1 c1 s) S (Jt b1 m1 p1 c1 s (decide (i=1)) hl hz hn _ (S.it (ay b1 m1 p1 c1 s))) rfl ?_;rintro _ a w ⟨q1,e1,rfl,P1,kr⟩ hS;have S:=hS (both (Wk.row 129 64 q1 (ef s (decide (i=1))).length e1 (aa (ef s (decide (i=1))))) (ay b1 m1 p1 c1 s)) P1 kr;clear hS;replace S:=S.front (both (Wk.row 129 64 q1 (ef s (decide (i=1))).length e1 (aa (ef s (decide (i=1))))) (ay b1 m1 p1 c1 s));replace S:=S.aP;replace S:=S.bA q1 (ef s (decide (i=1))) (e:=129) (sz:=64) (n:=(ef s (decide (i=1))).length) (c:=e1) (fun _ _ _ _=>trivial);refine J2 ?_;intro a S;refine cM (ay b2 m2 p2 c2 s) S (Jt b2 m2 p2 c2 s (decide (i=1)) hl hz hn _ (S.it (ay b2 m2 p2 c2 s))) rfl ?_;rintro _ a w ⟨q2,e2,rfl,u7,iF⟩ hS;have S:=hS (both (Wk.row 129 64 q2 (ef s (decide (i=1))).length e2 (aa (ef s (decide (i=1))))) (ay b2 m2 p2 c2 s)) u7 iF;clear hS;replace S:=S.front (both (Wk.row 129 64 q2 (ef s (decide (i=1))).length e2 (aa (ef s (decide (i=1))))) (ay b2 m2 p2 c2 s));replace S:=S.aP;replace S:=S.bA q2 (ef s (decide (i=1))) (e:=129) (sz:=64) (n:=(ef s (decide (i=1))).length) (c:=e2) (fun _ _ _ _=>trivial);have RA:=xU s (decide (i=1));obtain ⟨xs,hxs⟩:∃ xs,xs=ef s (decide (i=1)):=⟨_,rfl⟩;rw[←hxs]at S RA;refine mJ ?_;intro a S;rw[show decide ((xs.length:Int)=0)=false from decide_eq_false (by omega)]at S;refine sq S ?_;intro a S;refine jr S ?_;refine sq S ?_;intro a S;refine jr S ?_;refine sq S ?_;intro a S;refine jr S ?_;refine sq S ?_;intro a S;refine jr S ?_;refine sq S ?_;intro a S;refine jr S ?_;refine sq S ?_;intro a S
 rw[show (!decide ((xs.length:Int)=(xs.length:Int)))=false from by simp]at S;refine ug ?_;intro a S;refine fD S (fun(j:Nat) uu=>[(4,uu 4),(4,uu 9),(43,.int .i64 (j:Nat)),(0,uu 54),(0,uu 55),(0,uu 56),(0,uu 57),(0,uu 58),(0,uu 59),(0,uu 60),(0,uu 61),(0,uu 62),(0,uu 63),(0,uu 64),(0,uu 65)]) (fun(j:Nat)=>[ay b1 m1 p1 c1 s,ay b2 m2 p2 c2 s]) (fun(j:Nat)=>[av q2 xs,av q1 xs]) (fun(j:Nat)=>j≤xs.length) (fun(j:Nat)=>xs.length - j) (0) ?_ S.uu ?_ ?_;exact Nat.zero_le _;exact (S.front (ay b1 m1 p1 c1 s)).sub _ _;clear S;rintro j uu a w hj S;refine J6 ?_;intro a S;refine kC S (fun gi=>?_) (fun gi=>?_);refine kK (aQ (kS (kB (kS ?_))));have hjl:j < xs.length:=by have:=of_decide_eq_true gi;omega
 have hK:cx j xs.length:=⟨hjl⟩;refine J6 ?_;intro a S;refine bM [T9 0,T9 1,T9 2,T9 3,T9 4,T9 5,T9 6,T9 7,T9 8] [] S ?_;intro w S;refine J9 ?_;intro a S;rw[show (!decide ((aq xs j).l=(aq xs j).l))=false from by simp]at S;refine dn (aQ ?_);refine jS S ?_;refine kK (qw (aQ (kR ?_)));(iterate 2 (refine sq S ?_;intro a S));refine kN (aQ ?_);rw[w6 ((j:Int)+1)]at S;exact ⟨j+1,S.uu,hjl,S.sub _ _,by omega⟩;refine gM ?_;intro a S;rw[w6 ((i:Int)+1)]at S;exact ⟨i+1,S.uu,hi2,S.sub _ _,by omega⟩;refine gM ?_;intro a S;replace S:=S.aL;have h1:=S.it (both (ay b1 m1 p1 c1 s) (ay b2 m2 p2 c2 s));exact aD S (fun _=>⟨rfl,h1⟩)
end Go.Proofs.YtdakncgafdnjfaaGreat
namespace Go.Wk
open Go
section
variable {P:Program}{ops:Array Oper}{C:World→Prop}{X:XP}
def Gq (last:Nat)(P:Program)(ops:Array Oper)(X:XP)(C:World→Prop)(R:Act→World→Prop):Nat→Array Bool→Act→World→Prop
 | 0,listed,a,w=>Region.ready .any ops listed=[]∧R a w
 | fuel+1,listed,a,w=>
  (Region.ready .any ops listed=[]→R a w)∧
  ∀ i∈Region.ready .any ops listed,LS P ops X i (fun a' w'=>(i≠last→C w')∧Gq last P ops X C R fuel (listed.setIfInBounds i true) a' w') a w
variable {R:Act→World→Prop}
theorem Dv {last i:Nat}{oi:Oper}{v:Value}(hi:ops[i]? = some oi)(hoff:X.off oi)(hsel:∀ (j:Nat) (o:Oper) cs b,ops[j]? = some o→o.op≠.select cs b) :
  (i≠last∧∀ o,ops[last]? = some o→∃ e∈o.after,Region.binds .any e=true∧e.on=i)→∀ (fuel:Nat) (listed:Array Bool) (a:Act) (w:World),
   (∀ j oj,ops[j]? = some oj→j≠i→listed.getD j true=false→(∀ e∈oj.after,Region.binds .any e=true→e.on≠i)→oi.apart ops oj=true)→
   i∈Region.ready .any ops listed→dG P ops C oi v a→C w→
   Gq last P ops X C R fuel (listed.setIfInBounds i true) (a.put oi.dst v) w→Gq last P ops X C R (fuel+1) listed a w:=by
 intro nC fuel
 induction fuel with
 | zero=>
  intro listed a w _ hr hy hS H;refine ⟨fun h=>(by rw[h]at hr;cases hr),fun j hj=>?_⟩
  by_cases hji:j=i
  ·subst hji;exact hy.wnx hi hS ⟨fun _=>hS,H⟩
  ·have:=ready_mono hj hji
   rw[H.1]at this;cases this
 | succ fuel ih=>
  intro listed a w hfree hr hy hS H;refine ⟨fun h=>(by rw[h]at hr;cases hr),fun j hj=>?_⟩
  by_cases hji:j=i
  ·subst hji;exact hy.wnx hi hS ⟨fun _=>hS,H⟩
  ·have h1:=H.2 j (ready_mono hj hji)
   obtain ⟨uk,oj,tJ,hall⟩:=mem_ready.1 hj;have hnot:∀ e∈oj.after,Region.binds .any e=true→e.on≠i:=fun e he hb heq=>by
    have h1:=hall e he hb;have h0:=(mem_ready.1 hr).1;rw[heq]at h1;rcases Nat.lt_or_ge i listed.size with h' | h'
    ·simp[h']at h0 h1;rw[h0]at h1;cases h1
    ·simp[Array.getElem?_eq_none h']at h1
   have hjl:j≠last:=fun e=>by
    obtain ⟨e',he',hb',ho'⟩:=nC.2 oj (e▸tJ);exact hnot e' he' hb' ho'
   have h2:=LU tJ (hfree j oj tJ hji uk hnot) hoff (fun cs b=>hsel i oi cs b hi) (fun cs b=>hsel j oj cs b tJ) hy h1;have pQ:∀ k ok,ops[k]? = some ok→k≠i→(listed.setIfInBounds j true).getD k true=false→
     (∀ e∈ok.after,Region.binds .any e=true→e.on≠i)→oi.apart ops ok=true:=fun k ok hk hki hun hno=>by
    refine hfree k ok hk hki ?_ hno
    by_cases Hx:j=k
    ·subst Hx;exact uk
    ·rw[getD_set_ne true Hx]at hun;exact hun
   refine wpOpIn_mono (fun a' w' h3=>⟨h3.2.1,ih (listed.setIfInBounds j true) a' w' pQ (ready_mono hr (Ne.symm hji)) h3.1 (h3.2.1 hjl) ?_⟩) h2;rw[Array.setIfInBounds_comm _ _ hji];exact h3.2.2
variable {r:Option Nat}{Q:Exit→Act→World→Prop}{w0:World}{M0:Nat→Prop}{ds:List Deferred}{a:Act}{w:World}{l l':List Value}{bs bs' eD:List Item}{fs dz:List (World→Prop)}
 {d:Option Nat} {op:Op} {ty:TypeId} {pos:String} {af:Array Edge} {rest:List Oper} {v v' G:Value} {j g:Nat} {kZ:Bool} {cs:List Bool} {n last:Nat} {listed:Array Bool}
def wZ (last:Nat)(P:Program)(ops:Array Oper)(X:XP)(C:World→Prop)(R:Act→World→Prop)(ord:List (Nat × Bool))(a:Act)(w:World):Prop:=
 ∀ listed,Region.noSelect ops=true→X.Pm ops=true→d_ last ops ord listed=true→Gq last P ops X C R ord.length listed a w
variable {ord:List (Nat × Bool)}{i:Nat}
theorem TZ (S:St w0 M0 ds a w l bs fs)[hb:dj eD bs][hf:dj dz fs][ho:jL ops i ⟨d,op,ty,pos,af,none⟩][hq:dO P op ty ⟨[],l⟩ eD dz v][hp:cZ l d v l']
  (K:∀ a,St w0 M0 ds a w l' bs fs→wZ last P ops X (fun w=>Wd w0 M0 w eD dz) R ord a w) :
  wZ last P ops X (fun w=>Wd w0 M0 w eD dz) R ((i,true)::ord) a w:=by
 intro listed hs hx aS;simp only[d_,Bool.and_eq_true]at aS;refine Dv ho.eq (XP.FT hx ho.eq) (Region.noSelect_spec hs) (mZ aS.1.2) _ listed a w (Region.free_spec ho.eq aS.1.1.2) (by simpa using aS.1.1.1) (v:=v) (.inl ⟨rfl,fun w' bP=>?_⟩) (S.wd.sub hb.sub hf.sub) (K _ S.put _ hs hx aS.2);rw[gN];exact hq.run a.eval w' S.fr bP.mem
theorem MF {o:Oper}{C:World→Prop}[ho:jL ops i o](h:WL P none ops (fun e a' w'=>(e=.normal∧(i≠last→C w')∧wZ last P ops X C R ord a' w')∨X.at e a' w') [o] a w):wZ last P ops X C R ((i,false)::ord) a w:=by
 intro listed hs hx aS;simp only[d_,Bool.and_eq_true]at aS;have hr:Region.ready .any ops listed=[i]:=by
  have:=aS.1;split at this
  ·rename_i k hk;rw[hk,Nat.eq_of_beq_eq_true this]
  ·cases this
 refine ⟨fun h0=>(by rw[h0]at hr;cases hr),fun k hk=>?_⟩;rw[hr]at hk;obtain rfl:k=i:=by simpa using hk
 have P_:∀ {p:Prop} {a':Act} {w':World},((p∧(k≠last→C w')∧wZ last P ops X C R ord a' w')∨X.at .normal a' w')→(k≠last→C w')∧Gq last P ops X C R ord.length (listed.setIfInBounds k true) a' w':=by
  rintro p a' w' (⟨-,h1,h2⟩ | h)
  ·exact ⟨h1,h2 _ hs hx aS.2⟩
  ·exact h.elim
 have Zf:∀ {c:List PanicEntry} {a':Act} {w':World},((Exit.panic c=Exit.normal∧(k≠last→C w')∧wZ last P ops X C R ord a' w')∨X.at (.panic c) a' w')→X.at (.panic c) a' w':=by
  rintro c a' w' (⟨h,-⟩ | h)
  ·cases h
  ·exact h
 unfold LS wpOpIn;simp only[ho.eq];simp only[WL,wpListIn]at h;split
 ·rename_i hw
  rw[if_pos hw]at h;refine ⟨fun _ _=>trivial,?_⟩;have h:=h.2
  generalize (o.semAt (FW none).round a.eval).run P w=q at *
  cases q with
  | ok x w'=>
   cases x <;> simp only[Oper.uponIn]at h⊢
   case value u=>exact P_ h
   case skip=>exact P_ h
   case defer d=>exact P_ h
   case enter f args=>
    refine ⟨h.1,CallsIn.mono h.2 fun e w'' he=>?_⟩;cases e with
    | returned u=>simp only[true_and]at he;exact P_ (p:=True) (by simpa using he)
    | panicked c=>exact Zf he
    | outgrown=>obtain ⟨_,_,he⟩:=he;rcases he with ⟨he,_⟩ | he <;> first | cases he | exact he.elim
   case row row args=>exact ⟨h.1,RowsIn.mono h.2 fun u w'' he=>P_ he⟩
   case round l f tmps assign body=>
    refine ⟨h.1,RoundIn.mono h.2 fun e w'' he=>?_⟩;cases e with
    | returned u=>simp only[true_and]at he;exact P_ (p:=True) (by simpa using he)
    | panicked c=>exact Zf he
    | outgrown=>obtain ⟨_,_,he⟩:=he;rcases he with ⟨he,_⟩ | he <;> first | cases he | exact he.elim
  | halt x w'=>
   cases x <;> simp only[Oper.uponIn]at h⊢
   case panic u=>exact Zf h
 ·rename_i hw
  rw[if_neg hw]at h;exact ⟨fun _ _=>trivial,P_ h.2⟩
theorem Qa [hb:dj eD bs][hf:dj dz fs](S:St w0 M0 ds a w l bs fs)(h:wZ last P ops X (fun w=>Wd w0 M0 w eD dz) R ord a w):WL P none ops (fun e a' w'=>(e=.normal∧(i≠last→Wd w0 M0 w' eD dz)∧wZ last P ops X (fun w=>Wd w0 M0 w eD dz) R ord a' w')∨X.at e a' w') [] a w:=
 kN (.inl ⟨rfl,fun _=>S.wd.sub hb.sub hf.sub,h⟩)
theorem Zg {C:World→Prop}(h:R a w)(hr:∀ listed,Region.noSelect ops=true→d_ last ops [] listed=true→Region.ready .any ops listed=[]:=by intro listed _ h;simpa [d_] using h):WL P none ops (fun e a' w'=>(e=.normal∧(last≠last→C w')∧wZ last P ops X C R [] a' w')∨X.at e a' w') [] a w:=
 kN (.inl ⟨rfl,fun h=>absurd rfl h,fun listed hs _ hf=>⟨hr listed hs hf,h⟩⟩)
theorem sZ (hQ:∀ ch a w,X.at (.panic ch) a w→Q (.panic ch) a w)(hd:∀ (i:Nat) o,ops[i]? = some o→cE o.op=false):∀ (fuel:Nat) (listed:Array Bool) (a:Act) (w:World),Gq last P ops X C (fun a w=>Q .normal a w) fuel listed a w→wpAnyIn (FW r) 0 P .any ops Q fuel listed a w
 | 0,_,_,_,h=>h
 | fuel+1,_,_,_,h=>⟨h.1,fun i hi=>FU hQ hd (wpOpIn_mono (fun a' w' h'=>sZ hQ hd fuel _ a' w' h'.2) (h.2 i hi))⟩
theorem Jv {id:Nat}{lo:List Oper}(last:Nat)(ord:List (Nat × Bool))(eD:List Item)(X:XP)(S:St w0 M0 ds a w l bs fs)(hQ:∀ ch a w,X.at (.panic ch) a w→Q (.panic ch) a w)
  (h:∀ w,St w0 M0 ds a w l bs fs→wZ last P lo.toArray X (fun w=>Wd w0 M0 w eD fs) (fun a w=>Q .normal a w) ord a w)
  (hm:P.follows .mixedOrders=true:=by kernel_rfl) (hx:X.Pm lo.toArray=true:=by kernel_rfl) (hd:((lo.all fun o=>!cE o.op)&&(Nat.beq ord.length lo.length&&(Region.noSelect lo.toArray&&d_ last lo.toArray ord (Array.replicate lo.length false))))=true:=by kernel_rfl):Wp P r (.region id lo.toArray true) Q a w:=by
 simp only[Bool.and_eq_true]at hd;refine wpIn_region_any hm (sZ (last:=last) (C:=fun w=>Wd w0 M0 w eD fs) hQ (fun i o ho=>?_) _ _ _ _ ?_);have:=List.all_eq_true.1 hd.1 o (by
  rw[List.getElem?_toArray]at ho;exact List.mem_of_getElem? ho)
 simpa using this;have:=h { w with drawn:=w.drawn+1 } ⟨S.slots,S.defers,S.wd.step (aJ.drawn _ w _)⟩ _ hd.2.2.1 hx hd.2.2.2;rw[Nat.eq_of_beq_eq_true hd.2.1]at this;simpa using this
end
section
variable {P:Program}{r:Option Nat}{ops:Array Oper}{Q:Exit→Act→World→Prop}{w0:World}{M0:Nat→Prop}{ds:List Deferred}{a:Act}{w:World}{l:List Value}{bs bs':List Item}{fs:List (World→Prop)}
 {d:Option Nat} {ty:TypeId} {pos:String} {af:Array Edge} {rest:List Oper} {f:Nat} {x:Operand} {ys:List Operand} {args:List Value} {ts:Array TypeId}
theorem RT {next:Act→World→Prop}{ch:List PanicEntry}(h:Q (.panic ch) a w):Exit.then next Q (.panic ch) a w:=h
theorem Ov {id:Nat}{ch:List PanicEntry}(h:Q (.panic ch) a w):Exit.inBlock id Q (.panic ch) a w:=h
abbrev noI:Item:=ext fun _=>False
theorem Ow {l':Value→List Value}(it:Item)[aF P f][fP ⟨[],l⟩ x ys f args][hp:∀ v,cZ l d v (l' v)](S:St w0 M0 ds a w l bs fs){R:Value→World→Prop}{X:List PanicEntry→World→Prop}(hc:LR P f args w it.aj R X)(ho:it.own=true)
  (Kp:∀ ch w',X ch w'→(∀ {bs':List Item} [dD bs it noI bs'],St w0 M0 ds a w' l bs' fs)→Q (.panic ch) a w')
  (K:∀ v a w',R v w'→(∀ (y:Item) (wP:List (World→Prop)) {Pd:List (World→Prop)} {bs':List Item} [As wP fs Pd] [dD bs it y bs'] [cV y],y.holds w'→(∀ k,y.aj k→it.aj k∨w.heap.size≤k)→(∀ Φ∈wP,ag (fun k=>y.aj k∨c_ bs it k) w' Φ)→St w0 M0 ds a w' (l' v) bs' Pd)→WL P r ops Q rest a w') :
  WL P r ops Q (⟨d,.call { callee:=.value x,args:=ys.toArray,argTypes:=ts },ty,pos,af,none⟩::rest) a w:=by
 have hap:=S.wd.apart;refine EB S hc ?_;rintro e w' (⟨v,rfl,ha,hR⟩ | ⟨ch,rfl,ha,hX⟩)
 ·have:=hp v
  have S':=S.put (d:=d) (v:=v);refine .inl ⟨v,rfl,K v _ w' hR fun y wP Pd bs' Pe hr oy hy hf Au=>?_⟩;have hS:St w0 M0 ds (a.put d v) w' (l' v) bs' fs:=⟨S'.slots,S'.defers,by
   obtain ⟨pre,post,q1,q2⟩:=hr.ex;have hO:=S'.wd;rw[q1]at hO;rw[q2];exact hO.swap ho ha hy hf (oy.lt w' hy) oy.loc⟩
  rw[←Pe.eq];refine hS.CS wP fun Φ hΦ=>(Au Φ hΦ).less fun k _ hk=>?_
  obtain ⟨pre,post,rfl,rfl⟩:=hr.ex;obtain ⟨z,hz,hk⟩:=hk;have hp:=List.pairwise_append.1 hap;rcases List.mem_append.1 hz with hz | hz
  ·exact .inr ⟨⟨z,by simp[hz],hk⟩,hp.2.2 z hz it (by simp) k hk⟩
  ·rcases List.mem_cons.1 hz with rfl | hz
   ·exact .inl hk
   ·exact .inr ⟨⟨z,by simp[hz],hk⟩,fun hx=>(List.pairwise_cons.1 hp.2.1).1 z hz k hx hk⟩
 ·refine .inr ⟨ch,rfl,Kp ch w' hX fun {bs'} hr=>⟨S.slots,S.defers,?_⟩⟩
  obtain ⟨pre,post,q1,q2⟩:=hr.ex;have hO:=S.wd;rw[q1]at hO;rw[q2];exact hO.swap ho ha trivial (fun _ h=>h.elim) (fun _ h=>h.elim) (fun _ _ _ _=>trivial)
end
end Go.Wk
namespace Go.Proofs.YtdakncgafdnjfaaGreat
open Go.Proofs.Tryz
open Go Go.Wk
set_option synthInstance.maxSize 100000
set_option synthInstance.maxHeartbeats 400000
set_option maxRecDepth 100000
instance:Yg prog 247:=⟨⟨_,underlying247⟩⟩
instance:X7 prog 20:=⟨by kernel_rfl⟩
abbrev sj (e:Int):Value:=.iface 247 (.agg ⟨[.int .i64 e]⟩)
abbrev Cw (h rd:Nat)(left:Int):Wk.Item:=Wk.box h 245 [.pointer (some ⟨rd,0,none⟩),.int .i64 left]
abbrev xX (h rd:Nat)(left:Int)(r:RS):Wk.Item:=both (Cw h rd left) (bw rd r)
theorem rj (h rd:Nat)(left:Int)(r:RS)(b:Bool)(w0:World)(f1:Fx w0 (az h 245 [.pointer (some ⟨rd,0,none⟩),.int .i64 left]))(f2:Fx w0 (az rd 238 (La r))) :
  LR prog 234 [.pointer (some ⟨h,0,none⟩),.bool b] w0 (fun _=>False) (fun _ _=>r.why=0∧b=true) (fun ch _=>∃ e,ch=Hq (sj e)∧((r.why≠0∧e=7)∨(r.why=0∧b=false∧e=150))):=by
 refine E1 func234 rfl ntmps234 (Wd.begin (fs:=[az h 245 [.pointer (some ⟨rd,0,none⟩),.int .i64 left],az rd 238 (La r)]) (by simp;exact ⟨f1,f2⟩)) ?_;intro a S;refine J7 ?_;intro a S;refine sr S (yW rd r _ (S.mem.HD (az rd 238 (La r)))) ?_;rintro _ a w rfl S;refine J4 ?_;intro a S;refine kC S (fun h0=>?_) (fun h0=>?_);refine J3 ?_;intro a S;refine SU S (fun S=>?_);refine Ov ?_;refine CU S ?_;exact ⟨7,rfl,.inl ⟨by simpa using h0,rfl⟩⟩;refine J7 ?_;intro a S;refine kC S (fun h2=>?_) (fun h2=>?_);refine J3 ?_;intro a S;refine SU S (fun S=>?_);refine Ov ?_;refine CU S ?_;exact ⟨150,rfl,.inr ⟨by simpa using h0,by simpa using h2,rfl⟩⟩;refine kK (qw ?_);refine SV (iD S (fun _=>?_));exact ⟨by simpa using h0,by simpa using h2⟩
structure cK (r r':RS):Prop where
 gl:r.bs.length≤r.c→∀ w,av r.p r.bs w→av r'.p r'.bs w
 len:r'.bs.length≤r.bs.length
 cap:r.bs.length≤r.c→r'.bs.length≤r'.c
theorem cK.refl (r:RS):cK r r:=⟨fun _ _ h=>h,Nat.le_refl _,id⟩
theorem cK.trans {a b c:RS}(h:cK a b)(k:cK b c):cK a c:=⟨fun hc w hw=>k.gl (h.cap hc) w (h.gl hc w hw),Nat.le_trans k.len h.len,fun hc=>k.cap (h.cap hc)⟩
theorem cK.take (r:RS)(k:Nat):cK r (ai r k):=by
 refine ⟨fun hc w hw=>?_,F5 r k,fun hc=>F6 hc⟩;unfold ai;split;exact hw.drop (sz:=1) k hc;exact hw
theorem mA {r:RS}(h:r.why=0)(hk:(ai r 1).why=0):∃ c t,r.bs=c::t∧aV (aM r 1) 0=c.toNat∧(ai r 1).bs=t:=by
 by_cases ho:u_ r 1
 have hl:=ho.2
 match hb:r.bs with
 | []=>rw[hb]at hl;simp at hl
 | c::t=>exact ⟨c,t,rfl,by rw[mc ho,hb];simp[aV],by rw[iw ho,hb];rfl⟩
 rw[jz ho,if_pos h]at hk;cases hk
theorem sk {r:RS}(h:r.why=0)(hk:(ai r 1).why≠0):r.bs=[]:=by
 by_cases ho:u_ r 1
 rw[iw ho]at hk;exact absurd rfl hk
 match hb:r.bs with
 | []=>rfl
 | c::t=>exact absurd ⟨h,by rw[hb];simp⟩ ho
theorem E8 {r:RS}{k:Nat}(h:r.why=0)(hk:(ai r k).why=0):k≤r.bs.length∧aM r k=r.bs.take k∧(ai r k).bs=r.bs.drop k:=by
 by_cases ho:u_ r k
 exact ⟨ho.2,mc ho,by rw[iw ho]⟩;rw[jz ho,if_pos h]at hk;cases hk
theorem Bs {r:RS}{k:Nat}(h:r.why=0)(hk:(ai r k).why≠0):r.bs.length < k:=by
 by_cases ho:u_ r k
 rw[iw ho]at hk;exact absurd rfl hk;rcases Nat.lt_or_ge r.bs.length k with h1 | h1
 exact h1;exact absurd ⟨h,h1⟩ ho
def w4 (ts:List Term):pn (List Term × Nat × List UInt8)→pn (List Term × Nat × List UInt8)
 | .error e=>.error e
 | .ok (us,left,bs)=>.ok (ts++us,left,bs)
theorem Bt (x:pn (List Term × Nat × List UInt8)):w4 [] x=x:=by
 cases x <;> rfl
theorem vJ (f:Nat→List UInt8→pn (Term × Nat × List UInt8))(ts:List Term)(j left:Nat)(bs:List UInt8)(t:Term)(left':Nat)(bs':List UInt8)(h:f left bs=.ok (t,left',bs')) :
  w4 ts (e8 f (j+1) left bs)=w4 (ts++[t]) (e8 f j left' bs'):=by
 rw[e8,h]
 show w4 ts (match e8 f j left' bs' with | .error e=>.error e | .ok (us,l,b)=>.ok (t::us,l,b))=_
 cases e8 f j left' bs' with
 | error e=>rfl
 | ok x=>obtain ⟨us,l,b⟩:=x;simp[w4]
theorem xY (f:Nat→List UInt8→pn (Term × Nat × List UInt8))(ts:List Term)(j left:Nat)(bs:List UInt8)(e:Int)(h:f left bs=.error e):w4 ts (e8 f (j+1) left bs)=.error e:=by
 rw[e8,h];rfl
variable {f:Nat→List UInt8→pn (Term × Nat × List UInt8)}{left:Nat}{k e:Int}{bs b2 b3 b4:List UInt8}{s:List UInt8}{u n:Int}
theorem kg (h:gz k bs=.error e):o9 f left k bs=.error e:=by rw[o9,h]
theorem oV (h:gz k bs=.ok (s,b2))(h2:h_ k b2=.error e):o9 f left k bs=.error e:=by rw[o9,h];simp only[h2]
theorem Bu (h:gz k bs=.ok (s,b2))(h2:h_ k b2=.ok (u,b3))(h3:nG k b3=.error e):o9 f left k bs=.error e:=by rw[o9,h];simp only[h2,h3]
theorem xZ (h:gz k bs=.ok (s,b2))(h2:h_ k b2=.ok (u,b3))(h3:nG k b3=.ok (n,b4))(h4:e8 f (fL k) (left - 1) b4=.error e):o9 f left k bs=.error e:=by rw[o9,h];simp only[h2,h3,h4]
theorem zA {ks:List Term}{l:Nat}{b5:List UInt8}(h:gz k bs=.ok (s,b2))(h2:h_ k b2=.ok (u,b3))(h3:nG k b3=.ok (n,b4))(h4:e8 f (fL k) (left - 1) b4=.ok (ks,l,b5)):o9 f left k bs=.ok (.mk k u n s ks,l,b5):=by rw[o9,h];simp only[h2,h3,h4]
theorem m7 (h:cm (fieldsOf k) 1=false):gz k bs=.ok ([],bs):=by unfold gz;rw[if_neg (by rw[h];simp)]
theorem so (h:cm (fieldsOf k) 1=true):gz k []=.error 7:=by rw[gz,if_pos h]
theorem qk (h:cm (fieldsOf k) 1=true){c:UInt8}(hc:64 < c.toNat):gz k (c::bs)=.error 150:=by rw[gz,if_pos h];simp[hc]
theorem od (h:cm (fieldsOf k) 1=true){c:UInt8}(hc:¬64 < c.toNat)(hl:bs.length < c.toNat):gz k (c::bs)=.error 7:=by rw[gz,if_pos h];simp[hc,hl]
theorem rm (h:cm (fieldsOf k) 1=true){c:UInt8}(hc:¬64 < c.toNat)(hl:¬bs.length < c.toNat):gz k (c::bs)=.ok (bs.take c.toNat,bs.drop c.toNat):=by rw[gz,if_pos h];simp[hc,hl]
theorem m8 (h:cm (fieldsOf k) 2=false):h_ k bs=.ok (0,bs):=by unfold h_;rw[if_neg (by rw[h];simp)]
theorem su (h:cm (fieldsOf k) 2=true):h_ k []=.error 7:=by rw[h_,if_pos h]
theorem rq (h:cm (fieldsOf k) 2=true){c:UInt8}(hc:1≤c.toNat∧c.toNat≤6):h_ k (c::bs)=.ok ((c.toNat:Int),bs):=by rw[h_,if_pos h];simp[hc]
theorem sx (h:cm (fieldsOf k) 2=true){c:UInt8}(hc:¬(1≤c.toNat∧c.toNat≤6)):h_ k (c::bs)=.error 150:=by rw[h_,if_pos h];simp only[if_neg hc]
theorem oW (h:cm (fieldsOf k) 4=false):nG k bs=.ok (0,bs):=by rw[nG,if_neg (by rw[h];simp)]
theorem ru (h:cm (fieldsOf k) 4=true)(hl:bs.length < 2):nG k bs=.error 7:=by rw[nG,if_pos h,if_pos hl]
theorem tY (h:cm (fieldsOf k) 4=true)(hl:¬bs.length < 2):nG k bs=.ok ((aV (bs.take 2) 0:Int),bs.drop 2):=by rw[nG,if_pos h,if_neg hl]
theorem sA (k:Int):jt (fieldsOf k)=((fL k:Nat):Int)∧fL k≤2:=by
 unfold fL jt;split;exact ⟨rfl,by decide⟩;split;exact ⟨rfl,by decide⟩;exact ⟨rfl,by decide⟩
end Go.Proofs.YtdakncgafdnjfaaGreat
namespace Go.Proofs.YtdakncgafdnjfaaGreat
open Go.Proofs.Tryz
open Go Go.Wk
set_option synthInstance.maxSize 100000
set_option synthInstance.maxHeartbeats 400000
set_option maxRecDepth 100000
theorem Bv {k:Int}(h:fieldsOf k≠0):1≤k∧k≤8:=by
 unfold fieldsOf at h
 repeat (split at h;· omega)
 exact absurd rfl h
theorem ry {n:Int}(h:0≤n∧n≤255):((Wk.u8 n).toNat:Int)=n:=by
 rw[←cF];unfold IntKind.wrap;simp only[IntKind.bits,IntKind.signed,Bool.false_and];simp;omega
theorem E9 {l:Nat}(h:l≤255):(Wk.u8 (l:Int)).toNat=l:=by
 have:=ry (n:=(l:Int)) (by omega);omega
theorem Bw {n:Int}(h:0≤n∧n≤65535):(aV (be 2 n) 0:Int)=n:=by
 have e:be 2 n=[Wk.u8 (n.fdiv (2 ^ 8)),Wk.u8 (n.fdiv (2 ^ 0))]:=rfl;have h1:n.fdiv (2 ^ 8)=n / 256:=by rw[Int.fdiv_eq_ediv_of_nonneg _ (by decide)];rfl
 have h0:n.fdiv (2 ^ 0)=n:=by rw[Int.fdiv_eq_ediv_of_nonneg _ (by decide)];simp
 have h3:=ry (n:=n / 256) (by omega);have h4:((Wk.u8 n).toNat:Int)=n % 256:=by
  rw[←cF];unfold IntKind.wrap;simp only[IntKind.bits,IntKind.signed,Bool.false_and];simp
 rw[e,h1,h0];simp only[aV,List.foldl_cons,List.foldl_nil]
 push_cast
 rw[h3,h4];omega
structure tZ (k u n:Int)(s:List UInt8)(m:Nat):Prop where
 kind:fieldsOf k≠0
 kids:(m:Int)=jt (fieldsOf k)
 short:s.length≤64
 text:cm (fieldsOf k) 1=false→s=[]
 user:cm (fieldsOf k) 2=true→1≤u∧u≤6
 Qb:cm (fieldsOf k) 2=false→u=0
 num:cm (fieldsOf k) 4=true→0≤n∧n≤65535
 T0:cm (fieldsOf k) 4=false→n=0
theorem Jw {k u n:Int}{s:List UInt8}{m:Nat}(h:gh k u n s m=true):tZ k u n s m:=by
 simp only[gh,bX,Bool.and_eq_true,Bool.or_eq_true,Bool.not_eq_true',decide_eq_true_eq,decide_eq_false_iff_not]at h;obtain ⟨⟨⟨⟨⟨h1,h2⟩,h3⟩,h4⟩,h5⟩,h6⟩:=h;refine ⟨h1,h2,by omega,fun e=>?_,fun e=>?_,fun e=>?_,fun e=>?_,fun e=>?_⟩;rcases h4 with h | h
 rw[e]at h;cases h;exact h;rcases h5 with h | h
 exact h.2;rw[e]at h;cases h.1;rcases h5 with h | h
 rw[e]at h;cases h.1;exact h.2;rcases h6 with h | h
 exact ⟨h.1.2,h.2⟩;rw[e]at h;cases h.1;rcases h6 with h | h
 rw[e]at h;cases h.1.1;exact h.2
theorem Gr {k u n:Int}{s:List UInt8}{m:Nat}(h:tZ k u n s m)(X:List UInt8):gz k (gR k s++X)=.ok (s,X):=by
 cases hf:cm (fieldsOf k) 1 with
 | false=>rw[gR,hf,h.text hf];exact m7 hf
 | true=>
  have hs:=h.short;have hl:=E9 (l:=s.length) (by omega);rw[gR,if_pos hf,Cl,rm hf (by rw[hl];omega) (by rw[hl,List.length_append];omega),hl,List.take_left,List.drop_left]
theorem Gs {k u n:Int}{s:List UInt8}{m:Nat}(h:tZ k u n s m)(X:List UInt8):h_ k (jM k u++X)=.ok (u,X):=by
 cases hf:cm (fieldsOf k) 2 with
 | false=>rw[jM,hf,h.Qb hf];exact m8 hf
 | true=>
  have hu:=h.user hf;have hl:=ry (n:=u) (by omega);rw[jM,if_pos hf,Cl,j6,rq hf (by omega),hl]
theorem Jy {k u n:Int}{s:List UInt8}{m:Nat}(h:tZ k u n s m)(X:List UInt8):nG k (pW k n++X)=.ok (n,X):=by
 cases hf:cm (fieldsOf k) 4 with
 | false=>rw[pW,hf,h.T0 hf];exact oW hf
 | true=>
  have hn:=h.num hf;have hw:IntKind.u16.wrap n=n:=by
   unfold IntKind.wrap;simp only[IntKind.bits,IntKind.signed,Bool.false_and];simp;omega
  have hl:(be 2 n).length=2:=by simp[be]
  rw[pW,if_pos hf,hw,tY hf (by rw[List.length_append];omega),List.take_left' hl,List.drop_left' hl,Bw hn]
mutual
theorem Bx:∀ (t:Term) (m:Nat) (left:Nat) (X:List UInt8),m≤60→(cY t (61 - (m:Int)) (left:Int)).1=true→iq m left (cn t++X)=.ok (t,(cY t (61 - (m:Int)) (left:Int)).2.toNat,X)
 | .mk k u n s ks,m,left,X=>by
  intro hm h;rw[cY]at h⊢;split at h;cases h
  rename_i hc
  rw[if_neg hc];have hc':0 < left∧0 < m∧gh k u n s ks.length=true:=by
   refine ⟨by omega,by omega,?_⟩;cases hp:gh k u n s ks.length with
   | true=>rfl
   | false=>exact absurd (.inr (.inr hp)) hc
  obtain ⟨hl,hm0,hp⟩:=hc';have hok:=Jw hp;have hk:=Bv hok.kind;have NQ:=ry (n:=k) (by omega);rw[cn,iY];simp only[List.append_assoc,Cl,j6];rw[gV,NQ,if_neg (by have:=hok.kind;omega)];have hkn:fL k=ks.length:=by
   have h1:=(sA k).1;have h2:=hok.kids;omega
  rw[show (61:Int) - (m:Int)+1=61 - ((m - 1:Nat):Int) from by omega,show (left:Int) - 1=((left - 1:Nat):Int) from by omega]at h⊢;refine zA (Gr hok _) (Gs hok _) (Jy hok _) ?_;rw[hkn];exact x8 ks (m - 1) (left - 1) X (by omega) h
theorem x8:∀ (ts:List Term) (m:Nat) (left:Nat) (X:List UInt8),m≤60→(dm ts (61 - (m:Int)) (left:Int)).1=true→e8 (iq m) ts.length left (dP ts++X)=.ok (ts,(dm ts (61 - (m:Int)) (left:Int)).2.toNat,X)
 | [],m,left,X=>by
  intro _ _;simp[e8,dm,dP]
 | t::ts,m,left,X=>by
  intro hm h;rw[dm]at h⊢;split at h
  rename_i hc
  rw[if_pos hc];have h0:=lX t _ _ (by omega) hc;have e:(cY t (61 - (m:Int)) (left:Int)).2=(((cY t (61 - (m:Int)) (left:Int)).2.toNat:Nat):Int):=by omega
  rw[e]at h;have h1:=Bx t m left (dP ts++X) hm hc;have h2:=x8 ts m _ X hm h;rw[dP,List.append_assoc,jb,e8,h1];simp only[h2];rw[←e];cases h
end
theorem Jz {t:Term}(h:cR t=0):∃ left,iq 60 1200 (dJ t)=.ok (t,left,[]):=by
 have hs:jv t≠0:=fun e=>by rw[cR,if_pos e]at h;cases h
 have hw:(cY t 1 1200).1=true:=by
  cases hw:(cY t 1 1200).1 with
  | true=>rfl
  | false=>rw[jv,hw]at hs;simp at hs
 have:=Bx t 60 1200 [] (Nat.le_refl _) hw;rw[List.append_nil]at this;rw[dJ,if_neg hs];exact ⟨_,this⟩
abbrev RB:=List UInt8 × Bool
def di (k:Nat)(x:RB):List UInt8 × RB:=if x.2=false∧k≤x.1.length then (x.1.take k,(x.1.drop k,false)) else ([],(x.1,true))
def RS.ab (r:RS):RB:=(r.bs,!decide (r.why=0))
theorem eP (r:RS)(k:Nat):aM r k=(di k r.ab).1∧(ai r k).ab=(di k r.ab).2:=by
 by_cases h:u_ r k
 have h2:r.ab.2=false∧k≤r.ab.1.length:=⟨by simp[RS.ab,h.1],h.2⟩;rw[mc h,iw h,di,if_pos h2];exact ⟨rfl,rfl⟩;have h2:¬(r.ab.2=false∧k≤r.ab.1.length):=fun h3=>h ⟨by simpa [RS.ab] using h3.1,h3.2⟩
 rw[nW h,jz h,di,if_neg h2];refine ⟨rfl,?_⟩
 by_cases hw:r.why=0
 simp[RS.ab,hw];simp[RS.ab,hw]
theorem MG (k:Nat)(l:List UInt8):di k (l,true)=([],(l,true)):=by rw[di,if_neg (by simp)]
theorem sB {k:Nat}{l X:List UInt8}(h:l.length=k):di k (l++X,false)=(l,(X,false)):=by
 subst h;rw[di,if_pos ⟨rfl,by rw[List.length_append];omega⟩,List.take_left,List.drop_left]
theorem fG {k:Nat}{x:RB}(h:(di k x).2.2=false):x.2=false:=by
 obtain ⟨l,b⟩:=x;cases b with
 | false=>rfl
 | true=>rw[MG]at h;cases h
theorem By (k:Int):(gG k < 0↔fieldsOf k=0)∧(0≤gG k→gG k=((fL k:Nat):Int))∧cm (fieldsOf k) 1=decide (k=1)∧cm (fieldsOf k) 2=jO k∧cm (fieldsOf k) 4=pV k:=by
 by_cases hk:1≤k∧k≤8
 ·obtain ⟨h1,h2⟩:=hk
  have NQ:k=1∨k=2∨k=3∨k=4∨k=5∨k=6∨k=7∨k=8:=by omega
  rcases NQ with rfl | rfl | rfl | rfl | rfl | rfl | rfl | rfl <;> refine ⟨?_,?_,?_,?_,?_⟩ <;> decide
 ·have h1:fieldsOf k=0:=by
   unfold fieldsOf;(repeat' split) <;> omega
  have h2:gG k = -1:=by
   unfold gG;rw[if_pos];omega
  refine ⟨by rw[h1,h2];simp,fun h=>by rw[h2]at h;omega,?_,?_,?_⟩
  ·rw[h1,show cm 0 1=false from by decide,decide_eq_false (by omega)]
  ·rw[h1,show cm 0 2=false from by decide,jO,decide_eq_false (by omega),decide_eq_false (by omega),decide_eq_false (by omega),decide_eq_false (by omega)];rfl
  ·rw[h1,show cm 0 4=false from by decide,pV,decide_eq_false (by omega),decide_eq_false (by omega)];rfl
theorem T3 (c d:UInt8):aV [c,d] 0=c.toNat*256+d.toNat:=by simp[aV];omega
theorem JA {bs:List UInt8}{i:Nat}(h:i+2≤bs.length):(bs.drop i).take 2=[aq bs i,aq bs (i+1)]:=by
 rw[bE (show i < bs.length by omega),bE (show i+1 < bs.length by omega)];rfl
section
variable {bs:List UInt8}{i n z:Nat}
end
def Ox (bs:List UInt8)(i m left:Nat)(t:Term)(j k:Nat)(e:Int):Prop:=
 (e=0∧iq m left (bs.drop i)=.ok (t,left - k,bs.drop j)∧k≤left∧j≤bs.length)∨(iq m left (bs.drop i)=.error e∧e≠0∧t=At∧j=0∧k=0)
section
variable {P:Program}{r:Option Nat}{ops:Array Oper}{Q:Exit→Act→World→Prop}{w0:World}{M0:Nat→Prop}{ds:List Deferred}{a:Act}{w:World}{l:List Value}{bs:List Wk.Item}{fs:List (World→Prop)}
 {d:Option Nat} {t t' ty:TypeId} {pos:String} {af:Array Edge} {rest:List Oper} {e:TypeId} {x:Operand} {ys:List UInt8}
theorem Qc {l':Nat→Nat→List Value}(S:St w0 M0 ds a w l bs fs)[Ev ⟨[],l⟩ x (str ys)][ht:dN P t .string][ht':dN P t' (.slice e)][he:dN P e (.int .u8)][hp:∀ b c,cZ l d (.slice (some ⟨b,0,none⟩) ys.length c) (l' b c)]
  (K:∀ b c a w,St w0 M0 ds a w (l' b c) bs (av (some ⟨b,0,none⟩) ys::fs)→WL P r ops Q rest a w):WL P r ops Q (⟨d,.convert t t' x,ty,pos,af,none⟩::rest) a w:=by
 refine bR rfl ?_;rw[bQ rfl];have hr:=Lib.run_convert_string_bytes (P:=P) w t t' e ⟨ys.toArray⟩ ht.eq ht'.eq he.eq;have e1:(cu a.eval (.convert t t' x) ty).run P w=.ok (.value (.slice (some ⟨w.heap.size,0,none⟩) ys.length (grownCap w (ByteArray.size ⟨ys.toArray⟩) 0 e))) (Lib.bytesWorld w e ⟨ys.toArray⟩):=by
  simp only[cu,execOp,S.fr.ev (x:=x) (v:=str ys),Sem.run_bind,str];rw[hr];rfl
 simp only[e1,Oper.uponIn];have:=hp w.heap.size (grownCap w (ByteArray.size ⟨ys.toArray⟩) 0 e);have S':=S.put (d:=d) (v:=.slice (some ⟨w.heap.size,0,none⟩) ys.length (grownCap w (ByteArray.size ⟨ys.toArray⟩) 0 e));have hg:yB w (Lib.bytesWorld w e ⟨ys.toArray⟩):=⟨rfl,rfl,rfl,by rw[Lib.bytesWorld_size];omega,fun k hk _=>Lib.bytesWorld_at_old w e _ k hk⟩;have hO:=S'.wd.step hg;have S2:St w0 M0 ds _ _ _ bs fs:=⟨S'.slots,S'.defers,hO⟩;refine K _ _ _ _ (S2.add ?_);have hs:iE (some ⟨w.heap.size,0,none⟩) (aa ys) (Lib.bytesWorld w e ⟨ys.toArray⟩):=⟨nofun,fun ad had j u hu=>by
  cases had;have hj:j < ys.length:=by
   have:=(List.getElem?_eq_some_iff.1 hu).1;rw[aU]at this;have h2:ys.length*cX.sz UInt8=ys.length:=Nat.mul_one _;omega
  have h1:=Lib.bytesWorld_cell w e ⟨ys.toArray⟩ j hj;rw[Az,List.getElem?_map,List.getElem?_map,List.getElem?_eq_getElem hj]at hu;simp only[Option.map_some,Option.some.injEq]at hu;rw[show (⟨w.heap.size,0,none⟩:Addr).add j=⟨w.heap.size,j,none⟩ from by simp only[Addr.add,Nat.zero_add];split <;> simp_all,h1,←hu];simp[List.getD,List.getElem?_eq_getElem hj]⟩
 exact fun w' bP=>⟨hs.aO (fun ad had hm=>by
  cases had;obtain ⟨it,hi,hk⟩:=hm;exact absurd (S.wd.lt it hi _ hk) (Nat.lt_irrefl _)) w' bP,fun _ _=>trivial⟩
end
theorem MH (n:Int):yX 2 (IntKind.u64.wrap n).toNat=be 2 (IntKind.u16.wrap n):=by
 have h1:IntKind.u64.wrap n=n % 18446744073709551616:=by
  unfold IntKind.wrap;simp only[IntKind.bits,IntKind.signed,Bool.false_and];simp
 have h2:IntKind.u16.wrap n=n % 65536:=by
  unfold IntKind.wrap;simp only[IntKind.bits,IntKind.signed,Bool.false_and];simp
 have e:∀ x:Nat,∀ v:Int,(v / 256) % 256=((x / 256:Nat):Int) % 256→v % 256=(x:Int) % 256→yX 2 x=be 2 v:=fun x v h1 h2=>by
  show [mg x 2 0,mg x 2 1]=[Wk.u8 (v.fdiv 256),Wk.u8 (v.fdiv 1)]
  rw[mg,mg]
  show [Wk.u8 ((x / 256:Nat):Int),Wk.u8 ((x / 1:Nat):Int)]=_
  rw[Nat.div_one,Int.fdiv_one,Int.fdiv_eq_ediv_of_nonneg _ (by decide)];unfold Wk.u8;rw[h1,h2]
 rw[h1,h2];exact e _ _ (by omega) (by omega)
theorem Bz (n:Int):∃ x:Nat,IntKind.u64.wrap n=(x:Int)∧x < 18446744073709551616∧yX 2 x=be 2 (IntKind.u16.wrap n):=by
 have h1:IntKind.u64.wrap n=n % 18446744073709551616:=by
  unfold IntKind.wrap;simp only[IntKind.bits,IntKind.signed,Bool.false_and];simp
 exact ⟨(IntKind.u64.wrap n).toNat,by omega,by omega,MH n⟩
theorem JB (N:Nat):∀ (t:ak) (w0:World),SizeOf.sizeOf t≤N→(cn t.t).length≤100000000→Fx w0 (dc t)→
  aT prog 136 [vL t] w0 (fun _=>False) fun v w'=>
  ∃ (p':Option Addr) (c':Nat),v=.slice p' (cn t.t).length c'∧w'.ownsRow 0 5 1 (.slice p' (cn t.t).length c') (cn t.t).length (aa (cn t.t))∧∀ ad,p'=some ad→w0.heap.size≤ad.block:=by
 induction N with
 | zero=>intro t _ h;cases t;simp at h
 | succ N ih=>
 intro t w0 hN hbd hf;have hlen:=ak.pR hf;obtain ⟨-,-,f1,f2,f3⟩:=By t.kind;have e0:cn t.t=iY t.kind t.user t.num t.text++dP (t.kids.map ak.t):=by rw[t.mN,cn]
 have e1:iY t.kind t.user t.num t.text=[Wk.u8 t.kind]++(if t.kind=1 then Wk.u8 t.text.length::t.text else [])++(if jO t.kind then [Wk.u8 t.user] else [])++(if pV t.kind then be 2 (IntKind.u16.wrap t.num) else []):=by
  rw[iY,gR,jM,pW,f1,f2,f3];simp
 rw[e1]at e0;have hL:=congrArg List.length e0;simp only[List.length_append,List.length_singleton]at hL;refine E1 func136 rfl ntmps136 (Wd.begin (fs:=[dc t]) (by simpa using hf)) ?_;intro a S;refine kS (kR ?_);refine sa S ?_;intro b1 a w S;refine J8 ?_;intro a S;refine sn S ?_;intro b8 a w S;replace S:=S.bT b8 1 1 rfl (by decide);rw[show [Value.int .u8 (IntKind.u8.wrap t.kind)]=aa [Wk.u8 t.kind] from by rw[cF];rfl]at S;refine J3 ?_;intro a S;refine jX S (fun(s1:List UInt8) (p1:Option Addr) (c1:Nat) uu=>[(3,.slice p1 s1.length c1),(5,uu 9),(0,uu 10),(0,uu 11),(0,uu 12),(0,uu 13),(0,uu 14),(0,uu 15),(0,uu 16),(0,uu 17),(0,uu 18),(0,uu 19),(0,uu 20),(0,uu 21),(0,uu 22)]) (fun(s1:List UInt8) (p1:Option Addr) (c1:Nat)=>[Wk.row 5 1 p1 s1.length c1 (aa s1),Wk.box b1 43 t.cells]) (fun(s1:List UInt8) (p1:Option Addr) (c1:Nat)=>[dc t]) (fun(s1:List UInt8) (p1:Option Addr) (c1:Nat)=>s1=[Wk.u8 t.kind]++(if t.kind=1 then Wk.u8 t.text.length::t.text else [])) ?_ ?_
 ·refine J7 ?_;intro a S
  refine kC S (fun h2=>?_) (fun h2=>?_)
  ·have E5:t.kind=1:=of_decide_eq_true h2
   have Lc:t.text.length≤100000000:=by rw[if_pos E5]at hL;simp at hL;omega
   refine Ex (.q 0 (.q 1 (.q 2 (.q 3 (.q 4 (.q 7 (.q 8 (.b2 5 9 (.b2 6 9 (.l 9 (.l 10 (.q 11 (.e)))) (.l 6 (.l 10 (.q 11 (.e))))) (.l 5 (.l 6 (.l 10 (.q 11 (.e))))))))))))) S (fun(p6:Option Addr) (c6:Nat) uu=>[(3,.slice p6 (Wk.u8 t.kind::Wk.u8 t.text.length::t.text).length c6),(8,uu 12),(0,uu 13),(0,uu 14),(0,uu 15),(0,uu 16),(0,uu 17),(0,uu 18),(0,uu 19),(0,uu 20),(0,uu 21),(0,uu 22)]) [Wk.box b1 43 t.cells] (fun(p6:Option Addr) (c6:Nat)=>[Wk.row 5 1 p6 (Wk.u8 t.kind::Wk.u8 t.text.length::t.text).length c6 (aa (Wk.u8 t.kind::Wk.u8 t.text.length::t.text)),Wk.box b1 43 t.cells]) (fun(p6:Option Addr) (c6:Nat)=>[dc t]) (fun(p6:Option Addr) (c6:Nat)=>True) ?_ ?_
   ·intro w S
    (iterate 7 (refine tq S ?_;intro a S));refine Hp ?_ ?_
    ·refine sn S ?_;intro fz a w S;refine te S ?_
     refine Hp ?_ ?_
     ·refine gA S (by simp[maxLen]) (by decide) ?_;rintro p3 c3 a w - S
      rw[show aa [Wk.u8 t.kind]++[Value.int .u8 (IntKind.u8.wrap (t.text.length:Int))]=aa [Wk.u8 t.kind,Wk.u8 t.text.length] from by rw[cF];rfl]at S;refine te S ?_;refine tl ?_;refine Qc S ?_;intro b4 c4 a w S;refine te S ?_;refine tl ?_;refine jU S (vb [Wk.u8 t.kind,Wk.u8 t.text.length] t.text p3 (some ⟨b4,0,none⟩) 2 t.text.length c3 c4 _ rfl rfl (by omega) (gJ (S.row p3 2) (fun _ _ _ _=>trivial) (fun _ _ h=>h)) (S.j9 _)) ?_;rintro _ a w ⟨p5,c5,rfl,hown,hnew⟩ hS -;have S:=hS hown hnew;clear hS;rw[show [Wk.u8 t.kind,Wk.u8 t.text.length]++t.text=Wk.u8 t.kind::Wk.u8 t.text.length::t.text from rfl]at S;refine te S ?_;refine tq S ?_;intro a S;refine tn ?_;exact ⟨p5,c5,S.uu,trivial,S.sub _ _⟩
     ·refine Qc S ?_;intro b4 c4 a w S;refine te S ?_;refine tl ?_
      refine gA S (by simp[maxLen]) (by decide) ?_;rintro p3 c3 a w - S;rw[show aa [Wk.u8 t.kind]++[Value.int .u8 (IntKind.u8.wrap (t.text.length:Int))]=aa [Wk.u8 t.kind,Wk.u8 t.text.length] from by rw[cF];rfl]at S;refine te S ?_;refine tl ?_;refine jU S (vb [Wk.u8 t.kind,Wk.u8 t.text.length] t.text p3 (some ⟨b4,0,none⟩) 2 t.text.length c3 c4 _ rfl rfl (by omega) (gJ (S.row p3 2) (fun _ _ _ _=>trivial) (fun _ _ h=>h)) (S.j9 _)) ?_;rintro _ a w ⟨p5,c5,rfl,hown,hnew⟩ hS -;have S:=hS hown hnew;clear hS;rw[show [Wk.u8 t.kind,Wk.u8 t.text.length]++t.text=Wk.u8 t.kind::Wk.u8 t.text.length::t.text from rfl]at S;refine te S ?_;refine tq S ?_;intro a S;refine tn ?_;exact ⟨p5,c5,S.uu,trivial,S.sub _ _⟩
    ·refine Qc S ?_;intro b4 c4 a w S;refine te S ?_;refine tl (sn S ?_);intro fz a w S;refine te S ?_;refine tl ?_
     refine gA S (by simp[maxLen]) (by decide) ?_;rintro p3 c3 a w - S;rw[show aa [Wk.u8 t.kind]++[Value.int .u8 (IntKind.u8.wrap (t.text.length:Int))]=aa [Wk.u8 t.kind,Wk.u8 t.text.length] from by rw[cF];rfl]at S;refine te S ?_;refine tl ?_;refine jU S (vb [Wk.u8 t.kind,Wk.u8 t.text.length] t.text p3 (some ⟨b4,0,none⟩) 2 t.text.length c3 c4 _ rfl rfl (by omega) (gJ (S.row p3 2) (fun _ _ _ _=>trivial) (fun _ _ h=>h)) (S.j9 _)) ?_;rintro _ a w ⟨p5,c5,rfl,hown,hnew⟩ hS -;have S:=hS hown hnew;clear hS;rw[show [Wk.u8 t.kind,Wk.u8 t.text.length]++t.text=Wk.u8 t.kind::Wk.u8 t.text.length::t.text from rfl]at S;refine te S ?_;refine tq S ?_;intro a S;refine tn ?_;exact ⟨p5,c5,S.uu,trivial,S.sub _ _⟩
   clear S;rintro p6 c6 uu a w - S;refine aQ ?_;exact ⟨_,p6,c6,S.uu,by rw[if_pos E5];rfl,S.sub _ _⟩
  ·refine kK (aQ ?_)
   have E5:¬t.kind=1:=of_decide_eq_false h2;exact ⟨[Wk.u8 t.kind],_,_,S.uu,by rw[if_neg E5];rfl,S.sub _ _⟩
 ·clear S;rintro s1 p1 c1 uu a w dZ S
  have hs1b:s1.length≤100000010:=by
   by_cases h:t.kind=1
   ·rw[if_pos h]at dZ hL;simp at hL;rw[dZ];simp;omega
   ·rw[if_neg h]at dZ;rw[dZ];simp
  refine jX S (fun(s2:List UInt8) (Oy:Option Addr) (Qd:Nat) uu=>[(3,.slice Oy s2.length Qd),(19,uu 23),(0,uu 24),(0,uu 25),(0,uu 26),(0,uu 27),(0,uu 28),(0,uu 29),(0,uu 30),(0,uu 31)]) (fun(s2:List UInt8) (Oy:Option Addr) (Qd:Nat)=>[Wk.row 5 1 Oy s2.length Qd (aa s2),Wk.box b1 43 t.cells]) (fun(s2:List UInt8) (Oy:Option Addr) (Qd:Nat)=>[dc t]) (fun(s2:List UInt8) (Oy:Option Addr) (Qd:Nat)=>s2=s1++(if jO t.kind then [Wk.u8 t.user] else [])) ?_ ?_
  ·refine Y7 ?_;intro a w S
   refine kC S (fun h4=>?_) (fun h4=>?_)
   ·refine J5 ?_;intro a S;refine sn S ?_;intro b30 a w S
    refine gA S (by simp[maxLen];omega) (by omega) ?_;rintro p5 c5 a w - S;rw[show aa s1++[Value.int .u8 (IntKind.u8.wrap t.user)]=aa (s1++[Wk.u8 t.user]) from by rw[aC,cF];rfl,show s1.length+1=(s1++[Wk.u8 t.user]).length from by simp]at S;refine J3 ?_;intro a S;exact ⟨_,p5,c5,S.uu,by rw[if_pos h4],S.sub _ _⟩
   ·refine kK (aQ ?_)
    exact ⟨_,_,_,S.uu,by rw[if_neg (by rw[h4];simp),List.append_nil],S.sub _ _⟩
  ·clear S;rintro s2 Oy Qd uu a w j0 S
   have hs2b:s2.length≤100000020:=by rw[j0,List.length_append];split <;> simp <;> omega
   refine jX S (fun(s3:List UInt8) (Qe:Option Addr) (wW:Nat) uu=>[(3,.slice Qe s3.length wW),(28,uu 32),(0,uu 33),(0,uu 34),(0,uu 35),(0,uu 36),(0,uu 37),(0,uu 38),(0,uu 39),(0,uu 40)]) (fun(s3:List UInt8) (Qe:Option Addr) (wW:Nat)=>[Wk.row 5 1 Qe s3.length wW (aa s3),Wk.box b1 43 t.cells]) (fun(s3:List UInt8) (Qe:Option Addr) (wW:Nat)=>[dc t]) (fun(s3:List UInt8) (Qe:Option Addr) (wW:Nat)=>s3=s2++(if pV t.kind then be 2 (IntKind.u16.wrap t.num) else [])) ?_ ?_
   ·refine Y7 ?_;intro a w S
    refine kC S (fun h6=>?_) (fun h6=>?_)
    ·refine J4 ?_;intro a S
     obtain ⟨x7,RU,Qf,Qg⟩:=Bz t.num;refine J1 ?_;intro a S;rw[RU]at S;refine jU S (yZ x7 2 _ Qf (by decide)) ?_;rintro _ a w ⟨p7,c7,rfl,hown,hnew⟩ hS -;have S:=hS hown hnew;clear hS;rw[Qg,bI]at S;refine jU S (vb s2 (be 2 (IntKind.u16.wrap t.num)) Oy p7 s2.length 2 Qd c7 _ rfl (bI _ _) (by omega) (gJ (S.row Oy s2.length) (fun _ _ _ _=>trivial) (fun _ _ h=>h)) (gJ (S.row p7 2) (fun _ _ _ _=>trivial) (fun _ _ h=>h))) ?_;rintro _ a w ⟨p8,c8,rfl,hown,hnew⟩ hS -;have S:=hS hown hnew;clear hS;refine J3 ?_;intro a S;exact ⟨_,p8,c8,S.uu,by rw[if_pos h6],S.sub [Wk.row 5 1 p8 _ c8 _,Wk.box b1 43 t.cells] _⟩
    ·refine kK (aQ ?_)
     exact ⟨_,_,_,S.uu,by rw[if_neg (by rw[h6];simp),List.append_nil],S.sub _ _⟩
   ·clear S;rintro s3 Qe wW uu a w Le S;refine kS (kS (kR ?_))
    have T4:cn t.t=s3++dP (t.kids.map ak.t):=by rw[e0,Le,j0,dZ]
    have hs3b:s3.length≤100000000:=by rw[T4,List.length_append]at hbd;omega
    refine J4 ?_;intro a S;refine dI S (fun(k:Nat) (b:List UInt8) (p':Option Addr) (c':Nat) uu=>[(3,.slice p' b.length c'),(0,.int .i64 (k:Nat)),(36,uu 41),(0,uu 42),(0,uu 43),(0,uu 44),(0,uu 45),(0,uu 46),(0,uu 47),(0,uu 48),(0,uu 49),(0,uu 50),(0,uu 51),(0,uu 52),(0,uu 53),(0,uu 54),(0,uu 55)]) (fun(k:Nat) (b:List UInt8) (p':Option Addr) (c':Nat)=>[Wk.row 5 1 p' b.length c' (aa b),Wk.box b1 43 t.cells]) (fun(k:Nat) (b:List UInt8) (p':Option Addr) (c':Nat)=>[dc t]) (fun(k:Nat) (b:List UInt8) (p':Option Addr) (c':Nat)=>k≤t.kids.length∧b++dP ((t.kids.drop k).map ak.t)=cn t.t) (fun(k:Nat) (b:List UInt8) (p':Option Addr) (c':Nat)=>t.kids.length - k) (0) (s3) (Qe) (wW) ?_ S.uu ?_ ?_
    ·exact ⟨Nat.zero_le _,T4.symm⟩
    ·first | exact S | exact S.sub _ _
    ·clear S;rintro k b p' c' uu a w ⟨hk,aI⟩ S
     refine mJ ?_;intro a S;refine kC S (fun h9=>?_) (fun h9=>?_)
     ·refine kK (aQ (kS (kB ?_)))
      have bn:k < t.kids.length:=by simpa using h9
      have hK:cx k t.kids.length:=⟨bn⟩;rw[js bn,List.map_cons,dP]at aI;have wH:=congrArg List.length aI;simp only[List.length_append]at wH;refine J7 ?_;intro a S;refine jU S (ih (gP t.kids k) w (by have:=ak.lH (fC bn);omega) (by omega) (S.t0 _)) ?_;rintro _ a w ⟨p9,c9,rfl,hown,hnew⟩ hS -;have S:=hS hown hnew;clear hS;refine jU S (vb b (cn (gP t.kids k).t) p' p9 b.length _ c' c9 _ rfl rfl (by omega) (gJ (S.row p' b.length) (fun _ _ _ _=>trivial) (fun _ _ h=>h)) (gJ (S.row p9 (cn (gP t.kids k).t).length) (fun _ _ _ _=>trivial) (fun _ _ h=>h))) ?_;rintro _ a w ⟨Iu,K_,rfl,hown,hnew⟩ hS -;have S:=hS hown hnew;clear hS;refine J7 ?_;intro a S;rw[w6 ((k:Int)+1),show (k:Int)+1=((k+1:Nat):Int) from rfl]at S;refine J3 ?_;intro a S;exact ⟨k+1,_,Iu,K_,S.uu,⟨bn,by rw[List.append_assoc];exact aI⟩,S.sub [Wk.row 5 1 Iu _ K_ _,Wk.box b1 43 t.cells] _,by omega⟩
     ·refine jq ?_;intro a S
      have hk2:t.kids.length≤k:=by simpa using h9
      rw[List.drop_of_length_le hk2,List.map_nil,dP,List.append_nil]at aI;subst aI;have hrow:=S.row p' (cn t.t).length;have hnew:=S.cQ p' (cn t.t).length;exact aD S (fun _=>⟨p',c',rfl,hrow,fun ad h=>(hnew ad h).elim (fun h=>h.elim) id⟩)
theorem mB {w:World}{e:TypeId}{sz:Nat}{p:Option Addr}{n c:Nat}{xs:List Value}(h:w.ownsRow 0 e sz (.slice p n c) n xs):c≤maxLen:=by
 rcases h.2 with ⟨hv,h0⟩ | ⟨g,cap,cur,hv,hb,hg,hnc,nM,hcs,ht⟩
 cases hv;exact Nat.zero_le _;cases hv;exact nM
def Zh (Mr:Nat→Prop)(h rd m left:Nat)(r:RS)(v:Value)(w:World):Prop:=∃ (z:ak) (left':Nat) (r':RS),v=vL z∧iq m left r.bs=.ok (z.t,left',r'.bs)∧left'≤left∧r'.why=0∧cK r r'∧
 (xX h rd (left':Nat) r').holds w∧ag (fun k=>(xX h rd (left':Nat) r').aj k∨Mr k) w (dc z)
def T5 (m left:Nat)(r:RS)(ch:List PanicEntry):Prop:=∃ e,ch=Hq (sj e)∧iq m left r.bs=.error e
theorem JC (N:Nat):∀ (m h rd left:Nat) (r:RS) (Mr:Nat→Prop) (w0:World),m < N→m≤60→left≤1200→r.why=0→r.bs.length≤r.c→r.bs.length≤10000000→(∀ k,Mr k→k < w0.heap.size∧¬(xX h rd (left:Nat) r).aj k)→(xX h rd (left:Nat) r).holds w0→ag (fun k=>(xX h rd (left:Nat) r).aj k∨Mr k) w0 (av r.p r.bs)→
  LR prog 169 [.pointer (some ⟨h,0,none⟩),.int .i64 (61 - (m:Nat):Int)] w0 (xX h rd (left:Nat) r).aj (fun v w'=>Zh Mr h rd m left r v w') (fun ch _=>T5 m left r ch):=by
 induction N with
 | zero=>intro m _ _ _ _ _ _ h;exact absurd h (Nat.not_lt_zero _)
 | succ N ih=>
 intro m h rd left r Mr w0 hmN hm hleft hw hc hl jI hd hf;refine E1 func169 rfl ntmps169 (Wd.nR (x:=Cw h rd (left:Nat)) (y:=bw rd r) (Mr:=Mr) (fs:=[av r.p r.bs]) hd rfl rfl jI (by simpa using hf)) ?_;intro a S;refine kS (kR ?_);refine sa S ?_;intro b4 a w S;refine J8 ?_;intro a S;refine cM (bw rd r) S (sV rd r _ hc hl (S.it (bw rd r)) (S.bU (bw rd r) (S.mem.fact (av r.p r.bs)))) rfl ?_;rintro _ a w ⟨rfl,hh⟩ hS;have S:=hS (bw rd (ai r 1)) hh (fun k h=>.inl h);clear hS;obtain ⟨kd,MI⟩:∃ kd,kd=aV (aM r 1) 0:=⟨_,rfl⟩;rw[←MI]at S;have bn:kd < 256:=by rw[MI];exact (ck r 1 (by decide)).2
 refine J1 ?_;intro a S;rw[w6 (kd:Int)]at S;refine J1 ?_;intro a S;refine sa S ?_;intro b5 a w S;refine Y18 ?_;intro a w S;rw[w6 ((left:Int) - 1)]at S;replace S:=S.add (Φ:=av (ai r 1).p (ai r 1).bs) (cj hc (S.mem.fact (av r.p r.bs)));have E_:cK r (ai r 1):=cK.take r 1;refine sP ?_;intro a w S;refine J1 ?_;intro a S;refine SS S (rj h rd ((left:Int) - 1) (ai r 1) _ w (az.aO (S.box h) (fun h=>h)) (az.aO (S.box rd) (fun h=>h))) (fun ch w' hx S=>?_) ?_
 ·repeat (first | refine RT ?_ | refine Ov ?_)
  refine CU S ?_;obtain ⟨e,rfl,(⟨h1,rfl⟩ | ⟨h1,h2,rfl⟩)⟩:=hx
  ·exact ⟨7,rfl,by rw[sk hw h1,nX]⟩
  ·obtain ⟨c,t,Mm,JD,Av⟩:=mA hw h1
   refine ⟨150,rfl,?_⟩;rw[Mm,gV,if_pos];rw[MI,JD]at h2;simp only[Bool.and_eq_false_iff,Bool.not_eq_false',decide_eq_true_eq,decide_eq_false_iff_not]at h2;omega
 clear S;rintro _ a w ⟨hw1,hb⟩ S;obtain ⟨c,t,Mm,JD,Av⟩:=mA hw hw1;rw[←MI]at JD;simp only[Bool.and_eq_true,Bool.not_eq_true',decide_eq_true_eq,decide_eq_false_iff_not]at hb;have ji:iq m left r.bs=o9 (iq (m - 1)) left (kd:Int) t:=by
  rw[Mm,gV,if_neg (by rw[←JD];omega),←JD]
 obtain ⟨r1,Zi⟩:∃ r1,r1=ai r 1:=⟨_,rfl⟩;rw[←Zi]at S hw1 Av E_;have lR:=E_.cap hc;have nw:=E_.len;refine kN (aQ ?_);refine lq S (fun(r2:RS) (s:List UInt8) uu=>[(7,uu 7),(32,uu 40),(0,uu 41),(0,uu 42),(0,uu 43),(0,uu 44),(0,uu 45),(0,uu 46),(0,uu 47),(0,uu 48),(0,uu 49),(0,uu 50),(0,uu 51),(0,uu 52),(0,uu 53),(0,uu 54),(0,uu 55),(0,uu 56),(0,uu 57),(0,uu 58),(0,uu 59),(0,uu 60),(0,uu 61)]) (fun(r2:RS) (s:List UInt8)=>[Wk.box b5 43 [.int .i64 kd,.int .i64 0,.int .i64 0,str s,.slice none 0 0],Cw h rd ((left:Int) - 1),bw rd r2,Wk.box b4 43 [.int .i64 0,.int .i64 0,.int .i64 0,.string ⟨#[]⟩,.slice none 0 0],ext Mr]) (fun(r2:RS) (s:List UInt8)=>[av r2.p r2.bs]) (fun(r2:RS) (s:List UInt8)=>gz (kd:Int) t=.ok (s,r2.bs)∧r2.why=0∧cK r1 r2) ?_ ?_
 ·refine Y6 ?_;intro a w S
  refine kC S (fun h5=>?_) (fun h5=>?_)
  ·refine J6 ?_;intro a S
   refine cM (bw rd r1) S (sV rd r1 _ lR (by omega) (S.it (bw rd r1)) (S.bU (bw rd r1) (S.mem.fact (av r1.p r1.bs)))) rfl ?_;rintro _ a w ⟨rfl,hh⟩ hS;have S:=hS (bw rd (ai r1 1)) hh (fun k h=>.inl h);clear hS;obtain ⟨nn,sC⟩:∃ nn,nn=aV (aM r1 1) 0:=⟨_,rfl⟩;rw[←sC]at S;have xD:nn < 256:=by rw[sC];exact (ck r1 1 (by decide)).2
   replace S:=S.add (Φ:=av (ai r1 1).p (ai r1 1).bs) (cj lR (S.mem.fact (av r1.p r1.bs)));refine J1 ?_;intro a S;rw[w6 (nn:Int)]at S;refine J8 ?_;intro a S;refine SS S (rj h rd ((left:Int) - 1) (ai r1 1) _ w (az.aO (S.box h) (fun h=>h)) (az.aO (S.box rd) (fun h=>h))) (fun ch w' hx S=>?_) ?_
   ·repeat (first | refine RT ?_ | refine Ov ?_)
    refine CU S ?_;obtain ⟨e,rfl,(⟨h1,rfl⟩ | ⟨h1,h2,rfl⟩)⟩:=hx
    ·refine ⟨7,rfl,?_⟩
     rw[ji,←Av,sk hw1 h1];exact kg (so h5)
    ·obtain ⟨c2,t2,xR,hn2,-⟩:=mA hw1 h1
     refine ⟨150,rfl,?_⟩;rw[ji,←Av,xR];refine kg (qk h5 ?_);have:=of_decide_eq_false h2;omega
   clear S;rintro _ a w ⟨MJ,Vp⟩ S;obtain ⟨c2,t2,xR,hn2,E6⟩:=mA hw1 MJ;rw[←sC]at hn2;have Vp:=of_decide_eq_true Vp;obtain ⟨tj,T6⟩:∃ tj,tj=ai r1 1:=⟨_,rfl⟩;have Dw:cK r1 tj:=T6▸cK.take r1 1;rw[←T6]at S MJ E6;have T7:=Dw.cap lR;have hl1b:=Dw.len;refine J9 ?_;intro a S;refine cM (bw rd tj) S (C5 rd tj nn _ (by omega) T7 (by omega) (S.it (bw rd tj)) (S.bU (bw rd tj) (S.mem.fact (av tj.p tj.bs)))) rfl ?_;rintro _ a w ⟨p8,c8,rfl,hh,hf8⟩ hS;have S:=hS (both (Wk.row 5 1 p8 (aM tj nn).length c8 (aa (aM tj nn))) (bw rd (ai tj nn))) hh hf8;clear hS;replace S:=S.front (both (Wk.row 5 1 p8 (aM tj nn).length c8 (aa (aM tj nn))) (bw rd (ai tj nn)));replace S:=S.aP;replace S:=S.add (Φ:=av (ai tj nn).p (ai tj nn).bs) (cj T7 (S.mem.fact (av tj.p tj.bs)));refine Y7 ?_;intro a w S;refine SS S (rj h rd ((left:Int) - 1) (ai tj nn) _ w (az.aO (S.box h) (fun h=>h)) (az.aO (S.box rd) (fun h=>h))) (fun ch w' hx S=>?_) ?_
   ·repeat (first | refine RT ?_ | refine Ov ?_)
    refine CU S ?_;obtain ⟨e,rfl,(⟨h1,rfl⟩ | ⟨h1,h2,rfl⟩)⟩:=hx
    ·refine ⟨7,rfl,?_⟩
     have hsh:=Bs MJ h1;rw[ji,←Av,xR];refine kg (od h5 (by omega) ?_);rw[←E6,←hn2];exact hsh
    ·cases h2
   clear S;rintro _ a w ⟨T8,-⟩ S;obtain ⟨q1,q2,q3⟩:=E8 MJ T8;refine kN (aQ ?_);replace S:=((((S.front (ext Mr)).front (Wk.box b4 43 [.int .i64 0,.int .i64 0,.int .i64 0,.string ⟨#[]⟩,.slice none 0 0])).front (bw rd (ai tj nn))).front (Cw h rd ((left:Int) - 1))).front (Wk.box b5 43 [.int .i64 kd,.int .i64 0,.int .i64 0,str (aM tj nn),.slice none 0 0]);refine ⟨ai tj nn,aM tj nn,S.uu,⟨?_,T8,Dw.trans (cK.take tj nn)⟩,S.sub _ _⟩;rw[←Av,xR,rm h5 (by omega) (by rw[←E6,←hn2];omega),q2,q3,←E6,←hn2]
  ·refine kK (aQ ?_)
   rw[show (Value.string ⟨#[]⟩)=str [] from rfl]at S;replace S:=((((S.front (ext Mr)).front (Wk.box b4 43 [.int .i64 0,.int .i64 0,.int .i64 0,str [],.slice none 0 0])).front (bw rd r1)).front (Cw h rd ((left:Int) - 1))).front (Wk.box b5 43 [.int .i64 kd,.int .i64 0,.int .i64 0,str [],.slice none 0 0]);exact ⟨r1,[],S.uu,⟨by rw[←Av];exact m7 h5,hw1,cK.refl r1⟩,S.sub _ _⟩
 ·clear S;rintro r2 s uu a w ⟨JE,wJ,xT⟩ S
  have Ak:=xT.cap lR;have rU:=xT.len;refine lq S (fun(r3:RS) (u:Int) uu=>[(62,uu 62),(0,uu 63),(0,uu 64),(0,uu 65),(0,uu 66),(0,uu 67),(0,uu 68),(0,uu 69),(0,uu 70),(0,uu 71),(0,uu 72),(0,uu 73),(0,uu 74),(0,uu 75)]) (fun(r3:RS) (u:Int)=>[Wk.box b5 43 [.int .i64 kd,.int .i64 u,.int .i64 0,str s,.slice none 0 0],Cw h rd ((left:Int) - 1),bw rd r3,Wk.box b4 43 [.int .i64 0,.int .i64 0,.int .i64 0,.string ⟨#[]⟩,.slice none 0 0],ext Mr]) (fun(r3:RS) (u:Int)=>[av r3.p r3.bs]) (fun(r3:RS) (u:Int)=>h_ (kd:Int) r2.bs=.ok (u,r3.bs)∧r3.why=0∧cK r2 r3) ?_ ?_
  ·refine Y6 ?_;intro a w S
   refine kC S (fun gi=>?_) (fun gi=>?_)
   ·refine J6 ?_;intro a S
    refine cM (bw rd r2) S (sV rd r2 _ Ak (by omega) (S.it (bw rd r2)) (S.bU (bw rd r2) (S.mem.fact (av r2.p r2.bs)))) rfl ?_;rintro _ a w ⟨rfl,hh⟩ hS;have S:=hS (bw rd (ai r2 1)) hh (fun k h=>.inl h);clear hS;obtain ⟨RV,Zj⟩:∃ RV,RV=aV (aM r2 1) 0:=⟨_,rfl⟩;rw[←Zj]at S;have hul:RV < 256:=by rw[Zj];exact (ck r2 1 (by decide)).2
    replace S:=S.add (Φ:=av (ai r2 1).p (ai r2 1).bs) (cj Ak (S.mem.fact (av r2.p r2.bs)));refine J1 ?_;intro a S;rw[w6 (RV:Int)]at S;refine Y9 ?_;intro a w S;refine SS S (rj h rd ((left:Int) - 1) (ai r2 1) _ w (az.aO (S.box h) (fun h=>h)) (az.aO (S.box rd) (fun h=>h))) (fun ch w' hx S=>?_) ?_
    ·repeat (first | refine RT ?_ | refine Ov ?_)
     refine CU S ?_;obtain ⟨e,rfl,(⟨h1,rfl⟩ | ⟨h1,h2,rfl⟩)⟩:=hx
     ·refine ⟨7,rfl,?_⟩
      rw[ji];refine oV JE ?_;rw[sk wJ h1];exact su gi
     ·obtain ⟨c3,t3,zC,Cu,-⟩:=mA wJ h1
      refine ⟨150,rfl,?_⟩;rw[ji];refine oV JE ?_;rw[zC];refine sx gi ?_;simp only[bX,Bool.and_eq_false_iff,decide_eq_false_iff_not]at h2;omega
    clear S;rintro _ a w ⟨T_,zC⟩ S;obtain ⟨c3,t3,Zk,Cu,Ua⟩:=mA wJ T_;rw[←Zj]at Cu;simp only[bX,Bool.and_eq_true,decide_eq_true_eq]at zC;refine kN (aQ ?_);replace S:=((((S.front (ext Mr)).front (Wk.box b4 43 [.int .i64 0,.int .i64 0,.int .i64 0,.string ⟨#[]⟩,.slice none 0 0])).front (bw rd (ai r2 1))).front (Cw h rd ((left:Int) - 1))).front (Wk.box b5 43 [.int .i64 kd,.int .i64 (RV:Int),.int .i64 0,str s,.slice none 0 0]);refine ⟨ai r2 1,(RV:Int),S.uu,⟨?_,T_,cK.take r2 1⟩,S.sub _ _⟩;rw[Zk,rq gi (by omega),Ua,Cu]
   ·refine kK (aQ ?_)
    exact ⟨r2,0,S.uu,⟨m8 gi,wJ,cK.refl r2⟩,S.sub _ _⟩
  ·clear S;rintro r3 u uu a w ⟨JF,Zl,JG⟩ S
   have Ub:=JG.cap Ak;have LY:=JG.len;refine lq S (fun(r4:RS) (n:Int) uu=>[(76,uu 76),(0,uu 77),(0,uu 78),(0,uu 79),(0,uu 80),(0,uu 81),(0,uu 82),(0,uu 83),(0,uu 84),(0,uu 85),(0,uu 86)]) (fun(r4:RS) (n:Int)=>[Wk.box b5 43 [.int .i64 kd,.int .i64 u,.int .i64 n,str s,.slice none 0 0],Cw h rd ((left:Int) - 1),bw rd r4,Wk.box b4 43 [.int .i64 0,.int .i64 0,.int .i64 0,.string ⟨#[]⟩,.slice none 0 0],ext Mr]) (fun(r4:RS) (n:Int)=>[av r4.p r4.bs]) (fun(r4:RS) (n:Int)=>nG (kd:Int) r3.bs=.ok (n,r4.bs)∧r4.why=0∧cK r3 r4) ?_ ?_
   ·refine Y6 ?_;intro a w S
    refine kC S (fun Ah=>?_) (fun Ah=>?_)
    ·refine J6 ?_;intro a S
     refine cM (bw rd r3) S (hH rd r3 _ Ub (by omega) (S.it (bw rd r3)) (S.bU (bw rd r3) (S.mem.fact (av r3.p r3.bs)))) rfl ?_;rintro _ a w ⟨rfl,hh⟩ hS;have S:=hS (bw rd (ai r3 2)) hh (fun k h=>.inl h);clear hS;obtain ⟨n2,hn2⟩:∃ n2,n2=aV (aM r3 2) 0:=⟨_,rfl⟩;rw[←hn2]at S;have Qh:n2 < 65536:=by rw[hn2];exact (ck r3 2 (by decide)).2
     replace S:=S.add (Φ:=av (ai r3 2).p (ai r3 2).bs) (cj Ub (S.mem.fact (av r3.p r3.bs)));refine J1 ?_;intro a S;rw[w6 (n2:Int)]at S;refine Y6 ?_;intro a w S;refine SS S (rj h rd ((left:Int) - 1) (ai r3 2) _ w (az.aO (S.box h) (fun h=>h)) (az.aO (S.box rd) (fun h=>h))) (fun ch w' hx S=>?_) ?_
     ·repeat (first | refine RT ?_ | refine Ov ?_)
      refine CU S ?_;obtain ⟨e,rfl,(⟨h1,rfl⟩ | ⟨h1,h2,rfl⟩)⟩:=hx
      ·refine ⟨7,rfl,?_⟩
       rw[ji];refine Bu JE JF ?_;exact ru Ah (Bs Zl h1)
      ·cases h2
     clear S;rintro _ a w ⟨Uc,-⟩ S;obtain ⟨q1,q2,q3⟩:=E8 Zl Uc;refine kN (aQ ?_);replace S:=((((S.front (ext Mr)).front (Wk.box b4 43 [.int .i64 0,.int .i64 0,.int .i64 0,.string ⟨#[]⟩,.slice none 0 0])).front (bw rd (ai r3 2))).front (Cw h rd ((left:Int) - 1))).front (Wk.box b5 43 [.int .i64 kd,.int .i64 u,.int .i64 (n2:Int),str s,.slice none 0 0]);refine ⟨ai r3 2,(n2:Int),S.uu,⟨?_,Uc,cK.take r3 2⟩,S.sub _ _⟩;rw[tY Ah (by omega),q3,hn2,q2]
    ·refine kK (aQ ?_)
     exact ⟨r3,0,S.uu,⟨oW Ah,Zl,cK.refl r3⟩,S.sub _ _⟩
   ·clear S;rintro r4 n uu a w ⟨N_,hw4,JH⟩ S
    refine J4 ?_;intro a S;have hc4:=JH.cap Ub;have hl4:=JH.len;obtain ⟨hkn,hkn2⟩:=sA (kd:Int);refine sr S (HL (fieldsOf (kd:Int)) _) ?_;rintro _ a w rfl S;rw[hkn,show (left:Int) - 1=((left - 1:Nat):Int) from by omega]at S;refine J4 ?_;intro a S;refine tO S (fun(k:Nat) (zs:List ak) (r5:RS) (lf:Nat) (p5:Option Addr) (c5:Nat) uu=>[(89,.int .i64 (k:Nat)),(0,uu 90),(0,uu 91),(0,uu 92),(0,uu 93),(0,uu 94),(0,uu 95),(0,uu 96),(0,uu 97),(0,uu 98),(0,uu 99),(0,uu 100)]) (fun(k:Nat) (zs:List ak) (r5:RS) (lf:Nat) (p5:Option Addr) (c5:Nat)=>[Wk.box b5 43 [.int .i64 kd,.int .i64 u,.int .i64 n,str s,.slice p5 k c5],Wk.row 43 5 p5 k c5 (aa zs),Cw h rd (lf:Nat),bw rd r5,Wk.box b4 43 [.int .i64 0,.int .i64 0,.int .i64 0,.string ⟨#[]⟩,.slice none 0 0],ext Mr]) (fun(k:Nat) (zs:List ak) (r5:RS) (lf:Nat) (p5:Option Addr) (c5:Nat)=>[dA zs,av r5.p r5.bs]) (fun(k:Nat) (zs:List ak) (r5:RS) (lf:Nat) (p5:Option Addr) (c5:Nat)=>k=zs.length∧k≤fL (kd:Int)∧lf≤left - 1∧r5.why=0∧cK r4 r5∧e8 (iq (m - 1)) (fL (kd:Int)) (left - 1) r4.bs=w4 (zs.map ak.t) (e8 (iq (m - 1)) (fL (kd:Int) - k) lf r5.bs)) (fun(k:Nat) (zs:List ak) (r5:RS) (lf:Nat) (p5:Option Addr) (c5:Nat)=>fL (kd:Int) - k) (0) ([]) (r4) (left - 1) (none) (0) ?_ S.uu ?_ ?_
    ·exact ⟨rfl,Nat.zero_le _,Nat.le_refl _,hw4,cK.refl r4,(Bt _).symm⟩
    ·replace S:=S.cP 43 5
     replace S:=S.add (Φ:=dA []) (fun _ _ _ hx=>by cases hx);rw[show Wk.row 43 5 none 0 0 []=Wk.row 43 5 none 0 0 (aa ([]:List ak)) from rfl]at S;exact S.front (Wk.box b5 43 [.int .i64 kd,.int .i64 u,.int .i64 n,str s,.slice none 0 0])
    ·clear S;rintro k zs r5 lf p5 c5 uu a w ⟨MK,hk,hlf,hw5,Fa,Qi⟩ S
     refine J6 ?_;intro a S;refine kC S (fun Hu=>?_) (fun Hu=>?_)
     ·refine kK (aQ (kS (kB ?_)))
      have bn:k < fL (kd:Int):=by simp at Hu;omega
      have hc5:=Fa.cap hc4;have hl5:=Fa.len;have hkk:fL (kd:Int) - k=(fL (kd:Int) - (k+1))+1:=by omega
      refine Jv 9 [T9 0,T9 1,T9 2,T9 3,T9 4,F9 5,F9 6,F9 7,T9 8,F9 9] [Wk.box b5 43 [.int .i64 kd,.int .i64 u,.int .i64 n,str s,.slice p5 k c5]] (⟨[],[],fun ch w=>aJ (xX h rd (left:Nat) r).aj w0 w∧T5 m left r ch⟩) S (fun ch a w ⟨_,hd,ha,hx⟩=>by repeat (first | refine RT ?_ | refine Ov ?_);exact ⟨hd,.inr ⟨ch,rfl,ha,hx⟩⟩) ?_;intro w S;(iterate 5 (refine TZ S ?_;intro a S));rw[w6 ((61:Int) - (m:Nat)+1),show (61:Int) - (m:Nat)+1=61 - ((m - 1:Nat):Int) from by omega]at S;refine MF ?_;replace S:=((S.front (bw rd r5)).front (Cw h rd (lf:Nat))).aL;refine Ow (xX h rd (lf:Nat) r5) S (ih (m - 1) h rd lf r5 (c_ _ (xX h rd (lf:Nat) r5)) w (by omega) (by omega) (by omega) hw5 hc5 (by omega) (S.dM _) (S.it (xX h rd (lf:Nat) r5)) ((S.mem.fact (av r5.p r5.bs)).split (xX h rd (lf:Nat) r5))) rfl (fun ch w' hx hS=>?_) ?_
      ·obtain ⟨e,rfl,he⟩:=hx
       have S:=hS (bs':=_);refine XP.of S (by simp) rfl ⟨S.wd.agree,e,rfl,?_⟩;rw[ji];refine xZ JE JF N_ ?_;rw[Qi,hkk];exact xY _ _ _ _ _ _ he
      clear S;rintro _ a w ⟨z,V8,r6,rfl,Qj,Sw,hw6,BA,Qk,hz⟩ hS;have S:=hS (xX h rd (V8:Nat) r6) [dc z] Qk (fun k h=>.inl h) (by simp only[List.mem_cons,List.not_mem_nil,or_false];rintro Φ rfl;exact hz);clear hS;replace S:=S.aP;replace S:=S.add (Φ:=av r6.p r6.bs) ((S.mem.fact (av r5.p r5.bs)).imp fun _ h=>BA.gl hc5 _ h);have JI:ag _ _ (dA zs):=S.wd.facts (dA zs) (by simp);have JJ:=S.t z;replace S:=S.add (Φ:=dA (zs++[z])) (fun w' bP x hx=>by
       rcases List.mem_append.1 hx with h | h
       ·exact JI w' bP x h
       ·rw[List.mem_singleton.1 h];exact JJ w' bP)
      refine Qa S ?_;refine MF (sn S ?_);intro b97 a w S;refine Qa S ?_;refine MF ?_;refine gA S (by simp[maxLen];omega) (by omega) ?_;rintro p7 c7 a w - S;rw[show aa zs++[Value.int .i64 z.kind,.int .i64 z.user,.int .i64 z.num,str z.text,.slice z.p z.kids.length z.cap]=aa (zs++[z]) from by rw[aC];rfl]at S;refine Qa S ?_;refine TZ S ?_;intro a S;refine MF (sw S ?_);intro a w S;refine Zg (qw (aQ (kR ?_)));(iterate 2 (refine sq S ?_;intro a S));refine kN (aQ ?_);rw[w6 ((k:Int)+1)]at S;replace S:=((((S.front (bw rd r6)).front (Cw h rd (V8:Nat))).front (Wk.row 43 5 p7 (k+1) c7 (aa (zs++[z])))).front (Wk.box b5 43 [.int .i64 kd,.int .i64 u,.int .i64 n,str s,.slice p7 (k+1) c7]));refine ⟨k+1,zs++[z],r6,V8,p7,c7,S.uu,⟨by simp[MK],bn,by omega,hw6,Fa.trans BA,?_⟩,S.sub _ _,by omega⟩;rw[Qi,hkk,vJ _ _ _ _ _ z.t V8 r6.bs Qj,List.map_append];rfl
     ·refine kE (fT (fT (mM (aQ (kS ?_)))))
      have hk2:fL (kd:Int)=k:=by simp at Hu;omega
      subst MK;refine Y6 ?_;intro a w S;have hrow:=S.row p5 zs.length;have hall:ag _ _ (dA zs):=S.wd.facts (dA zs) (by simp);have hap:∀ ad,p5=some ad→¬((xX h rd (lf:Nat) r5).aj ad.block∨Mr ad.block):=fun ad had hm=>by
       rcases hm with (hm | hm) | hm
       ·exact St.gj S (Wk.row 43 5 p5 zs.length c5 (aa zs)) (Cw h rd (lf:Nat)) ad.block ⟨ad,had,rfl⟩ hm
       ·exact St.gj S (Wk.row 43 5 p5 zs.length c5 (aa zs)) (bw rd r5) ad.block ⟨ad,had,rfl⟩ hm
       ·exact St.gj S (Wk.row 43 5 p5 zs.length c5 (aa zs)) (ext Mr) ad.block ⟨ad,had,rfl⟩ hm
      have vK:ag (fun k=>(xX h rd (lf:Nat) r5).aj k∨Mr k) _ (dA zs):=hall.less fun k _ hm=>by
       rcases hm with (hm | hm) | hm
       ·exact ⟨Cw h rd (lf:Nat),by simp,hm⟩
       ·exact ⟨bw rd r5,by simp,hm⟩
       ·exact ⟨ext Mr,by simp,hm⟩
      have hls:=j8 hrow (fun x hx=>dA.get vK hx) hap;replace S:=((S.front (bw rd r5)).front (Cw h rd (lf:Nat))).aL;have hh:=S.it (xX h rd (lf:Nat) r5);refine SV (aD S (fun _=>?_));refine ⟨.mk kd u n s p5 c5 zs,lf,r5,rfl,?_,by omega,hw5,((((E_.trans xT).trans JG).trans JH).trans Fa),hh,fun w' bP=>?_⟩
      ·rw[ji,ak.mN]
       refine zA JE JF N_ ?_;rw[Qi,hk2,Nat.sub_self,e8,w4,List.append_nil];rfl
      ·exact f_.iff.2 ⟨gm hrow,mB hrow,hls w' bP⟩
deriving instance DecidableEq for aH
theorem ML (m n:aH)(w:World):(Go.Op.equalIn 10000 177 (.agg ⟨[str m.key,.int .i64 m.dS]⟩) (.agg ⟨[str n.key,.int .i64 n.dS]⟩)).run prog w=.ok (decide (m=n)) w:=by
 have u3:=underlying3;have a3:=Tryz.isAgg3;have z3:=Tryz.sizeOf3;have u9:=underlying9;have a9:=Tryz.isAgg9;have z9:=Tryz.sizeOf9;have hS:Tryz.prog.underlying 177=some (.struct (Tryz.prog.fieldsOf 177)):=by kernel_rfl
 have hp:Tryz.prog.stoodInHeld 177=false:=by kernel_rfl
 obtain ⟨a,x⟩:=m;obtain ⟨b,y⟩:=n;rw[show (10000:Nat)=9999+1 from rfl,run_equalIn_agg w 9999 177 _ _ hS hp];simp only[Program.fieldsOf,underlying177]
 go_simp
 by_cases h1:a=b <;> by_cases h2:x=y <;> simp[h1,h2]
theorem Dx:Tryz.prog.eqGuardType Tryz.prog.depth 177=false:=by kernel_rfl
section
variable {l:Cx}{bs:List Wk.Item}{fs:List (World→Prop)}{x y:Operand}{m n:aH}{t' ty:TypeId}
instance Ud [Ev l x (.agg ⟨[str m.key,.int .i64 m.dS]⟩)][Ev l y (.agg ⟨[str n.key,.int .i64 n.dS]⟩)]:dO prog (.binOp .neq 177 x y t') ty l bs fs (.bool (!decide (m=n))):=⟨fun ρ w h _=>by
 simp[cu,execOp,h.ev (x:=x) (v:=.agg ⟨[str m.key,.int .i64 m.dS]⟩),h.ev (x:=y) (v:=.agg ⟨[str n.key,.int .i64 n.dS]⟩),Sem.run_bind,run_eqGuard_agg w .neq 177 x y _ _ Dx,run_neq_struct,ML]⟩
end
theorem Fb (m n:aH)(w:World):(Go.Op.equalIn 10000 175 (.agg ⟨[str m.key,.int .i64 m.dS]⟩) (.agg ⟨[str n.key,.int .i64 n.dS]⟩)).run prog w=.ok (decide (m=n)) w:=by
 have u3:=underlying3;have a3:=Tryz.isAgg3;have z3:=Tryz.sizeOf3;have u9:=underlying9;have a9:=Tryz.isAgg9;have z9:=Tryz.sizeOf9;have hS:Tryz.prog.underlying 175=some (.struct (Tryz.prog.fieldsOf 175)):=by kernel_rfl
 have hp:Tryz.prog.stoodInHeld 175=false:=by kernel_rfl
 obtain ⟨a,x⟩:=m;obtain ⟨b,y⟩:=n;rw[show (10000:Nat)=9999+1 from rfl,run_equalIn_agg w 9999 175 _ _ hS hp];simp only[Program.fieldsOf,underlying175]
 go_simp
 by_cases h1:a=b <;> by_cases h2:x=y <;> simp[h1,h2]
theorem vM:Tryz.prog.eqGuardType Tryz.prog.depth 175=false:=by kernel_rfl
section
variable {l:Cx}{bs:List Wk.Item}{fs:List (World→Prop)}{x y:Operand}{m n:aH}{t' ty:TypeId}
instance Ue [Ev l x (.agg ⟨[str m.key,.int .i64 m.dS]⟩)][Ev l y (.agg ⟨[str n.key,.int .i64 n.dS]⟩)]:dO prog (.binOp .eql 175 x y t') ty l bs fs (.bool (decide (m=n))):=⟨fun ρ w h _=>by
 simp[cu,execOp,h.ev (x:=x) (v:=.agg ⟨[str m.key,.int .i64 m.dS]⟩),h.ev (x:=y) (v:=.agg ⟨[str n.key,.int .i64 n.dS]⟩),Sem.run_bind,run_eqGuard_agg w .eql 175 x y _ _ vM,run_eql_struct,Fb]⟩
instance Uf [Ev l x (.agg ⟨[str m.key,.int .i64 m.dS]⟩)][Ev l y (.agg ⟨[str n.key,.int .i64 n.dS]⟩)]:dO prog (.binOp .neq 175 x y t') ty l bs fs (.bool (!decide (m=n))):=⟨fun ρ w h _=>by
 simp[cu,execOp,h.ev (x:=x) (v:=.agg ⟨[str m.key,.int .i64 m.dS]⟩),h.ev (x:=y) (v:=.agg ⟨[str n.key,.int .i64 n.dS]⟩),Sem.run_bind,run_eqGuard_agg w .neq 175 x y _ _ vM,run_neq_struct,Fb]⟩
end
theorem Gt (F:Nat)[aF prog F](ca:List Value)(q:aH→Bool)(xs:List aH)(p:Option Addr)(n c:Nat)(w0:World)(hn:xs.length=n)(hl:n≤9223372036854775807)(hx:Fx w0 (av p xs))
  (hF:∀ x∈xs,∀ w,aJ (fun _=>False) w0 w→aT prog F (xl x::ca) w (fun _=>False) fun v _=>v=.bool (q x)) :
  aT prog 253 [.slice p n c,.func (.func F) #[] ⟨ca⟩] w0 (fun _=>False) fun v _=>v=.int .i64 (lZ q xs 0):=by
 refine E1 func253 rfl ntmps253 (Wd.begin (fs:=[av p xs]) (by simpa using hx)) ?_;intro a S;refine ug ?_;intro a S;refine iH S (fun(k:Nat) uu=>[(4,uu 4),(0,uu 5),(2,.int .i64 (k:Nat)),(0,uu 9),(0,uu 10),(0,uu 11),(0,uu 12),(0,uu 13),(0,uu 14),(0,uu 15),(0,uu 16),(0,uu 17),(0,uu 18)]) (fun(k:Nat)=>k≤n∧lZ q (xs.drop k) k=lZ q xs 0) (fun(k:Nat)=>n - k) (0) ?_ S.uu ?_ ?_;exact ⟨Nat.zero_le _,rfl⟩
 first | exact S | exact S.sub _ _
 clear S;rintro k uu a w ⟨hk,aI⟩ S;refine J6 ?_;intro a S;refine kC S (fun h2=>?_) (fun h2=>?_);refine gM ?_;intro a S;have bn:k < n:=by simp at h2;omega
 have hK:cx k n:=⟨bn⟩;have Cq:cx k xs.length:=⟨by omega⟩;rw[bE (show k < xs.length by omega),lZ]at aI;refine J6 ?_;intro a S;refine sr S (hF (aq xs k) (bh (by omega)) w S.wd.agree) ?_;rintro _ a w rfl S;refine kN (aQ ?_);refine kC S (fun h4=>?_) (fun h4=>?_);refine jq ?_;intro a S;rw[if_pos h4]at aI;refine aD S (fun _=>?_);rw[aI];refine J8 ?_;intro a S;rw[if_neg (by simpa using h4)]at aI;rw[w6 ((k:Int)+1)]at S;exact ⟨k+1,S.uu,⟨bn,by rw[←aI];rfl⟩,S.sub _ _,by omega⟩;refine gM ?_;intro a S;rw[List.drop_of_length_le (by simp at h2;omega)]at aI;refine aD S (fun _=>?_);rw[←aI];rfl
theorem rz (F:Nat)[aF prog F](ca:List Value)(q:aH→Bool)(xs:List aH)(p:Option Addr)(n c:Nat)(w0:World)(hn:xs.length=n)(hl:n≤9223372036854775807)(hx:Fx w0 (av p xs))
  (hF:∀ x∈xs,∀ w,aJ (fun _=>False) w0 w→aT prog F (xl x::ca) w (fun _=>False) fun v _=>v=.bool (q x)) :
  aT prog 211 [.slice p n c,.func (.func F) #[] ⟨ca⟩] w0 (fun _=>False) fun v _=>v=.bool (xs.any q):=by
 refine E1 func211 rfl ntmps211 (Wd.begin (fs:=[av p xs]) (by simpa using hx)) ?_;intro a S;refine J9 ?_;intro a S;refine sr S (Gt F ca q xs p n c _ hn hl (S.j9 p) fun x hx w' bP=>hF x hx w' (S.wd.agree.trans bP)) ?_;rintro _ a w rfl S;refine J5 ?_;intro a S;refine aD S (fun _=>?_);rw[nS q xs 0 (by omega)]
def vN (m x:aH):Bool:=decide (x.key=m.key)&&decide (m.dS≤x.dS)
theorem JK (b:Nat)(m x:aH)(w0:World)(hb:Fx w0 (az b 177 [str m.key,.int .i64 m.dS])):aT prog 212 [xl x,.pointer (some ⟨b,0,none⟩)] w0 (fun _=>False) fun v _=>v=.bool (vN m x):=by
 refine E1 func212 rfl ntmps212 (Wd.begin (fs:=[az b 177 [str m.key,.int .i64 m.dS]]) (by simpa using hb)) ?_;intro a S;refine kS (kR ?_);refine sa S ?_;intro b2 a w S;refine R_ ?_;intro a S;refine aD S (fun _=>?_)
 first | rfl | simp[vN]
theorem MM (b:Nat)(m:aH)(now:List aH)(q:Option Addr)(n e:Nat)(w0:World)(hn:now.length=n)(hl:n≤1000000)(hb:Fx w0 (az b 64 [.slice q n e]))(hx:Fx w0 (av q now)):aT prog 210 [xl m,.pointer (some ⟨b,0,none⟩)] w0 (fun _=>False) fun v _=>v=.bool (!now.any (vN m)):=by
 refine E1 func210 rfl ntmps210 (Wd.begin (fs:=[az b 64 [.slice q n e],av q now]) (by simp;exact ⟨hb,hx⟩)) ?_;intro a S;refine kS (kR ?_);refine sa S ?_;intro b2 a w S;refine J7 ?_;intro a S;have ju:=az.aO (M:=fun _=>False) (S.ir b2) (fun h=>h);refine sr S (rz 212 [.pointer (some ⟨b2,0,none⟩)] (vN m) now q n e _ hn (by omega) (S.j9 q) (fun x _ w' bP=>JK b2 m x w' (ju.later bP))) ?_;rintro _ a w rfl S;refine J5 ?_;intro a S;refine aD S (fun _=>rfl)
theorem Ql (old now:List aH)(p q:Option Addr)(c e:Nat)(w0:World)(hl:old.length≤1000000)(rU:now.length≤1000000)(hx:Fx w0 (av p old))(hy:Fx w0 (av q now)) :
  aT prog 123 [.slice p old.length c,.slice q now.length e] w0 (fun _=>False) fun v _=>v=.bool (!old.any fun m=>!now.any (vN m)):=by
 refine E1 func123 rfl ntmps123 (Wd.begin (fs:=[av p old,av q now]) (by simp;exact ⟨hx,hy⟩)) ?_;intro a S;refine kS (kR ?_);refine sa S ?_;intro b3 a w S;refine rP ?_;intro a S;have ju:=az.aO (M:=fun _=>False) (S.ir b3) (fun h=>h);have hqx:=S.j9 q;refine sr S (rz 210 [.pointer (some ⟨b3,0,none⟩)] (fun m=>!now.any (vN m)) old p old.length c _ rfl (by omega) (S.j9 p) (fun x _ w' bP=>MM b3 x now q now.length e w' rfl rU (ju.later bP) (hqx.later bP))) ?_;rintro _ a w rfl S;refine J5 ?_;intro a S;refine aD S (fun _=>rfl)
theorem BB (x:Int)(w0:World):aT prog 207 [.int .i64 x] w0 (fun _=>False) fun v _=>v=.bool false:=by
 refine E1 func207 rfl ntmps207 (Wd.start w0) ?_;intro a S;refine ug ?_;intro a S;refine aD S (fun _=>?_);simp
def tr (x y:Int):Int:=if x < y then -1 else if y < x then 1 else 0
theorem JL (x y:Int)(w0:World):aT prog 121 [.int .i64 x,.int .i64 y] w0 (fun _=>False) fun v _=>v=.int .i64 (tr x y):=by
 refine E1 func121 rfl ntmps121 (Wd.start w0) ?_;intro a S;refine J8 ?_;intro a S;refine sr S (BB x _) ?_;rintro _ a w rfl S;refine J6 ?_;intro a S;refine sr S (BB y _) ?_;rintro _ a w rfl S;refine mK ?_;intro a S;refine J9 ?_;intro a S;refine kC S (fun h9=>?_) (fun h9=>?_);refine J7 ?_;intro a S;have h:x < y:=by simpa using h9
 refine aD S (fun _=>?_);rw[tr,if_pos h];refine mJ ?_;intro a S;refine kC S (fun wF=>?_) (fun wF=>?_);refine J7 ?_;intro a S;have h:¬x < y:=by simpa using h9
 have h':y < x:=by simpa using wF
 refine aD S (fun _=>?_);rw[tr,if_neg h,if_pos h'];refine J8 ?_;intro a S;have h:¬x < y:=by simpa using h9
 have h':¬y < x:=by simpa using wF
 refine aD S (fun _=>?_);rw[tr,if_neg h,if_neg h']
theorem BC (s:aK)(u:Int)(w0:World):aT prog 250 [.agg ⟨kH s⟩,.int .i64 u] w0 (fun _=>False) fun v _=>v=.int .i64 (tr s.user u):=by
 refine E1 func250 rfl ntmps250 (Wd.start w0) ?_;intro a S;refine kS (kR ?_);refine sa S ?_;intro b2 a w S;refine J8 ?_;intro a S;refine sr S (JL s.user u _) ?_;rintro _ a w rfl S;refine J4 ?_;intro a S;refine aD S (fun _=>rfl)
instance {s:aK}{u:Int}{bs fs} : cB prog 250 [.agg ⟨[.int .i64 s.user,.int .i64 s.cnt,.int .i64 s.root.kind,.int .i64 s.root.user,.int .i64 s.root.num,str s.root.text,.slice s.root.p s.root.kids.length s.root.cap]⟩,.int .i64 u] bs fs (.int .i64 (tr s.user u)):=⟨fun w _=>BC s u w⟩
theorem MN {x y:Int} : decide (tr x y < 0)=decide (x < y):=by
 unfold tr;split
 rename_i h;rw[decide_eq_true h];rfl
 rename_i h;rw[decide_eq_false h];split <;> rfl
theorem Fc {x y:Int} : decide (tr x y=0)=decide (x=y):=by
 unfold tr;split
 rename_i h;rw[decide_eq_false (show ¬x=y by omega)];rfl
 split
 rename_i h;rw[decide_eq_false (show ¬x=y by omega)];rfl
 rw[decide_eq_true (show x=y by omega)];rfl
def Zm (l:List aK)(u:Int)(i:Nat)(b:Bool):Prop:=i≤l.length∧b=(decide ((i:Int) < (l.length:Int))&&decide ((aq l i).user=u))∧((∀ a c,a < c→c < l.length→(aq l a).user < (aq l c).user)→(∀ a,a < i→(aq l a).user < u)∧∀ a,i≤a→a < l.length→u≤(aq l a).user)
theorem Qm (l:List aK)(p:Option Addr)(c:Nat)(u:Int)(w0:World)(hl:l.length≤1000000)(hx:Fx w0 (av p l)) :
  aT prog 249 [.slice p l.length c,.int .i64 u,.func (.func 250) #[] #[]] w0 (fun _=>False) fun v _=>∃ (i:Nat) (b:Bool),v=.tuple ⟨[.int .i64 (i:Nat),.bool b]⟩∧Zm l u i b:=by
 refine E1 func249 rfl ntmps249 (Wd.begin (fs:=[av p l]) (by simpa using hx)) ?_;intro a S;refine J22 ?_;intro a S;refine yL S (fun(i:Nat) (j:Nat) uu=>[(9,.int .i64 (i:Nat)),(0,.int .i64 (j:Nat)),(0,uu 11),(3,uu 15),(0,uu 16),(0,uu 17),(0,uu 18),(0,uu 19),(0,uu 20),(0,uu 21),(0,uu 22),(0,uu 23),(0,uu 24),(0,uu 25),(0,uu 26),(0,uu 27),(0,uu 28),(0,uu 29),(0,uu 30),(0,uu 31),(0,uu 32),(0,uu 33),(0,uu 34)]) (fun(i:Nat) (j:Nat)=>i≤j∧j≤l.length∧((∀ a c,a < c→c < l.length→(aq l a).user < (aq l c).user)→(∀ a,a < i→(aq l a).user < u)∧∀ a,j≤a→a < l.length→u≤(aq l a).user)) (fun(i:Nat) (j:Nat)=>j - i) (0) (l.length) ?_ S.uu ?_ ?_;exact ⟨Nat.zero_le _,Nat.le_refl _,fun _=>⟨fun a h=>by omega,fun a h h2=>by omega⟩⟩
 first | exact S | exact S.sub _ _
 clear S;rintro i j uu a w ⟨hij,hjl,Fe⟩ S;refine J8 ?_;intro a S;refine kC S (fun h3=>?_) (fun h3=>?_);refine mJ ?_;intro a S;rw[Pj i j (by omega)]at S;refine J1 ?_;intro a S;rw[show IntKind.i64.wrap (((i+j) / 2:Nat):Int)=(((i+j) / 2:Nat):Int) from w6 _]at S;have hKh:cx ((i+j) / 2) l.length:=⟨by simp at h3;omega⟩;refine gM ?_;intro a S;refine sr S (BC (aq l ((i+j) / 2)) u _) ?_;rintro _ a w rfl S;refine J1 ?_;intro a S;rw[MN]at S;refine kN (aQ ?_);refine kC S (fun h5=>?_) (fun h5=>?_);refine J3 ?_;intro a S;rw[show IntKind.i64.wrap ((((i+j) / 2:Nat):Int)+1)=(((i+j) / 2+1:Nat):Int) from w6 _]at S;refine J4 ?_;intro a S;have Sy:i < j:=by simp at h3;omega
 have O4:=of_decide_eq_true h5;refine ⟨(i+j) / 2+1,j,S.uu,⟨by omega,hjl,fun hs=>⟨fun a ha=>?_,(Fe hs).2⟩⟩,S.sub _ _,by omega⟩;rcases Nat.lt_succ_iff_lt_or_eq.1 ha with h | rfl
 exact Int.lt_trans (hs a _ h (by omega)) O4;exact O4;refine J6 ?_;intro a S;have Sy:i < j:=by simp at h3;omega
 have O4:=of_decide_eq_false h5;refine ⟨i,(i+j) / 2,S.uu,⟨by omega,by omega,fun hs=>⟨(Fe hs).1,fun a ha YT=>?_⟩⟩,S.sub _ _,by omega⟩;rcases Nat.eq_or_lt_of_le ha with rfl | h
 omega;have:=hs _ a h YT;omega;refine sP ?_;intro a w S;refine J6 ?_;intro a S;have Zn:i=j:=by simp at h3;omega
 subst Zn;refine gO S (fun _=>⟨i,_,rfl,hjl,?_,Fe⟩);rw[Fc]
theorem JM (l:List aK)(p:Option Addr)(c:Nat)(u:Int)(w0:World)(hl:l.length≤1000000)(hx:Fx w0 (av p l)) :
  aT prog 205 [.slice p l.length c,.int .i64 u] w0 (fun _=>False) fun v _=>∃ (i:Nat) (b:Bool),v=.tuple ⟨[.int .i64 (i:Nat),.bool b]⟩∧Zm l u i b:=by
 refine E1 func205 rfl ntmps205 (Wd.begin (fs:=[av p l]) (by simpa using hx)) ?_;intro a S;refine mJ ?_;intro a S;refine sr S (Qm l p c u _ hl (S.j9 p)) ?_;rintro _ a w ⟨i,b,rfl,V9⟩ S;refine J7 ?_;intro a S;exact gO S (fun _=>⟨i,b,rfl,V9⟩)
theorem Ff {w:World}{e:TypeId}{sz:Nat}{p:Option Addr}{n c:Nat}{xs:List Value}(h:w.ownsRow 0 e sz (.slice p n c) n xs):c≤maxLen:=mB h
theorem vO (ts:List Term):ts.length≤wN ts:=by
 induction ts with
 | nil=>exact Nat.zero_le _
 | cons t ts ih=>have:=Ej t;simp only[wN,jb];omega
theorem Fg (ys:List ak)(k:Nat)(r:ak)(zs:List Term)(h:ys.map ak.t=zs)(hr:zs[k]? = some r.t):(ys.set k r).map ak.t=zs:=by
 subst h;rw[List.map_set];apply List.ext_getElem?;intro i;rw[List.getElem?_set];split
 rename_i h;subst h
 split;exact hr.symm
 rename_i h2;rw[List.getElem?_eq_none (by simpa using h2)]at hr;cases hr
 rfl
theorem mC (t:ak):cnt t.t=1+wN (t.kids.map ak.t):=by rw[t.mN,cnt]
theorem BD (ys:List ak)(i:Nat)(x:ak)(h:i < ys.length):(aa ys).take (i*5)++x.cells++(aa ys).drop (i*5+x.cells.length)=aa (ys.set i x):=by
 have e1:(aa ys).take (i*5)=aa (ys.take i):=lU ys i;rw[show i*5+x.cells.length=(i+1)*5 from by simp;omega,FP ys (i+1) (by omega),e1,←CH,←aC,←aC,List.set_eq_take_append_cons_drop,if_pos h];simp
theorem Dy (N:Nat):∀ (t:ak) (M:Nat→Prop) (w0:World),SizeOf.sizeOf t < N→cnt t.t≤1200→(∀ k,M k→k < w0.heap.size)→ag M w0 (dc t)→aT prog 206 [vL t] w0 (fun _=>False) fun v w'=>Xi M w' v t.t:=by
 induction N with
 | zero=>intro t _ _ h;exact absurd h (Nat.not_lt_zero _)
 | succ N ih=>
 intro t M w0 hN hc hM hf;have hlen:t.kids.length≤1200:=by have h1:=mC t;have h2:=vO (t.kids.map ak.t);rw[List.length_map]at h2;omega
 have hkc:∀ x∈t.kids,cnt x.t≤1200:=fun x hx=>by have h1:=mC t;have h2:=uE (List.mem_map.2 ⟨x,hx,rfl⟩:x.t∈t.kids.map ak.t);omega
 refine E1 func206 rfl ntmps206 (Wd.fE (M:=M) (fs:=[dc t]) hM (by simpa using hf)) ?_;intro a S;refine kS (kR ?_);refine sa S ?_;intro b1 a w S;refine sa S ?_;intro b2 a w S;refine J6 ?_;intro a S;refine jU S (Et t.kids t.p t.kids.length t.cap _ rfl (by omega) (lT (S.t0 t))) ?_;rintro _ a w ⟨p',c',rfl,hown,hnew⟩ hS -;have S:=hS hown hnew;clear hS;refine Li ?_;intro a w S;refine iI S (fun(k:Nat) (ys:List ak) uu=>[(3,uu 3),(7,.int .i64 (k:Nat)),(0,uu 12),(0,uu 13),(0,uu 14),(0,uu 15),(0,uu 16),(0,uu 17),(0,uu 18),(0,uu 19),(0,uu 20),(0,uu 21),(0,uu 22),(0,uu 23),(0,uu 24)]) (fun(k:Nat) (ys:List ak)=>[Wk.row 43 5 p' t.kids.length c' (aa ys),Wk.box b2 43 eO.cells,Wk.box b1 43 [.int .i64 t.kind,.int .i64 t.user,.int .i64 t.num,str t.text,.slice p' t.kids.length c'],ext M]) (fun(k:Nat) (ys:List ak)=>[dA ys,dc t]) (fun(k:Nat) (ys:List ak)=>k≤t.kids.length∧ys.length=t.kids.length∧ys.map ak.t=t.kids.map ak.t∧ys.drop k=t.kids.drop k) (fun(k:Nat) (ys:List ak)=>t.kids.length - k) (0) (t.kids) ?_ S.uu ?_ ?_
 ·exact ⟨Nat.zero_le _,rfl,rfl,rfl⟩
 ·exact S.add (Φ:=dA t.kids) (dA.aO fun x hx=>rV (S.t t) hx)
 ·clear S;rintro k ys uu a w ⟨hk,wR,CN,OZ⟩ S
  refine J6 ?_;intro a S;refine kC S (fun h3=>?_) (fun h3=>?_)
  ·refine kK (aQ (kS (kB (kS ?_))))
   have bn:k < t.kids.length:=by simp at h3;omega
   have hK:cx k t.kids.length:=⟨bn⟩;have Sm:ys[k]? = some (gP t.kids k):=by
    have:=congrArg (fun l=>l[0]?) OZ;simp only[List.getElem?_drop,Nat.add_zero]at this;rw[this,jn bn]
   refine J5 ?_;intro a S;refine tN (.q 0 (.q 1 (.q 2 (.q 3 (.q 4 (.q 5 (.l 6 (.l 7 (.l 8 (.l 9 (.l 10 (.e)))))))))))) S (fun(ys':List ak) uu=>[(14,uu 14),(0,uu 15),(0,uu 16),(0,uu 17),(0,uu 18),(0,uu 19),(0,uu 20),(0,uu 21),(0,uu 22),(0,uu 23)]) [Wk.box b2 43 eO.cells,Wk.box b1 43 [.int .i64 t.kind,.int .i64 t.user,.int .i64 t.num,str t.text,.slice p' t.kids.length c'],ext M] (fun(ys':List ak)=>[Wk.row 43 5 p' t.kids.length c' (aa ys'),Wk.box b2 43 eO.cells,Wk.box b1 43 [.int .i64 t.kind,.int .i64 t.user,.int .i64 t.num,str t.text,.slice p' t.kids.length c'],ext M]) (fun(ys':List ak)=>[dA ys',dc t]) (fun(ys':List ak)=>ys'.length=t.kids.length∧ys'.map ak.t=t.kids.map ak.t∧ys'.drop (k+1)=t.kids.drop (k+1)) ?_ ?_
   ·intro w S
    (iterate 6 (refine tq S ?_;intro a S));refine tl (sq S ?_);intro a S;refine te S ?_;refine tl ?_;refine Lq (gP t.kids k).cells S t.kids.length (fun j v hj=>?_) ?_
    ·have Cm:j < 5:=(List.getElem?_eq_some_iff.1 hj).1
     rw[←hj];exact eV ys k _ Sm j Cm
    clear S;intro a S;refine te S ?_;refine tl ?_;refine sr S (ih (gP t.kids k) _ w (by have:=ak.lH (fC bn);omega) (hkc _ (fC bn)) (a_ S) (rV (S.t t) (fC bn))) ?_;rintro _ a w ⟨r,rfl,hr,Ug⟩ S;replace S:=S.add (Φ:=dc r) Ug;refine te S ?_;refine tl (sq S ?_);intro a S;refine te S ?_;refine tl ?_;refine CJ S t.kids.length (by omega) (by omega) ?_;intro a w S;rw[BD ys k r (by omega)]at S;refine te S ?_;refine tn ?_;refine ⟨ys.set k r,S.uu,⟨by simpa using wR,Fg ys k r _ CN (by rw[List.getElem?_map,jn bn,hr];rfl),?_⟩,?_⟩
    ·rw[List.drop_set_of_lt (by omega),←List.drop_drop,OZ,List.drop_drop]
    ·have h1:ag _ _ (dA ys):=S.wd.facts (dA ys) (by simp)
     have h2:=S.t r;replace S:=S.add (Φ:=dA (ys.set k r)) (fun w' bP x hx=>by
      rcases List.mem_or_eq_of_mem_set hx with h | rfl
      ·exact h1 w' bP x h
      ·exact h2 w' bP)
     exact S.sub _ _
   clear S;rintro ys' uu a w ⟨Qn,Qo,Qp⟩ S;refine J7 ?_;intro a S;rw[w6 ((k:Int)+1)]at S;exact ⟨k+1,ys',S.uu,⟨bn,Qn,Qo,Qp⟩,S.sub _ _,by omega⟩
  ·refine uh ?_;intro a w S
   have hrow:=S.row p' t.kids.length;have hnew:=S.cQ p' t.kids.length;have hall:=S.fY (Φ:=dA ys) (by simp);refine aD S (fun _=>?_);refine ⟨.mk t.kind t.user t.num t.text p' c' ys,by simp only[vL,ak.kind,ak.user,ak.num,ak.text,ak.p,ak.cap,ak.kids,wR],?_,fun w' bP=>?_⟩
   ·rw[t.mN,←CN];exact ak.mN _
   ·have hls:=j8 hrow (fun x hx=>dA.get hall hx) (fun ad h hm=>(hnew ad h).elim id (fun h2=>by have:=hM _ hm;omega))
    exact ⟨by rw[wR];exact gm hrow,Ff hrow,hls w' bP⟩
theorem Gu (t:ak)(M:Nat→Prop)(w0:World)(hc:cnt t.t≤1200)(hM:∀ k,M k→k < w0.heap.size)(hf:ag M w0 (dc t)):aT prog 206 [vL t] w0 (fun _=>False) fun v w'=>Xi M w' v t.t:=Dy _ t M w0 (Nat.lt_succ_self _) hc hM hf
def pM:List fV→Int→Option fV
 | [],_=>none
 | s::l,u=>if s.user=u then some s else pM l u
theorem ql:∀ (l:List aK) (u:Int) (i:Nat),i < l.length→(aq l i).user=u→(∀ a,a < i→(aq l a).user≠u)→pM (cU l) u=some (aq l i).s
 | x::l,u,0,_,he,_=>by
  show (if x.user=u then some x.s else _)=_
  rw[if_pos (show x.user=u from he)];rfl
 | x::l,u,i+1,hi,he,hn=>by
  show (if x.user=u then some x.s else _)=_
  rw[if_neg (show ¬x.user=u from hn 0 (by omega))];exact ql l u i (by simpa using hi) he (fun a ha=>hn (a+1) (by omega))
theorem qm:∀ (l:List aK) (u:Int),(∀ a,a < l.length→(aq l a).user≠u)→pM (cU l) u=none
 | [],_,_=>rfl
 | x::l,u,hn=>by
  show (if x.user=u then some x.s else _)=_
  rw[if_neg (show ¬x.user=u from hn 0 (by simp))];exact qm l u (fun a ha=>hn (a+1) (by simpa using ha))
theorem kU:∀ (l:List aK) (k:Int),eH k (cU l)=true→(∀ a,a < l.length→k < (aq l a).user)∧(∀ a c,a < c→c < l.length→(aq l a).user < (aq l c).user)∧∀ a,a < l.length→cR (aq l a).root.t=0
 | [],_,_=>⟨fun a h=>by simp at h,fun a c _ h=>by simp at h,fun a h=>by simp at h⟩
 | x::l,k,h=>by
  replace h:(decide (k < x.user)&&bX x.user&&pY x.cnt&&decide (cR x.root.t=0)&&eH x.user (cU l))=true:=h;simp only[Bool.and_eq_true,decide_eq_true_eq]at h;obtain ⟨⟨⟨⟨h1,-⟩,-⟩,h2⟩,h3⟩:=h;obtain ⟨i1,i2,i3⟩:=kU l x.user h3;refine ⟨fun a ha=>?_,fun a c hac hc=>?_,fun a ha=>?_⟩;cases a with
  | zero=>exact h1
  | succ a=>exact Int.lt_trans h1 (i1 a (by simpa using ha))
  cases c with
  | zero=>omega
  | succ c=>
   cases a with
   | zero=>exact i1 c (by simpa using hc)
   | succ a=>exact i2 a c (by omega) (by simpa using hc)
  cases a with
  | zero=>exact h2
  | succ a=>exact i3 a (by simpa using ha)
theorem BE {l:List aK}{u:Int}{i:Nat}{b:Bool}(h:Zm l u i b)(hs:eH 0 (cU l)=true):(b=true→i < l.length∧(aq l i).user=u∧pM (cU l) u=some (aq l i).s)∧(b=false→pM (cU l) u=none):=by
 obtain ⟨h1,h2,h3⟩:=h;obtain ⟨h4,h5⟩:=h3 (kU l 0 hs).2.1;constructor;intro hb;rw[h2,Bool.and_eq_true,decide_eq_true_eq,decide_eq_true_eq]at hb;exact ⟨by omega,hb.2,ql l u i (by omega) hb.2 fun a ha=>by have:=h4 a ha;omega⟩;intro hb;refine qm l u fun a ha he=>?_
 rcases Nat.lt_or_ge a i with h | h
 have:=h4 a h;omega;have h6:=h5 i (Nat.le_refl _);rcases Nat.eq_or_lt_of_le h with rfl | h7
 rw[h2,he,decide_eq_true (show (i:Int) < (l.length:Int) by omega),decide_eq_true rfl]at hb;cases hb;have:=(kU l 0 hs).2.1 i a h7 ha;have:=h6 (by omega);omega
def JN:aK:=⟨0,0,eO⟩
def Qq (M:Nat→Prop)(l:List aK)(u:Int)(v:Value)(w:World):Prop:=∃ (s:aK) (b:Bool),v=.tuple ⟨[.agg ⟨kH s⟩,.bool b]⟩∧ag M w (dc s.root)∧(eH 0 (cU l)=true→pM (cU l) u=if b then some s.s else none)∧(b=false→s=JN)
theorem JO (l:List aK)(p:Option Addr)(n c:Nat)(u:Int)(M:Nat→Prop)(w0:World)(hn:l.length=n)(hl:n≤1000000)(hM:∀ k,M k→k < w0.heap.size)(hx:ag M w0 (av p l)) :
  aT prog 120 [.slice p n c,.int .i64 u] w0 (fun _=>False) fun v w'=>Qq M l u v w':=by
 subst hn;have Hs:eS l.length 1000000:=⟨hl⟩;refine E1 func120 rfl ntmps120 (Wd.fE (M:=M) (fs:=[av p l]) hM (by simpa using hx)) ?_;intro a S;refine kS (kR ?_);refine sa S ?_;intro b4 a w S;refine J7 ?_;intro a S;refine sr S (JM l p c u _ hl (S.j9 p)) ?_;rintro _ a w ⟨i,b,rfl,V9⟩ S;refine Hi ?_;intro a w S;rw[uO]at S;refine J6 ?_;intro a S;refine kC S (fun h2=>?_) (fun h2=>?_);refine Y9 ?_;intro a w S;refine gO S (fun _=>⟨JN,false,rfl,fun _ _=>eF _,fun hs=>?_,fun _=>rfl⟩);rw[hs,Bool.not_true,Bool.false_or]at h2;exact (BE V9 hs).2 (by simpa using h2);refine kK (aQ (kS ?_));have hs:eH 0 (cU l)=true∧b=true:=by simpa using h2
 obtain ⟨hil,YE,I6⟩:=(BE V9 hs.1).1 hs.2;have hK:cx i l.length:=⟨hil⟩;have hg:=kz.1 ((kU l 0 hs.1).2.2 i hil);refine J5 ?_;intro a S;refine sa S ?_;intro b8 a w S;refine Y7 ?_;intro a w S;replace S:=S.add (Φ:=dc (aq l i).root) ((S.mem.fact (av p l)).imp fun _ h=>h.2 _ (bh hil));refine sr S (Gu (aq l i).root _ w (yH hg) (a_ S) (S.t (aq l i).root)) ?_;rintro _ a w ⟨r,rfl,hr,Ug⟩ S;replace S:=S.add Ug;refine uh ?_;intro a w S;have Qr:=S.CG (M:=M) r;refine gO S (fun _=>⟨⟨(aq l i).user,(aq l i).cnt,r⟩,true,rfl,Qr,fun _=>?_,nofun⟩);rw[I6,if_pos rfl,aK.s,aK.s,hr]
end Go.Proofs.YtdakncgafdnjfaaGreat