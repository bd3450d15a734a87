/- 4: a part of this claim's texts, joined: W8 DiskA DiskB DiskC DiskD DiskE DiskF DiskG Reader ReaderB ReaderC PlainDec Sha. -/
import Derived.Test.YtdakncgafdnjfaaGreatPj3
import Derived.Lib.AppendZerosOnto
import Derived.Lib.Overlaps
namespace Go.Wk
open Go
section
variable {P:Program} {r:Option Nat} {ops:Array Oper} {Q:Exit→Act→World→Prop} {w0:World} {M0:Nat→Prop} {ds:List Deferred} {a:Act} {w:World} {l:List Value} {bs bs':List Item} {fs:List (World→Prop)}
 {d:Option Nat} {op:Op} {ty:TypeId} {pos:String} {af:Array Edge} {rest:List Oper} {v:Value} {t e:TypeId} {sz by_ c:Nat} {z:Value} {xs:List Value} {x y:Operand}
theorem own_more {w:World} {p:Option Addr} {n m c:Nat} (h:w.ownsRow 0 e sz (.slice p n c) n xs) (hm:n≤m) (hmc:m≤c) (_h0:0 < c) (hn:0 < n):∃ ys,ys.length=(m - n)*sz∧w.ownsRow 0 e sz (.slice p m c) m (xs++ys):=by
 obtain ⟨g,cur,rfl,hg,hnc,hcs,htk,hcm⟩:=own_cells h hn
 have hmm:=Nat.mul_le_mul_right sz hmc
 have hnm:=Nat.mul_le_mul_right sz hm
 have hcl:cur.toList.length=c*sz:=by rw[Array.length_toList,hcs]
 refine ⟨(cur.toList.take (m*sz)).drop (n*sz),?_,?_,.inr ⟨g,c,cur,rfl,Nat.zero_le _,hg,hmc,hcm,hcs,?_⟩⟩
 rw[List.length_drop,List.length_take,hcl,Nat.sub_mul];omega
 rw[List.length_append,h.1,List.length_drop,List.length_take,hcl];omega
 have e1:xs=(cur.toList.take (m*sz)).take (n*sz):=by rw[List.take_take,←htk,Nat.min_eq_left hnm]
 conv=>rhs;rw[e1]
 rw[List.take_append_drop]
end
def kiIdx (k:Int):List (Int × Value)→Nat→Option (Nat × Value)
 | [],_=>none
 | (u,v)::kv,i=>if k=u then some (i,v) else kiIdx k kv (i+1)
def kiGet (k:Int) (kv:List (Int × Value)):Option Value:=(kiIdx k kv 0).map (·.2)
def kiPut (k:Int) (v:Value):List (Int × Value)→List (Int × Value)
 | []=>[(k,v)]
 | (u,x)::kv=>if k=u then (u,v)::kv else (u,x)::kiPut k v kv
def mpn (b:Nat) (kv:List (Int × Value)):Item where
 foot:=fun k=>k=b
 holds:=fun w=>∃ es clock,w.heap[b]? = some (.map es clock)∧ents es=(kv.map fun x=>((.int .i64 x.1),x.2))∧(∀ e∈es.toList,e.born < clock)∧(es.toList.map (·.born)).Nodup
theorem mpn_loc (b:Nat) (kv:List (Int × Value)) (w1 w2:World) (h:∀ k,(mpn b kv).foot k→w2.heap[k]? = w1.heap[k]?) (h1:(mpn b kv).holds w1):(mpn b kv).holds w2:=by
 obtain ⟨es,clock,h2,h3⟩:=h1
 exact ⟨es,clock,by rw[h b rfl];exact h2,h3⟩
class HasMpn (bs:List Item) (b:Nat) (kv:outParam (List (Int × Value))):Prop where mem:mpn b kv∈bs
instance hmpn0 {b:Nat} {kv:List (Int × Value)} {bs:List Item} : HasMpn (mpn b kv::bs) b kv:=⟨List.mem_cons_self ..⟩
instance (priority:=900) hmpn1 {b:Nat} {kv:List (Int × Value)} {x:Item} {bs:List Item} [h:HasMpn bs b kv]:HasMpn (x::bs) b kv:=⟨List.mem_cons_of_mem _ h.mem⟩
def MpnF (b:Nat) (kv:List (Int × Value)):World→Prop:=(mpn b kv).holds
class HasMpnF (fs:List (World→Prop)) (b:Nat) (kv:outParam (List (Int × Value))):Prop where mem:MpnF b kv∈fs
instance hmpnf0 {b:Nat} {kv:List (Int × Value)} {fs:List (World→Prop)} : HasMpnF (MpnF b kv::fs) b kv:=⟨List.mem_cons_self ..⟩
instance (priority:=900) hmpnf1 {b:Nat} {kv:List (Int × Value)} {Φ:World→Prop} {fs:List (World→Prop)} [h:HasMpnF fs b kv]:HasMpnF (Φ::fs) b kv:=⟨List.mem_cons_of_mem _ h.mem⟩
class KiOf (bs:List Item) (fs:List (World→Prop)) (b:Nat) (kv:outParam (List (Int × Value))):Prop where of:∀ w,Mem w bs fs→(mpn b kv).holds w
instance (priority:=900) kiof1 {b:Nat} {kv:List (Int × Value)} {bs:List Item} {fs:List (World→Prop)} [h:HasMpnF fs b kv]:KiOf bs fs b kv:=⟨fun _ mm=>(mm.facts _ h.mem).now⟩
theorem MpnF.stable {w:World} {b:Nat} {kv:List (Int × Value)} {M:Nat→Prop} (h:MpnF b kv w) (hM:¬M b):Stable M w (MpnF b kv):=fun w' hw'=>by
 obtain ⟨es,clock,hb,he⟩:=h
 exact ⟨es,clock,by rw[hw'.blk (Array.getElem?_eq_some_iff.1 hb).1 hM];exact hb,he⟩
theorem same_int (s u:Int):Instr.sameNow (.int .i64) (.int .i64 s) (.int .i64 u)=some (decide (s=u)):=by
 obtain ⟨r,hr,hiff⟩:=MapKept.sameNow_of_keys (d:=(.int .i64)) (a:=.int .i64 s) (b:=.int .i64 u) (by simp[MapKept.IsKey]) (by simp[MapKept.IsKey])
 rw[hr]
 congr 1
 rw[Bool.eq_iff_iff,hiff];simp
theorem find_ki (k:Int):∀ (l:List MapEntry) (kv:List (Int × Value)) (i:Nat),(l.map fun e=>(e.key,e.val))=(kv.map fun x=>((.int .i64 x.1),x.2))→Instr.findNow (.int .i64) (.int .i64 k) l i=some (kiIdx k kv i)
 | [],[],i,_=>rfl
 | [],_::_,_,h=>by simp at h
 | _::_,[],_,h=>by simp at h
 | e::l,(u,v)::kv,i,h=>by
  simp only[List.map_cons,List.cons.injEq,Prod.mk.injEq]at h
  obtain ⟨⟨h1,h2⟩,h3⟩:=h
  have hs:Instr.sameNow (.int .i64) (.int .i64 k) e.key=some (decide (k=u)):=by
   rw[h1,same_int]
  rw[Instr.findNow,hs,kiIdx]
  by_cases hk:k=u
  rw[if_pos hk];simp[hk,h2]
  rw[if_neg hk];simp only[hk,decide_false]
  exact find_ki k l kv (i+1) h3
theorem kiIdx_some {k:Int} : ∀ {kv:List (Int × Value)} {i j:Nat} {v:Value},kiIdx k kv i=some (j,v)→i≤j∧kv[j - i]? = some (k,v)
 | [],i,j,v,h=>by simp[kiIdx]at h
 | (u,x)::kv,i,j,v,h=>by
  rw[kiIdx]at h
  split at h
  rename_i hk
  simp at h
  obtain ⟨rfl,rfl⟩:=h
  simp[hk]
  have:=kiIdx_some h
  refine ⟨by omega,?_⟩
  rw[show j - i=j - (i+1)+1 from by omega]
  simpa using this.2
theorem kiPut_idx {k:Int} {v:Value} : ∀ {kv:List (Int × Value)} {i j:Nat} {x:Value},kiIdx k kv i=some (j,x)→kiPut k v kv=kv.set (j - i) (k,v)
 | [],i,j,x,h=>by simp[kiIdx]at h
 | (u,y)::kv,i,j,x,h=>by
  rw[kiIdx]at h
  rw[kiPut]
  split at h
  rename_i hk
  simp at h
  obtain ⟨rfl,rfl⟩:=h
  rw[if_pos hk];simp[hk]
  rename_i hk
  rw[if_neg hk]
  have h1:=kiIdx_some h
  rw[kiPut_idx h,show j - i=j - (i+1)+1 from by omega]
  simp
theorem kiPut_none {k:Int} {v:Value} : ∀ {kv:List (Int × Value)} {i:Nat},kiIdx k kv i=none→kiPut k v kv=kv++[(k,v)]
 | [],i,h=>rfl
 | (u,y)::kv,i,h=>by
  rw[kiIdx]at h
  split at h
  cases h
  rename_i hk
  rw[kiPut,if_neg hk,kiPut_none h];rfl
section
variable {P:Program} {r:Option Nat} {ops:Array Oper} {Q:Exit→Act→World→Prop} {w0:World} {M0:Nat→Prop} {ds:List Deferred} {a:Act} {w:World} {l l':List Value} {bs bs':List Item} {fs:List (World→Prop)}
 {d:Option Nat} {op:Op} {t ty:TypeId} {pos:String} {af:Array Edge} {rest:List Oper} {v z:Value} {e kt et:TypeId} {sz by_ b:Nat} {x y u:Operand} {lc:Cx} {k:Int} {kv:List (Int × Value)}
theorem run_keyI (hk:P.underlying kt=some (.int .i64)) (em:Bool) (w:World):(Instr.checkKey em 10000 kt (.int .i64 k)).run P w=.ok () w:=MapKept.run_checkKey (k:=.int .i64 k) hk (by simp[MapKept.IsKey]) em 9999
instance opLookI [Ev lc x (.map (some b))] [Ev lc y (.int .i64 k)] [ht:Und P t (.map kt et)] [hk:Und P kt (.int .i64)] [hz:TI P et z sz by_] [hm:KiOf bs fs b kv] :
  OpQ P (.lookup t x y false) ty lc bs fs ((kiGet k kv).getD z):=⟨fun ρ w h mm=>by
 obtain ⟨es,clock,hb,he,_⟩:=hm.of w mm
 have hf:=find_ki k es.toList kv 0 he
 have h1:=MapKept.run_getObj_map (P:=P) hb
 have h2:=run_keyI (P:=P) (k:=k) hk.eq es.isEmpty w
 have h3:=MapKept.run_findKey (P:=P) (w:=w) hk.eq hf
 have h4:(Instr.lookup t (.map (some b)) (.int .i64 k) false).run P w=.ok ((kiGet k kv).getD z) w:=by
  unfold kiGet
  simp[Instr.lookup,Sem.run_bind,run_und,h1,h2,h3,Result.andThen]
  cases kiIdx k kv 0 with
  | none=>simp[run_zero (P:=P) (t:=et) (z:=z) (s:=sz) (b:=by_)]
  | some q=>simp
 simp[xop,execOp,h.ev (x:=x) (v:=.map (some b)),h.ev (x:=y) (v:=.int .i64 k),h4]⟩
theorem smmi {l':Nat→List Value} (S:St w0 M0 ds a w l bs fs) [hp:∀ b,PutO l d (.map (some b)) (l' b)] (K:∀ b a w,St w0 M0 ds a w (l' b) (mpn b []::bs) fs→WL P r ops Q rest a w):WL P r ops Q (⟨d,.makeMap t none,ty,pos,af,none⟩::rest) a w:=by
 refine wl_plain rfl ?_
 rw[semAt_nd rfl]
 have e1:(xop a.eval (.makeMap t none) ty).run P w=.ok (.value (.map (some w.heap.size))) (w.alloc (.map #[] 0)):=by
  simp[xop,execOp,Instr.makeMap,newObj,Sem.run]
 simp only[e1,Oper.uponIn]
 have:=hp w.heap.size
 have S':=S.put (d:=d) (v:=.map (some w.heap.size))
 have hfoot:∀ k,(mpn w.heap.size []).foot k→k=w.heap.size:=fun _ h=>h
 refine K _ _ _ ⟨S'.slots,S'.defers,(S'.wd.step (Agree.alloc _ w _)).more ⟨#[],0,heap_alloc_new w _,rfl,by simp,by simp⟩ (fun k hk=>by rw[hfoot k hk];exact S'.wd.agree.size) (fun k hk=>by rw[hfoot k hk];simp) (fun it hi k hk hk'=>?_) (fun Φ hΦ w'' hw''=>?_) (mpn_loc _ _)⟩
 have:=S'.wd.lt it hi k hk'
 rw[hfoot k hk]at this;omega
 refine S'.wd.facts Φ hΦ w'' (((Agree.alloc _ w _:Grow w _).mono (fun _ _ h=>h.elim)).trans' hw'' fun i hi ⟨it,hm,hk⟩=>?_)
 rcases List.mem_cons.1 hm with rfl | hm
 rw[hfoot i hk]at hi;omega
 exact ⟨it,hm,hk⟩
theorem smui (S:St w0 M0 ds a w l bs fs) [Ev ⟨[],l⟩ x (.map (some b))] [Ev ⟨[],l⟩ y (.int .i64 k)] [Ev ⟨[],l⟩ u v] [ht:Und P t (.map kt et)] [hk:Und P kt (.int .i64)] [hm:HasMpn bs b kv] [hrep:ReplI bs (mpn b kv) (mpn b (kiPut k v kv)) bs'] [hp:PutO l d undef l']
  (K:∀ a w,St w0 M0 ds a w l' bs' fs→WL P r ops Q rest a w):WL P r ops Q (⟨d,.mapUpdate t x y u,ty,pos,af,none⟩::rest) a w:=by
 refine wl_plain rfl ?_
 rw[semAt_nd rfl]
 obtain ⟨es,clock,hb,he,hbn,hnd⟩:(mpn b kv).holds w:=S.wd.held _ hm.mem
 have hf:=find_ki k es.toList kv 0 he
 have h1:=MapKept.run_getObj_map (P:=P) hb
 have h2:=run_keyI (P:=P) (k:=k) hk.eq false w
 have h3:=MapKept.run_findKey (P:=P) (w:=w) hk.eq hf
 have S':=S.put (d:=d) (v:=undef) (l':=l')
 have key:∃ es' clock',(Instr.mapUpdate t (.map (some b)) (.int .i64 k) v).run P w=.ok () { w with heap:=w.heap.setIfInBounds b (.map es' clock') }∧ents es'=((kiPut k v kv).map fun x=>((.int .i64 x.1),x.2))∧(∀ e∈es'.toList,e.born < clock')∧(es'.toList.map (·.born)).Nodup:=by
  cases hi:kiIdx k kv 0 with
  | none=>
   rw[hi]at h3
   refine ⟨es.push { key:=.int .i64 k,val:=v,born:=clock },clock+1,?_,?_,?_,?_⟩
   simp[Instr.mapUpdate,Sem.run_bind,run_und,h1,h2,h3,MapKept.run_setObj_map _ hb]
   rw[kiPut_none hi,List.map_append,←he];simp[ents]
   intro e hem
   simp only[Array.toList_push,List.mem_append,List.mem_singleton]at hem
   rcases hem with hem | rfl
   have:=hbn e hem;omega
   exact Nat.lt_succ_self _
   simp only[Array.toList_push,List.map_append,List.map_cons,List.map_nil]
   refine List.nodup_append.2 ⟨hnd,by simp,fun x hx y hy hxy=>?_⟩
   obtain ⟨e,hem,rfl⟩:=List.mem_map.1 hx
   have:=hbn e hem
   obtain rfl:=List.mem_singleton.1 hy
   omega
  | some q=>
   obtain ⟨j,x0⟩:=q
   rw[hi]at h3
   have h5:=kiIdx_some hi
   have hje:(ents es)[j]? = some (.int .i64 k,x0):=by
    rw[he,List.getElem?_map]
    have:=h5.2
    simp at this
    simp[this]
   obtain ⟨en,hen,hen2⟩:∃ en,es[j]? = some en∧en.key=.int .i64 k:=by
    simp only[ents,List.getElem?_map]at hje
    obtain ⟨en,q1,q2⟩:=Option.map_eq_some_iff.1 hje
    simp at q2
    exact ⟨en,by simpa using q1,q2.1⟩
   have hsb:Instr.sameBits 10000 (.int .i64 k) (.int .i64 k)=true:=by simp[Instr.sameBits]
   have hborn:(es.modify j fun e=>{ e with key:=.int .i64 k,val:=v }).toList.map (·.born)=es.toList.map (·.born):=by
    apply List.ext_getElem?
    intro i
    simp only[List.getElem?_map,Array.getElem?_toList,Array.getElem?_modify]
    by_cases hij:j=i
    subst hij;rw[if_pos rfl,Option.map_map];rfl
    rw[if_neg hij]
   refine ⟨es.modify j fun e=>{ e with key:=.int .i64 k,val:=v },clock,?_,?_,fun e hem=>?_,by rw[hborn];exact hnd⟩
   simp[Instr.mapUpdate,Sem.run_bind,run_und,h1,h2,h3,hen,hen2,Instr.keyThatStays,hsb,MapKept.run_setObj_map _ hb]
   rw[kiPut_idx hi,List.map_set,←he]
   apply List.ext_getElem?
   intro i
   simp only[ents,List.getElem?_map,Array.getElem?_toList,Array.getElem?_modify,List.getElem?_set,Nat.sub_zero]
   by_cases hij:j=i
   subst hij
   have hlt:j < es.size:=(Array.getElem?_eq_some_iff.1 hen).1
   simp[hlt]
   simp[hij]
   have hm1:e.born∈es.toList.map (·.born):=by rw[←hborn];exact List.mem_map.2 ⟨e,hem,rfl⟩
   obtain ⟨e0,he0,h0⟩:=List.mem_map.1 hm1
   rw[←h0];exact hbn e0 he0
 obtain ⟨es',clock',hrun,hen⟩:=key
 have e1:(xop a.eval (.mapUpdate t x y u) ty).run P w=.ok .skip { w with heap:=w.heap.setIfInBounds b (.map es' clock') }:=by
  simp[xop,execOp,S.fr.ev (x:=x) (v:=.map (some b)),S.fr.ev (x:=y) (v:=.int .i64 k),S.fr.ev (x:=u) (v:=v),hrun]
 simp only[e1,Oper.uponIn]
 have hset:=MapKept.heap_set (o':=.map es' clock') hb
 have hlt:b < w.heap.size:=(Array.getElem?_eq_some_iff.1 hb).1
 exact K _ _ (S.reput (x:=mpn b kv) (y:=mpn b (kiPut k v kv)) S'.slots S'.defers rfl ⟨rfl,rfl,rfl,by simp,fun i _ hn=>hset.2 i hn⟩ ⟨es',clock',hset.1,hen⟩ (fun i h=>.inl h) (fun i h=>by cases h;simpa using hlt) (mpn_loc _ _))
end
section
variable {P:Program} {ty t t':TypeId} {l:Cx} {bs:List Item} {fs:List (World→Prop)} {x y:Operand} {e:TypeId}
instance opPnE [Ev l x (.pointer none)] [Ev l y (.pointer none)] [Und P t (.pointer e)]:OpQ P (.binOp .eql t x y t') ty l bs fs (.bool true):=⟨fun ρ w h _=>by
 simp[xop,execOp,h.ev (x:=x) (v:=.pointer none),h.ev (x:=y) (v:=.pointer none),eqGuard,binOp,run_equal (P:=P) (t:=t) (u:=.pointer none) (v:=.pointer none) (d:=.pointer e) (b:=true) w rfl]⟩
instance opPsE {a:Addr} [Ev l x (.pointer (some a))] [Ev l y (.pointer none)] [Und P t (.pointer e)]:OpQ P (.binOp .eql t x y t') ty l bs fs (.bool false):=⟨fun ρ w h _=>by
 simp[xop,execOp,h.ev (x:=x) (v:=.pointer (some a)),h.ev (x:=y) (v:=.pointer none),eqGuard,binOp,run_equal (P:=P) (t:=t) (u:=.pointer (some a)) (v:=.pointer none) (d:=.pointer e) (b:=false) w rfl]⟩
instance opPsN {a:Addr} [Ev l x (.pointer (some a))] [Ev l y (.pointer none)] [Und P t (.pointer e)]:OpQ P (.binOp .neq t x y t') ty l bs fs (.bool true):=⟨fun ρ w h _=>by
 simp[xop,execOp,h.ev (x:=x) (v:=.pointer (some a)),h.ev (x:=y) (v:=.pointer none),eqGuard,binOp,run_equal (P:=P) (t:=t) (u:=.pointer (some a)) (v:=.pointer none) (d:=.pointer e) (b:=false) w rfl]⟩
end
structure Blk where
 l:List UInt8
 h:l.length=64
deriving DecidableEq
abbrev Blk.cells (b:Blk):List Value:=encL b.l
abbrev vBlk (b:Blk):Value:=.agg ⟨encL b.l⟩
theorem Blk.len (b:Blk):(encL b.l).length=64:=by rw[encL_len,b.h];rfl
instance encBlk:Enc Blk:=⟨64,fun b=>encL b.l,Blk.len,fun b u hu=>encL_one b.l u hu⟩
instance lenBlk {b:Blk} : LenIs (encL b.l) 64:=⟨b.len⟩
instance (priority:=500) takeW {cs:List Value} {n:Nat} [h:LenIs cs n]:TakeN cs n cs:=⟨h.eq,List.prefix_refl _⟩
instance flatBlk {b:List UInt8} : Flat (encL b):=⟨encL_one b⟩
instance (priority:=500) sfB {a b:Blk} : SetFront (encL a.l) (encL b.l) (encL b.l):=⟨by rw[a.len,b.len];exact Nat.le_refl _,by rw[b.len,List.drop_of_length_le (by rw[a.len];exact Nat.le_refl _),List.append_nil]⟩
def u32s (l:List Int):List Value:=l.map (Value.int .u32)
theorem u32s_get {l:List Int} {k:Nat} (h:k < l.length):(u32s l)[k]? = some (.int .u32 (nthI l k)):=by
 rw[u32s,List.getElem?_map,nthI_get h];rfl
theorem u32s_len (l:List Int):(u32s l).length=l.length:=by simp[u32s]
theorem u32s_set (l:List Int) (k:Nat) (x:Int) (h:k < l.length):(u32s l).take k++[.int .u32 x]++(u32s l).drop (k+1)=u32s (l.set k x):=by
 unfold u32s
 rw[List.map_set]
 apply List.ext_getElem?
 intro i
 rw[List.getElem?_set]
 by_cases h1:i < k
 rw[List.append_assoc,List.getElem?_append_left (by rw[List.length_take,List.length_map];omega),List.getElem?_take,if_pos h1,if_neg (by omega)]
 by_cases h2:i=k
 subst h2
 rw[if_pos rfl,if_pos (by simpa using h),List.append_assoc,List.getElem?_append_right (by rw[List.length_take,List.length_map];omega)]
 simp[Nat.min_eq_left (Nat.le_of_lt h)]
 rw[if_neg (fun h=>h2 h.symm),List.append_assoc,List.getElem?_append_right (by rw[List.length_take,List.length_map];omega),List.length_take,List.length_map,Nat.min_eq_left (by omega),List.getElem?_append_right (by simp;omega),List.getElem?_drop]
 congr 1;simp;omega
instance nthU {l:List Int} {k:Nat} [h:KLt k l.length]:Nth (u32s l) k (.int .u32 (nthI l k)):=⟨u32s_get h.lt⟩
instance setU {l:List Int} {k:Nat} {x:Int} [h:KLt k l.length]:SetSeg (u32s l) k [.int .u32 x] (u32s (l.set k x)):=⟨by rw[u32s_len];exact h.lt,u32s_set l k x h.lt⟩
instance lenU {l:List Int} {n:Nat} [h:LenN l n]:LenIs (u32s l) n:=⟨by rw[u32s_len];exact h.eq⟩
instance flatU {l:List Int} : Flat (u32s l):=⟨fun v h=>by obtain ⟨x,-,rfl⟩:=List.mem_map.1 h;rfl⟩
instance sfU8 {a b:List Int} [h:LenN a 8] [k:LenN b 8]:SetFront (u32s a) (u32s b) (u32s b):=⟨by rw[u32s_len,u32s_len,h.eq,k.eq];exact Nat.le_refl _,by rw[List.drop_of_length_le (by rw[u32s_len,u32s_len,h.eq,k.eq];exact Nat.le_refl _),List.append_nil]⟩
instance (priority:=1100) addnZ {b:Nat} : AddN 0 b b:=⟨Nat.zero_add b⟩
section
variable {P:Program} {ty t t':TypeId} {l:Cx} {bs:List Item} {fs:List (World→Prop)} {x y:Operand} {e n k j:Nat} {kk kl:IntKind} {m i:Int} {xs:List Int} {z:Value} {by_:Nat}
instance opIdxU [Ev l x (.agg ⟨u32s xs⟩)] [Ev l y (.int kk m)] [hm:IsNat m k] [ht:Und P t (.array n e)] [hti:TI P e z 1 by_] [ha:AggT P e false] [hk:KLt k xs.length] [hn:LenN xs n]:OpQ P (.index t x y) ty l bs fs (.int .u32 (nthI xs k)):=⟨fun ρ w h mm=>by
 have e1:=hm.eq
 subst e1
 have hlt:=hk.lt
 have e2:(⟨u32s xs⟩:Array Value)[k]? = some (.int .u32 (nthI xs k)):=by
  have:=u32s_get hlt
  simpa using this
 have e3:k < (⟨u32s xs⟩:Array Value).size:=by show k < (u32s xs).length;rw[u32s_len];exact hlt
 simp[xop,execOp,h.ev (x:=x) (v:=.agg ⟨u32s xs⟩),h.ev (x:=y) (v:=.int kk (k:Int)),Instr.index,asIntOf,Sem.run_bind,run_und,run_size,part,ha.run]
 rw[if_pos (by rw[←hn.eq];exact hlt),u32s_get hlt]
 rfl⟩
instance opShl [Ev l x (.int kk m)] [Ev l y (.int kl i)] [hj:IsNat i j]:OpQ P (.binOp .shl t x y t') ty l bs fs (.int kk (kk.wrap (m*2 ^ (min j kk.bits)))):=⟨fun ρ w h _=>by
 have h2:=hj.eq
 subst h2
 have h3:¬((j:Int) < 0):=by omega
 simp[xop,execOp,h.ev (x:=x) (v:=.int kk m),h.ev (x:=y) (v:=.int kl (j:Int)),eqGuard,binOp,Op.shift,h3]⟩
end
instance opBuildA {P:Program} {t ty e:TypeId} {l:Cx} {bs:List Item} {fs:List (World→Prop)} {parts:List (Nat × Operand)} {m sz by1:Nat} {z1:Value} {z:Value} {n by_:Nat} {zs cs:List Value} [ht:Und P t (.array m e)] [TI P e z1 sz by1] [TI P t z n by_] [hc:Cells z zs] [hs:SetMany (fun i=>some (i*sz,sz)) l zs parts cs]:OpQ P (.build t parts.toArray) ty l bs fs (.agg ⟨cs⟩):=⟨fun ρ w h _=>by
 have h1:=hs.run ρ h
 have hz:z.cells=zs.toArray:=by rw[←hc.eq]
 simp only[xop,execOp,Instr.build,Sem.run_bind,run_zero,Result.andThen_ok,run_und,run_size,hz,List.map_toArray]
 simp[h1]⟩
instance (priority:=1200) opSliceArr {P:Program} {t ty e:TypeId} {lc:Cx} {bs:List Item} {fs:List (World→Prop)} {x:Operand} {ol oh:Option Operand} {b lo hi n sz by_:Nat} {z:Value} [Ev lc x (.pointer (some ⟨b,0,none⟩))] [hl:EvB lc ol 0 lo] [hh:EvB lc oh n hi] [ht:Und P t (.array n e)] [TI P e z sz by_] [h2:LeC hi n] [h3:LeC lo hi] :
  OpQ P (.slice t x ol oh none) ty lc bs fs (.slice (some (if n=lo then ⟨b,0,none⟩ else ⟨b,lo*sz,none⟩)) (hi - lo) (n - lo)):=⟨fun ρ w hf _=>by
 have hb:(Instr.sliceBounds false n n (ol.map ρ) (oh.map ρ) none).run P w=.ok (lo,hi,n) w:=by
  rcases hh.eq with ⟨rfl,rfl⟩ | ⟨o2,kk2,rfl,h'⟩
  rcases hl.eq with ⟨rfl,rfl⟩ | ⟨o3,kk3,rfl,h''⟩
  simp[Instr.sliceBounds]
  have e3:=hf.ev (x:=o3) (v:=.int kk3 (lo:Int))
  simp[Instr.sliceBounds,e3,run_sliceBound h3.le]
  have e2:=hf.ev (x:=o2) (v:=.int kk2 (hi:Int))
  rcases hl.eq with ⟨rfl,rfl⟩ | ⟨o3,kk3,rfl,h''⟩
  simp[Instr.sliceBounds,e2,run_sliceBound h2.le]
  have e3:=hf.ev (x:=o3) (v:=.int kk3 (lo:Int))
  simp[Instr.sliceBounds,Sem.run_bind,e2,e3,run_sliceBound h2.le,run_sliceBound h3.le]
 have eX:ρ x=.pointer (some ⟨b,0,none⟩):=hf.ev
 simp[xop,execOp,Instr.sliceAt,eX,Sem.run_bind,run_und,Instr.sureAddr,hb,run_size,add_lit]⟩
instance opArrP {P:Program} {t ty e:TypeId} {lc:Cx} {bs:List Item} {fs:List (World→Prop)} {x:Operand} {p:Option Addr} {n m c:Nat} [Ev lc x (.slice p n c)] [ht:Und P t (.array m e)] [h:LeC m n]:OpQ P (.sliceToArrayPointer t x) ty lc bs fs (.pointer p):=⟨fun ρ w hf _=>by
 have hle:=h.le
 have h1:¬(n < m):=by omega
 simp[xop,execOp,Instr.arrayAt,hf.ev (x:=x) (v:=.slice p n c),Sem.run_bind,run_und,h1]⟩
def bxk (b:Nat) (T:TypeId) (l:List Int) (k:Nat):Item where
 foot:=fun i=>i=b
 holds:=fun w=>∃ v,w.heap[b]? = some (.cells (u32s (l.set k v)).toArray T (0,0))
instance itBxk {b:Nat} {T:TypeId} {l:List Int} {k:Nat} : ItOk (bxk b T l k):=⟨fun w1 w2 h ⟨v,h1⟩=>⟨v,by rw[h b rfl];exact h1⟩,fun w ⟨v,h⟩ i hi=>by obtain rfl:i=b:=hi;exact (Array.getElem?_eq_some_iff.1 h).1⟩
class HasBxk (bs:List Item) (b:Nat) (T:outParam TypeId) (l:outParam (List Int)) (k:outParam Nat):Prop where mem:bxk b T l k∈bs
instance hbk0 {b:Nat} {T:TypeId} {l:List Int} {k:Nat} {bs:List Item} : HasBxk (bxk b T l k::bs) b T l k:=⟨List.mem_cons_self ..⟩
instance (priority:=900) hbk1 {b:Nat} {T:TypeId} {l:List Int} {k:Nat} {x:Item} {bs:List Item} [h:HasBxk bs b T l k]:HasBxk (x::bs) b T l k:=⟨List.mem_cons_of_mem _ h.mem⟩
class NeK (j k:Nat):Prop where ne:j≠k
theorem bxk_cell {w:World} {b:Nat} {T:TypeId} {l:List Int} {k j:Nat} (h:(bxk b T l k).holds w) (hj:j < l.length) (hn:j≠k):w.cell? ⟨b,j,none⟩=some (.int .u32 (nthI l j)):=by
 obtain ⟨v,h⟩:=h
 rw[cell_of_row w b j _ T (0,0) h]
 have h1:=u32s_get (l:=l.set k v) (k:=j) (by rw[List.length_set];exact hj)
 have h2:nthI (l.set k v) j=nthI l j:=by simp[nthI,List.getD_eq_getElem?_getD,Ne.symm hn]
 rw[h2]at h1
 simpa using h1
section
variable {P:Program} {r:Option Nat} {ops:Array Oper} {Q:Exit→Act→World→Prop} {w0:World} {M0:Nat→Prop} {ds:List Deferred} {a:Act} {w:World} {l l':List Value} {bs bs':List Item} {fs:List (World→Prop)}
 {d:Option Nat} {ty t:TypeId} {pos:String} {af:Array Edge} {rest:List Oper} {x y:Operand} {z:Value} {by_ b k j:Nat} {T:TypeId} {xs:List Int}
instance (priority:=820) opLoadBk {lc:Cx} [Ev lc x (.pointer (some ⟨b,j,none⟩))] [hb:HasBxk bs b T xs k] [ha:AggT P t false] [hj:KLt j xs.length] [hn:NeK j k]:OpQ P (.load t x) ty lc bs fs (.int .u32 (nthI xs j)):=⟨fun ρ w hf mm=>by
 have hc:=bxk_cell (mm.held _ hb.mem) hj.lt hn.ne
 simp[xop,execOp,Instr.loadAt,hf.ev (x:=x) (v:=.pointer (some ⟨b,j,none⟩)),Instr.sureAddr,loadVar,Sem.run_bind,ha.run,load,Sem.run,hc]⟩
theorem St.hideK (S:St w0 M0 ds a w l bs fs) (b:Nat) (T:TypeId) (xs:List Int) (k:Nat) (hb:HasBox bs b T (u32s xs)) [hrep:ReplI bs (Wk.box b T (u32s xs)) (bxk b T xs k) bs']:St w0 M0 ds a w l bs' fs:=
 S.reput (x:=Wk.box b T (u32s xs)) (y:=bxk b T xs k) S.slots S.defers rfl (Agree.refl _ _) ⟨nthI xs k,by
  have h:=S.box b (h:=hb)
  have e:xs.set k (nthI xs k)=xs:=by
   by_cases hk:k < xs.length
   rw[nthI,List.getD_eq_getElem?_getD,List.getElem?_eq_getElem hk];simp
   rw[List.set_eq_of_length_le (by omega)]
  rw[e];exact h⟩ (fun _ h=>.inl h) (fun i hi=>by obtain rfl:i=b:=hi;exact (Array.getElem?_eq_some_iff.1 (S.box _ (h:=hb))).1) itBxk.loc
theorem St.showK (S:St w0 M0 ds a w l bs fs) (b:Nat) (T:TypeId) (xs ys:List Int) (k:Nat) (hh:w.heap[b]? = some (.cells (u32s ys).toArray T (0,0))) [hrep:ReplI bs (bxk b T xs k) (Wk.box b T (u32s ys)) bs']:St w0 M0 ds a w l bs' fs:=
 S.reput (x:=bxk b T xs k) (y:=Wk.box b T (u32s ys)) S.slots S.defers rfl (Agree.refl _ _) hh (fun _ h=>.inl h) (fun i hi=>by obtain rfl:i=b:=hi;exact (Array.getElem?_eq_some_iff.1 hh).1) (box_loc _ _ _)
theorem swk (b:Nat) (T:TypeId) (xs:List Int) (k:Nat) {m:Int} (S:St w0 M0 ds a w l bs fs) [Ev ⟨[],l⟩ x (.pointer (some ⟨b,k,none⟩))] [Ev ⟨[],l⟩ y (.int .u32 m)] [TI P t z 1 by_] [hrep:ReplI bs (bxk b T xs k) (bxk b T xs k) bs] [hp:PutO l d undef l'] (hk:k < xs.length) (hh:w.heap[b]? = some (.cells (u32s xs).toArray T (0,0)))
  (K:∀ a w,w.heap[b]? = some (.cells (u32s (xs.set k m)).toArray T (0,0))→St w0 M0 ds a w l' bs fs→WL P r ops Q rest a w):WL P r ops Q (⟨d,.store t x y,ty,pos,af,none⟩::rest) a w:=by
 refine wl_plain rfl ?_
 rw[semAt_nd rfl]
 have hrun:=run_storeCells_at (P:=P) b k T [Value.int .u32 m] 0 (u32s xs).toArray w hh (by simp[u32s_len];omega) (by intro v hv;obtain rfl:=List.mem_singleton.1 hv;rfl)
 simp only[Nat.add_zero,List.length_singleton]at hrun
 have e1:(xop a.eval (.store t x y) ty).run P w=.ok .skip (w.setRow b ((u32s xs).take k++[Value.int .u32 m]++(u32s xs).drop (k+1)).toArray):=by
  have hcs:(Value.int .u32 m).cells = #[Value.int .u32 m]:=rfl
  simp[xop,execOp,Instr.storeAt,S.fr.ev (x:=x) (v:=.pointer (some ⟨b,k,none⟩)),S.fr.ev (x:=y) (v:=.int .u32 m),Instr.sureAddr,storeVar,run_size,Sem.run_bind,hcs,hrun]
 rw[u32s_set xs k m hk]at e1
 simp only[e1,Oper.uponIn]
 have S':=S.put (d:=d) (v:=undef) (l':=l')
 have hnew:=setRow_heap w b (u32s xs).toArray (u32s (xs.set k m)).toArray T (0,0) hh
 exact K _ _ hnew (S.reput (x:=bxk b T xs k) (y:=bxk b T xs k) S'.slots S'.defers rfl (Agree.setRow w b _ rfl) ⟨m,hnew⟩ (fun _ h=>.inl h) (itBxk.lt _ ⟨m,hnew⟩) itBxk.loc)
end
section
variable {P:Program} {r:Option Nat} {Q:Exit→Act→World→Prop} {w0:World} {M0:Nat→Prop} {ds:List Deferred} {a:Act} {w:World} {l:List Value} {bs:List Item} {fs:List (World→Prop)}
theorem c_drwHe0 {id:Nat} {lo:List Oper} (t:Tr) (S:St w0 M0 ds a w l bs fs) (mods:(Nat→Value)→List (Nat × Value)) {l1:(Nat→Value)→List Value} [∀ uu,SetG l (mods uu) (l1 uu)] (bs0:List Item) (bs1:List Item) (fs1:List (World→Prop)) (rel:Prop)
  (h:∀ w',w'.heap=w.heap→St w0 M0 ds a w' l bs fs→AT P lo.toArray (fun w=>Wd w0 M0 w bs0 fs) (fun a w=>∃ vv,rel∧St w0 M0 ds a w (l1 vv) bs1 fs1) t a w') (hK:∀ uu a w,rel→St w0 M0 ds a w (l1 uu) bs1 fs1→Q .normal a w) (hm:P.follows .mixedOrders=true:=by kernel_rfl)
  (hd:((lo.all fun o=>!isDefer o.op)&&(Nat.beq t.len lo.length&&(Region.noSelect lo.toArray&&flowT lo.toArray t (Array.replicate lo.length false))))=true:=by kernel_rfl):Wp P r (.region id lo.toArray true) Q a w:=by
 simp only[Bool.and_eq_true]at hd
 refine wpIn_region_any hm (any_of_ac (C:=fun w=>Wd w0 M0 w bs0 fs) (fun i o ho=>?_) _ _ _ _ ?_)
 have:=List.all_eq_true.1 hd.1 o (by
  rw[List.getElem?_toArray]at ho
  exact List.mem_of_getElem? ho)
 simpa using this
 have:=h { w with drawn:=w.drawn+1 } rfl ⟨S.slots,S.defers,S.wd.step (Agree.drawn _ w _)⟩ _ hd.2.2.1 hd.2.2.2
 rw[Nat.eq_of_beq_eq_true hd.2.1]at this
 have hk:∀ a w,(∃ vv,rel∧St w0 M0 ds a w (l1 vv) bs1 fs1)→Q .normal a w:=fun a w h=>by obtain ⟨vv,h1,h2⟩:=h;exact hK vv a w h1 h2
 simpa using ac_mono hk _ _ _ _ this
end
theorem zeros_u8 (m:Nat):(Builtin.zeroCells (Value.int .u8 0).cells m).toList=encL (List.replicate m (0:UInt8)):=by
 have h1:∀ m,encL (List.replicate m (0:UInt8))=List.replicate m (Value.int .u8 0):=fun m=>by
  induction m with
  | zero=>rfl
  | succ m ih=>rw[qqC,encL_cons,ih,qqC];rfl
 rw[h1]
 apply List.ext_getElem?
 intro i
 rcases Nat.lt_or_ge i m with h | h
 ·simp[Builtin.zeroCells,Value.cells,h,Nat.mod_one]
 ·simp[Builtin.zeroCells,Value.cells,Nat.not_lt.2 h]
theorem rep_flat (m:Nat) (v:Value):(List.replicate m [v]).flatten=List.replicate m v:=by
 induction m with
 | zero=>rfl
 | succ m ih=>rw[qqC,List.flatten_cons,ih];rfl
section
variable {P:Program} {r:Option Nat} {ops:Array Oper} {Q:Exit→Act→World→Prop} {w0:World} {M0:Nat→Prop} {ds:List Deferred} {a:Act} {w:World} {l:List Value} {bs:List Item} {fs:List (World→Prop)}
 {d:Option Nat} {ty t e:TypeId} {pos:String} {af:Array Edge} {rest:List Oper} {x y:Operand} {by_ c:Nat} {xs:List Value}
theorem sapz1 (p:Option Addr) (n:Nat) {m:Nat} {mi:Int} {tn:TypeId} {kn k:IntKind} {l':Option Addr→Nat→List Value} {bs':Option Addr→Nat→List Item} (S:St w0 M0 ds a w l bs fs) [hr:HasRow bs p n e 1 c xs] [Ev ⟨[],l⟩ x (.slice p n c)] [Ev ⟨[],l⟩ y (.int k mi)] [hm:IsNat mi m] [ht:Und P t (.slice e)] [htn:Und P tn (.int kn)] [hti:TI P e (.int .u8 0) 1 by_]
  [hp:∀ p' c',PutO l d (.slice p' (n+m) c') (l' p' c')] [hrep:∀ p' c',ReplI bs (row e 1 p n c xs) (row e 1 p' (n+m) c' (xs++encL (List.replicate m (0:UInt8)))) (bs' p' c')] (hn:0 < n) (h63:n+m≤maxLen) (h48:(n+m)*by_≤140737488355328)
  (K:∀ p' c' a w,St w0 M0 ds a w (l' p' c') (bs' p' c') fs→WL P r ops Q rest a w) :
  WL P r ops Q (⟨d,.call { callee:=.builtin .append,args:=#[x,y],argTypes:=#[t,tn] },ty,pos,af,none⟩::rest) a w:=by
 refine wl_plain rfl ?_
 rw[semAt_nd rfl]
 obtain ⟨ii,hi',hz',hsize,hby⟩:=hti.ex
 subst hby
 have hmm:=hm.eq
 subst hmm
 have h63':=h63
 have hrow:=S.row p n
 have hxl:xs.length=n:=by have:=hrow.1;omega
 obtain ⟨zs,hzs⟩:∃ zs,zs=encL (List.replicate m (0:UInt8)):=⟨_,rfl⟩
 have hzl:zs.length=m:=by rw[hzs,encL_len,List.length_replicate];exact Nat.mul_one _
 have hz1:∀ u∈zs,u.oneCell'=true:=by rw[hzs];exact encL_one _
 have hzz:(Builtin.zeroCells (Value.int .u8 0).cells m).toList=zs:=by rw[hzs];exact zeros_u8 m
 suffices h:∃ p' c' w',(Builtin.append_ #[t,tn] ty #[.slice p n c,.int k (m:Int)]).run P w=.ok (.slice p' (n+m) c') w'∧Agree (fun k=>∃ ad,p=some ad∧k=ad.block) w w'∧w'.ownsRow 0 e 1 (.slice p' (n+m) c') (n+m) (xs++zs)∧∀ ad,p'=some ad→p=some ad∨w.heap.size≤ad.block by
  obtain ⟨p',c',w',hrun,hag,hown,hnew⟩:=h
  have e1:(xop a.eval (.call { callee:=.builtin .append,args:=#[x,y],argTypes:=#[t,tn] }) ty).run P w=.ok (.value (.slice p' (n+m) c')) w':=by
   simp[xop,execOp,resolve,invoke,builtin,S.fr.ev (x:=x) (v:=.slice p n c),S.fr.ev (x:=y) (v:=.int k (m:Int)),hrun]
  simp only[e1,Oper.uponIn]
  have:=hp p' c'
  have:=hrep p' c'
  have S':=S.put (d:=d) (v:=.slice p' (n+m) c') (l':=l' p' c')
  rw[hzs]at hown
  exact K _ _ _ _ (S.reput (x:=row e 1 p n c xs) (y:=row e 1 p' (n+m) c' (xs++encL (List.replicate m (0:UInt8)))) S'.slots S'.defers rfl hag hown (fun k ⟨ad,h1,h2⟩=>(hnew ad h1).imp (fun h=>⟨ad,h,h2⟩) (fun h=>by rw[h2];exact h)) (row_foot_lt hown) (row_loc _ _ _ _ _ _))
 have hs0:0 < ii.size:=by omega
 rcases Nat.eq_zero_or_pos m with h0 | h0
 subst h0
 have hnc:=own_le hrow
 have hz0:zs=[]:=List.eq_nil_of_length_eq_zero hzl
 refine ⟨p,c,w,?_,Agree.refl _ _,by rw[hz0,List.append_nil];exact hrow,fun _ h=>.inl h⟩
 have hw:IntKind.i64.wrap (0:Int)=0:=by decide
 cases p <;> simp[Builtin.append_,run_und,run_underlying htn.eq,sizeOf,typeInfo,hi',asInt,asIntOf,hw,hnc,storeCells,Sem.run_bind]
 by_cases hroom:n+m≤c
 obtain ⟨ys,hyl,hmore⟩:=own_more hrow (Nat.le_add_right n m) hroom (by omega) hn
 obtain ⟨g,cur,hpp,hgc,-⟩:=own_cells hrow hn
 obtain ⟨w',hrun,hag,hown⟩:=own_set (P:=P) hmore (vs:=zs) (o:=n) hpp (by omega) hz1
 have hfin:(xs++ys).take n++zs++(xs++ys).drop (n+zs.length)=xs++zs:=by
  rw[←hxl,List.take_left,List.drop_append,List.drop_of_length_le (by omega),qqF,List.drop_of_length_le (by omega),List.append_nil]
 rw[hfin]at hown
 refine ⟨p,c,w',?_,hag,hown,fun _ h=>.inl h⟩
 have hw:IntKind.i64.wrap (m:Int)=m:=by rw[IntKind.wrap_i64];unfold maxLen at h63;omega
 have hneg:¬((m:Int) < 0):=by omega
 have hns:¬(m=0):=by omega
 have hmb:m*ii.bytes≤(n+m)*ii.bytes:=Nat.mul_le_mul_right _ (by omega)
 have h48i:¬(281474976710656 < (m:Int)*(ii.bytes:Int)):=by rw[←Int.natCast_mul];omega
 rw[hpp]
 have hst:(storeCells (Addr.add ⟨g,0,none⟩ n) zs).run P w=.ok () w':=by rw[add_lit];exact hrun
 have hzz2:(Builtin.zeroCells (Value.int .u8 0).cells m)=zs.toArray:=by rw[←hzz]
 simp[Builtin.append_,run_und,run_underlying htn.eq,sizeOf,typeInfo,zeroValue,hi',hz',hsize,asInt,asIntOf,hw,hneg,hns,h48i,hroom,hzz2,Sem.run_bind,hst]
 have hold:(Builtin.firstCells ii.size n (.slice p n c)).run P w.drew=.ok xs.toArray w.drew:=by
  obtain ⟨g,cur,rfl,hg,hnc,hcs,htk,hcm⟩:=own_cells hrow hn
  refine run_firstCells_some w.drew ii.size n _ n c _ (by rw[hsize];omega) (fun j u hj=>?_)
  show w.cell? _=some u
  rw[add_lit,cell_of_row w g j cur e (0,0) hg]
  rw[←htk,List.getElem?_take]at hj
  split at hj
  simpa using hj
  cases hj
 have hmb:m*ii.bytes≤(n+m)*ii.bytes:=Nat.mul_le_mul_right _ (by omega)
 have hrun:=Lib.run_append_grow_zeros (P:=P) w t tn ty e ii _ k kn ht.eq htn.eq hi' hz' p n c _ hold m h0 hs0 (by omega) (by unfold maxLen at h63;omega) (by omega) (growslice_fits (by omega) h48)
 have hge:=grownCap_ge w (n+m) c e
 have hl2:(xs++zs).length=n+m:=by rw[List.length_append];omega
 have h1z:(Value.int .u8 0).cells.size=1:=rfl
 refine ⟨_,_,_,hrun,(Agree.drawn _ w _).trans (Agree.alloc _ w.drew _),⟨by omega,.inr ⟨w.heap.size,_,_,rfl,Nat.zero_le _,heap_alloc_new w.drew _,hge,grownCap_le_maxLen w (n+m) c e h63',?_,?_⟩⟩,fun ad h=>.inr (by cases h;exact Nat.le_refl _)⟩
 rw[Array.size_append,Array.size_append,size_zeroCells,size_zeroCells,h1z,List.size_toArray];omega
 rw[Array.toList_append,Array.toList_append,hzz]
 show (xs++zs++_).take _=_
 rw[show (n+m)*1=(xs++zs).length from by omega];exact List.take_left
theorem smkc {mi mj:Int} {kk kl:IntKind} {l':Nat→List Value} (n m:Nat) (S:St w0 M0 ds a w l bs fs) [Ev ⟨[],l⟩ x (.int kk mi)] [Ev ⟨[],l⟩ y (.int kl mj)] [ht:Und P t (.slice e)] [hti:TI P e (.int .u8 0) 1 by_]
  [hp:∀ b,PutO l d (.slice (some ⟨b,0,none⟩) n m) (l' b)] (hi:mi=n) (hj:mj=m) (hnm:n≤m) (hb:by_*m≤281474976710656) (hm:m≤maxLen)
  (K:∀ b a w,St w0 M0 ds a w (l' b) (row e 1 (some ⟨b,0,none⟩) n m (encL (List.replicate n (0:UInt8)))::bs) fs→WL P r ops Q rest a w):WL P r ops Q (⟨d,.makeSlice t x y,ty,pos,af,none⟩::rest) a w:=by
 refine wl_plain rfl ?_
 rw[semAt_nd rfl]
 subst hi hj
 obtain ⟨i,hi,hz,hs,hby⟩:=hti.ex
 have hb':(i.bytes:Int)*(m:Int)≤281474976710656:=by
  have h:((by_*m:Nat):Int)≤281474976710656:=by omega
  rw[hby];rwa [Int.natCast_mul]at h
 have hr:=run_make (P:=P) w t e i _ ht.eq hi hz kk kl n m (by omega) (by omega) hb' (by simp only[maxLen]at hm;omega)
 have h1:∀ m,encL (List.replicate m (0:UInt8))=List.replicate m (Value.int .u8 0):=fun m=>by
  induction m with
  | zero=>rfl
  | succ m ih=>rw[qqC,encL_cons,ih,qqC];rfl
 have hcells:madeCells (Value.int .u8 0).cells ((m:Int).toNat*i.size)=(encL (List.replicate m (0:UInt8))).toArray:=by
  have h2:=range_rep m [Value.int .u8 0] (by simp)
  have h3:=rep_flat m (Value.int .u8 0)
  rw[h1,←h3,←h2,hs];rfl
 rw[hcells]at hr
 simp only[Int.toNat_natCast]at hr
 have e1:(xop a.eval (.makeSlice t x y) ty).run P w=.ok (.value (.slice (some ⟨w.heap.size,0,none⟩) n m)) (w.alloc (.cells (encL (List.replicate m (0:UInt8))).toArray e)):=by
  simp[xop,execOp,S.fr.ev (x:=x) (v:=.int kk (n:Int)),S.fr.ev (x:=y) (v:=.int kl (m:Int)),hr]
 simp only[e1,Oper.uponIn]
 have:=hp w.heap.size
 have S':=S.put (d:=d) (v:=.slice (some ⟨w.heap.size,0,none⟩) n m)
 have S2:St w0 M0 ds _ _ (l' w.heap.size) (box w.heap.size e (encL (List.replicate m (0:UInt8)))::bs) fs:=⟨S'.slots,S'.defers,S'.wd.alloc e _⟩
 have hlm:(encL (List.replicate m (0:UInt8))).length=m:=by rw[encL_len,List.length_replicate];exact Nat.mul_one _
 have S3:=S2.boxRow w.heap.size 1 m (by omega) hm
 have S4:=S3.cutRow (some ⟨w.heap.size,0,none⟩) n m hnm
 rw[show (encL (List.replicate m (0:UInt8))).take (n*1)=encL (List.replicate n (0:UInt8)) from by
  have:=encL_take (List.replicate m (0:UInt8)) n
  rw[List.take_replicate,Nat.min_eq_left hnm]at this
  exact this]at S4
 exact K _ _ _ S4
end
def BlkF (ad:Addr) (b:Blk):World→Prop:=fun w=>∀ j v,(encL b.l)[j]? = some v→w.cell? (ad.add j)=some v
class HasBlkF (fs:List (World→Prop)) (ad:Addr) (b:outParam Blk):Prop where mem:BlkF ad b∈fs
instance hbkf0 {ad:Addr} {b:Blk} {fs:List (World→Prop)} : HasBlkF (BlkF ad b::fs) ad b:=⟨List.mem_cons_self ..⟩
section
variable {P:Program} {ty t:TypeId} {lc:Cx} {bs:List Item} {fs:List (World→Prop)} {x:Operand} {ad:Addr} {z:Value} {by_:Nat} {b:Blk}
instance (priority:=810) opLoadBlkF [Ev lc x (.pointer (some ad))] [ha:AggT P t true] [TI P t z 64 by_] [hb:HasBlkF fs ad b]:OpQ P (.load t x) ty lc bs fs (.agg ⟨encL b.l⟩):=⟨fun ρ w h mm=>by
 have hf:BlkF ad b w:=(mm.facts _ hb.mem).now
 have h1:=run_loadCells_list (P:=P) w ad (encL b.l) hf
 simp only[b.len]at h1
 simp[xop,execOp,Instr.loadAt,h.ev (x:=x) (v:=.pointer (some ad)),Instr.sureAddr,loadVar,Sem.run_bind,ha.run,run_size,h1]⟩
end
instance itMpn {b:Nat} {kv:List (Int × Value)} : ItOk (mpn b kv):=⟨mpn_loc b kv,fun w ⟨es,clock,h,_⟩ k hk=>by obtain rfl:k=b:=hk;exact (Array.getElem?_eq_some_iff.1 h).1⟩
def nilI:Item where
 foot:=fun _=>False
 holds:=fun _=>True
instance itNil:ItOk nilI:=⟨fun _ _ _ _=>trivial,fun _ _ _ h=>h.elim⟩
instance sfZ {b:Blk} : SetFront (encL (List.replicate 64 (0:UInt8))) (encL b.l) (encL b.l):=⟨by rw[b.len,encL_len,List.length_replicate];exact Nat.le_refl _,by rw[b.len,List.drop_of_length_le (by rw[encL_len,List.length_replicate];exact Nat.le_refl _),List.append_nil]⟩
instance lenRep {n:Nat} : LenIs (encL (List.replicate n (0:UInt8))) n:=⟨by rw[encL_len,List.length_replicate];exact Nat.mul_one _⟩
instance (priority:=1100) repl1 {zs:List Value} : RepL 1 zs zs:=⟨by simp⟩
instance les65:LeS 65 4096:=⟨by decide⟩
instance nenZ {n:Nat} : NeN (encL (List.replicate (n+1) (0:UInt8))):=⟨by rw[qqC,encL_cons];simp[Enc.cells]⟩
theorem iand7 (x:Int) (h : -9223372036854775808≤x∧x≤9223372036854775807):iand .i64 x 7=x % 8:=by
 have e1:(BitVec.ofInt 64 x&&& BitVec.ofInt 64 7).toNat=(x % 8).toNat:=by
  have e2:(BitVec.ofInt 64 7:BitVec 64)=7#64:=by decide
  rw[e2,BitVec.toNat_and,BitVec.toNat_ofInt]
  have e3:(7#64:BitVec 64).toNat=2 ^ 3 - 1:=by decide
  rw[e3,Nat.and_two_pow_sub_one_eq_mod]
  omega
 unfold iand
 show IntKind.i64.wrap ((BitVec.ofInt 64 x&&& BitVec.ofInt 64 7).toNat:Int)=_
 rw[e1,w64 _ (by omega) (by omega)]
 omega
end Go.Wk
namespace Go.Proofs.YtdakncgafdnjfaaGreat
open Go Go.Wk
set_option synthInstance.maxSize 100000
set_option synthInstance.maxHeartbeats 400000
set_option maxRecDepth 100000
def zB:Blk:=⟨List.replicate 64 0,by simp⟩
structure LWr where
 at_:Int
 b:Blk
abbrev cWr (x:LWr):List Value:=.int .i64 x.at_::encL x.b.l
instance encWr:Enc LWr:=⟨65,cWr,fun x=>by show (encL x.b.l).length+1=65;rw[x.b.len],fun x u hu=>by
 rcases List.mem_cons.1 hu with rfl | hu
 rfl
 exact encL_one _ u hu⟩
instance layWr:Lay LWr:={ encWr with
 dflt:=⟨0,zB⟩
 inn:=fun _ _=>True
 mono:=fun _ _ _ _ _=>trivial }
instance:SzE LWr 65:=⟨rfl,by decide⟩
instance {x:LWr} : CellsOf x (.int .i64 x.at_::encL x.b.l):=⟨rfl⟩
structure Cnt where
 on:Bool
 left:Int
structure DS where
 size:Int
 firm:List (Int × Blk)
 loose:List LWr
 out:Bool
 arms:Cnt
 fails:Cnt
 ops:Int
def kvB (f:List (Int × Blk)):List (Int × Value):=f.map fun x=>(x.1,vBlk x.2)
def getB (k:Int):List (Int × Blk)→Option Blk
 | []=>none
 | (u,b)::f=>if k=u then some b else getB k f
def putB (k:Int) (v:Blk):List (Int × Blk)→List (Int × Blk)
 | []=>[(k,v)]
 | (u,x)::f=>if k=u then (u,v)::f else (u,x)::putB k v f
theorem kiGet_cons (k u:Int) (v:Value) (kv:List (Int × Value)):kiGet k ((u,v)::kv)=if k=u then some v else kiGet k kv:=by
 have h:∀ (kv:List (Int × Value)) (i j:Nat),(kiIdx k kv i).map (·.2)=(kiIdx k kv j).map (·.2):=fun kv=>by
  induction kv with
  | nil=>intro i j;rfl
  | cons x kv ih=>intro i j;obtain ⟨u,v⟩:=x;simp only[kiIdx];split;rfl;exact ih _ _
 rw[kiGet,kiIdx]
 split
 ·rfl
 ·exact h kv 1 0
theorem kiGet_kvB (k:Int) (f:List (Int × Blk)):kiGet k (kvB f)=(getB k f).map vBlk:=by
 induction f with
 | nil=>rfl
 | cons x f ih=>
  obtain ⟨u,b⟩:=x
  show kiGet k ((u,vBlk b)::kvB f)=_
  rw[kiGet_cons,getB,ih]
  split <;> rfl
theorem kiPut_kvB (k:Int) (v:Blk) (f:List (Int × Blk)):kiPut k (vBlk v) (kvB f)=kvB (putB k v f):=by
 induction f with
 | nil=>rfl
 | cons x f ih=>
  obtain ⟨u,b⟩:=x
  show kiPut k (vBlk v) ((u,vBlk b)::kvB f)=_
  rw[kiPut,putB,ih]
  split <;> rfl
abbrev cDisk (m:Nat) (p:Option Addr) (n c:Nat) (s:DS):List Value:=[.int .i64 s.size,.map (some m),.slice p n c,.bool s.out,.bool s.arms.on,.int .i64 s.arms.left,.bool s.fails.on,.int .i64 s.fails.left,.int .i64 s.ops]
def findB (k:Int):List LWr→Option Blk
 | []=>none
 | x::l=>(findB k l).or (if x.at_=k then some x.b else none)
def holdsF (s:DS) (k:Int):Blk:=((findB k s.loose).or (getB k s.firm)).getD zB
def newD (n:Int):DS:=⟨n,[],[],false,⟨false,0⟩,⟨false,0⟩,0⟩
theorem dnew_c (n:Int) (h:1≤n∧n≤2048) (w0:World):Ret Tryz.prog 45 [.int .i64 n] w0 (fun _=>False) fun v w'=>∃ b m,v=.tuple ⟨[.pointer (some ⟨b,0,none⟩),.int .i64 0]⟩∧b≠m∧w0.heap.size≤b∧w0.heap.size≤m∧(Wk.box b 170 (cDisk m none 0 0 (newD n))).holds w'∧(mpn m []).holds w':=by
 refine enter Tryz.func45 rfl rfl (Wd.start w0) (fun a S=>?_)
 simp only[Tryz.ntmps45,qqA,qqB,Nat.reduceAdd,Nat.reduceSub,qqC,qqD,qqE,qqF]at S
 refine kS (kR ?_);(iterate 2 (refine sq S ?_;clear S;intro a S));refine kN (xtn (kS (kS (kR ?_))));(iterate 3 (refine sq S ?_;clear S;intro a S));(iterate 2 (refine gQ S ?_;clear S;intro a S));refine sq S ?_;clear S;intro a S
 rw[show (decide (n < 1)||decide (2048 < n))=false from by simp;omega]at S
 refine kN (xtn ?_);refine c_condF S ?_;refine kK (xtn (kS (kR (sq S ?_))));clear S;intro a S;refine smmi S ?_;clear S;intro m a w S;(iterate 2 (refine sq S ?_;clear S;intro a S));refine sa S ?_;clear S;intro b14 a w S;(iterate 2 (refine sq S ?_;clear S;intro a S));refine kN (xtn (kT ?_))
 have hb:=(S.boxNew b14).elim (fun h=>h.elim) id
 have hm:=(S.itNew (mpn m []) rfl m rfl).elim (fun h=>h.elim) id
 have hh:=S.box b14
 have hmm:=S.it (mpn m [])
 have hne:b14≠m:=fun e=>St.apart2 S (Wk.box b14 170 [.int .i64 n,.map (some m),.slice none 0 0,.bool false,.bool false,.int .i64 0,.bool false,.int .i64 0,.int .i64 0]) (mpn m []) b14 rfl e
 refine end2 S (fun _=>?_)
 exact ⟨b14,m,rfl,hne,hb,hm,hh,hmm⟩
def metF (c:Cnt):Bool × Cnt:=if c.on then (if c.left=0 then (true,⟨false,0⟩) else (false,⟨true,IntKind.i64.wrap (c.left - 1)⟩)) else (false,c)
theorem met_arms (b m:Nat) (p:Option Addr) (n c:Nat) (s:DS) (w0:World) (hb:(Wk.box b 170 (cDisk m p n c s)).holds w0) :
  Ret Tryz.prog 256 [.pointer (some ⟨b,4,none⟩)] w0 (fun k=>k=b) fun v w'=>v=.bool (metF s.arms).1∧(Wk.box b 170 (cDisk m p n c { s with arms:=(metF s.arms).2 })).holds w':=by
 obtain ⟨sz,fm,lo,ou,⟨on,left⟩,fa,op⟩:=s
 refine enter Tryz.func256 rfl rfl (Wd.itLent (x:=Wk.box b 170 (cDisk m p n c ⟨sz,fm,lo,ou,⟨on,left⟩,fa,op⟩)) (fs:=[]) hb (by simp)) (fun a S=>?_)
 simp only[Tryz.ntmps256,qqA,qqB,Nat.reduceAdd,Nat.reduceSub,qqC,qqD,qqE,qqF]at S
 refine kS (kR (sq S ?_));clear S;intro a S;refine kN (xtn (kS (kS (kR ?_))));(iterate 5 (refine sq S ?_;clear S;intro a S));(iterate 5 (refine gQ S ?_;clear S;intro a S));refine sq S ?_;clear S;intro a S;refine kN (xtn ?_)
 refine kC S (fun h1=>?_) (fun h1=>?_)
 refine kS (kR ?_);(iterate 3 (refine sq S ?_;clear S;intro a S));refine sw S ?_;clear S;intro a w S;refine kN (xtn (kS (kR (sq S ?_))));clear S;intro a S;refine kN (xtn (kT (xtr ?_)))
 obtain ⟨rfl,rfl⟩:on=true∧left=0:=by simpa using h1
 have hh:=S.box b
 refine end1 S (fun _=>⟨rfl,hh⟩)
 refine kK (xtn (kS (kS (kR ?_))));(iterate 4 (refine sq S ?_;clear S;intro a S));refine kN (xtn ?_)
 refine kC S (fun h4=>?_) (fun h4=>?_)
 refine kR ?_;(iterate 7 (refine sq S ?_;clear S;intro a S));refine sw S ?_;clear S;intro a w S;refine kN (xtn (kS (kR (sq S ?_))));clear S;intro a S;refine kN (xtn (kT ?_))
 have hon:on=true:=by simpa using h4
 subst hon
 have hl:left≠0:=by simpa using h1
 have hh:=S.box b
 refine end1 S (fun _=>?_)
 have e:metF ⟨true,left⟩=(false,⟨true,IntKind.i64.wrap (left - 1)⟩):=by simp[metF,hl]
 rw[e]
 exact ⟨rfl,hh⟩
 refine kK (xtn (kS (kR (sq S ?_))));clear S;intro a S;refine kN (xtn (kT ?_))
 have hon:on=false:=by simpa using h4
 subst hon
 have hh:=S.box b
 refine end1 S (fun _=>⟨rfl,hh⟩)
theorem met_fails (b m:Nat) (p:Option Addr) (n c:Nat) (s:DS) (w0:World) (hb:(Wk.box b 170 (cDisk m p n c s)).holds w0) :
  Ret Tryz.prog 256 [.pointer (some ⟨b,6,none⟩)] w0 (fun k=>k=b) fun v w'=>v=.bool (metF s.fails).1∧(Wk.box b 170 (cDisk m p n c { s with fails:=(metF s.fails).2 })).holds w':=by
 obtain ⟨sz,fm,lo,ou,ar,⟨on,left⟩,op⟩:=s
 refine enter Tryz.func256 rfl rfl (Wd.itLent (x:=Wk.box b 170 (cDisk m p n c ⟨sz,fm,lo,ou,ar,⟨on,left⟩,op⟩)) (fs:=[]) hb (by simp)) (fun a S=>?_)
 simp only[Tryz.ntmps256,qqA,qqB,Nat.reduceAdd,Nat.reduceSub,qqC,qqD,qqE,qqF]at S
 refine kS (kR (sq S ?_));clear S;intro a S;refine kN (xtn (kS (kS (kR ?_))));(iterate 5 (refine sq S ?_;clear S;intro a S));(iterate 5 (refine gQ S ?_;clear S;intro a S));refine sq S ?_;clear S;intro a S;refine kN (xtn ?_)
 refine kC S (fun h1=>?_) (fun h1=>?_)
 refine kS (kR ?_);(iterate 3 (refine sq S ?_;clear S;intro a S));refine sw S ?_;clear S;intro a w S;refine kN (xtn (kS (kR (sq S ?_))));clear S;intro a S;refine kN (xtn (kT (xtr ?_)))
 obtain ⟨rfl,rfl⟩:on=true∧left=0:=by simpa using h1
 have hh:=S.box b
 refine end1 S (fun _=>⟨rfl,hh⟩)
 refine kK (xtn (kS (kS (kR ?_))));(iterate 4 (refine sq S ?_;clear S;intro a S));refine kN (xtn ?_)
 refine kC S (fun h4=>?_) (fun h4=>?_)
 refine kR ?_;(iterate 7 (refine sq S ?_;clear S;intro a S));refine sw S ?_;clear S;intro a w S;refine kN (xtn (kS (kR (sq S ?_))));clear S;intro a S;refine kN (xtn (kT ?_))
 have hon:on=true:=by simpa using h4
 subst hon
 have hl:left≠0:=by simpa using h1
 have hh:=S.box b
 refine end1 S (fun _=>?_)
 have e:metF ⟨true,left⟩=(false,⟨true,IntKind.i64.wrap (left - 1)⟩):=by simp[metF,hl]
 rw[e]
 exact ⟨rfl,hh⟩
 refine kK (xtn (kS (kR (sq S ?_))));clear S;intro a S;refine kN (xtn (kT ?_))
 have hon:on=false:=by simpa using h4
 subst hon
 have hh:=S.box b
 refine end1 S (fun _=>⟨rfl,hh⟩)
theorem len_c (b:Nat) (m:Nat) (p:Option Addr) (n c:Nat) (s:DS) (w0:World) (hb:Stable (fun _=>False) w0 (BoxF b 170 (cDisk m p n c s))):Ret Tryz.prog 170 [.pointer (some ⟨b,0,none⟩)] w0 (fun _=>False) fun v _=>v=.int .i64 s.size:=by
 refine enter Tryz.func170 rfl rfl (Wd.begin (fs:=[BoxF b 170 (cDisk m p n c s)]) (by simpa using hb)) (fun a S=>?_)
 simp only[Tryz.ntmps170,qqA,qqB,Nat.reduceAdd,Nat.reduceSub,qqC,qqD,qqE,qqF]at S
 refine kS (kR (sq S ?_));clear S;intro a S;refine kN (xtn (kS (kS (kR ?_))));(iterate 2 (refine sq S ?_;clear S;intro a S));refine kN (xtn ?_);refine c_condF S ?_;refine kK (xtn (kS (kR ?_)));(iterate 6 (refine sq S ?_;clear S;intro a S));refine kN (xtn ?_);refine kT ?_
 exact end1 S (fun _=>rfl)
def dbackV (g:Nat):Value:=.func (.func 270) #[] ⟨[.pointer (some ⟨g,0,none⟩)]⟩
theorem dback_f (b:Nat) (w0:World):Ret Tryz.prog 257 [.pointer (some ⟨b,0,none⟩)] w0 (fun _=>False) fun v w'=>∃ g,v=dbackV g∧w0.heap.size≤g∧BoxF g 263 [.pointer (some ⟨b,0,none⟩)] w':=by
 refine enter Tryz.func257 rfl rfl (Wd.start w0) (fun a S=>?_)
 simp only[Tryz.ntmps257,qqA,qqB,Nat.reduceAdd,Nat.reduceSub,qqC,qqD,qqE,qqF]at S
 refine kS (kR ?_);refine sa S ?_;clear S;intro b1 a w S;refine sq S ?_;clear S;intro a S;refine kN (xtn (kS (kR ?_)));(iterate 2 (refine sq S ?_;clear S;intro a S));refine kN (xtn (kT ?_))
 have hn:=(S.boxNew b1).elim (fun h=>h.elim) id
 have hh:=S.boxF b1
 exact end1 S (fun _=>⟨b1,rfl,hn,hh⟩)
theorem dback_it (g b m:Nat) (p:Option Addr) (c:Nat) (s:DS) (hl:s.loose.length≤1000000) (w0:World) (M:Nat→Prop) (hM:∀ k,M k→k < w0.heap.size) (f1:Stable M w0 (BoxF g 263 [.pointer (some ⟨b,0,none⟩)])) (f2:Stable M w0 (BoxF b 170 (cDisk m p s.loose.length c s))) (f3:Stable M w0 (GlF p s.loose)) :
  IterRet Tryz.prog 270 [.pointer (some ⟨g,0,none⟩)] w0 M (fun(x:LWr) vs _ _=>vs=[.agg ⟨cWr x⟩]) s.loose.reverse:=by
 intro L J Jx hy hJ
 have hF:∀ Φ∈[BoxF g 263 [.pointer (some ⟨b,0,none⟩)],BoxF b 170 (cDisk m p s.loose.length c s),GlF p s.loose],Stable M w0 Φ:=by simp;exact ⟨f1,f2,f3⟩
 refine (callsIn_wide (n:=0)).2 ?_
 refine enter Tryz.func270 rfl rfl (Wd.beginM (M:=M) (fs:=[BoxF g 263 [.pointer (some ⟨b,0,none⟩)],BoxF b 170 (cDisk m p s.loose.length c s),GlF p s.loose]) hM hF) (fun a S=>?_)
 simp only[Tryz.ntmps270,qqA,qqB,Nat.reduceAdd,Nat.reduceSub,qqC,qqD,qqE,qqF]at S
 refine kS (kR ?_);(iterate 6 (refine sq S ?_;clear S;intro a S));refine kN (xtn (kB ?_))
 refine c_loop (ι:=Nat) (fun k a w=>k≤s.loose.length∧∃ N w1,J (s.loose.length - k) w1∧∃ uu:Nat→Value,St w1 (fun _=>False) [] a w ((.func (.yield L) #[] #[])::(.pointer (some ⟨g,0,none⟩))::uu 2::(.int .i64 (k:Nat))::uu 4::uu 5::uu 6::uu 7::uu 8::uu 9::uu 10::uu 11::uu 12::uu 13::uu 14::uu 15::uu 16::uu 17::uu 18::uu 19::uu 20::uu 21::uu 22::uu 23::[]) [ext N] [BoxF g 263 [.pointer (some ⟨b,0,none⟩)],BoxF b 170 (cDisk m p s.loose.length c s),GlF p s.loose]) (fun k=>k) s.loose.length ?_ ?_
 refine ⟨Nat.le_refl _,M,w0,by rw[Nat.sub_self];exact hJ,S.uu,S⟩
 clear S
 rintro k a w ⟨hk,N,w1,hJk,uu,S⟩
 refine kS (kS (kR ?_));(iterate 2 (refine sq S ?_;clear S;intro a S));refine kN (xtn ?_)
 refine kC S (fun h1=>?_) (fun h1=>?_)
 refine kK (xtn (kS (kB (kS ?_))))
 have hk0:0 < k:=by simp at h1;omega
 have hK:KLt (k - 1) s.loose.length:=⟨by omega⟩
 have hx:s.loose.reverse[s.loose.length - k]? = some (nthG s.loose (k - 1)):=by
  rw[List.getElem?_reverse (by omega),show s.loose.length - 1 - (s.loose.length - k)=k - 1 from by omega,nthG_get (by omega)]
 refine kR ?_;(iterate 7 (refine sq S ?_;clear S;intro a S))
 rw[show IntKind.i64.wrap ((k:Int) - 1)=((k - 1:Nat):Int) from by rw[w64 _ (by omega) (by omega)];omega]at S
 (iterate 2 (refine sq S ?_;clear S;intro a S))
 refine sy S (M:=M) (wI:=w0) (fs0:=[BoxF g 263 [.pointer (some ⟨b,0,none⟩)],BoxF b 170 (cDisk m p s.loose.length c s),GlF p s.loose]) hF (hy _ _ _ w1 w hx hJk S.wd.agree rfl) ?_;clear S;intro ok N' a w2 hT hX S
 refine sq S ?_;clear S;intro a S;refine kN (xtn ?_)
 refine kC S (fun h3=>?_) (fun h3=>?_)
 refine kT (xbr (xtr (xtr (xbr ?_))))
 exact endI S ⟨w2,S.wd.agree,.inr (hX (by simpa using h3))⟩
 refine kK (xbn (xtn (kR ?_)));(iterate 2 (refine sq S ?_;clear S;intro a S))
 rw[show IntKind.i64.wrap ((k:Int) - 1)=((k - 1:Nat):Int) from by rw[w64 _ (by omega) (by omega)];omega]at S
 refine sq S ?_;clear S;intro a S;refine kN (xtn ?_)
 exact ⟨k - 1,⟨by omega,N',w2,by rw[show s.loose.length - (k - 1)=s.loose.length - k+1 from by omega];exact hT (by simpa using h3),S.uu,S⟩,by omega⟩
 refine kE (xte (xte (xbe ?_)))
 have hk0:k=0:=by simp at h1;omega
 refine endI S ⟨w1,S.wd.agree,.inl ?_⟩
 rw[hk0]at hJk
 rw[List.length_reverse]
 exact hJk
theorem findB_rev (k:Int):∀ l:List LWr,findB k l=(l.reverse.find? fun x=>decide (x.at_=k)).map LWr.b
 | []=>rfl
 | x::l=>by
  rw[findB,findB_rev k l,List.reverse_cons,List.find?_append]
  cases h:l.reverse.find? fun x=>decide (x.at_=k) with
  | some y=>simp
  | none=>
   by_cases hx:x.at_=k <;> simp[hx]
theorem find_at {xs:List LWr} {i:Nat} {x:LWr} {k:Int} (h:xs[i]? = some x) (hp:x.at_=k) (hn:∀ y∈xs.take i,y.at_≠k):xs.find? (fun x=>decide (x.at_=k))=some x:=by
 have e:xs.drop i=x::xs.drop (i+1):=by
  obtain ⟨hi,rfl⟩:=List.getElem?_eq_some_iff.1 h
  exact (List.getElem_cons_drop hi).symm
 have hnone:(xs.take i).find? (fun x=>decide (x.at_=k))=none:=List.find?_eq_none.2 fun y hy=>by simpa using hn y hy
 rw[←List.take_append_drop i xs,List.find?_append,hnone,e]
 simp[hp]
theorem holds_c (b m:Nat) (p:Option Addr) (c:Nat) (s:DS) (k:Int) (hl:s.loose.length≤1000000) (w0:World) (f1:Stable (fun _=>False) w0 (BoxF b 170 (cDisk m p s.loose.length c s))) (f2:Stable (fun _=>False) w0 (MpnF m (kvB s.firm))) (f3:Stable (fun _=>False) w0 (GlF p s.loose)) :
  Ret Tryz.prog 224 [.pointer (some ⟨b,0,none⟩),.int .i64 k] w0 (fun _=>False) fun v _=>v=vBlk (holdsF s k):=by
 refine enterM Tryz.func224 rfl rfl (Wd.begin (fs:=[BoxF b 170 (cDisk m p s.loose.length c s),MpnF m (kvB s.firm),GlF p s.loose]) (by simp;exact ⟨f1,f2,f3⟩)) (fun a S=>?_)
 simp only[Tryz.ntmps224,qqA,qqB,Nat.reduceAdd,Nat.reduceSub,qqC,qqD,qqE,qqF]at S
 refine kS (kR ?_);refine sa S ?_;clear S;intro b3 a w S;refine sa S ?_;clear S;intro b4 a w S;refine kN (xtn (c_scope (kS ?_)));refine c_drawD [(0,true),(1,true),(2,true),(3,true),(4,true),(5,true),(6,false),(7,false)] [] S ?_;clear S;intro w S;(iterate 6 (refine dq S ?_;clear S;intro a S))
 rw[show (kiGet k (kvB s.firm)).getD (.agg ⟨encL (List.replicate 64 (0:UInt8))⟩)=vBlk ((getB k s.firm).getD zB) from by rw[kiGet_kvB];cases getB k s.firm <;> rfl]at S
 refine dl (sa S ?_);clear S;intro b5 a w S;refine de S ?_;refine dl (sw S ?_);clear S;intro a w S;refine de S ?_;refine dn (xtn (kS (c_label (xtn (kS (kS (kR (sq S ?_))))))));clear S;intro a S
 have hlt:=foots_lt S
 refine sr S (dback_f b w) ?_;clear S;rintro _ a w ⟨g,rfl,n1,f1⟩ S
 replace S:=S.add (Φ:=BoxF g 263 [.pointer (some ⟨b,0,none⟩)]) (BoxF.stable f1 (fun hm=>by have:=hlt _ hm;omega))
 clear hlt n1 f1
 refine kN (xtn (kB ?_))
 replace S:=S.boxToF b3
 refine c_range (κ:=Unit) (κx:=Blk) (Ds:=[]) s.loose.reverse
  (fun _ _=>[Wk.box b5 129 (encL ((getB k s.firm).getD zB).l),Wk.box b4 129 (encL (List.replicate 64 (0:UInt8))),marks []]) (fun _ _=>_) (fun i _=>∀ x∈s.loose.reverse.take i,x.at_≠k) (fun y=>[Wk.box b5 129 (encL y.l),Wk.box b4 129 (encL (List.replicate 64 (0:UInt8))),marks []]) (fun _=>[BoxF b3 3 [.int .i64 k],BoxF g 263 [.pointer (some ⟨b,0,none⟩)],BoxF b 170 (cDisk m p s.loose.length c s),MpnF m (kvB s.firm),GlF p s.loose]) (fun c y=>c=.exit 0∧findB k s.loose=some y) () S (fun M w1 hM hF _=>dback_it g b m p c s hl w1 M hM (hF _ (by simp)) (hF _ (by simp)) (hF _ (by simp))) ⟨by simp,rfl,rfl⟩ ?_ ?_ ?_ ?_
 clear S
 rintro L D bL M w1 i x vs _ W0 w hx hrel hW0 hgr rfl
 refine ⟨_,inferInstance,fun a S=>?_⟩
 refine kR (sa S ?_);clear S;intro b6 a w S;refine sw S ?_;clear S;intro a w S;refine kN (xtn ?_)
 refine rbegin (D:=D) (b:=bL) S ?_;clear S;intro a w S
 refine kB (kS (kR ?_));(iterate 4 (refine sq S ?_;clear S;intro a S));refine kN (xtn ?_)
 refine kC S (fun h4=>?_) (fun h4=>?_)
 refine kS (kR ?_);(iterate 2 (refine sq S ?_;clear S;intro a S));refine sw S ?_;clear S;intro a w S;refine kN (xtn (kE (xbx ?_)))
 have hxk:x.at_=k:=by simpa using h4
 replace S:=S.sub [lpI L D (lpR bL .busy none),Wk.box b5 129 (encL x.b.l),Wk.box b4 129 (encL (List.replicate 64 (0:UInt8))),marks []] [BoxF b3 3 [.int .i64 k],BoxF g 263 [.pointer (some ⟨b,0,none⟩)],BoxF b 170 (cDisk m p s.loose.length c s),MpnF m (kvB s.firm),GlF p s.loose]
 refine rexit (D:=D) (b:=bL) S fun W hW=>⟨.inr ⟨0,rfl⟩,x.b,⟨rfl,?_⟩,hW⟩
 rw[findB_rev,find_at hx hxk hrel];rfl
 refine kK (xbn ?_)
 have hti:s.loose.reverse.take (i+1)=s.loose.reverse.take i++[x]:=by rw[List.take_add_one,hx];rfl
 replace S:=S.sub [lpI L D (lpR bL .busy none),Wk.box b5 129 (encL ((getB k s.firm).getD zB).l),Wk.box b4 129 (encL (List.replicate 64 (0:UInt8))),marks []] [BoxF b3 3 [.int .i64 k],BoxF g 263 [.pointer (some ⟨b,0,none⟩)],BoxF b 170 (cDisk m p s.loose.length c s),MpnF m (kvB s.firm),GlF p s.loose]
 refine rnext (D:=D) (b:=bL) S fun W hW=>⟨(),fun z hz=>?_,hW⟩
 rw[hti]at hz
 rcases List.mem_append.1 hz with hz | hz
 exact hrel z hz
 rw[List.mem_singleton.1 hz]
 simpa using h4
 clear S
 rintro D _ a w hrel S
 replace S:=S.join (Ds:=[])
 have hf:findB k s.loose=none:=by
  rw[findB_rev,Option.map_eq_none_iff,List.find?_eq_none]
  rw[List.take_length]at hrel
  exact fun x hx=>by simpa using hrel x hx
 have hv:(getB k s.firm).getD zB=holdsF s k:=by rw[holdsF,hf];rfl
 rw[hv]at S
 refine xbn (xtn (kS (kR (sq S ?_))));clear S;intro a S;refine sw S ?_;clear S;intro a w S;refine kN (xtn (kT (xsr ?_)))
 refine endM1 S (fun _ _=>rfl)
 rintro D _ a w ⟨h,-⟩;cases h
 rintro id D y a w ⟨h,hf⟩ S
 obtain rfl:id=0:=by cases h;rfl
 replace S:=S.join (Ds:=[])
 have hv:y=holdsF s k:=by rw[holdsF,hf];rfl
 subst hv
 refine xbe (xtn (kS (kR (sq S ?_))));clear S;intro a S;refine sw S ?_;clear S;intro a w S;refine kN (xtn (kT (xsr ?_)))
 refine endM1 S (fun _ _=>rfl)
section
variable {w0:World} {M0:Nat→Prop} {ds:List Deferred} {a:Act} {w:World} {l:List Value} {bs:List Wk.Item} {fs:List (World→Prop)} {x y z:Wk.Item}
theorem St.open3 [ItOk x] [ItOk y] [ItOk z] (S:St w0 M0 ds a w l (both x (both y z)::bs) fs) (hx:x.own=true:=by rfl) (hy:y.own=true:=by rfl) (hz:z.own=true:=by rfl):St w0 M0 ds a w l (x::y::z::bs) fs:=by
 have S1:=S.ofBoth hx (by simp[both,hy,hz])
 have S2:=S1.perm (both y z::x::bs) (List.Perm.swap _ _ _)
 have S3:=S2.ofBoth hy hz
 exact S3.perm (x::y::z::bs) ((List.Perm.swap _ _ _).trans (.cons _ (List.Perm.swap _ _ _)))
theorem St.close3 [ItOk x] [ItOk y] [ItOk z] (S:St w0 M0 ds a w l (x::y::z::bs) fs) (hx:x.own=true:=by rfl) (hy:y.own=true:=by rfl) (hz:z.own=true:=by rfl):St w0 M0 ds a w l (both x (both y z)::bs) fs:=by
 have S1:=S.perm (y::z::x::bs) ((List.Perm.cons _ (List.Perm.swap _ _ _)).trans (List.Perm.swap _ _ _))
 have S2:=S1.toBoth hy hz
 have S3:=S2.perm (x::both y z::bs) (List.Perm.swap _ _ _)
 exact S3.toBoth hx (by simp[both,hy,hz])
end
abbrev dkI (b m:Nat) (p:Option Addr) (c:Nat) (s:DS):Wk.Item:=both (Wk.box b 170 (cDisk m p s.loose.length c s)) (both (mpn m (kvB s.firm)) (Wk.row 265 65 p s.loose.length c (encL s.loose)))
theorem Wd.dkLent {w:World} {fs:List (World→Prop)} {x y z:Wk.Item} [ItOk x] [ItOk y] [ItOk z] (h:(both x (both y z)).holds w) (hf:∀ Φ∈fs,Stable (both x (both y z)).foot w Φ) (hx:x.own=true:=by rfl) (hy:y.own=true:=by rfl) (hz:z.own=true:=by rfl):Wd w (both x (both y z)).foot w [x,y,z] fs:=by
 have h1:=(Wd.itLent h hf).ofBoth hx (by simp[both,hy,hz])
 have h2:=(h1.perm (List.Perm.swap _ _ _):Wd w _ w [both y z,x] fs)
 have h3:=h2.ofBoth hy hz
 exact h3.perm ((List.Perm.swap _ _ _).trans (.cons _ (List.Perm.swap _ _ _)))
def settleK (st:Nat→Bool) (l:List LWr) (f:List (Int × Blk)):Nat→List (Int × Blk)
 | 0=>f
 | k+1=>if st k then putB (nthG l k).at_ (nthG l k).b (settleK st l f k) else settleK st l f k
def settleD (st:Nat→Bool) (s:DS):DS:={ s with firm:=settleK st s.loose s.firm s.loose.length,loose:=[] }
theorem settle_c (F:Nat) [EntF Tryz.prog F] (ca:List Value) (st:Nat→Bool) (b m:Nat) (p:Option Addr) (c:Nat) (s:DS) (fs:List (World→Prop)) (w0:World) (hl:s.loose.length≤1000000) (hd:(dkI b m p c s).holds w0) (hf:∀ Φ∈fs,Stable (dkI b m p c s).foot w0 Φ)
  (hst:∀ (i:Nat) (w:World),i < s.loose.length→(∀ Φ∈fs,Stable (fun _=>False) w Φ)→Ret Tryz.prog F (.int .i64 (i:Int)::ca) w (fun _=>False) fun v _=>v=.bool (st i)) :
  Ret Tryz.prog 103 [.pointer (some ⟨b,0,none⟩),.func (.func F) #[] ⟨ca⟩] w0 (dkI b m p c s).foot fun _ w'=>(dkI b m none 0 (settleD st s)).holds w':=by
 refine enter Tryz.func103 rfl rfl (Wd.dkLent hd hf) (fun a S=>?_)
 simp only[Tryz.ntmps103,qqA,qqB,Nat.reduceAdd,Nat.reduceSub,qqC,qqD,qqE,qqF]at S
 refine kS (kS (kR ?_));(iterate 6 (refine sq S ?_;clear S;intro a S));refine kN (xtn (kB ?_))
 refine c_fore2 S (fun(i:Nat) (f:List (Int × Blk)) uu=>[(4,uu 4),(0,uu 5),(5,.int .i64 (i:Nat)),(0,uu 12),(0,uu 13),(0,uu 14),(0,uu 15),(0,uu 16),(0,uu 17),(0,uu 18),(0,uu 19),(0,uu 20),(0,uu 21),(0,uu 22),(0,uu 23),(0,uu 24),(0,uu 25),(0,uu 26),(0,uu 27)]) (fun(i:Nat) (f:List (Int × Blk))=>[Wk.box b 170 (cDisk m p s.loose.length c s),mpn m (kvB f),Wk.row 265 65 p s.loose.length c (encL s.loose)]) (fun(i:Nat) (f:List (Int × Blk))=>fs) (fun(i:Nat) (f:List (Int × Blk))=>i≤s.loose.length∧f=settleK st s.loose s.firm i) (fun(i:Nat) (f:List (Int × Blk))=>s.loose.length - i) (0) (s.firm) ?_ S.uu ?_ ?_
 ·exact ⟨Nat.zero_le _,rfl⟩
 ·first | exact S | exact S.sub _ _
 ·clear S;rintro i f uu a w ⟨hi,hff⟩ S
  refine kS (kR (sq S ?_));clear S;intro a S;refine kN (xtn (kS ?_))
  refine kC S (fun h1=>?_) (fun h1=>?_)
  ·refine kK (xtn (kS (kB (kS ?_))))
   have hil:i < s.loose.length:=by simp at h1;omega
   have hK:KLt i s.loose.length:=⟨hil⟩
   have hxi:s.loose[i]? = some (nthG s.loose i):=nthG_get hil
   refine kR ?_;(iterate 2 (refine sq S ?_;clear S;intro a S))
   refine slrA (cWr (nthG s.loose i)) S s.loose.length (fun j v hj=>?_) ?_
   ·have hj65:j < 65:=by have:=(List.getElem?_eq_some_iff.1 hj).1;simp only[qqA,(nthG s.loose i).b.len]at this;omega
    rw[←hj];exact encL_get s.loose i _ hxi j hj65
   clear S;intro a S;refine sa S ?_;clear S;intro b5 a w S;refine sq S ?_;clear S;intro a S;refine sw S ?_;clear S;intro a w S;refine kN (xtn (kS (kR ?_)));(iterate 2 (refine sq S ?_;clear S;intro a S))
   have hall:=fun Φ hΦ=>(S.wd.facts Φ hΦ).less (N:=fun _=>False) (fun _ _ h=>h.elim)
   refine sr S (hst i _ hil hall) ?_;clear S;rintro _ a w rfl S;refine kN (xtn ?_)
   refine kC S (fun h3=>?_) (fun h3=>?_)
   ·refine c_drawE [(0,true),(1,true),(2,true),(3,true),(4,true),(5,true),(6,true),(7,true),(8,false)] [Wk.box b5 265 (cWr (nthG s.loose i)),Wk.box b 170 (cDisk m p s.loose.length c s),Wk.row 265 65 p s.loose.length c (encL s.loose)] S ?_;clear S;intro w S;(iterate 8 (refine dq S ?_;clear S;intro a S));refine dl ?_;refine smui S ?_;clear S;intro a w S
    rw[show (.agg ⟨encL (nthG s.loose i).b.l⟩:Value)=vBlk (nthG s.loose i).b from rfl,kiPut_kvB]at S
    refine de S ?_;refine dn (xbn (xtn (kR ?_)));(iterate 2 (refine sq S ?_;clear S;intro a S));refine kN (xtn ?_)
    rw[w64 ((i:Int)+1) (by omega) (by omega)]at S
    refine ⟨i+1,putB (nthG s.loose i).at_ (nthG s.loose i).b f,S.uu,⟨hil,?_⟩,S.sub _ _,by omega⟩
    rw[settleK,if_pos (by simpa using h3),hff]
   ·refine kK (xbn (xtn (kR ?_)));(iterate 2 (refine sq S ?_;clear S;intro a S));refine kN (xtn ?_)
    rw[w64 ((i:Int)+1) (by omega) (by omega)]at S
    refine ⟨i+1,f,S.uu,⟨hil,?_⟩,S.sub _ _,by omega⟩
    rw[settleK,if_neg (by simpa using h3),hff]
  ·refine kE (xte (xte (xbe (xtn (kR ?_)))));(iterate 3 (refine sq S ?_;clear S;intro a S));refine sw S ?_;clear S;intro a w S;refine kN ?_
   have hi2:i=s.loose.length:=by simp at h1;omega
   subst hi2
   subst hff
   replace S:=(S.sub [Wk.box b 170 (cDisk m none 0 0 s),mpn m (kvB (settleK st s.loose s.firm s.loose.length))] []).addNil 265 65
   replace S:=St.close3 (S.perm [Wk.box b 170 (cDisk m none 0 0 s),mpn m (kvB (settleK st s.loose s.firm s.loose.length)),Wk.row 265 65 none 0 0 []] ((List.Perm.cons _ (List.Perm.swap _ _ _)).trans (List.Perm.swap _ _ _)))
   have hh:=S.it (both (Wk.box b 170 (cDisk m none 0 0 s)) (both (mpn m (kvB (settleK st s.loose s.firm s.loose.length))) (Wk.row 265 65 none 0 0 [])))
   refine end0 S (fun _=>hh)
theorem encWr1 (k:Int) (x:Blk):encL [(⟨k,x⟩:LWr)]=.int .i64 k::encL x.l:=by rw[encL_cons,encL_nil,List.append_nil];rfl
def writeD (s:DS) (k:Int) (x:Blk):DS:={ s with loose:=s.loose++[⟨k,x⟩] }
theorem write1_c (g0 g1 g2 b m:Nat) (p:Option Addr) (c:Nat) (s:DS) (k:Int) (x:Blk) (w0:World) (hl:s.loose.length≤1000000) (hd:(dkI b m p c s).holds w0)
  (f0:Stable (dkI b m p c s).foot w0 (BoxF g0 34 [.pointer (some ⟨b,0,none⟩)])) (f1:Stable (dkI b m p c s).foot w0 (BoxF g1 3 [.int .i64 k])) (f2:Stable (dkI b m p c s).foot w0 (BoxF g2 129 (encL x.l))) :
  Ret Tryz.prog 237 [.pointer (some ⟨g0,0,none⟩),.pointer (some ⟨g1,0,none⟩),.pointer (some ⟨g2,0,none⟩)] w0 (dkI b m p c s).foot fun _ w'=>∃ p' c',(dkI b m p' c' (writeD s k x)).holds w'∧∀ i,(dkI b m p' c' (writeD s k x)).foot i→(dkI b m p c s).foot i∨w0.heap.size≤i:=by
 have hL:(writeD s k x).loose.length=s.loose.length+1:=by simp[writeD]
 refine enter Tryz.func237 rfl rfl (Wd.dkLent (fs:=[BoxF g0 34 [.pointer (some ⟨b,0,none⟩)],BoxF g1 3 [.int .i64 k],BoxF g2 129 (encL x.l)]) hd (by simp only[List.mem_cons,List.not_mem_nil,or_false];rintro Φ (rfl | rfl | rfl) <;> assumption)) (fun a S=>?_)
 simp only[Tryz.ntmps237,qqA,qqB,Nat.reduceAdd,Nat.reduceSub,qqC,qqD,qqE,qqF]at S
 refine c_drwe2 (.q 0 (.q 1 (.q 2 (.q 3 (.q 4 (.q 6 (.q 7 (.q 8 (.b2 5 9 (.l 9 (.l 10 (.q 11 (.q 12 (.q 13 (.l 14 (.e))))))) (.l 5 (.l 10 (.q 11 (.q 12 (.q 13 (.l 14 (.e)))))))))))))))) S (fun(p2:Option Addr) (c2:Nat) uu=>[(3,uu 3),(0,uu 4),(0,uu 5),(0,uu 6),(0,uu 7),(0,uu 8),(0,uu 9),(0,uu 10),(0,uu 11),(0,uu 12),(0,uu 13),(0,uu 14),(0,uu 15),(0,uu 16)]) [] (fun(p2:Option Addr) (c2:Nat)=>[Wk.box b 170 (cDisk m p2 (writeD s k x).loose.length c2 s),mpn m (kvB s.firm),Wk.row 265 65 p2 (writeD s k x).loose.length c2 (encL (writeD s k x).loose)]) (fun(p2:Option Addr) (c2:Nat)=>[]) (fun(p2:Option Addr) (c2:Nat)=>True) ?_ ?_
 intro w S
 (iterate 8 (refine tq S ?_;clear S;intro a S))
 refine tb2 ?_ ?_
 refine sq S ?_;clear S;intro a S;refine te S ?_;refine tl (sn S ?_);clear S;intro b12 a w S;refine te S ?_;refine tl ?_
 refine sap S (by simp only[maxLen];omega) (by omega) ?_;clear S;rintro p10 c10 a w - S
 refine te S ?_;(iterate 3 (refine tq S ?_;clear S;intro a S));refine tl (sw S ?_);clear S;intro a w S;refine te S ?_;refine tn ?_
 rw[show encL s.loose++(.int .i64 k::encL x.l)=encL (writeD s k x).loose from by rw[writeD,encL_append,encWr1],←hL]at S
 exact ⟨p10,c10,S.uu,trivial,(S.perm _ (List.Perm.refl _)).sub _ _⟩
 refine sn S ?_;clear S;intro b12 a w S;refine te S ?_;refine tl (sq S ?_);clear S;intro a S;refine te S ?_;refine tl ?_
 refine sap S (by simp only[maxLen];omega) (by omega) ?_;clear S;rintro p10 c10 a w - S
 refine te S ?_;(iterate 3 (refine tq S ?_;clear S;intro a S));refine tl (sw S ?_);clear S;intro a w S;refine te S ?_;refine tn ?_
 rw[show encL s.loose++(.int .i64 k::encL x.l)=encL (writeD s k x).loose from by rw[writeD,encL_append,encWr1],←hL]at S
 exact ⟨p10,c10,S.uu,trivial,(S.perm _ (List.Perm.refl _)).sub _ _⟩
 clear S;rintro p2 c2 uu a w - S
 have h1:=S.itNew (Wk.box b 170 (cDisk m p2 (writeD s k x).loose.length c2 s)) rfl
 have h2:=S.itNew (mpn m (kvB s.firm)) rfl
 have h3:=S.itNew (Wk.row 265 65 p2 (writeD s k x).loose.length c2 (encL (writeD s k x).loose)) rfl
 replace S:=St.close3 S
 have hh:=S.it (both (Wk.box b 170 (cDisk m p2 (writeD s k x).loose.length c2 s)) (both (mpn m (kvB s.firm)) (Wk.row 265 65 p2 (writeD s k x).loose.length c2 (encL (writeD s k x).loose))))
 refine end0 S (fun _=>⟨p2,c2,hh,fun i hi=>?_⟩)
 rcases hi with h | h | h
 exact h1 i h
 exact h2 i h
 exact h3 i h
theorem sync11_c (i:Int) (w0:World):Ret Tryz.prog 239 [.int .i64 i] w0 (fun _=>False) fun v _=>v=.bool true:=by
 refine enter Tryz.func239 rfl rfl (Wd.start w0) (fun a S=>?_)
 simp only[Tryz.ntmps239,qqA,qqB,Nat.reduceAdd,Nat.reduceSub,qqC,qqD,qqE,qqF]at S
 refine kS (kR (sq S ?_));clear S;intro a S;refine kN (xtn (kS (kR (sq S ?_))));clear S;intro a S;refine kN (xtn (kT ?_))
 exact end1 S (fun _=>rfl)
theorem sync1_c (g0 b m:Nat) (p:Option Addr) (c:Nat) (s:DS) (w0:World) (hl:s.loose.length≤1000000) (hd:(dkI b m p c s).holds w0) (f0:Stable (dkI b m p c s).foot w0 (BoxF g0 34 [.pointer (some ⟨b,0,none⟩)])) :
  Ret Tryz.prog 238 [.pointer (some ⟨g0,0,none⟩)] w0 (dkI b m p c s).foot fun _ w'=>∃ p' c',(dkI b m p' c' (settleD (fun _=>true) s)).holds w'∧∀ i,(dkI b m p' c' (settleD (fun _=>true) s)).foot i→(dkI b m p c s).foot i∨w0.heap.size≤i:=by
 refine enter Tryz.func238 rfl rfl (Wd.itLent (x:=dkI b m p c s) (fs:=[BoxF g0 34 [.pointer (some ⟨b,0,none⟩)]]) hd (by intro Φ hΦ;obtain rfl:=List.mem_singleton.1 hΦ;exact f0)) (fun a S=>?_)
 simp only[Tryz.ntmps238,qqA,qqB,Nat.reduceAdd,Nat.reduceSub,qqC,qqD,qqE,qqF]at S
 refine kR ?_;(iterate 3 (refine sq S ?_;clear S;intro a S))
 refine sit (dkI b m p c s) S (settle_c 239 [] (fun _=>true) b m p c s [] _ hl (S.it (dkI b m p c s)) (by simp) (fun i w _ _=>sync11_c i w)) rfl ?_;clear S;rintro _ a w hh hS
 have S:=hS (dkI b m none 0 (settleD (fun _=>true) s)) hh (fun k hk=>.inl (by
  rcases hk with h | h | h
  exact .inl h
  exact .inr (.inl h)
  obtain ⟨ad,h,-⟩:=h;cases h))
 clear hS
 refine kN ?_
 have h1:=S.itNew (dkI b m none 0 (settleD (fun _=>true) s)) rfl
 refine end0 S (fun _=>⟨none,0,hh,h1⟩)
def askE (s:DS) (k:Int) (lays:Bool):Int:=if s.out then 9 else if k < 0∨s.size≤k then 2 else if (metF s.fails).1 then 8 else if lays&&(metF s.arms).1 then 9 else 0
def askD (s:DS) (k:Int) (lays:Bool):DS:=if s.out then s else if k < 0∨s.size≤k then s else if (metF s.fails).1 then { s with fails:=(metF s.fails).2 } else
 if lays then (if (metF s.arms).1 then { s with fails:=(metF s.fails).2,arms:=(metF s.arms).2,out:=true } else { s with fails:=(metF s.fails).2,arms:=(metF s.arms).2 }) else { s with fails:=(metF s.fails).2 }
def opD (s:DS):DS:={ s with ops:=IntKind.i64.wrap (s.ops+1) }
section
variable {w0:World} {M0:Nat→Prop} {ds:List Deferred} {a:Act} {w:World} {l:List Value} {fs:List (World→Prop)} {x y z X:Wk.Item}
theorem St.hold4 [ItOk x] [ItOk y] [ItOk z] [ItOk X] (S:St w0 M0 ds a w l [x,y,z,X] fs) (hx:x.own=true) (hy:y.own=true) (hz:z.own=true) (hX:X.own=true):(both X (both x (both y z))).holds w:=by
 have S1:=((St.close3 S hx hy hz).perm [X,both x (both y z)] (List.Perm.swap _ _ _)).toBoth hX (by simp[both,hx,hy,hz])
 exact S1.it (both X (both x (both y z)))
theorem St.new4 [ItOk x] [ItOk y] [ItOk z] [ItOk X] (S:St w0 M0 ds a w l [x,y,z,X] fs) (hx:x.own=true) (hy:y.own=true) (hz:z.own=true) (hX:X.own=true):∀ i,(both X (both x (both y z))).foot i→M0 i∨w0.heap.size≤i:=by
 have S1:=((St.close3 S hx hy hz).perm [X,both x (both y z)] (List.Perm.swap _ _ _)).toBoth hX (by simp[both,hx,hy,hz])
 exact S1.itNew (both X (both x (both y z))) (by simp[both,hx,hy,hz,hX])
end
theorem St.items {w0:World} {M0:Nat→Prop} {ds:List Deferred} {a:Act} {w:World} {l:List Value} {bs bs':List Wk.Item} {fs:List (World→Prop)} (S:St w0 M0 ds a w l bs fs) (h:bs=bs'):St w0 M0 ds a w l bs' fs:=h▸S
theorem askedR_c (F : Nat) [EntF Tryz.prog F] (ca : List Value) (X X' : Wk.Item) [ItOk X] [ItOk X'] (hX : X.own = true) (hX' : X'.own = true) (g : DS → DS) (b m : Nat) (p : Option Addr) (c : Nat) (s : DS) (k : Int) (fs : List (World → Prop)) (w0 : World) (hd : (both X (dkI b m p c s)).holds w0) (hf : ∀ Φ ∈ fs, Stable (both X (dkI b m p c s)).foot w0 Φ)
    (hdo : ∀ (s1 : DS) (w : World), s1.loose = s.loose → s1.firm = s.firm → (both X (dkI b m p c s1)).holds w → (∀ Φ ∈ fs, Stable (both X (dkI b m p c s1)).foot w Φ) → Ret Tryz.prog F ca w (both X (dkI b m p c s1)).foot fun _ w' => ∃ p' c', (both X' (dkI b m p' c' (g s1))).holds w' ∧ ∀ i, (both X' (dkI b m p' c' (g s1))).foot i → (both X (dkI b m p c s1)).foot i ∨ w.heap.size ≤ i) :
    Ret Tryz.prog 222 [.pointer (some ⟨b, 0, none⟩), .int .i64 k, .bool false, .func (.func F) #[] ⟨ca⟩] w0 (both X (dkI b m p c s)).foot fun v w' => v = .int .i64 (askE s k false) ∧
      ((askE s k false ≠ 0 ∧ (both X (dkI b m p c (askD s k false))).holds w' ∧ ∀ i, (both X (dkI b m p c (askD s k false))).foot i → (both X (dkI b m p c s)).foot i ∨ w0.heap.size ≤ i) ∨
       (askE s k false = 0 ∧ ∃ p' c', (both X' (dkI b m p' c' (opD (g (askD s k false))))).holds w' ∧ ∀ i, (both X' (dkI b m p' c' (opD (g (askD s k false))))).foot i → (both X (dkI b m p c s)).foot i ∨ w0.heap.size ≤ i)) := by
  refine enter Tryz.func222 rfl rfl (Wd.it2Lent (x := X) (y := dkI b m p c s) (fs := fs) hd hX rfl hf) (fun a S => ?_)
  simp only [Tryz.ntmps222, qqA, qqB, Nat.reduceAdd, Nat.reduceSub, qqC, qqD, qqE, qqF] at S
  refine kS (kR (sq S ?_));clear S;intro a S;refine kN (xtn (kS (kB (kS (kR ?_)))));(iterate 3 (refine sq S ?_; clear S; intro a S));refine kN (xtn ?_);refine c_condF S ?_;refine kS ?_
  replace S := St.open3 (S.perm [dkI b m p c s, X] (List.Perm.swap _ _ _))
  refine kR ?_;(iterate 6 (refine sq S ?_; clear S; intro a S));refine kN (xtn ?_)
  refine kC S (fun h3 => ?_) (fun h3 => ?_)
  · refine kS (kR (sq S ?_));clear S;intro a S;refine kN (xtn (kT (xbr (xtr ?_))))
    have ho : s.out = true := by simpa using h3
    have e1 : askE s k false = 9 := by simp [askE, ho]
    have e2 : askD s k false = s := by simp [askD, ho]
    have hh := St.hold4 S rfl rfl rfl hX
    have hn := St.new4 S rfl rfl rfl hX
    refine end1 S (fun _ => ⟨by rw [e1], .inl ⟨by rw [e1]; decide, by rw [e2]; exact hh, by rw [e2]; exact hn⟩⟩)
  · refine kS (kR ?_);(iterate 3 (refine sq S ?_; clear S; intro a S));(iterate 7 (refine gQ S ?_; clear S; intro a S));(iterate 2 (refine sq S ?_; clear S; intro a S));refine kN (xtn ?_)
    refine kC S (fun h5 => ?_) (fun h5 => ?_)
    · refine kS (kR (sq S ?_));clear S;intro a S;refine kN (xtn (kT (xbr (xtr ?_))))
      have ho : s.out = false := by simpa using h3
      have hk : k < 0 ∨ s.size ≤ k := by simpa using h5
      have e1 : askE s k false = 2 := by simp [askE, ho, hk]
      have e2 : askD s k false = s := by simp [askD, ho, hk]
      have hh := St.hold4 S rfl rfl rfl hX
      have hn := St.new4 S rfl rfl rfl hX
      refine end1 S (fun _ => ⟨by rw [e1], .inl ⟨by rw [e1]; decide, by rw [e2]; exact hh, by rw [e2]; exact hn⟩⟩)
    · refine kS (kR ?_);(iterate 4 (refine sq S ?_; clear S; intro a S))
      have ho : s.out = false := by simpa using h3
      have hk : ¬ (k < 0 ∨ s.size ≤ k) := by simpa using h5
      refine sit (Wk.box b 170 (cDisk m p s.loose.length c s)) S (met_fails b m p s.loose.length c s _ (S.box b)) rfl ?_; clear S; rintro _ a w ⟨rfl, hbx⟩ hS
      have S := hS (Wk.box b 170 (cDisk m p s.loose.length c { s with fails := (metF s.fails).2 })) hbx (fun k h => .inl h)
      clear hS
      refine sq S ?_;clear S;intro a S;refine kN (xtn ?_)
      refine kC S (fun h7 => ?_) (fun h7 => ?_)
      · refine kS (kR (sq S ?_));clear S;intro a S;refine kN (xtn (kT (xbr (xtr ?_))))
        have hm : (metF s.fails).1 = true := by simpa using h7
        have e1 : askE s k false = 8 := by simp [askE, ho, hk, hm]
        have e2 : askD s k false = { s with fails := (metF s.fails).2 } := by simp [askD, ho, hk, hm]
        have hh := St.hold4 S rfl rfl rfl hX
        have hn := St.new4 S rfl rfl rfl hX
        refine end1 S (fun _ => ⟨by rw [e1], .inl ⟨by rw [e1]; decide, by rw [e2]; exact hh, by rw [e2]; exact hn⟩⟩)
      · refine kS ?_
        have hm : (metF s.fails).1 = false := by simpa using h7
        refine kR ?_;(iterate 2 (refine sq S ?_; clear S; intro a S));(iterate 5 (refine gF S ?_; clear S; intro a S));(iterate 2 (refine sq S ?_; clear S; intro a S));refine kN (xtn ?_);refine c_condF S ?_;refine kK (xbn (xtn (kS ?_)))
        skip
        have e1 : askE s k false = 0 := by simp [askE, ho, hk, hm]
        obtain ⟨s1, hs1⟩ : ∃ s1 : DS, s1 = { s with fails := (metF s.fails).2 } := ⟨_, rfl⟩
        have e2 : askD s k false = s1 := by rw [hs1]; simp [askD, ho, hk, hm]
        have hl1 : s1.loose = s.loose := by rw [hs1]
        have hf1 : s1.firm = s.firm := by rw [hs1]
        replace S := St.items S (bs' := [Wk.box b 170 (cDisk m p s1.loose.length c s1), mpn m (kvB s1.firm), Wk.row 265 65 p s1.loose.length c (encL s1.loose), X]) (by subst hs1; rfl)
        replace S := ((St.close3 S).perm [X, dkI b m p c s1] (List.Perm.swap _ _ _)).toBoth hX rfl
        refine kR (sq S ?_);clear S;intro a S
        refine sit (both X (dkI b m p c s1)) S (hdo s1 _ hl1 hf1 (S.it (both X (dkI b m p c s1))) (fun Φ hΦ => S.lend (both X (dkI b m p c s1)) (S.wd.facts Φ hΦ))) (by simp only [both, hX]; rfl) ?_; clear S; rintro _ a w ⟨p', c', hh, hn⟩ hS
        have S := hS (both X' (dkI b m p' c' (g s1))) hh hn
        clear hS
        replace S := St.open3 ((S.ofBoth hX' rfl).perm [dkI b m p' c' (g s1), X'] (List.Perm.swap _ _ _))
        refine kN (xtn (kS (kR ?_)));(iterate 9 (refine sq S ?_; clear S; intro a S));refine sw S ?_;clear S;intro a w S;refine kN (xtn (kS (kR (sq S ?_))));clear S;intro a S;refine kN (xtn (kT ?_))
        have hh := St.hold4 S rfl rfl rfl hX'
        have hn := St.new4 S rfl rfl rfl hX'
        refine end1 S (fun _ => ⟨by rw [e1], .inr ⟨e1, p', c', by rw [e2]; exact hh, by rw [e2]; exact hn⟩⟩)
theorem askedW_c (F : Nat) [EntF Tryz.prog F] (ca : List Value) (X X' : Wk.Item) [ItOk X] [ItOk X'] (hX : X.own = true) (hX' : X'.own = true) (g : DS → DS) (b m : Nat) (p : Option Addr) (c : Nat) (s : DS) (k : Int) (fs : List (World → Prop)) (w0 : World) (hd : (both X (dkI b m p c s)).holds w0) (hf : ∀ Φ ∈ fs, Stable (both X (dkI b m p c s)).foot w0 Φ)
    (hdo : ∀ (s1 : DS) (w : World), s1.loose = s.loose → s1.firm = s.firm → (both X (dkI b m p c s1)).holds w → (∀ Φ ∈ fs, Stable (both X (dkI b m p c s1)).foot w Φ) → Ret Tryz.prog F ca w (both X (dkI b m p c s1)).foot fun _ w' => ∃ p' c', (both X' (dkI b m p' c' (g s1))).holds w' ∧ ∀ i, (both X' (dkI b m p' c' (g s1))).foot i → (both X (dkI b m p c s1)).foot i ∨ w.heap.size ≤ i) :
    Ret Tryz.prog 222 [.pointer (some ⟨b, 0, none⟩), .int .i64 k, .bool true, .func (.func F) #[] ⟨ca⟩] w0 (both X (dkI b m p c s)).foot fun v w' => v = .int .i64 (askE s k true) ∧
      ((askE s k true ≠ 0 ∧ (both X (dkI b m p c (askD s k true))).holds w' ∧ ∀ i, (both X (dkI b m p c (askD s k true))).foot i → (both X (dkI b m p c s)).foot i ∨ w0.heap.size ≤ i) ∨
       (askE s k true = 0 ∧ ∃ p' c', (both X' (dkI b m p' c' (opD (g (askD s k true))))).holds w' ∧ ∀ i, (both X' (dkI b m p' c' (opD (g (askD s k true))))).foot i → (both X (dkI b m p c s)).foot i ∨ w0.heap.size ≤ i)) := by
  refine enter Tryz.func222 rfl rfl (Wd.it2Lent (x := X) (y := dkI b m p c s) (fs := fs) hd hX rfl hf) (fun a S => ?_)
  simp only [Tryz.ntmps222, qqA, qqB, Nat.reduceAdd, Nat.reduceSub, qqC, qqD, qqE, qqF] at S
  refine kS (kR (sq S ?_));clear S;intro a S;refine kN (xtn (kS (kB (kS (kR ?_)))));(iterate 3 (refine sq S ?_; clear S; intro a S));refine kN (xtn ?_);refine c_condF S ?_;refine kS ?_
  replace S := St.open3 (S.perm [dkI b m p c s, X] (List.Perm.swap _ _ _))
  refine kR ?_;(iterate 6 (refine sq S ?_; clear S; intro a S));refine kN (xtn ?_)
  refine kC S (fun h3 => ?_) (fun h3 => ?_)
  · refine kS (kR (sq S ?_));clear S;intro a S;refine kN (xtn (kT (xbr (xtr ?_))))
    have ho : s.out = true := by simpa using h3
    have e1 : askE s k true = 9 := by simp [askE, ho]
    have e2 : askD s k true = s := by simp [askD, ho]
    have hh := St.hold4 S rfl rfl rfl hX
    have hn := St.new4 S rfl rfl rfl hX
    refine end1 S (fun _ => ⟨by rw [e1], .inl ⟨by rw [e1]; decide, by rw [e2]; exact hh, by rw [e2]; exact hn⟩⟩)
  · refine kS (kR ?_);(iterate 3 (refine sq S ?_; clear S; intro a S));(iterate 7 (refine gQ S ?_; clear S; intro a S));(iterate 2 (refine sq S ?_; clear S; intro a S));refine kN (xtn ?_)
    refine kC S (fun h5 => ?_) (fun h5 => ?_)
    · refine kS (kR (sq S ?_));clear S;intro a S;refine kN (xtn (kT (xbr (xtr ?_))))
      have ho : s.out = false := by simpa using h3
      have hk : k < 0 ∨ s.size ≤ k := by simpa using h5
      have e1 : askE s k true = 2 := by simp [askE, ho, hk]
      have e2 : askD s k true = s := by simp [askD, ho, hk]
      have hh := St.hold4 S rfl rfl rfl hX
      have hn := St.new4 S rfl rfl rfl hX
      refine end1 S (fun _ => ⟨by rw [e1], .inl ⟨by rw [e1]; decide, by rw [e2]; exact hh, by rw [e2]; exact hn⟩⟩)
    · refine kS (kR ?_);(iterate 4 (refine sq S ?_; clear S; intro a S))
      have ho : s.out = false := by simpa using h3
      have hk : ¬ (k < 0 ∨ s.size ≤ k) := by simpa using h5
      refine sit (Wk.box b 170 (cDisk m p s.loose.length c s)) S (met_fails b m p s.loose.length c s _ (S.box b)) rfl ?_; clear S; rintro _ a w ⟨rfl, hbx⟩ hS
      have S := hS (Wk.box b 170 (cDisk m p s.loose.length c { s with fails := (metF s.fails).2 })) hbx (fun k h => .inl h)
      clear hS
      refine sq S ?_;clear S;intro a S;refine kN (xtn ?_)
      refine kC S (fun h7 => ?_) (fun h7 => ?_)
      · refine kS (kR (sq S ?_));clear S;intro a S;refine kN (xtn (kT (xbr (xtr ?_))))
        have hm : (metF s.fails).1 = true := by simpa using h7
        have e1 : askE s k true = 8 := by simp [askE, ho, hk, hm]
        have e2 : askD s k true = { s with fails := (metF s.fails).2 } := by simp [askD, ho, hk, hm]
        have hh := St.hold4 S rfl rfl rfl hX
        have hn := St.new4 S rfl rfl rfl hX
        refine end1 S (fun _ => ⟨by rw [e1], .inl ⟨by rw [e1]; decide, by rw [e2]; exact hh, by rw [e2]; exact hn⟩⟩)
      · refine kS ?_
        have hm : (metF s.fails).1 = false := by simpa using h7
        refine kR ?_;(iterate 2 (refine sq S ?_; clear S; intro a S));refine gT S ?_;refine sq S ?_;clear S;intro a S;refine gT S ?_;refine sq S ?_;clear S;intro a S;refine gT S ?_;refine sq S ?_;clear S;intro a S;refine gT S ?_;refine sq S ?_;clear S;intro a S;refine gT S ?_
        refine sit (Wk.box b 170 (cDisk m p s.loose.length c { s with fails := (metF s.fails).2 })) S (met_arms b m p s.loose.length c { s with fails := (metF s.fails).2 } _ (S.box b)) rfl ?_; clear S; rintro _ a w ⟨rfl, hbx⟩ hS
        have S := hS (Wk.box b 170 (cDisk m p s.loose.length c { s with fails := (metF s.fails).2, arms := (metF s.arms).2 })) hbx (fun k h => .inl h)
        clear hS
        (iterate 2 (refine sq S ?_; clear S; intro a S));refine kN (xtn ?_)
        refine kC S (fun h9 => ?_) (fun h9 => ?_)
        · refine kS (kR ?_);(iterate 4 (refine sq S ?_; clear S; intro a S));refine sw S ?_;clear S;intro a w S;refine kN (xtn (kS (kR (sq S ?_))));clear S;intro a S;refine kN (xtn (kT (xbr (xtr ?_))))
          have hm2 : (metF s.arms).1 = true := by simpa using h9
          have e1 : askE s k true = 9 := by simp [askE, ho, hk, hm, hm2]
          have e2 : askD s k true = { s with fails := (metF s.fails).2, arms := (metF s.arms).2, out := true } := by simp [askD, ho, hk, hm, hm2]
          have hh := St.hold4 S rfl rfl rfl hX
          have hn := St.new4 S rfl rfl rfl hX
          refine end1 S (fun _ => ⟨by rw [e1], .inl ⟨by rw [e1]; decide, by rw [e2]; exact hh, by rw [e2]; exact hn⟩⟩)
        · refine kK (xbn (xtn (kS ?_)))
          have hm2 : (metF s.arms).1 = false := by simpa using h9
          have e1 : askE s k true = 0 := by simp [askE, ho, hk, hm, hm2]
          obtain ⟨s1, hs1⟩ : ∃ s1 : DS, s1 = { s with fails := (metF s.fails).2, arms := (metF s.arms).2 } := ⟨_, rfl⟩
          have e2 : askD s k true = s1 := by rw [hs1]; simp [askD, ho, hk, hm, hm2]
          have hl1 : s1.loose = s.loose := by rw [hs1]
          have hf1 : s1.firm = s.firm := by rw [hs1]
          replace S := St.items S (bs' := [Wk.box b 170 (cDisk m p s1.loose.length c s1), mpn m (kvB s1.firm), Wk.row 265 65 p s1.loose.length c (encL s1.loose), X]) (by subst hs1; rfl)
          replace S := ((St.close3 S).perm [X, dkI b m p c s1] (List.Perm.swap _ _ _)).toBoth hX rfl
          refine kR (sq S ?_);clear S;intro a S
          refine sit (both X (dkI b m p c s1)) S (hdo s1 _ hl1 hf1 (S.it (both X (dkI b m p c s1))) (fun Φ hΦ => S.lend (both X (dkI b m p c s1)) (S.wd.facts Φ hΦ))) (by simp only [both, hX]; rfl) ?_; clear S; rintro _ a w ⟨p', c', hh, hn⟩ hS
          have S := hS (both X' (dkI b m p' c' (g s1))) hh hn
          clear hS
          replace S := St.open3 ((S.ofBoth hX' rfl).perm [dkI b m p' c' (g s1), X'] (List.Perm.swap _ _ _))
          refine kN (xtn (kS (kR ?_)));(iterate 9 (refine sq S ?_; clear S; intro a S));refine sw S ?_;clear S;intro a w S;refine kN (xtn (kS (kR (sq S ?_))));clear S;intro a S;refine kN (xtn (kT ?_))
          have hh := St.hold4 S rfl rfl rfl hX'
          have hn := St.new4 S rfl rfl rfl hX'
          refine end1 S (fun _ => ⟨by rw [e1], .inr ⟨e1, p', c', by rw [e2]; exact hh, by rw [e2]; exact hn⟩⟩)
theorem nil_foot (y:Wk.Item):(both nilI y).foot=y.foot:=by funext k;simp[both,nilI]
theorem nil_holds (y:Wk.Item) (w:World):(both nilI y).holds w↔y.holds w:=by simp[both,nilI]
def askedD (g:DS→DS) (s:DS) (k:Int):DS:=if askE s k true=0 then opD (g (askD s k true)) else askD s k true
theorem askedW1 (F:Nat) [EntF Tryz.prog F] (ca:List Value) (g:DS→DS) (b m:Nat) (p:Option Addr) (c:Nat) (s:DS) (k:Int) (fs:List (World→Prop)) (w0:World) (hd:(dkI b m p c s).holds w0) (hf:∀ Φ∈fs,Stable (dkI b m p c s).foot w0 Φ)
  (hdo:∀ (s1:DS) (w:World),s1.loose=s.loose→s1.firm=s.firm→(dkI b m p c s1).holds w→(∀ Φ∈fs,Stable (dkI b m p c s1).foot w Φ)→Ret Tryz.prog F ca w (dkI b m p c s1).foot fun _ w'=>∃ p' c',(dkI b m p' c' (g s1)).holds w'∧∀ i,(dkI b m p' c' (g s1)).foot i→(dkI b m p c s1).foot i∨w.heap.size≤i) :
  Ret Tryz.prog 222 [.pointer (some ⟨b,0,none⟩),.int .i64 k,.bool true,.func (.func F) #[] ⟨ca⟩] w0 (dkI b m p c s).foot fun v w'=>v=.int .i64 (askE s k true)∧∃ p' c',(dkI b m p' c' (askedD g s k)).holds w'∧∀ i,(dkI b m p' c' (askedD g s k)).foot i→(dkI b m p c s).foot i∨w0.heap.size≤i:=by
 have h:=askedW_c F ca nilI nilI rfl rfl g b m p c s k fs w0 ((nil_holds _ _).2 hd) (by rw[nil_foot];exact hf) (fun s1 w h1 h2 h3 h4=>by
  rw[nil_foot]at h4⊢
  refine (hdo s1 w h1 h2 ((nil_holds _ _).1 h3) h4).mono fun _ w' ⟨p',c',h5,h6⟩=>⟨p',c',(nil_holds _ _).2 h5,?_⟩
  rw[nil_foot];exact h6)
 rw[nil_foot]at h
 refine h.mono fun v w' ⟨h1,h2⟩=>⟨h1,?_⟩
 rcases h2 with ⟨h3,h4,h5⟩ | ⟨h3,p',c',h4,h5⟩
 rw[nil_foot]at h5
 rw[askedD,if_neg h3]
 exact ⟨p,c,(nil_holds _ _).1 h4,h5⟩
 rw[nil_foot]at h5
 rw[askedD,if_pos h3]
 exact ⟨p',c',(nil_holds _ _).1 h4,h5⟩
def wrD (s:DS) (k:Int) (x:Blk):DS:=askedD (fun s=>writeD s k x) s k
theorem dwrite_c (b m:Nat) (p:Option Addr) (c:Nat) (s:DS) (k:Int) (x:Blk) (w0:World) (hl:s.loose.length≤1000000) (hd:(dkI b m p c s).holds w0) :
  Ret Tryz.prog 171 [.pointer (some ⟨b,0,none⟩),.int .i64 k,vBlk x] w0 (dkI b m p c s).foot fun v w'=>v=.int .i64 (askE s k true)∧∃ p' c',(dkI b m p' c' (wrD s k x)).holds w'∧∀ i,(dkI b m p' c' (wrD s k x)).foot i→(dkI b m p c s).foot i∨w0.heap.size≤i:=by
 refine enter Tryz.func171 rfl rfl (Wd.itLent (x:=dkI b m p c s) (fs:=[]) hd (by simp)) (fun a S=>?_)
 simp only[Tryz.ntmps171,qqA,qqB,Nat.reduceAdd,Nat.reduceSub,qqC,qqD,qqE,qqF]at S
 refine kS (kR ?_);refine sa S ?_;clear S;intro b3 a w S;refine sa S ?_;clear S;intro b4 a w S;refine sa S ?_;clear S;intro b5 a w S;refine sq S ?_;clear S;intro a S;refine kN (xtn (kS (kR ?_)));(iterate 3 (refine sq S ?_;clear S;intro a S))
 replace S:=S.boxToF b5
 replace S:=S.boxToF b4
 replace S:=S.boxToF b3
 refine sit (dkI b m p c s) S (askedW1 237 [.pointer (some ⟨b3,0,none⟩),.pointer (some ⟨b4,0,none⟩),.pointer (some ⟨b5,0,none⟩)] (fun s=>writeD s k x) b m p c s k [BoxF b3 34 [.pointer (some ⟨b,0,none⟩)],BoxF b4 3 [.int .i64 k],BoxF b5 129 (encL x.l)] _ (S.it (dkI b m p c s)) (fun Φ hΦ=>S.lend (dkI b m p c s) (S.wd.facts Φ hΦ)) (fun s1 w h1 h2 h3 h4=>write1_c b3 b4 b5 b m p c s1 k x w (by rw[h1];exact hl) h3 (h4 _ (by simp)) (h4 _ (by simp)) (h4 _ (by simp)))) rfl ?_;clear S;rintro _ a w ⟨rfl,p',c',hh,hn⟩ hS
 have S:=hS (dkI b m p' c' (wrD s k x)) hh hn
 clear hS
 refine sq S ?_;clear S;intro a S;refine kN (xtn (kT ?_))
 have h1:=S.itNew (dkI b m p' c' (wrD s k x)) rfl
 refine end1 S (fun _=>⟨rfl,p',c',hh,h1⟩)
def syD (s:DS):DS:=askedD (settleD fun _=>true) s 0
theorem dsync_c (b m:Nat) (p:Option Addr) (c:Nat) (s:DS) (w0:World) (hl:s.loose.length≤1000000) (hd:(dkI b m p c s).holds w0) :
  Ret Tryz.prog 172 [.pointer (some ⟨b,0,none⟩)] w0 (dkI b m p c s).foot fun v w'=>v=.int .i64 (askE s 0 true)∧∃ p' c',(dkI b m p' c' (syD s)).holds w'∧∀ i,(dkI b m p' c' (syD s)).foot i→(dkI b m p c s).foot i∨w0.heap.size≤i:=by
 refine enter Tryz.func172 rfl rfl (Wd.itLent (x:=dkI b m p c s) (fs:=[]) hd (by simp)) (fun a S=>?_)
 simp only[Tryz.ntmps172,qqA,qqB,Nat.reduceAdd,Nat.reduceSub,qqC,qqD,qqE,qqF]at S
 refine kS (kR ?_);refine sa S ?_;clear S;intro b1 a w S;refine sq S ?_;clear S;intro a S;refine kN (xtn (kS (kR ?_)));(iterate 2 (refine sq S ?_;clear S;intro a S))
 replace S:=S.boxToF b1
 refine sit (dkI b m p c s) S (askedW1 238 [.pointer (some ⟨b1,0,none⟩)] (settleD fun _=>true) b m p c s 0 [BoxF b1 34 [.pointer (some ⟨b,0,none⟩)]] _ (S.it (dkI b m p c s)) (fun Φ hΦ=>S.lend (dkI b m p c s) (S.wd.facts Φ hΦ)) (fun s1 w h1 h2 h3 h4=>sync1_c b1 b m p c s1 w (by rw[h1];exact hl) h3 (h4 _ (by simp)))) rfl ?_;clear S;rintro _ a w ⟨rfl,p',c',hh,hn⟩ hS
 have S:=hS (dkI b m p' c' (syD s)) hh hn
 clear hS
 refine sq S ?_;clear S;intro a S;refine kN (xtn (kT ?_))
 have h1:=S.itNew (dkI b m p' c' (syD s)) rfl
 refine end1 S (fun _=>⟨rfl,p',c',hh,h1⟩)
def rdB (s:DS) (k:Int):Blk:=if askE s k false=0 then holdsF s k else zB
def rdD (s:DS) (k:Int):DS:=if askE s k false=0 then opD (askD s k false) else askD s k false
theorem read1_c (g0 g1 r b m:Nat) (p:Option Addr) (c:Nat) (s:DS) (k:Int) (w0:World) (hl:s.loose.length≤1000000) (hd:(both (Wk.box r 129 (encL zB.l)) (dkI b m p c s)).holds w0)
  (f0:Stable (both (Wk.box r 129 (encL zB.l)) (dkI b m p c s)).foot w0 (BoxF g0 34 [.pointer (some ⟨b,0,none⟩)])) (f1:Stable (both (Wk.box r 129 (encL zB.l)) (dkI b m p c s)).foot w0 (BoxF g1 3 [.int .i64 k])) :
  Ret Tryz.prog 223 [.pointer (some ⟨g0,0,none⟩),.pointer (some ⟨g1,0,none⟩),.pointer (some ⟨r,0,none⟩)] w0 (both (Wk.box r 129 (encL zB.l)) (dkI b m p c s)).foot fun _ w'=>(both (Wk.box r 129 (encL (holdsF s k).l)) (dkI b m p c s)).holds w':=by
 refine enter Tryz.func223 rfl rfl (Wd.it2Lent (x:=Wk.box r 129 (encL zB.l)) (y:=dkI b m p c s) (fs:=[BoxF g0 34 [.pointer (some ⟨b,0,none⟩)],BoxF g1 3 [.int .i64 k]]) hd rfl rfl (by simp only[List.mem_cons,List.not_mem_nil,or_false];rintro Φ (rfl | rfl) <;> assumption)) (fun a S=>?_)
 simp only[Tryz.ntmps223,qqA,qqB,Nat.reduceAdd,Nat.reduceSub,qqC,qqD,qqE,qqF]at S
 refine c_drawE [(0,true),(1,true),(2,true),(3,true),(4,false),(5,false)] [dkI b m p c s] S ?_;clear S;intro w S;(iterate 4 (refine dq S ?_;clear S;intro a S));refine dl ?_
 have hdk:(dkI b m p c s).holds _:=S.it (dkI b m p c s)
 refine sr S (holds_c b m p c s k hl _ (BoxF.stable hdk.1 (fun h=>h)) (MpnF.stable hdk.2.1.1 (fun h=>h)) (gl_own (M:=fun _=>False) hdk.2.1.2.1 (fun _ _ _ _=>trivial) (fun _ _ h=>h))) ?_;clear S hdk;rintro _ a w rfl S
 refine de S ?_;refine dl (sw S ?_);clear S;intro a w S;refine de S ?_;refine dn ?_
 replace S:=S.sub [Wk.box r 129 (encL (holdsF s k).l),dkI b m p c s] []
 have hh:=(S.toBoth).it (both (Wk.box r 129 (encL (holdsF s k).l)) (dkI b m p c s))
 refine end0 S (fun _=>hh)
theorem dread_c (b m:Nat) (p:Option Addr) (c:Nat) (s:DS) (k:Int) (w0:World) (hl:s.loose.length≤1000000) (hd:(dkI b m p c s).holds w0) :
  Ret Tryz.prog 147 [.pointer (some ⟨b,0,none⟩),.int .i64 k] w0 (dkI b m p c s).foot fun v w'=>v=.tuple ⟨[vBlk (rdB s k),.int .i64 (askE s k false)]⟩∧∃ p' c',(dkI b m p' c' (rdD s k)).holds w'∧∀ i,(dkI b m p' c' (rdD s k)).foot i→(dkI b m p c s).foot i∨w0.heap.size≤i:=by
 refine enter Tryz.func147 rfl rfl (Wd.itLent (x:=dkI b m p c s) (fs:=[]) hd (by simp)) (fun a S=>?_)
 simp only[Tryz.ntmps147,qqA,qqB,Nat.reduceAdd,Nat.reduceSub,qqC,qqD,qqE,qqF]at S
 refine kS (kR ?_);refine sa S ?_;clear S;intro b2 a w S;refine sa S ?_;clear S;intro b3 a w S;refine sa S ?_;clear S;intro b4 a w S;refine sq S ?_;clear S;intro a S;refine kN (xtn (kS (kR ?_)));(iterate 3 (refine sq S ?_;clear S;intro a S))
 rw[show (encL (List.replicate 64 (0:UInt8)):List Value)=encL zB.l from rfl]at S
 replace S:=S.boxToF b3
 replace S:=S.boxToF b2
 replace S:=S.toBoth
 refine sit (both (Wk.box b4 129 (encL zB.l)) (dkI b m p c s)) S (askedR_c 223 [.pointer (some ⟨b2,0,none⟩),.pointer (some ⟨b3,0,none⟩),.pointer (some ⟨b4,0,none⟩)] (Wk.box b4 129 (encL zB.l)) (Wk.box b4 129 (encL (holdsF s k).l)) rfl rfl id b m p c s k [BoxF b2 34 [.pointer (some ⟨b,0,none⟩)],BoxF b3 3 [.int .i64 k]] _ (S.it (both (Wk.box b4 129 (encL zB.l)) (dkI b m p c s))) (fun Φ hΦ=>S.lend (both (Wk.box b4 129 (encL zB.l)) (dkI b m p c s)) (S.wd.facts Φ hΦ)) (fun s1 w h1 h2 h3 h4=>(read1_c b2 b3 b4 b m p c s1 k w (by rw[h1];exact hl) h3 (h4 _ (by simp)) (h4 _ (by simp))).mono fun _ w' h=>⟨p,c,by rw[show holdsF s k=holdsF s1 k from by rw[holdsF,holdsF,h1,h2]];exact h,fun i hi=>.inl hi⟩)) rfl ?_;clear S;rintro _ a w ⟨rfl,hcase⟩ hS
 obtain ⟨p',c',hh,hn⟩:∃ p' c',(both (Wk.box b4 129 (encL (rdB s k).l)) (dkI b m p' c' (rdD s k))).holds w∧∀ i,(both (Wk.box b4 129 (encL (rdB s k).l)) (dkI b m p' c' (rdD s k))).foot i→(both (Wk.box b4 129 (encL zB.l)) (dkI b m p c s)).foot i∨_≤i:=by
  rcases hcase with ⟨h3,h4,h5⟩ | ⟨h3,p',c',h4,h5⟩
  rw[rdB,rdD,if_neg h3,if_neg h3];exact ⟨p,c,h4,h5⟩
  rw[rdB,rdD,if_pos h3,if_pos h3];exact ⟨p',c',h4,h5⟩
 have S:=hS (both (Wk.box b4 129 (encL (rdB s k).l)) (dkI b m p' c' (rdD s k))) hh hn
 clear hS hcase hh hn
 replace S:=S.ofBoth
 refine sq S ?_;clear S;intro a S;refine kN (xtn (kS (kR ?_)));(iterate 2 (refine sq S ?_;clear S;intro a S));refine sw S ?_;clear S;intro a w S;refine sq S ?_;clear S;intro a S;refine kN (xtn (kT ?_))
 have h0:=S.it (dkI b m p' c' (rdD s k))
 have h1:=S.itNew (dkI b m p' c' (rdD s k)) rfl
 refine end2 S (fun _=>⟨rfl,p',c',h0,h1⟩)
theorem take_snocW {α:Type} [Lay α] {xs:List α} {k:Nat} (h:k < xs.length):xs.take (k+1)=xs.take k++[nthG xs k]:=by
 rw[List.take_add_one,nthG_get h];rfl
def keepF (l:List Bool) (i:Nat):Bool:=decide ((i:Int) < (l.length:Int))&&nthG l i
def crashD (l:List Bool) (s:DS):DS:={ settleD (keepF l) s with out:=false,arms:=⟨false,0⟩,fails:=⟨false,0⟩ }
theorem dpending_c (b m:Nat) (p:Option Addr) (c:Nat) (s:DS) (w0:World) (hl:s.loose.length≤1000000) (f1:Stable (fun _=>False) w0 (BoxF b 170 (cDisk m p s.loose.length c s))) (f2:Stable (fun _=>False) w0 (GlF p s.loose)) :
  Ret Tryz.prog 157 [.pointer (some ⟨b,0,none⟩)] w0 (fun _=>False) fun v w'=>∃ q e,v=.slice q s.loose.length e∧w'.ownsRow 0 3 1 (.slice q s.loose.length e) s.loose.length (encL (s.loose.map LWr.at_))∧∀ ad,q=some ad→w0.heap.size≤ad.block:=by
 refine enter Tryz.func157 rfl rfl (Wd.begin (fs:=[BoxF b 170 (cDisk m p s.loose.length c s),GlF p s.loose]) (by simp;exact ⟨f1,f2⟩)) (fun a S=>?_)
 simp only[Tryz.ntmps157,qqA,qqB,Nat.reduceAdd,Nat.reduceSub,qqC,qqD,qqE,qqF]at S
 refine kS (kR (sq S ?_));clear S;intro a S;refine kN (xtn (kS (kS (kR ?_))));(iterate 2 (refine sq S ?_;clear S;intro a S));refine kN (xtn ?_);refine c_condF S ?_;refine kK (xtn (kS (kR (sq S ?_))));clear S;intro a S;refine kN (xtn ?_);refine kS (kS (kR ?_));(iterate 7 (refine sq S ?_;clear S;intro a S));refine kN (xtn (kB ?_))
 replace S:=S.addNil 3 1
 refine c_fore4 S (fun(k:Nat) (os:List Int) (q:Option Addr) (e:Nat) uu=>[(3,.slice q os.length e),(1,uu 5),(8,.int .i64 (k:Nat)),(0,uu 15),(0,uu 16),(0,uu 17),(0,uu 18),(0,uu 19),(0,uu 20),(0,uu 21),(0,uu 22),(0,uu 23)]) (fun(k:Nat) (os:List Int) (q:Option Addr) (e:Nat)=>[Wk.row 3 1 q os.length e (encL os)]) (fun(k:Nat) (os:List Int) (q:Option Addr) (e:Nat)=>[BoxF b 170 (cDisk m p s.loose.length c s),GlF p s.loose]) (fun(k:Nat) (os:List Int) (q:Option Addr) (e:Nat)=>k≤s.loose.length∧os=(s.loose.take k).map LWr.at_) (fun(k:Nat) (os:List Int) (q:Option Addr) (e:Nat)=>s.loose.length - k) (0) ([]) (none) (0) ?_ S.uu ?_ ?_
 exact ⟨Nat.zero_le _,rfl⟩
 exact S.sub [Wk.row 3 1 none 0 0 []] _
 clear S;rintro k os q e uu a w ⟨hk,hos⟩ S
 refine kS (kR (sq S ?_));clear S;intro a S;refine kN (xtn (kS ?_))
 refine kC S (fun h5=>?_) (fun h5=>?_)
 refine kK (xtn (kS (kB (kS ?_))))
 have hkl:k < s.loose.length:=by simp at h5;omega
 have hK:KLt k s.loose.length:=⟨hkl⟩
 have hol:os.length=k:=by rw[hos,List.length_map,List.length_take];omega
 refine kR ?_;(iterate 2 (refine sq S ?_;clear S;intro a S));refine sa S ?_;clear S;intro b5 a w S;refine sw S ?_;clear S;intro a w S;refine kN (xtn (kR ?_));(iterate 3 (refine sq S ?_;clear S;intro a S));refine sn S ?_;clear S;intro b21 a w S
 refine sap S (by simp only[maxLen];omega) (by omega) ?_;clear S;rintro p7 c7 a w - S
 rw[show encL os++[.int .i64 (nthG s.loose k).at_]=encL (os++[(nthG s.loose k).at_]) from by rw[encL_append];rfl,show os.length+1=(os++[(nthG s.loose k).at_]).length from by simp]at S
 refine sq S ?_;clear S;intro a S;refine kN (xbn (xtn (kR ?_)));(iterate 2 (refine sq S ?_;clear S;intro a S));refine kN (xtn ?_)
 rw[w64 ((k:Int)+1) (by omega) (by omega)]at S
 refine ⟨k+1,os++[(nthG s.loose k).at_],p7,c7,S.uu,⟨hkl,?_⟩,S.sub _ _,by omega⟩
 rw[hos,take_snocW hkl,List.map_append];rfl
 refine kE (xte (xte (xbe (xtn (kS (kR ?_))))));(iterate 2 (refine sq S ?_;clear S;intro a S));refine kN (xtn (kT ?_))
 have hk2:k=s.loose.length:=by simp at h5;omega
 have hol:os.length=s.loose.length:=by rw[hos,List.length_map,List.length_take];omega
 have hrow:=S.row q os.length
 have hnew:=S.rowNew q os.length
 rw[hk2,List.take_length]at hos
 refine end1 S (fun _=>?_)
 exact ⟨q,e,by rw[hol],by rw[←hos,←hol];exact hrow,fun ad h=>(hnew ad h).elim (fun h=>h.elim) id⟩
def numB (bs:List UInt8) (x:Int):Int:=bs.foldl (fun x c=>IntKind.u64.wrap (IntKind.u64.wrap (256*x)+(c.toNat:Int))) x
theorem numB_snoc (bs:List UInt8) (c:UInt8) (x:Int):numB (bs++[c]) x=IntKind.u64.wrap (IntKind.u64.wrap (256*numB bs x)+(c.toNat:Int)):=by simp[numB]
theorem take_snocG {α:Type} [Lay α] {xs:List α} {k:Nat} (h:k < xs.length):xs.take (k+1)=xs.take k++[nthG xs k]:=by
 rw[List.take_add_one,nthG_get h];rfl
theorem u8_u64 (c:UInt8):IntKind.u64.wrap (c.toNat:Int)=(c.toNat:Int):=wu64 _ (by omega) (by have:=c.toNat_lt;omega)
theorem weigh1_c (b:Nat) (bs:List UInt8) (p:Option Addr) (n c:Nat) (x0:Int) (w0:World) (hn:bs.length=n) (hl:n≤10000000) (hb:(Wk.box b 239 [.int .u64 x0]).holds w0) (hx:Stable (fun k=>k=b) w0 (GlF p bs)) :
  Ret Tryz.prog 233 [.slice p n c,.pointer (some ⟨b,0,none⟩)] w0 (fun k=>k=b) fun _ w'=>(Wk.box b 239 [.int .u64 (numB bs x0)]).holds w':=by
 subst hn
 refine enter Tryz.func233 rfl rfl (Wd.itLent (x:=Wk.box b 239 [.int .u64 x0]) (fs:=[GlF p bs]) hb (by intro Φ hΦ;obtain rfl:=List.mem_singleton.1 hΦ;exact hx)) (fun a S=>?_)
 simp only[Tryz.ntmps233,qqA,qqB,Nat.reduceAdd,Nat.reduceSub,qqC,qqD,qqE,qqF]at S
 refine kS (kR ?_);(iterate 3 (refine sq S ?_;clear S;intro a S));refine kN (xtn (kB ?_))
 refine c_fore1 S (fun(k:Nat) uu=>[(4,uu 4),(2,.int .i64 (k:Nat)),(0,uu 8),(0,uu 9),(0,uu 10),(0,uu 11),(0,uu 12),(0,uu 13),(0,uu 14),(0,uu 15),(0,uu 16)]) (fun(k:Nat)=>[Wk.box b 239 [.int .u64 (numB (bs.take k) x0)]]) (fun(k:Nat)=>[GlF p bs]) (fun(k:Nat)=>k≤bs.length) (fun(k:Nat)=>bs.length - k) (0) ?_ S.uu ?_ ?_
 exact Nat.zero_le _
 first | exact S | exact S.sub _ _
 clear S;rintro k uu a w hk S;refine kS (kR (sq S ?_));clear S;intro a S;refine kN (xtn (kS ?_))
 refine kC S (fun h1=>?_) (fun h1=>?_)
 refine kK (xtn (kS (kB (kS ?_))))
 have hkl:k < bs.length:=by simp at h1;omega
 have hK:KLt k bs.length:=⟨hkl⟩
 refine kR ?_;(iterate 3 (refine sq S ?_;clear S;intro a S));refine kN (xtn (kR ?_));(iterate 4 (refine sq S ?_;clear S;intro a S))
 rw[u8_u64]at S
 refine sq S ?_;clear S;intro a S;refine sw S ?_;clear S;intro a w S;refine kN (xbn (xtn (kR ?_)));(iterate 2 (refine sq S ?_;clear S;intro a S));refine kN (xtn ?_)
 rw[w64 ((k:Int)+1) (by omega) (by omega)]at S
 rw[←numB_snoc,←take_snocG hkl]at S
 exact ⟨k+1,S.uu,hkl,S.sub _ _,by omega⟩
 refine kE (xte (xte (xbe ?_)))
 have hk2:k=bs.length:=by simp at h1;omega
 subst hk2
 rw[List.take_length]at S
 have hh:=S.box b
 refine end0 S (fun _=>hh)
theorem off_c (b bx:Nat) (bs:List UInt8) (p:Option Addr) (c k:Nat) (x0:Int) (w0:World) (hk:k≤bs.length) (hc:bs.length≤c) (hl:bs.length≤10000000) (hb:(both (Wk.box bx 239 [.int .u64 x0]) (Wk.box b 238 [.slice p bs.length c,.int .i64 0])).holds w0) (hx:Stable (both (Wk.box bx 239 [.int .u64 x0]) (Wk.box b 238 [.slice p bs.length c,.int .i64 0])).foot w0 (GlF p bs)) :
  Ret Tryz.prog 166 [.pointer (some ⟨b,0,none⟩),.int .i64 (k:Int),.func (.func 233) #[] ⟨[.pointer (some ⟨bx,0,none⟩)]⟩] w0 (both (Wk.box bx 239 [.int .u64 x0]) (Wk.box b 238 [.slice p bs.length c,.int .i64 0])).foot fun _ w'=>
   (both (Wk.box bx 239 [.int .u64 (numB (bs.take k) x0)]) (Wk.box b 238 [.slice (if c=k then p else p.map (·.add (k*1))) (bs.length - k) (c - k),.int .i64 0])).holds w':=by
 have hL1:LeC k bs.length:=⟨hk⟩
 have hL2:LeC bs.length c:=⟨hc⟩
 have hL3:LeC k c:=⟨by omega⟩
 refine enter Tryz.func166 rfl rfl (Wd.it2Lent (x:=Wk.box bx 239 [.int .u64 x0]) (y:=Wk.box b 238 [.slice p bs.length c,.int .i64 0]) (fs:=[GlF p bs]) hb rfl rfl (by simpa using hx)) (fun a S=>?_)
 simp only[Tryz.ntmps166,qqA,qqB,Nat.reduceAdd,Nat.reduceSub,qqC,qqD,qqE,qqF]at S
 refine kB (kS (kR ?_));(iterate 5 (refine sq S ?_;clear S;intro a S))
 rw[show (!decide ((0:Int)=0))=false from rfl]at S
 refine sq S ?_;clear S;intro a S;refine kN (xtn ?_);refine c_condF S ?_;refine kS (kR ?_);(iterate 2 (refine sq S ?_;clear S;intro a S))
 rw[show decide ((k:Int) < 0)=false from decide_eq_false (by omega)]at S
 refine sq S ?_;clear S;intro a S;refine kN (xtn ?_);refine c_condF S ?_;refine kS (kR ?_);(iterate 7 (refine sq S ?_;clear S;intro a S))
 rw[show decide ((bs.length:Int) < (k:Int))=false from decide_eq_false (by omega)]at S
 refine sq S ?_;clear S;intro a S;refine kN (xtn ?_);refine c_condF S ?_;refine kS (kR ?_);(iterate 7 (refine sq S ?_;clear S;intro a S));refine kN (xtn (kS (kR ?_)));(iterate 9 (refine sq S ?_;clear S;intro a S));refine sw S ?_;clear S;intro a w S;refine kN (xtn (kR ?_));(iterate 2 (refine sq S ?_;clear S;intro a S))
 refine sit (Wk.box bx 239 [.int .u64 x0]) S (weigh1_c bx (bs.take k) p k c x0 w (by rw[List.length_take];omega) (by omega) (S.box bx) (S.lend (Wk.box bx 239 [.int .u64 x0]) ((S.mem.fact (GlF p bs)).imp fun _ h=>h.take k))) rfl ?_;clear S;rintro _ a w hbx hS
 have S:=hS (Wk.box bx 239 [.int .u64 (numB (bs.take k) x0)]) hbx (fun k h=>.inl h)
 clear hS
 refine kN (xbn ?_)
 replace S:=S.sub [Wk.box bx 239 [.int .u64 (numB (bs.take k) x0)],Wk.box b 238 [.slice (if c=k then p else p.map (·.add (k*1))) (bs.length - k) (c - k),.int .i64 0]] []
 have hh:=(S.toBoth).it (both (Wk.box bx 239 [.int .u64 (numB (bs.take k) x0)]) (Wk.box b 238 [.slice (if c=k then p else p.map (·.add (k*1))) (bs.length - k) (c - k),.int .i64 0]))
 refine end0 S (fun _=>hh)
theorem weigh_c (b:Nat) (bs:List UInt8) (p:Option Addr) (c k:Nat) (w0:World) (hk:k≤bs.length) (hc:bs.length≤c) (hl:bs.length≤10000000) (hb:(Wk.box b 238 [.slice p bs.length c,.int .i64 0]).holds w0) (hx:Stable (fun k=>k=b) w0 (GlF p bs)) :
  Ret Tryz.prog 165 [.pointer (some ⟨b,0,none⟩),.int .i64 (k:Int)] w0 (fun k=>k=b) fun v w'=>v=.int .u64 (numB (bs.take k) 0)∧
   (Wk.box b 238 [.slice (if c=k then p else p.map (·.add (k*1))) (bs.length - k) (c - k),.int .i64 0]).holds w':=by
 refine enter Tryz.func165 rfl rfl (Wd.itLent (x:=Wk.box b 238 [.slice p bs.length c,.int .i64 0]) (fs:=[GlF p bs]) hb (by intro Φ hΦ;obtain rfl:=List.mem_singleton.1 hΦ;exact hx)) (fun a S=>?_)
 simp only[Tryz.ntmps165,qqA,qqB,Nat.reduceAdd,Nat.reduceSub,qqC,qqD,qqE,qqF]at S
 refine kS (kR ?_);refine sa S ?_;clear S;intro b4 a w S;refine kN (xtn (kS (kS (kR ?_))));(iterate 2 (refine sq S ?_;clear S;intro a S));refine kN (xtn ?_);refine c_condF S ?_;refine kK (xtn (kS (kR ?_)));(iterate 5 (refine sq S ?_;clear S;intro a S))
 replace S:=S.toBoth
 refine sit (both (Wk.box b4 239 [.int .u64 0]) (Wk.box b 238 [.slice p bs.length c,.int .i64 0])) S (off_c b b4 bs p c k 0 w hk hc hl (S.it (both (Wk.box b4 239 [.int .u64 0]) (Wk.box b 238 [.slice p bs.length c,.int .i64 0]))) (S.lend (both (Wk.box b4 239 [.int .u64 0]) (Wk.box b 238 [.slice p bs.length c,.int .i64 0])) (S.mem.fact (GlF p bs)))) rfl ?_;clear S;rintro _ a w hbx hS
 have S:=hS (both (Wk.box b4 239 [.int .u64 (numB (bs.take k) 0)]) (Wk.box b 238 [.slice (if c=k then p else p.map (·.add (k*1))) (bs.length - k) (c - k),.int .i64 0])) hbx (fun k h=>.inl h)
 clear hS
 replace S:=S.ofBoth
 refine kN (xtn (kS (kR (sq S ?_))));clear S;intro a S;refine sw S ?_;clear S;intro a w S;refine kN (xtn (kT ?_))
 have hh:=S.box b
 refine end1 S (fun _=>?_)
 exact ⟨rfl,hh⟩
structure RS where
 p:Option Addr
 c:Nat
 bs:List UInt8
 why:Int
abbrev cRS (r:RS):List Value:=[.slice r.p r.bs.length r.c,.int .i64 r.why]
def okR (r:RS) (k:Nat):Prop:=r.why=0∧k≤r.bs.length
instance (r:RS) (k:Nat):Decidable (okR r k):=by unfold okR;exact inferInstance
def takeR (r:RS) (k:Nat):RS:=if okR r k then ⟨if r.c=k then r.p else r.p.map (·.add (k*1)),r.c - k,r.bs.drop k,0⟩ else ⟨r.p,r.c,r.bs,if r.why=0 then 7 else r.why⟩
def tookR (r:RS) (k:Nat):List UInt8:=if okR r k then r.bs.take k else []
theorem takeR_yes {r:RS} {k:Nat} (h:okR r k):takeR r k=⟨if r.c=k then r.p else r.p.map (·.add (k*1)),r.c - k,r.bs.drop k,0⟩:=if_pos h
theorem takeR_no {r:RS} {k:Nat} (h:¬okR r k):takeR r k=⟨r.p,r.c,r.bs,if r.why=0 then 7 else r.why⟩:=if_neg h
theorem tookR_yes {r:RS} {k:Nat} (h:okR r k):tookR r k=r.bs.take k:=if_pos h
theorem tookR_no {r:RS} {k:Nat} (h:¬okR r k):tookR r k=[]:=if_neg h
theorem tookR_len (r:RS) (k:Nat):(tookR r k).length≤k∧(tookR r k).length≤r.bs.length:=by
 unfold tookR;split
 rw[List.length_take];omega
 simp
theorem takeR_len (r:RS) (k:Nat):(takeR r k).bs.length≤r.bs.length:=by
 unfold takeR;split
 simp
 simp
theorem takeR_cap {r:RS} {k:Nat} (h:r.bs.length≤r.c):(takeR r k).bs.length≤(takeR r k).c:=by
 unfold takeR;split
 simp;omega
 exact h
theorem takeR_gl {r:RS} {k:Nat} {M:Nat→Prop} {w:World} (hc:r.bs.length≤r.c) (h:Stable M w (GlF r.p r.bs)):Stable M w (GlF (takeR r k).p (takeR r k).bs):=by
 unfold takeR;split
 exact h.imp fun _ h=>h.drop (sz:=1) k hc
 exact h
abbrev rdI (b:Nat) (r:RS):Wk.Item:=Wk.box b 238 [.slice r.p r.bs.length r.c,.int .i64 r.why]
theorem offW_c (b bx:Nat) (r:RS) (k:Nat) (x0:Int) (w0:World) (hk:k≤1000000000) (hc:r.bs.length≤r.c) (hl:r.bs.length≤10000000) (hb:(both (Wk.box bx 239 [.int .u64 x0]) (rdI b r)).holds w0) (hx:Stable (both (Wk.box bx 239 [.int .u64 x0]) (rdI b r)).foot w0 (GlF r.p r.bs)) :
  Ret Tryz.prog 166 [.pointer (some ⟨b,0,none⟩),.int .i64 (k:Int),.func (.func 233) #[] ⟨[.pointer (some ⟨bx,0,none⟩)]⟩] w0 (both (Wk.box bx 239 [.int .u64 x0]) (rdI b r)).foot fun _ w'=>
   (both (Wk.box bx 239 [.int .u64 (numB (tookR r k) x0)]) (rdI b (takeR r k))).holds w':=by
 refine enter Tryz.func166 rfl rfl (Wd.it2Lent (x:=Wk.box bx 239 [.int .u64 x0]) (y:=rdI b r) (fs:=[GlF r.p r.bs]) hb rfl rfl (by simpa using hx)) (fun a S=>?_)
 simp only[Tryz.ntmps166,qqA,qqB,Nat.reduceAdd,Nat.reduceSub,qqC,qqD,qqE,qqF]at S
 refine kB (kS (kR ?_));(iterate 6 (refine sq S ?_;clear S;intro a S));refine kN (xtn ?_)
 refine kC S (fun h3=>?_) (fun h3=>?_)
 refine kK (xbn ?_)
 have hw:¬r.why=0:=by simpa using h3
 have hno:¬okR r k:=fun h=>hw h.1
 have e1:takeR r k=r:=by rw[takeR_no hno,if_neg hw]
 have e2:numB (tookR r k) x0=x0:=by rw[tookR_no hno];rfl
 replace S:=S.toBoth
 have hh:=S.it (both (Wk.box bx 239 [.int .u64 x0]) (rdI b r))
 refine end0 S (fun _=>by rw[e1,e2];exact hh)
 refine kS (kR ?_);(iterate 2 (refine sq S ?_;clear S;intro a S))
 rw[show decide ((k:Int) < 0)=false from decide_eq_false (by omega)]at S
 refine sq S ?_;clear S;intro a S;refine kN (xtn ?_);refine c_condF S ?_;refine kS (kR ?_);(iterate 8 (refine sq S ?_;clear S;intro a S));refine kN (xtn ?_)
 refine kC S (fun h6=>?_) (fun h6=>?_)
 refine kR ?_;(iterate 3 (refine sq S ?_;clear S;intro a S));refine sw S ?_;clear S;intro a w S;refine kN (xbn ?_)
 have hw:r.why=0:=by simpa using h3
 have hno:¬okR r k:=fun h=>by have:=of_decide_eq_true h6;have:=h.2;omega
 have e1:takeR r k=⟨r.p,r.c,r.bs,7⟩:=by rw[takeR_no hno,if_pos hw]
 have e2:numB (tookR r k) x0=x0:=by rw[tookR_no hno];rfl
 replace S:=S.toBoth
 have hh:=S.it (both (Wk.box bx 239 [.int .u64 x0]) (rdI b ⟨r.p,r.c,r.bs,7⟩))
 refine end0 S (fun _=>by rw[e1,e2];exact hh)
 refine kS ?_
 have hL1:LeC k r.bs.length:=⟨by simp at h6;omega⟩
 have hL2:LeC r.bs.length r.c:=⟨hc⟩
 have hL3:LeC k r.c:=⟨by have:=hL1.le;omega⟩
 refine kR ?_;(iterate 7 (refine sq S ?_;clear S;intro a S));refine kN (xtn (kS (kR ?_)));(iterate 9 (refine sq S ?_;clear S;intro a S));refine sw S ?_;clear S;intro a w S;refine kN (xtn (kR ?_));(iterate 2 (refine sq S ?_;clear S;intro a S))
 have hok:okR r k:=⟨by simpa using h3,hL1.le⟩
 refine sit (Wk.box bx 239 [.int .u64 x0]) S (weigh1_c bx (r.bs.take k) r.p k r.c x0 w (by rw[List.length_take];have:=hL1.le;omega) (by have:=hL1.le;omega) (S.box bx) (S.lend (Wk.box bx 239 [.int .u64 x0]) ((S.mem.fact (GlF r.p r.bs)).imp fun _ h=>h.take k))) rfl ?_;clear S;rintro _ a w hbx hS
 have S:=hS (Wk.box bx 239 [.int .u64 (numB (r.bs.take k) x0)]) hbx (fun k h=>.inl h)
 clear hS
 refine kN (xbn ?_)
 rw[←tookR_yes hok,show r.bs.length - k=(r.bs.drop k).length from (List.length_drop ..).symm,show r.why=0 from hok.1]at S
 replace S:=S.toBoth
 have hh:=S.it (both (Wk.box bx 239 [.int .u64 (numB (tookR r k) x0)]) (rdI b ⟨if r.c=k then r.p else r.p.map (·.add (k*1)),r.c - k,r.bs.drop k,0⟩))
 refine end0 S (fun _=>by rw[takeR_yes hok];exact hh)
theorem weighR_c (b:Nat) (r:RS) (k:Nat) (w0:World) (hk:k≤1000000000) (hc:r.bs.length≤r.c) (hl:r.bs.length≤10000000) (hb:(rdI b r).holds w0) (hx:Stable (fun k=>k=b) w0 (GlF r.p r.bs)) :
  Ret Tryz.prog 165 [.pointer (some ⟨b,0,none⟩),.int .i64 (k:Int)] w0 (fun k=>k=b) fun v w'=>v=.int .u64 (numB (tookR r k) 0)∧(rdI b (takeR r k)).holds w':=by
 refine enter Tryz.func165 rfl rfl (Wd.itLent (x:=rdI b r) (fs:=[GlF r.p r.bs]) hb (by intro Φ hΦ;obtain rfl:=List.mem_singleton.1 hΦ;exact hx)) (fun a S=>?_)
 simp only[Tryz.ntmps165,qqA,qqB,Nat.reduceAdd,Nat.reduceSub,qqC,qqD,qqE,qqF]at S
 refine kS (kR ?_);refine sa S ?_;clear S;intro b4 a w S;refine kN (xtn (kS (kS (kR ?_))));(iterate 2 (refine sq S ?_;clear S;intro a S));refine kN (xtn ?_);refine c_condF S ?_;refine kK (xtn (kS (kR ?_)));(iterate 5 (refine sq S ?_;clear S;intro a S))
 replace S:=S.toBoth
 refine sit (both (Wk.box b4 239 [.int .u64 0]) (rdI b r)) S (offW_c b b4 r k 0 w hk hc hl (S.it (both (Wk.box b4 239 [.int .u64 0]) (rdI b r))) (S.lend (both (Wk.box b4 239 [.int .u64 0]) (rdI b r)) (S.mem.fact (GlF r.p r.bs)))) rfl ?_;clear S;rintro _ a w hbx hS
 have S:=hS (both (Wk.box b4 239 [.int .u64 (numB (tookR r k) 0)]) (rdI b (takeR r k))) hbx (fun k h=>.inl h)
 clear hS
 replace S:=S.ofBoth
 refine kN (xtn (kS (kR (sq S ?_))));clear S;intro a S;refine sw S ?_;clear S;intro a w S;refine kN (xtn (kT ?_))
 have hh:=S.it (rdI b (takeR r k))
 refine end1 S (fun _=>?_)
 exact ⟨rfl,hh⟩
theorem raw1_c (bo:Nat) (bs:List UInt8) (p:Option Addr) (n c:Nat) (w0:World) (hn:bs.length=n) (hl:n≤10000000) (hb:(Wk.box bo 25 [.slice none 0 0]).holds w0) (hx:Stable (fun k=>k=bo) w0 (GlF p bs)) :
  Ret Tryz.prog 167 [.slice p n c,.pointer (some ⟨bo,0,none⟩)] w0 (fun k=>k=bo) fun _ w'=>∃ p' c',(both (Wk.box bo 25 [.slice p' n c']) (Wk.row 5 1 p' n c' (encL bs))).holds w'∧∀ k,(both (Wk.box bo 25 [.slice p' n c']) (Wk.row 5 1 p' n c' (encL bs))).foot k→k=bo∨w0.heap.size≤k:=by
 have hN:LenN bs n:=⟨hn⟩
 refine enter Tryz.func167 rfl rfl (Wd.itLent (x:=Wk.box bo 25 [.slice none 0 0]) (fs:=[GlF p bs]) hb (by intro Φ hΦ;obtain rfl:=List.mem_singleton.1 hΦ;exact hx)) (fun a S=>?_)
 simp only[Tryz.ntmps167,qqA,qqB,Nat.reduceAdd,Nat.reduceSub,qqC,qqD,qqE,qqF]at S
 refine kR ?_;(iterate 2 (refine sq S ?_;clear S;intro a S))
 replace S:=S.addNil 5 1
 refine sap S (by simp[maxLen];omega) (by omega) ?_;clear S;rintro p2 c2 a w - S
 rw[qqF,Nat.zero_add]at S
 refine sw S ?_;clear S;intro a w S;refine kN ?_
 replace S:=((S.front (Wk.row 5 1 p2 n c2 (encL bs))).front (Wk.box bo 25 [.slice p2 n c2])).toBoth
 have h1:=S.it (both (Wk.box bo 25 [.slice p2 n c2]) (Wk.row 5 1 p2 n c2 (encL bs)))
 have h2:=S.itNew (both (Wk.box bo 25 [.slice p2 n c2]) (Wk.row 5 1 p2 n c2 (encL bs))) rfl
 exact end0 S (fun _=>⟨p2,c2,h1,h2⟩)
abbrev outI (bo:Nat) (p:Option Addr) (c:Nat) (bs:List UInt8):Wk.Item:=both (Wk.box bo 25 [.slice p bs.length c]) (Wk.row 5 1 p bs.length c (encL bs))
theorem offR_c (b bo:Nat) (r:RS) (k:Nat) (w0:World) (hk:k≤10000000000) (hc:r.bs.length≤r.c) (hl:r.bs.length≤10000000) (hb:(both (Wk.box bo 25 [.slice none 0 0]) (rdI b r)).holds w0) (hx:Stable (both (Wk.box bo 25 [.slice none 0 0]) (rdI b r)).foot w0 (GlF r.p r.bs)) :
  Ret Tryz.prog 166 [.pointer (some ⟨b,0,none⟩),.int .i64 (k:Int),.func (.func 167) #[] ⟨[.pointer (some ⟨bo,0,none⟩)]⟩] w0 (both (Wk.box bo 25 [.slice none 0 0]) (rdI b r)).foot fun _ w'=>
   ∃ p' c',(both (outI bo p' c' (tookR r k)) (rdI b (takeR r k))).holds w'∧∀ j,(both (outI bo p' c' (tookR r k)) (rdI b (takeR r k))).foot j→(both (Wk.box bo 25 [.slice none 0 0]) (rdI b r)).foot j∨w0.heap.size≤j:=by
 refine enter Tryz.func166 rfl rfl (Wd.it2Lent (x:=Wk.box bo 25 [.slice none 0 0]) (y:=rdI b r) (fs:=[GlF r.p r.bs]) hb rfl rfl (by simpa using hx)) (fun a S=>?_)
 simp only[Tryz.ntmps166,qqA,qqB,Nat.reduceAdd,Nat.reduceSub,qqC,qqD,qqE,qqF]at S
 refine kB (kS (kR ?_));(iterate 6 (refine sq S ?_;clear S;intro a S));refine kN (xtn ?_)
 refine kC S (fun h3=>?_) (fun h3=>?_)
 refine kK (xbn ?_)
 have hw:¬r.why=0:=by simpa using h3
 have hno:¬okR r k:=fun h=>hw h.1
 have e1:takeR r k=r:=by rw[takeR_no hno,if_neg hw]
 have e2:tookR r k=[]:=tookR_no hno
 replace S:=S.addNil 5 1
 replace S:=(((S.front (rdI b r)).front (Wk.row 5 1 none 0 0 [])).front (Wk.box bo 25 [.slice none 0 0])).toBoth.toBoth
 have h1:=S.it (both (both (Wk.box bo 25 [.slice none 0 0]) (Wk.row 5 1 none 0 0 [])) (rdI b r))
 have h2:=S.itNew (both (both (Wk.box bo 25 [.slice none 0 0]) (Wk.row 5 1 none 0 0 [])) (rdI b r)) rfl
 refine end0 S (fun _=>?_)
 rw[e1,e2]
 exact ⟨none,0,h1,h2⟩
 refine kS (kR ?_);(iterate 2 (refine sq S ?_;clear S;intro a S))
 rw[show decide ((k:Int) < 0)=false from decide_eq_false (by omega)]at S
 refine sq S ?_;clear S;intro a S;refine kN (xtn ?_);refine c_condF S ?_;refine kS (kR ?_);(iterate 8 (refine sq S ?_;clear S;intro a S));refine kN (xtn ?_)
 refine kC S (fun h6=>?_) (fun h6=>?_)
 refine kR ?_;(iterate 3 (refine sq S ?_;clear S;intro a S));refine sw S ?_;clear S;intro a w S;refine kN (xbn ?_)
 have hw:r.why=0:=by simpa using h3
 have hno:¬okR r k:=fun h=>by have:=of_decide_eq_true h6;have:=h.2;omega
 have e1:takeR r k=⟨r.p,r.c,r.bs,7⟩:=by rw[takeR_no hno,if_pos hw]
 have e2:tookR r k=[]:=tookR_no hno
 replace S:=S.addNil 5 1
 rw[show Wk.box b 238 [.slice r.p r.bs.length r.c,.int .i64 7]=rdI b ⟨r.p,r.c,r.bs,7⟩ from rfl]at S
 replace S:=(((S.front (rdI b ⟨r.p,r.c,r.bs,7⟩)).front (Wk.row 5 1 none 0 0 [])).front (Wk.box bo 25 [.slice none 0 0])).toBoth.toBoth
 have h1:=S.it (both (both (Wk.box bo 25 [.slice none 0 0]) (Wk.row 5 1 none 0 0 [])) (rdI b ⟨r.p,r.c,r.bs,7⟩))
 have h2:=S.itNew (both (both (Wk.box bo 25 [.slice none 0 0]) (Wk.row 5 1 none 0 0 [])) (rdI b ⟨r.p,r.c,r.bs,7⟩)) rfl
 refine end0 S (fun _=>?_)
 rw[e1,e2]
 exact ⟨none,0,h1,h2⟩
 refine kS ?_
 have hL1:LeC k r.bs.length:=⟨by simp at h6;omega⟩
 have hL2:LeC r.bs.length r.c:=⟨hc⟩
 have hL3:LeC k r.c:=⟨by have:=hL1.le;omega⟩
 refine kR ?_;(iterate 7 (refine sq S ?_;clear S;intro a S));refine kN (xtn (kS (kR ?_)));(iterate 9 (refine sq S ?_;clear S;intro a S));refine sw S ?_;clear S;intro a w S;refine kN (xtn (kR ?_));(iterate 2 (refine sq S ?_;clear S;intro a S))
 have hok:okR r k:=⟨by simpa using h3,hL1.le⟩
 have hkl:(r.bs.take k).length=k:=by rw[List.length_take];have:=hL1.le;omega
 refine sit (Wk.box bo 25 [.slice none 0 0]) S (raw1_c bo (r.bs.take k) r.p k r.c w hkl (by have:=hL1.le;omega) (S.box bo) (S.lend (Wk.box bo 25 [.slice none 0 0]) ((S.mem.fact (GlF r.p r.bs)).imp fun _ h=>h.take k))) rfl ?_;clear S;rintro _ a w ⟨p2,c2,hbx,hf2⟩ hS
 have S:=hS (both (Wk.box bo 25 [.slice p2 k c2]) (Wk.row 5 1 p2 k c2 (encL (r.bs.take k)))) hbx hf2
 clear hS
 refine kN (xbn ?_)
 have e1:tookR r k=r.bs.take k:=tookR_yes hok
 rw[show r.bs.length - k=(r.bs.drop k).length from (List.length_drop ..).symm,show r.why=0 from hok.1]at S
 rw[show Wk.box b 238 [.slice (if r.c=k then r.p else r.p.map (·.add (k*1))) (r.bs.drop k).length (r.c - k),.int .i64 0]=rdI b (takeR r k) from by rw[takeR_yes hok]]at S
 replace S:=((S.front (rdI b (takeR r k))).front (both (Wk.box bo 25 [.slice p2 k c2]) (Wk.row 5 1 p2 k c2 (encL (r.bs.take k))))).toBoth
 have h1:=S.it (both (both (Wk.box bo 25 [.slice p2 k c2]) (Wk.row 5 1 p2 k c2 (encL (r.bs.take k)))) (rdI b (takeR r k)))
 have h2:=S.itNew (both (both (Wk.box bo 25 [.slice p2 k c2]) (Wk.row 5 1 p2 k c2 (encL (r.bs.take k)))) (rdI b (takeR r k))) rfl
 have e3:outI bo p2 c2 (tookR r k)=both (Wk.box bo 25 [.slice p2 k c2]) (Wk.row 5 1 p2 k c2 (encL (r.bs.take k))):=by rw[e1,outI,hkl]
 refine end0 S (fun _=>⟨p2,c2,?_,?_⟩)
 rw[e3];exact h1
 rw[e3];exact h2
theorem rawR_c (b:Nat) (r:RS) (k:Nat) (w0:World) (hk:k≤10000000000) (hc:r.bs.length≤r.c) (hl:r.bs.length≤10000000) (hb:(rdI b r).holds w0) (hx:Stable (fun k=>k=b) w0 (GlF r.p r.bs)) :
  Ret Tryz.prog 68 [.pointer (some ⟨b,0,none⟩),.int .i64 (k:Int)] w0 (fun k=>k=b) fun v w'=>∃ p' c',v=.slice p' (tookR r k).length c'∧(both (Wk.row 5 1 p' (tookR r k).length c' (encL (tookR r k))) (rdI b (takeR r k))).holds w'∧∀ j,(both (Wk.row 5 1 p' (tookR r k).length c' (encL (tookR r k))) (rdI b (takeR r k))).foot j→j=b∨w0.heap.size≤j:=by
 refine enter Tryz.func68 rfl rfl (Wd.itLent (x:=rdI b r) (fs:=[GlF r.p r.bs]) hb (by intro Φ hΦ;obtain rfl:=List.mem_singleton.1 hΦ;exact hx)) (fun a S=>?_)
 simp only[Tryz.ntmps68,qqA,qqB,Nat.reduceAdd,Nat.reduceSub,qqC,qqD,qqE,qqF]at S
 refine kS (kR ?_);refine sa S ?_;clear S;intro b4 a w S;refine kN (xtn (kS (kS (kR ?_))));(iterate 2 (refine sq S ?_;clear S;intro a S));refine kN (xtn ?_);refine c_condT S ?_;refine kR ?_;(iterate 5 (refine sq S ?_;clear S;intro a S))
 replace S:=S.toBoth
 refine sit (both (Wk.box b4 25 [.slice none 0 0]) (rdI b r)) S (offR_c b b4 r k w hk hc hl (S.it (both (Wk.box b4 25 [.slice none 0 0]) (rdI b r))) (S.lend (both (Wk.box b4 25 [.slice none 0 0]) (rdI b r)) (S.mem.fact (GlF r.p r.bs)))) rfl ?_;clear S;rintro _ a w ⟨p2,c2,hbx,hf2⟩ hS
 have S:=hS (both (outI b4 p2 c2 (tookR r k)) (rdI b (takeR r k))) hbx hf2
 clear hS
 replace S:=S.ofBoth.ofBoth
 refine kN (xtn (kS (kR (sq S ?_))));clear S;intro a S;refine sw S ?_;clear S;intro a w S;refine kN (xtn (kT ?_))
 replace S:=((S.front (rdI b (takeR r k))).front (Wk.row 5 1 p2 (tookR r k).length c2 (encL (tookR r k)))).toBoth
 have h1:=S.it (both (Wk.row 5 1 p2 (tookR r k).length c2 (encL (tookR r k))) (rdI b (takeR r k)))
 have h2:=S.itNew (both (Wk.row 5 1 p2 (tookR r k).length c2 (encL (tookR r k))) (rdI b (takeR r k))) rfl
 exact end1 S (fun _=>⟨p2,c2,rfl,h1,h2⟩)
def numN (bs:List UInt8) (x:Nat):Nat:=bs.foldl (fun x c=>256*x+c.toNat) x
theorem numN_cons (c:UInt8) (bs:List UInt8) (x:Nat):numN (c::bs) x=numN bs (256*x+c.toNat):=rfl
theorem numN_lt (bs:List UInt8):∀ x:Nat,numN bs x < (x+1)*256 ^ bs.length:=by
 induction bs with
 | nil=>intro x;simp[numN]
 | cons c bs ih=>
  intro x
  rw[numN_cons]
  have h1:=ih (256*x+c.toNat)
  have h2:=c.toNat_lt
  have h3:(256*x+c.toNat+1)*256 ^ bs.length≤(256*(x+1))*256 ^ bs.length:=Nat.mul_le_mul_right _ (by omega)
  have h4:(256*(x+1))*256 ^ bs.length=(x+1)*256 ^ (c::bs).length:=by
   rw[qqA,Nat.pow_succ,Nat.mul_comm 256 (x+1),Nat.mul_assoc,Nat.mul_comm 256]
  omega
theorem numB_nat (bs:List UInt8):∀ x:Nat,(x+1)*256 ^ bs.length≤18446744073709551616→numB bs (x:Int)=(numN bs x:Int):=by
 induction bs with
 | nil=>intro x _;rfl
 | cons c bs ih=>
  intro x hx
  have h2:=c.toNat_lt
  have h5:1≤256 ^ bs.length:=Nat.one_le_pow _ _ (by decide)
  have h4:(256*(x+1))*256 ^ bs.length=(x+1)*256 ^ (c::bs).length:=by
   rw[qqA,Nat.pow_succ,Nat.mul_comm 256 (x+1),Nat.mul_assoc,Nat.mul_comm 256]
  have h6:256*(x+1)≤18446744073709551616:=by
   have:=Nat.mul_le_mul_left (256*(x+1)) h5
   omega
  have h3:(256*x+c.toNat+1)*256 ^ bs.length≤(256*(x+1))*256 ^ bs.length:=Nat.mul_le_mul_right _ (by omega)
  rw[numN_cons,←ih _ (by omega)]
  show numB bs (IntKind.u64.wrap (IntKind.u64.wrap (256*(x:Int))+(c.toNat:Int)))=_
  rw[wu64 (256*(x:Int)) (by omega) (by omega),wu64 _ (by omega) (by omega)]
  norm_cast
theorem took_num (r:RS) (k:Nat) (hk:k≤7):numB (tookR r k) 0=(numN (tookR r k) 0:Int)∧numN (tookR r k) 0 < 256 ^ k:=by
 have h1:=(tookR_len r k).1
 have h2:256 ^ (tookR r k).length≤256 ^ k:=Nat.pow_le_pow_right (by decide) h1
 have h3:256 ^ k≤256 ^ 7:=Nat.pow_le_pow_right (by decide) hk
 have h4:(256:Nat) ^ 7≤18446744073709551616:=by decide
 have h5:=numN_lt (tookR r k) 0
 exact ⟨numB_nat _ 0 (by omega),by omega⟩
theorem u8R_c (b:Nat) (r:RS) (w0:World) (hc:r.bs.length≤r.c) (hl:r.bs.length≤10000000) (hb:(rdI b r).holds w0) (hx:Stable (fun k=>k=b) w0 (GlF r.p r.bs)) :
  Ret Tryz.prog 67 [.pointer (some ⟨b,0,none⟩)] w0 (fun k=>k=b) fun v w'=>v=.int .u8 (numN (tookR r 1) 0:Nat)∧(rdI b (takeR r 1)).holds w':=by
 have hn:=took_num r 1 (by decide)
 refine enter Tryz.func67 rfl rfl (Wd.itLent (x:=rdI b r) (fs:=[GlF r.p r.bs]) hb (by intro Φ hΦ;obtain rfl:=List.mem_singleton.1 hΦ;exact hx)) (fun a S=>?_)
 simp only[Tryz.ntmps67,qqA,qqB,Nat.reduceAdd,Nat.reduceSub,qqC,qqD,qqE,qqF]at S
 refine kS (kR (sq S ?_));clear S;intro a S;refine kN (xtn (kS (kR (sq S ?_))));clear S;intro a S
 refine sit (rdI b r) S (weighR_c b r 1 _ (by decide) hc hl (S.it (rdI b r)) (S.lend (rdI b r) (S.mem.fact (GlF r.p r.bs)))) rfl ?_;clear S;rintro _ a w ⟨rfl,hh⟩ hS
 have S:=hS (rdI b (takeR r 1)) hh (fun k h=>.inl h)
 clear hS
 rw[hn.1]at S
 refine sq S ?_;clear S;intro a S
 rw[show IntKind.u8.wrap ((numN (tookR r 1) 0:Nat):Int)=((numN (tookR r 1) 0:Nat):Int) from by
  unfold IntKind.wrap
  simp only[IntKind.bits,IntKind.signed,Bool.false_and]
  simp;omega]at S
 refine sq S ?_;clear S;intro a S;refine kN (xtn (kT ?_))
 have hh:=S.it (rdI b (takeR r 1))
 exact end1 S (fun _=>⟨rfl,hh⟩)
theorem u16R_c (b:Nat) (r:RS) (w0:World) (hc:r.bs.length≤r.c) (hl:r.bs.length≤10000000) (hb:(rdI b r).holds w0) (hx:Stable (fun k=>k=b) w0 (GlF r.p r.bs)) :
  Ret Tryz.prog 69 [.pointer (some ⟨b,0,none⟩)] w0 (fun k=>k=b) fun v w'=>v=.int .u16 (numN (tookR r 2) 0:Nat)∧(rdI b (takeR r 2)).holds w':=by
 have hn:=took_num r 2 (by decide)
 refine enter Tryz.func69 rfl rfl (Wd.itLent (x:=rdI b r) (fs:=[GlF r.p r.bs]) hb (by intro Φ hΦ;obtain rfl:=List.mem_singleton.1 hΦ;exact hx)) (fun a S=>?_)
 simp only[Tryz.ntmps69,qqA,qqB,Nat.reduceAdd,Nat.reduceSub,qqC,qqD,qqE,qqF]at S
 refine kS (kR (sq S ?_));clear S;intro a S;refine kN (xtn (kS (kR (sq S ?_))));clear S;intro a S
 refine sit (rdI b r) S (weighR_c b r 2 _ (by decide) hc hl (S.it (rdI b r)) (S.lend (rdI b r) (S.mem.fact (GlF r.p r.bs)))) rfl ?_;clear S;rintro _ a w ⟨rfl,hh⟩ hS
 have S:=hS (rdI b (takeR r 2)) hh (fun k h=>.inl h)
 clear hS
 rw[hn.1]at S
 refine sq S ?_;clear S;intro a S
 rw[show IntKind.u16.wrap ((numN (tookR r 2) 0:Nat):Int)=((numN (tookR r 2) 0:Nat):Int) from by
  unfold IntKind.wrap
  simp only[IntKind.bits,IntKind.signed,Bool.false_and]
  simp;omega]at S
 refine sq S ?_;clear S;intro a S;refine kN (xtn (kT ?_))
 have hh:=S.it (rdI b (takeR r 2))
 exact end1 S (fun _=>⟨rfl,hh⟩)
theorem errR_c (b:Nat) (r:RS) (w0:World) (hb:Stable (fun _=>False) w0 (BoxF b 238 (cRS r))):Ret Tryz.prog 71 [.pointer (some ⟨b,0,none⟩)] w0 (fun _=>False) fun v _=>v=.int .i64 r.why:=by
 refine enter Tryz.func71 rfl rfl (Wd.begin (fs:=[BoxF b 238 (cRS r)]) (by simpa using hb)) (fun a S=>?_)
 simp only[Tryz.ntmps71,qqA,qqB,Nat.reduceAdd,Nat.reduceSub,qqC,qqD,qqE,qqF]at S
 refine kS (kR (sq S ?_));clear S;intro a S;refine kN (xtn (kS (kS (kR ?_))));(iterate 2 (refine sq S ?_;clear S;intro a S));refine kN (xtn ?_);refine c_condF S ?_;refine kK (xtn (kS (kR ?_)));(iterate 6 (refine sq S ?_;clear S;intro a S));refine kN (xtn ?_);refine kT ?_
 exact end1 S (fun _=>rfl)
theorem leftR_c (b:Nat) (r:RS) (w0:World) (hb:Stable (fun _=>False) w0 (BoxF b 238 (cRS r))):Ret Tryz.prog 72 [.pointer (some ⟨b,0,none⟩)] w0 (fun _=>False) fun v _=>v=.int .i64 (r.bs.length:Nat):=by
 refine enter Tryz.func72 rfl rfl (Wd.begin (fs:=[BoxF b 238 (cRS r)]) (by simpa using hb)) (fun a S=>?_)
 simp only[Tryz.ntmps72,qqA,qqB,Nat.reduceAdd,Nat.reduceSub,qqC,qqD,qqE,qqF]at S
 refine kS (kR (sq S ?_));clear S;intro a S;refine kN (xtn (kS (kS (kR ?_))));(iterate 2 (refine sq S ?_;clear S;intro a S));refine kN (xtn ?_);refine c_condF S ?_;refine kK (xtn (kS (kR ?_)));(iterate 7 (refine sq S ?_;clear S;intro a S));refine kN (xtn ?_);refine kT ?_
 exact end1 S (fun _=>rfl)
theorem readR_c (bs:List UInt8) (p:Option Addr) (n c:Nat) (w0:World) (hn:bs.length=n) (hl:n≤10000000) (hx:Stable (fun _=>False) w0 (GlF p bs)) :
  Ret Tryz.prog 66 [.slice p n c] w0 (fun _=>False) fun v w'=>∃ b p' c',v=.pointer (some ⟨b,0,none⟩)∧(both (rdI b ⟨p',c',bs,0⟩) (Wk.row 5 1 p' bs.length c' (encL bs))).holds w'∧∀ k,(both (rdI b ⟨p',c',bs,0⟩) (Wk.row 5 1 p' bs.length c' (encL bs))).foot k→w0.heap.size≤k:=by
 subst hn
 refine enter Tryz.func66 rfl rfl (Wd.begin (fs:=[GlF p bs]) (by simpa using hx)) (fun a S=>?_)
 simp only[Tryz.ntmps66,qqA,qqB,Nat.reduceAdd,Nat.reduceSub,qqC,qqD,qqE,qqF]at S
 refine kS (kR (sq S ?_));clear S;intro a S;refine kN (xtn (kS (kR (sq S ?_))));clear S;intro a S
 replace S:=S.addNil 5 1
 refine sap S (by simp[maxLen];omega) (by omega) ?_;clear S;rintro p2 c2 a w - S
 rw[qqF,Nat.zero_add]at S
 (iterate 2 (refine sq S ?_;clear S;intro a S));refine sa S ?_;clear S;intro b7 a w S;refine sq S ?_;clear S;intro a S;refine kN (xtn (kT ?_))
 replace S:=((S.front (Wk.row 5 1 p2 bs.length c2 (encL bs))).front (rdI b7 ⟨p2,c2,bs,0⟩)).toBoth
 have h1:=S.it (both (rdI b7 ⟨p2,c2,bs,0⟩) (Wk.row 5 1 p2 bs.length c2 (encL bs)))
 have h2:=S.itNew (both (rdI b7 ⟨p2,c2,bs,0⟩) (Wk.row 5 1 p2 bs.length c2 (encL bs))) rfl
 exact end1 S (fun _=>⟨b7,p2,c2,rfl,h1,fun k hk=>(h2 k hk).elim (fun h=>h.elim) id⟩)
abbrev DecE (α:Type):=Except Int α
def textD (k:Int) (bs:List UInt8):DecE (List UInt8 × List UInt8):=
 if hasF (fieldsOf k) 1 then
  match bs with
  | []=>.error 7
  | n::bs=>if 64 < n.toNat then .error 150 else if bs.length < n.toNat then .error 7 else .ok (bs.take n.toNat,bs.drop n.toNat)
 else .ok ([],bs)
def userD (k:Int) (bs:List UInt8):DecE (Int × List UInt8):=
 if hasF (fieldsOf k) 2 then
  match bs with
  | []=>.error 7
  | u::bs=>if 1≤u.toNat∧u.toNat≤6 then .ok ((u.toNat:Int),bs) else .error 150
 else .ok (0,bs)
def numD (k:Int) (bs:List UInt8):DecE (Int × List UInt8):=
 if hasF (fieldsOf k) 4 then (if bs.length < 2 then .error 7 else .ok ((numN (bs.take 2) 0:Int),bs.drop 2)) else .ok (0,bs)
def kidsD (f:Nat→List UInt8→DecE (Term × Nat × List UInt8)):Nat→Nat→List UInt8→DecE (List Term × Nat × List UInt8)
 | 0,left,bs=>.ok ([],left,bs)
 | k+1,left,bs=>match f left bs with
  | .error e=>.error e
  | .ok (t,left,bs)=>match kidsD f k left bs with
   | .error e=>.error e
   | .ok (ts,left,bs)=>.ok (t::ts,left,bs)
def kidsN (k:Int):Nat:=(kidsF (fieldsOf k)).toNat
def decT:Nat→Nat→List UInt8→DecE (Term × Nat × List UInt8)
 | _,_,[]=>.error 7
 | 0,_,_::_=>.error 150
 | m+1,left,c::bs=>
  if fieldsOf (c.toNat:Int)=0∨left=0 then .error 150 else
  match textD (c.toNat:Int) bs with
  | .error e=>.error e
  | .ok (s,bs)=>match userD (c.toNat:Int) bs with
   | .error e=>.error e
   | .ok (u,bs)=>match numD (c.toNat:Int) bs with
    | .error e=>.error e
    | .ok (n,bs)=>match kidsD (decT m) (kidsN (c.toNat:Int)) (left - 1) bs with
     | .error e=>.error e
     | .ok (ks,left,bs)=>.ok (.mk (c.toNat:Int) u n s ks,left,bs)
def decB (f:Nat→List UInt8→DecE (Term × Nat × List UInt8)) (left:Nat) (k:Int) (bs:List UInt8):DecE (Term × Nat × List UInt8):=
 match textD k bs with
 | .error e=>.error e
 | .ok (s,bs)=>match userD k bs with
  | .error e=>.error e
  | .ok (u,bs)=>match numD k bs with
   | .error e=>.error e
   | .ok (n,bs)=>match kidsD f (kidsN k) (left - 1) bs with
    | .error e=>.error e
    | .ok (ks,left,bs)=>.ok (.mk k u n s ks,left,bs)
theorem decT_nil (m left:Nat):decT m left []=.error 7:=by cases m <;> rfl
theorem decT_cons (m left:Nat) (c:UInt8) (bs:List UInt8):decT m left (c::bs)=if m=0∨fieldsOf (c.toNat:Int)=0∨left=0 then .error 150 else decB (decT (m - 1)) left (c.toNat:Int) bs:=by
 cases m with
 | zero=>rw[if_pos (.inl rfl)];rfl
 | succ m=>
  rw[decT]
  by_cases h:fieldsOf (c.toNat:Int)=0∨left=0
  rw[if_pos h,if_pos (.inr h)]
  rw[if_neg h,if_neg (fun h2=>h2.elim (fun h=>by cases h) h)];rfl
theorem oread_c (bs:List UInt8) (p:Option Addr) (n c:Nat) (w0:World) (hn:bs.length=n) (hl:n≤1000000) (hx:Stable (fun _=>False) w0 (GlF p bs)) :
  Ret Tryz.prog 66 [.slice p n c] w0 (fun _=>False) fun v w'=>∃ (b:Nat) (q:Option Addr) (e:Nat),v=.pointer (some ⟨b,0,none⟩)∧w0.heap.size≤b∧(Wk.box b 238 [.slice q bs.length e,.int .i64 0]).holds w'∧bs.length≤e∧Stable (fun k=>k < w0.heap.size∨k=b) w' (GlF q bs):=by
 subst hn
 refine enter Tryz.func66 rfl rfl (Wd.begin (fs:=[GlF p bs]) (by simpa using hx)) (fun a S=>?_)
 simp only[Tryz.ntmps66,qqA,qqB,Nat.reduceAdd,Nat.reduceSub,qqC,qqD,qqE,qqF]at S
 refine kS (kR (sq S ?_));clear S;intro a S;refine kN (xtn (kS (kR (sq S ?_))));clear S;intro a S
 replace S:=S.addNil 5 1
 refine sap S (by simp[maxLen];omega) (by omega) ?_;clear S;rintro p1 c1 a w - S
 rw[qqF,Nat.zero_add]at S
 have hc1:=own_le (S.row p1 bs.length)
 (iterate 2 (refine sq S ?_;clear S;intro a S));refine sa S ?_;clear S;intro b7 a w S;refine sq S ?_;clear S;intro a S;refine kN (xtn (kT ?_))
 have hb:=(S.boxNew b7).elim (fun h=>h.elim) id
 have hh:=S.box b7
 have hrow:=S.row p1 bs.length
 have hnew:=S.rowNew p1 bs.length
 have hap:=fun k hk=>St.apart2 S (Wk.box b7 238 [.slice p1 bs.length c1,.int .i64 0]) (Wk.row 5 1 p1 bs.length c1 (encL bs)) k hk
 refine end1 S (fun _=>?_)
 refine ⟨b7,p1,c1,rfl,hb,hh,hc1,gl_own hrow (fun _ _ _ _=>trivial) (fun ad had hm=>?_)⟩
 rcases hm with h | h
 exact (hnew ad had).elim (fun h=>h.elim) (fun h2=>by omega)
 exact hap b7 rfl ⟨ad,had,h.symm⟩
def u32B (bs:List UInt8):Int:=IntKind.u32.wrap (numB (bs.take 4) 0)
def u16B (bs:List UInt8):Int:=IntKind.u16.wrap (numB (bs.take 2) 0)
theorem u32_c (b:Nat) (bs:List UInt8) (p:Option Addr) (c:Nat) (w0:World) (hk:4≤bs.length) (hc:bs.length≤c) (hl:bs.length≤1000000) (hb:(Wk.box b 238 [.slice p bs.length c,.int .i64 0]).holds w0) (hx:Stable (fun k=>k=b) w0 (GlF p bs)) :
  Ret Tryz.prog 217 [.pointer (some ⟨b,0,none⟩)] w0 (fun k=>k=b) fun v w'=>v=.int .u32 (u32B bs)∧
   (Wk.box b 238 [.slice (if c=4 then p else p.map (·.add (4*1))) (bs.length - 4) (c - 4),.int .i64 0]).holds w':=by
 refine enter Tryz.func217 rfl rfl (Wd.itLent (x:=Wk.box b 238 [.slice p bs.length c,.int .i64 0]) (fs:=[GlF p bs]) hb (by intro Φ hΦ;obtain rfl:=List.mem_singleton.1 hΦ;exact hx)) (fun a S=>?_)
 simp only[Tryz.ntmps217,qqA,qqB,Nat.reduceAdd,Nat.reduceSub,qqC,qqD,qqE,qqF]at S
 refine kS (kR (sq S ?_));clear S;intro a S;refine kN (xtn (kS (kR (sq S ?_))));clear S;intro a S
 refine sit (Wk.box b 238 [.slice p bs.length c,.int .i64 0]) S (weigh_c b bs p c 4 _ hk hc (by omega) (S.box b) (S.lend (Wk.box b 238 [.slice p bs.length c,.int .i64 0]) (S.mem.fact (GlF p bs)))) rfl ?_;clear S;rintro _ a w ⟨rfl,hbx⟩ hS
 have S:=hS (Wk.box b 238 [.slice (if c=4 then p else p.map (·.add (4*1))) (bs.length - 4) (c - 4),.int .i64 0]) hbx (fun k h=>.inl h)
 clear hS
 (iterate 2 (refine sq S ?_;clear S;intro a S));refine kN (xtn (kT ?_))
 have hh:=S.box b
 refine end1 S (fun _=>?_)
 exact ⟨rfl,hh⟩
theorem u16_c (b:Nat) (bs:List UInt8) (p:Option Addr) (c:Nat) (w0:World) (hk:2≤bs.length) (hc:bs.length≤c) (hl:bs.length≤1000000) (hb:(Wk.box b 238 [.slice p bs.length c,.int .i64 0]).holds w0) (hx:Stable (fun k=>k=b) w0 (GlF p bs)) :
  Ret Tryz.prog 69 [.pointer (some ⟨b,0,none⟩)] w0 (fun k=>k=b) fun v w'=>v=.int .u16 (u16B bs)∧
   (Wk.box b 238 [.slice (if c=2 then p else p.map (·.add (2*1))) (bs.length - 2) (c - 2),.int .i64 0]).holds w':=by
 refine enter Tryz.func69 rfl rfl (Wd.itLent (x:=Wk.box b 238 [.slice p bs.length c,.int .i64 0]) (fs:=[GlF p bs]) hb (by intro Φ hΦ;obtain rfl:=List.mem_singleton.1 hΦ;exact hx)) (fun a S=>?_)
 simp only[Tryz.ntmps69,qqA,qqB,Nat.reduceAdd,Nat.reduceSub,qqC,qqD,qqE,qqF]at S
 refine kS (kR (sq S ?_));clear S;intro a S;refine kN (xtn (kS (kR (sq S ?_))));clear S;intro a S
 refine sit (Wk.box b 238 [.slice p bs.length c,.int .i64 0]) S (weigh_c b bs p c 2 _ hk hc (by omega) (S.box b) (S.lend (Wk.box b 238 [.slice p bs.length c,.int .i64 0]) (S.mem.fact (GlF p bs)))) rfl ?_;clear S;rintro _ a w ⟨rfl,hbx⟩ hS
 have S:=hS (Wk.box b 238 [.slice (if c=2 then p else p.map (·.add (2*1))) (bs.length - 2) (c - 2),.int .i64 0]) hbx (fun k h=>.inl h)
 clear hS
 (iterate 2 (refine sq S ?_;clear S;intro a S));refine kN (xtn (kT ?_))
 have hh:=S.box b
 refine end1 S (fun _=>?_)
 exact ⟨rfl,hh⟩
def turnF (x:Int) (n:Nat):Int:=ior .u32 (x.fdiv (2 ^ (min n IntKind.u32.bits))) (IntKind.u32.wrap (x*2 ^ (min (32 - n) IntKind.u32.bits)))
def pushF (x:Int) (n:Nat):Int:=x.fdiv (2 ^ (min n IntKind.u32.bits))
theorem turned_c (x:Int) (n:Nat) (hn:n≤32) (w0:World):Ret Tryz.prog 274 [.int .u32 x,.int .i64 (n:Int)] w0 (fun _=>False) fun v _=>v=.int .u32 (turnF x n):=by
 refine enter Tryz.func274 rfl rfl (Wd.start w0) (fun a S=>?_)
 simp only[Tryz.ntmps274,qqA,qqB,Nat.reduceAdd,Nat.reduceSub,qqC,qqD,qqE,qqF]at S
 refine kS (kR (sq S ?_));clear S;intro a S;refine kN (xtn (kS ?_));refine c_drawD [(0,true),(1,true),(2,true),(3,true),(4,true),(5,true),(6,true),(7,true),(8,true)] [] S ?_;clear S;intro w S;(iterate 6 (refine dq S ?_;clear S;intro a S))
 rw[show IntKind.i64.wrap (32 - (n:Int))=((32 - n:Nat):Int) from by rw[w64 _ (by omega) (by omega)];omega]at S
 (iterate 3 (refine dq S ?_;clear S;intro a S));refine dn (xtn (kT ?_))
 refine end1 S (fun _=>rfl)
theorem pushed_c (x:Int) (n:Nat) (w0:World):Ret Tryz.prog 273 [.int .u32 x,.int .i64 (n:Int)] w0 (fun _=>False) fun v _=>v=.int .u32 (pushF x n):=by
 refine enter Tryz.func273 rfl rfl (Wd.start w0) (fun a S=>?_)
 simp only[Tryz.ntmps273,qqA,qqB,Nat.reduceAdd,Nat.reduceSub,qqC,qqD,qqE,qqF]at S
 refine kS (kR (sq S ?_));clear S;intro a S;refine kN (xtn (kS (kR ?_)));(iterate 4 (refine sq S ?_;clear S;intro a S));refine kN (xtn (kT ?_))
 refine end1 S (fun _=>rfl)
def mixF (G:Int→Nat→Int) (a b c:Nat) (x:Int):Int:=ixor .u32 (ixor .u32 (turnF x a) (turnF x b)) (G x c)
theorem mix_c (F:Nat) [EntF Tryz.prog F] (G:Int→Nat→Int) (na nb nc:Nat) (x:Int) (ha:na≤32) (hb:nb≤32) (hF:∀ w,Ret Tryz.prog F [.int .u32 x,.int .i64 (nc:Int)] w (fun _=>False) fun v _=>v=.int .u32 (G x nc)) (w0:World) :
  Ret Tryz.prog 276 [.agg ⟨[.int .i64 (na:Int),.int .i64 (nb:Int),.int .i64 (nc:Int),.func (.func F) #[] #[]]⟩,.int .u32 x] w0 (fun _=>False) fun v _=>v=.int .u32 (mixF G na nb nc x):=by
 refine enter Tryz.func276 rfl rfl (Wd.start w0) (fun a S=>?_)
 simp only[Tryz.ntmps276,qqA,qqB,Nat.reduceAdd,Nat.reduceSub,qqC,qqD,qqE,qqF]at S
 refine kS (kR ?_);refine sa S ?_;clear S;intro b2 a w S;refine sq S ?_;clear S;intro a S;refine kN (xtn (kS ?_));refine c_drawD [(0,true),(1,true),(2,true),(4,true),(5,true),(6,true),(9,true),(10,true),(11,true),(12,true),(13,true),(3,false),(7,false),(8,true),(14,false),(15,true),(16,true)] [] S ?_;clear S;intro w S;(iterate 11 (refine dq S ?_;clear S;intro a S));refine dl ?_;refine sr S (turned_c x na ha _) ?_;clear S;rintro _ act w rfl S;refine de S ?_;refine dl ?_;refine sr S (turned_c x nb hb _) ?_;clear S;rintro _ act w rfl S;refine de S ?_;refine dq S ?_;clear S;intro a S;refine dl ?_
 refine sr S (hF _) ?_;clear S;rintro _ act w rfl S;refine de S ?_;(iterate 2 (refine dq S ?_;clear S;intro a S));refine dn (xtn (kT ?_))
 refine end1 S (fun _=>rfl)
theorem pushmix_c (a b c:Nat) (x:Int) (ha:a≤32) (hb:b≤32) (w0:World):Ret Tryz.prog 276 [.agg ⟨[.int .i64 (a:Int),.int .i64 (b:Int),.int .i64 (c:Int),.func (.func 273) #[] #[]]⟩,.int .u32 x] w0 (fun _=>False) fun v _=>v=.int .u32 (mixF pushF a b c x):=mix_c 273 pushF a b c x ha hb (fun w=>pushed_c x c w) w0
theorem turnmix_c (a b c:Nat) (x:Int) (ha:a≤32) (hb:b≤32) (hc:c≤32) (w0:World):Ret Tryz.prog 276 [.agg ⟨[.int .i64 (a:Int),.int .i64 (b:Int),.int .i64 (c:Int),.func (.func 274) #[] #[]]⟩,.int .u32 x] w0 (fun _=>False) fun v _=>v=.int .u32 (mixF turnF a b c x):=mix_c 274 turnF a b c x ha hb (fun w=>turned_c x c hc w) w0
def shaH:List Int:=[1779033703,3144134277,1013904242,2773480762,1359893119,2600822924,528734635,1541459225]
def shaK:List Int:=[0x428a2f98,0x71374491,0xb5c0fbcf,0xe9b5dba5,0x3956c25b,0x59f111f1,
 0x923f82a4,0xab1c5ed5,0xd807aa98,0x12835b01,0x243185be,0x550c7dc3,
 0x72be5d74,0x80deb1fe,0x9bdc06a7,0xc19bf174,0xe49b69c1,0xefbe4786,
 0x0fc19dc6,0x240ca1cc,0x2de92c6f,0x4a7484aa,0x5cb0a9dc,0x76f988da,
 0x983e5152,0xa831c66d,0xb00327c8,0xbf597fc7,0xc6e00bf3,0xd5a79147,
 0x06ca6351,0x14292967,0x27b70a85,0x2e1b2138,0x4d2c6dfc,0x53380d13,
 0x650a7354,0x766a0abb,0x81c2c92e,0x92722c85,0xa2bfe8a1,0xa81a664b,
 0xc24b8b70,0xc76c51a3,0xd192e819,0xd6990624,0xf40e3585,0x106aa070,
 0x19a4c116,0x1e376c08,0x2748774c,0x34b0bcb5,0x391c0cb3,0x4ed8aa4a,
 0x5b9cca4f,0x682e6ff3,0x748f82ee,0x78a5636f,0x84c87814,0x8cc70208,
 0x90befffa,0xa4506ceb,0xbef9a3f7,0xc67178f2]
theorem start_c (w0:World):Ret Tryz.prog 262 [] w0 (fun _=>False) fun v _=>v=.agg ⟨u32s shaH⟩:=by
 refine enter Tryz.func262 rfl rfl (Wd.start w0) (fun a S=>?_)
 simp only[Tryz.ntmps262,qqB,Nat.reduceSub,qqC,qqD,qqF]at S
 refine kS (kR ?_);refine sa S ?_;clear S;intro b0 a w S;refine kN (xtn (kS (kR (sq S ?_))));clear S;intro a S;refine sw S ?_;clear S;intro a w S;refine kN (xtn (kT ?_))
 refine end1 S (fun _=>rfl)
theorem constants_c (w0:World):Ret Tryz.prog 275 [] w0 (fun _=>False) fun v _=>v=.agg ⟨u32s shaK⟩:=by
 refine enter Tryz.func275 rfl rfl (Wd.start w0) (fun a S=>?_)
 simp only[Tryz.ntmps275,qqB,Nat.reduceSub,qqC,qqD,qqF]at S
 refine kS (kR ?_);refine sa S ?_;clear S;intro b0 a w S;refine kN (xtn (kS (kR (sq S ?_))));clear S;intro a S;refine sw S ?_;clear S;intro a w S;refine kN (xtn (kT ?_))
 refine end1 S (fun _=>rfl)
theorem at_c (b1 b2 i t:Nat) (hi:i < 8) (ht:t≤64) (w0:World) (f2:Stable (fun _=>False) w0 (BoxF b2 3 [.int .i64 (t:Int)])):Ret Tryz.prog 277 [.int .i64 (i:Int),.pointer (some ⟨b1,0,none⟩),.pointer (some ⟨b2,0,none⟩)] w0 (fun _=>False) fun v _=>v=.pointer (some ⟨b1,(i+(64 - t)) % 8,none⟩):=by
 refine enter Tryz.func277 rfl rfl (Wd.begin (fs:=[BoxF b2 3 [.int .i64 (t:Int)]]) (by simpa using f2)) (fun a S=>?_)
 simp only[Tryz.ntmps277,qqA,qqB,Nat.reduceAdd,Nat.reduceSub,qqC,qqD,qqE,qqF]at S
 refine kS (kR (sq S ?_));clear S;intro a S;refine kN (xtn (kS (kR ?_)));(iterate 4 (refine sq S ?_;clear S;intro a S))
 have hK:KLt ((i+(64 - t)) % 8) 8:=⟨Nat.mod_lt _ (by omega)⟩
 rw[show iand .i64 (IntKind.i64.wrap ((i:Int) - (t:Int))) 7=(((i+(64 - t)) % 8:Nat):Int) from by rw[w64 _ (by omega) (by omega),iand7 _ ⟨by omega,by omega⟩];omega]at S
 (iterate 2 (refine sq S ?_;clear S;intro a S));refine kN (xtn (kT ?_))
 refine end1 S (fun _=>rfl)
end Go.Proofs.YtdakncgafdnjfaaGreat