import Derived.Test.YtajmjbboahmdkaaWkP
import Derived.MapKept
namespace Go.Wk
open Go

/-! maps keyed by strings -/
def kvIdx (k : List UInt8) : List (List UInt8 × Value) → Nat → Option (Nat × Value)
  | [], _ => none
  | (u, v) :: kv, i => if k = u then some (i, v) else kvIdx k kv (i + 1)
def kvGet (k : List UInt8) (kv : List (List UInt8 × Value)) : Option Value := (kvIdx k kv 0).map (·.2)
def kvPut (k : List UInt8) (v : Value) : List (List UInt8 × Value) → List (List UInt8 × Value)
  | [] => [(k, v)]
  | (u, x) :: kv => if k = u then (u, v) :: kv else (u, x) :: kvPut k v kv
def ents (es : Array MapEntry) : List (Value × Value) := es.toList.map fun e => (e.key, e.val)
def mp (b : Nat) (kv : List (List UInt8 × Value)) : Item where
  foot := fun k => k = b
  holds := fun w => ∃ es clock, w.heap[b]? = some (.map es clock) ∧ ents es = (kv.map fun x => (str x.1, x.2)) ∧ (∀ e ∈ es.toList, e.born < clock) ∧ (es.toList.map (·.born)).Nodup
theorem mp_loc (b : Nat) (kv : List (List UInt8 × Value)) (w1 w2 : World) (h : ∀ k, (mp b kv).foot k → w2.heap[k]? = w1.heap[k]?) (h1 : (mp b kv).holds w1) : (mp b kv).holds w2 := by
  obtain ⟨es, clock, h2, h3⟩ := h1
  exact ⟨es, clock, by rw [h b rfl]; exact h2, h3⟩
class HasMp (bs : List Item) (b : Nat) (kv : outParam (List (List UInt8 × Value))) : Prop where mem : mp b kv ∈ bs
instance hmp0 {b : Nat} {kv : List (List UInt8 × Value)} {bs : List Item} : HasMp (mp b kv :: bs) b kv := ⟨List.mem_cons_self ..⟩
instance (priority := 900) hmp1 {b : Nat} {kv : List (List UInt8 × Value)} {x : Item} {bs : List Item} [h : HasMp bs b kv] : HasMp (x :: bs) b kv := ⟨List.mem_cons_of_mem _ h.mem⟩
def MpF (b : Nat) (kv : List (List UInt8 × Value)) : World → Prop := (mp b kv).holds
class HasMpF (fs : List (World → Prop)) (b : Nat) (kv : outParam (List (List UInt8 × Value))) : Prop where mem : MpF b kv ∈ fs
instance hmpf0 {b : Nat} {kv : List (List UInt8 × Value)} {fs : List (World → Prop)} : HasMpF (MpF b kv :: fs) b kv := ⟨List.mem_cons_self ..⟩
instance (priority := 900) hmpf1 {b : Nat} {kv : List (List UInt8 × Value)} {Φ : World → Prop} {fs : List (World → Prop)} [h : HasMpF fs b kv] : HasMpF (Φ :: fs) b kv := ⟨List.mem_cons_of_mem _ h.mem⟩
/-- what a map holds, whoever owns it. -/
class KvOf (bs : List Item) (fs : List (World → Prop)) (b : Nat) (kv : outParam (List (List UInt8 × Value))) : Prop where of : ∀ w, Mem w bs fs → (mp b kv).holds w
instance kvof0 {b : Nat} {kv : List (List UInt8 × Value)} {bs : List Item} {fs : List (World → Prop)} [h : HasMp bs b kv] : KvOf bs fs b kv := ⟨fun _ mm => mm.held _ h.mem⟩
instance (priority := 900) kvof1 {b : Nat} {kv : List (List UInt8 × Value)} {bs : List Item} {fs : List (World → Prop)} [h : HasMpF fs b kv] : KvOf bs fs b kv := ⟨fun _ mm => (mm.facts _ h.mem).now⟩
theorem MpF.stable {w : World} {b : Nat} {kv : List (List UInt8 × Value)} {M : Nat → Prop} (h : MpF b kv w) (hM : ¬ M b) : Stable M w (MpF b kv) := fun w' hw' => by
  obtain ⟨es, clock, hb, he⟩ := h
  exact ⟨es, clock, by rw [hw'.blk (Array.getElem?_eq_some_iff.1 hb).1 hM]; exact hb, he⟩
theorem str_inj {s u : List UInt8} : str s = str u ↔ s = u := by
  constructor
  · intro h; simpa [str] using h
  · rintro rfl; rfl
theorem same_str (s u : List UInt8) : Instr.sameNow .string (str s) (str u) = some (decide (s = u)) := by
  obtain ⟨r, hr, hiff⟩ := MapKept.sameNow_of_keys (d := .string) (a := str s) (b := str u) (by simp [MapKept.IsKey, str]) (by simp [MapKept.IsKey, str])
  rw [hr]
  congr 1
  rw [Bool.eq_iff_iff, hiff, str_inj]; simp
theorem find_kv (k : List UInt8) : ∀ (l : List MapEntry) (kv : List (List UInt8 × Value)) (i : Nat), (l.map fun e => (e.key, e.val)) = (kv.map fun x => (str x.1, x.2)) → Instr.findNow .string (str k) l i = some (kvIdx k kv i)
  | [], [], i, _ => rfl
  | [], _ :: _, _, h => by simp at h
  | _ :: _, [], _, h => by simp at h
  | e :: l, (u, v) :: kv, i, h => by
    simp only [List.map_cons, List.cons.injEq, Prod.mk.injEq] at h
    obtain ⟨⟨h1, h2⟩, h3⟩ := h
    have hs : Instr.sameNow .string (str k) e.key = some (decide (k = u)) := by
      rw [h1, same_str]
    rw [Instr.findNow, hs, kvIdx]
    by_cases hk : k = u
    · rw [if_pos hk]; simp [hk, h2]
    · rw [if_neg hk]; simp only [hk, decide_false]
      exact find_kv k l kv (i + 1) h3
theorem kvIdx_some {k : List UInt8} : ∀ {kv : List (List UInt8 × Value)} {i j : Nat} {v : Value}, kvIdx k kv i = some (j, v) → i ≤ j ∧ kv[j - i]? = some (k, v)
  | [], i, j, v, h => by simp [kvIdx] at h
  | (u, x) :: kv, i, j, v, h => by
    rw [kvIdx] at h
    split at h
    · rename_i hk
      simp at h
      obtain ⟨rfl, rfl⟩ := h
      simp [hk]
    · have := kvIdx_some h
      refine ⟨by omega, ?_⟩
      rw [show j - i = j - (i + 1) + 1 from by omega]
      simpa using this.2
theorem kvPut_idx {k : List UInt8} {v : Value} : ∀ {kv : List (List UInt8 × Value)} {i j : Nat} {x : Value}, kvIdx k kv i = some (j, x) → kvPut k v kv = kv.set (j - i) (k, v)
  | [], i, j, x, h => by simp [kvIdx] at h
  | (u, y) :: kv, i, j, x, h => by
    rw [kvIdx] at h
    rw [kvPut]
    split at h
    · rename_i hk
      simp at h
      obtain ⟨rfl, rfl⟩ := h
      rw [if_pos hk]; simp [hk]
    · rename_i hk
      rw [if_neg hk]
      have h1 := kvIdx_some h
      rw [kvPut_idx h, show j - i = j - (i + 1) + 1 from by omega]
      simp
theorem kvPut_none {k : List UInt8} {v : Value} : ∀ {kv : List (List UInt8 × Value)} {i : Nat}, kvIdx k kv i = none → kvPut k v kv = kv ++ [(k, v)]
  | [], i, h => rfl
  | (u, y) :: kv, i, h => by
    rw [kvIdx] at h
    split at h
    · cases h
    · rename_i hk
      rw [kvPut, if_neg hk, kvPut_none h]; rfl
section
variable {P : Program} {r : Option Nat} {ops : Array Oper} {Q : Exit → Act → World → Prop} {w0 : World} {M0 : Nat → Prop} {ds : List Deferred} {a : Act} {w : World} {l l' : List Value} {bs bs' : List Item} {fs : List (World → Prop)}
  {d : Option Nat} {op : Op} {t ty : TypeId} {pos : String} {af : Array Edge} {rest : List Oper} {v z : Value} {e kt et : TypeId} {sz by_ b : Nat} {x y u : Operand} {lc : Cx} {k : List UInt8} {kv : List (List UInt8 × Value)}
theorem run_key (hk : P.underlying kt = some .string) (em : Bool) (w : World) : (Instr.checkKey em 10000 kt (str k)).run P w = .ok () w := MapKept.run_checkKey (k := str k) hk (by simp [MapKept.IsKey, str]) em 9999
instance opLookOk [Ev lc x (.map (some b))] [Ev lc y (str k)] [ht : Und P t (.map kt et)] [hk : Und P kt .string] [hz : TI P et z sz by_] [hm : KvOf bs fs b kv] :
    OpQ P (.lookup t x y true) ty lc bs fs (.tuple ⟨[(kvGet k kv).getD z, .bool (kvGet k kv).isSome]⟩) := ⟨fun ρ w h mm => by
  obtain ⟨es, clock, hb, he, _⟩ := hm.of w mm
  have hf := find_kv k es.toList kv 0 he
  have h1 := MapKept.run_getObj_map (P := P) hb
  have h2 := run_key (P := P) (k := k) hk.eq es.isEmpty w
  have h3 := MapKept.run_findKey (P := P) (w := w) hk.eq hf
  have h4 : (Instr.lookup t (.map (some b)) (str k) true).run P w = .ok (.tuple ⟨[(kvGet k kv).getD z, .bool (kvGet k kv).isSome]⟩) w := by
    unfold kvGet
    simp [Instr.lookup, Sem.run_bind, run_und, h1, h2, h3, Result.andThen]
    cases kvIdx k kv 0 with
    | none => simp [Sem.run_bind, run_zero (P := P) (t := et) (z := z) (s := sz) (b := by_)]
    | some q => simp
  simp [xop, execOp, h.ev (x := x) (v := .map (some b)), h.ev (x := y) (v := str k), Sem.run_bind, h4]⟩
instance opLook [Ev lc x (.map (some b))] [Ev lc y (str k)] [ht : Und P t (.map kt et)] [hk : Und P kt .string] [hz : TI P et z sz by_] [hm : KvOf bs fs b kv] :
    OpQ P (.lookup t x y false) ty lc bs fs ((kvGet k kv).getD z) := ⟨fun ρ w h mm => by
  obtain ⟨es, clock, hb, he, _⟩ := hm.of w mm
  have hf := find_kv k es.toList kv 0 he
  have h1 := MapKept.run_getObj_map (P := P) hb
  have h2 := run_key (P := P) (k := k) hk.eq es.isEmpty w
  have h3 := MapKept.run_findKey (P := P) (w := w) hk.eq hf
  have h4 : (Instr.lookup t (.map (some b)) (str k) false).run P w = .ok ((kvGet k kv).getD z) w := by
    unfold kvGet
    simp [Instr.lookup, Sem.run_bind, run_und, h1, h2, h3, Result.andThen]
    cases kvIdx k kv 0 with
    | none => simp [Sem.run_bind, run_zero (P := P) (t := et) (z := z) (s := sz) (b := by_)]
    | some q => simp
  simp [xop, execOp, h.ev (x := x) (v := .map (some b)), h.ev (x := y) (v := str k), Sem.run_bind, h4]⟩
/-- a map is made. -/
theorem smm {l' : Nat → List Value} (S : St w0 M0 ds a w l bs fs) [hp : ∀ b, PutO l d (.map (some b)) (l' b)] (K : ∀ b a w, St w0 M0 ds a w (l' b) (mp b [] :: bs) fs → WL P r ops Q rest a w) : WL P r ops Q (⟨d, .makeMap t none, ty, pos, af, none⟩ :: rest) a w := by
  refine wl_plain rfl ?_
  rw [semAt_nd rfl]
  have e1 : (xop a.eval (.makeMap t none) ty).run P w = .ok (.value (.map (some w.heap.size))) (w.alloc (.map #[] 0)) := by
    simp [xop, execOp, Instr.makeMap, newObj, Sem.run]
  simp only [e1, Oper.uponIn]
  have := hp w.heap.size
  have S' := S.put (d := d) (v := .map (some w.heap.size))
  have hfoot : ∀ k, (mp w.heap.size []).foot k → k = w.heap.size := fun _ h => h
  refine K _ _ _ ⟨S'.slots, S'.defers, (S'.wd.step (Agree.alloc _ w _)).more ⟨#[], 0, heap_alloc_new w _, rfl, by simp, by simp⟩ (fun k hk => by rw [hfoot k hk]; exact S'.wd.agree.size) (fun k hk => by rw [hfoot k hk]; simp) (fun it hi k hk hk' => ?_) (fun Φ hΦ w'' hw'' => ?_) (mp_loc _ _)⟩
  · have := S'.wd.lt it hi k hk'
    rw [hfoot k hk] at this; omega
  · refine S'.wd.facts Φ hΦ w'' (((Agree.alloc _ w _ : Grow w _).mono (fun _ _ h => h.elim)).trans' hw'' fun i hi ⟨it, hm, hk⟩ => ?_)
    rcases List.mem_cons.1 hm with rfl | hm
    · rw [hfoot i hk] at hi; omega
    · exact ⟨it, hm, hk⟩
/-- a map's entry is laid. -/
theorem smu (S : St w0 M0 ds a w l bs fs) [Ev ⟨[], l⟩ x (.map (some b))] [Ev ⟨[], l⟩ y (str k)] [Ev ⟨[], l⟩ u v] [ht : Und P t (.map kt et)] [hk : Und P kt .string] [hm : HasMp bs b kv] [hrep : ReplI bs (mp b kv) (mp b (kvPut k v kv)) bs'] [hp : PutO l d undef l']
    (K : ∀ a w, St w0 M0 ds a w l' bs' fs → WL P r ops Q rest a w) : WL P r ops Q (⟨d, .mapUpdate t x y u, ty, pos, af, none⟩ :: rest) a w := by
  refine wl_plain rfl ?_
  rw [semAt_nd rfl]
  obtain ⟨es, clock, hb, he, hbn, hnd⟩ : (mp b kv).holds w := S.wd.held _ hm.mem
  have hf := find_kv k es.toList kv 0 he
  have h1 := MapKept.run_getObj_map (P := P) hb
  have h2 := run_key (P := P) (k := k) hk.eq false w
  have h3 := MapKept.run_findKey (P := P) (w := w) hk.eq hf
  have S' := S.put (d := d) (v := undef) (l' := l')
  have key : ∃ es' clock', (Instr.mapUpdate t (.map (some b)) (str k) v).run P w = .ok () { w with heap := w.heap.setIfInBounds b (.map es' clock') } ∧ ents es' = ((kvPut k v kv).map fun x => (str x.1, x.2)) ∧ (∀ e ∈ es'.toList, e.born < clock') ∧ (es'.toList.map (·.born)).Nodup := by
    cases hi : kvIdx k kv 0 with
    | none =>
      rw [hi] at h3
      refine ⟨es.push { key := str k, val := v, born := clock }, clock + 1, ?_, ?_, ?_, ?_⟩
      · simp [Instr.mapUpdate, Sem.run_bind, run_und, h1, h2, h3, MapKept.run_setObj_map _ hb]
      · rw [kvPut_none hi, List.map_append, ← he]; simp [ents]
      · intro e hem
        simp only [Array.toList_push, List.mem_append, List.mem_singleton] at hem
        rcases hem with hem | rfl
        · have := hbn e hem; omega
        · exact Nat.lt_succ_self _
      · simp only [Array.toList_push, List.map_append, List.map_cons, List.map_nil]
        refine List.nodup_append.2 ⟨hnd, by simp, fun x hx y hy hxy => ?_⟩
        obtain ⟨e, hem, rfl⟩ := List.mem_map.1 hx
        have := hbn e hem
        obtain rfl := List.mem_singleton.1 hy
        omega
    | some q =>
      obtain ⟨j, x0⟩ := q
      rw [hi] at h3
      have h5 := kvIdx_some hi
      have hje : (ents es)[j]? = some (str k, x0) := by
        rw [he, List.getElem?_map]
        have := h5.2
        simp at this
        simp [this]
      obtain ⟨en, hen, hen2⟩ : ∃ en, es[j]? = some en ∧ en.key = str k := by
        simp only [ents, List.getElem?_map] at hje
        obtain ⟨en, q1, q2⟩ := Option.map_eq_some_iff.1 hje
        simp at q2
        exact ⟨en, by simpa using q1, q2.1⟩
      have hsb : Instr.sameBits 10000 (str k) (str k) = true := by simp only [Instr.sameBits]; exact (MapKept.bytes_beq _ _).2 rfl
      have hborn : (es.modify j fun e => { e with key := str k, val := v }).toList.map (·.born) = es.toList.map (·.born) := by
        apply List.ext_getElem?
        intro i
        simp only [List.getElem?_map, Array.getElem?_toList, Array.getElem?_modify]
        by_cases hij : j = i
        · subst hij; rw [if_pos rfl, Option.map_map]; rfl
        · rw [if_neg hij]
      refine ⟨es.modify j fun e => { e with key := str k, val := v }, clock, ?_, ?_, fun e hem => ?_, by rw [hborn]; exact hnd⟩
      · simp [Instr.mapUpdate, Sem.run_bind, run_und, h1, h2, h3, hen, hen2, Instr.keyThatStays, hsb, MapKept.run_setObj_map _ hb]
      · rw [kvPut_idx hi, List.map_set, ← he]
        apply List.ext_getElem?
        intro i
        simp only [ents, List.getElem?_map, Array.getElem?_toList, Array.getElem?_modify, List.getElem?_set, Nat.sub_zero]
        by_cases hij : j = i
        · subst hij
          have hlt : j < es.size := (Array.getElem?_eq_some_iff.1 hen).1
          simp [hlt]
        · simp [hij]
      · have hm1 : e.born ∈ es.toList.map (·.born) := by rw [← hborn]; exact List.mem_map.2 ⟨e, hem, rfl⟩
        obtain ⟨e0, he0, h0⟩ := List.mem_map.1 hm1
        rw [← h0]; exact hbn e0 he0
  obtain ⟨es', clock', hrun, hen⟩ := key
  have e1 : (xop a.eval (.mapUpdate t x y u) ty).run P w = .ok .skip { w with heap := w.heap.setIfInBounds b (.map es' clock') } := by
    simp [xop, execOp, S.fr.ev (x := x) (v := .map (some b)), S.fr.ev (x := y) (v := str k), S.fr.ev (x := u) (v := v), Sem.run_bind, hrun]
  simp only [e1, Oper.uponIn]
  have hset := MapKept.heap_set (o' := .map es' clock') hb
  have hlt : b < w.heap.size := (Array.getElem?_eq_some_iff.1 hb).1
  exact K _ _ (S.reput (x := mp b kv) (y := mp b (kvPut k v kv)) S'.slots S'.defers rfl ⟨rfl, rfl, rfl, by simp, fun i _ hn => hset.2 i hn⟩ ⟨es', clock', hset.1, hen⟩ (fun i h => .inl h) (fun i h => by cases h; simpa using hlt) (mp_loc _ _))
end
/-! a variable of somebody else's, that is only read -/
def BoxF (b : Nat) (t : TypeId) (cs : List Value) : World → Prop := (box b t cs).holds
class HasBoxF (fs : List (World → Prop)) (b : Nat) (t : outParam TypeId) (cs : outParam (List Value)) : Prop where mem : BoxF b t cs ∈ fs
instance hbf0 {b : Nat} {t : TypeId} {cs : List Value} {fs : List (World → Prop)} : HasBoxF (BoxF b t cs :: fs) b t cs := ⟨List.mem_cons_self ..⟩
instance (priority := 900) hbf1 {b : Nat} {t : TypeId} {cs : List Value} {Φ : World → Prop} {fs : List (World → Prop)} [h : HasBoxF fs b t cs] : HasBoxF (Φ :: fs) b t cs := ⟨List.mem_cons_of_mem _ h.mem⟩
theorem BoxF.stable {w : World} {b : Nat} {t : TypeId} {cs : List Value} {M : Nat → Prop} (h : BoxF b t cs w) (hM : ¬ M b) : Stable M w (BoxF b t cs) := fun w' hw' => by
  show w'.heap[b]? = some (.cells cs.toArray t (0, 0))
  rw [hw'.blk (Array.getElem?_eq_some_iff.1 h).1 hM]; exact h
instance (priority := 800) opLoadF {P : Program} {ty t bt : TypeId} {l : Cx} {bs : List Item} {fs : List (World → Prop)} {x : Operand} {b off : Nat} {cs : List Value} {v : Value} [Ev l x (.pointer (some ⟨b, off, none⟩))] [hb : HasBoxF fs b bt cs] [ha : AggT P t false] [hn : Nth cs off v] : OpQ P (.load t x) ty l bs fs v := ⟨fun ρ w h m => by
  have hbox : w.heap[b]? = some (.cells cs.toArray bt (0, 0)) := (m.facts _ hb.mem).now
  have hc : w.cell? ⟨b, off, none⟩ = some v := by rw [cell_of_row w b off cs.toArray bt (0, 0) hbox]; simpa using hn.eq
  simp [xop, execOp, Instr.loadAt, h.ev (x := x) (v := .pointer (some ⟨b, off, none⟩)), Instr.sureAddr, loadVar, Sem.run_bind, ha.run, load, Sem.run, hc]⟩
instance (priority := 800) opLoadFA {P : Program} {ty t bt : TypeId} {l : Cx} {bs : List Item} {fs : List (World → Prop)} {x : Operand} {b off n by_ : Nat} {cs vs : List Value} {z : Value} [Ev l x (.pointer (some ⟨b, off, none⟩))] [hb : HasBoxF fs b bt cs] [ha : AggT P t true] [TI P t z n by_] [hn : Seg cs off n vs] : OpQ P (.load t x) ty l bs fs (.agg ⟨vs⟩) := ⟨fun ρ w h m => by
  have hbox : w.heap[b]? = some (.cells cs.toArray bt (0, 0)) := (m.facts _ hb.mem).now
  have hl : (loadCells ⟨b, off, none⟩ n).run P w = .ok vs.toArray w := by
    have := run_loadCells_list (P := P) w ⟨b, off, none⟩ vs (fun j v hj => by
      have hjn : j < n := by rw [← hn.eq.1]; exact (List.getElem?_eq_some_iff.1 hj).1
      have e : (⟨b, off, none⟩ : Addr).add j = ⟨b, off + j, none⟩ := by unfold Addr.add; split <;> simp_all
      have h2 := hn.eq.2 j hjn
      rw [e, cell_of_row w b (off + j) cs.toArray bt (0, 0) hbox]
      simpa [hj] using h2)
    rw [hn.eq.1] at this
    exact this
  simp [xop, execOp, Instr.loadAt, h.ev (x := x) (v := .pointer (some ⟨b, off, none⟩)), Instr.sureAddr, loadVar, Sem.run_bind, ha.run, run_size, hl]⟩
/-- what one owns, as others see it. -/
theorem St.boxF {w0 M0 ds a w l bs fs} (S : St w0 M0 ds a w l bs fs) (b : Nat) {t : TypeId} {cs : List Value} [h : HasBox bs b t cs] : BoxF b t cs w := S.box b
end Go.Wk
