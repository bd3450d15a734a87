import Derived.Test.YtajmjbboahmdkaaWkV
import Derived.Maps.RangeRun
namespace Go.Wk
open Go

/-! going over a map -/
theorem nodup_of_map {α β : Type} {f : α → β} : ∀ {l : List α}, (l.map f).Nodup → l.Nodup
  | [], _ => .nil
  | x :: l, h => by
    rw [List.map_cons, List.nodup_cons] at h
    exact List.nodup_cons.2 ⟨fun hx => h.1 (List.mem_map.2 ⟨x, hx, rfl⟩), nodup_of_map h.2⟩
def kvS (x : List UInt8 × Value) : Value × Value := (str x.1, x.2)
def kvU (x : Value × Value) : List UInt8 × Value := (match x.1 with | .string s => s.data.toList | _ => [], x.2)
theorem kvU_kvS (x : List UInt8 × Value) : kvU (kvS x) = x := by simp [kvU, kvS, str]
theorem map_kvU (l : List (List UInt8 × Value)) : (l.map kvS).map kvU = l := by
  rw [List.map_map]
  conv => rhs; rw [← List.map_id l]
  apply List.map_congr_left
  intro x _
  exact kvU_kvS x
def enKV (e : MapEntry) : Value × Value := (e.key, e.val)
/-- a map, and the going over it: what has come out. -/
def mpi (b r : Nat) (kv done : List (List UInt8 × Value)) : Item where
  foot := fun k => k = b ∨ k = r
  holds := fun w => ∃ (es : Array MapEntry) (clock : Nat) (ds : List MapEntry), w.heap[b]? = some (.map es clock) ∧ es.toList.map enKV = kv.map kvS ∧ (∀ e ∈ es.toList, e.born < clock) ∧ (es.toList.map (·.born)).Nodup ∧
    w.heap[r]? = some (.mapIter (some b) clock (ds.map (·.born)).toArray clock) ∧ (∀ e ∈ ds, e ∈ es.toList) ∧ (ds.map (·.born)).Nodup ∧ ds.map enKV = done.map kvS
theorem mpi_loc (b r : Nat) (kv done : List (List UInt8 × Value)) (w1 w2 : World) (h : ∀ k, (mpi b r kv done).foot k → w2.heap[k]? = w1.heap[k]?) (h1 : (mpi b r kv done).holds w1) : (mpi b r kv done).holds w2 := by
  obtain ⟨es, clock, ds, q1, q2, q3, q4, q5, q6⟩ := h1
  exact ⟨es, clock, ds, (h b (.inl rfl)).trans q1, q2, q3, q4, (h r (.inr rfl)).trans q5, q6⟩
theorem mpi_mp {b r : Nat} {kv done : List (List UInt8 × Value)} {w : World} (h : (mpi b r kv done).holds w) : (mp b kv).holds w := by
  obtain ⟨es, clock, ds, q1, q2, q3, q4, _⟩ := h
  exact ⟨es, clock, q1, q2, q3, q4⟩
class HasMpi (bs : List Item) (r : Nat) (b : outParam Nat) (kv done : outParam (List (List UInt8 × Value))) : Prop where mem : mpi b r kv done ∈ bs
instance hmpi0 {b r : Nat} {kv done : List (List UInt8 × Value)} {bs : List Item} : HasMpi (mpi b r kv done :: bs) r b kv done := ⟨List.mem_cons_self ..⟩
instance (priority := 900) hmpi1 {b r : Nat} {kv done : List (List UInt8 × Value)} {x : Item} {bs : List Item} [h : HasMpi bs r b kv done] : HasMpi (x :: bs) r b kv done := ⟨List.mem_cons_of_mem _ h.mem⟩
/-- what 'next' hands out. -/
def nxV (more : Bool) (k : List UInt8) (v : Value) : Value := bif more then .tuple ⟨[.bool true, str k, v]⟩ else .tuple ⟨[.bool false]⟩
instance (priority := 1100) opExtNx {P ty} {l : Cx} {bs fs x more k v} [Ev l x (nxV more k v)] : OpQ P (.extract x 0) ty l bs fs (.bool more) := ⟨fun ρ w h _ => by
  cases more <;> simp [xop, execOp, h.ev (x := x) (v := nxV _ k v), nxV, Instr.extract]⟩
class HasMpiB (bs : List Item) (b : Nat) (kv : outParam (List (List UInt8 × Value))) : Prop where mem : ∃ r done, mpi b r kv done ∈ bs
instance hmpib0 {b r : Nat} {kv done : List (List UInt8 × Value)} {bs : List Item} : HasMpiB (mpi b r kv done :: bs) b kv := ⟨r, done, List.mem_cons_self ..⟩
instance (priority := 900) hmpib1 {b : Nat} {kv : List (List UInt8 × Value)} {x : Item} {bs : List Item} [h : HasMpiB bs b kv] : HasMpiB (x :: bs) b kv := ⟨by obtain ⟨r, d, h⟩ := h.mem; exact ⟨r, d, List.mem_cons_of_mem _ h⟩⟩
theorem born_inj {es : List MapEntry} (h : (es.map (·.born)).Nodup) {e e' : MapEntry} (he : e ∈ es) (he' : e' ∈ es) (hb : e.born = e'.born) : e = e' := by
  induction es with
  | nil => cases he
  | cons x xs ih =>
    rw [List.map_cons, List.nodup_cons] at h
    rcases List.mem_cons.1 he with q | q <;> rcases List.mem_cons.1 he' with q' | q'
    · rw [q, q']
    · exact absurd (List.mem_map.2 ⟨e', q', by rw [← hb, q]⟩) h.1
    · exact absurd (List.mem_map.2 ⟨e, q, by rw [hb, q']⟩) h.1
    · exact ih h.2 q q'
section
variable {P : Program} {r0 : Option Nat} {ops : Array Oper} {Q : Exit → Act → World → Prop} {w0 : World} {M0 : Nat → Prop} {ds : List Deferred} {a : Act} {w : World} {l : List Value} {bs : List Item} {fs : List (World → Prop)}
  {d : Option Nat} {op : Op} {ty : TypeId} {pos : String} {af : Array Edge} {rest : List Oper} {t kt et : TypeId} {x : Operand} {b : Nat} {kv : List (List UInt8 × Value)}
/-- a range over a map is begun. -/
theorem srg0 {l' : Nat → List Value} {bs' : Nat → List Item} (S : St w0 M0 ds a w l bs fs) [Ev ⟨[], l⟩ x (.map (some b))] [ht : Und P t (.map kt et)] [hm : HasMp bs b kv] [hrep : ∀ r, ReplI bs (mp b kv) (mpi b r kv []) (bs' r)] [hp : ∀ r, PutO l d (.pointer (some ⟨r, 0, none⟩)) (l' r)]
    (K : ∀ r a w, St w0 M0 ds a w (l' r) (bs' r) fs → WL P r0 ops Q rest a w) : WL P r0 ops Q (⟨d, .range t x, ty, pos, af, none⟩ :: rest) a w := by
  refine wl_plain rfl ?_
  rw [semAt_nd rfl]
  obtain ⟨es, clock, hb, he, hbn, hnd⟩ : (mp b kv).holds w := S.wd.held _ hm.mem
  have e1 : (xop a.eval (.range t x) ty).run P w = .ok (.value (.pointer (some ⟨w.heap.size, 0, none⟩))) (w.alloc (.mapIter (some b) clock #[] clock)) := by
    have h1 := MapKept.run_getObj_map (P := P) hb
    have h2 : (Instr.range t (.map (some b))).run P w = .ok (.pointer (some ⟨w.heap.size, 0, none⟩)) (w.alloc (.mapIter (some b) clock #[] clock)) := by
      simp [Instr.range, Sem.run_bind, run_und, h1, Result.andThen, newObj, Sem.run]
    simp [xop, execOp, S.fr.ev (x := x) (v := .map (some b)), Sem.run_bind, h2]
  simp only [e1, Oper.uponIn]
  have := hp w.heap.size
  have S' := S.put (d := d) (v := .pointer (some ⟨w.heap.size, 0, none⟩))
  have hlt : b < w.heap.size := (Array.getElem?_eq_some_iff.1 hb).1
  have hag : Agree (mp b kv).foot w (w.alloc (.mapIter (some b) clock #[] clock)) := Agree.alloc _ _ _
  refine K _ _ _ (S.reput (x := mp b kv) (y := mpi b w.heap.size kv []) S'.slots S'.defers (hr := hrep _) rfl hag ⟨es, clock, [], ?_, he, hbn, hnd, heap_alloc_new w _, by simp, by simp, rfl⟩ (fun k hk => hk.imp id (fun h => by omega)) (fun k hk => by rcases hk with rfl | rfl <;> simp <;> omega) (mpi_loc _ _ _ _))
  exact (RowKit.Below.heap_alloc _ _ _ hlt).trans hb
theorem of_setBlock {w w1 : World} {r : Nat} {o : Obj} {M : Nat → Prop} (h1 : w1 = w ∨ w1 = w.drew) (hM : M r) (hr : r < w.heap.size) : Agree M w (ChangeMaps.setBlock w1 r o) ∧ (ChangeMaps.setBlock w1 r o).heap[r]? = some o ∧ (ChangeMaps.setBlock w1 r o).heap.size = w.heap.size := by
  have key : Agree M w (ChangeMaps.setBlock w r o) ∧ (ChangeMaps.setBlock w r o).heap[r]? = some o ∧ (ChangeMaps.setBlock w r o).heap.size = w.heap.size := by
    refine ⟨⟨rfl, rfl, rfl, by simp [ChangeMaps.setBlock], fun k hk hm => ?_⟩, ?_, ?_⟩
    · have : r ≠ k := fun e => hm (e ▸ hM)
      simp [ChangeMaps.setBlock, this]
    · simp [ChangeMaps.setBlock, hr]
    · simp [ChangeMaps.setBlock]
  rcases h1 with rfl | rfl
  · exact key
  · exact ⟨⟨rfl, rfl, rfl, key.1.2.2.2.1, key.1.2.2.2.2⟩, key.2⟩
/-- the next entry, whichever it is; or none is left. -/
theorem snx {ri : Nat} {done : List (List UInt8 × Value)} {l' : Bool → List UInt8 → Value → List Value} {bs' : List (List UInt8 × Value) → List Item} (S : St w0 M0 ds a w l bs fs) [Ev ⟨[], l⟩ x (.pointer (some ⟨ri, 0, none⟩))] [hm : HasMpi bs ri b kv done] [hrep : ∀ dn, ReplI bs (mpi b ri kv done) (mpi b ri kv dn) (bs' dn)] [hp : ∀ m k v, PutO l d (nxV m k v) (l' m k v)]
    (K : ∀ (more : Bool) (k : List UInt8) (v : Value) a w, (more = false → done.Perm kv) → (more = true → (k, v) ∈ kv ∧ done.length + 1 ≤ kv.length) → St w0 M0 ds a w (l' more k v) (bs' (bif more then done ++ [(k, v)] else done)) fs → WL P r0 ops Q rest a w) :
    WL P r0 ops Q (⟨d, .next x false, ty, pos, af, none⟩ :: rest) a w := by
  refine wl_plain rfl ?_
  rw [semAt_nd rfl]
  have hold := S.wd.held _ hm.mem
  obtain ⟨es, clock, dn, hb, he, hbn, hnd, hr, hsub, hdn, hdone⟩ := hold
  have hx : a.eval x = .pointer (some ⟨ri, 0, none⟩) := S.fr.ev
  have hrlt : ri < w.heap.size := (Array.getElem?_eq_some_iff.1 hr).1
  have hbr : b ≠ ri := fun e => by rw [e, hr] at hb; cases hb
  have hleft : ∀ e, e ∈ (leftOf es (dn.map (·.born)).toArray).toList ↔ e ∈ es.toList ∧ e.born ∉ dn.map (·.born) := fun e => by
    unfold leftOf
    simp
  rcases run_next_at (P := P) w ty ri b clock clock (dn.map (·.born)).toArray es clock hr hb hbn (Nat.le_refl _) with ⟨h0, hrun⟩ | ⟨e, hel, w1, hw1, hrun⟩
  · have e1 : (xop a.eval (.next x false) ty).run P w = .ok (.value (nxV false [] undef)) w := by
      simp [xop, execOp, hx, Sem.run_bind, hrun, nxV]
    simp only [e1, Oper.uponIn]
    have := hp false [] undef
    have S' := S.put (d := d) (v := nxV false [] undef)
    have hall : ∀ e ∈ es.toList, e ∈ dn := fun e hes => by
      have hnl : e ∉ (leftOf es (dn.map (·.born)).toArray).toList := by
        have h00 : (leftOf es (dn.map (·.born)).toArray).toList = [] := List.eq_nil_of_length_eq_zero (by rw [Array.length_toList]; exact h0)
        rw [h00]; simp
      rw [hleft] at hnl
      have hb2 : e.born ∈ dn.map (·.born) := Classical.not_not.1 fun hc => hnl ⟨hes, hc⟩
      obtain ⟨e2, he2, hee⟩ := List.mem_map.1 hb2
      rw [← born_inj hnd (hsub e2 he2) hes hee]; exact he2
    have hperm : dn.Perm es.toList := (List.perm_ext_iff_of_nodup (nodup_of_map hdn) (nodup_of_map hnd)).2 fun e => ⟨hsub e, hall e⟩
    have hperm2 : done.Perm kv := by
      have := (hperm.map enKV).map kvU
      rw [hdone, he, map_kvU, map_kvU] at this
      exact this
    refine K false [] undef _ _ (fun _ => hperm2) (fun h => by cases h) ⟨S'.slots, S'.defers, ?_⟩
    obtain ⟨pre, post, q1, q2⟩ := (hrep done).ex
    have hwd := S'.wd
    rw [q1] at hwd
    show Wd w0 M0 w (bs' done) fs
    rw [q2]; exact hwd
  · obtain ⟨hes, hnb⟩ := (hleft e).1 hel
    have hkv : enKV e ∈ kv.map kvS := by rw [← he]; exact List.mem_map.2 ⟨e, hes, rfl⟩
    obtain ⟨⟨k, v⟩, hkvm, hkve⟩ := List.mem_map.1 hkv
    have hk1 : e.key = str k := (congrArg Prod.fst hkve).symm
    have hv1 : e.val = v := (congrArg Prod.snd hkve).symm
    have e1 : (xop a.eval (.next x false) ty).run P w = .ok (.value (nxV true k v)) (ChangeMaps.setBlock w1 ri (.mapIter (some b) clock ((dn.map (·.born)).toArray.push e.born) clock)) := by
      rw [hk1, hv1] at hrun
      simp [xop, execOp, hx, Sem.run_bind, hrun, nxV]
    simp only [e1, Oper.uponIn]
    have := hp true k v
    have S' := S.put (d := d) (v := nxV true k v)
    obtain ⟨hag, hrr, hsz⟩ := of_setBlock (M := (mpi b ri kv done).foot) (o := .mapIter (some b) clock ((dn.map (·.born)).toArray.push e.born) clock) hw1 (.inr rfl) hrlt
    have hag2 := (of_setBlock (M := fun k => k = ri) (o := .mapIter (some b) clock ((dn.map (·.born)).toArray.push e.born) clock) hw1 rfl hrlt).1
    have hblt : b < w.heap.size := (Array.getElem?_eq_some_iff.1 hb).1
    have hndn : ((dn ++ [e]).map (·.born)).Nodup := by
      rw [List.map_append, List.map_singleton]
      refine List.nodup_append.2 ⟨hdn, by simp, fun x hx y hy hxy => ?_⟩
      obtain rfl := List.mem_singleton.1 hy
      exact hnb (hxy ▸ hx)
    have hsub2 : ∀ e' ∈ dn ++ [e], e' ∈ es.toList := fun e' h' => by
      rcases List.mem_append.1 h' with h' | h'
      · exact hsub e' h'
      · obtain rfl := List.mem_singleton.1 h'; exact hes
    have hlen : done.length + 1 ≤ kv.length := by
      have h1 := List.Nodup.length_le_of_subset (nodup_of_map hndn) hsub2
      have h2 := congrArg List.length hdone
      have h3 := congrArg List.length he
      simp only [List.length_map, List.length_append, List.length_singleton] at h1 h2 h3
      omega
    refine K true k v _ _ (fun h => by cases h) (fun _ => ⟨hkvm, hlen⟩) (S.reput (x := mpi b ri kv done) (y := mpi b ri kv (done ++ [(k, v)])) S'.slots S'.defers (hr := hrep _) rfl hag
      ⟨es, clock, dn ++ [e], (hag2.blk hblt hbr).trans hb, he, hbn, hnd, by rw [hrr]; simp, hsub2, hndn, by rw [List.map_append, List.map_append, hdone, List.map_singleton, List.map_singleton]; congr 2; exact hkve.symm⟩
      (fun k hk => .inl hk) (fun k hk => by rw [hsz]; rcases hk with rfl | rfl <;> assumption) (mpi_loc _ _ _ _))
/-- the entry that came out last. -/
instance opEntry {lc : Cx} {ri : Nat} {done : List (List UInt8 × Value)} {k : List UInt8} {v : Value} [Ev lc x (.pointer (some ⟨ri, 0, none⟩))] [hm : HasMpi bs ri b kv (done ++ [(k, v)])] : OpQ P (.entry x) ty lc bs fs (.tuple ⟨[str k, v]⟩) := ⟨fun ρ w h mm => by
  obtain ⟨es, clock, dn, hb, he, hbn, hnd, hr, hsub, hdn, hdone⟩ := mm.held _ hm.mem
  have hne : dn ≠ [] := by rintro rfl; simp at hdone
  obtain ⟨dn', e, rfl⟩ : ∃ dn' e, dn = dn' ++ [e] := ⟨dn.dropLast, dn.getLast hne, (List.dropLast_concat_getLast hne).symm⟩
  have hke : enKV e = kvS (k, v) := by
    rw [List.map_append, List.map_append] at hdone
    have := List.append_inj_right' hdone rfl
    simpa using this
  have hk1 : e.key = str k := congrArg Prod.fst hke
  have hv1 : e.val = v := congrArg Prod.snd hke
  have hr2 : w.heap[ri]? = some (.mapIter (some b) clock ((dn'.map (·.born)).toArray.push e.born) clock) := by rw [hr]; simp
  have hrun := run_entry_at (P := P) w ri b clock (dn'.map (·.born)).toArray es clock e hr2 hb (hsub e (by simp)) hnd
  rw [hk1, hv1] at hrun
  simp [xop, execOp, h.ev (x := x) (v := .pointer (some ⟨ri, 0, none⟩)), Sem.run_bind, hrun]⟩
instance (priority := 950) kvofI {bs : List Item} {fs : List (World → Prop)} {b : Nat} {kv : List (List UInt8 × Value)} [h : HasMpiB bs b kv] : KvOf bs fs b kv := ⟨fun _ mm => by obtain ⟨r, d, h⟩ := h.mem; exact mpi_mp (mm.held _ h)⟩
end
section
variable {P : Program} {r : Option Nat} {ops : Array Oper} {Q : Exit → Act → World → Prop} {w0 : World} {M0 : Nat → Prop} {ds : List Deferred} {a : Act} {w : World} {l : List Value} {bs : List Item} {fs : List (World → Prop)}
  {d : Option Nat} {ty : TypeId} {pos : String} {af : Array Edge} {rest : List Oper} {f : Nat} {x : Operand} {ys : List Operand} {args : List Value} {ts : Array TypeId}
/-- what a call hands back: something in new memory. -/
theorem Wd.addItem {w' : World} {y : Item} (hold : Wd w0 M0 w bs fs) (hw : Grow w w') (hy : y.holds w') (hfoot : ∀ k, y.foot k → w.heap.size ≤ k) (hlt : ∀ k, y.foot k → k < w'.heap.size)
    (hloc : ∀ w1 w2 : World, (∀ k, y.foot k → w2.heap[k]? = w1.heap[k]?) → y.holds w1 → y.holds w2) : Wd w0 M0 w' (y :: bs) fs := by
  refine (hold.step hw).more hy (fun k hk => Nat.le_trans hold.agree.size (hfoot k hk)) hlt (fun it hi k hk hk' => absurd (hold.lt it hi k hk') (by have := hfoot k hk; omega)) (fun Φ hΦ w'' hw'' => ?_) hloc
  refine hold.facts Φ hΦ w'' ((hw.mono (fun _ _ h => h.elim)).trans' hw'' fun i hi ⟨it, hm, hk⟩ => ?_)
  rcases List.mem_cons.1 hm with rfl | hm
  · exact absurd (hfoot i hk) (by omega)
  · exact ⟨it, hm, hk⟩
theorem srx {l' : Value → List Value} [EntF P f] [CallTo ⟨[], l⟩ x ys f args] [hp : ∀ v, PutO l d v (l' v)] (S : St w0 M0 ds a w l bs fs) {R : Value → World → Prop} (hc : Ret P f args w (fun _ => False) R)
    (K : ∀ v a w', R v w' → (∀ y : Item, y.holds w' → (∀ k, y.foot k → w.heap.size ≤ k) → (∀ k, y.foot k → k < w'.heap.size) → (∀ w1 w2 : World, (∀ k, y.foot k → w2.heap[k]? = w1.heap[k]?) → y.holds w1 → y.holds w2) → St w0 M0 ds a w' (l' v) (y :: bs) fs) → St w0 M0 ds a w' (l' v) bs fs → WL P r ops Q rest a w') :
    WL P r ops Q (⟨d, .call { callee := .value x, args := ys.toArray, argTypes := ts }, ty, pos, af, none⟩ :: rest) a w := by
  refine cv_any S hc ?_
  rintro e w' ⟨v, rfl, ha, hR⟩
  have := hp v
  have S' := S.put (d := d) (v := v)
  exact ⟨v, rfl, K v _ w' hR (fun y hy h1 h2 h3 => ⟨S'.slots, S'.defers, S'.wd.addItem ha hy h1 h2 h3⟩) ⟨S'.slots, S'.defers, S'.wd.step ha⟩⟩
theorem mp_lt {b : Nat} {kv : List (List UInt8 × Value)} (h : (mp b kv).holds w) : ∀ k, (mp b kv).foot k → k < w.heap.size := by
  rintro k rfl
  obtain ⟨es, clock, h1, _⟩ := h
  exact (Array.getElem?_eq_some_iff.1 h1).1
end
end Go.Wk
