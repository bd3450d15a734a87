/- slices.Sort at strings. -/
import Derived.Test.YtajmjbboahmdkaaCloseG
import Derived.Test.YtajmjbboahmdkaaSortP
namespace Go.Proofs.Ytajmjbboahmdkaa
open Go Go.Wk Go.Sort
set_option maxRecDepth 100000

theorem encS_map (ns : List (List UInt8)) : encL ns = ns.map str := by
  induction ns with
  | nil => rfl
  | cons x xs ih => rw [encL_cons, ih]; rfl
theorem len64_zero (w : World) : Calls Try.prog 163 #[.int .u64 0] w fun e w' => e = .returned (.int .i64 0) ∧ w' = w := by
  go_enter Try.func163, Try.ntmps163
  go_wp2
  go_ret
  refine ⟨?_, rfl⟩
  show Ending.returned (Value.int IntKind.i64 (RowKit.wrap64 (RowKit.wrap64 (Lib.len8 0)))) = _
  have h8 : Lib.len8 0 = 0 := (Lib.len8_of 0 (by omega) (by omega)).trans (by decide)
  rw [h8]
  simp [RowKit.wrap64]
theorem len_zero (w : World) : Calls Try.prog 127 #[.int .u64 0] w fun e w' => e = .returned (.int .i64 0) ∧ w' = w := by
  go_enter Try.func127, Try.ntmps127
  go_wp2_with (first | (go_at_call 163; refine (len64_zero _).mono ?_; rintro e w' ⟨rfl, rfl⟩))
  go_ret
  exact ⟨rfl, rfl⟩
theorem insertion_nil (p : Option Addr) (cap : Nat) (w : World) : Calls Try.prog 175 #[.slice p 0 cap, .int .i64 0, .int .i64 0] w fun e w' => e = .returned (.tuple #[]) ∧ w' = w := by
  go_enter Try.func175, Try.ntmps175
  go_wp2
  refine wp_loop_rounds 1 ?_
  rw [rounds_succ]
  go_wp2
  go_end0
  exact ⟨rfl, rfl⟩
theorem pdq_nil (p : Option Addr) (cap : Nat) (w : World) : Calls Try.prog 152 #[.slice p 0 cap, .int .i64 0, .int .i64 0, .int .i64 0] w fun e w' => e = .returned (.tuple #[]) ∧ w' = w := by
  go_enter Try.func152, Try.ntmps152
  go_wp2
  refine wp_loop_rounds 1 ?_
  rw [rounds_succ]
  go_wp2_with (first | (go_at_call 175; refine (insertion_nil p cap _).mono ?_; rintro e w' ⟨rfl, rfl⟩))
  refine bodyPost_ret (results_none rfl _ _ _) rfl ?_
  exact ⟨rfl, rfl⟩
theorem sort_nil (p : Option Addr) (cap : Nat) (w : World) : Calls Try.prog 115 #[.slice p 0 cap] w fun e w' => e = .returned (.tuple #[]) ∧ w' = w := by
  go_enter Try.func115, Try.ntmps115
  go_wp2_with (first
    | (go_at_call 127; refine (len_zero _).mono ?_; rintro e w' ⟨rfl, rfl⟩)
    | (go_at_call 152; refine (pdq_nil p cap _).mono ?_; rintro e w' ⟨rfl, rfl⟩))
  go_end0
  exact ⟨rfl, rfl⟩
theorem sort_ok : SortOk Try.prog 115 := by
  intro ns p c w0 hlen hown
  by_cases hne : ns = []
  · subst hne
    refine Calls.mono (sort_nil p c w0) ?_
    rintro e w' ⟨rfl, rfl⟩
    exact ⟨_, rfl, Agree.refl _ _, rfl, [], .refl _, hown⟩
  have hpos : 0 < ns.length := List.length_pos_iff.2 hne
  obtain ⟨g, cur, rfl, hg, hnc, hcs, htk, hcm⟩ := own_cells hown hpos
  have hglt := (Array.getElem?_eq_some_iff.1 hg).1
  rw [Nat.mul_one] at htk hcs
  have hH : Holds encStr w0 g 0 ns.toArray := fun j hj => by
    have hj' : j < ns.length := by simpa using hj
    refine ⟨?_, by simp [World.frozen?, hg]⟩
    rw [cell_of_row w0 g (0 + j) cur 9 (0, 0) hg, Nat.zero_add, ← Array.getElem?_toList]
    have h1 : (cur.toList.take ns.length)[j]? = some (str ns[j]) := by rw [htk, encS_map, List.getElem?_map, List.getElem?_eq_getElem hj']; rfl
    rw [List.getElem?_take, if_pos hj'] at h1
    rw [h1, getElem!_pos ns.toArray j hj]
    simp
  have hc := Any.slices_Sort_string Try.lays190 g 0 c ns w0 hH hglt (by omega)
  obtain ⟨ms, hms⟩ : ∃ ms, ms = ns.mergeSort fun x y => decide (x ≤ y) := ⟨_, rfl⟩
  have hperm : ms.Perm ns := by rw [hms]; exact List.mergeSort_perm _ _
  have hml : ms.length = ns.length := hperm.length_eq
  rw [← hms] at hc
  refine Calls.mono hc ?_
  rintro e w' ⟨rfl, n, os, rfl⟩
  have hgrow : ∀ k, k < w0.heap.size → (grow (putRow encStr (Go.Sort.ahead w0 n) g 0 ms.toArray) os).heap[k]? = (w0.heap.modify g (onCells (putCells encStr 0 ms.toArray)))[k]? := fun k hk =>
    heap_grow_old _ _ (by simp [putRow, mapBlock, Go.Sort.ahead]; exact hk)
  have hgg : (grow (putRow encStr (Go.Sort.ahead w0 n) g 0 ms.toArray) os).heap[g]? = some (.cells (putCells encStr 0 ms.toArray cur) 9 (0, 0)) := by
    rw [hgrow g hglt, Array.getElem?_modify, if_pos rfl, hg]; rfl
  refine ⟨_, rfl, ⟨rfl, rfl, rfl, by simp [putRow, mapBlock, Go.Sort.ahead], fun k hk hm => ?_⟩, rfl, ms, hperm, ?_⟩
  · have hkg : g ≠ k := fun e => hm ⟨_, rfl, e.symm⟩
    rw [hgrow k hk, Array.getElem?_modify, if_neg hkg]
  · refine ⟨by rw [encS_map, List.length_map, hml, Nat.mul_one], .inr ⟨g, c, _, rfl, Nat.zero_le _, hgg, hnc, hcm, by simp [putCells, hcs], ?_⟩⟩
    rw [Nat.mul_one, encS_map]
    apply List.ext_getElem?
    intro j
    rw [List.getElem?_take]
    split
    · rename_i hj
      have hjc : j < cur.size := by omega
      have hjm : j < ms.length := by omega
      simp only [Array.getElem?_toList, putCells, Array.getElem?_mapIdx, Array.getElem?_eq_getElem hjc, Option.map_some, List.getElem?_map, List.getElem?_eq_getElem hjm]
      rw [if_pos ⟨Nat.zero_le _, by simpa using hjm⟩]
      simp [hjm]
    · rename_i hj
      rw [List.getElem?_eq_none (by simp; omega)]
end Go.Proofs.Ytajmjbboahmdkaa
