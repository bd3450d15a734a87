/- slices.Sort at ints, of a row of one's own that is not empty. -/
import Derived.Test.YtgielmldblopeaaInst
import Derived.Test.YtgielmldblopeaaW5
import Derived.Test.YtgielmldblopeaaSortP
namespace Go.Proofs.Ytgielmldblopeaa
open Go Go.Wk Go.Sort
set_option maxRecDepth 100000

theorem encI_map (ns : List Int) : encL ns = ns.map (Value.int .i64) := by
  induction ns with
  | nil => rfl
  | cons x xs ih => rw [encL_cons, ih]; rfl
theorem sortI_c (ns : List Int) (p : Option Addr) (c : Nat) (w0 : World) (hpos : 0 < ns.length) (hlen : ns.length ≤ 1000000) (hown : w0.ownsRow 0 3 1 (.slice p ns.length c) ns.length (encL ns)) :
    Ret Try.prog 58 [.slice p ns.length c] w0 (fun k => ∃ ad, p = some ad ∧ k = ad.block) fun v w' => v = .tuple #[] ∧ ∃ ms : List Int, ms.Perm ns ∧ ms.Pairwise (· ≤ ·) ∧ w'.ownsRow 0 3 1 (.slice p ns.length c) ns.length (encL ms) := by
  obtain ⟨g, cur, rfl, hg, hnc, hcs, htk, hcm⟩ := own_cells hown hpos
  have hglt := (Array.getElem?_eq_some_iff.1 hg).1
  rw [Nat.mul_one] at htk hcs
  have hH : Holds (Value.int .i64) w0 g 0 ns.toArray := fun j hj => by
    have hj' : j < ns.length := by simpa using hj
    refine ⟨?_, by simp [World.frozen?, hg]⟩
    rw [cell_of_row w0 g (0 + j) cur 3 (0, 0) hg, Nat.zero_add, ← Array.getElem?_toList]
    have h1 : (cur.toList.take ns.length)[j]? = some (.int .i64 ns[j]) := by rw [htk, encI_map, List.getElem?_map, List.getElem?_eq_getElem hj']; rfl
    rw [List.getElem?_take, if_pos hj'] at h1
    rw [h1, getElem!_pos ns.toArray j hj]
    simp
  have hc := Any.slices_Sort_int Try.lays189 g 0 c ns w0 hH hglt (by omega)
  obtain ⟨ms, hms⟩ : ∃ ms, ms = ns.mergeSort fun x y => decide (x ≤ y) := ⟨_, rfl⟩
  have hperm : ms.Perm ns := by rw [hms]; exact List.mergeSort_perm _ _
  have hsort : ms.Pairwise (· ≤ ·) := by
    have h := List.pairwise_mergeSort (le := fun x y : Int => decide (x ≤ y)) (fun a b c h1 h2 => by simp at *; omega) (fun a b => by simp; omega) ns
    rw [← hms] at h
    exact h.imp fun h => by simpa using h
  have hml : ms.length = ns.length := hperm.length_eq
  rw [← hms] at hc
  refine Calls.mono hc ?_
  rintro e w' ⟨rfl, n, os, rfl⟩
  have hgrow : ∀ k, k < w0.heap.size → (grow (putRow (Value.int .i64) (Go.Sort.ahead w0 n) g 0 ms.toArray) os).heap[k]? = (w0.heap.modify g (onCells (putCells (Value.int .i64) 0 ms.toArray)))[k]? := fun k hk =>
    heap_grow_old _ _ (by simp [putRow, mapBlock, Go.Sort.ahead]; exact hk)
  have hgg : (grow (putRow (Value.int .i64) (Go.Sort.ahead w0 n) g 0 ms.toArray) os).heap[g]? = some (.cells (putCells (Value.int .i64) 0 ms.toArray cur) 3 (0, 0)) := by
    rw [hgrow g hglt, Array.getElem?_modify, if_pos rfl, hg]; rfl
  refine ⟨_, rfl, ⟨rfl, rfl, rfl, by simp [putRow, mapBlock, Go.Sort.ahead], fun k hk hm => ?_⟩, rfl, ms, hperm, hsort, ?_⟩
  · have hkg : g ≠ k := fun e => hm ⟨_, rfl, e.symm⟩
    rw [hgrow k hk, Array.getElem?_modify, if_neg hkg]
  · refine ⟨by rw [encI_map, List.length_map, hml, Nat.mul_one], .inr ⟨g, c, _, rfl, Nat.zero_le _, hgg, hnc, hcm, by simp [putCells, hcs], ?_⟩⟩
    rw [Nat.mul_one, encI_map]
    apply List.ext_getElem?
    intro j
    rw [List.getElem?_take]
    split
    · rename_i hj
      have hjc : j < cur.size := by omega
      have hjm : j < ms.length := by omega
      simp only [Array.getElem?_toList, putCells, Array.getElem?_mapIdx, Array.getElem?_eq_getElem hjc, Option.map_some, List.getElem?_map, List.getElem?_eq_getElem hjm]
      rw [if_pos ⟨Nat.zero_le _, by simpa using hjm⟩]
      simp [hjm]
    · rename_i hj
      rw [List.getElem?_eq_none (by simp; omega)]
end Go.Proofs.Ytgielmldblopeaa
