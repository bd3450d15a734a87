/- Layer 13 in plain words: who opens, and who can reckon. -/
import Derived.Test.YtgielmldblopeaaCapG
namespace Go.Proofs.Ytgielmldblopeaa
open Go Go.Wk
set_option maxRecDepth 100000

def sbU (s : Term) (n : Int) : SBox := ⟨n, 0, sealT n s⟩
def sbG (s : Term) (kt : Int → Term) (g : Int) : SBox := ⟨0, g, lockT (kt g) s⟩
def sbOf (us gs : List Int) (s : Term) (kt : Int → Term) : List SBox := us.map (sbU s) ++ gs.map (sbG s kt)
theorem sbOf_t {us gs : List Int} {s : Term} {kt : Int → Term} (hu : ∀ n ∈ us, 1 ≤ n ∧ n ≤ 6) : (sbOf us gs s kt).map SBox.t = boxesT us gs s kt := by
  rw [sbOf, boxesT, List.map_append, List.map_map, List.map_map]
  congr 1
  · exact List.map_congr_left fun n hn => by have := hu n hn; show SBox.t (sbU s n) = _; rw [SBox.t, if_pos (by show 0 < n; omega)]; rfl
theorem sbOf_ok {us gs : List Int} {s : Term} {kt : Int → Term} (hu : ∀ n ∈ us, 1 ≤ n ∧ n ≤ 6) (hg : ∀ g ∈ gs, 1 ≤ g ∧ g ≤ 3) : ∀ b ∈ sbOf us gs s kt, b.ok := fun b hb => by
  rcases List.mem_append.1 hb with hb | hb
  · obtain ⟨n, hn, rfl⟩ := List.mem_map.1 hb
    exact .inl ⟨(hu n hn).1, (hu n hn).2, rfl, s, rfl⟩
  · obtain ⟨g, hgm, rfl⟩ := List.mem_map.1 hb
    exact .inr ⟨rfl, (hg g hgm).1, (hg g hgm).2, _, s, rfl⟩
theorem sbOf_rise {us gs : List Int} {s : Term} {kt : Int → Term} (hu : ∀ n ∈ us, 1 ≤ n ∧ n ≤ 6) (hg : ∀ g ∈ gs, 1 ≤ g ∧ g ≤ 3) (hur : us.Pairwise (· < ·)) (hgr : gs.Pairwise (· < ·)) : ((sbOf us gs s kt).map SBox.place).Pairwise (· < ·) := by
  have e1 : ∀ n ∈ us, (sbU s n).place = n := fun n hn => by have := hu n hn; rw [SBox.place, if_pos (by show 0 < n; omega)]; rfl
  have e2 : ∀ g ∈ gs, (sbG s kt g).place = 6 + g := fun g _ => by rw [SBox.place, if_neg (by show ¬ (0 : Int) < 0; omega)]; rfl
  rw [sbOf, List.map_append, List.map_map, List.map_map, List.map_congr_left (f := SBox.place ∘ sbU s) (g := id) (fun n hn => e1 n hn), List.map_congr_left (f := SBox.place ∘ sbG s kt) (g := fun g => 6 + g) (fun g hgm => e2 g hgm), List.map_id, List.pairwise_append]
  refine ⟨hur, ?_, fun a ha b hb => ?_⟩
  · exact List.pairwise_map.2 (hgr.imp fun h => by omega)
  · obtain ⟨g, hgm, rfl⟩ := List.mem_map.1 hb
    have := hu a ha; have := hg g hgm; omega
/-- who opens what. -/
theorem openF_sb {us gs : List Int} {s : Term} {kt : Int → Term} (hu : ∀ n ∈ us, 1 ≤ n ∧ n ≤ 6) (hg : ∀ g ∈ gs, 1 ≤ g ∧ g ≤ 3) {n : Int} (hn : 1 ≤ n) (ks : List (Int × Term)) (hks : ∀ k ∈ ks, k.2 = kt k.1) :
    openF (sbOf us gs s kt) n ks = if n ∈ us ∨ ∃ g ∈ gs, g ∈ ks.map (·.1) then some s else none := by
  have hgn : (gs.map (sbG s kt)).find? (isU n) = none := List.find?_eq_none.2 fun b hb => by
    obtain ⟨g, -, rfl⟩ := List.mem_map.1 hb
    show ¬ ((decide (0 < n) && decide ((0 : Int) = n)) = true)
    rw [Bool.and_eq_true, decide_eq_true_iff, decide_eq_true_iff]; omega
  have huk : (us.map (sbU s)).find? (isK ks) = none := List.find?_eq_none.2 fun b hb => by
    obtain ⟨m, -, rfl⟩ := List.mem_map.1 hb
    simp [isK, sbU]
  have hgk : ∀ g ∈ gs, isK ks (sbG s kt g) = decide (g ∈ ks.map (·.1)) := fun g hgm => by
    have h1 := hg g hgm
    rw [Bool.eq_iff_iff, decide_eq_true_iff, isK, List.any_eq_true]
    constructor
    · rintro ⟨k, hk, h⟩
      replace h : (decide (0 < g) && decide (k.1 = g) && sameF k.2 (kt g)) = true := h
      rw [Bool.and_eq_true, Bool.and_eq_true, decide_eq_true_iff, decide_eq_true_iff] at h
      exact List.mem_map.2 ⟨k, hk, h.1.2⟩
    · intro h
      obtain ⟨k, hk, hkg⟩ := List.mem_map.1 h
      refine ⟨k, hk, ?_⟩
      show (decide (0 < g) && decide (k.1 = g) && sameF k.2 (kt g)) = true
      rw [Bool.and_eq_true, Bool.and_eq_true, decide_eq_true_iff, decide_eq_true_iff]
      refine ⟨⟨by omega, hkg⟩, (sameF_iff _ _).2 ?_⟩
      rw [hks k hk, hkg]
  unfold openF sbOf
  rw [List.find?_append, List.find?_append, hgn, huk, Option.or_none, Option.none_or]
  by_cases h : n ∈ us
  · rw [if_pos (.inl h)]
    cases hf : (us.map (sbU s)).find? (isU n) with
    | none =>
      have := List.find?_eq_none.1 hf _ (List.mem_map.2 ⟨n, h, rfl⟩)
      simp [isU, sbU] at this
      omega
    | some b =>
      obtain ⟨m, -, rfl⟩ := List.mem_map.1 (List.mem_of_find?_eq_some hf)
      rfl
  · have hf : (us.map (sbU s)).find? (isU n) = none := List.find?_eq_none.2 fun b hb => by
      obtain ⟨m, hm, rfl⟩ := List.mem_map.1 hb
      show ¬ ((decide (0 < n) && decide (m = n)) = true)
      rw [Bool.and_eq_true, decide_eq_true_iff, decide_eq_true_iff]
      rintro ⟨-, rfl⟩; exact h hm
    rw [hf]
    cases hf2 : (gs.map (sbG s kt)).find? (isK ks) with
    | none =>
      rw [if_neg]
      · rfl
      · rintro (h2 | ⟨g, hgm, h2⟩)
        · exact h h2
        · have := List.find?_eq_none.1 hf2 _ (List.mem_map.2 ⟨g, hgm, rfl⟩)
          rw [hgk g hgm, decide_eq_true h2] at this
          exact this rfl
    | some b =>
      obtain ⟨g, hgm, rfl⟩ := List.mem_map.1 (List.mem_of_find?_eq_some hf2)
      have h2 := List.find?_some hf2
      rw [hgk g hgm] at h2
      rw [if_pos (.inr ⟨g, hgm, by simpa using h2⟩)]
      rfl
def keyL (g : Int) : LKey := ⟨g, .mk 2 6 (100 + g) [] none 0 []⟩
def keysL (k : Nat) : List LKey := (List.range k).map fun i : Nat => keyL ((i : Int) + 1)
theorem keyT_keysL {g : Int} (hg : 1 ≤ g ∧ g ≤ 3) : keyT (keysL 3) g = .mk 2 6 (100 + g) [] [] := by
  have : g = 1 ∨ g = 2 ∨ g = 3 := by omega
  rcases this with rfl | rfl | rfl <;> rfl
theorem fresh_small {u n : Int} (hu : 1 ≤ u ∧ u ≤ 6) (hn : 0 ≤ n ∧ n ≤ 65535) : SmallT (.mk 2 u n [] []) := ⟨good_fresh hu hn, by simp [cnt, cntL], by simp [dpt, dptL]⟩
/-- what the members hear. -/
def okKey (n : Int) (m : LBel) : Bool := decide (m.user = n) && decide (1 ≤ m.group) && decide (m.group ≤ 3)
def keysFor (l : List LBel) (n : Int) : List LKey := (l.filter (okKey n)).map fun m => keyL m.group
theorem may_open {p : LPerm} {us : List Int} {l : List LBel} {n : Int} {s : Term} {kt : Int → Term} (hP : permB p = true) (hper : us.Perm (p.owner :: p.rd.xs)) (hn : 1 ≤ n ∧ n ≤ 6) (hkt : ∀ g, 1 ≤ g ∧ g ≤ 3 → kt g = .mk 2 6 (100 + g) [] []) :
    openF (sbOf us p.gr.xs s kt) n ((keysFor l n).map LKey.s) = if mayB p n l = true then some s else none := by
  have hO := permOk hP
  have hu : ∀ m ∈ us, 1 ≤ m ∧ m ≤ 6 := fun m hm => by
    rcases List.mem_cons.1 (hper.mem_iff.1 hm) with rfl | h
    · exact hO.owner
    · exact hO.rdU m h
  rw [openF_sb hu hO.grU hn.1 _ fun k hk => by
    obtain ⟨k', hk', rfl⟩ := List.mem_map.1 hk
    obtain ⟨m, hm, rfl⟩ := List.mem_map.1 hk'
    have h2 := (List.mem_filter.1 hm).2
    simp only [okKey, Bool.and_eq_true, decide_eq_true_eq] at h2
    exact (hkt _ ⟨h2.1.2, h2.2⟩).symm]
  congr 1
  rw [mayB, hP, eq_iff_iff]
  simp only [Bool.true_and, Bool.or_eq_true, decide_eq_true_eq, Bool.and_eq_true, List.any_eq_true]
  rw [hper.mem_iff, List.mem_cons]
  refine or_congr Iff.rfl ?_
  constructor
  · rintro ⟨g, hgm, hgk⟩
    obtain ⟨k, hk, rfl⟩ := List.mem_map.1 hgk
    obtain ⟨k', hk', rfl⟩ := List.mem_map.1 hk
    obtain ⟨m, hm, rfl⟩ := List.mem_map.1 hk'
    obtain ⟨h1, h2⟩ := List.mem_filter.1 hm
    simp only [okKey, Bool.and_eq_true, decide_eq_true_eq] at h2
    exact ⟨by simp [okU]; omega, _, List.mem_map.2 ⟨m, List.mem_filter.2 ⟨h1, by simpa using h2.1.1⟩, rfl⟩, hgm⟩
  · rintro ⟨-, g, hg1, hgm⟩
    obtain ⟨m, hm, rfl⟩ := List.mem_map.1 hg1
    obtain ⟨h1, h2⟩ := List.mem_filter.1 hm
    have h3 := hO.grU _ hgm
    refine ⟨_, hgm, List.mem_map.2 ⟨(keyL m.group).s, List.mem_map.2 ⟨keyL m.group, List.mem_map.2 ⟨m, List.mem_filter.2 ⟨h1, ?_⟩, rfl⟩, rfl⟩, rfl⟩⟩
    simp only [okKey, Bool.and_eq_true, decide_eq_true_eq]
    exact ⟨⟨by simpa using h2, h3.1⟩, h3.2⟩
end Go.Proofs.Ytgielmldblopeaa
