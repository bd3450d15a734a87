/- Layer 13 in plain words: who reckons. -/
import Derived.Test.YtgielmldblopeaaLawCapB
namespace Go.Proofs.Ytgielmldblopeaa
open Go Go.Wk
set_option maxRecDepth 100000

def kT (g : Int) : Term := .mk 2 6 (100 + g) [] []
def stT (m : Int) : Term := .mk 2 1 m [] []
theorem listT_part {K : List Term} : ∀ {ts : List Term}, Der K (listT ts) → ∀ t ∈ ts, Der K t
  | t :: ts, h, x, hx => by
    rcases List.mem_cons.1 hx with rfl | hx
    · exact .part (.inl rfl) h (by simp)
    · exact listT_part (.part (.inl rfl) h (by simp)) x hx
theorem hid_text {N : Term → Prop} {s : List UInt8} (h : ¬ N (textT s)) : Hid N (textT s) := .mk h (fun h => by omega) (fun h => by omega) (fun h => by omega)
theorem hid_pair {N : Term → Prop} {a b : Term} (h : ¬ N (.pair a b)) (ha : Hid N a) (hb : Hid N b) : Hid N (.pair a b) := .mk h (fun _ t ht => by simp at ht; rcases ht with rfl | rfl <;> assumption) (fun h => by omega) (fun h => by omega)
theorem hid_list {N : Term → Prop} (h1 : ∀ s, ¬ N (textT s)) (h4 : ∀ a b, ¬ N (.pair a b)) : ∀ {ts : List Term}, (∀ t ∈ ts, Hid N t) → Hid N (listT ts)
  | [], _ => hid_text (h1 _)
  | t :: ts, h => hid_pair (h4 _ _) (h t (by simp)) (hid_list h1 h4 fun x hx => h x (by simp [hx]))
def knownT (T : Term) (U G : List Int) : List Term := T :: (U.map secretT ++ G.map kT)
theorem cap_der {us gs U G : List Int} {m : Int} {kt : Int → Term} (hkt : ∀ g ∈ gs, kt g = kT g) :
    derB (knownT (listT (boxesT us gs (stT m) kt)) U G) (stT m) = decide ((∃ n ∈ U, n ∈ us) ∨ ∃ g ∈ G, g ∈ gs) := by
  obtain ⟨K, hK⟩ : ∃ K, K = knownT (listT (boxesT us gs (stT m) kt)) U G := ⟨_, rfl⟩
  rw [← hK, Bool.eq_iff_iff, derB_iff, decide_eq_true_iff]
  constructor
  · intro hd
    apply Classical.byContradiction
    intro hno
    have hU : ∀ n ∈ us, n ∉ U := fun n hn hu => hno (.inl ⟨n, hu, hn⟩)
    have hG : ∀ g ∈ gs, g ∉ G := fun g hg hu => hno (.inr ⟨g, hu, hg⟩)
    let N : Term → Prop := fun t => t = stT m ∨ (∃ u, u ∉ U ∧ t = secretT u) ∨ ∃ g, g ∉ G ∧ t = kT g
    have hk1 : ∀ k u n s ks, N (.mk k u n s ks) → k = 2 ∨ k = 3 := fun k u n s ks h => by
      rcases h with h | ⟨u', -, h⟩ | ⟨g, -, h⟩
      · simp only [stT, Term.mk.injEq] at h; exact .inl h.1
      · simp only [secretT, Term.mk.injEq] at h; exact .inr h.1
      · simp only [kT, Term.mk.injEq] at h; exact .inl h.1
    have hno' : ∀ k u n s ks, k ≠ 2 → k ≠ 3 → ¬ N (.mk k u n s ks) := fun k u n s ks h2 h3 h => (hk1 _ _ _ _ _ h).elim h2 h3
    have hshut : Shut N := fun k u n s ks h => by
      rcases hk1 _ _ _ _ _ h with h | h
      · exact ⟨by omega, .inl h⟩
      · exact ⟨by omega, .inr (.inl h)⟩
    refine not_der_of hshut (K := K) (t := stT m) (fun t ht => ?_) (.inl rfl) hd
    rw [hK, knownT] at ht
    rcases List.mem_cons.1 ht with rfl | ht
    · refine hid_list (fun s => hno' _ _ _ _ _ (by omega) (by omega)) (fun a b => hno' _ _ _ _ _ (by omega) (by omega)) fun t ht => ?_
      rcases List.mem_append.1 ht with ht | ht
      · obtain ⟨n, hn, rfl⟩ := List.mem_map.1 ht
        refine hid_pair (hno' _ _ _ _ _ (by omega) (by omega)) (hid_text (hno' _ _ _ _ _ (by omega) (by omega))) ?_
        exact .mk (hno' _ _ _ _ _ (by omega) (by omega)) (fun h => by omega) (fun h => by omega) (fun _ h => absurd (.inr (.inl ⟨n, hU n hn, rfl⟩)) h)
      · obtain ⟨g, hg, rfl⟩ := List.mem_map.1 ht
        refine hid_pair (hno' _ _ _ _ _ (by omega) (by omega)) (hid_text (hno' _ _ _ _ _ (by omega) (by omega))) ?_
        refine .mk (hno' _ _ _ _ _ (by omega) (by omega)) (fun h => by omega) (fun _ key rest he h => ?_) (fun h => by omega)
        simp only [List.cons.injEq] at he
        refine absurd (.inr (.inr ⟨g, hG g hg, ?_⟩)) h
        rw [← he.1, hkt g hg]
    · rcases List.mem_append.1 ht with ht | ht
      · obtain ⟨n, hn, rfl⟩ := List.mem_map.1 ht
        refine .mk (fun h => ?_) (fun h => by omega) (fun h => by omega) (fun h => by omega)
        rcases h with h | ⟨u, hu, h⟩ | ⟨g, -, h⟩
        · simp [stT] at h
        · simp only [secretT, Term.mk.injEq] at h; exact hu (h.2.1 ▸ hn)
        · simp [kT] at h
      · obtain ⟨g, hg, rfl⟩ := List.mem_map.1 ht
        refine .mk (fun h => ?_) (fun h => by omega) (fun h => by omega) (fun h => by omega)
        rcases h with h | ⟨u, hu, h⟩ | ⟨g', hg', h⟩
        · simp [stT] at h
        · simp [secretT] at h
        · simp only [kT, Term.mk.injEq] at h
          have : g = g' := by omega
          exact hg' (this ▸ hg)
  · have hT : Der K (listT (boxesT us gs (stT m) kt)) := .known (by rw [hK, knownT]; simp)
    rintro (⟨n, hnU, hn⟩ | ⟨g, hgG, hg⟩)
    · have h1 := listT_part hT (uBox (stT m) n) (List.mem_append_left _ (List.mem_map.2 ⟨n, hn, rfl⟩))
      have h2 : Der K (sealT n (stT m)) := .part (.inl rfl) h1 (by simp)
      exact .open7 h2 (.known (by rw [hK, knownT]; exact List.mem_cons_of_mem _ (List.mem_append_left _ (List.mem_map.2 ⟨n, hnU, rfl⟩)))) (by simp)
    · have h1 := listT_part hT (gBox (stT m) kt g) (List.mem_append_right _ (List.mem_map.2 ⟨g, hg, rfl⟩))
      have h2 : Der K (lockT (kt g) (stT m)) := .part (.inl rfl) h1 (by simp)
      refine .unlock h2 (.known ?_) (by simp)
      rw [hkt g hg, hK, knownT]
      exact List.mem_cons_of_mem _ (List.mem_append_right _ (List.mem_map.2 ⟨g, hgG, rfl⟩))
/-- the numbers that a row of bools ticks, from 1 on. -/
def ticks (bs : List Bool) (k : Nat) : List Int := ((List.range k).filter fun i => bs.getD i false).map fun i : Nat => (i : Int) + 1
theorem ticks_succ (bs : List Bool) (k : Nat) : ticks bs (k + 1) = ticks bs k ++ (if bs.getD k false = true then [(k : Int) + 1] else []) := by
  rw [ticks, List.range_succ, List.filter_append, List.map_append, ticks]
  congr 1
  have e : [k].filter (fun i => bs.getD i false) = if bs.getD k false = true then [k] else [] := by rw [List.filter]; cases bs.getD k false <;> rfl
  rw [e]
  cases bs.getD k false <;> simp
theorem ticks_mem {bs : List Bool} {k : Nat} {n : Int} (h : n ∈ ticks bs k) : 1 ≤ n ∧ n ≤ k := by
  obtain ⟨i, hi, rfl⟩ := List.mem_map.1 h
  have := List.mem_range.1 (List.mem_filter.1 hi).1
  omega
theorem ticks_len (bs : List Bool) (k : Nat) : (ticks bs k).length ≤ k := by
  rw [ticks, List.length_map]
  exact Nat.le_trans (List.length_filter_le _ _) (by simp)
theorem cap_may {p : LPerm} {us : List Int} {ub gb : List Bool} {m : Int} {kt : Int → Term} (hP : permB p = true) (hper : us.Perm (p.owner :: p.rd.xs)) (hkt : ∀ g, 1 ≤ g ∧ g ≤ 3 → kt g = kT g) :
    derB (knownT (listT (boxesT us p.gr.xs (stT m) kt)) (ticks ub 6) (ticks gb 3)) (stT m) = ((ticks ub 6).any (fun n => mayB p n []) || (ticks gb 3).any fun g => decide (g ∈ p.gr.xs)) := by
  have hO := permOk hP
  rw [cap_der fun g hg => hkt g (hO.grU g hg), Bool.eq_iff_iff, decide_eq_true_iff, Bool.or_eq_true, List.any_eq_true, List.any_eq_true]
  refine or_congr ?_ ?_
  · refine exists_congr fun n => and_congr_right fun _ => ?_
    rw [mayB, hP, hper.mem_iff, List.mem_cons]
    simp [groupsOf]
  · refine exists_congr fun g => and_congr_right fun _ => ?_
    simp
end Go.Proofs.Ytgielmldblopeaa
