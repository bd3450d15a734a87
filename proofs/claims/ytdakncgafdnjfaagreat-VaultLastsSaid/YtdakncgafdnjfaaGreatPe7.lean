/- 7: a part of this claim's texts, joined: PlainWalB PlainWalC PlainWalD WalLawE WalLawF WalLawG WalLawH WalLawI WalLawJ WalLawK WalLawL WalLawM WalLawN WalLawP WalV PlainFail PlainVaultB PlainVaultC VaultG VaultH VaultI W11 W12 W13 TermI PlainDecB PlainDecC PlainVaultD. -/
import Derived.Test.YtdakncgafdnjfaaGreatPe6
import Derived.SizedLaws
import Derived.OpenShut
namespace Go.Proofs.YtdakncgafdnjfaaGreat
open Go Go.Wk
set_option maxRecDepth 100000
def fieldOf (s : DS) (fr n : Nat) : List Blk := (List.range n).map fun i => holdsF s ((fr + i : Nat) : Int)
theorem fieldOf_len (s : DS) (fr n : Nat) : (fieldOf s fr n).length = n := by simp [fieldOf]
theorem fieldOf_get (s : DS) (fr n i : Nat) (h : i < n) : (fieldOf s fr n)[i]? = some (holdsF s ((fr + i : Nat) : Int)) := by
  rw [fieldOf, List.getElem?_map, List.getElem?_range h]; rfl
theorem fieldOf_eq {s s' : DS} {fr n : Nat} (h : ∀ i, i < n → holdsF s' ((fr + i : Nat) : Int) = holdsF s ((fr + i : Nat) : Int)) : fieldOf s' fr n = fieldOf s fr n :=
  List.map_congr_left fun i hi => h i (List.mem_range.1 hi)
def Below (s : DS) (t : Int) (i : Nat) (y : Blk) : Prop := (mayF s (tellN y) && decide (tellT y % 2 = (i : Int)) && decide (y.l = (titleF (tellT y) (tellN y)).l)) = true → tellT y < t
structure LogOn (s : DS) (n : Nat) (t : Int) (said : List (List UInt8)) (tail : List Blk) : Prop where
  up : Up s
  loose : s.loose = []
  hn : 4 ≤ n ∧ n ≤ 1000
  size : ((2 * n + 2 : Nat) : Int) ≤ s.size
  ht : 0 ≤ t ∧ t ≤ 4294967295
  title : holdsF s ((t % 2).toNat : Int) = titleF t n
  other : Below s t (1 - (t % 2).toNat) (holdsF s ((1 - (t % 2).toNat : Nat) : Int))
  some_ : said ≠ []
  short : ∀ b ∈ said, b.length ≤ 40000
  cur : fieldOf s (fromN n t) n = laidF t said 0 ++ tail
  oth : ∀ i, i < n → Fresh (t + 1) (holdsF s ((fromN n (t + 1) + i : Nat) : Int))
def Live (s : DS) (n : Nat) (t : Int) (said : List (List UInt8)) : Prop := ∃ tail, LogOn s n t said tail ∧ ∀ x ∈ tail, Fresh t x
def Able (s : DS) (n : Nat) (t : Int) (said : List (List UInt8)) : Prop := ∃ tail, LogOn s n t said tail ∧ NoEntry t (said.length : Nat) tail ∧ ∀ x ∈ tail, Fresh (t + 1) x
def Clean (s : DS) (n : Nat) (t : Int) (said : List (List UInt8)) : Prop := ∃ k, LogOn s n t said (List.replicate k zB)
def endF (t : Int) (said : List (List UInt8)) : Nat := (laidF t said 0).length
theorem LogOn.len {s : DS} {n : Nat} {t : Int} {said : List (List UInt8)} {tail : List Blk} (h : LogOn s n t said tail) : endF t said + tail.length = n := by
  have := congrArg List.length h.cur
  rw [fieldOf_len, List.length_append] at this
  exact this.symm
theorem laid_len (t : Int) : ∀ (said : List (List UInt8)) (j : Nat), said.length ≤ (laidF t said j).length
  | [], _ => Nat.le_refl _
  | b :: l, j => by
    have := laid_len t l (j + 1)
    have := secN_pos b.length
    rw [laidF, List.length_append, leavesF_len, List.length_cons]; omega
theorem LogOn.few {s : DS} {n : Nat} {t : Int} {said : List (List UInt8)} {tail : List Blk} (h : LogOn s n t said tail) : said.length ≤ n ∧ 0 < said.length :=
  ⟨by have := laid_len t said 0; have := h.len; unfold endF at this; omega, List.length_pos_iff.2 h.some_⟩
theorem Clean.live {s : DS} {n : Nat} {t : Int} {said : List (List UInt8)} (h : Clean s n t said) : Live s n t said := by
  obtain ⟨k, h⟩ := h
  exact ⟨_, h, fun x hx => by rw [(List.mem_replicate.1 hx).2]; exact fresh_zero t⟩
theorem Live.able {s : DS} {n : Nat} {t : Int} {said : List (List UInt8)} (h : Live s n t said) : Able s n t said := by
  obtain ⟨tail, h, hf⟩ := h
  have h1 := h.few
  have h2 := h.hn
  exact ⟨tail, h, noEntry_fresh h.ht.2 (by omega) hf, fun x hx => (hf x hx).mono (by omega)⟩
theorem from_bound {n : Nat} (t : Int) (hn : n ≤ 1000) : 2 ≤ fromN n t ∧ fromN n t ≤ 2 + n := by
  unfold fromN
  rcases (show (t % 2).toNat = 0 ∨ (t % 2).toNat = 1 by omega) with h | h <;> rw [h] <;> omega
theorem from_apart {n : Nat} (t : Int) {i j : Nat} (hi : i < n) (hj : j < n) : fromN n t + i ≠ fromN n (t + 1) + j := by
  unfold fromN
  rcases (show t % 2 = 0 ∨ t % 2 = 1 by omega) with h | h
  · rw [show (t + 1) % 2 = 1 from by omega, h]; simp; omega
  · rw [show (t + 1) % 2 = 0 from by omega, h]; simp; omega
theorem from_two {n : Nat} (t : Int) : fromN n (t + 1 + 1) = fromN n t := by
  unfold fromN
  rw [show (t + 1 + 1) % 2 = t % 2 from by omega]
theorem LogOn.same {s s' : DS} {n : Nat} {t : Int} {said : List (List UInt8)} {tail : List Blk} (h : LogOn s n t said tail) (hu : Up s') (hl : s'.loose = []) (hz : s'.size = s.size) (hh : ∀ j, holdsF s' j = holdsF s j) : LogOn s' n t said tail where
  up := hu
  loose := hl
  hn := h.hn
  size := by rw [hz]; exact h.size
  ht := h.ht
  title := by rw [hh]; exact h.title
  other := by
    have := h.other
    unfold Below mayF at this ⊢
    rw [hz, hh]; exact this
  some_ := h.some_
  short := h.short
  cur := by rw [fieldOf_eq fun i _ => hh _]; exact h.cur
  oth := fun i hi => by rw [hh]; exact h.oth i hi
theorem over_in {xs : List Blk} {k i : Nat} (hi : i < xs.length) (u : Blk) : (findB ((k + i : Nat) : Int) (wrs k xs)).getD u = (xs[i]?).getD u := by
  rw [wrs_find, if_pos (by omega)]
  congr 2; omega
theorem over_out {xs : List Blk} {k : Nat} {j : Int} (h : j < (k : Int) ∨ ((k + xs.length : Nat) : Int) ≤ j) (u : Blk) : (findB j (wrs k xs)).getD u = u := by
  rw [wrs_find, if_neg (by omega)]; rfl
theorem field_over {s s' : DS} {fr n k : Nat} {xs : List Blk} (hk : k + xs.length ≤ n) (h : ∀ j, holdsF s' j = (findB j (wrs (fr + k) xs)).getD (holdsF s j)) : fieldOf s' fr n = (fieldOf s fr n).take k ++ xs ++ (fieldOf s fr n).drop (k + xs.length) := by
  have hl : ((fieldOf s fr n).take k).length = k := by rw [List.length_take, fieldOf_len]; omega
  apply List.ext_getElem?
  intro i
  by_cases hi : i < n
  · rw [fieldOf_get s' fr n i hi, h]
    by_cases h1 : i < k
    · rw [over_out (.inl (by omega)), List.append_assoc, List.getElem?_append_left (by omega), List.getElem?_take, if_pos h1, fieldOf_get s fr n i hi]
    · by_cases h2 : i < k + xs.length
      · rw [show (fr + i : Nat) = fr + k + (i - k) from by omega, over_in (by omega), List.append_assoc, List.getElem?_append_right (by omega), hl, List.getElem?_append_left (by omega), List.getElem?_eq_getElem (by omega)]; rfl
      · rw [over_out (.inr (by omega)), List.getElem?_append_right (by rw [List.length_append, hl]; omega), List.length_append, hl, List.getElem?_drop, show k + xs.length + (i - (k + xs.length)) = i from by omega, fieldOf_get s fr n i hi]
  · rw [List.getElem?_eq_none (by rw [fieldOf_len]; omega), List.getElem?_eq_none (by rw [List.length_append, List.length_append, hl, List.length_drop, fieldOf_len]; omega)]
def Mix (tail xs tail' : List Blk) : Prop := tail'.length = tail.length ∧ ∀ (i : Nat) (x : Blk), tail'[i]? = some x → tail[i]? = some x ∨ xs[i]? = some x
theorem mix_entry {t j : Int} {bs : List UInt8} {tail tail' : List Blk} (ht : t ≤ 4294967295) (hj : 1 ≤ j ∧ j ≤ 4294967295) (hb : bs.length ≤ 40000) (hf : ∀ x ∈ tail, Fresh t x) (hm : Mix tail (leavesF t j bs) tail') (hn : (leavesF t j bs).length ≤ tail.length) :
    (∃ rest, tail' = leavesF t j bs ++ rest ∧ ∀ x ∈ rest, Fresh t x) ∨ NoEntry t j tail' := by
  by_cases hp : leavesF t j bs <+: tail'
  · obtain ⟨rest, hr⟩ := hp
    refine .inl ⟨rest, hr.symm, fun x hx => ?_⟩
    obtain ⟨i, hi⟩ := List.getElem?_of_mem hx
    have h1 : tail'[(leavesF t j bs).length + i]? = some x := by rw [← hr, List.getElem?_append_right (by omega), show (leavesF t j bs).length + i - (leavesF t j bs).length = i from by omega]; exact hi
    rcases hm.2 _ _ h1 with h2 | h2
    · exact hf x (List.mem_of_getElem? h2)
    · rw [List.getElem?_eq_none (by omega)] at h2; cases h2
  · refine .inr fun bs' hb' ⟨rest, hr⟩ => hp ?_
    have key : ∀ i, i < secN bs'.length → (leavesF t j bs)[i]? = some (leafF t j bs' i) := fun i hi => by
      have h1 : tail'[i]? = some (leafF t j bs' i) := by rw [← hr, List.getElem?_append_left (by rw [leavesF_len]; exact hi)]; exact leaves_get t j bs' i hi
      rcases hm.2 _ _ h1 with h2 | h2
      · exact absurd rfl (hf _ (List.mem_of_getElem? h2) t j bs' i (Int.le_refl _) ht hj.1 hj.2)
      · exact h2
    have h0 := key 0 (secN_pos _)
    rw [leaves_get t j bs 0 (secN_pos _)] at h0
    have hlen : (bs.length : Int) = (bs'.length : Int) := wbe2_inj (by omega) (by omega) (leaf_parts (Option.some.inj h0)).2.2.1
    have hll : bs.length = bs'.length := by omega
    have he : leavesF t j bs = leavesF t j bs' := by
      apply List.ext_getElem?
      intro i
      by_cases hi : i < secN bs'.length
      · rw [key i hi, leaves_get t j bs' i hi]
      · rw [List.getElem?_eq_none (by rw [leavesF_len, hll]; omega), List.getElem?_eq_none (by rw [leavesF_len]; omega)]
    rw [he]; exact ⟨rest, hr⟩
theorem zero_entry {t j : Int} {tail tail' : List Blk} (ht : t ≤ 4294967295) (hj : 1 ≤ j ∧ j ≤ 4294967295) (hn : NoEntry t j tail) (hm : ∀ (i : Nat) (x : Blk), tail'[i]? = some x → tail[i]? = some x ∨ x = zB) : NoEntry t j tail' := by
  refine fun bs hb ⟨rest, hr⟩ => hn bs hb ?_
  have key : ∀ i, i < secN bs.length → tail[i]? = some (leafF t j bs i) := fun i hi => by
    have h1 : tail'[i]? = some (leafF t j bs i) := by rw [← hr, List.getElem?_append_left (by rw [leavesF_len]; exact hi)]; exact leaves_get t j bs i hi
    rcases hm _ _ h1 with h2 | h2
    · exact h2
    · exact absurd h2.symm (fresh_zero t t j bs i (Int.le_refl _) ht hj.1 hj.2)
  refine ⟨tail.drop (secN bs.length), ?_⟩
  have e : leavesF t j bs = tail.take (secN bs.length) := by
    apply List.ext_getElem?
    intro i
    rw [List.getElem?_take]
    by_cases hi : i < secN bs.length
    · rw [if_pos hi, key i hi, leaves_get t j bs i hi]
    · rw [if_neg hi, List.getElem?_eq_none (by rw [leavesF_len]; omega)]
  rw [e, List.take_append_drop]
theorem title_tells (t : Int) (n : Nat) (ht : 0 ≤ t ∧ t ≤ 4294967295) (hn : n ≤ 1000) : tellN (titleF t n) = n ∧ tellT (titleF t n) = t := by
  have h1 : (titleF t n).l.drop 4 = be 4 n ++ (be 4 t ++ (safeS ++ List.replicate 43 0)) := by
    rw [titleF, seal_drop (titleB_len _ _), titleB]; simp only [List.append_assoc]
  refine ⟨by rw [tellN, h1, u32B_be _ (by omega)], ?_⟩
  rw [tellT, h1, List.drop_left' (be_len _ _), u32B_be _ ht]
theorem title_cand {s : DS} {t : Int} {n : Nat} (ht : 0 ≤ t ∧ t ≤ 4294967295) (hn : 4 ≤ n ∧ n ≤ 1000) (hs : ((2 * n + 2 : Nat) : Int) ≤ s.size) {B : Bst} (hB : B.has = true → B.t < t) : candF s (t % 2).toNat (titleF t n) B = true := by
  obtain ⟨h1, h2⟩ := title_tells t n ht hn.2
  rw [candF, h1, h2, mayF]
  have h3 : (B.has = true → B.t < t) := hB
  cases hb : B.has with
  | false => simp; omega
  | true => have := h3 hb; simp [this]; omega
theorem cntR_up (s : DS) (hu : Up s) (h2 : 1 < s.size) : cntF s = (if (cntStep s 1 (holdsF s 1) (cntStep s 0 (holdsF s 0) ⟨false, 0, 0⟩)).has then (opD (opD s), 0, cntStep s 1 (holdsF s 1) (cntStep s 0 (holdsF s 0) ⟨false, 0, 0⟩)) else (opD (opD s), 140, ⟨false, 0, 0⟩)) := by
  have hu1 : Up (opD s) := ⟨hu.on, hu.fit⟩
  obtain ⟨a1, a2, a3⟩ := rd_up hu (k := ((0 : Nat) : Int)) (by omega)
  obtain ⟨b1, b2, b3⟩ := rd_up hu1 (k := ((1 : Nat) : Int)) (by show (0 : Int) ≤ 1 ∧ (1 : Int) < s.size; omega)
  rw [cntF, cntR, if_pos a1, a2, a3, cntR, if_pos b1, b2, b3, cntR]
  rfl
theorem cnt_able {s : DS} {n : Nat} {t : Int} {said : List (List UInt8)} {tail : List Blk} (h : LogOn s n t said tail) : cntF s = (opD (opD s), 0, ⟨true, n, t⟩) := by
  have hn := h.hn
  have hs := h.size
  obtain ⟨h1, h2⟩ := title_tells t n h.ht hn.2
  rw [cntR_up s h.up (by omega)]
  have hti := h.title
  have hot := h.other
  rcases (show (t % 2).toNat = 0 ∨ (t % 2).toNat = 1 by omega) with h0 | h0
  · rw [h0] at hti hot
    have e0 : cntStep s 0 (holdsF s 0) ⟨false, 0, 0⟩ = ⟨true, n, t⟩ := by
      have := title_cand (s := s) h.ht hn hs (B := ⟨false, 0, 0⟩) (fun h => by cases h)
      rw [h0] at this
      rw [cntStep, show holdsF s 0 = titleF t n from hti, if_pos this, h1, h2]
    have e1 : cntStep s 1 (holdsF s 1) ⟨true, n, t⟩ = ⟨true, n, t⟩ := by
      rw [cntStep, if_neg]
      intro hc
      rw [candF, Bool.and_eq_true] at hc
      have h3 := hot hc.1
      have h4 : t < tellT (holdsF s 1) := by simpa using hc.2
      have h5 : tellT (holdsF s ((1 - 0 : Nat) : Int)) = tellT (holdsF s 1) := rfl
      omega
    rw [e0, e1]; rfl
  · rw [h0] at hti hot
    obtain ⟨B, hB⟩ : ∃ B, B = cntStep s 0 (holdsF s 0) ⟨false, 0, 0⟩ := ⟨_, rfl⟩
    rw [← hB]
    have hBt : B.has = true → B.t < t := by
      rw [hB, cntStep]
      split
      · rename_i hc
        intro _
        rw [candF, Bool.and_eq_true] at hc
        exact hot hc.1
      · intro h; cases h
    have e1 : cntStep s 1 (holdsF s 1) B = ⟨true, n, t⟩ := by
      have := title_cand (s := s) h.ht hn hs (B := B) hBt
      rw [h0] at this
      rw [cntStep, show holdsF s 1 = titleF t n from hti, if_pos this, h1, h2]
    rw [e1]; rfl
theorem field_up (fr : Nat) : ∀ (k i : Nat) (s : DS), Up s → ((fr + i + k : Nat) : Int) ≤ s.size → (fieldW fr k i s).2.1 = 0 ∧ (fieldW fr k i s).2.2 = (List.range k).map (fun a => holdsF s ((fr + (i + a) : Nat) : Int)) ∧ Up (fieldW fr k i s).1 ∧ (fieldW fr k i s).1.loose = s.loose ∧ (fieldW fr k i s).1.size = s.size ∧ (fieldW fr k i s).1.arms = s.arms ∧ ∀ j, holdsF (fieldW fr k i s).1 j = holdsF s j
  | 0, i, s, hu, _ => ⟨rfl, rfl, hu, rfl, rfl, rfl, fun _ => rfl⟩
  | k + 1, i, s, hu, hs => by
    obtain ⟨a1, a2, a3⟩ := rd_up hu (k := ((fr + i : Nat) : Int)) (by omega)
    obtain ⟨b1, b2, b3, b4, b5, b6, b7⟩ := field_up fr k (i + 1) (opD s) ⟨hu.on, hu.fit⟩ (by show ((fr + (i + 1) + k : Nat) : Int) ≤ s.size; omega)
    rw [fieldW, if_pos a1, a2, a3]
    refine ⟨b1, ?_, b3, b4, b5, b6, b7⟩
    show holdsF s _ :: _ = _
    rw [b2, List.range_succ_eq_map, List.map_cons, List.map_map]
    congr 1
    apply List.map_congr_left
    intro a _
    show holdsF s _ = holdsF s _
    congr 2; omega
end Go.Proofs.YtdakncgafdnjfaaGreat
namespace Go.Proofs.YtdakncgafdnjfaaGreat
open Go Go.Wk
set_option maxRecDepth 100000
theorem over_ne {xs : List Blk} {k : Nat} {j : Int} (h : ∀ i, i < xs.length → j ≠ ((k + i : Nat) : Int)) (u : Blk) : (findB j (wrs k xs)).getD u = u := by
  refine over_out ?_ u
  by_cases h1 : j < (k : Int)
  · exact .inl h1
  · refine .inr ?_
    by_cases h2 : ((k + xs.length : Nat) : Int) ≤ j
    · exact h2
    · exact absurd (show j = ((k + (j - k).toNat : Nat) : Int) by omega) (h _ (by omega))
theorem LogOn.inner {s s' : DS} {n : Nat} {t : Int} {said : List (List UInt8)} {tail : List Blk} (h : LogOn s n t said tail) (hu : Up s') (hl : s'.loose = []) (hz : s'.size = s.size)
    (hh : ∀ j : Int, (∀ i, i < n → endF t said ≤ i → j ≠ ((fromN n t + i : Nat) : Int)) → holdsF s' j = holdsF s j) : LogOn s' n t said ((fieldOf s' (fromN n t) n).drop (endF t said)) := by
  have hb := from_bound t h.hn.2
  have hm := Int.emod_lt_of_pos t (show (0 : Int) < 2 by decide)
  have hm0 := Int.emod_nonneg t (show (2 : Int) ≠ 0 by decide)
  have hlen := h.len
  refine ⟨hu, hl, h.hn, by rw [hz]; exact h.size, h.ht, ?_, ?_, h.some_, h.short, ?_, ?_⟩
  · rw [hh _ (fun i _ _ => by omega)]; exact h.title
  · have := h.other
    unfold Below mayF at this ⊢
    rw [hz, hh _ (fun i _ _ => by omega)]; exact this
  · have e : (fieldOf s' (fromN n t) n).take (endF t said) = laidF t said 0 := by
      have h2 : (fieldOf s (fromN n t) n).take (endF t said) = laidF t said 0 := by rw [h.cur]; exact List.take_left' rfl
      rw [← h2]
      apply List.ext_getElem?
      intro i
      rw [List.getElem?_take, List.getElem?_take]
      by_cases hi : i < endF t said
      · rw [if_pos hi, if_pos hi, fieldOf_get _ _ _ _ (by omega), fieldOf_get _ _ _ _ (by omega), hh _ (fun a _ ha => by omega)]
      · rw [if_neg hi, if_neg hi]
    rw [← e, List.take_append_drop]
  · intro i hi
    rw [hh _ (fun a ha _ => by have := from_apart t ha hi; omega)]; exact h.oth i hi
theorem LogOn.snoc {s : DS} {n : Nat} {t : Int} {said : List (List UInt8)} {rest : List Blk} {bs : List UInt8} (h : LogOn s n t said (leavesF t (said.length : Nat) bs ++ rest)) (hb : bs.length ≤ 40000) : LogOn s n t (said ++ [bs]) rest where
  up := h.up
  loose := h.loose
  hn := h.hn
  size := h.size
  ht := h.ht
  title := h.title
  other := h.other
  some_ := by simp
  short := fun b hm => by
    rcases List.mem_append.1 hm with hm | hm
    · exact h.short b hm
    · obtain rfl := List.mem_singleton.1 hm; exact hb
  cur := by rw [laidF_snoc, List.append_assoc, Nat.zero_add]; exact h.cur
  oth := h.oth
theorem append_live {s : DS} {n : Nat} {t : Int} {said : List (List UInt8)} (h : Live s n t said) (bs : List UInt8) (hb : bs.length ≤ 40000) (hr : endF t said + secN bs.length ≤ n) :
    ((layF s ((fromN n t + endF t said : Nat) : Int) (leavesF t (said.length : Nat) bs)).2 = 0 ∧ Live (layF s ((fromN n t + endF t said : Nat) : Int) (leavesF t (said.length : Nat) bs)).1 n t (said ++ [bs]) ∧ (s.arms.on = false → (layF s ((fromN n t + endF t said : Nat) : Int) (leavesF t (said.length : Nat) bs)).1.arms.on = false)) ∨
    (s.arms.on = true ∧ (layF s ((fromN n t + endF t said : Nat) : Int) (leavesF t (said.length : Nat) bs)).2 = 9 ∧ (layF s ((fromN n t + endF t said : Nat) : Int) (leavesF t (said.length : Nat) bs)).1.out = true ∧ ∀ keep, Able (crashD keep (layF s ((fromN n t + endF t said : Nat) : Int) (leavesF t (said.length : Nat) bs)).1) n t said ∨ Able (crashD keep (layF s ((fromN n t + endF t said : Nat) : Int) (leavesF t (said.length : Nat) bs)).1) n t (said ++ [bs])) := by
  obtain ⟨tail, hL, hf⟩ := h
  have hfb := from_bound t hL.hn.2
  have hlen := hL.len
  have hsz := hL.size
  have hn := hL.hn
  have hfew := hL.few
  obtain ⟨xs, hxs⟩ : ∃ xs, xs = leavesF t (said.length : Nat) bs := ⟨_, rfl⟩
  have hxl : xs.length = secN bs.length := by rw [hxs, leavesF_len]
  rw [← hxs]
  have htl : ∀ i, i < tail.length → tail[i]? = some (holdsF s ((fromN n t + endF t said + i : Nat) : Int)) := fun i hi => by
    have h1 := fieldOf_get s (fromN n t) n (endF t said + i) (by omega)
    rw [hL.cur, List.getElem?_append_right (by unfold endF; omega), show endF t said + i - (laidF t said 0).length = i from by unfold endF; omega] at h1
    rw [h1]; congr 3; omega
  rcases lay_f xs s (fromN n t + endF t said) hL.up hL.loose (by omega) (by omega) with ⟨c1, c2, c3, c4, c5, c6⟩ | ⟨c0, c1, c2, c3, i, c4⟩
  · refine .inl ⟨c1, ?_, c5⟩
    have h1 := hL.inner c2 c3 c4 (fun j hj => by rw [c6, over_ne (fun i hi => by have := hj (endF t said + i) (by omega) (by omega); omega)])
    have h2 := field_over (n := n) (xs := xs) (k := endF t said) (by omega) c6
    have hk : ((fieldOf s (fromN n t) n).take (endF t said)).length = endF t said := by rw [List.length_take, fieldOf_len]; omega
    rw [h2, List.append_assoc, List.drop_left' hk, hL.cur] at h1
    subst hxs
    refine ⟨_, h1.snoc hb, fun x hx => hf x ?_⟩
    rw [List.drop_append, List.drop_of_length_le (by unfold endF; omega), List.nil_append] at hx
    exact List.mem_of_mem_drop hx
  · refine .inr ⟨c0, c1, c2, fun keep => ?_⟩
    obtain ⟨d1, d2, d3, d4, _⟩ := crash_any keep (layF s ((fromN n t + endF t said : Nat) : Int) xs).1
    have hcl := fun j => crash_lay keep hL.loose c3 c4 j
    have h1 := hL.inner d1 d2 (d3.trans c3.size) (fun j hj => by
      rcases hcl j with e | ⟨m, e1, e2⟩
      · exact e
      · have hm := (List.getElem?_eq_some_iff.1 e2).1
        exact absurd (e1.trans (by congr 1; omega)) (hj (endF t said + m) (by omega) (by omega)))
    obtain ⟨tail', ht'⟩ : ∃ tail', tail' = (fieldOf (crashD keep (layF s ((fromN n t + endF t said : Nat) : Int) xs).1) (fromN n t) n).drop (endF t said) := ⟨_, rfl⟩
    rw [← ht'] at h1
    have hlen' := h1.len
    have hmix : Mix tail xs tail' := by
      refine ⟨by omega, fun a x hx => ?_⟩
      have ha : a < tail'.length := (List.getElem?_eq_some_iff.1 hx).1
      rw [ht', List.getElem?_drop, fieldOf_get _ _ _ _ (by omega)] at hx
      obtain rfl := Option.some.inj hx
      rcases hcl ((fromN n t + (endF t said + a) : Nat) : Int) with e | ⟨m, e1, e2⟩
      · rw [e, htl a (by omega)]; left; congr 3; omega
      · right; rw [← e2]; congr 1; omega
    rw [hxs] at hmix
    rcases mix_entry hL.ht.2 (by omega) hb hf hmix (by rw [← hxs]; omega) with ⟨rest, e, hr'⟩ | hne
    · rw [e] at h1
      exact .inr (Live.able ⟨rest, h1.snoc hb, hr'⟩)
    · refine .inl ⟨tail', h1, hne, fun x hx => ?_⟩
      obtain ⟨a, ha⟩ := List.getElem?_of_mem hx
      rcases hmix.2 a x ha with h2 | h2
      · exact (hf x (List.mem_of_getElem? h2)).mono (by omega)
      · have hm : a < secN bs.length := by have := (List.getElem?_eq_some_iff.1 h2).1; rw [leavesF_len] at this; exact this
        rw [leaves_get t _ bs a hm] at h2
        rw [← Option.some.inj h2]
        exact fresh_old _ t _ bs a hL.ht (by omega)
theorem LogOn.outer {s s' : DS} {n : Nat} {t : Int} {said : List (List UInt8)} {tail : List Blk} (h : LogOn s n t said tail) (hu : Up s') (hl : s'.loose = []) (hz : s'.size = s.size)
    (hh : ∀ j : Int, (∀ i, i < n → j ≠ ((fromN n (t + 1) + i : Nat) : Int)) → holdsF s' j = holdsF s j) (ho : ∀ i, i < n → Fresh (t + 1) (holdsF s' ((fromN n (t + 1) + i : Nat) : Int))) : LogOn s' n t said tail := by
  have hb := from_bound (t + 1) h.hn.2
  have hm := Int.emod_lt_of_pos t (show (0 : Int) < 2 by decide)
  have hm0 := Int.emod_nonneg t (show (2 : Int) ≠ 0 by decide)
  refine ⟨hu, hl, h.hn, by rw [hz]; exact h.size, h.ht, ?_, ?_, h.some_, h.short, ?_, ho⟩
  · rw [hh _ (fun i _ => by omega)]; exact h.title
  · have := h.other
    unfold Below mayF at this ⊢
    rw [hz, hh _ (fun i _ => by omega)]; exact this
  · rw [fieldOf_eq fun i hi => hh _ (fun a ha => by have := from_apart t hi ha; omega)]; exact h.cur
theorem laid_mem {t : Int} {x : Blk} : ∀ {said : List (List UInt8)} {j : Nat}, x ∈ laidF t said j → ∃ j' b k, x = leafF t j' b k
  | [], _, h => by cases h
  | b :: l, j, h => by
    rw [laidF] at h
    rcases List.mem_append.1 h with h | h
    · rw [leavesF] at h
      obtain ⟨k, _, hk⟩ := List.mem_map.1 h
      exact ⟨_, b, k, hk.symm⟩
    · exact laid_mem h
theorem LogOn.turned {s s' : DS} {n : Nat} {t : Int} {said : List (List UInt8)} {tail rest : List Blk} {bs : List UInt8} (h : LogOn s n t said tail) (hf : ∀ x ∈ tail, Fresh (t + 2) x) (hb : bs.length ≤ 40000) (ht : t + 1 ≤ 4294967295)
    (hcur : fieldOf s (fromN n (t + 1)) n = leavesF (t + 1) 0 bs ++ rest) (hu : Up s') (hl : s'.loose = []) (hz : s'.size = s.size) (hti : holdsF s' (((t + 1) % 2).toNat : Int) = titleF (t + 1) n) (hh : ∀ j : Int, j ≠ (((t + 1) % 2).toNat : Int) → holdsF s' j = holdsF s j) : LogOn s' n (t + 1) [bs] rest := by
  have hfb := from_bound (t + 1) h.hn.2
  have hfa := from_bound t h.hn.2
  have h0 := h.ht
  have hm : ((t + 1) % 2).toNat = 1 - (t % 2).toNat ∧ 1 - ((t + 1) % 2).toNat = (t % 2).toNat := by omega
  refine ⟨hu, hl, h.hn, by rw [hz]; exact h.size, by omega, hti, ?_, by simp, fun b hm => by obtain rfl := List.mem_singleton.1 hm; exact hb, ?_, fun i hi => ?_⟩
  · rw [hm.2, hh _ (by omega), h.title]
    intro _
    rw [(title_tells t n h.ht h.hn.2).2]; omega
  · rw [fieldOf_eq fun i hi => hh _ (by omega), hcur, laidF, laidF, List.append_nil]; rfl
  · rw [from_two, hh _ (by omega)]
    have hmem : holdsF s ((fromN n t + i : Nat) : Int) ∈ laidF t said 0 ++ tail := by rw [← h.cur]; exact List.mem_of_getElem? (fieldOf_get s (fromN n t) n i hi)
    rw [show t + 1 + 1 = t + 2 from by omega]
    rcases List.mem_append.1 hmem with hm | hm
    · obtain ⟨j', b, k, e⟩ := laid_mem hm
      rw [e]; exact fresh_old _ t _ b k h.ht (by omega)
    · exact hf _ hm
theorem chk_live {s : DS} {n : Nat} {t : Int} {said : List (List UInt8)} (h : Live s n t said) (bs : List UInt8) (hb : bs.length ≤ 40000) (hr : secN bs.length ≤ n) (ht : t + 1 ≤ 4294967295) :
    ((begF n (t + 1) bs s).2 = 0 ∧ Live (begF n (t + 1) bs s).1 n (t + 1) [bs] ∧ (s.arms.on = false → (begF n (t + 1) bs s).1.arms.on = false)) ∨
    (s.arms.on = true ∧ (begF n (t + 1) bs s).2 = 9 ∧ (begF n (t + 1) bs s).1.out = true ∧ ∀ keep, Able (crashD keep (begF n (t + 1) bs s).1) n t said ∨ Able (crashD keep (begF n (t + 1) bs s).1) n (t + 1) [bs]) := by
  obtain ⟨tail, hL, hf⟩ := h
  have hfb := from_bound (t + 1) hL.hn.2
  have hsz := hL.size
  have hn := hL.hn
  obtain ⟨xs, hxs⟩ : ∃ xs, xs = leavesF (t + 1) 0 bs := ⟨_, rfl⟩
  have hxl : xs.length = secN bs.length := by rw [hxs, leavesF_len]
  have hfx : ∀ m x, xs[m]? = some x → Fresh (t + 1) x := fun m x hx => by
    have hm : m < secN bs.length := by have := (List.getElem?_eq_some_iff.1 hx).1; omega
    rw [hxs, leaves_get _ _ bs m hm] at hx
    rw [← Option.some.inj hx]; exact fresh_zeroth _ _ bs m
  have hft : ∀ x ∈ tail, Fresh (t + 2) x := fun x hx => (hf x hx).mono (by omega)
  have hbeg : begF n (t + 1) bs s = if (layF s (fromN n (t + 1) : Nat) xs).2 = 0 then layF (layF s (fromN n (t + 1) : Nat) xs).1 (((t + 1) % 2).toNat : Nat) [titleF (t + 1) n] else layF s (fromN n (t + 1) : Nat) xs := by rw [hxs]; rfl
  rcases lay_f xs s (fromN n (t + 1)) hL.up hL.loose (by omega) (by omega) with ⟨c1, c2, c3, c4, c5, c6⟩ | ⟨c0, c1, c2, c3, i, c4⟩
  · rw [hbeg, if_pos c1]
    obtain ⟨s1, hs1⟩ : ∃ s1, s1 = (layF s (fromN n (t + 1) : Nat) xs).1 := ⟨_, rfl⟩
    rw [← hs1] at c2 c3 c4 c5 c6 ⊢
    have hL1 : LogOn s1 n t said tail := hL.outer c2 c3 c4 (fun j hj => by rw [c6, over_ne (fun i hi => hj i (by omega))]) (fun i hi => by
      rw [c6]
      by_cases h1 : i < xs.length
      · rw [over_in h1, List.getElem?_eq_getElem h1]; exact hfx i _ (List.getElem?_eq_getElem h1)
      · rw [over_out (.inr (by omega))]; exact hL.oth i hi)
    have hcur : fieldOf s1 (fromN n (t + 1)) n = xs ++ (fieldOf s (fromN n (t + 1)) n).drop xs.length := by
      have := field_over (s := s) (s' := s1) (fr := fromN n (t + 1)) (n := n) (k := 0) (xs := xs) (by omega) (fun j => by rw [c6]; rfl)
      rw [this, List.take_zero, List.nil_append, Nat.zero_add]
    have hrest : ∀ x ∈ (fieldOf s (fromN n (t + 1)) n).drop xs.length, Fresh (t + 1) x := fun x hx => by
      obtain ⟨i, hi⟩ := List.getElem?_of_mem (List.mem_of_mem_drop hx)
      have hi2 : i < n := by have := (List.getElem?_eq_some_iff.1 hi).1; rw [fieldOf_len] at this; exact this
      rw [fieldOf_get _ _ _ _ hi2] at hi
      rw [← Option.some.inj hi]; exact hL.oth i hi2
    have hm2 : ((t + 1) % 2).toNat < 2 := by omega
    rcases lay_f [titleF (t + 1) n] s1 ((t + 1) % 2).toNat c2 c3 (by omega) (by simp only [List.length_singleton]; omega) with ⟨e1, e2, e3, e4, e5, e6⟩ | ⟨e0, e1, e2, e3, i, e4⟩
    · refine .inl ⟨e1, ⟨_, hL1.turned hft hb ht (by rw [← hxs]; exact hcur) e2 e3 e4 ?_ ?_, hrest⟩, fun h => e5 (c5 h)⟩
      · have := over_in (xs := [titleF (t + 1) n]) (k := ((t + 1) % 2).toNat) (i := 0) (by simp) (holdsF s1 ((((t + 1) % 2).toNat : Nat) : Int))
        rw [e6]; exact this
      · intro j hj
        rw [e6, over_ne (fun i hi => by have : i = 0 := by simpa using hi
                                        subst this; exact hj)]
    · refine .inr ⟨?_, e1, e2, fun keep => ?_⟩
      · cases hx : s.arms.on with
        | true => rfl
        | false => rw [c5 hx] at e0; cases e0
      · obtain ⟨d1, d2, d3, d4, _⟩ := crash_any keep (layF s1 (((t + 1) % 2).toNat : Nat) [titleF (t + 1) n]).1
        have hcl := fun j => crash_lay keep c3 e3 e4 j
        have hne : ∀ j : Int, j ≠ (((t + 1) % 2).toNat : Int) → holdsF (crashD keep (layF s1 (((t + 1) % 2).toNat : Nat) [titleF (t + 1) n]).1) j = holdsF s1 j := fun j hj => by
          rcases hcl j with e | ⟨m, q1, q2⟩
          · exact e
          · have hm : m = 0 := by have := (List.getElem?_eq_some_iff.1 q2).1; simpa using this
            subst hm; exact absurd q1 hj
        rcases hcl (((t + 1) % 2).toNat : Int) with e | ⟨m, q1, q2⟩
        · refine .inl (Live.able ⟨tail, hL1.same d1 d2 (d3.trans e3.size) (fun j => ?_), hf⟩)
          by_cases hj : j = (((t + 1) % 2).toNat : Int)
          · rw [hj]; exact e
          · exact hne j hj
        · have hm : m = 0 := by have := (List.getElem?_eq_some_iff.1 q2).1; simpa using this
          subst hm
          exact .inr (Live.able ⟨_, hL1.turned hft hb ht (by rw [← hxs]; exact hcur) d1 d2 (d3.trans e3.size) (Option.some.inj q2).symm hne, hrest⟩)
  · rw [hbeg, if_neg (by rw [c1]; decide)]
    refine .inr ⟨c0, c1, c2, fun keep => .inl ?_⟩
    obtain ⟨d1, d2, d3, d4, _⟩ := crash_any keep (layF s (fromN n (t + 1) : Nat) xs).1
    have hcl := fun j => crash_lay keep hL.loose c3 c4 j
    refine Live.able ⟨tail, hL.outer d1 d2 (d3.trans c3.size) (fun j hj => ?_) (fun i hi => ?_), hf⟩
    · rcases hcl j with e | ⟨m, q1, q2⟩
      · exact e
      · have hm := (List.getElem?_eq_some_iff.1 q2).1
        exact absurd q1 (hj m (by omega))
    · rcases hcl ((fromN n (t + 1) + i : Nat) : Int) with e | ⟨m, q1, q2⟩
      · rw [e]; exact hL.oth i hi
      · exact hfx m _ q2
end Go.Proofs.YtdakncgafdnjfaaGreat
namespace Go.Proofs.YtdakncgafdnjfaaGreat
open Go Go.Wk
set_option maxRecDepth 100000
theorem find_zero {j : Int} : ∀ {ws : List LWr}, (∀ y ∈ ws, y.b = zB) → (findB j ws).getD zB = zB ∧ ((∃ y ∈ ws, y.at_ = j) → findB j ws = some zB) ∧ ((∀ y ∈ ws, y.at_ ≠ j) → findB j ws = none)
  | [], _ => ⟨rfl, fun ⟨_, h, _⟩ => by (cases h), fun _ => rfl⟩
  | x :: l, h => by
    obtain ⟨h1, h2, h3⟩ := find_zero (j := j) (ws := l) (fun y hy => h y (by simp [hy]))
    have hx := h x (by simp)
    rw [findB]
    by_cases e : x.at_ = j
    · rw [if_pos e, hx]
      refine ⟨?_, fun _ => ?_, fun hn => absurd e (hn x (by simp))⟩
      · cases hf : findB j l with
        | none => rfl
        | some u => rw [hf] at h1; exact h1
      · cases hf : findB j l with
        | none => rfl
        | some u => rw [hf] at h1; show some u = some zB; rw [show u = zB from h1]
    · rw [if_neg e, Option.or_none]
      refine ⟨h1, fun ⟨y, hy, he⟩ => ?_, fun hn => h3 fun y hy => hn y (by simp [hy])⟩
      rcases List.mem_cons.1 hy with rfl | hy
      · exact absurd he e
      · exact h2 ⟨y, hy, he⟩
theorem blk_zero {x : Blk} (h : x.l = zB.l) : x = zB := Blk.ext' h
theorem clr_w (fr : Nat) : ∀ (xs : List Blk) (i : Nat) (sy : Bool) (s : DS), Up s → ((fr + i + xs.length : Nat) : Int) ≤ s.size →
    Alike s (clrW fr xs i sy s).1 ∧ ∃ ws : List LWr, (clrW fr xs i sy s).1.loose = s.loose ++ ws ∧ (∀ y ∈ ws, y.b = zB ∧ ∃ m, m < xs.length ∧ y.at_ = ((fr + i + m : Nat) : Int)) ∧
      (((clrW fr xs i sy s).2.1 = 0 ∧ (clrW fr xs i sy s).1.out = false ∧ (s.arms.on = false → (clrW fr xs i sy s).1.arms.on = false) ∧ (∀ (m : Nat) (x : Blk), xs[m]? = some x → x = zB ∨ ∃ y ∈ ws, y.at_ = ((fr + i + m : Nat) : Int)) ∧ (clrW fr xs i sy s).2.2 = (sy || !ws.isEmpty)) ∨
       (s.arms.on = true ∧ (clrW fr xs i sy s).2.1 = 9 ∧ (clrW fr xs i sy s).1.out = true))
  | [], i, sy, s, hu, _ => by
    rw [clrW]
    exact ⟨⟨rfl, rfl, rfl⟩, [], by simp, fun y hy => by (cases hy), .inl ⟨rfl, hu.on, id, fun m x h => by (simp at h), by simp⟩⟩
  | x :: xs, i, sy, s, hu, hs => by
    simp only [List.length_cons] at hs
    rw [clrW]
    by_cases hz : x.l = zB.l
    · rw [if_pos hz]
      obtain ⟨ha, ws, hw, hy, hc⟩ := clr_w fr xs (i + 1) sy s hu (by omega)
      refine ⟨ha, ws, hw, fun y h => ⟨(hy y h).1, ?_⟩, ?_⟩
      · obtain ⟨m, h1, h2⟩ := (hy y h).2
        exact ⟨m + 1, by simp only [List.length_cons]; omega, by rw [h2]; congr 1; omega⟩
      · rcases hc with ⟨c1, c2, c3, c4, c5⟩ | hc
        · refine .inl ⟨c1, c2, c3, fun m u h => ?_, c5⟩
          cases m with
          | zero => obtain rfl : x = u := by simpa using h
                    exact .inl (blk_zero hz)
          | succ m =>
            rcases c4 m u (by simpa using h) with h1 | ⟨y, h1, h2⟩
            · exact .inl h1
            · exact .inr ⟨y, h1, by rw [h2]; congr 1; omega⟩
        · exact .inr hc
    · rw [if_neg hz]
      rcases asked_up hu (k := ((fr + i : Nat) : Int)) (by omega) (fun s => writeD s ((fr + i : Nat) : Int) zB) with ⟨h1, h2, h3⟩ | ⟨h1, h2, h3⟩
      · rw [if_pos h2]
        have e : wrD s ((fr + i : Nat) : Int) zB = opD (writeD { s with arms := (metF s.arms).2 } ((fr + i : Nat) : Int) zB) := h3
        have hu1 : Up (wrD s ((fr + i : Nat) : Int) zB) := by rw [e]; exact ⟨hu.on, hu.fit⟩
        have hs1 : (wrD s ((fr + i : Nat) : Int) zB).size = s.size := by rw [e]; rfl
        have hl : (wrD s ((fr + i : Nat) : Int) zB).loose = s.loose ++ [⟨((fr + i : Nat) : Int), zB⟩] := by rw [e]; rfl
        have harm : s.arms.on = false → (wrD s ((fr + i : Nat) : Int) zB).arms.on = false := fun h => by rw [e]; exact met_stays h
        obtain ⟨ha, ws, hw, hy, hc⟩ := clr_w fr xs (i + 1) true (wrD s ((fr + i : Nat) : Int) zB) hu1 (by rw [hs1]; omega)
        refine ⟨⟨ha.size.trans hs1, ha.fails.trans (by rw [e]; rfl), ha.firm.trans (by rw [e]; rfl)⟩, ⟨((fr + i : Nat) : Int), zB⟩ :: ws, by rw [hw, hl, List.append_assoc]; rfl, fun y h => ?_, ?_⟩
        · rcases List.mem_cons.1 h with rfl | h
          · exact ⟨rfl, 0, by simp, rfl⟩
          · obtain ⟨m, q1, q2⟩ := (hy y h).2
            exact ⟨(hy y h).1, m + 1, by simp only [List.length_cons]; omega, by rw [q2]; congr 1; omega⟩
        · rcases hc with ⟨c1, c2, c3, c4, c5⟩ | ⟨c0, c1, c2⟩
          · refine .inl ⟨c1, c2, fun h => c3 (harm h), fun m u h => ?_, by rw [c5]; simp⟩
            cases m with
            | zero => exact .inr ⟨_, List.mem_cons_self .., rfl⟩
            | succ m =>
              rcases c4 m u (by simpa using h) with h1 | ⟨y, h1, h2⟩
              · exact .inl h1
              · exact .inr ⟨y, List.mem_cons_of_mem _ h1, by rw [h2]; congr 1; omega⟩
          · refine .inr ⟨?_, c1, c2⟩
            cases hx : s.arms.on with
            | true => rfl
            | false => rw [harm hx] at c0; cases c0
      · rw [if_neg (by rw [h2]; decide)]
        have e : wrD s ((fr + i : Nat) : Int) zB = { s with arms := (metF s.arms).2, out := true } := h3
        refine ⟨by rw [e]; exact ⟨rfl, rfl, rfl⟩, [], by rw [e]; simp, fun y hy => by (cases hy), .inr ⟨?_, h2, by rw [e]⟩⟩
        cases hx : s.arms.on with
        | true => rfl
        | false => rw [hit_off hx] at h1; cases h1
theorem open_reads {s : DS} {n : Nat} {t : Int} {said : List (List UInt8)} {tail : List Blk} (h : LogOn s n t said tail) (hn : NoEntry t (said.length : Nat) tail) :
    ∃ s3, Up s3 ∧ s3.loose = [] ∧ s3.size = s.size ∧ s3.arms = s.arms ∧ (∀ j, holdsF s3 j = holdsF s j) ∧ LogOn s3 n t said tail ∧ openF s = if (clrR (clrW (fromN n t) tail (endF t said) false s3)).2 = 0 then ((clrR (clrW (fromN n t) tail (endF t said) false s3)).1, 0, ⟨n, t, said, endF t said⟩) else ((clrR (clrW (fromN n t) tail (endF t said) false s3)).1, (clrR (clrW (fromN n t) tail (endF t said) false s3)).2, noOW) := by
  have hb := from_bound t h.hn.2
  have hsz := h.size
  obtain ⟨b1, b2, b3, b4, b5, b6, b7⟩ := field_up (fromN n t) n 0 (opD (opD s)) ⟨h.up.on, h.up.fit⟩ (by show ((fromN n t + 0 + n : Nat) : Int) ≤ s.size; omega)
  have hf : (fieldW (fromN n t) n 0 (opD (opD s))).2.2 = laidF t said 0 ++ tail := by
    rw [b2, ← h.cur, fieldOf]
    apply List.map_congr_left
    intro a _
    show holdsF s _ = _
    rw [Nat.zero_add]
  have hrd : readF t (laidF t said 0 ++ tail) (laidF t said 0 ++ tail).length 0 0 = (said, endF t said) := by
    have := readF_laid tail said [] 0 (laidF t said 0 ++ tail).length h.short (by rw [List.length_append]; exact Nat.le_refl _) (by rw [Nat.zero_add]; exact hn)
    simpa [endF] using this
  refine ⟨(fieldW (fromN n t) n 0 (opD (opD s))).1, b3, b4.trans h.loose, b5, b6, b7, h.same b3 (b4.trans h.loose) b5 b7, ?_⟩
  have hl0 : (fieldW (fromN n t) n 0 (opD (opD s))).1.loose = [] := b4.trans h.loose
  rw [openF, cnt_able h]
  show (if (0 : Int) = 0 then openB ((n : Int).toNat) t (opD (opD s)) else _) = _
  rw [if_pos rfl, Int.toNat_natCast, openB, if_pos b1, hf, openC, hrd]
  simp only []
  rw [if_neg h.some_, clrF, hl0, show (laidF t said 0 ++ tail).drop (endF t said) = tail from List.drop_left' rfl]
  rfl
theorem open_able {s : DS} {n : Nat} {t : Int} {said : List (List UInt8)} (h : Able s n t said) :
    ((openF s).2.1 = 0 ∧ Clean (openF s).1 n t said ∧ (openF s).2.2 = ⟨n, t, said, endF t said⟩ ∧ (s.arms.on = false → (openF s).1.arms.on = false)) ∨
    (s.arms.on = true ∧ (openF s).2.1 = 9 ∧ (openF s).1.out = true ∧ ∀ keep, Able (crashD keep (openF s).1) n t said) := by
  obtain ⟨tail, hL, hno, hfr⟩ := h
  obtain ⟨s3, u3, l3, z3, a3, h3, hL3, ho⟩ := open_reads hL hno
  have hb := from_bound t hL.hn.2
  have hsz := hL3.size
  have hlen := hL.len
  have hfew := hL.few
  have hn := hL.hn
  have htl : ∀ i, i < tail.length → tail[i]? = some (holdsF s3 ((fromN n t + endF t said + i : Nat) : Int)) := fun i hi => by
    have h1 := fieldOf_get s3 (fromN n t) n (endF t said + i) (by omega)
    rw [hL3.cur, List.getElem?_append_right (by unfold endF; omega), show endF t said + i - (laidF t said 0).length = i from by unfold endF; omega] at h1
    rw [h1]; congr 3; omega
  obtain ⟨ha, ws, hw, hy, hc⟩ := clr_w (fromN n t) tail (endF t said) false s3 u3 (by omega)
  rw [l3, List.nil_append] at hw
  -- what is cut on the way
  have cut : ∀ (r : DS) (keep : List Bool), Alike s3 r → r.loose = ws → Able (crashD keep r) n t said := fun r keep har hrl => by
    obtain ⟨d1, d2, d3, d4, d5⟩ := crash_any keep r
    have hj : ∀ j, holdsF (crashD keep r) j = holdsF s3 j ∨ ∃ m, m < tail.length ∧ j = ((fromN n t + endF t said + m : Nat) : Int) ∧ holdsF (crashD keep r) j = zB := fun j => by
      rcases d5 j with e | ⟨y, q1, q2, q3⟩
      · rw [e, har.firm, holds_firm l3]; exact .inl rfl
      · rw [hrl] at q1
        obtain ⟨p1, m, p2, p3⟩ := hy y q1
        exact .inr ⟨m, p2, q2.symm.trans p3, by rw [q3, p1]⟩
    have h1 := hL3.inner d1 d2 (d3.trans har.size) (fun j hj2 => by
      rcases hj j with e | ⟨m, q1, q2, _⟩
      · exact e
      · exact absurd (q2.trans (by congr 1; omega)) (hj2 (endF t said + m) (by omega) (by omega)))
    have hmix : ∀ (i : Nat) (x : Blk), ((fieldOf (crashD keep r) (fromN n t) n).drop (endF t said))[i]? = some x → tail[i]? = some x ∨ x = zB := fun i x hx => by
      have hi : i < tail.length := by
        have := (List.getElem?_eq_some_iff.1 hx).1
        rw [List.length_drop, fieldOf_len] at this; omega
      rw [List.getElem?_drop, fieldOf_get _ _ _ _ (by omega)] at hx
      obtain rfl := Option.some.inj hx
      rcases hj ((fromN n t + (endF t said + i) : Nat) : Int) with e | ⟨_, _, _, e⟩
      · rw [e, htl i hi]; left; congr 3; omega
      · exact .inr e
    refine ⟨_, h1, zero_entry hL.ht.2 (by omega) hno hmix, fun x hx => ?_⟩
    obtain ⟨i, hi⟩ := List.getElem?_of_mem hx
    rcases hmix i x hi with h2 | h2
    · exact hfr x (List.mem_of_getElem? h2)
    · rw [h2]; exact fresh_zero _
  -- what an opening that is not cut leaves
  have done : ∀ (r : DS), Up r → r.loose = [] → r.size = s3.size → (∀ j, holdsF r j = (findB j ws).getD (holdsF s3 j)) → (∀ (m : Nat) (x : Blk), tail[m]? = some x → x = zB ∨ ∃ y ∈ ws, y.at_ = ((fromN n t + endF t said + m : Nat) : Int)) → Clean r n t said := fun r hur hlr hzr hhr hall => by
    have h1 := hL3.inner hur hlr hzr (fun j hj2 => by
      rw [hhr, (find_zero (j := j) fun y hyy => (hy y hyy).1).2.2 (fun y hyy e => by
        obtain ⟨_, m, p2, p3⟩ := hy y hyy
        exact hj2 (endF t said + m) (by omega) (by omega) (e.symm.trans (p3.trans (by congr 1; omega))))]; rfl)
    refine ⟨tail.length, ?_⟩
    have e : (fieldOf r (fromN n t) n).drop (endF t said) = List.replicate tail.length zB := by
      apply List.ext_getElem?
      intro i
      rw [List.getElem?_drop, List.getElem?_replicate]
      by_cases hi : i < tail.length
      · rw [if_pos hi, fieldOf_get _ _ _ _ (by omega), hhr]
        rcases hall i _ (htl i hi) with q | ⟨y, q1, q2⟩
        · congr 1
          have hz := find_zero (j := ((fromN n t + (endF t said + i) : Nat) : Int)) fun y hyy => (hy y hyy).1
          rw [show (fromN n t + (endF t said + i) : Nat) = fromN n t + endF t said + i from by omega, q, ← show (fromN n t + (endF t said + i) : Nat) = fromN n t + endF t said + i from by omega]
          exact hz.1
        · congr 1
          rw [(find_zero fun y hyy => (hy y hyy).1).2.1 ⟨y, q1, q2.trans (by congr 1; omega)⟩]; rfl
      · rw [if_neg hi, List.getElem?_eq_none (by rw [fieldOf_len]; omega)]
    rw [e] at h1
    exact h1
  rcases hc with ⟨c1, c2, c3, c4, c5⟩ | ⟨c0, c1, c2⟩
  · have hur : Up (clrW (fromN n t) tail (endF t said) false s3).1 := ⟨c2, by rw [ha.fails]; exact u3.fit⟩
    cases hws : ws.isEmpty with
    | true =>
      have hw0 : ws = [] := List.isEmpty_iff.1 hws
      have hr : clrR (clrW (fromN n t) tail (endF t said) false s3) = ((clrW (fromN n t) tail (endF t said) false s3).1, 0) := by
        rw [clrR, if_pos c1, c5, hws, if_neg (by simp)]
      rw [ho, hr, if_pos rfl]
      refine .inl ⟨rfl, done _ hur (by rw [hw, hw0]) ha.size (fun j => ?_) c4, rfl, fun h => c3 (by rw [a3]; exact h)⟩
      rw [hw0, holds_firm (by rw [hw, hw0]), ha.firm, holds_firm l3]; rfl
    | false =>
      have hr : clrR (clrW (fromN n t) tail (endF t said) false s3) = (syD (clrW (fromN n t) tail (endF t said) false s3).1, askE (clrW (fromN n t) tail (endF t said) false s3).1 0 true) := by
        rw [clrR, if_pos c1, c5, hws, if_pos (by simp)]
      rcases sy_up hur (by rw [ha.size, z3]; have := hL.size; omega) with ⟨d1, d2, d3, d4, d5, d6, d7⟩ | ⟨d0, d1, d2, d3, d4⟩
      · rw [ho, hr, if_pos d1]
        refine .inl ⟨rfl, done _ ⟨d2, by rw [d6]; exact hur.fit⟩ d3 (d5.trans ha.size) (fun j => ?_) c4, rfl, fun h => d7 (c3 (by rw [a3]; exact h))⟩
        show holdsF (syD _) j = _
        rw [d4, holdsF, hw, ha.firm, holds_firm l3]
        cases findB j ws <;> rfl
      · rw [ho, hr, if_neg (by rw [d1]; show ¬ (9 : Int) = 0; decide)]
        refine .inr ⟨?_, d1, d2, fun keep => cut _ keep ⟨d4.size.trans ha.size, d4.fails.trans ha.fails, d4.firm.trans ha.firm⟩ (d3.trans hw)⟩
        cases hx : s.arms.on with
        | true => rfl
        | false => rw [c3 (by rw [a3]; exact hx)] at d0; cases d0
  · have hr : clrR (clrW (fromN n t) tail (endF t said) false s3) = ((clrW (fromN n t) tail (endF t said) false s3).1, 9) := by
      rw [clrR, if_neg (by rw [c1]; decide), c1]
    rw [ho, hr, if_neg (by show ¬ (9 : Int) = 0; decide)]
    exact .inr ⟨by rw [← a3]; exact c0, rfl, c2, fun keep => cut _ keep ha hw⟩
theorem format_live (n : Nat) (hn : 4 ≤ n ∧ n ≤ 1000) : (fmtF n (newD ((2 * n + 2 : Nat) : Int))).2 = 0 ∧ Live (fmtF n (newD ((2 * n + 2 : Nat) : Int))).1 n 0 [[]] ∧ (fmtF n (newD ((2 * n + 2 : Nat) : Int))).1.arms.on = false := by
  obtain ⟨s0, hs0⟩ : ∃ s0, s0 = newD ((2 * n + 2 : Nat) : Int) := ⟨_, rfl⟩
  rw [← hs0]
  have hu0 : Up s0 := by rw [hs0]; exact ⟨rfl, rfl⟩
  have hz0 : s0.size = ((2 * n + 2 : Nat) : Int) := by rw [hs0]; rfl
  have ha0 : s0.arms.on = false := by rw [hs0]; rfl
  have hh0 : ∀ j, holdsF s0 j = zB := fun j => by rw [hs0]; rfl
  have off : ∀ {s : DS}, s.arms.on = false → ¬ s.arms.on = true := fun h h2 => by rw [h] at h2; cases h2
  rcases lay_f (List.replicate (2 * n + 2) zB) s0 0 hu0 (by rw [hs0]; rfl) (by omega) (by rw [List.length_replicate]; omega) with ⟨c1, c2, c3, c4, c5, c6⟩ | ⟨c0, _⟩
  · replace c1 : (layF s0 0 (List.replicate (2 * n + 2) zB)).2 = 0 := c1
    have hfm : fmtF n s0 = begF n 0 [] (layF s0 0 (List.replicate (2 * n + 2) zB)).1 := by rw [fmtF, if_pos c1]
    rw [hfm]
    obtain ⟨s1, hs1⟩ : ∃ s1, s1 = (layF s0 0 (List.replicate (2 * n + 2) zB)).1 := ⟨_, rfl⟩
    replace c2 : Up s1 := by rw [hs1]; exact c2
    replace c3 : s1.loose = [] := by rw [hs1]; exact c3
    replace c4 : s1.size = s0.size := by rw [hs1]; exact c4
    replace c5 : s1.arms.on = false := by rw [hs1]; exact c5 ha0
    have hh1 : ∀ j, holdsF s1 j = zB := fun j => by
      rw [hs1]
      have := c6 j
      rw [hh0, wrs_find] at this
      refine Eq.trans this ?_
      split
      · rw [List.getElem?_replicate]; split <;> rfl
      · rfl
    rw [← hs1]
    have hxl : (leavesF 0 0 []).length = 1 := rfl
    rcases lay_f (leavesF 0 0 []) s1 2 c2 c3 (by omega) (by rw [hxl]; omega) with ⟨d1, d2, d3, d4, d5, d6⟩ | ⟨d0, _⟩
    · have h2n : fromN n 0 = 2 := by simp [fromN]
      replace d1 : (layF s1 ((2 : Nat) : Int) (leavesF 0 0 [])).2 = 0 := d1
      have hbg : begF n 0 [] s1 = layF (layF s1 ((2 : Nat) : Int) (leavesF 0 0 [])).1 (((0 : Int) % 2).toNat : Nat) [titleF 0 n] := by
        show (if (layF s1 (fromN n 0 : Nat) (leavesF 0 0 [])).2 = 0 then layF (layF s1 (fromN n 0 : Nat) (leavesF 0 0 [])).1 (((0 : Int) % 2).toNat : Nat) [titleF 0 n] else layF s1 (fromN n 0 : Nat) (leavesF 0 0 [])) = _
        rw [h2n]; exact if_pos d1
      rw [hbg]
      obtain ⟨s2, hs2⟩ : ∃ s2, s2 = (layF s1 ((2 : Nat) : Int) (leavesF 0 0 [])).1 := ⟨_, rfl⟩
      replace d2 : Up s2 := by rw [hs2]; exact d2
      replace d3 : s2.loose = [] := by rw [hs2]; exact d3
      replace d4 : s2.size = s1.size := by rw [hs2]; exact d4
      replace d5 : s2.arms.on = false := by rw [hs2]; exact d5 c5
      replace d6 : ∀ j, holdsF s2 j = (findB j (wrs 2 (leavesF 0 0 []))).getD (holdsF s1 j) := fun j => by rw [hs2]; exact d6 j
      rw [← hs2]
      rcases lay_f [titleF 0 n] s2 0 d2 d3 (by omega) (by simp only [List.length_singleton]; omega) with ⟨e1, e2, e3, e4, e5, e6⟩ | ⟨e0, _⟩
      · have h0 : holdsF (layF s2 (((0 : Int) % 2).toNat : Nat) [titleF 0 n]).1 0 = titleF 0 n := by
          have := e6 0
          exact this
        have hj : ∀ j : Int, j ≠ 0 → holdsF (layF s2 (((0 : Int) % 2).toNat : Nat) [titleF 0 n]).1 j = holdsF s2 j := fun j hj => by
          have := e6 j
          rw [over_ne (fun i hi => by have : i = 0 := by simpa using hi
                                      subst this; exact hj)] at this
          exact this
        refine ⟨e1, ⟨List.replicate (n - 1) zB, ⟨e2, e3, hn, ?_, by omega, h0, ?_, by simp, fun b hb => ?_, ?_, fun i hi => ?_⟩, fun x hx => ?_⟩, e5 d5⟩
        · have : (layF s2 (((0 : Int) % 2).toNat : Nat) [titleF 0 n]).1.size = s2.size := e4
          rw [this]; omega
        · rw [hj _ (by decide), d6, over_ne (fun i hi => by rw [hxl] at hi; omega), hh1]
          intro hb
          rw [show tellN zB = 0 from by decide] at hb
          simp [mayF] at hb
        · obtain rfl := List.mem_singleton.1 hb; simp
        · have h1 := field_over (s := s1) (s' := s2) (fr := 2) (n := n) (k := 0) (xs := leavesF 0 0 []) (by rw [hxl]; omega) (fun j => d6 j)
          rw [h2n, fieldOf_eq fun i hi => hj _ (by omega), h1, List.take_zero, List.nil_append, laidF, laidF, List.append_nil]
          congr 1
          rw [hxl, fieldOf, show (fun i => holdsF s1 ((2 + i : Nat) : Int)) = fun _ => zB from funext fun i => hh1 _]
          rw [List.map_const', List.length_range, List.drop_replicate]
        · rw [hj _ (by have := from_bound (0 + 1) (n := n) hn.2; omega), d6, over_ne (fun a ha => by rw [hxl] at ha; have := from_apart 0 (n := n) (i := a) (j := i) (by omega) hi; rw [h2n] at this; omega), hh1]
          exact fresh_zero _
        · rw [(List.mem_replicate.1 hx).2]; exact fresh_zero _
      · exact absurd e0 (off d5)
    · exact absurd d0 (off c5)
  · exact absurd c0 (off ha0)
theorem arm_live {s : DS} {n : Nat} {t : Int} {said : List (List UInt8)} {tail : List Blk} (h : LogOn s n t said tail) (k : Int) : LogOn (armD s k) n t said tail := by
  have e : armD s k = { s with arms := setC k } := by rw [armD, if_neg (by rw [h.up.on]; exact Bool.false_ne_true)]
  rw [e]
  exact h.same ⟨h.up.on, h.up.fit⟩ h.loose rfl (fun _ => rfl)
theorem crash_live (l : List Bool) {s : DS} {n : Nat} {t : Int} {said : List (List UInt8)} {tail : List Blk} (h : LogOn s n t said tail) : LogOn (crashD l s) n t said tail := by
  obtain ⟨d1, d2, d3, d4, _⟩ := crash_any l s
  exact h.same d1 d2 d3 (fun j => crash_still l h.loose j)
end Go.Proofs.YtdakncgafdnjfaaGreat
namespace Go.Proofs.YtdakncgafdnjfaaGreat
open Go Go.Wk
set_option synthInstance.maxSize 100000
set_option synthInstance.maxHeartbeats 400000
set_option maxRecDepth 100000
abbrev bsL (ys : List LBy) : List (List UInt8) := ys.map LBy.bs
theorem told_get {came : List LBy} {i : Nat} {z : Nat × LBy} (h : (toldL came)[i]? = some z) : i < came.length ∧ z = (i + 1, nthG came i) := by
  rw [toldL, List.getElem?_map] at h
  have hi : i < came.length := by
    cases hr : (List.range came.length)[i]? with
    | none => rw [hr] at h; cases h
    | some a => have := (List.getElem?_eq_some_iff.1 hr).1; simpa using this
  rw [List.getElem?_range hi] at h
  exact ⟨hi, (Option.some.inj h).symm⟩
end Go.Proofs.YtdakncgafdnjfaaGreat
namespace Go.Proofs.YtdakncgafdnjfaaGreat
open Go Go.Wk
set_option synthInstance.maxSize 100000
set_option synthInstance.maxHeartbeats 400000
set_option maxRecDepth 100000
structure LG where
  m : Nat
  p : Option Addr
  c : Nat
  s : DS
  q : Option Addr
  e : Nat
  x : WS
abbrev lgI (b g : Nat) (L : LG) : Wk.Item := both (dkI b L.m L.p L.c L.s) (walI g b L.q L.e L.x)
structure LgSays (L : LG) (said : List (List UInt8)) : Prop where
  says : bsL L.x.said = said
  some_ : said ≠ []
  few : said.length ≤ 1000
  short : ∀ b ∈ said, b.length ≤ 40000
structure LgOk (L : LG) (n : Nat) (t : Int) (said : List (List UInt8)) : Prop where
  num : L.x.n = n
  turn : L.x.turn = t
  says : bsL L.x.said = said
  fin : L.x.fin = endF t said
  broken : L.x.broken = false
  live : Live L.s n t said
theorem lg_cap {b g : Nat} {L : LG} {w : World} (h : (lgI b g L).holds w) : L.x.said.length ≤ L.e := own_le h.2.1.2.1.1
theorem allBy_ent {ys : List LBy} {w : World} (h : (entI ys).holds w) : Stable (fun _ => False) w (AllBy ys) := fun w' ha y hy => gl_loc (fun ad hp => ha.blk ((h y hy).1 ad hp) (fun h => h)) (h y hy).2
theorem begF_loose (n : Nat) (t : Int) (bs : List UInt8) (hb : bs.length ≤ 40000) (s : DS) : (begF n t bs s).1.loose.length ≤ s.loose.length + 840 := by
  have h1 := layF_loose s (fromN n t : Nat) (leavesF t 0 bs)
  have h2 := layF_loose (layF s (fromN n t : Nat) (leavesF t 0 bs)).1 ((t % 2).toNat : Nat) [titleF t n]
  have h3 := secN_le _ hb
  rw [leavesF_len] at h1
  simp only [List.length_singleton] at h2
  have e : begF n t bs s = if (layF s (fromN n t : Nat) (leavesF t 0 bs)).2 = 0 then layF (layF s (fromN n t : Nat) (leavesF t 0 bs)).1 ((t % 2).toNat : Nat) [titleF t n] else layF s (fromN n t : Nat) (leavesF t 0 bs) := rfl
  rw [e]
  split <;> omega
theorem clrW_loose (fr : Nat) : ∀ (xs : List Blk) (i : Nat) (sy : Bool) (s : DS), (clrW fr xs i sy s).1.loose.length ≤ s.loose.length + xs.length
  | [], _, _, _ => Nat.le_refl _
  | x :: xs, i, sy, s => by
    rw [clrW, List.length_cons]
    split
    · have := clrW_loose fr xs (i + 1) sy s; omega
    · split
      · have h1 := clrW_loose fr xs (i + 1) true (wrD s ((fr + i : Nat) : Int) zB)
        have h2 := wrD_loose s ((fr + i : Nat) : Int) zB
        omega
      · have h2 := wrD_loose s ((fr + i : Nat) : Int) zB
        show (wrD s ((fr + i : Nat) : Int) zB).loose.length ≤ _; omega
theorem fieldW_same (fr : Nat) : ∀ (k i : Nat) (s : DS), (fieldW fr k i s).1.loose = s.loose ∧ (fieldW fr k i s).2.2.length ≤ k
  | 0, _, _ => ⟨rfl, Nat.le_refl _⟩
  | k + 1, i, s => by
    rw [fieldW]
    split
    · obtain ⟨h1, h2⟩ := fieldW_same fr k (i + 1) (rdD s ((fr + i : Nat) : Int))
      exact ⟨h1.trans (rdD_loose _ _), by simp only [List.length_cons]; omega⟩
    · exact ⟨rdD_loose _ _, Nat.zero_le _⟩
theorem clrF_loose (fr fin : Nat) (f : List Blk) (s : DS) : (clrF fr fin f s).1.loose.length ≤ s.loose.length + f.length := by
  have a1 := clrW_loose fr (f.drop fin) fin (decide (0 < s.loose.length)) s
  rw [List.length_drop] at a1
  have a2 := syD_loose (clrW fr (f.drop fin) fin (decide (0 < s.loose.length)) s).1
  rw [clrF, clrR]
  split
  · split
    · show (syD _).loose.length ≤ _; omega
    · show (clrW _ _ _ _ _).1.loose.length ≤ _; omega
  · show (clrW _ _ _ _ _).1.loose.length ≤ _; omega
theorem openC_loose (n : Nat) (t : Int) (f : List Blk) (s : DS) : (openC n t f s).1.loose.length ≤ s.loose.length + f.length := by
  have h := clrF_loose (fromN n t) (readF t f f.length 0 0).2 f s
  rw [openC]
  split
  · show s.loose.length ≤ _; omega
  · split
    · exact h
    · exact h
theorem openF_loose (s : DS) : (openF s).1.loose.length ≤ s.loose.length + 1000 := by
  obtain ⟨h1, h2⟩ := cntF_ok s
  rw [openF]
  split
  · rename_i h0
    have hn := (h2 h0).2.1
    obtain ⟨g1, g2⟩ := fieldW_same (fromN (cntF s).2.2.n.toNat (cntF s).2.2.t) (cntF s).2.2.n.toNat 0 (cntF s).1
    rw [openB]
    split
    · have := openC_loose (cntF s).2.2.n.toNat (cntF s).2.2.t (fieldW (fromN (cntF s).2.2.n.toNat (cntF s).2.2.t) (cntF s).2.2.n.toNat 0 (cntF s).1).2.2 (fieldW (fromN (cntF s).2.2.n.toNat (cntF s).2.2.t) (cntF s).2.2.n.toNat 0 (cntF s).1).1
      rw [g1, h1] at this
      omega
    · show (fieldW _ _ _ _).1.loose.length ≤ _
      rw [g1, h1]; omega
  · show (cntF s).1.loose.length ≤ _
    rw [h1]; omega
end Go.Proofs.YtdakncgafdnjfaaGreat
namespace Go.Proofs.YtdakncgafdnjfaaGreat
open Go Go.Wk
set_option synthInstance.maxSize 100000
set_option synthInstance.maxHeartbeats 400000
set_option maxRecDepth 100000
end Go.Proofs.YtdakncgafdnjfaaGreat
namespace Go.Proofs.YtdakncgafdnjfaaGreat
open Go Go.Wk
set_option synthInstance.maxSize 100000
set_option synthInstance.maxHeartbeats 400000
set_option maxRecDepth 100000
instance encAct : Enc LAct := ⟨4, cAct, fun _ => rfl, fun x u hu => by simp only [List.mem_cons, List.not_mem_nil, or_false] at hu; rcases hu with rfl | rfl | rfl | rfl <;> rfl⟩
instance layAct : Lay LAct := { encAct with
  dflt := ⟨0, 0, 0, none, 0, []⟩
  inn := fun w x => x.keep.length ≤ x.c ∧ x.c ≤ maxLen ∧ GlF x.p x.keep w
  mono := fun w w' x h hx => ⟨hx.1, hx.2.1, hx.2.2.mono h⟩ }
end Go.Proofs.YtdakncgafdnjfaaGreat
namespace Go.Proofs.YtdakncgafdnjfaaGreat
open Go Go.Wk
set_option synthInstance.maxSize 100000
set_option synthInstance.maxHeartbeats 400000
set_option maxRecDepth 100000
theorem laid_sum (t : Int) : ∀ (said : List (List UInt8)) (j : Nat), (laidF t said j).length = (said.map fun b => secN b.length).sum
  | [], _ => rfl
  | b :: l, j => by rw [laidF, List.length_append, leavesF_len, laid_sum t l, List.map_cons, List.sum_cons]
theorem endF_sum (t : Int) (said : List (List UInt8)) : endF t said = (said.map fun b => secN b.length).sum := laid_sum t said 0
end Go.Proofs.YtdakncgafdnjfaaGreat
namespace Go.Proofs.YtdakncgafdnjfaaGreat
open Go Go.Wk
set_option synthInstance.maxSize 100000
set_option synthInstance.maxHeartbeats 400000
set_option maxRecDepth 100000
end Go.Proofs.YtdakncgafdnjfaaGreat
namespace Go.Proofs.YtdakncgafdnjfaaGreat
open Go Go.Wk
set_option synthInstance.maxSize 100000
set_option synthInstance.maxHeartbeats 400000
set_option maxRecDepth 100000
end Go.Proofs.YtdakncgafdnjfaaGreat
namespace Go.Proofs.YtdakncgafdnjfaaGreat
open Go Go.Wk
set_option synthInstance.maxSize 100000
set_option synthInstance.maxHeartbeats 400000
set_option maxRecDepth 100000
theorem Able.on {s : DS} {n : Nat} {t : Int} {said : List (List UInt8)} (h : Able s n t said) : s.out = false := by obtain ⟨_, hl, _⟩ := h; exact hl.up.on
theorem Able.arm {s : DS} {n : Nat} {t : Int} {said : List (List UInt8)} (h : Able s n t said) (k : Int) : Able (armD s k) n t said := by
  obtain ⟨tail, hl, h1, h2⟩ := h
  exact ⟨tail, arm_live hl k, h1, h2⟩
theorem Live.arm {s : DS} {n : Nat} {t : Int} {said : List (List UInt8)} (h : Live s n t said) (k : Int) : Live (armD s k) n t said := by
  obtain ⟨tail, hl, h1⟩ := h
  exact ⟨tail, arm_live hl k, h1⟩
theorem Clean.arm {s : DS} {n : Nat} {t : Int} {said : List (List UInt8)} (h : Clean s n t said) (k : Int) : Clean (armD s k) n t said := by
  obtain ⟨r, hl⟩ := h
  exact ⟨r, arm_live hl k⟩
theorem Live.crash {s : DS} {n : Nat} {t : Int} {said : List (List UInt8)} (h : Live s n t said) (l : List Bool) : Live (crashD l s) n t said := by
  obtain ⟨tail, hl, h1⟩ := h
  exact ⟨tail, crash_live l hl, h1⟩
def LG.arm (L : LG) (k : Int) : LG := { L with s := armD L.s k }
theorem LgOk.arm {L : LG} {n : Nat} {t : Int} {said : List (List UInt8)} (h : LgOk L n t said) (k : Int) : LgOk (L.arm k) n t said := ⟨h.num, h.turn, h.says, h.fin, h.broken, h.live.arm k⟩
end Go.Proofs.YtdakncgafdnjfaaGreat
namespace Go.Proofs.YtdakncgafdnjfaaGreat
open Go Go.Wk
set_option synthInstance.maxSize 100000
set_option synthInstance.maxHeartbeats 400000
set_option maxRecDepth 100000
end Go.Proofs.YtdakncgafdnjfaaGreat
namespace Go.Proofs.YtdakncgafdnjfaaGreat
open Go Go.Wk
set_option synthInstance.maxSize 100000
set_option synthInstance.maxHeartbeats 400000
set_option maxRecDepth 100000
end Go.Proofs.YtdakncgafdnjfaaGreat
namespace Go.Proofs.YtdakncgafdnjfaaGreat
open Go Go.Wk
set_option synthInstance.maxSize 100000
set_option synthInstance.maxHeartbeats 400000
set_option maxRecDepth 100000
theorem St.entFact {w0 : World} {M0 : Nat → Prop} {ds : List Deferred} {a : Act} {w : World} {l : List Value} {bs bs' : List Wk.Item} {fs : List (World → Prop)} (S : St w0 M0 ds a w l bs fs) (ys : List LBy) [hd : DropI bs (entI ys) bs'] : St w0 M0 ds a w l bs' (AllBy ys :: fs) := by
  have S1 := S.perm _ hd.perm
  have hap := List.pairwise_cons.1 S1.wd.apart
  have hr : (entI ys).holds w := S1.wd.held _ (by simp)
  have S2 : St w0 M0 ds a w l bs' fs := ⟨S1.slots, S1.defers, S1.wd.sub (.cons _ (.refl _)) (.refl _)⟩
  exact S2.add fun w' ha y hy => gl_loc (fun ad hp => ha.blk ((hr y hy).1 ad hp) (fun ⟨it, hi, hk⟩ => hap.1 it hi ad.block ⟨y, hy, ad, hp, rfl⟩ hk)) (hr y hy).2
end Go.Proofs.YtdakncgafdnjfaaGreat
namespace Go.Proofs.YtdakncgafdnjfaaGreat
open Go Go.Wk
set_option synthInstance.maxSize 100000
set_option synthInstance.maxHeartbeats 400000
set_option maxRecDepth 100000
structure LV where
  s : DS
  n : Nat
  turn : Int
  said : List (List UInt8)
  fin : Nat
  broken : Bool
def LG.v (L : LG) : LV := ⟨L.s, L.x.n, L.x.turn, bsL L.x.said, L.x.fin, L.x.broken⟩
def LV.x (V : LV) : WS := ⟨V.n, V.turn, [], V.fin, V.broken⟩
structure LV.Wf (V : LV) (k : Nat) : Prop where
  n : V.n ≤ 1000
  fin : V.fin ≤ V.n
  some_ : 0 < V.said.length
  few : V.said.length ≤ V.fin
  short : ∀ b ∈ V.said, b.length ≤ 40000
  turn : 0 ≤ V.turn ∧ V.turn ≤ 4294967295
  loose : V.s.loose.length ≤ k
theorem LV.Wf.more {V : LV} {k k' : Nat} (h : V.Wf k) (hk : k ≤ k') : V.Wf k' := ⟨h.n, h.fin, h.some_, h.few, h.short, h.turn, Nat.le_trans h.loose hk⟩
def appV (V : LV) (bs : List UInt8) : LV × Int :=
  if roomF V.x bs ≠ 0 then (V, roomF V.x bs) else
  if (layF V.s ((fromN V.n V.turn + V.fin : Nat) : Int) (leavesF V.turn (V.said.length : Int) bs)).2 = 0 then
    ({ V with s := (layF V.s ((fromN V.n V.turn + V.fin : Nat) : Int) (leavesF V.turn (V.said.length : Int) bs)).1, said := V.said ++ [bs], fin := V.fin + secN bs.length }, 0)
  else ({ V with s := (layF V.s ((fromN V.n V.turn + V.fin : Nat) : Int) (leavesF V.turn (V.said.length : Int) bs)).1, broken := true }, (layF V.s ((fromN V.n V.turn + V.fin : Nat) : Int) (leavesF V.turn (V.said.length : Int) bs)).2)
def chkV (V : LV) (bs : List UInt8) : LV × Int :=
  if roomC V.x bs ≠ 0 then (V, roomC V.x bs) else
  if (begF V.n (upT V.turn) bs V.s).2 = 0 then ({ V with s := (begF V.n (upT V.turn) bs V.s).1, turn := upT V.turn, said := [bs], fin := secN bs.length }, 0)
  else ({ V with s := (begF V.n (upT V.turn) bs V.s).1, broken := true }, (begF V.n (upT V.turn) bs V.s).2)
theorem room_le {x : WS} {bs : List UInt8} (h : roomF x bs = 0) : bs.length ≤ 40000 ∧ (x.fin ≤ x.n → x.fin + secN bs.length ≤ x.n) := by
  unfold roomF at h
  by_cases h1 : refF x bs = 0
  · rw [if_pos h1] at h
    refine ⟨(refF_zero h1).1, fun _ => ?_⟩
    by_cases h2 : x.n - x.fin < secN bs.length
    · rw [if_pos h2] at h; cases h
    · omega
  · rw [if_neg h1] at h; exact absurd h h1
theorem roomC_le {x : WS} {bs : List UInt8} (h : roomC x bs = 0) : bs.length ≤ 40000 ∧ secN bs.length ≤ x.n := by
  unfold roomC at h
  by_cases h1 : refF x bs = 0
  · rw [if_pos h1] at h
    refine ⟨(refF_zero h1).1, ?_⟩
    by_cases h2 : x.n < secN bs.length ∨ upT x.turn = 0
    · rw [if_pos h2] at h; cases h
    · omega
  · rw [if_neg h1] at h; exact absurd h h1
theorem appV_wf {V : LV} {k : Nat} (h : V.Wf k) (bs : List UInt8) : (appV V bs).1.Wf (k + 840) := by
  unfold appV
  by_cases h1 : roomF V.x bs ≠ 0
  · rw [if_pos h1]; exact h.more (by omega)
  · rw [if_neg h1]
    have h1 : roomF V.x bs = 0 := Decidable.not_not.1 h1
    obtain ⟨hb, hr⟩ := room_le h1
    have hr : V.fin + secN bs.length ≤ V.n := hr h.fin
    have hlo := layF_loose V.s ((fromN V.n V.turn + V.fin : Nat) : Int) (leavesF V.turn (V.said.length : Int) bs)
    have hse := secN_le _ hb
    have hsp := secN_pos bs.length
    have hl := h.loose
    have hf := h.few
    rw [leavesF_len] at hlo
    by_cases h2 : (layF V.s ((fromN V.n V.turn + V.fin : Nat) : Int) (leavesF V.turn (V.said.length : Int) bs)).2 = 0
    · rw [if_pos h2]
      refine ⟨h.n, hr, ?_, ?_, ?_, h.turn, ?_⟩
      · simp only [List.length_append, List.length_singleton]; omega
      · simp only [List.length_append, List.length_singleton]; omega
      · intro b hb'
        rcases List.mem_append.1 hb' with h3 | h3
        · exact h.short b h3
        · obtain rfl := List.mem_singleton.1 h3; exact hb
      · show (layF _ _ _).1.loose.length ≤ _; omega
    · rw [if_neg h2]
      exact ⟨h.n, h.fin, h.some_, h.few, h.short, h.turn, by show (layF _ _ _).1.loose.length ≤ _; omega⟩
theorem chkV_wf {V : LV} {k : Nat} (h : V.Wf k) (bs : List UInt8) : (chkV V bs).1.Wf (k + 840) := by
  unfold chkV
  by_cases h1 : roomC V.x bs ≠ 0
  · rw [if_pos h1]; exact h.more (by omega)
  · rw [if_neg h1]
    have h1 : roomC V.x bs = 0 := Decidable.not_not.1 h1
    obtain ⟨hb, hr⟩ := roomC_le h1
    have hr : secN bs.length ≤ V.n := hr
    have hlo := begF_loose V.n (upT V.turn) bs hb V.s
    have hsp := secN_pos bs.length
    have hl := h.loose
    by_cases h2 : (begF V.n (upT V.turn) bs V.s).2 = 0
    · rw [if_pos h2]
      refine ⟨h.n, hr, Nat.zero_lt_one, hsp, ?_, ?_, ?_⟩
      · intro b hb'
        obtain rfl := List.mem_singleton.1 hb'; exact hb
      · have := upT_range V.turn; exact this
      · show (begF _ _ _ _).1.loose.length ≤ _; omega
    · rw [if_neg h2]
      exact ⟨h.n, h.fin, h.some_, h.few, h.short, h.turn, by show (begF _ _ _ _).1.loose.length ≤ _; omega⟩
theorem v_len (L : LG) : L.v.said.length = L.x.said.length := List.length_map _
theorem append_v (b g : Nat) (L : LG) (k : Nat) (y : LBy) (h : L.v.Wf k) (hk : k ≤ 980000) (hyl : y.bs.length ≤ 10000000) (w0 : World) (hd : (lgI b g L).holds w0) (f0 : Stable (lgI b g L).foot w0 (GlF y.p y.bs)) :
    Ret Tryz.prog 20 [.pointer (some ⟨g, 0, none⟩), .slice y.p y.bs.length y.c] w0 (lgI b g L).foot fun v w' => ∃ L', v = .int .i64 (appV L.v y.bs).2 ∧ (lgI b g L').holds w' ∧ (∀ k, (lgI b g L').foot k → (lgI b g L).foot k ∨ w0.heap.size ≤ k) ∧ L'.m = L.m ∧ L'.v = (appV L.v y.bs).1 := by
  have hvl := v_len L
  have hcap := lg_cap hd
  obtain ⟨m, p, c, s, q, e, x⟩ := L
  have hn : x.n ≤ 1000 := h.n
  have hfi : x.fin ≤ x.n := h.fin
  have hs0 := h.some_
  have hsf : (LG.v ⟨m, p, c, s, q, e, x⟩).said.length ≤ x.fin := h.few
  have ht : 0 ≤ x.turn ∧ x.turn ≤ 4294967295 := h.turn
  have hl : s.loose.length ≤ k := h.loose
  have hvl : (LG.v ⟨m, p, c, s, q, e, x⟩).said.length = x.said.length := hvl
  rw [hvl] at hs0 hsf
  have hcap : x.said.length ≤ e := hcap
  refine (append_c g b m p c s q e x y w0 hn hfi ⟨by omega, hcap⟩ hs0 ht hyl (by omega) hd f0).mono fun v w' => ?_
  have hrm : roomF (LG.v ⟨m, p, c, s, q, e, x⟩).x y.bs = roomF x y.bs := rfl
  unfold appV
  rw [hrm, hvl]
  rintro (⟨ha, rfl, hb⟩ | ⟨ha, rfl, p', c', q', e', y', hy', he', hh, hf⟩)
  · rw [if_pos ha]
    exact ⟨⟨m, p, c, s, q, e, x⟩, rfl, hb, fun k hk => .inl hk, rfl, rfl⟩
  · rw [if_neg (fun h => h ha)]
    have hR : layF (LG.v ⟨m, p, c, s, q, e, x⟩).s ((fromN (LG.v ⟨m, p, c, s, q, e, x⟩).n (LG.v ⟨m, p, c, s, q, e, x⟩).turn + (LG.v ⟨m, p, c, s, q, e, x⟩).fin : Nat) : Int) (leavesF (LG.v ⟨m, p, c, s, q, e, x⟩).turn (x.said.length : Int) y.bs) = layF s ((fromN x.n x.turn + x.fin : Nat) : Int) (leavesF x.turn (x.said.length : Int) y.bs) := rfl
    rw [hR]
    obtain ⟨R, hR⟩ : ∃ R, R = layF s ((fromN x.n x.turn + x.fin : Nat) : Int) (leavesF x.turn (x.said.length : Int) y.bs) := ⟨_, rfl⟩
    rw [← hR] at hh hf ⊢
    refine ⟨⟨m, p', c', R.1, q', e', appS x y' R.2⟩, ?_, hh, hf, rfl, ?_⟩
    · by_cases h2 : R.2 = 0
      · rw [if_pos h2, h2]
      · rw [if_neg h2]
    · by_cases h2 : R.2 = 0
      · rw [if_pos h2]
        show LG.v _ = _
        unfold LG.v appS
        rw [if_pos h2]
        simp only [bsL, List.map_append, List.map_cons, List.map_nil, hy']
      · rw [if_neg h2]
        show LG.v _ = _
        unfold LG.v appS
        rw [if_neg h2]
theorem chk_v (b g : Nat) (L : LG) (k : Nat) (y : LBy) (h : L.v.Wf k) (hk : k ≤ 980000) (hyl : y.bs.length ≤ 10000000) (w0 : World) (hd : (lgI b g L).holds w0) (f0 : Stable (lgI b g L).foot w0 (GlF y.p y.bs)) :
    Ret Tryz.prog 19 [.pointer (some ⟨g, 0, none⟩), .slice y.p y.bs.length y.c] w0 (lgI b g L).foot fun v w' => ∃ L', v = .int .i64 (chkV L.v y.bs).2 ∧ (lgI b g L').holds w' ∧ (∀ k, (lgI b g L').foot k → (lgI b g L).foot k ∨ w0.heap.size ≤ k) ∧ L'.m = L.m ∧ L'.v = (chkV L.v y.bs).1 := by
  obtain ⟨m, p, c, s, q, e, x⟩ := L
  have hn : x.n ≤ 1000 := h.n
  have ht : 0 ≤ x.turn ∧ x.turn ≤ 4294967295 := h.turn
  have hl : s.loose.length ≤ k := h.loose
  refine (chk_c g b m p c s q e x y w0 hn ht hyl (by omega) hd f0).mono fun v w' => ?_
  have hrm : roomC (LG.v ⟨m, p, c, s, q, e, x⟩).x y.bs = roomC x y.bs := rfl
  unfold chkV
  rw [hrm]
  rintro (⟨ha, rfl, hb⟩ | ⟨ha, rfl, p', c', q', e', y', hy', -, -, hh, hf⟩)
  · rw [if_pos ha]
    exact ⟨⟨m, p, c, s, q, e, x⟩, rfl, hb, fun k hk => .inl hk, rfl, rfl⟩
  · rw [if_neg (fun h => h ha)]
    have hR : begF (LG.v ⟨m, p, c, s, q, e, x⟩).n (upT (LG.v ⟨m, p, c, s, q, e, x⟩).turn) y.bs (LG.v ⟨m, p, c, s, q, e, x⟩).s = begF x.n (upT x.turn) y.bs s := rfl
    rw [hR]
    obtain ⟨R, hR⟩ : ∃ R, R = begF x.n (upT x.turn) y.bs s := ⟨_, rfl⟩
    rw [← hR] at hh hf ⊢
    refine ⟨⟨m, p', c', R.1, q', e', chkS x y' R.2⟩, ?_, hh, hf, rfl, ?_⟩
    · by_cases h2 : R.2 = 0
      · rw [if_pos h2, h2]
      · rw [if_neg h2]
    · by_cases h2 : R.2 = 0
      · rw [if_pos h2]
        show LG.v _ = _
        unfold LG.v chkS
        rw [if_pos h2]
        simp only [bsL, List.map_cons, List.map_nil, hy']
      · rw [if_neg h2]
        show LG.v _ = _
        unfold LG.v chkS
        rw [if_neg h2]
def opnV (s : DS) : LV := ⟨(openF s).1, (openF s).2.2.n, (openF s).2.2.turn, (openF s).2.2.said, (openF s).2.2.fin, false⟩
theorem readF_ok (t : Int) (field : List Blk) : ∀ (f at_ j : Nat), at_ ≤ field.length → (readF t field f at_ j).1.length + at_ ≤ (readF t field f at_ j).2 ∧ (readF t field f at_ j).2 ≤ field.length ∧ ∀ b ∈ (readF t field f at_ j).1, b.length ≤ 40000
  | 0, at_, j, h => ⟨by simp [readF], h, fun b hb => by simp [readF] at hb⟩
  | f + 1, at_, j, h => by
    rw [readF]
    cases hs : standF t field at_ (j : Int) with
    | none => exact ⟨by simp, h, fun b hb => by simp at hb⟩
    | some bs =>
      have h1 := stand_len hs
      have h2 := stand_get hs
      have h3 := secN_pos bs.length
      obtain ⟨r1, r2, r3⟩ := readF_ok t field f (at_ + secN bs.length) (j + 1) h1
      refine ⟨?_, r2, fun b hb => ?_⟩
      · simp only [List.length_cons]; omega
      · rcases List.mem_cons.1 hb with rfl | hb
        · exact h2.1
        · exact r3 b hb
theorem opnV_wf {s : DS} (h : (openF s).2.1 = 0) : (opnV s).Wf (s.loose.length + 1000) := by
  have hlo := openF_loose s
  have hcok := cntF_ok s
  by_cases h1 : (cntF s).2.1 = 0
  · obtain ⟨hz, hn, ht⟩ := hcok.2 h1
    have e1 : openF s = openB (cntF s).2.2.n.toNat (cntF s).2.2.t (cntF s).1 := by rw [openF, if_pos h1]
    obtain ⟨n, hn'⟩ : ∃ n, n = (cntF s).2.2.n.toNat := ⟨_, rfl⟩
    have hn1 : n ≤ 1000 := by omega
    rw [← hn'] at e1
    by_cases h2 : (fieldW (fromN n (cntF s).2.2.t) n 0 (cntF s).1).2.1 = 0
    · have e2 := e1
      rw [openB, if_pos h2] at e2
      have hfl := (fieldW_same (fromN n (cntF s).2.2.t) n 0 (cntF s).1).2
      obtain ⟨F, hF⟩ : ∃ F, F = fieldW (fromN n (cntF s).2.2.t) n 0 (cntF s).1 := ⟨_, rfl⟩
      rw [← hF] at e2 hfl
      have hrd := readF_ok (cntF s).2.2.t F.2.2 F.2.2.length 0 0 (Nat.zero_le _)
      rw [openC] at e2
      by_cases h3 : (readF (cntF s).2.2.t F.2.2 F.2.2.length 0 0).1 = []
      · rw [if_pos h3] at e2; rw [e2] at h; cases h
      · rw [if_neg h3] at e2
        by_cases h4 : (clrF (fromN n (cntF s).2.2.t) (readF (cntF s).2.2.t F.2.2 F.2.2.length 0 0).2 F.2.2 F.1).2 = 0
        · rw [if_pos h4] at e2
          have h5 := List.length_pos_iff.2 h3
          unfold opnV
          refine ⟨?_, ?_, ?_, ?_, ?_, ?_, hlo⟩ <;> rw [e2]
          · exact hn1
          · show (readF _ _ _ _ _).2 ≤ n; omega
          · exact h5
          · show (readF _ _ _ _ _).1.length ≤ (readF _ _ _ _ _).2; omega
          · exact hrd.2.2
          · exact ht
        · rw [if_neg h4] at e2; rw [e2] at h; exact absurd h h4
    · rw [openB, if_neg h2] at e1; rw [e1] at h; exact absurd h h2
  · rw [openF, if_neg h1] at h; exact absurd h h1
theorem openV_c (b m : Nat) (p : Option Addr) (c : Nat) (s : DS) (hl : s.loose.length ≤ 980000) (w0 : World) (hd : (dkI b m p c s).holds w0) :
    Ret Tryz.prog 54 [.pointer (some ⟨b, 0, none⟩)] w0 (dkI b m p c s).foot fun v w' =>
      ((openF s).2.1 ≠ 0 ∧ v = .tuple ⟨[.pointer none, .int .i64 (openF s).2.1]⟩ ∧ ∃ p' c', (dkI b m p' c' (openF s).1).holds w' ∧ ∀ k, (dkI b m p' c' (openF s).1).foot k → (dkI b m p c s).foot k ∨ w0.heap.size ≤ k) ∨
      ((openF s).2.1 = 0 ∧ ∃ g L, v = .tuple ⟨[.pointer (some ⟨g, 0, none⟩), .int .i64 0]⟩ ∧ L.m = m ∧ L.v = opnV s ∧ (lgI b g L).holds w' ∧ ∀ k, (lgI b g L).foot k → (dkI b m p c s).foot k ∨ w0.heap.size ≤ k) := by
  refine (open_c b m p c s w0 hl hd).mono fun v w' => ?_
  rintro (h | ⟨h0, g, p', c', q, e, x, hv, ⟨x1, x2, x3, x4, x5⟩, hh, hf⟩)
  · exact .inl h
  · refine .inr ⟨h0, g, ⟨m, p', c', (openF s).1, q, e, x⟩, hv, rfl, ?_, hh, hf⟩
    unfold LG.v opnV
    simp only [x1, x2, x4, x5, bsL, x3]
def fmtV (n : Nat) (s : DS) : LV := ⟨(fmtF n s).1, n, 0, [[]], 1, false⟩
theorem format_v (b m n : Nat) (p : Option Addr) (c : Nat) (s : DS) (hm : mayF s n = true) (hl : s.loose.length ≤ 980000) (w0 : World) (hd : (dkI b m p c s).holds w0) :
    Ret Tryz.prog 18 [.pointer (some ⟨b, 0, none⟩), .int .i64 (n : Int)] w0 (dkI b m p c s).foot fun v w' =>
      ((fmtF n s).2 ≠ 0 ∧ v = .tuple ⟨[.pointer none, .int .i64 (fmtF n s).2]⟩ ∧ ∃ p' c', (dkI b m p' c' (fmtF n s).1).holds w' ∧ ∀ k, (dkI b m p' c' (fmtF n s).1).foot k → (dkI b m p c s).foot k ∨ w0.heap.size ≤ k) ∨
      ((fmtF n s).2 = 0 ∧ ∃ g L, v = .tuple ⟨[.pointer (some ⟨g, 0, none⟩), .int .i64 0]⟩ ∧ L.m = m ∧ L.v = fmtV n s ∧ (lgI b g L).holds w' ∧ ∀ k, (lgI b g L).foot k → (dkI b m p c s).foot k ∨ w0.heap.size ≤ k) := by
  refine (format_c b m n p c s w0 hm hl hd).mono fun v w' => ?_
  rintro (h | ⟨h0, g, p', c', q, e, hv, hh, hf⟩)
  · exact .inl h
  · exact .inr ⟨h0, g, ⟨m, p', c', (fmtF n s).1, q, e, newW n⟩, hv, rfl, rfl, hh, hf⟩
theorem left_v (b g : Nat) (L : LG) (k : Nat) (h : L.v.Wf k) (w0 : World) (hd : (lgI b g L).holds w0) : Ret Tryz.prog 100 [.pointer (some ⟨g, 0, none⟩)] w0 (fun _ => False) fun v _ => v = .int .i64 ((L.v.n : Int) - L.v.fin) := by
  have h1 := h.n
  have h2 := h.fin
  have h3 := h.few
  have h4 := h.some_
  rw [v_len] at h3 h4
  exact wleft_c g b L.q L.e L.x ⟨by omega, h4⟩ (show L.v.fin ≤ _ by omega) h1 w0 (BoxF.stable hd.2.1.1 (fun h => h))
theorem broken_v (b g : Nat) (L : LG) (w0 : World) (hd : (lgI b g L).holds w0) : Ret Tryz.prog 99 [.pointer (some ⟨g, 0, none⟩)] w0 (fun _ => False) fun v _ => v = .bool L.v.broken :=
  wbroken_c g b L.q L.e L.x w0 (BoxF.stable hd.2.1.1 (fun h => h))
theorem snap_v (b g : Nat) (L : LG) (k : Nat) (h : L.v.Wf k) (w0 : World) (hd : (lgI b g L).holds w0) :
    Ret Tryz.prog 86 [.pointer (some ⟨g, 0, none⟩)] w0 (fun _ => False) fun v w' => ∃ bs p' c', L.v.said[0]? = some bs ∧ v = .slice p' bs.length c' ∧ w'.ownsRow 0 5 1 (.slice p' bs.length c') bs.length (encL bs) ∧ ∀ ad, p' = some ad → w0.heap.size ≤ ad.block := by
  have h4 := h.some_
  rw [v_len] at h4
  have hg := nthG_get h4
  have e0 : L.v.said[0]? = some (nthG L.x.said 0).bs := by
    show (bsL L.x.said)[0]? = _
    rw [bsL, List.getElem?_map, hg]; rfl
  have hs := h.short _ (List.mem_of_getElem? e0)
  have hent := (allBy_ent hd.2.1.2.1.2.1).imp fun _ h => h (nthG L.x.said 0) (List.mem_of_getElem? hg)
  refine (snap_c g b L.q L.e L.x (nthG L.x.said 0) h4 rfl (by omega) w0 (BoxF.stable hd.2.1.1 (fun h => h)) (gl_own hd.2.1.2.1.1 (fun _ _ _ _ => trivial) (fun _ _ h => h)) hent).mono fun v w' => ?_
  rintro ⟨p', c', h1, h2, h3⟩
  exact ⟨_, p', c', e0, h1, h2, h3⟩
end Go.Proofs.YtdakncgafdnjfaaGreat
namespace Go.Proofs.YtdakncgafdnjfaaGreat
open Go Go.Wk
set_option maxRecDepth 100000
def Cnt.ok (c : Cnt) : Prop := c.on = true → 0 ≤ c.left ∧ c.left ≤ 9223372036854775807
def bothC (f a : Cnt) : Cnt := if f.on then (if a.on then (if f.left ≤ a.left then f else a) else f) else a
theorem met_ok {c : Cnt} (h : c.ok) : (metF c).2.ok := by
  obtain ⟨on, left⟩ := c
  cases on with
  | false => intro h1; exact absurd h1 (by rw [metF, if_neg Bool.false_ne_true]; exact Bool.false_ne_true)
  | true =>
    have h1 := h rfl
    simp only [] at h1
    by_cases h0 : left = 0
    · intro h2; rw [metF, if_pos rfl, if_pos h0] at h2; cases h2
    · intro _
      rw [metF, if_pos rfl, if_neg h0]
      show 0 ≤ IntKind.i64.wrap (left - 1) ∧ IntKind.i64.wrap (left - 1) ≤ _
      rw [w64 _ (by omega) (by omega)]; omega
theorem met_both {f a : Cnt} (hf : f.ok) (ha : a.ok) : (metF (bothC f a)).1 = ((metF f).1 || (metF a).1) ∧ ((metF f).1 = false → (metF a).1 = false → (metF (bothC f a)).2 = bothC (metF f).2 (metF a).2) := by
  obtain ⟨fo, fl⟩ := f
  obtain ⟨ao, al⟩ := a
  cases fo with
  | false =>
    have e : bothC ⟨false, fl⟩ ⟨ao, al⟩ = ⟨ao, al⟩ := rfl
    have e2 : metF ⟨false, fl⟩ = (false, ⟨false, fl⟩) := rfl
    rw [e, e2]
    exact ⟨(Bool.false_or _).symm, fun _ _ => rfl⟩
  | true =>
    have h1 := hf rfl
    simp only [] at h1
    cases ao with
    | false =>
      have e : bothC ⟨true, fl⟩ ⟨false, al⟩ = ⟨true, fl⟩ := rfl
      have e2 : metF ⟨false, al⟩ = (false, ⟨false, al⟩) := rfl
      rw [e, e2]
      refine ⟨(Bool.or_false _).symm, fun h2 _ => ?_⟩
      by_cases h0 : fl = 0
      · rw [metF, if_pos rfl, if_pos h0] at h2; cases h2
      · rw [metF, if_pos rfl, if_neg h0]; rfl
    | true =>
      have h2 := ha rfl
      simp only [] at h2
      by_cases hle : fl ≤ al
      · have e : bothC ⟨true, fl⟩ ⟨true, al⟩ = ⟨true, fl⟩ := by rw [bothC, if_pos rfl, if_pos rfl]; exact if_pos hle
        rw [e]
        by_cases h0 : fl = 0
        · have e1 : metF ⟨true, fl⟩ = (true, ⟨false, 0⟩) := by rw [metF, if_pos rfl]; exact if_pos h0
          rw [e1]; exact ⟨(Bool.true_or _).symm, fun h => by cases h⟩
        · have e1 : metF ⟨true, fl⟩ = (false, ⟨true, fl - 1⟩) := by rw [metF, if_pos rfl]; show (if fl = 0 then _ else (false, (⟨true, IntKind.i64.wrap (fl - 1)⟩ : Cnt))) = _; rw [if_neg h0, w64 _ (by omega) (by omega)]
          have e3 : metF ⟨true, al⟩ = (false, ⟨true, al - 1⟩) := by rw [metF, if_pos rfl]; show (if al = 0 then _ else (false, (⟨true, IntKind.i64.wrap (al - 1)⟩ : Cnt))) = _; rw [if_neg (by omega), w64 _ (by omega) (by omega)]
          rw [e1, e3]
          refine ⟨rfl, fun _ _ => ?_⟩
          show (⟨true, fl - 1⟩ : Cnt) = if fl - 1 ≤ al - 1 then _ else _
          rw [if_pos (by omega)]
      · have e : bothC ⟨true, fl⟩ ⟨true, al⟩ = ⟨true, al⟩ := by rw [bothC, if_pos rfl, if_pos rfl]; exact if_neg hle
        rw [e]
        by_cases h0 : al = 0
        · have e1 : metF ⟨true, al⟩ = (true, ⟨false, 0⟩) := by rw [metF, if_pos rfl]; exact if_pos h0
          rw [e1]; exact ⟨(Bool.or_true _).symm, fun _ h => by cases h⟩
        · have e1 : metF ⟨true, fl⟩ = (false, ⟨true, fl - 1⟩) := by rw [metF, if_pos rfl]; show (if fl = 0 then _ else (false, (⟨true, IntKind.i64.wrap (fl - 1)⟩ : Cnt))) = _; rw [if_neg (by omega), w64 _ (by omega) (by omega)]
          have e3 : metF ⟨true, al⟩ = (false, ⟨true, al - 1⟩) := by rw [metF, if_pos rfl]; show (if al = 0 then _ else (false, (⟨true, IntKind.i64.wrap (al - 1)⟩ : Cnt))) = _; rw [if_neg h0, w64 _ (by omega) (by omega)]
          rw [e1, e3]
          refine ⟨rfl, fun _ _ => ?_⟩
          show (⟨true, al - 1⟩ : Cnt) = if fl - 1 ≤ al - 1 then _ else _
          rw [if_neg (by omega)]
structure Same3 (r r' : DS) : Prop where
  loose : r.loose = r'.loose
  firm : r.firm = r'.firm
  size : r.size = r'.size
structure Sim (s s' : DS) : Prop where
  same : Same3 s s'
  on : s.out = false
  up : Up s'
  arms : s'.arms = bothC s.fails s.arms
  okf : s.fails.ok
  oka : s.arms.ok
theorem askD_same (s : DS) (k : Int) (b : Bool) : Same3 (askD s k b) s := by
  unfold askD
  split
  · exact ⟨rfl, rfl, rfl⟩
  · split
    · exact ⟨rfl, rfl, rfl⟩
    · split
      · exact ⟨rfl, rfl, rfl⟩
      · split
        · split <;> exact ⟨rfl, rfl, rfl⟩
        · exact ⟨rfl, rfl, rfl⟩
theorem Same3.tr {a b c d : DS} (h : Same3 b c) (h1 : Same3 a b) (h2 : Same3 d c) : Same3 a d := ⟨h1.loose.trans (h.loose.trans h2.loose.symm), h1.firm.trans (h.firm.trans h2.firm.symm), h1.size.trans (h.size.trans h2.size.symm)⟩
theorem ask_sim {s s' : DS} (h : Sim s s') {k : Int} (hk : 0 ≤ k ∧ k < s.size) :
    (askE s k true = 0 ∧ askE s' k true = 0 ∧ Sim (askD s k true) (askD s' k true)) ∨ (askE s k true ≠ 0 ∧ askE s' k true ≠ 0 ∧ Same3 (askD s k true) (askD s' k true)) := by
  have hs3 : Same3 (askD s k true) (askD s' k true) := h.same.tr (askD_same s k true) (askD_same s' k true)
  have hk' : 0 ≤ k ∧ k < s'.size := by rw [← h.same.size]; exact hk
  have e' := ask_up h.up hk' true
  have d' := askD_up h.up hk'
  obtain ⟨m1, m2⟩ := met_both h.okf h.oka
  rw [← h.arms] at m1 m2
  have hit' : hit s' = ((metF s.fails).1 || (metF s.arms).1) := m1
  have e : askE s k true = if (metF s.fails).1 then 8 else if (metF s.arms).1 then 9 else 0 := by
    rw [askE, if_neg (by rw [h.on]; exact Bool.false_ne_true), if_neg (by omega), Bool.true_and]
  have d : askD s k true = if (metF s.fails).1 then { s with fails := (metF s.fails).2 } else (if (metF s.arms).1 then { s with fails := (metF s.fails).2, arms := (metF s.arms).2, out := true } else { s with fails := (metF s.fails).2, arms := (metF s.arms).2 }) := by
    rw [askD, if_neg (by rw [h.on]; exact Bool.false_ne_true), if_neg (by omega), if_pos rfl]
  cases hf : (metF s.fails).1 with
  | true =>
    rw [hf] at e hit'
    rw [hit'] at e'
    exact .inr ⟨by rw [e]; simp, by rw [e']; simp, hs3⟩
  | false =>
    cases ha : (metF s.arms).1 with
    | true =>
      rw [hf, ha] at e hit'
      rw [hit'] at e'
      exact .inr ⟨by rw [e]; simp, by rw [e']; simp, hs3⟩
    | false =>
      rw [hf, ha] at e hit' d
      rw [hit'] at e' d'
      refine .inl ⟨e, e', hs3, ?_, ?_, ?_, ?_, ?_⟩
      · rw [d]; exact h.on
      · rw [d']; exact ⟨h.up.on, h.up.fit⟩
      · rw [d, d']; exact m2 hf ha
      · rw [d]; exact met_ok h.okf
      · rw [d]; exact met_ok h.oka
theorem wr_sim {s s' : DS} (h : Sim s s') {k : Int} (x : Blk) (hk : 0 ≤ k ∧ k < s.size) :
    (askE s k true = 0 ∧ askE s' k true = 0 ∧ Sim (wrD s k x) (wrD s' k x)) ∨ (askE s k true ≠ 0 ∧ askE s' k true ≠ 0 ∧ Same3 (wrD s k x) (wrD s' k x)) := by
  rcases ask_sim h hk with ⟨h1, h2, h3⟩ | ⟨h1, h2, h3⟩
  · refine .inl ⟨h1, h2, ?_⟩
    rw [wrD, askedD, if_pos h1, wrD, askedD, if_pos h2]
    exact ⟨⟨by show _ ++ _ = _ ++ _; rw [h3.same.loose], h3.same.firm, h3.same.size⟩, h3.on, ⟨h3.up.on, h3.up.fit⟩, h3.arms, h3.okf, h3.oka⟩
  · refine .inr ⟨h1, h2, ?_⟩
    rw [wrD, askedD, if_neg h1, wrD, askedD, if_neg h2]; exact h3
theorem sy_sim {s s' : DS} (h : Sim s s') (hk : 0 < s.size) :
    (askE s 0 true = 0 ∧ askE s' 0 true = 0 ∧ Sim (syD s) (syD s')) ∨ (askE s 0 true ≠ 0 ∧ askE s' 0 true ≠ 0 ∧ Same3 (syD s) (syD s')) := by
  rcases ask_sim h (k := 0) ⟨Int.le_refl _, hk⟩ with ⟨h1, h2, h3⟩ | ⟨h1, h2, h3⟩
  · refine .inl ⟨h1, h2, ?_⟩
    rw [syD, askedD, if_pos h1, syD, askedD, if_pos h2]
    refine ⟨⟨rfl, ?_, h3.same.size⟩, h3.on, ⟨h3.up.on, h3.up.fit⟩, h3.arms, h3.okf, h3.oka⟩
    show settleK _ _ _ _ = settleK _ _ _ _
    rw [h3.same.loose, h3.same.firm]
  · refine .inr ⟨h1, h2, ?_⟩
    rw [syD, askedD, if_neg h1, syD, askedD, if_neg h2]; exact h3
theorem layW_sim : ∀ (xs : List Blk) {s s' : DS} (k : Nat), Sim s s' → ((k + xs.length : Nat) : Int) ≤ s.size →
    ((layW s k xs).2 = 0 ∧ (layW s' k xs).2 = 0 ∧ Sim (layW s k xs).1 (layW s' k xs).1) ∨ ((layW s k xs).2 ≠ 0 ∧ (layW s' k xs).2 ≠ 0 ∧ Same3 (layW s k xs).1 (layW s' k xs).1)
  | [], _, _, _, h, _ => .inl ⟨rfl, rfl, h⟩
  | x :: xs, s, s', k, h, hk => by
    simp only [List.length_cons] at hk
    rw [layW, layW]
    rcases wr_sim h (k := (k : Int)) x (by omega) with ⟨h1, h2, h3⟩ | ⟨h1, h2, h3⟩
    · rw [if_pos h1, if_pos h2]
      have hsz : (wrD s k x).size = s.size := by
        have e : wrD s k x = opD (writeD (askD s k true) k x) := by rw [wrD, askedD, if_pos h1]
        rw [e]; exact (askD_same s k true).size
      exact layW_sim xs (k + 1) h3 (by rw [hsz]; omega)
    · rw [if_neg h1, if_neg h2]; exact .inr ⟨h1, h2, h3⟩
theorem layW_size : ∀ (xs : List Blk) (s : DS) (k : Int), (layW s k xs).1.size = s.size
  | [], _, _ => rfl
  | x :: xs, s, k => by
    have e : (wrD s k x).size = s.size := by
      rw [wrD, askedD]
      split
      · exact (askD_same s k true).size
      · exact (askD_same s k true).size
    rw [layW]
    split
    · rw [layW_size xs]; exact e
    · exact e
theorem layF_sim (xs : List Blk) {s s' : DS} (k : Nat) (h : Sim s s') (h0 : 0 < s.size) (hk : ((k + xs.length : Nat) : Int) ≤ s.size) :
    ((layF s k xs).2 = 0 ∧ (layF s' k xs).2 = 0 ∧ Sim (layF s k xs).1 (layF s' k xs).1) ∨ ((layF s k xs).2 ≠ 0 ∧ (layF s' k xs).2 ≠ 0 ∧ Same3 (layF s k xs).1 (layF s' k xs).1) := by
  rw [layF, layF]
  rcases layW_sim xs k h hk with ⟨h1, h2, h3⟩ | ⟨h1, h2, h3⟩
  · rw [if_pos h1, if_pos h2]
    exact sy_sim h3 (by rw [layW_size]; exact h0)
  · rw [if_neg h1, if_neg h2]; exact .inr ⟨h1, h2, h3⟩
theorem layF_size (s : DS) (k : Int) (xs : List Blk) : (layF s k xs).1.size = s.size := by
  rw [layF]
  split
  · show (syD _).size = _
    rw [← layW_size xs s k, syD, askedD]
    split
    · exact (askD_same _ _ _).size
    · exact (askD_same _ _ _).size
  · exact layW_size xs s k
theorem begF_sim (n : Nat) (t : Int) (bs : List UInt8) {s s' : DS} (h : Sim s s') (hn : n ≤ 1000) (hb : secN bs.length ≤ n) (hk : ((2 * n + 2 : Nat) : Int) ≤ s.size) :
    ((begF n t bs s).2 = 0 ∧ (begF n t bs s').2 = 0 ∧ Sim (begF n t bs s).1 (begF n t bs s').1) ∨ ((begF n t bs s).2 ≠ 0 ∧ (begF n t bs s').2 ≠ 0 ∧ Same3 (begF n t bs s).1 (begF n t bs s').1) := by
  have hfb := from_bound t hn
  have e : ∀ s, begF n t bs s = if (layF s (fromN n t : Nat) (leavesF t 0 bs)).2 = 0 then layF (layF s (fromN n t : Nat) (leavesF t 0 bs)).1 ((t % 2).toNat : Nat) [titleF t n] else layF s (fromN n t : Nat) (leavesF t 0 bs) := fun s => rfl
  rw [e s, e s']
  rcases layF_sim (leavesF t 0 bs) (fromN n t) h (by omega) (by rw [leavesF_len]; omega) with ⟨h1, h2, h3⟩ | ⟨h1, h2, h3⟩
  · rw [if_pos h1, if_pos h2]
    exact layF_sim [titleF t n] (t % 2).toNat h3 (by rw [layF_size]; omega) (by rw [layF_size]; simp only [List.length_singleton]; omega)
  · rw [if_neg h1, if_neg h2]; exact .inr ⟨h1, h2, h3⟩
theorem holds_same {r r' : DS} (h : Same3 r r') (j : Int) : holdsF r j = holdsF r' j := by rw [holdsF, holdsF, h.loose, h.firm]
theorem crash_same (l : List Bool) {r r' : DS} (h : Same3 r r') : Same3 (crashD l r) (crashD l r') := ⟨rfl, by show settleK _ _ _ _ = settleK _ _ _ _; rw [h.loose, h.firm], h.size⟩
theorem able_same {r r' : DS} {n : Nat} {t : Int} {said : List (List UInt8)} (h : Same3 r r') (hu : Up r) (ha : Able r' n t said) : Able r n t said := by
  obtain ⟨tail, hL, h1, h2⟩ := ha
  exact ⟨tail, hL.same hu (h.loose.trans hL.loose) h.size (holds_same h), h1, h2⟩
theorem able_crash (l : List Bool) {r r' : DS} {n : Nat} {t : Int} {said : List (List UInt8)} (h : Same3 r r') (ha : Able (crashD l r') n t said) : Able (crashD l r) n t said := able_same (crash_same l h) ⟨rfl, rfl⟩ ha
def LiveF (s : DS) (n : Nat) (t : Int) (said : List (List UInt8)) : Prop := ∃ s', Sim s s' ∧ Live s' n t said
theorem Live.liveF {s : DS} {n : Nat} {t : Int} {said : List (List UInt8)} (h : Live s n t said) (ha : s.arms.ok) : LiveF s n t said := by
  obtain ⟨tail, hL, _⟩ := id h
  refine ⟨s, ⟨⟨rfl, rfl, rfl⟩, hL.up.on, hL.up, ?_, ?_, ha⟩, h⟩
  · rw [bothC, if_neg (by rw [hL.up.fit]; exact Bool.false_ne_true)]
  · intro h1; rw [hL.up.fit] at h1; cases h1
theorem LiveF.set {s : DS} {n : Nat} {t : Int} {said : List (List UInt8)} (h : LiveF s n t said) (f a : Cnt) (hf : f.ok) (ha : a.ok) : LiveF { s with fails := f, arms := a } n t said := by
  obtain ⟨s', hs, tail, hL, hfr⟩ := h
  refine ⟨{ s' with arms := bothC f a }, ⟨⟨hs.same.loose, hs.same.firm, hs.same.size⟩, hs.on, ⟨hs.up.on, hs.up.fit⟩, rfl, hf, ha⟩, tail, hL.same ⟨hs.up.on, hs.up.fit⟩ hL.loose rfl (fun j => rfl), hfr⟩
theorem LiveF.crash {s : DS} {n : Nat} {t : Int} {said : List (List UInt8)} (h : LiveF s n t said) (keep : List Bool) : Able (crashD keep s) n t said := by
  obtain ⟨s', hs, hl⟩ := h
  refine able_crash keep hs.same ?_
  obtain ⟨tail, hL, hfr⟩ := hl
  exact Live.able ⟨tail, crash_live keep hL, hfr⟩
theorem append_liveF {s : DS} {n : Nat} {t : Int} {said : List (List UInt8)} (h : LiveF s n t said) (bs : List UInt8) (hb : bs.length ≤ 40000) (hr : endF t said + secN bs.length ≤ n) :
    ((layF s ((fromN n t + endF t said : Nat) : Int) (leavesF t (said.length : Nat) bs)).2 = 0 ∧ LiveF (layF s ((fromN n t + endF t said : Nat) : Int) (leavesF t (said.length : Nat) bs)).1 n t (said ++ [bs])) ∨
    ((layF s ((fromN n t + endF t said : Nat) : Int) (leavesF t (said.length : Nat) bs)).2 ≠ 0 ∧ ∀ keep, Able (crashD keep (layF s ((fromN n t + endF t said : Nat) : Int) (leavesF t (said.length : Nat) bs)).1) n t said ∨ Able (crashD keep (layF s ((fromN n t + endF t said : Nat) : Int) (leavesF t (said.length : Nat) bs)).1) n t (said ++ [bs])) := by
  obtain ⟨s', hs, hl⟩ := h
  obtain ⟨tail, hL, hfr0⟩ := id hl
  have hsz := hL.size
  have hfb := from_bound t hL.hn.2
  have hn := hL.hn
  have h1 := append_live hl bs hb hr
  have h2 := layF_sim (leavesF t (said.length : Nat) bs) (fromN n t + endF t said) hs (by rw [hs.same.size]; omega) (by rw [hs.same.size, leavesF_len]; omega)
  rcases h2 with ⟨e1, e2, e3⟩ | ⟨e1, e2, e3⟩
  · rcases h1 with ⟨a1, a2, _⟩ | ⟨_, a1, _, _⟩
    · exact .inl ⟨e1, _, e3, a2⟩
    · rw [e2] at a1; cases a1
  · rcases h1 with ⟨a1, _, _⟩ | ⟨_, _, _, a2⟩
    · exact absurd a1 e2
    · exact .inr ⟨e1, fun keep => (a2 keep).imp (able_crash keep e3) (able_crash keep e3)⟩
theorem chk_liveF {s : DS} {n : Nat} {t : Int} {said : List (List UInt8)} (h : LiveF s n t said) (bs : List UInt8) (hb : bs.length ≤ 40000) (hr : secN bs.length ≤ n) (ht : t + 1 ≤ 4294967295) :
    ((begF n (t + 1) bs s).2 = 0 ∧ LiveF (begF n (t + 1) bs s).1 n (t + 1) [bs]) ∨
    ((begF n (t + 1) bs s).2 ≠ 0 ∧ ∀ keep, Able (crashD keep (begF n (t + 1) bs s).1) n t said ∨ Able (crashD keep (begF n (t + 1) bs s).1) n (t + 1) [bs]) := by
  obtain ⟨s', hs, hl⟩ := h
  obtain ⟨tail, hL, hfr0⟩ := id hl
  have hsz := hL.size
  have hn := hL.hn
  have h1 := chk_live hl bs hb hr ht
  have h2 := begF_sim n (t + 1) bs hs hn.2 hr (by rw [hs.same.size]; exact hsz)
  rcases h2 with ⟨e1, e2, e3⟩ | ⟨e1, e2, e3⟩
  · rcases h1 with ⟨a1, a2, _⟩ | ⟨_, a1, _, _⟩
    · exact .inl ⟨e1, _, e3, a2⟩
    · rw [e2] at a1; cases a1
  · rcases h1 with ⟨a1, _, _⟩ | ⟨_, _, _, a2⟩
    · exact absurd a1 e2
    · exact .inr ⟨e1, fun keep => (a2 keep).imp (able_crash keep e3) (able_crash keep e3)⟩
end Go.Proofs.YtdakncgafdnjfaaGreat
namespace Go.Proofs.YtdakncgafdnjfaaGreat
open Go Go.Wk
set_option synthInstance.maxSize 100000
set_option synthInstance.maxHeartbeats 400000
set_option maxRecDepth 100000
def fitsV (V : LV) (bs : List UInt8) : Bool := decide (0 < secF (bs.length : Int)) && decide (secF (bs.length : Int) ≤ (V.n : Int) - V.fin)
def putR (V : LV) (rows l : List PRow) : LV × Int := if fitsV V (encP l) then appV V (encP l) else chkV V (encP (behP rows l))
def putV (V : LV) (rows l : List PRow) : LV × List PRow × Int :=
  if V.broken then (V, rows, 8) else
  if batchP l = false then (V, rows, 2) else
  if 64 < (behP rows l).length then (V, rows, 6) else
  ((putR V rows l).1, if (putR V rows l).2 = 0 then behP rows l else rows, (putR V rows l).2)
theorem secF_pos {n : Int} (h : 0 < secF n) : 0 ≤ n ∧ n ≤ 40000 := by
  unfold secF at h
  split at h
  · omega
  · omega
theorem putR_wf {V : LV} {k : Nat} (h : V.Wf k) (rows l : List PRow) : (putR V rows l).1.Wf (k + 840) := by
  unfold putR; split
  · exact appV_wf h _
  · exact chkV_wf h _
theorem putV_wf {V : LV} {k : Nat} (h : V.Wf k) (rows l : List PRow) : (putV V rows l).1.Wf (k + 840) := by
  unfold putV
  split
  · exact h.more (by omega)
  · split
    · exact h.more (by omega)
    · split
      · exact h.more (by omega)
      · exact putR_wf h _ _
theorem putV_kept {V : LV} {rows l : List PRow} (h : KeptP rows) (hl : rows.length ≤ 64) : KeptP (putV V rows l).2.1 ∧ (putV V rows l).2.1.length ≤ 64 := by
  unfold putV
  split
  · exact ⟨h, hl⟩
  · split
    · exact ⟨h, hl⟩
    · split
      · exact ⟨h, hl⟩
      · rename_i hb hn
        show KeptP (if (putR V rows l).2 = 0 then behP rows l else rows) ∧ (if (putR V rows l).2 = 0 then behP rows l else rows).length ≤ 64
        split
        · exact ⟨keptP_beh h (by simpa using hb), by omega⟩
        · exact ⟨h, hl⟩
theorem encP_len {l : List PRow} (h : batchP l = true) : (encP l).length ≤ 4200000 := by
  rw [batchP, Bool.and_eq_true, decide_eq_true_eq] at h
  have h1 := rowsB_len l (goodP_all _ _ h.1)
  rw [encP, List.length_cons]
  omega
end Go.Proofs.YtdakncgafdnjfaaGreat
namespace Go.Proofs.YtdakncgafdnjfaaGreat
open Go Go.Wk
set_option synthInstance.maxSize 100000
set_option synthInstance.maxHeartbeats 400000
set_option maxRecDepth 100000
structure LvOk (V : LV) (n : Nat) (t : Int) (said : List (List UInt8)) : Prop where
  num : V.n = n
  turn : V.turn = t
  says : V.said = said
  fin : V.fin = endF t said
  whole : V.broken = false
  live : LiveF V.s n t said
theorem LvOk.wf {V : LV} {n : Nat} {t : Int} {said : List (List UInt8)} (h : LvOk V n t said) : V.Wf 0 := by
  obtain ⟨s', hs, tail, hL, -⟩ := h.live
  have hlen := hL.len
  have hfew := hL.few
  have hll := laid_len t said 0
  refine ⟨by rw [h.num]; exact hL.hn.2, by rw [h.num, h.fin]; omega, by rw [h.says]; exact hfew.2, by rw [h.says, h.fin]; exact hll, by rw [h.says]; exact hL.short, by rw [h.turn]; exact hL.ht, ?_⟩
  rw [hs.same.loose, hL.loose]; exact Nat.le_refl _
structure LvOff (V : LV) (n : Nat) (t : Int) (said : List (List UInt8)) : Prop where
  ok : LvOk V n t said
  live : Live V.s n t said
  off : V.s.arms.on = false
theorem fmt_lv (n : Nat) (hn : 4 ≤ n ∧ n ≤ 1000) : LvOff (fmtV n (newD ((2 * n + 2 : Nat) : Int))) n 0 [[]] := by
  obtain ⟨h1, h2, h3⟩ := format_live n hn
  exact ⟨⟨rfl, rfl, rfl, rfl, rfl, h2.liveF (fun h => by rw [h3] at h; cases h)⟩, h2, h3⟩
theorem room_lv {V : LV} {n : Nat} {t : Int} {said : List (List UInt8)} (h : LvOk V n t said) (bs : List UInt8) (hb : bs.length ≤ 40000) : roomF V.x bs = if n < endF t said + secN bs.length then 6 else 0 := by
  obtain ⟨q1, q2, q3, q4, q5, q6⟩ := h
  obtain ⟨s, n', turn, said', fin, broken⟩ := V
  simp only at q1 q2 q3 q4 q5 q6
  subst q1 q2 q3 q4 q5
  have e1 : refF (LV.x ⟨s, n', turn, said', endF turn said', false⟩) bs = 0 := by
    rw [refF, if_neg (by omega)]; rfl
  obtain ⟨s', hs, tail, hL, -⟩ := q6
  have hlen := hL.len
  have hll := laid_len turn said' 0
  rw [roomF, if_pos e1]
  show (if n' - endF turn said' < secN bs.length then (6 : Int) else 0) = _
  by_cases h : n' < endF turn said' + secN bs.length
  · rw [if_pos h, if_pos (by omega)]
  · rw [if_neg h, if_neg (by have : endF turn said' ≤ n' := by omega
                             omega)]
theorem app_off {V : LV} {n : Nat} {t : Int} {said : List (List UInt8)} (h : LvOff V n t said) (bs : List UInt8) (hb : bs.length ≤ 40000) (hr : endF t said + secN bs.length ≤ n) :
    (appV V bs).2 = 0 ∧ LvOff (appV V bs).1 n t (said ++ [bs]) := by
  have hroom := room_lv h.ok bs hb
  rw [if_neg (by omega)] at hroom
  obtain ⟨⟨q1, q2, q3, q4, q5, q6⟩, hl, ho⟩ := h
  obtain ⟨s, n', turn, said', fin, broken⟩ := V
  simp only at q1 q2 q3 q4 q5 q6 hl ho hroom
  subst q1 q2 q3 q4 q5
  obtain ⟨a1, a2, a3⟩ := (append_live hl bs hb hr).resolve_right (fun h => by rw [ho] at h; cases h.1)
  have he : endF turn (said' ++ [bs]) = endF turn said' + secN bs.length := by
    rw [endF_sum, endF_sum, List.map_append, List.sum_append]; simp
  unfold appV
  rw [if_neg (fun h => h hroom), if_pos a1]
  exact ⟨rfl, ⟨⟨rfl, rfl, rfl, he.symm, rfl, a2.liveF (fun h => by rw [a3 ho] at h; cases h)⟩, a2, a3 ho⟩⟩
theorem fits_lv {V : LV} {n : Nat} {t : Int} {said : List (List UInt8)} (h : LvOk V n t said) (bs : List UInt8) : fitsV V bs = true ↔ bs.length ≤ 40000 ∧ endF t said + secN bs.length ≤ n := by
  obtain ⟨s', hs, tail, hL, -⟩ := h.live
  have hlen := hL.len
  have hll := laid_len t said 0
  have hsp := secN_pos bs.length
  rw [fitsV, Bool.and_eq_true, decide_eq_true_eq, decide_eq_true_eq, h.num, h.fin]
  constructor
  · rintro ⟨h1, h2⟩
    have h3 := (secF_pos h1).2
    rw [secF_nat _ (by omega)] at h2
    exact ⟨by omega, by omega⟩
  · rintro ⟨h1, h2⟩
    rw [secF_nat _ h1]
    omega
theorem putV_off {V : LV} {n : Nat} {t : Int} {said : List (List UInt8)} (h : LvOff V n t said) (rows l : List PRow) (hB : batchP l = true) (hle : (behP rows l).length ≤ 64) (hb : (encP l).length ≤ 40000) (hr : endF t said + secN (encP l).length ≤ n) :
    (putV V rows l).2.2 = 0 ∧ (putV V rows l).2.1 = behP rows l ∧ LvOff (putV V rows l).1 n t (said ++ [encP l]) := by
  have hf := (fits_lv h.ok (encP l)).2 ⟨hb, hr⟩
  obtain ⟨a1, a2⟩ := app_off h (encP l) hb hr
  have e : putR V rows l = appV V (encP l) := by rw [putR, if_pos hf]
  rw [putV, if_neg (by rw [h.ok.whole]; simp), if_neg (by rw [hB]; simp), if_neg (by omega), e]
  exact ⟨a1, by rw [if_pos a1], a2⟩
def wk1 : List PRow := [⟨[97], .mk 1 0 0 [120] []⟩, ⟨[98], .mk 3 1 0 [] []⟩]
def wk2 : List PRow := [⟨[97], zeroT⟩]
theorem wk1_ok : batchP wk1 = true ∧ behP [] wk1 = wk1 ∧ (encP wk1).length = 14 := by
  refine ⟨by decide, by rfl, by decide⟩
theorem wk2_ok : batchP wk2 = true ∧ behP wk1 wk2 = [⟨[98], .mk 3 1 0 [] []⟩] ∧ (encP wk2).length = 5 := by
  refine ⟨by decide, by rfl, by decide⟩
end Go.Proofs.YtdakncgafdnjfaaGreat
namespace Go.Proofs.YtdakncgafdnjfaaGreat
open Go Go.Wk
set_option synthInstance.maxSize 100000
set_option synthInstance.maxHeartbeats 400000
set_option maxRecDepth 100000
structure VT where
  L : LG
  p : Option Addr
  c : Nat
  xs : List LRow
abbrev cVt (g : Nat) (V : VT) : List Value := [.pointer (some ⟨g, 0, none⟩), .slice V.p V.xs.length V.c]
abbrev rwI (V : VT) : Wk.Item := Wk.row 150 6 V.p V.xs.length V.c (encL V.xs)
abbrev vtI (h b g : Nat) (V : VT) : Wk.Item := both (Wk.box h 144 (cVt g V)) (both (lgI b g V.L) (rwI V))
def encE (l : List PRow) : Int := if batchP l then 0 else 2
def encQ (l : List PRow) : List UInt8 := if batchP l then encP l else []
theorem vencode_q (xs : List LRow) (p : Option Addr) (n c : Nat) (w0 : World) (hn : xs.length = n) (hc : n ≤ c) (hl : ∀ x ∈ xs, x.name.length ≤ 9223372036854775807) (hll : n ≤ 9223372036854775807) (hx : Stable (fun _ => False) w0 (GlF p xs)) :
    Ret Tryz.prog 14 [.slice p n c] w0 (fun _ => False) fun v w' => ∃ (p' : Option Addr) (c' : Nat), v = .tuple ⟨[.slice p' (encQ (rsP xs)).length c', .int .i64 (encE (rsP xs))]⟩ ∧ w'.ownsRow 0 5 1 (.slice p' (encQ (rsP xs)).length c') (encQ (rsP xs)).length (encL (encQ (rsP xs))) ∧ ∀ ad, p' = some ad → w0.heap.size ≤ ad.block := by
  refine (vencode_c xs p n c w0 hn hc hl hll hx).mono fun v w' => ?_
  rintro (⟨hb, rfl⟩ | ⟨hb, h⟩)
  · rw [encQ, encE, hb]
    exact ⟨none, 0, rfl, World.ownsRow_nil _ _ _ _, fun _ h => by cases h⟩
  · rw [encQ, encE, hb]
    exact h
theorem vput_c (h b g : Nat) (V : VT) (l : List LRow) (q : Option Addr) (d k : Nat) (hwf : V.L.v.Wf k) (hk : k ≤ 970000) (hkp : KeptP (rsP V.xs)) (hxl : V.xs.length ≤ 64) (hll : l.length ≤ 200) (hnl : ∀ x ∈ l, x.name.length ≤ 9223372036854775807) (hdl : l.length ≤ d) (w0 : World) (hd : (vtI h b g V).holds w0) (fA : Stable (vtI h b g V).foot w0 (AllI V.xs)) (fl : Stable (vtI h b g V).foot w0 (GlF q l)) :
    Ret Tryz.prog 29 [.pointer (some ⟨h, 0, none⟩), .slice q l.length d] w0 (vtI h b g V).foot fun v w' => ∃ V', v = .int .i64 (putV V.L.v (rsP V.xs) (rsP l)).2.2 ∧ (vtI h b g V').holds w' ∧ (∀ k, (vtI h b g V').foot k → (vtI h b g V).foot k ∨ w0.heap.size ≤ k) ∧ V'.L.m = V.L.m ∧ V'.L.v = (putV V.L.v (rsP V.xs) (rsP l)).1 ∧ rsP V'.xs = (putV V.L.v (rsP V.xs) (rsP l)).2.1 ∧ ∀ y ∈ V'.xs, y ∈ V.xs ∨ y ∈ l := by
  obtain ⟨L, p, c, xs⟩ := V
  have hxl : xs.length ≤ 64 := hxl
  have hkp : KeptP (rsP xs) := hkp
  have hwf : L.v.Wf k := hwf
  have hn1 := hwf.n
  have hn2 := hwf.fin
  refine enter Tryz.func29 rfl rfl (Wd.it2Lent (x := Wk.box h 144 (cVt g ⟨L, p, c, xs⟩)) (y := both (lgI b g L) (rwI ⟨L, p, c, xs⟩)) (fs := [AllI xs, GlF q l]) hd rfl rfl (by simp; exact ⟨fA, fl⟩)) (fun a S => ?_)
  simp only [Tryz.ntmps29, List.length_cons, List.length_nil, Nat.reduceAdd, Nat.reduceSub, List.replicate_succ, List.replicate_zero, List.cons_append, List.nil_append] at S
  refine c_seq ?_
  refine c_region ?_
  refine sq S ?_; clear S; intro a S
  refine wl_nil ?_
  refine xtn ?_
  refine c_seq ?_
  refine c_block ?_
  refine c_seq ?_
  refine c_region ?_
  iterate 3 (refine sq S ?_; clear S; intro a S)
  refine wl_nil ?_
  refine xtn ?_
  refine c_condF S ?_
  refine c_seq ?_
  refine c_region ?_
  iterate 4 (refine sq S ?_; clear S; intro a S)
  replace S := S.front (both (lgI b g L) (rwI ⟨L, p, c, xs⟩))
  replace S := S.ofBoth
  refine sr S (broken_v b g L _ (S.it (lgI b g L))) ?_; clear S; rintro _ a w rfl S
  refine sq S ?_; clear S; intro a S
  refine wl_nil ?_
  refine xtn ?_
  refine c_cond S (fun h3 => ?_) (fun h3 => ?_)
  · refine c_seq ?_
    refine c_region ?_
    refine sq S ?_; clear S; intro a S
    refine wl_nil ?_
    refine xtn ?_
    refine c_ret ?_
    refine xbr ?_
    refine xtr ?_
    have hv : putV L.v (rsP xs) (rsP l) = (L.v, rsP xs, 8) := by rw [putV, if_pos h3]
    replace S := (((S.front (rwI ⟨L, p, c, xs⟩)).front (lgI b g L)).toBoth.front (Wk.box h 144 (cVt g ⟨L, p, c, xs⟩))).toBoth
    have h1 := S.it (vtI h b g ⟨L, p, c, xs⟩)
    have h2 := S.itNew (vtI h b g ⟨L, p, c, xs⟩) rfl
    exact end1 S (fun _ => ⟨⟨L, p, c, xs⟩, by rw [hv], h1, h2, rfl, by rw [hv], by rw [hv], fun y hy => .inl hy⟩)
  · refine c_skip ?_
    refine xbn ?_
    refine xtn ?_
    refine c_seq ?_
    refine c_region ?_
    refine sq S ?_; clear S; intro a S
    have hbr : ¬ L.v.broken = true := by simpa using h3
    refine srn S (vencode_q l q l.length d _ rfl hdl hnl (by omega) (S.gl0 q)) ?_; clear S; rintro _ a w ⟨p5, c5, rfl, hown, hnew⟩ hS -
    have S := hS hown hnew
    clear hS
    iterate 5 (refine sq S ?_; clear S; intro a S)
    refine wl_nil ?_
    refine xtn ?_
    iterate 2 (refine c_seq ?_)
    refine c_region ?_
    iterate 2 (refine sq S ?_; clear S; intro a S)
    refine wl_nil ?_
    refine xtn ?_
    refine c_cond S (fun h6 => ?_) (fun h6 => ?_)
    · refine c_seq ?_
      refine c_region ?_
      iterate 2 (refine sq S ?_; clear S; intro a S)
      refine wl_nil ?_
      refine xtn ?_
      refine c_ret ?_
      refine xtr ?_
      have hB : batchP (rsP l) = false := by
        cases hb : batchP (rsP l) with
        | false => rfl
        | true => rw [encE, hb] at h6; simp at h6
      have hv : putV L.v (rsP xs) (rsP l) = (L.v, rsP xs, 2) := by rw [putV, if_neg hbr, if_pos hB]
      have he : encE (rsP l) = 2 := by rw [encE, hB]; rfl
      replace S := (((S.front (rwI ⟨L, p, c, xs⟩)).front (lgI b g L)).toBoth.front (Wk.box h 144 (cVt g ⟨L, p, c, xs⟩))).toBoth
      have h1 := S.it (vtI h b g ⟨L, p, c, xs⟩)
      have h2 := S.itNew (vtI h b g ⟨L, p, c, xs⟩) rfl
      exact end1 S (fun _ => ⟨⟨L, p, c, xs⟩, by rw [hv, he], h1, h2, rfl, by rw [hv], by rw [hv], fun y hy => .inl hy⟩)
    · refine c_skip ?_
      refine xtn ?_
      refine c_seq ?_
      have hB : batchP (rsP l) = true := by
        cases hb : batchP (rsP l) with
        | true => rfl
        | false => rw [encE, hb] at h6; simp at h6
      have hQ : encQ (rsP l) = encP (rsP l) := by rw [encQ, hB]; rfl
      have hQl := encP_len hB
      rw [hQ] at S
      refine c_region ?_
      iterate 5 (refine sq S ?_; clear S; intro a S)
      refine srn S (vbehind_c xs p c l q d w (by omega) (by omega) (gl_own (S.row p xs.length) ((S.mem.fact (AllI xs)).less fun _ _ h => h.elim) (fun _ _ h => h)) (S.gl0 q) hkp.up) ?_; clear S; rintro _ a w ⟨ys, p8, c8, rfl, hown8, hnew8, hys, hmem⟩ hS -
      have S := hS hown8 hnew8
      clear hS
      have hyl : ys.length = (behP (rsP xs) (rsP l)).length := by rw [← hys, rsP_len]
      have hky : KeptP (rsP ys) := by rw [hys]; exact keptP_beh hkp hB
      refine sq S ?_; clear S; intro a S
      refine wl_nil ?_
      refine xtn ?_
      iterate 2 (refine c_seq ?_)
      refine c_region ?_
      iterate 3 (refine sq S ?_; clear S; intro a S)
      refine wl_nil ?_
      refine xtn ?_
      refine c_cond S (fun h9 => ?_) (fun h9 => ?_)
      · refine c_seq ?_
        refine c_region ?_
        refine sq S ?_; clear S; intro a S
        refine wl_nil ?_
        refine xtn ?_
        refine c_ret ?_
        refine xtr ?_
        have h9' : 64 < (behP (rsP xs) (rsP l)).length := by have := of_decide_eq_true h9; omega
        have hv : putV L.v (rsP xs) (rsP l) = (L.v, rsP xs, 6) := by rw [putV, if_neg hbr, if_neg (by rw [hB]; simp), if_pos h9']
        replace S := (((S.front (rwI ⟨L, p, c, xs⟩)).front (lgI b g L)).toBoth.front (Wk.box h 144 (cVt g ⟨L, p, c, xs⟩))).toBoth
        have h1 := S.it (vtI h b g ⟨L, p, c, xs⟩)
        have h2 := S.itNew (vtI h b g ⟨L, p, c, xs⟩) rfl
        exact end1 S (fun _ => ⟨⟨L, p, c, xs⟩, by rw [hv], h1, h2, rfl, by rw [hv], by rw [hv], fun y hy => .inl hy⟩)
      · refine c_skip ?_
        refine xtn ?_
        refine c_mrge2 S (fun (L2 : LG) (e : Int) uu => [(5, uu 5), (0, .int .i64 e), (1, uu 8), (26, uu 35), (0, uu 36), (0, uu 37), (0, uu 38), (0, uu 39), (0, uu 40), (0, uu 41), (0, uu 42), (0, uu 43), (0, uu 44), (0, uu 45), (0, uu 46), (0, uu 47), (0, uu 48), (0, uu 49), (0, uu 50), (0, uu 51), (0, uu 52), (0, uu 53), (0, uu 54), (0, uu 55), (0, uu 56), (0, uu 57), (0, uu 58), (0, uu 59), (0, uu 60), (0, uu 61), (0, uu 62), (0, uu 63), (0, uu 64), (0, uu 65), (0, uu 66), (0, uu 67), (0, uu 68), (0, uu 69)]) (fun (L2 : LG) (e : Int) => [lgI b g L2, Wk.row 150 6 p8 ys.length c8 (encL ys), Wk.box h 144 (cVt g ⟨L, p, c, xs⟩), rwI ⟨L, p, c, xs⟩]) (fun (L2 : LG) (e : Int) => [AllI ys, AllI xs, GlF q l]) (fun (L2 : LG) (e : Int) => L2.m = L.m ∧ L2.v = (putR L.v (rsP xs) (rsP l)).1 ∧ e = (putR L.v (rsP xs) (rsP l)).2) ?_ ?_
        · refine c_seq ?_
          have h9' : ¬ 64 < (behP (rsP xs) (rsP l)).length := by have := of_decide_eq_false h9; omega
          replace S := S.add (Φ := AllI ys) (fun w' hw' y hy => (hmem y hy).elim (fun h => S.wd.facts (AllI xs) (by simp) w' hw' y h) (fun h => (S.wd.facts (GlF q l) (by simp) w' hw').2 y h))
          refine c_region ?_
          iterate 2 (refine sq S ?_; clear S; intro a S)
          refine sr S (sectors_c ((encP (rsP l)).length : Int) _) ?_; clear S; rintro _ a w rfl S
          refine sq S ?_; clear S; intro a S
          refine wl_nil ?_
          refine xtn ?_
          refine c_seq ?_
          refine c_region ?_
          iterate 3 (refine sq S ?_; clear S; intro a S)
          refine gS S (fun hs1 S => ?_) (fun hs1 S => ?_)
          · refine gT S ?_
            refine sq S ?_; clear S; intro a S
            refine gT S ?_
            refine sq S ?_; clear S; intro a S
            refine gT S ?_
            refine sq S ?_; clear S; intro a S
            refine gT S ?_
            refine sq S ?_; clear S; intro a S
            refine gT S ?_
            refine sq S ?_; clear S; intro a S
            refine gT S ?_
            refine sr S (left_v b g L k hwf _ (S.it (lgI b g L))) ?_; clear S; rintro _ a w rfl S
            refine gT S ?_
            iterate 2 (refine sq S ?_; clear S; intro a S)
            refine wl_nil ?_
            refine xtn ?_
            refine c_cond S (fun h12 => ?_) (fun h12 => ?_)
            · refine c_region ?_
              iterate 5 (refine sq S ?_; clear S; intro a S)
              have hfit : fitsV L.v (encP (rsP l)) = true := by rw [fitsV, hs1, h12]; rfl
              have hsm := (secF_pos (of_decide_eq_true hs1)).2
              replace S := (S.front (Wk.row 5 1 p5 (encP (rsP l)).length c5 (encL (encP (rsP l))))).rowToGl p5 (encP (rsP l)) (e := 5) (sz := 1) (n := (encP (rsP l)).length) (c := c5) (fun _ _ _ _ => trivial)
              refine sit (lgI b g L) S (append_v b g L k ⟨p5, c5, encP (rsP l)⟩ hwf (by omega) (by show (encP (rsP l)).length ≤ _; omega) w (S.it (lgI b g L)) (S.lend (lgI b g L) (S.mem.fact (GlF p5 (encP (rsP l)))))) rfl ?_; clear S; rintro _ a w ⟨L2, rfl, hh2, hf2, hm2, hv2⟩ hS
              have S := hS (lgI b g L2) hh2 hf2
              clear hS
              refine sq S ?_; clear S; intro a S
              refine wl_nil ?_
              refine xtn ?_
              replace S := ((S.front (rwI ⟨L, p, c, xs⟩)).front (Wk.box h 144 (cVt g ⟨L, p, c, xs⟩))).front (Wk.row 150 6 p8 ys.length c8 (encL ys))
              replace S := S.front (lgI b g L2)
              exact ⟨L2, _, S.uu, ⟨hm2, by rw [putR, if_pos hfit]; exact hv2, by rw [putR, if_pos hfit]⟩, S.sub _ _⟩
            · refine c_seq ?_
              refine c_region ?_
              refine sq S ?_; clear S; intro a S
              have hfit : fitsV L.v (encP (rsP l)) = false := by
                rw [fitsV]
                first
                  | rw [hs1, h12]; rfl
                  | rw [hs1]; rfl
              have hlt := foots_lt S
              refine sr S (all_vf p8 ys.length c8 w) ?_; clear S; rintro _ a w ⟨g1, rfl, n1, f1⟩ S
              replace S := S.add (Φ := BoxF g1 142 [.slice p8 ys.length c8]) (BoxF.stable f1 (fun hm => by have := hlt _ hm; omega))
              refine srn S (collectR_c g1 ys p8 c8 (by omega) w ((S.mem.fact (BoxF g1 142 [.slice p8 ys.length c8])).less fun _ _ h => h.elim) (gl_own (S.row p8 ys.length) ((S.mem.fact (AllI ys)).less fun _ _ h => h.elim) (fun _ _ h => h))) ?_; clear S; rintro _ a w ⟨p9, c9, rfl, hown9, hnew9⟩ hS -
              have S := hS hown9 hnew9
              clear hS
              have hByes : batchP (rsP ys) = true := keptP_batch hky (by rw [rsP_len]; omega)
              have hn9 : ∀ x ∈ ys, x.name.length ≤ 9223372036854775807 := fun x hx => by have := (rightP_name (hky.right _ (rsP_mem hx))).2; have : x.name.length ≤ 32 := this; omega
              refine srn S (vencode_q ys p9 ys.length c9 _ rfl (own_le (S.row p9 ys.length)) hn9 (by omega) (gl_own (S.row p9 ys.length) ((S.mem.fact (AllI ys)).less fun _ _ h => h.elim) (fun _ _ h => h))) ?_; clear S; rintro _ a w ⟨p10, c10, rfl, hown10, hnew10⟩ hS -
              have S := hS hown10 hnew10
              clear hS
              have hQ2 : encQ (rsP ys) = encP (rsP ys) := by rw [encQ, hByes]; rfl
              have hE2 : encE (rsP ys) = 0 := by rw [encE, hByes]; rfl
              have hQl2 := encP_len hByes
              rw [hQ2, hE2] at S
              iterate 5 (refine sq S ?_; clear S; intro a S)
              refine wl_nil ?_
              refine xtn ?_
              refine c_seq ?_
              refine c_region ?_
              iterate 2 (refine sq S ?_; clear S; intro a S)
              refine wl_nil ?_
              refine xtn ?_
              refine c_condT S ?_
              refine c_region ?_
              iterate 5 (refine sq S ?_; clear S; intro a S)
              replace S := (S.front (Wk.row 5 1 p10 (encP (rsP ys)).length c10 (encL (encP (rsP ys))))).rowToGl p10 (encP (rsP ys)) (e := 5) (sz := 1) (n := (encP (rsP ys)).length) (c := c10) (fun _ _ _ _ => trivial)
              refine sit (lgI b g L) S (chk_v b g L k ⟨p10, c10, encP (rsP ys)⟩ hwf (by omega) (by show (encP (rsP ys)).length ≤ _; omega) w (S.it (lgI b g L)) (S.lend (lgI b g L) (S.mem.fact (GlF p10 (encP (rsP ys)))))) rfl ?_; clear S; rintro _ a w ⟨L2, rfl, hh2, hf2, hm2, hv2⟩ hS
              have S := hS (lgI b g L2) hh2 hf2
              clear hS
              refine sq S ?_; clear S; intro a S
              refine wl_nil ?_
              refine xtn ?_
              replace S := ((S.front (rwI ⟨L, p, c, xs⟩)).front (Wk.box h 144 (cVt g ⟨L, p, c, xs⟩))).front (Wk.row 150 6 p8 ys.length c8 (encL ys))
              replace S := S.front (lgI b g L2)
              exact ⟨L2, _, S.uu, ⟨hm2, by rw [putR, hfit, ← hys]; exact hv2, by rw [putR, hfit, ← hys]; rfl⟩, S.sub _ _⟩
          · refine gF S ?_; clear S; intro a S
            iterate 6 (refine gF S ?_; clear S; intro a S)
            refine sq S ?_; clear S; intro a S
            refine wl_nil ?_
            refine xtn ?_
            refine c_condF S ?_
            refine c_seq ?_
            refine c_region ?_
            refine sq S ?_; clear S; intro a S
            have hfit : fitsV L.v (encP (rsP l)) = false := by
              rw [fitsV]
              first
                | rw [hs1, h12]; rfl
                | rw [hs1]; rfl
            have hlt := foots_lt S
            refine sr S (all_vf p8 ys.length c8 w) ?_; clear S; rintro _ a w ⟨g1, rfl, n1, f1⟩ S
            replace S := S.add (Φ := BoxF g1 142 [.slice p8 ys.length c8]) (BoxF.stable f1 (fun hm => by have := hlt _ hm; omega))
            refine srn S (collectR_c g1 ys p8 c8 (by omega) w ((S.mem.fact (BoxF g1 142 [.slice p8 ys.length c8])).less fun _ _ h => h.elim) (gl_own (S.row p8 ys.length) ((S.mem.fact (AllI ys)).less fun _ _ h => h.elim) (fun _ _ h => h))) ?_; clear S; rintro _ a w ⟨p9, c9, rfl, hown9, hnew9⟩ hS -
            have S := hS hown9 hnew9
            clear hS
            have hByes : batchP (rsP ys) = true := keptP_batch hky (by rw [rsP_len]; omega)
            have hn9 : ∀ x ∈ ys, x.name.length ≤ 9223372036854775807 := fun x hx => by have := (rightP_name (hky.right _ (rsP_mem hx))).2; have : x.name.length ≤ 32 := this; omega
            refine srn S (vencode_q ys p9 ys.length c9 _ rfl (own_le (S.row p9 ys.length)) hn9 (by omega) (gl_own (S.row p9 ys.length) ((S.mem.fact (AllI ys)).less fun _ _ h => h.elim) (fun _ _ h => h))) ?_; clear S; rintro _ a w ⟨p10, c10, rfl, hown10, hnew10⟩ hS -
            have S := hS hown10 hnew10
            clear hS
            have hQ2 : encQ (rsP ys) = encP (rsP ys) := by rw [encQ, hByes]; rfl
            have hE2 : encE (rsP ys) = 0 := by rw [encE, hByes]; rfl
            have hQl2 := encP_len hByes
            rw [hQ2, hE2] at S
            iterate 5 (refine sq S ?_; clear S; intro a S)
            refine wl_nil ?_
            refine xtn ?_
            refine c_seq ?_
            refine c_region ?_
            iterate 2 (refine sq S ?_; clear S; intro a S)
            refine wl_nil ?_
            refine xtn ?_
            refine c_condT S ?_
            refine c_region ?_
            iterate 5 (refine sq S ?_; clear S; intro a S)
            replace S := (S.front (Wk.row 5 1 p10 (encP (rsP ys)).length c10 (encL (encP (rsP ys))))).rowToGl p10 (encP (rsP ys)) (e := 5) (sz := 1) (n := (encP (rsP ys)).length) (c := c10) (fun _ _ _ _ => trivial)
            refine sit (lgI b g L) S (chk_v b g L k ⟨p10, c10, encP (rsP ys)⟩ hwf (by omega) (by show (encP (rsP ys)).length ≤ _; omega) w (S.it (lgI b g L)) (S.lend (lgI b g L) (S.mem.fact (GlF p10 (encP (rsP ys)))))) rfl ?_; clear S; rintro _ a w ⟨L2, rfl, hh2, hf2, hm2, hv2⟩ hS
            have S := hS (lgI b g L2) hh2 hf2
            clear hS
            refine sq S ?_; clear S; intro a S
            refine wl_nil ?_
            refine xtn ?_
            replace S := ((S.front (rwI ⟨L, p, c, xs⟩)).front (Wk.box h 144 (cVt g ⟨L, p, c, xs⟩))).front (Wk.row 150 6 p8 ys.length c8 (encL ys))
            replace S := S.front (lgI b g L2)
            exact ⟨L2, _, S.uu, ⟨hm2, by rw [putR, hfit, ← hys]; exact hv2, by rw [putR, hfit, ← hys]; rfl⟩, S.sub _ _⟩
        · clear S; rintro L2 e uu a w ⟨hm2, hv2, he2⟩ S
          iterate 2 (refine c_seq ?_)
          have h9' : ¬ 64 < (behP (rsP xs) (rsP l)).length := by have := of_decide_eq_false h9; omega
          refine c_region ?_
          iterate 2 (refine sq S ?_; clear S; intro a S)
          refine wl_nil ?_
          refine xtn ?_
          refine c_cond S (fun h17 => ?_) (fun h17 => ?_)
          · refine c_region ?_
            iterate 4 (refine sq S ?_; clear S; intro a S)
            refine sw S ?_; clear S; intro a w S
            refine wl_nil ?_
            refine xtn ?_
            refine c_seq ?_
            refine c_region ?_
            iterate 2 (refine sq S ?_; clear S; intro a S)
            refine wl_nil ?_
            refine xtn ?_
            refine c_ret ?_
            have h17' : (putR L.v (rsP xs) (rsP l)).2 = 0 := by rw [← he2]; simpa using h17
            have hv : putV L.v (rsP xs) (rsP l) = ((putR L.v (rsP xs) (rsP l)).1, behP (rsP xs) (rsP l), (putR L.v (rsP xs) (rsP l)).2) := by rw [putV, if_neg hbr, if_neg (by rw [hB]; simp), if_neg h9', if_pos h17']
            replace S := (((S.front (rwI ⟨L2, p8, c8, ys⟩)).front (lgI b g L2)).toBoth.front (Wk.box h 144 (cVt g ⟨L2, p8, c8, ys⟩))).toBoth
            have h1 := S.it (vtI h b g ⟨L2, p8, c8, ys⟩)
            have h2 := S.itNew (vtI h b g ⟨L2, p8, c8, ys⟩) rfl
            exact end1 S (fun _ => ⟨⟨L2, p8, c8, ys⟩, by rw [hv, he2], h1, h2, hm2, by rw [hv]; exact hv2, by rw [hv]; exact hys, hmem⟩)
          · refine c_skip ?_
            refine xtn ?_
            refine c_seq ?_
            refine c_region ?_
            iterate 2 (refine sq S ?_; clear S; intro a S)
            refine wl_nil ?_
            refine xtn ?_
            refine c_ret ?_
            have h17' : ¬ (putR L.v (rsP xs) (rsP l)).2 = 0 := by rw [← he2]; simpa using h17
            have hv : putV L.v (rsP xs) (rsP l) = ((putR L.v (rsP xs) (rsP l)).1, rsP xs, (putR L.v (rsP xs) (rsP l)).2) := by rw [putV, if_neg hbr, if_neg (by rw [hB]; simp), if_neg h9', if_neg h17']
            replace S := (((S.front (rwI ⟨L, p, c, xs⟩)).front (lgI b g L2)).toBoth.front (Wk.box h 144 (cVt g ⟨L2, p, c, xs⟩))).toBoth
            have h1 := S.it (vtI h b g ⟨L2, p, c, xs⟩)
            have h2 := S.itNew (vtI h b g ⟨L2, p, c, xs⟩) rfl
            exact end1 S (fun _ => ⟨⟨L2, p, c, xs⟩, by rw [hv, he2], h1, h2, hm2, by rw [hv]; exact hv2, by rw [hv], fun y hy => .inl hy⟩)
end Go.Proofs.YtdakncgafdnjfaaGreat
namespace Go.Proofs.YtdakncgafdnjfaaGreat
open Go Go.Wk
set_option synthInstance.maxSize 100000
set_option synthInstance.maxHeartbeats 400000
set_option maxRecDepth 100000
theorem vget_c (h g : Nat) (V : VT) (s : List UInt8) (w0 : World) (hxl : V.xs.length ≤ 1000) (f1 : Stable (fun _ => False) w0 (BoxF h 144 (cVt g V))) (f2 : Stable (fun _ => False) w0 (GlF V.p V.xs)) (hup : SortedP (rsP V.xs)) :
    Ret Tryz.prog 27 [.pointer (some ⟨h, 0, none⟩), str s] w0 (fun _ => False) fun v _ => ∃ i b, AtP V.xs s i b ∧ v = .tuple ⟨[vL (if b then (nthG V.xs i).term else zeroL), .bool b]⟩ := by
  obtain ⟨L, p, c, xs⟩ := V
  have hxl : xs.length ≤ 1000 := hxl
  refine enter Tryz.func27 rfl rfl (Wd.begin (fs := [BoxF h 144 (cVt g ⟨L, p, c, xs⟩), GlF p xs]) (by simp; exact ⟨f1, f2⟩)) (fun a S => ?_)
  simp only [Tryz.ntmps27, List.length_cons, List.length_nil, Nat.reduceAdd, Nat.reduceSub, List.replicate_succ, List.replicate_zero, List.cons_append, List.nil_append] at S
  refine c_seq ?_
  refine c_region ?_
  refine sa S ?_; clear S; intro b4 a w S
  refine sq S ?_; clear S; intro a S
  refine wl_nil ?_
  refine xtn ?_
  iterate 2 (refine c_seq ?_)
  refine c_region ?_
  iterate 2 (refine sq S ?_; clear S; intro a S)
  refine wl_nil ?_
  refine xtn ?_
  refine c_condF S ?_
  refine c_skip ?_
  refine xtn ?_
  refine c_seq ?_
  refine c_region ?_
  iterate 5 (refine sq S ?_; clear S; intro a S)
  refine sr S (rsearch_c xs p xs.length c s _ rfl (by omega) (S.gl0 p) hup) ?_; clear S; rintro _ a w ⟨i, b, rfl, hat⟩ S
  iterate 5 (refine sq S ?_; clear S; intro a S)
  refine wl_nil ?_
  refine xtn ?_
  iterate 2 (refine c_seq ?_)
  refine c_region ?_
  iterate 2 (refine sq S ?_; clear S; intro a S)
  refine wl_nil ?_
  refine xtn ?_
  refine c_cond S (fun h4 => ?_) (fun h4 => ?_)
  · refine c_seq ?_
    refine c_region ?_
    refine sq S ?_; clear S; intro a S
    refine sw S ?_; clear S; intro a w S
    refine sq S ?_; clear S; intro a S
    refine wl_nil ?_
    refine xtn ?_
    refine c_ret ?_
    refine xtr ?_
    have hb : b = false := by simpa using h4
    exact end2 S (fun _ => ⟨i, b, hat, by rw [hb]; rfl⟩)
  · refine c_skip ?_
    refine xtn ?_
    refine c_seq ?_
    have hb : b = true := by simpa using h4
    have hK : KLt i xs.length := ⟨hat.lt hb⟩
    refine c_region ?_
    iterate 8 (refine sq S ?_; clear S; intro a S)
    refine sw S ?_; clear S; intro a w S
    refine sq S ?_; clear S; intro a S
    refine wl_nil ?_
    refine xtn ?_
    refine c_ret ?_
    exact end2 S (fun _ => ⟨i, b, hat, by rw [hb]; rfl⟩)
theorem vrows_c (h g : Nat) (V : VT) (w0 : World) (hxl : V.xs.length ≤ 1000) (f1 : Stable (fun _ => False) w0 (BoxF h 144 (cVt g V))) (f2 : Stable (fun _ => False) w0 (GlF V.p V.xs)) :
    Ret Tryz.prog 26 [.pointer (some ⟨h, 0, none⟩)] w0 (fun _ => False) fun v w' => ∃ p' c', v = .slice p' V.xs.length c' ∧ w'.ownsRow 0 45 6 (.slice p' V.xs.length c') V.xs.length (encL V.xs) ∧ ∀ ad, p' = some ad → w0.heap.size ≤ ad.block := by
  obtain ⟨L, p, c, xs⟩ := V
  have hxl : xs.length ≤ 1000 := hxl
  refine enter Tryz.func26 rfl rfl (Wd.begin (fs := [BoxF h 144 (cVt g ⟨L, p, c, xs⟩), GlF p xs]) (by simp; exact ⟨f1, f2⟩)) (fun a S => ?_)
  simp only [Tryz.ntmps26, List.length_cons, List.length_nil, Nat.reduceAdd, Nat.reduceSub, List.replicate_succ, List.replicate_zero, List.cons_append, List.nil_append] at S
  refine c_seq ?_
  refine c_region ?_
  refine sq S ?_; clear S; intro a S
  refine wl_nil ?_
  refine xtn ?_
  iterate 2 (refine c_seq ?_)
  refine c_region ?_
  iterate 2 (refine sq S ?_; clear S; intro a S)
  refine wl_nil ?_
  refine xtn ?_
  refine c_condF S ?_
  refine c_skip ?_
  refine xtn ?_
  refine c_seq ?_
  refine c_region ?_
  iterate 4 (refine sq S ?_; clear S; intro a S)
  have hlt := foots_lt S
  refine sr S (all_vf p xs.length c _) ?_; clear S; rintro _ a w ⟨g1, rfl, n1, f1⟩ S
  replace S := S.add (Φ := BoxF g1 142 [.slice p xs.length c]) (BoxF.stable f1 (fun hm => by have := hlt _ hm; omega))
  refine srn S (collectR_c g1 xs p c (by omega) w ((S.mem.fact (BoxF g1 142 [.slice p xs.length c])).less fun _ _ h => h.elim) (S.gl0 p)) ?_; clear S; rintro _ a w ⟨p9, c9, rfl, hown9, hnew9⟩ hS -
  have S := hS hown9 hnew9
  clear hS
  refine sq S ?_; clear S; intro a S
  refine wl_nil ?_
  refine xtn ?_
  refine c_ret ?_
  have hrow := S.row p9 xs.length
  have hnew := S.rowNew p9 xs.length
  exact end1 S (fun _ => ⟨p9, c9, rfl, hrow, fun ad h => (hnew ad h).elim (fun h => h.elim) id⟩)
theorem vdown_c (h b g : Nat) (V : VT) (w0 : World) (hd : (vtI h b g V).holds w0) : Ret Tryz.prog 30 [.pointer (some ⟨h, 0, none⟩)] w0 (fun _ => False) fun v _ => v = .bool V.L.v.broken := by
  have f1 : Stable (fun _ => False) w0 (BoxF h 144 (cVt g V)) := BoxF.stable hd.1 (fun h => h)
  have hl : (lgI b g V.L).holds w0 := hd.2.1.1
  have f2 : Stable (fun _ => False) w0 (BoxF g 134 (cWal b V.L.q V.L.e V.L.x)) := BoxF.stable hl.2.1.1 (fun h => h)
  refine enter Tryz.func30 rfl rfl (Wd.begin (fs := [BoxF h 144 (cVt g V), BoxF g 134 (cWal b V.L.q V.L.e V.L.x)]) (by simp; exact ⟨f1, f2⟩)) (fun a S => ?_)
  simp only [Tryz.ntmps30, List.length_cons, List.length_nil, Nat.reduceAdd, Nat.reduceSub, List.replicate_succ, List.replicate_zero, List.cons_append, List.nil_append] at S
  refine c_seq ?_
  refine c_region ?_
  refine sq S ?_; clear S; intro a S
  refine wl_nil ?_
  refine xtn ?_
  refine c_seq ?_
  refine c_region ?_
  iterate 3 (refine sq S ?_; clear S; intro a S)
  refine gT' S ?_
  refine sq S ?_; clear S; intro a S
  refine gT' S ?_
  refine sq S ?_; clear S; intro a S
  refine gT' S ?_
  refine sq S ?_; clear S; intro a S
  refine gT' S ?_
  refine sq S ?_; clear S; intro a S
  refine gT' S ?_
  refine sr S (wbroken_c g b V.L.q V.L.e V.L.x _ ((S.mem.fact (BoxF g 134 (cWal b V.L.q V.L.e V.L.x))).less fun _ _ h => h.elim)) ?_; clear S; rintro _ a w rfl S
  iterate 2 (refine sq S ?_; clear S; intro a S)
  refine wl_nil ?_
  refine xtn ?_
  refine c_ret ?_
  exact end1 S (fun _ => rfl)
theorem vformat_ok (b m n : Nat) (p : Option Addr) (c : Nat) (s : DS) (hm : mayF s n = true) (hl : s.loose.length ≤ 980000) (h0 : (fmtF n s).2 = 0) (w0 : World) (hd : (dkI b m p c s).holds w0) :
    Ret Tryz.prog 28 [.pointer (some ⟨b, 0, none⟩), .int .i64 (n : Int)] w0 (dkI b m p c s).foot fun v w' => ∃ h g L, v = .tuple ⟨[.pointer (some ⟨h, 0, none⟩), .int .i64 0]⟩ ∧ L.m = m ∧ L.v = fmtV n s ∧ (vtI h b g ⟨L, none, 0, []⟩).holds w' ∧ ∀ k, (vtI h b g ⟨L, none, 0, []⟩).foot k → (dkI b m p c s).foot k ∨ w0.heap.size ≤ k := by
  refine enter Tryz.func28 rfl rfl (Wd.itLent (x := dkI b m p c s) (fs := []) hd (by simp)) (fun a S => ?_)
  simp only [Tryz.ntmps28, List.length_cons, List.length_nil, Nat.reduceAdd, Nat.reduceSub, List.replicate_succ, List.replicate_zero, List.cons_append, List.nil_append] at S
  refine c_seq ?_
  refine c_region ?_
  iterate 2 (refine sq S ?_; clear S; intro a S)
  refine wl_nil ?_
  refine xtn ?_
  refine c_seq ?_
  refine c_region ?_
  iterate 2 (refine sq S ?_; clear S; intro a S)
  refine sit (dkI b m p c s) S (format_v b m n p c s hm hl _ (S.it (dkI b m p c s))) rfl ?_; clear S; rintro _ a w (⟨h, -⟩ | ⟨-, g, L, rfl, hm2, hv2, hh2, hf2⟩) hS
  · exact absurd h0 h
  have S := hS (lgI b g L) hh2 hf2
  clear hS
  iterate 5 (refine sq S ?_; clear S; intro a S)
  refine wl_nil ?_
  refine xtn ?_
  iterate 2 (refine c_seq ?_)
  refine c_region ?_
  iterate 2 (refine sq S ?_; clear S; intro a S)
  refine wl_nil ?_
  refine xtn ?_
  refine c_condF S ?_
  refine c_skip ?_
  refine xtn ?_
  refine c_seq ?_
  refine c_region ?_
  iterate 2 (refine sq S ?_; clear S; intro a S)
  refine sa S ?_; clear S; intro b19 a w S
  iterate 2 (refine sq S ?_; clear S; intro a S)
  refine wl_nil ?_
  refine xtn ?_
  refine c_ret ?_
  replace S := S.addNil 150 6
  rw [show Wk.row 150 6 none 0 0 [] = rwI ⟨L, none, 0, []⟩ from rfl] at S
  rw [show [Value.pointer (some ⟨g, 0, none⟩), Value.slice none 0 0] = cVt g ⟨L, none, 0, []⟩ from rfl] at S
  replace S := (((S.front (rwI ⟨L, none, 0, []⟩)).front (lgI b g L)).toBoth.front (Wk.box b19 144 (cVt g ⟨L, none, 0, []⟩))).toBoth
  have h1 := S.it (vtI b19 b g ⟨L, none, 0, []⟩)
  have h2 := S.itNew (vtI b19 b g ⟨L, none, 0, []⟩) rfl
  exact end2 S (fun _ => ⟨b19, g, L, rfl, hm2, hv2, h1, h2⟩)
end Go.Proofs.YtdakncgafdnjfaaGreat
namespace Go.Proofs.YtdakncgafdnjfaaGreat
open Go Go.Wk
set_option synthInstance.maxSize 100000
set_option synthInstance.maxHeartbeats 400000
set_option maxRecDepth 100000
theorem lfresh_c (w0 : World) : Ret Tryz.prog 17 [] w0 (fun _ => False) fun v w' => ∃ b m, v = .pointer (some ⟨b, 0, none⟩) ∧ (dkI b m none 0 (newD 602)).holds w' ∧ ∀ k, (dkI b m none 0 (newD 602)).foot k → w0.heap.size ≤ k := by
  refine enter Tryz.func17 rfl rfl (Wd.start w0) (fun a S => ?_)
  simp only [Tryz.ntmps17, List.length_cons, List.length_nil, Nat.reduceAdd, Nat.reduceSub, List.replicate_succ, List.replicate_zero, List.cons_append, List.nil_append] at S
  refine c_seq ?_
  refine c_region ?_
  refine sq S ?_; clear S; intro a S
  refine wl_nil ?_
  refine xtn ?_
  refine c_seq ?_
  refine c_region ?_
  refine snew S (dnew_dk 602 (by omega) _) ?_; clear S; rintro _ a w - ⟨b, m, rfl, hh, hnw⟩ hS -
  have S := hS (dkI b m none 0 (newD 602)) hh hnw
  clear hS
  iterate 5 (refine sq S ?_; clear S; intro a S)
  refine wl_nil ?_
  refine xtn ?_
  refine c_seq ?_
  refine c_region ?_
  iterate 2 (refine sq S ?_; clear S; intro a S)
  refine wl_nil ?_
  refine xtn ?_
  refine c_ret ?_
  have h1 := S.it (dkI b m none 0 (newD 602))
  have h2 := S.itNew (dkI b m none 0 (newD 602)) rfl
  exact end1 S (fun _ => ⟨b, m, rfl, h1, fun k hk => (h2 k hk).elim (fun h => h.elim) id⟩)
theorem lt_leaf (w : World) (k u n : Int) (s : List UInt8) : LtIn w (.mk k u n s none 0 []) := by
  rw [LtIn.iff]; exact ⟨Nat.le_refl _, Nat.zero_le _, trivial⟩
theorem row_one {xs : List LRow} {r : PRow} (h : rsP xs = [r]) : ∃ x, xs = [x] ∧ x.r = r := by
  match xs, h with
  | [x], h => exact ⟨x, rfl, by simpa [rsP] using h⟩
theorem at_one {x : LRow} {i : Nat} {b : Bool} (h : AtP [x] x.name i b) : i = 0 ∧ b = true := by
  obtain ⟨h1, h2, h3, h4⟩ := h
  have hi : i = 0 := by
    rcases Nat.eq_zero_or_pos i with h | h
    · exact h
    · have := h2 0 h
      rw [show (nthG [x] 0).name = x.name from rfl, bl_irrefl] at this; cases this
  subst hi
  exact ⟨rfl, by rw [h4]; simp [show (nthG [x] 0).name = x.name from rfl]⟩
def lw1 : List LRow := [⟨[97], textL [120]⟩, ⟨[98], secretL 1⟩]
def lw2 : List LRow := [⟨[97], zeroL⟩]
theorem lw2_p : rsP lw2 = wk2 := rfl
theorem vwakes_c (w0 : World) : Ret Tryz.prog 12 [] w0 (fun _ => False) fun v _ => v = .bool true := by
  have h0 := fmt_lv 300 (by omega)
  obtain ⟨b1, b2, b3⟩ := wk1_ok
  obtain ⟨c1, c2, c3⟩ := wk2_ok
  obtain ⟨e1, f1, g1⟩ := putV_off h0 [] wk1 b1 (by rw [b2]; decide) (by omega) (by rw [b3]; decide)
  rw [b2] at f1
  obtain ⟨e2, f2, g2⟩ := putV_off g1 wk1 wk2 c1 (by rw [c2]; decide) (by omega) (by rw [c3, endF_sum, List.map_append, List.sum_append, List.map_cons, List.map_nil, List.map_cons, List.map_nil, b3]; decide)
  rw [c2] at f2
  obtain ⟨V0, hV0⟩ : ∃ V0, V0 = fmtV 300 (newD ((2 * 300 + 2 : Nat) : Int)) := ⟨_, rfl⟩
  rw [← hV0] at h0 e1 f1 g1 e2 f2 g2
  refine enter Tryz.func12 rfl rfl (Wd.start w0) (fun a S => ?_)
  simp only [Tryz.ntmps12, List.length_cons, List.length_nil, Nat.reduceAdd, Nat.reduceSub, List.replicate_succ, List.replicate_zero, List.cons_append, List.nil_append] at S
  refine c_seq ?_
  refine c_region ?_
  refine sq S ?_; clear S; intro a S
  refine wl_nil ?_
  refine xtn ?_
  refine c_seq ?_
  refine c_region ?_
  refine snew S (lfresh_c _) ?_; clear S; rintro _ a w - ⟨b, m, rfl, hh, hnw⟩ hS -
  have S := hS (dkI b m none 0 (newD 602)) hh hnw
  clear hS
  refine sit (dkI b m none 0 (newD 602)) S (vformat_ok b m 300 none 0 (newD 602) (by simp [mayF, newD]) (by simp [newD]) (format_live 300 (by omega)).1 _ (S.it (dkI b m none 0 (newD 602)))) rfl ?_; clear S; rintro _ a w ⟨h, g, L, rfl, hm2, hv2, hh2, hf2⟩ hS
  have S := hS (vtI h b g ⟨L, none, 0, []⟩) hh2 hf2
  clear hS
  iterate 5 (refine sq S ?_; clear S; intro a S)
  refine wl_nil ?_
  refine xtn ?_
  iterate 2 (refine c_seq ?_)
  refine c_region ?_
  iterate 2 (refine sq S ?_; clear S; intro a S)
  refine wl_nil ?_
  refine xtn ?_
  refine c_condF S ?_
  refine c_skip ?_
  refine xtn ?_
  refine c_seq ?_
  refine c_region ?_
  refine sq S ?_; clear S; intro a S
  refine sc S ?_; clear S; intro a w S
  refine sq S ?_; clear S; intro a S
  refine sc S ?_; clear S; intro a w S
  refine sq S ?_; clear S; intro a S
  refine sn S ?_; clear S; intro b19 a w S
  replace hv2 : L.v = V0 := hv2.trans hV0.symm
  replace S := S.boxRow b19 6 2 rfl (by simp [maxLen])
  rw [show ([.string ⟨#[97]⟩, .int .i64 (textL [120]).kind, .int .i64 (textL [120]).user, .int .i64 (textL [120]).num, str (textL [120]).text, .slice (textL [120]).p (textL [120]).kids.length (textL [120]).cap, .string ⟨#[98]⟩, .int .i64 (secretL 1).kind, .int .i64 (secretL 1).user, .int .i64 (secretL 1).num, str (secretL 1).text, .slice (secretL 1).p (secretL 1).kids.length (secretL 1).cap] : List Value) = encL lw1 from rfl] at S
  replace S := S.rowToGl (some ⟨b19, 0, none⟩) lw1 (e := 45) (sz := 6) (n := 2) (c := 2) (fun w' _ x hx => by
    simp only [lw1, List.mem_cons, List.not_mem_nil, or_false] at hx
    rcases hx with rfl | rfl
    · exact lt_leaf w' 1 0 0 [120]
    · exact lt_leaf w' 3 1 0 [])
  refine sit (vtI h b g ⟨L, none, 0, []⟩) S (vput_c h b g ⟨L, none, 0, []⟩ lw1 (some ⟨b19, 0, none⟩) 2 0 (by show L.v.Wf 0; rw [hv2]; exact h0.ok.wf) (by omega) keptP_nil (by simp) (by decide) (by decide) (by decide) w (S.it (vtI h b g ⟨L, none, 0, []⟩)) (fun _ _ x hx => by cases hx) (S.lend (vtI h b g ⟨L, none, 0, []⟩) (S.mem.fact (GlF (some ⟨b19, 0, none⟩) lw1)))) rfl ?_; clear S; rintro _ a w ⟨V1, rfl, hh3, hf3, hm3, hv3, hx3, hmem3⟩ hS
  have S := hS (vtI h b g V1) hh3 hf3
  clear hS
  rw [show (putV (VT.L ⟨L, none, 0, []⟩).v (rsP (VT.xs ⟨L, none, 0, []⟩)) (rsP lw1)).2.2 = 0 from by show (putV L.v [] wk1).2.2 = 0; rw [hv2]; exact e1] at S
  replace hx3 : rsP V1.xs = wk1 := by rw [hx3]; show (putV L.v [] wk1).2.1 = wk1; rw [hv2]; exact f1
  replace hv3 : V1.L.v = (putV V0 [] wk1).1 := by rw [hv3]; show (putV L.v [] wk1).1 = _; rw [hv2]
  have hk3 : KeptP (rsP V1.xs) := by rw [hx3, ← b2]; exact keptP_beh keptP_nil b1
  have hl3 : V1.xs.length = 2 := by rw [← rsP_len, hx3]; rfl
  replace S := S.add (Φ := AllI V1.xs) (fun w' hw' y hy => (hmem3 y hy).elim (fun h => by cases h) (fun h => ((S.mem.fact (GlF (some ⟨b19, 0, none⟩) lw1)) w' hw').2 y h))
  refine sq S ?_; clear S; intro a S
  refine wl_nil ?_
  refine xtn ?_
  refine c_seq ?_
  refine c_region ?_
  iterate 2 (refine sq S ?_; clear S; intro a S)
  refine sn S ?_; clear S; intro b23 a w S
  replace S := S.boxRow b23 6 1 rfl (by simp [maxLen])
  rw [show ([.string ⟨#[97]⟩, .int .i64 0, .int .i64 0, .int .i64 0, .string ⟨#[]⟩, .slice none 0 0] : List Value) = encL lw2 from rfl] at S
  replace S := S.rowToGl (some ⟨b23, 0, none⟩) lw2 (e := 45) (sz := 6) (n := 1) (c := 1) (fun w' _ x hx => by
    simp only [lw2, List.mem_cons, List.not_mem_nil, or_false] at hx
    rcases hx with rfl
    exact lt_leaf w' 0 0 0 [])
  refine sit (vtI h b g V1) S (vput_c h b g V1 lw2 (some ⟨b23, 0, none⟩) 1 0 (by rw [hv3]; exact g1.ok.wf) (by omega) hk3 (by omega) (by decide) (by decide) (by decide) w (S.it (vtI h b g V1)) (S.lend (vtI h b g V1) (S.mem.fact (AllI V1.xs))) (S.lend (vtI h b g V1) (S.mem.fact (GlF (some ⟨b23, 0, none⟩) lw2)))) rfl ?_; clear S; rintro _ a w ⟨V2, rfl, hh4, hf4, hm4, hv4, hx4, hmem4⟩ hS
  have S := hS (vtI h b g V2) hh4 hf4
  clear hS
  rw [hv3, hx3, lw2_p] at hv4 hx4
  rw [show (putV V1.L.v (rsP V1.xs) (rsP lw2)).2.2 = 0 from by rw [hv3, hx3, lw2_p]; exact e2] at S
  replace hx4 : rsP V2.xs = [⟨[98], .mk 3 1 0 [] []⟩] := by rw [hx4]; exact f2
  obtain ⟨x, hxx, hxr⟩ := row_one hx4
  have hxn : x.name = [98] := congrArg PRow.name hxr
  have hxt : x.term.t = secretT 1 := congrArg PRow.term hxr
  have hl4 : V2.xs.length = 1 := by rw [hxx]; rfl
  have hup4 : SortedP (rsP V2.xs) := by rw [hx4]; exact List.pairwise_singleton _ _
  replace S := S.add (Φ := AllI V2.xs) (fun w' hw' y hy => (hmem4 y hy).elim (fun h => S.wd.facts (AllI V1.xs) (by simp) w' hw' y h) (fun h => ((S.mem.fact (GlF (some ⟨b23, 0, none⟩) lw2)) w' hw').2 y h))
  refine sq S ?_; clear S; intro a S
  refine wl_nil ?_
  refine xtn ?_
  refine c_seq ?_
  refine c_region ?_
  refine sq S ?_; clear S; intro a S
  replace S := S.ofBoth
  replace S := S.front (both (lgI b g V2.L) (rwI V2))
  replace S := S.ofBoth
  refine sr S (vget_c h g V2 [98] _ (by omega) ((BoxF.stable (S.box h) (fun h => h))) (gl_own (S.row V2.p V2.xs.length) ((S.mem.fact (AllI V2.xs)).less fun _ _ h => h.elim) (fun _ _ h => h)) hup4) ?_; clear S; rintro _ a w ⟨i, bb, hat, rfl⟩ S
  obtain ⟨rfl, rfl⟩ : i = 0 ∧ bb = true := by rw [hxx, ← hxn] at hat; exact at_one hat
  rw [show (if true then (nthG V2.xs 0).term else zeroL) = x.term from by rw [hxx]; rfl] at S
  iterate 3 (refine sq S ?_; clear S; intro a S)
  refine sa S ?_; clear S; intro b5 a w S
  refine sw S ?_; clear S; intro a w S
  refine sq S ?_; clear S; intro a S
  refine wl_nil ?_
  refine xtn ?_
  refine c_seq ?_
  have hxf : Stable (foots [Wk.box b5 43 x.term.cells, lgI b g V2.L, rwI V2, Wk.box h 144 (cVt g V2)]) w (LtF x.term) := (S.mem.fact (AllI V2.xs)).imp fun _ h => h x (by rw [hxx]; exact .head _)
  replace S := S.add (Φ := LtF x.term) hxf
  refine c_drawD [(0, true), (1, true), (2, true), (3, true), (4, true), (5, true), (6, true), (7, true), (8, false), (9, true), (10, true), (11, true), (12, true), (13, true), (14, true), (15, true), (16, true), (17, false), (18, false), (19, true), (20, true)] [] S ?_; clear S; intro w S
  iterate 2 (refine dq S ?_; clear S; intro a S)
  rw [show decide ((0 : Int) = 0) = true from rfl] at S
  refine dq S ?_; clear S; intro a S
  iterate 2 (refine dqG S ?_; clear S; intro a S)
  rw [show decide ((0 : Int) = 0) = true from rfl] at S
  iterate 2 (refine dq S ?_; clear S; intro a S)
  refine dqG S ?_; clear S; intro a S
  refine dl ?_
  refine gT S ?_
  refine srn S (vrows_c h g V2 _ (by omega) (BoxF.stable (S.box h) (fun h => h)) (gl_own (S.row V2.p V2.xs.length) ((S.mem.fact (AllI V2.xs)).less fun _ _ h => h.elim) (fun _ _ h => h))) ?_; clear S; rintro _ a w ⟨p9, c9, rfl, hown9, hnew9⟩ hS -
  have S := hS hown9 hnew9
  clear hS
  rw [hl4] at S
  refine de S ?_
  iterate 2 (refine dqG S ?_; clear S; intro a S)
  rw [show decide (((1 : Nat) : Int) = 1) = true from rfl] at S
  iterate 2 (refine dq S ?_; clear S; intro a S)
  refine dqG S ?_; clear S; intro a S
  iterate 2 (refine dq S ?_; clear S; intro a S)
  refine dqG S ?_; clear S; intro a S
  refine dl ?_
  refine gC S ?_; clear S; intro a w S
  refine de S ?_
  refine dl ?_
  refine gC S ?_; clear S; intro a w S
  refine de S ?_
  iterate 2 (refine dq S ?_; clear S; intro a S)
  refine dn ?_
  refine xtn ?_
  refine c_ret ?_
  refine end1 S (fun _ => ?_)
  rw [hxt]; rfl
end Go.Proofs.YtdakncgafdnjfaaGreat
namespace Go.Wk
open Go Go.Deep Go.ChangeShapes Go.WideShapes Go.ChangeAt Go.RowKit
class TroZ (P : Program) (T : TypeId) (α : Type) [Lay α] (Z : outParam (α → Prop)) : Prop where
  of : ∀ {H : Type} (enc : TypeId × Value → H) (w : World) (base : Nat) (spare : Nat → Bool) (held : Bool) (fuel : Nat) (cs : List Value) (x : DataW H × List MemPlace), DataW.trod enc P w base spare held fuel T cs = some x → ∃ a : α, cs = Enc.cells a ∧ Lay.inn w a ∧ ((∀ n ∈ x.1.weights P T, n ≤ reachBytes) → Z a)
  size : P.cellsOf T = Enc.sz α
theorem weights_mem_all {H : Type} {P : Program} {e : TypeId} : ∀ {ds : List (DataW H)} {d : DataW H}, d ∈ ds → ∀ n ∈ d.weights P e, n ∈ DataW.weightsAll P e ds
  | d0 :: ds, d, hd, n, hn => by
    simp only [DataW.weightsAll, List.mem_append]
    rcases List.mem_cons.1 hd with rfl | hd
    · exact .inl hn
    · exact .inr (weights_mem_all hd n hn)
abbrev ZSl {α : Type} [Lay α] (P : Program) (T : TypeId) (Z : α → Prop) : Sl α → Prop := fun s => s.xs.length * P.bytesOf T ≤ reachBytes ∧ ∀ x ∈ s.xs, Z x
theorem troZ_Sl {P : Program} {T L : TypeId} {α : Type} {Z : α → Prop} [Lay α] [hT : TroZ P T α Z] (hu : P.underlying L = some (.slice T)) (hs : P.cellsOf L = 1) : TroZ P L (Sl α) (ZSl P T Z) := ⟨fun enc w base spare held fuel cs x h => by
  rcases DataW.trod_slice hu h with ⟨e4, e5⟩ | ⟨ad, len, cap, elems, rest, n', rfl, e4, e5, _, hlc, hcm, hel, hem, _, _⟩
  · exact ⟨⟨none, 0, []⟩, e4, ⟨Nat.le_refl _, Nat.zero_le _, gl_nil⟩, fun _ => ⟨by simp, fun _ h => by cases h⟩⟩
  · subst e4
    have : Inhabited α := ⟨Lay.dflt⟩
    obtain ⟨g, hg⟩ := choose_lt (α := α) (p := fun i t => (w.cells? base (ad.add (i * Enc.sz α)) (Enc.sz α) = some (Enc.cells t) ∧ Lay.inn w t) ∧ ((∀ n ∈ x.1.weights P L, n ≤ reachBytes) → Z t)) (n := len) (fun i hi => by
      have h1 := hem i hi
      rw [hT.size, List.getElem?_eq_getElem (by omega)] at h1
      obtain ⟨cs', h2, h3⟩ := Option.bind_eq_some_iff.1 h1
      obtain ⟨t, rfl, ht, hz⟩ := hT.of _ _ _ _ _ _ _ _ h3
      refine ⟨t, ⟨h2, ht⟩, fun hw => hz fun n hn => hw n ?_⟩
      rw [e5]
      simp only [DataW.weights, hu, List.mem_cons, List.mem_append]
      exact .inr (.inl (weights_mem_all (List.mem_map_of_mem (List.getElem_mem (by omega))) n hn)))
    refine ⟨⟨some ad, cap, (List.range len).map g⟩, by simp [Enc.cells, Sl.v], ⟨by simpa using hlc, hcm, ⟨fun h => (by cases h), fun ad' hp j u hj => ?_⟩, fun t ht => ?_⟩, fun hw => ⟨?_, fun t ht => ?_⟩⟩
    · obtain rfl : ad = ad' := by simpa using hp
      have hjl : j < len * Enc.sz α := by
        have := (List.getElem?_eq_some_iff.1 hj).1
        rw [encL_len] at this; simpa using this
      have hz : 0 < Enc.sz α := Nat.pos_of_ne_zero fun h0 => by rw [h0] at hjl; omega
      have hi : j / Enc.sz α < len := (Nat.div_lt_iff_lt_mul hz).2 hjl
      have hm : j % Enc.sz α < Enc.sz α := Nat.mod_lt _ hz
      have hdm : j / Enc.sz α * Enc.sz α + j % Enc.sz α = j := Nat.div_add_mod' j _
      obtain ⟨⟨hc, -⟩, -⟩ := hg _ hi
      obtain ⟨_, _, h5⟩ := World.cells?_some hc
      have h6 := h5 _ hm
      have h7 := encL_get ((List.range len).map g) (j / Enc.sz α) (g (j / Enc.sz α)) (by simp [hi]) _ hm
      rw [hdm, hj] at h7
      rw [Go.Deep.add_add, hdm] at h6
      rw [h6, ← h7]
    · obtain ⟨i, hi, rfl⟩ := List.mem_map.1 ht
      exact (hg i (List.mem_range.1 hi)).1.2
    · have h1 := hw ((elems.length + rest.length) * P.bytesOf T) (by rw [e5]; simp [DataW.weights, hu])
      rw [List.length_map, List.length_range]
      refine Nat.le_trans (Nat.mul_le_mul_right _ ?_) h1
      omega
    · obtain ⟨i, hi, rfl⟩ := List.mem_map.1 ht
      exact (hg i (List.mem_range.1 hi)).2 hw, hs⟩
theorem trod_bytes {P : Program} {T e : TypeId} {n : Nat} [hT : Tro P e UInt8] (hu : P.underlying T = some (.array n e)) (hs : P.cellsOf T = n) {H : Type} {enc : TypeId × Value → H} {w : World} {base : Nat} {spare : Nat → Bool} {held : Bool} {fuel : Nat} {cs : List Value} {x : DataW H × List MemPlace} (h : DataW.trod enc P w base spare held fuel T cs = some x) :
    ∃ l : List UInt8, l.length = n ∧ cs = encL l := by
  obtain ⟨xs, m, rfl, rfl, hlen, hxl, hx⟩ := DataW.trod_array hu h
  have h1 : P.cellsOf e = 1 := hT.size
  have : Inhabited UInt8 := ⟨0⟩
  obtain ⟨g, hg⟩ := choose_lt (α := UInt8) (p := fun i a => (cs.drop i).take 1 = Enc.cells a) (n := n) (fun i hi => by
    have h2 := hx i hi
    rw [List.getElem?_eq_getElem (by omega), h1, Nat.mul_one] at h2
    obtain ⟨a, ha, -⟩ := hT.of _ _ _ _ _ _ _ _ h2
    exact ⟨a, ha⟩)
  refine ⟨(List.range n).map g, by simp, ?_⟩
  have hz : Enc.sz UInt8 = 1 := rfl
  refine List.ext_getElem? fun j => ?_
  by_cases hj : j < n
  · have h3 := hg j hj
    have h4 := encL_get ((List.range n).map g) j (g j) (by simp [hj]) 0 (by decide)
    rw [hz, Nat.mul_one, Nat.add_zero] at h4
    rw [h4, ← h3, List.getElem?_take, if_pos (by decide), List.getElem?_drop, Nat.add_zero]
  · rw [List.getElem?_eq_none (by omega), List.getElem?_eq_none (by rw [encL_len, hz]; simp; omega)]
end Go.Wk
namespace Go.Wk
open Go
def kvI (x : Int × Value) : Value × Value := (.int .i64 x.1, x.2)
def mpin (b r : Nat) (kv done : List (Int × Value)) : Item where
  foot := fun k => k = b ∨ k = r
  holds := fun w => ∃ (es : Array MapEntry) (clock : Nat) (ds : List MapEntry), w.heap[b]? = some (.map es clock) ∧ es.toList.map enKV = kv.map kvI ∧ (∀ e ∈ es.toList, e.born < clock) ∧ (es.toList.map (·.born)).Nodup ∧
    w.heap[r]? = some (.mapIter (some b) clock (ds.map (·.born)).toArray clock) ∧ (∀ e ∈ ds, e ∈ es.toList) ∧ (ds.map (·.born)).Nodup ∧ ds.map enKV = done.map kvI
class HasMpin (bs : List Item) (r : Nat) (b : outParam Nat) (kv done : outParam (List (Int × Value))) : Prop where mem : mpin b r kv done ∈ bs
class HasMpinnB (bs : List Item) (b : Nat) (kv : outParam (List (Int × Value))) : Prop where mem : ∃ r done, mpin b r kv done ∈ bs
section
variable {P : Program} {r0 : Option Nat} {ops : Array Oper} {Q : Exit → Act → World → Prop} {w0 : World} {M0 : Nat → Prop} {ds : List Deferred} {a : Act} {w : World} {l : List Value} {bs : List Item} {fs : List (World → Prop)}
  {d : Option Nat} {op : Op} {ty : TypeId} {pos : String} {af : Array Edge} {rest : List Oper} {t kt et : TypeId} {x : Operand} {b : Nat} {kv : List (Int × Value)}
end
end Go.Wk
namespace Go.Wk
open Go
section
variable {P : Program} {ops : Array Oper} {C : World → Prop} {X : XP}
def ACXL (last : Nat) (P : Program) (ops : Array Oper) (X : XP) (C : World → Prop) (R : Act → World → Prop) : Nat → Array Bool → Act → World → Prop
  | 0, listed, a, w => Region.ready .any ops listed = [] ∧ R a w
  | fuel + 1, listed, a, w =>
    (Region.ready .any ops listed = [] → R a w) ∧
    ∀ i ∈ Region.ready .any ops listed, WNX P ops X i (fun a' w' => (i ≠ last → C w') ∧ ACXL last P ops X C R fuel (listed.setIfInBounds i true) a' w') a w
variable {R : Act → World → Prop}
theorem acxl_first {last i : Nat} {oi : Oper} {v : Value} (hi : ops[i]? = some oi) (hoff : X.off oi) (hsel : ∀ (j : Nat) (o : Oper) cs b, ops[j]? = some o → o.op ≠ .select cs b) :
    (i ≠ last ∧ ∀ o, ops[last]? = some o → ∃ e ∈ o.after, Region.binds .any e = true ∧ e.on = i) → ∀ (fuel : Nat) (listed : Array Bool) (a : Act) (w : World),
      (∀ j oj, ops[j]? = some oj → j ≠ i → listed.getD j true = false → (∀ e ∈ oj.after, Region.binds .any e = true → e.on ≠ i) → oi.apart ops oj = true) →
      i ∈ Region.ready .any ops listed → YieldsC P ops C oi v a → C w →
      ACXL last P ops X C R fuel (listed.setIfInBounds i true) (a.put oi.dst v) w → ACXL last P ops X C R (fuel + 1) listed a w := by
  intro hlast fuel
  induction fuel with
  | zero =>
    intro listed a w _ hr hy hS H
    refine ⟨fun h => (by rw [h] at hr; cases hr), fun j hj => ?_⟩
    by_cases hji : j = i
    · subst hji; exact hy.wnx hi hS ⟨fun _ => hS, H⟩
    · have := ready_mono hj hji
      rw [H.1] at this
      cases this
  | succ fuel ih =>
    intro listed a w hfree hr hy hS H
    refine ⟨fun h => (by rw [h] at hr; cases hr), fun j hj => ?_⟩
    by_cases hji : j = i
    · subst hji; exact hy.wnx hi hS ⟨fun _ => hS, H⟩
    · have h1 := H.2 j (ready_mono hj hji)
      obtain ⟨hjun, oj, hoj, hall⟩ := mem_ready.1 hj
      have hnot : ∀ e ∈ oj.after, Region.binds .any e = true → e.on ≠ i := fun e he hb heq => by
        have h1 := hall e he hb
        have h0 := (mem_ready.1 hr).1
        rw [heq] at h1
        rcases Nat.lt_or_ge i listed.size with h' | h'
        · simp [h'] at h0 h1; rw [h0] at h1; cases h1
        · simp [Array.getElem?_eq_none h'] at h1
      have hjl : j ≠ last := fun e => by
        obtain ⟨e', he', hb', ho'⟩ := hlast.2 oj (e ▸ hoj)
        exact hnot e' he' hb' ho'
      have h2 := wnx_put hoj (hfree j oj hoj hji hjun hnot) hoff (fun cs b => hsel i oi cs b hi) (fun cs b => hsel j oj cs b hoj) hy h1
      have hfree' : ∀ k ok, ops[k]? = some ok → k ≠ i → (listed.setIfInBounds j true).getD k true = false →
          (∀ e ∈ ok.after, Region.binds .any e = true → e.on ≠ i) → oi.apart ops ok = true := fun k ok hk hki hun hno => by
        refine hfree k ok hk hki ?_ hno
        by_cases hjk : j = k
        · subst hjk; exact hjun
        · rw [getD_set_ne true hjk] at hun; exact hun
      refine wpOpIn_mono (fun a' w' h3 => ⟨h3.2.1, ih (listed.setIfInBounds j true) a' w' hfree' (ready_mono hr (Ne.symm hji)) h3.1 (h3.2.1 hjl) ?_⟩) h2
      rw [Array.setIfInBounds_comm _ _ hji]
      exact h3.2.2
variable {r : Option Nat} {Q : Exit → Act → World → Prop} {w0 : World} {M0 : Nat → Prop} {ds : List Deferred} {a : Act} {w : World} {l l' : List Value} {bs bs' bs0 : List Item} {fs fs0 : List (World → Prop)}
  {d : Option Nat} {op : Op} {ty : TypeId} {pos : String} {af : Array Edge} {rest : List Oper} {v v' G : Value} {j g : Nat} {pol : Bool} {cs : List Bool} {n last : Nat} {listed : Array Bool}
def AQXL (last : Nat) (P : Program) (ops : Array Oper) (X : XP) (C : World → Prop) (R : Act → World → Prop) (ord : List (Nat × Bool)) (a : Act) (w : World) : Prop :=
  ∀ listed, Region.noSelect ops = true → X.offB ops = true → flowFromL last ops ord listed = true → ACXL last P ops X C R ord.length listed a w
variable {ord : List (Nat × Bool)} {i : Nat}
theorem dqXL (S : St w0 M0 ds a w l bs fs) [hb : SubL bs0 bs] [hf : SubL fs0 fs] [ho : OpAt ops i ⟨d, op, ty, pos, af, none⟩] [hq : OpQ P op ty ⟨[], l⟩ bs0 fs0 v] [hp : PutO l d v l']
    (K : ∀ a, St w0 M0 ds a w l' bs fs → AQXL last P ops X (fun w => Wd w0 M0 w bs0 fs0) R ord a w) :
    AQXL last P ops X (fun w => Wd w0 M0 w bs0 fs0) R ((i, true) :: ord) a w := by
  intro listed hs hx hflow
  simp only [flowFromL, Bool.and_eq_true] at hflow
  refine acxl_first ho.eq (XP.offB_spec hx ho.eq) (Region.noSelect_spec hs) (feeds_spec hflow.1.2) _ listed a w (Region.free_spec ho.eq hflow.1.1.2) (by simpa using hflow.1.1.1) (v := v) (.inl ⟨rfl, fun w' hw' => ?_⟩) (S.wd.sub hb.sub hf.sub) (K _ S.put _ hs hx hflow.2)
  rw [execOp_eq]
  exact hq.run a.eval w' S.fr hw'.mem
theorem dlXL {o : Oper} {C : World → Prop} [ho : OpAt ops i o] (h : WL P none ops (fun e a' w' => (e = .normal ∧ (i ≠ last → C w') ∧ AQXL last P ops X C R ord a' w') ∨ X.at e a' w') [o] a w) : AQXL last P ops X C R ((i, false) :: ord) a w := by
  intro listed hs hx hflow
  simp only [flowFromL, Bool.and_eq_true] at hflow
  have hr : Region.ready .any ops listed = [i] := by
    have := hflow.1
    split at this
    · rename_i k hk; rw [hk, Nat.eq_of_beq_eq_true this]
    · cases this
  refine ⟨fun h0 => (by rw [h0] at hr; cases hr), fun k hk => ?_⟩
  rw [hr] at hk
  obtain rfl : k = i := by simpa using hk
  have nor : ∀ {p : Prop} {a' : Act} {w' : World}, ((p ∧ (k ≠ last → C w') ∧ AQXL last P ops X C R ord a' w') ∨ X.at .normal a' w') → (k ≠ last → C w') ∧ ACXL last P ops X C R ord.length (listed.setIfInBounds k true) a' w' := by
    rintro p a' w' (⟨-, h1, h2⟩ | h)
    · exact ⟨h1, h2 _ hs hx hflow.2⟩
    · exact h.elim
  have pan : ∀ {c : List PanicEntry} {a' : Act} {w' : World}, ((Exit.panic c = Exit.normal ∧ (k ≠ last → C w') ∧ AQXL last P ops X C R ord a' w') ∨ X.at (.panic c) a' w') → X.at (.panic c) a' w' := by
    rintro c a' w' (⟨h, -⟩ | h)
    · cases h
    · exact h
  unfold WNX wpOpIn
  simp only [ho.eq]
  simp only [WL, wpListIn] at h
  split
  · rename_i hw
    rw [if_pos hw] at h
    refine ⟨fun _ _ => trivial, ?_⟩
    have h := h.2
    generalize (o.semAt (FW none).round a.eval).run P w = q at *
    cases q with
    | ok x w' =>
      cases x <;> simp only [Oper.uponIn] at h ⊢
      case value u => exact nor h
      case skip => exact nor h
      case defer d => exact nor h
      case enter f args =>
        refine ⟨h.1, CallsIn.mono h.2 fun e w'' he => ?_⟩
        cases e with
        | returned u => simp only [true_and] at he; exact nor (p := True) (by simpa using he)
        | panicked c => exact pan he
        | outgrown => obtain ⟨_, _, he⟩ := he; rcases he with ⟨he, _⟩ | he <;> first | cases he | exact he.elim
      case row row args => exact ⟨h.1, RowsIn.mono h.2 fun u w'' he => nor he⟩
      case round l f tmps assign body =>
        refine ⟨h.1, RoundIn.mono h.2 fun e w'' he => ?_⟩
        cases e with
        | returned u => simp only [true_and] at he; exact nor (p := True) (by simpa using he)
        | panicked c => exact pan he
        | outgrown => obtain ⟨_, _, he⟩ := he; rcases he with ⟨he, _⟩ | he <;> first | cases he | exact he.elim
    | halt x w' =>
      cases x <;> simp only [Oper.uponIn] at h ⊢
      case panic u => exact pan h
  · rename_i hw
    rw [if_neg hw] at h
    exact ⟨fun _ _ => trivial, nor h.2⟩
theorem deXL [hb : SubL bs0 bs] [hf : SubL fs0 fs] (S : St w0 M0 ds a w l bs fs) (h : AQXL last P ops X (fun w => Wd w0 M0 w bs0 fs0) R ord a w) : WL P none ops (fun e a' w' => (e = .normal ∧ (i ≠ last → Wd w0 M0 w' bs0 fs0) ∧ AQXL last P ops X (fun w => Wd w0 M0 w bs0 fs0) R ord a' w') ∨ X.at e a' w') [] a w :=
  wl_nil (.inl ⟨rfl, fun _ => S.wd.sub hb.sub hf.sub, h⟩)
theorem dzXL {C : World → Prop} (h : R a w) (hr : ∀ listed, Region.noSelect ops = true → flowFromL last ops [] listed = true → Region.ready .any ops listed = [] := by intro listed _ h; simpa [flowFromL] using h) : WL P none ops (fun e a' w' => (e = .normal ∧ (last ≠ last → C w') ∧ AQXL last P ops X C R [] a' w') ∨ X.at e a' w') [] a w :=
  wl_nil (.inl ⟨rfl, fun h => absurd rfl h, fun listed hs _ hf => ⟨hr listed hs hf, h⟩⟩)
theorem any_of_acxl (hQ : ∀ ch a w, X.at (.panic ch) a w → Q (.panic ch) a w) (hd : ∀ (i : Nat) o, ops[i]? = some o → isDefer o.op = false) : ∀ (fuel : Nat) (listed : Array Bool) (a : Act) (w : World), ACXL last P ops X C (fun a w => Q .normal a w) fuel listed a w → wpAnyIn (FW r) 0 P .any ops Q fuel listed a w
  | 0, _, _, _, h => h
  | fuel + 1, _, _, _, h => ⟨h.1, fun i hi => wnx_round hQ hd (wpOpIn_mono (fun a' w' h' => any_of_acxl hQ hd fuel _ a' w' h'.2) (h.2 i hi))⟩
theorem c_drawXL {id : Nat} {lo : List Oper} (last : Nat) (ord : List (Nat × Bool)) (bs0 : List Item) (X : XP) (S : St w0 M0 ds a w l bs fs) (hQ : ∀ ch a w, X.at (.panic ch) a w → Q (.panic ch) a w)
    (h : ∀ w, St w0 M0 ds a w l bs fs → AQXL last P lo.toArray X (fun w => Wd w0 M0 w bs0 fs) (fun a w => Q .normal a w) ord a w)
    (hm : P.follows .mixedOrders = true := by kernel_rfl) (hx : X.offB lo.toArray = true := by kernel_rfl) (hd : ((lo.all fun o => !isDefer o.op) && (Nat.beq ord.length lo.length && (Region.noSelect lo.toArray && flowFromL last lo.toArray ord (Array.replicate lo.length false)))) = true := by kernel_rfl) : Wp P r (.region id lo.toArray true) Q a w := by
  simp only [Bool.and_eq_true] at hd
  refine wpIn_region_any hm (any_of_acxl (last := last) (C := fun w => Wd w0 M0 w bs0 fs) hQ (fun i o ho => ?_) _ _ _ _ ?_)
  · have := List.all_eq_true.1 hd.1 o (by
      rw [List.getElem?_toArray] at ho
      exact List.mem_of_getElem? ho)
    simpa using this
  · have := h { w with drawn := w.drawn + 1 } ⟨S.slots, S.defers, S.wd.step (Agree.drawn _ w _)⟩ _ hd.2.2.1 hx hd.2.2.2
    rw [Nat.eq_of_beq_eq_true hd.2.1] at this
    simpa using this
end
section
variable {P : Program} {r : Option Nat} {ops : Array Oper} {Q : Exit → Act → World → Prop} {w0 : World} {M0 : Nat → Prop} {ds : List Deferred} {a : Act} {w : World} {l : List Value} {bs bs' : List Item} {fs : List (World → Prop)}
  {d : Option Nat} {ty : TypeId} {pos : String} {af : Array Edge} {rest : List Oper} {f : Nat} {x : Operand} {ys : List Operand} {args : List Value} {ts : Array TypeId}
theorem xtp {next : Act → World → Prop} {ch : List PanicEntry} (h : Q (.panic ch) a w) : Exit.then next Q (.panic ch) a w := h
theorem xbp {id : Nat} {ch : List PanicEntry} (h : Q (.panic ch) a w) : Exit.inBlock id Q (.panic ch) a w := h
abbrev noI : Item := ext fun _ => False
theorem sitMP {l' : Value → List Value} (it : Item) [EntF P f] [CallTo ⟨[], l⟩ x ys f args] [hp : ∀ v, PutO l d v (l' v)] (S : St w0 M0 ds a w l bs fs) {R : Value → World → Prop} {X : List PanicEntry → World → Prop} (hc : RetP P f args w it.foot R X) (ho : it.own = true)
    (Kp : ∀ ch w', X ch w' → (∀ {bs' : List Item} [ReplI bs it noI bs'], St w0 M0 ds a w' l bs' fs) → Q (.panic ch) a w')
    (K : ∀ v a w', R v w' → (∀ (y : Item) (fs2 : List (World → Prop)) {fs3 : List (World → Prop)} {bs' : List Item} [AppL fs2 fs fs3] [ReplI bs it y bs'] [ItOk y], y.holds w' → (∀ k, y.foot k → it.foot k ∨ w.heap.size ≤ k) → (∀ Φ ∈ fs2, Stable (fun k => y.foot k ∨ restOf bs it k) w' Φ) → St w0 M0 ds a w' (l' v) bs' fs3) → WL P r ops Q rest a w') :
    WL P r ops Q (⟨d, .call { callee := .value x, args := ys.toArray, argTypes := ts }, ty, pos, af, none⟩ :: rest) a w := by
  have hap := S.wd.apart
  refine cv_anyP S hc ?_
  rintro e w' (⟨v, rfl, ha, hR⟩ | ⟨ch, rfl, ha, hX⟩)
  · have := hp v
    have S' := S.put (d := d) (v := v)
    refine .inl ⟨v, rfl, K v _ w' hR fun y fs2 fs3 bs' happ hr oy hy hf hfs => ?_⟩
    have hS : St w0 M0 ds (a.put d v) w' (l' v) bs' fs := ⟨S'.slots, S'.defers, by
      obtain ⟨pre, post, q1, q2⟩ := hr.ex
      have hwd := S'.wd
      rw [q1] at hwd
      rw [q2]
      exact hwd.swap ho ha hy hf (oy.lt w' hy) oy.loc⟩
    rw [← happ.eq]
    refine hS.addAll fs2 fun Φ hΦ => (hfs Φ hΦ).less fun k _ hk => ?_
    obtain ⟨pre, post, rfl, rfl⟩ := hr.ex
    obtain ⟨z, hz, hk⟩ := hk
    have hp := List.pairwise_append.1 hap
    rcases List.mem_append.1 hz with hz | hz
    · exact .inr ⟨⟨z, by simp [hz], hk⟩, hp.2.2 z hz it (by simp) k hk⟩
    · rcases List.mem_cons.1 hz with rfl | hz
      · exact .inl hk
      · exact .inr ⟨⟨z, by simp [hz], hk⟩, fun hx => (List.pairwise_cons.1 hp.2.1).1 z hz k hx hk⟩
  · refine .inr ⟨ch, rfl, Kp ch w' hX fun {bs'} hr => ⟨S.slots, S.defers, ?_⟩⟩
    obtain ⟨pre, post, q1, q2⟩ := hr.ex
    have hwd := S.wd
    rw [q1] at hwd
    rw [q2]
    exact hwd.swap ho ha trivial (fun _ h => h.elim) (fun _ h => h.elim) (fun _ _ _ _ => trivial)
end
end Go.Wk
namespace Go.Proofs.YtdakncgafdnjfaaGreat
open Go Go.Wk
set_option synthInstance.maxSize 100000
set_option synthInstance.maxHeartbeats 400000
set_option maxRecDepth 100000
instance : StT Tryz.prog 247 := ⟨⟨_, Tryz.underlying247⟩⟩
instance : IfT Tryz.prog 20 := ⟨by kernel_rfl⟩
abbrev wrongE (e : Int) : Value := .iface 247 (.agg ⟨[.int .i64 e]⟩)
abbrev tmI (h rd : Nat) (left : Int) : Wk.Item := Wk.box h 245 [.pointer (some ⟨rd, 0, none⟩), .int .i64 left]
abbrev rtI (h rd : Nat) (left : Int) (r : RS) : Wk.Item := both (tmI h rd left) (rdI rd r)
theorem needR_c (h rd : Nat) (left : Int) (r : RS) (b : Bool) (w0 : World) (f1 : Stable (fun _ => False) w0 (BoxF h 245 [.pointer (some ⟨rd, 0, none⟩), .int .i64 left])) (f2 : Stable (fun _ => False) w0 (BoxF rd 238 (cRS r))) :
    RetP Tryz.prog 234 [.pointer (some ⟨h, 0, none⟩), .bool b] w0 (fun _ => False) (fun _ _ => r.why = 0 ∧ b = true) (fun ch _ => ∃ e, ch = pch (wrongE e) ∧ ((r.why ≠ 0 ∧ e = 7) ∨ (r.why = 0 ∧ b = false ∧ e = 150))) := by
  refine enter Tryz.func234 rfl rfl (Wd.begin (fs := [BoxF h 245 [.pointer (some ⟨rd, 0, none⟩), .int .i64 left], BoxF rd 238 (cRS r)]) (by simp; exact ⟨f1, f2⟩)) (fun a S => ?_)
  simp only [Tryz.ntmps234, List.length_cons, List.length_nil, Nat.reduceAdd, Nat.reduceSub, List.replicate_succ, List.replicate_zero, List.cons_append, List.nil_append] at S
  refine c_block ?_
  refine c_seq ?_
  refine c_region ?_
  iterate 4 (refine sq S ?_; clear S; intro a S)
  refine sr S (errR_c rd r _ (S.mem.fact0 (BoxF rd 238 (cRS r)))) ?_; clear S; rintro _ a w rfl S
  iterate 2 (refine sq S ?_; clear S; intro a S)
  refine wl_nil ?_
  refine xtn ?_
  refine c_cond S (fun h0 => ?_) (fun h0 => ?_)
  · refine c_region ?_
    iterate 2 (refine sq S ?_; clear S; intro a S)
    refine sPan S (fun S => ?_)
    refine xbp ?_
    refine endX S ?_
    exact ⟨7, rfl, .inl ⟨by simpa using h0, rfl⟩⟩
  · refine c_seq ?_
    refine c_region ?_
    iterate 3 (refine sq S ?_; clear S; intro a S)
    refine wl_nil ?_
    refine xtn ?_
    refine c_cond S (fun h2 => ?_) (fun h2 => ?_)
    · refine c_region ?_
      iterate 2 (refine sq S ?_; clear S; intro a S)
      refine sPan S (fun S => ?_)
      refine xbp ?_
      refine endX S ?_
      exact ⟨150, rfl, .inr ⟨by simpa using h0, by simpa using h2, rfl⟩⟩
    · refine c_skip ?_
      refine xbn ?_
      refine endP (end0 S (fun _ => ?_))
      exact ⟨by simpa using h0, by simpa using h2⟩
structure SubR (r r' : RS) : Prop where
  gl : r.bs.length ≤ r.c → ∀ w, GlF r.p r.bs w → GlF r'.p r'.bs w
  len : r'.bs.length ≤ r.bs.length
  cap : r.bs.length ≤ r.c → r'.bs.length ≤ r'.c
theorem SubR.refl (r : RS) : SubR r r := ⟨fun _ _ h => h, Nat.le_refl _, id⟩
theorem SubR.trans {a b c : RS} (h : SubR a b) (k : SubR b c) : SubR a c := ⟨fun hc w hw => k.gl (h.cap hc) w (h.gl hc w hw), Nat.le_trans k.len h.len, fun hc => k.cap (h.cap hc)⟩
theorem SubR.take (r : RS) (k : Nat) : SubR r (takeR r k) := by
  refine ⟨fun hc w hw => ?_, takeR_len r k, fun hc => takeR_cap hc⟩
  unfold takeR; split
  · exact hw.drop (sz := 1) k hc
  · exact hw
theorem take1_ok {r : RS} (h : r.why = 0) (hk : (takeR r 1).why = 0) : ∃ c t, r.bs = c :: t ∧ numN (tookR r 1) 0 = c.toNat ∧ (takeR r 1).bs = t := by
  by_cases ho : okR r 1
  · have hl := ho.2
    match hb : r.bs with
    | [] => rw [hb] at hl; simp at hl
    | c :: t => exact ⟨c, t, rfl, by rw [tookR_yes ho, hb]; simp [numN], by rw [takeR_yes ho, hb]; rfl⟩
  · rw [takeR_no ho, if_pos h] at hk; cases hk
theorem take1_bad {r : RS} (h : r.why = 0) (hk : (takeR r 1).why ≠ 0) : r.bs = [] := by
  by_cases ho : okR r 1
  · rw [takeR_yes ho] at hk; exact absurd rfl hk
  · match hb : r.bs with
    | [] => rfl
    | c :: t => exact absurd ⟨h, by rw [hb]; simp⟩ ho
theorem take_ok {r : RS} {k : Nat} (h : r.why = 0) (hk : (takeR r k).why = 0) : k ≤ r.bs.length ∧ tookR r k = r.bs.take k ∧ (takeR r k).bs = r.bs.drop k := by
  by_cases ho : okR r k
  · exact ⟨ho.2, tookR_yes ho, by rw [takeR_yes ho]⟩
  · rw [takeR_no ho, if_pos h] at hk; cases hk
theorem take_bad {r : RS} {k : Nat} (h : r.why = 0) (hk : (takeR r k).why ≠ 0) : r.bs.length < k := by
  by_cases ho : okR r k
  · rw [takeR_yes ho] at hk; exact absurd rfl hk
  · rcases Nat.lt_or_ge r.bs.length k with h1 | h1
    · exact h1
    · exact absurd ⟨h, h1⟩ ho
def preD (ts : List Term) : DecE (List Term × Nat × List UInt8) → DecE (List Term × Nat × List UInt8)
  | .error e => .error e
  | .ok (us, left, bs) => .ok (ts ++ us, left, bs)
theorem preD_nil (x : DecE (List Term × Nat × List UInt8)) : preD [] x = x := by
  cases x <;> rfl
theorem kidsD_step (f : Nat → List UInt8 → DecE (Term × Nat × List UInt8)) (ts : List Term) (j left : Nat) (bs : List UInt8) (t : Term) (left' : Nat) (bs' : List UInt8) (h : f left bs = .ok (t, left', bs')) :
    preD ts (kidsD f (j + 1) left bs) = preD (ts ++ [t]) (kidsD f j left' bs') := by
  rw [kidsD, h]
  show preD ts (match kidsD f j left' bs' with | .error e => .error e | .ok (us, l, b) => .ok (t :: us, l, b)) = _
  cases kidsD f j left' bs' with
  | error e => rfl
  | ok x => obtain ⟨us, l, b⟩ := x; simp [preD]
theorem kidsD_bad (f : Nat → List UInt8 → DecE (Term × Nat × List UInt8)) (ts : List Term) (j left : Nat) (bs : List UInt8) (e : Int) (h : f left bs = .error e) : preD ts (kidsD f (j + 1) left bs) = .error e := by
  rw [kidsD, h]; rfl
end Go.Proofs.YtdakncgafdnjfaaGreat
namespace Go.Proofs.YtdakncgafdnjfaaGreat
open Go Go.Wk
set_option synthInstance.maxSize 100000
set_option synthInstance.maxHeartbeats 400000
set_option maxRecDepth 100000
variable {f : Nat → List UInt8 → DecE (Term × Nat × List UInt8)} {left : Nat} {k e : Int} {bs b2 b3 b4 : List UInt8} {s : List UInt8} {u n : Int}
theorem decB_text (h : textD k bs = .error e) : decB f left k bs = .error e := by rw [decB, h]
theorem decB_user (h : textD k bs = .ok (s, b2)) (h2 : userD k b2 = .error e) : decB f left k bs = .error e := by rw [decB, h]; simp only [h2]
theorem decB_num (h : textD k bs = .ok (s, b2)) (h2 : userD k b2 = .ok (u, b3)) (h3 : numD k b3 = .error e) : decB f left k bs = .error e := by rw [decB, h]; simp only [h2, h3]
theorem decB_kids (h : textD k bs = .ok (s, b2)) (h2 : userD k b2 = .ok (u, b3)) (h3 : numD k b3 = .ok (n, b4)) (h4 : kidsD f (kidsN k) (left - 1) b4 = .error e) : decB f left k bs = .error e := by rw [decB, h]; simp only [h2, h3, h4]
theorem decB_ok {ks : List Term} {l : Nat} {b5 : List UInt8} (h : textD k bs = .ok (s, b2)) (h2 : userD k b2 = .ok (u, b3)) (h3 : numD k b3 = .ok (n, b4)) (h4 : kidsD f (kidsN k) (left - 1) b4 = .ok (ks, l, b5)) : decB f left k bs = .ok (.mk k u n s ks, l, b5) := by rw [decB, h]; simp only [h2, h3, h4]
theorem textD_none (h : hasF (fieldsOf k) 1 = false) : textD k bs = .ok ([], bs) := by unfold textD; rw [if_neg (by rw [h]; simp)]
theorem textD_nil (h : hasF (fieldsOf k) 1 = true) : textD k [] = .error 7 := by rw [textD, if_pos h]
theorem textD_long (h : hasF (fieldsOf k) 1 = true) {c : UInt8} (hc : 64 < c.toNat) : textD k (c :: bs) = .error 150 := by rw [textD, if_pos h]; simp [hc]
theorem textD_short (h : hasF (fieldsOf k) 1 = true) {c : UInt8} (hc : ¬ 64 < c.toNat) (hl : bs.length < c.toNat) : textD k (c :: bs) = .error 7 := by rw [textD, if_pos h]; simp [hc, hl]
theorem textD_ok (h : hasF (fieldsOf k) 1 = true) {c : UInt8} (hc : ¬ 64 < c.toNat) (hl : ¬ bs.length < c.toNat) : textD k (c :: bs) = .ok (bs.take c.toNat, bs.drop c.toNat) := by rw [textD, if_pos h]; simp [hc, hl]
theorem userD_none (h : hasF (fieldsOf k) 2 = false) : userD k bs = .ok (0, bs) := by unfold userD; rw [if_neg (by rw [h]; simp)]
theorem userD_nil (h : hasF (fieldsOf k) 2 = true) : userD k [] = .error 7 := by rw [userD, if_pos h]
theorem userD_ok (h : hasF (fieldsOf k) 2 = true) {c : UInt8} (hc : 1 ≤ c.toNat ∧ c.toNat ≤ 6) : userD k (c :: bs) = .ok ((c.toNat : Int), bs) := by rw [userD, if_pos h]; simp [hc]
theorem userD_bad (h : hasF (fieldsOf k) 2 = true) {c : UInt8} (hc : ¬ (1 ≤ c.toNat ∧ c.toNat ≤ 6)) : userD k (c :: bs) = .error 150 := by rw [userD, if_pos h]; simp only [if_neg hc]
theorem numD_none (h : hasF (fieldsOf k) 4 = false) : numD k bs = .ok (0, bs) := by rw [numD, if_neg (by rw [h]; simp)]
theorem numD_bad (h : hasF (fieldsOf k) 4 = true) (hl : bs.length < 2) : numD k bs = .error 7 := by rw [numD, if_pos h, if_pos hl]
theorem numD_ok (h : hasF (fieldsOf k) 4 = true) (hl : ¬ bs.length < 2) : numD k bs = .ok ((numN (bs.take 2) 0 : Int), bs.drop 2) := by rw [numD, if_pos h, if_neg hl]
theorem kidsN_int (k : Int) : kidsF (fieldsOf k) = ((kidsN k : Nat) : Int) ∧ kidsN k ≤ 2 := by
  unfold kidsN kidsF
  split
  · exact ⟨rfl, by decide⟩
  · split
    · exact ⟨rfl, by decide⟩
    · exact ⟨rfl, by decide⟩
end Go.Proofs.YtdakncgafdnjfaaGreat
namespace Go.Proofs.YtdakncgafdnjfaaGreat
open Go Go.Wk
set_option synthInstance.maxSize 100000
set_option synthInstance.maxHeartbeats 400000
set_option maxRecDepth 100000
theorem fields_kind {k : Int} (h : fieldsOf k ≠ 0) : 1 ≤ k ∧ k ≤ 8 := by
  unfold fieldsOf at h
  repeat (split at h; · omega)
  exact absurd rfl h
theorem u8_natD {n : Int} (h : 0 ≤ n ∧ n ≤ 255) : ((Wk.u8 n).toNat : Int) = n := by
  rw [← u8_wrap]
  unfold IntKind.wrap
  simp only [IntKind.bits, IntKind.signed, Bool.false_and]
  simp; omega
theorem u8_lenD {l : Nat} (h : l ≤ 255) : (Wk.u8 (l : Int)).toNat = l := by
  have := u8_natD (n := (l : Int)) (by omega)
  omega
theorem be2_numD {n : Int} (h : 0 ≤ n ∧ n ≤ 65535) : (numN (be 2 n) 0 : Int) = n := by
  have e : be 2 n = [Wk.u8 (n.fdiv (2 ^ 8)), Wk.u8 (n.fdiv (2 ^ 0))] := rfl
  have h1 : n.fdiv (2 ^ 8) = n / 256 := by rw [Int.fdiv_eq_ediv_of_nonneg _ (by decide)]; rfl
  have h0 : n.fdiv (2 ^ 0) = n := by rw [Int.fdiv_eq_ediv_of_nonneg _ (by decide)]; simp
  have h3 := u8_natD (n := n / 256) (by omega)
  have h4 : ((Wk.u8 n).toNat : Int) = n % 256 := by
    rw [← u8_wrap]
    unfold IntKind.wrap
    simp only [IntKind.bits, IntKind.signed, Bool.false_and]
    simp
  rw [e, h1, h0]
  simp only [numN, List.foldl_cons, List.foldl_nil]
  push_cast
  rw [h3, h4]
  omega
structure PlainOk (k u n : Int) (s : List UInt8) (m : Nat) : Prop where
  kind : fieldsOf k ≠ 0
  kids : (m : Int) = kidsF (fieldsOf k)
  short : s.length ≤ 64
  text : hasF (fieldsOf k) 1 = false → s = []
  user : hasF (fieldsOf k) 2 = true → 1 ≤ u ∧ u ≤ 6
  nouser : hasF (fieldsOf k) 2 = false → u = 0
  num : hasF (fieldsOf k) 4 = true → 0 ≤ n ∧ n ≤ 65535
  nonum : hasF (fieldsOf k) 4 = false → n = 0
theorem plain_ok {k u n : Int} {s : List UInt8} {m : Nat} (h : plainF k u n s m = true) : PlainOk k u n s m := by
  simp only [plainF, knownF, Bool.and_eq_true, Bool.or_eq_true, Bool.not_eq_true', decide_eq_true_eq, decide_eq_false_iff_not] at h
  obtain ⟨⟨⟨⟨⟨h1, h2⟩, h3⟩, h4⟩, h5⟩, h6⟩ := h
  refine ⟨h1, h2, by omega, fun e => ?_, fun e => ?_, fun e => ?_, fun e => ?_, fun e => ?_⟩
  · rcases h4 with h | h
    · rw [e] at h; cases h
    · exact h
  · rcases h5 with h | h
    · exact h.2
    · rw [e] at h; cases h.1
  · rcases h5 with h | h
    · rw [e] at h; cases h.1
    · exact h.2
  · rcases h6 with h | h
    · exact ⟨h.1.2, h.2⟩
    · rw [e] at h; cases h.1
  · rcases h6 with h | h
    · rw [e] at h; cases h.1.1
    · exact h.2
theorem text_back {k u n : Int} {s : List UInt8} {m : Nat} (h : PlainOk k u n s m) (X : List UInt8) : textD k (put1 k s ++ X) = .ok (s, X) := by
  cases hf : hasF (fieldsOf k) 1 with
  | false => rw [put1, hf, h.text hf]; exact textD_none hf
  | true =>
    have hs := h.short
    have hl := u8_lenD (l := s.length) (by omega)
    rw [put1, if_pos hf, List.cons_append, textD_ok hf (by rw [hl]; omega) (by rw [hl, List.length_append]; omega), hl, List.take_left, List.drop_left]
theorem user_back {k u n : Int} {s : List UInt8} {m : Nat} (h : PlainOk k u n s m) (X : List UInt8) : userD k (put2 k u ++ X) = .ok (u, X) := by
  cases hf : hasF (fieldsOf k) 2 with
  | false => rw [put2, hf, h.nouser hf]; exact userD_none hf
  | true =>
    have hu := h.user hf
    have hl := u8_natD (n := u) (by omega)
    rw [put2, if_pos hf, List.cons_append, List.nil_append, userD_ok hf (by omega), hl]
theorem num_back {k u n : Int} {s : List UInt8} {m : Nat} (h : PlainOk k u n s m) (X : List UInt8) : numD k (put4 k n ++ X) = .ok (n, X) := by
  cases hf : hasF (fieldsOf k) 4 with
  | false => rw [put4, hf, h.nonum hf]; exact numD_none hf
  | true =>
    have hn := h.num hf
    have hw : IntKind.u16.wrap n = n := by
      unfold IntKind.wrap
      simp only [IntKind.bits, IntKind.signed, Bool.false_and]
      simp; omega
    have hl : (be 2 n).length = 2 := by simp [be]
    rw [put4, if_pos hf, hw, numD_ok hf (by rw [List.length_append]; omega), List.take_left' hl, List.drop_left' hl, be2_numD hn]
mutual
theorem dec_back : ∀ (t : Term) (m : Nat) (left : Nat) (X : List UInt8), m ≤ 60 → (walkF t (61 - (m : Int)) (left : Int)).1 = true → decT m left (bytesF t ++ X) = .ok (t, (walkF t (61 - (m : Int)) (left : Int)).2.toNat, X)
  | .mk k u n s ks, m, left, X => by
    intro hm h
    rw [walkF] at h ⊢
    split at h
    · cases h
    · rename_i hc
      rw [if_neg hc]
      have hc' : 0 < left ∧ 0 < m ∧ plainF k u n s ks.length = true := by
        refine ⟨by omega, by omega, ?_⟩
        cases hp : plainF k u n s ks.length with
        | true => rfl
        | false => exact absurd (.inr (.inr hp)) hc
      obtain ⟨hl, hm0, hp⟩ := hc'
      have hok := plain_ok hp
      have hk := fields_kind hok.kind
      have hk8 := u8_natD (n := k) (by omega)
      rw [bytesF, headF]
      simp only [List.append_assoc, List.cons_append, List.nil_append]
      rw [decT_cons, hk8, if_neg (by have := hok.kind; omega)]
      have hkn : kidsN k = ks.length := by
        have h1 := (kidsN_int k).1
        have h2 := hok.kids
        omega
      rw [show (61 : Int) - (m : Int) + 1 = 61 - ((m - 1 : Nat) : Int) from by omega, show (left : Int) - 1 = ((left - 1 : Nat) : Int) from by omega] at h ⊢
      refine decB_ok (text_back hok _) (user_back hok _) (num_back hok _) ?_
      rw [hkn]
      exact decL_back ks (m - 1) (left - 1) X (by omega) h
theorem decL_back : ∀ (ts : List Term) (m : Nat) (left : Nat) (X : List UInt8), m ≤ 60 → (walkLF ts (61 - (m : Int)) (left : Int)).1 = true → kidsD (decT m) ts.length left (bytesLF ts ++ X) = .ok (ts, (walkLF ts (61 - (m : Int)) (left : Int)).2.toNat, X)
  | [], m, left, X => by
    intro _ _
    simp [kidsD, walkLF, bytesLF]
  | t :: ts, m, left, X => by
    intro hm h
    rw [walkLF] at h ⊢
    split at h
    · rename_i hc
      rw [if_pos hc]
      have h0 := walkF_ge t _ _ (by omega) hc
      have e : (walkF t (61 - (m : Int)) (left : Int)).2 = (((walkF t (61 - (m : Int)) (left : Int)).2.toNat : Nat) : Int) := by omega
      rw [e] at h
      have h1 := dec_back t m left (bytesLF ts ++ X) hm hc
      have h2 := decL_back ts m _ X hm h
      rw [bytesLF, List.append_assoc, List.length_cons, kidsD, h1]
      simp only [h2]
      rw [← e]
    · cases h
end
theorem dec_name {t : Term} (h : checkF t = 0) : ∃ left, decT 60 1200 (nameF t) = .ok (t, left, []) := by
  have hs : sizeF t ≠ 0 := fun e => by rw [checkF, if_pos e] at h; cases h
  have hw : (walkF t 1 1200).1 = true := by
    cases hw : (walkF t 1 1200).1 with
    | true => rfl
    | false => rw [sizeF, hw] at hs; simp at hs
  have := dec_back t 60 1200 [] (Nat.le_refl _) hw
  rw [List.append_nil] at this
  rw [nameF, if_neg hs]
  exact ⟨_, this⟩
end Go.Proofs.YtdakncgafdnjfaaGreat
namespace Go.Proofs.YtdakncgafdnjfaaGreat
open Go Go.Wk
set_option synthInstance.maxSize 100000
set_option synthInstance.maxHeartbeats 400000
set_option maxRecDepth 100000
abbrev RB := List UInt8 × Bool
def tkB (k : Nat) (x : RB) : List UInt8 × RB := if x.2 = false ∧ k ≤ x.1.length then (x.1.take k, (x.1.drop k, false)) else ([], (x.1, true))
def RS.ab (r : RS) : RB := (r.bs, !decide (r.why = 0))
theorem tk_ab (r : RS) (k : Nat) : tookR r k = (tkB k r.ab).1 ∧ (takeR r k).ab = (tkB k r.ab).2 := by
  by_cases h : okR r k
  · have h2 : r.ab.2 = false ∧ k ≤ r.ab.1.length := ⟨by simp [RS.ab, h.1], h.2⟩
    rw [tookR_yes h, takeR_yes h, tkB, if_pos h2]
    exact ⟨rfl, rfl⟩
  · have h2 : ¬ (r.ab.2 = false ∧ k ≤ r.ab.1.length) := fun h3 => h ⟨by simpa [RS.ab] using h3.1, h3.2⟩
    rw [tookR_no h, takeR_no h, tkB, if_neg h2]
    refine ⟨rfl, ?_⟩
    by_cases hw : r.why = 0
    · simp [RS.ab, hw]
    · simp [RS.ab, hw]
def termD (raw : List UInt8) : Term × Bool :=
  if raw = [] then (zeroT, true) else
  match decT 60 1200 raw with
  | .ok (t, _, rest) => (t, decide (rest = []))
  | .error _ => (zeroT, false)
def rowD (x : RB) : PRow × Bool × RB :=
  (⟨(tkB (numN (tkB 1 x).1 0) (tkB 1 x).2).1, (termD (tkB (numN (tkB 2 (tkB (numN (tkB 1 x).1 0) (tkB 1 x).2).2).1 0) (tkB 2 (tkB (numN (tkB 1 x).1 0) (tkB 1 x).2).2).2).1).1⟩,
    (termD (tkB (numN (tkB 2 (tkB (numN (tkB 1 x).1 0) (tkB 1 x).2).2).1 0) (tkB 2 (tkB (numN (tkB 1 x).1 0) (tkB 1 x).2).2).2).1).2,
    (tkB (numN (tkB 2 (tkB (numN (tkB 1 x).1 0) (tkB 1 x).2).2).1 0) (tkB 2 (tkB (numN (tkB 1 x).1 0) (tkB 1 x).2).2).2).2)
def rowsD : Nat → RB → List PRow × Bool × RB
  | 0, x => ([], true, x)
  | k + 1, x => ((rowD x).1 :: (rowsD k (rowD x).2.2).1, (rowD x).2.1 && (rowsD k (rowD x).2.2).2.1, (rowsD k (rowD x).2.2).2.2)
def allD (bs : List UInt8) : List PRow × Bool × RB := rowsD (numN (tkB 1 (bs, false)).1 0) (tkB 1 (bs, false)).2
def decV (bs : List UInt8) : List PRow × Int :=
  if (allD bs).2.2.2 = true then ([], 7) else
  if (allD bs).2.1 = false ∨ 0 < (allD bs).2.2.1.length ∨ 64 < (allD bs).1.length ∨ batchP (allD bs).1 = false then ([], 2) else ((allD bs).1, 0)
theorem tkB_ok {k : Nat} {l X : List UInt8} (h : l.length = k) : tkB k (l ++ X, false) = (l, (X, false)) := by
  subst h
  rw [tkB, if_pos ⟨rfl, by rw [List.length_append]; omega⟩, List.take_left, List.drop_left]
theorem rowB_back {r : PRow} (h : rightP r = true) (X : List UInt8) : rowD (rowB r ++ X, false) = (r, true, (X, false)) := by
  have h1 := rightP_name h
  have h2 := rightP_bytes h
  have hn : (Wk.u8 (r.name.length : Int)).toNat = r.name.length := u8_lenD (by omega)
  have hb : numN (be 2 ((nameF r.term).length : Int)) 0 = (nameF r.term).length := by
    have := be2_numD (n := ((nameF r.term).length : Int)) (by omega)
    omega
  have ht : termD (nameF r.term) = (r.term, true) := by
    by_cases he : nameF r.term = []
    · rw [termD, if_pos he]
      simp only [rightP, fitP, Bool.and_eq_true, Bool.or_eq_true, decide_eq_true_eq] at h
      rcases h.2.2 with hg | hg
      · rw [(sameF_iff _ _).1 hg]
      · obtain ⟨left, hd⟩ := dec_name hg.1
        rw [he, decT_nil] at hd; cases hd
    · rw [termD, if_neg he]
      simp only [rightP, fitP, Bool.and_eq_true, Bool.or_eq_true, decide_eq_true_eq] at h
      rcases h.2.2 with hg | hg
      · exact absurd (by rw [(sameF_iff _ _).1 hg, nameF_zero]) he
      · obtain ⟨left, hd⟩ := dec_name hg.1
        rw [hd]; rfl
  have e1 : tkB 1 (rowB r ++ X, false) = ([Wk.u8 (r.name.length : Int)], (r.name ++ (be 2 ((nameF r.term).length : Int) ++ (nameF r.term ++ X)), false)) := by
    rw [rowB, List.append_assoc, List.append_assoc, List.append_assoc]
    exact tkB_ok rfl
  have e2 : tkB (numN [Wk.u8 (r.name.length : Int)] 0) (r.name ++ (be 2 ((nameF r.term).length : Int) ++ (nameF r.term ++ X)), false) = (r.name, (be 2 ((nameF r.term).length : Int) ++ (nameF r.term ++ X), false)) :=
    tkB_ok (by simp [numN, hn])
  have e3 : tkB 2 (be 2 ((nameF r.term).length : Int) ++ (nameF r.term ++ X), false) = (be 2 ((nameF r.term).length : Int), (nameF r.term ++ X, false)) := tkB_ok (by simp [be])
  have e4 : tkB (numN (be 2 ((nameF r.term).length : Int)) 0) (nameF r.term ++ X, false) = (nameF r.term, (X, false)) := tkB_ok hb.symm
  rw [rowD, e1]; simp only
  rw [e2]; simp only
  rw [e3]; simp only
  rw [e4, ht]
theorem rowsB_back : ∀ (l : List PRow) (X : List UInt8), (∀ r ∈ l, rightP r = true) → rowsD l.length (rowsB l ++ X, false) = (l, true, (X, false))
  | [], X, _ => rfl
  | r :: l, X, h => by
    rw [List.length_cons, rowsD, rowsB, List.append_assoc, rowB_back (h r (.head _))]
    simp only
    rw [rowsB_back l X fun x hx => h x (.tail _ hx)]
    rfl
theorem allD_enc {l : List PRow} (h : batchP l = true) : allD (encP l) = (l, true, ([], false)) := by
  have h2 := h
  rw [batchP, Bool.and_eq_true, decide_eq_true_eq] at h2
  have e1 : tkB 1 (encP l, false) = ([Wk.u8 (l.length : Int)], (rowsB l, false)) := by
    have := tkB_ok (k := 1) (l := [Wk.u8 (l.length : Int)]) (X := rowsB l) rfl
    exact this
  have e2 : numN [Wk.u8 (l.length : Int)] 0 = l.length := by
    have := u8_lenD (l := l.length) (by omega)
    simp [numN, this]
  have := rowsB_back l [] (goodP_all _ _ h2.1)
  rw [List.append_nil] at this
  rw [allD, e1]; simp only
  rw [e2, this]
theorem decV_enc {l : List PRow} (h : batchP l = true) : decV (encP l) = (l, 0) := by
  have h2 := h
  rw [batchP, Bool.and_eq_true, decide_eq_true_eq] at h2
  rw [decV, allD_enc h, if_neg (by simp), if_neg]
  rintro (h3 | h3 | h3 | h3)
  · cases h3
  · exact absurd h3 (by simp)
  · exact absurd h3 (by have := h2.2; simp only; omega)
  · rw [h] at h3; cases h3
end Go.Proofs.YtdakncgafdnjfaaGreat