/- A term's bytes tell the term. -/
import Derived.Test.YtmngicgdgpimlaaDoorTermF
namespace Go.Proofs.YtmngicgdgpimlaaDoor
open Go Go.Wk
set_option maxRecDepth 100000

/-- what the fields of a term may be, kind by kind. -/
theorem plain_shape {k u n : Int} {s : List UInt8} {m : Nat} (h : plainF k u n s m = true) :
    (k = 1 ∧ u = 0 ∧ n = 0 ∧ s.length ≤ 64 ∧ m = 0) ∨ (k = 2 ∧ 1 ≤ u ∧ u ≤ 6 ∧ 0 ≤ n ∧ n ≤ 65535 ∧ s = [] ∧ m = 0) ∨ (k = 3 ∧ 1 ≤ u ∧ u ≤ 6 ∧ n = 0 ∧ s = [] ∧ m = 0) ∨
    ((k = 4 ∨ k = 6) ∧ u = 0 ∧ n = 0 ∧ s = [] ∧ m = 2) ∨ (k = 5 ∧ u = 0 ∧ n = 0 ∧ s = [] ∧ m = 1) ∨ (k = 7 ∧ 1 ≤ u ∧ u ≤ 6 ∧ n = 0 ∧ s = [] ∧ m = 1) ∨ (k = 8 ∧ 1 ≤ u ∧ u ≤ 6 ∧ 0 ≤ n ∧ n ≤ 65535 ∧ s = [] ∧ m = 1) := by
  have h0 : fieldsOf k ≠ 0 := by
    intro h0
    simp [plainF, h0] at h
  have hk : k = 1 ∨ k = 2 ∨ k = 3 ∨ k = 4 ∨ k = 5 ∨ k = 6 ∨ k = 7 ∨ k = 8 := by
    unfold fieldsOf at h0
    by_cases hk : k = 1 ∨ k = 2 ∨ k = 3 ∨ k = 4 ∨ k = 5 ∨ k = 6 ∨ k = 7 ∨ k = 8
    · exact hk
    · exact absurd (by repeat (first | rw [if_neg (by omega)] | rfl)) h0
  have t1 : fieldsOf 1 = 1 := rfl
  have t2 : fieldsOf 2 = 6 := rfl
  have t3 : fieldsOf 3 = 2 := rfl
  have t4 : fieldsOf 4 = 16 := rfl
  have t5 : fieldsOf 5 = 8 := rfl
  have t6 : fieldsOf 6 = 16 := rfl
  have t7 : fieldsOf 7 = 10 := rfl
  have t8 : fieldsOf 8 = 14 := rfl
  have f11 : hasF 1 1 = true := rfl
  have f12 : hasF 1 2 = false := rfl
  have f14 : hasF 1 4 = false := rfl
  have f61 : hasF 6 1 = false := rfl
  have f62 : hasF 6 2 = true := rfl
  have f64 : hasF 6 4 = true := rfl
  have f21 : hasF 2 1 = false := rfl
  have f22 : hasF 2 2 = true := rfl
  have f24 : hasF 2 4 = false := rfl
  have g1 : hasF 16 1 = false := rfl
  have g2 : hasF 16 2 = false := rfl
  have g4 : hasF 16 4 = false := rfl
  have i1 : hasF 8 1 = false := rfl
  have i2 : hasF 8 2 = false := rfl
  have i4 : hasF 8 4 = false := rfl
  have j1 : hasF 10 1 = false := rfl
  have j2 : hasF 10 2 = true := rfl
  have j4 : hasF 10 4 = false := rfl
  have l1 : hasF 14 1 = false := rfl
  have l2 : hasF 14 2 = true := rfl
  have l4 : hasF 14 4 = true := rfl
  have k1 : kidsF 1 = 0 := rfl
  have k6 : kidsF 6 = 0 := rfl
  have k2 : kidsF 2 = 0 := rfl
  have k16 : kidsF 16 = 2 := rfl
  have k8 : kidsF 8 = 1 := rfl
  have k10 : kidsF 10 = 1 := rfl
  have k14 : kidsF 14 = 1 := rfl
  by_cases hs : s = []
  · subst hs
    rcases hk with rfl | rfl | rfl | rfl | rfl | rfl | rfl | rfl <;> simp [plainF, t1, t2, t3, t4, t5, t6, t7, t8, f11, f12, f14, f61, f62, f64, f21, f22, f24, g1, g2, g4, i1, i2, i4, j1, j2, j4, l1, l2, l4, k1, k6, k2, k16, k8, k10, k14, knownF] at h ⊢ <;> omega
  · rcases hk with rfl | rfl | rfl | rfl | rfl | rfl | rfl | rfl <;> simp [plainF, t1, t2, t3, t4, t5, t6, t7, t8, f11, f12, f14, f61, f62, f64, f21, f22, f24, g1, g2, g4, i1, i2, i4, j1, j2, j4, l1, l2, l4, k1, k6, k2, k16, k8, k10, k14, knownF, hs] at h ⊢
    omega
/-- a term whose parts all may be. -/
inductive Ok : Term → Prop where
  | mk {k u n : Int} {s : List UInt8} {ks : List Term} (h : plainF k u n s ks.length = true) (hk : ∀ t ∈ ks, Ok t) : Ok (.mk k u n s ks)
mutual
theorem ok_of_walk : ∀ (t : Term) (deep left : Int), (walkF t deep left).1 = true → Ok t
  | .mk k u n s ks, deep, left => by
    intro h
    rw [walkF] at h
    split at h
    · cases h
    · rename_i hc
      refine .mk (by cases hp : plainF k u n s ks.length with
        | true => rfl
        | false => exact absurd (.inr (.inr hp)) hc) (okL_of_walk ks _ _ h)
theorem okL_of_walk : ∀ (ts : List Term) (deep left : Int), (walkLF ts deep left).1 = true → ∀ t ∈ ts, Ok t
  | [], _, _ => by intro _ t ht; cases ht
  | x :: xs, deep, left => by
    intro h t ht
    rw [walkLF] at h
    split at h
    · rename_i hc
      rcases List.mem_cons.1 ht with he | ht
      · rw [he]; exact ok_of_walk x deep left hc
      · exact okL_of_walk xs deep _ h t ht
    · cases h
end
theorem ok_of_size {t : Term} (h : sizeF t ≠ 0) : Ok t := by
  unfold sizeF at h
  split at h
  · rename_i hc; exact ok_of_walk t 1 1200 hc
  · exact absurd rfl h
theorem u8_inj {a b : Int} (ha : 0 ≤ a ∧ a ≤ 255) (hb : 0 ≤ b ∧ b ≤ 255) (h : Wk.u8 a = Wk.u8 b) : a = b := by
  have h1 := congrArg UInt8.toNat h
  unfold Wk.u8 at h1
  rw [UInt8.toNat_ofNat', UInt8.toNat_ofNat'] at h1
  simp at h1
  omega
theorem be2_inj {a b : Int} (ha : 0 ≤ a ∧ a ≤ 65535) (hb : 0 ≤ b ∧ b ≤ 65535) {r r' : List UInt8} (h : be 2 (IntKind.u16.wrap a) ++ r = be 2 (IntKind.u16.wrap b) ++ r') : a = b ∧ r = r' := by
  rw [wu16 a ha.1 ha.2, wu16 b hb.1 hb.2] at h
  have hl : (be 2 a).length = (be 2 b).length := by simp [be]
  obtain ⟨h1, h2⟩ := List.append_inj h hl
  refine ⟨?_, h2⟩
  simp only [be, List.range_succ, List.range_zero, List.nil_append, List.map_append, List.map_cons, List.map_nil, List.cons_append, List.cons.injEq, and_true] at h1
  obtain ⟨h3, h4⟩ := h1
  have e1 := congrArg UInt8.toNat h3
  have e2 := congrArg UInt8.toNat h4
  unfold Wk.u8 at e1 e2
  rw [UInt8.toNat_ofNat', UInt8.toNat_ofNat'] at e1 e2
  simp at e1 e2
  have f1 : a.fdiv 256 = a / 256 := by rw [Int.fdiv_eq_ediv_of_nonneg]; omega
  have f2 : b.fdiv 256 = b / 256 := by rw [Int.fdiv_eq_ediv_of_nonneg]; omega
  rw [f1, f2] at e1
  omega
theorem head1 (s : List UInt8) : headF 1 0 0 s = Wk.u8 1 :: Wk.u8 s.length :: s := by
  show [Wk.u8 1] ++ (Wk.u8 s.length :: s) ++ [] ++ [] = _
  simp
theorem head2 (u n : Int) : headF 2 u n [] = Wk.u8 2 :: Wk.u8 u :: be 2 (IntKind.u16.wrap n) := rfl
theorem head3 (u : Int) : headF 3 u 0 [] = [Wk.u8 3, Wk.u8 u] := rfl
theorem head4 : headF 4 0 0 [] = [Wk.u8 4] := rfl
theorem head5 : headF 5 0 0 [] = [Wk.u8 5] := rfl
theorem head6 : headF 6 0 0 [] = [Wk.u8 6] := rfl
theorem head7 (u : Int) : headF 7 u 0 [] = [Wk.u8 7, Wk.u8 u] := rfl
theorem head8 (u n : Int) : headF 8 u n [] = Wk.u8 8 :: Wk.u8 u :: be 2 (IntKind.u16.wrap n) := rfl
theorem head_first (k u n : Int) (s : List UInt8) : ∃ r, headF k u n s = Wk.u8 k :: r := ⟨_, rfl⟩
theorem head_inj {k u n k' u' n' : Int} {s s' : List UInt8} {m m' : Nat} {r r' : List UInt8} (h : plainF k u n s m = true) (h' : plainF k' u' n' s' m' = true) (he : headF k u n s ++ r = headF k' u' n' s' ++ r') : k = k' ∧ u = u' ∧ n = n' ∧ s = s' ∧ m = m' ∧ r = r' := by
  have hk : k = k' := by
    obtain ⟨q, hq⟩ := head_first k u n s
    obtain ⟨q', hq'⟩ := head_first k' u' n' s'
    rw [hq, hq'] at he
    have := (List.cons.inj he).1
    have s1 := plain_shape h
    have s2 := plain_shape h'
    exact u8_inj (by omega) (by omega) this
  subst hk
  rcases plain_shape h with ⟨rfl, rfl, rfl, hs, rfl⟩ | ⟨rfl, h1, h2, h3, h4, rfl, rfl⟩ | ⟨rfl, h1, h2, rfl, rfl, rfl⟩ | ⟨hk, rfl, rfl, rfl, rfl⟩ | ⟨rfl, rfl, rfl, rfl, rfl⟩ | ⟨rfl, h1, h2, rfl, rfl, rfl⟩ | ⟨rfl, h1, h2, h3, h4, rfl, rfl⟩ <;>
  rcases plain_shape h' with ⟨e, rfl, rfl, hs', rfl⟩ | ⟨e, g1, g2, g3, g4, rfl, rfl⟩ | ⟨e, g1, g2, rfl, rfl, rfl⟩ | ⟨e, rfl, rfl, rfl, rfl⟩ | ⟨e, rfl, rfl, rfl, rfl⟩ | ⟨e, g1, g2, rfl, rfl, rfl⟩ | ⟨e, g1, g2, g3, g4, rfl, rfl⟩ <;> first | (exfalso; omega) | skip
  · rw [head1, head1] at he
    simp only [List.cons_append, List.cons.injEq] at he
    have hl := u8_inj (by omega) (by omega) he.2.1
    obtain ⟨q1, q2⟩ := List.append_inj he.2.2 (by omega)
    exact ⟨rfl, rfl, rfl, q1, rfl, q2⟩
  · rw [head2, head2] at he
    simp only [List.cons_append, List.cons.injEq] at he
    have hu := u8_inj (by omega) (by omega) he.2.1
    obtain ⟨q1, q2⟩ := be2_inj ⟨h3, h4⟩ ⟨g3, g4⟩ he.2.2
    exact ⟨rfl, hu, q1, rfl, rfl, q2⟩
  · rw [head3, head3] at he
    simp only [List.cons_append, List.nil_append, List.cons.injEq] at he
    have hu := u8_inj (by omega) (by omega) he.2.1
    exact ⟨rfl, hu, rfl, rfl, rfl, he.2.2⟩
  · exact ⟨rfl, rfl, rfl, rfl, rfl, List.append_cancel_left he⟩
  · exact ⟨rfl, rfl, rfl, rfl, rfl, List.append_cancel_left he⟩
  · rw [head7, head7] at he
    simp only [List.cons_append, List.nil_append, List.cons.injEq] at he
    have hu := u8_inj (by omega) (by omega) he.2.1
    exact ⟨rfl, hu, rfl, rfl, rfl, he.2.2⟩
  · rw [head8, head8] at he
    simp only [List.cons_append, List.cons.injEq] at he
    have hu := u8_inj (by omega) (by omega) he.2.1
    obtain ⟨q1, q2⟩ := be2_inj ⟨h3, h4⟩ ⟨g3, g4⟩ he.2.2
    exact ⟨rfl, hu, q1, rfl, rfl, q2⟩
mutual
theorem bytes_inj : ∀ (t t' : Term) (r r' : List UInt8), Ok t → Ok t' → bytesF t ++ r = bytesF t' ++ r' → t = t' ∧ r = r'
  | .mk k u n s ks, .mk k' u' n' s' ks', r, r' => by
    rintro ⟨h, hk⟩ ⟨h', hk'⟩ he
    rw [bytesF, bytesF, List.append_assoc, List.append_assoc] at he
    obtain ⟨rfl, rfl, rfl, rfl, hm, he2⟩ := head_inj h h' he
    obtain ⟨e1, e2⟩ := bytesL_inj ks ks' r r' hk hk' hm he2
    exact ⟨by rw [e1], e2⟩
theorem bytesL_inj : ∀ (ts ts' : List Term) (r r' : List UInt8), (∀ t ∈ ts, Ok t) → (∀ t ∈ ts', Ok t) → ts.length = ts'.length → bytesLF ts ++ r = bytesLF ts' ++ r' → ts = ts' ∧ r = r'
  | [], [], r, r' => by intro _ _ _ h; exact ⟨rfl, h⟩
  | [], _ :: _, _, _ => by intro _ _ h; cases h
  | _ :: _, [], _, _ => by intro _ _ h; cases h
  | t :: ts, t' :: ts', r, r' => by
    intro h h' hl he
    rw [bytesLF, bytesLF, List.append_assoc, List.append_assoc] at he
    obtain ⟨e1, e2⟩ := bytes_inj t t' _ _ (h t (by simp)) (h' t' (by simp)) he
    obtain ⟨e3, e4⟩ := bytesL_inj ts ts' r r' (fun x hx => h x (by simp [hx])) (fun x hx => h' x (by simp [hx])) (by simpa using hl) e2
    exact ⟨by rw [e1, e3], e4⟩
end
/-- a term that may be (its size is told). -/
def Good (t : Term) : Prop := sizeF t ≠ 0
theorem name_inj {t t' : Term} (h : Good t) (h' : Good t') (he : nameF t = nameF t') : t = t' := by
  rw [nameF, nameF, if_neg h, if_neg h'] at he
  exact (bytes_inj t t' [] [] (ok_of_size h) (ok_of_size h') (by simpa using he)).1
/-! how many terms there are in one -/
mutual
def cnt : Term → Nat
  | .mk _ _ _ _ ks => 1 + cntL ks
def cntL : List Term → Nat
  | [] => 0
  | t :: ts => cnt t + cntL ts
end
theorem cntL_append (xs ys : List Term) : cntL (xs ++ ys) = cntL xs + cntL ys := by
  induction xs with
  | nil => simp [cntL]
  | cons x xs ih => simp only [List.cons_append, cntL, ih]; omega
theorem cnt_pos (t : Term) : 0 < cnt t := by cases t; simp [cnt]; omega
theorem cntL_mem {t : Term} {ts : List Term} (h : t ∈ ts) : cnt t ≤ cntL ts := by
  induction ts with
  | nil => cases h
  | cons x xs ih =>
    simp only [cntL]
    rcases List.mem_cons.1 h with rfl | h
    · omega
    · have := ih h; omega
mutual
theorem walk_more : ∀ (t : Term) (d l d' l' : Int), (walkF t d l).1 = true → d' ≤ d → l ≤ l' → (walkF t d' l').1 = true ∧ (walkF t d' l').2 = l' - cnt t
  | .mk k u n s ks, d, l, d', l' => by
    intro h hd hl
    rw [walkF] at h ⊢
    split at h
    · cases h
    · rename_i hc
      rw [if_neg (fun hn => hc (hn.elim (fun q => .inl (by omega)) (fun q => .inr (q.elim (fun q => .inl (by omega)) .inr))))]
      obtain ⟨h1, h2⟩ := walkL_more ks (d + 1) (l - 1) (d' + 1) (l' - 1) h (by omega) (by omega)
      refine ⟨h1, ?_⟩
      rw [h2, cnt]; omega
theorem walkL_more : ∀ (ts : List Term) (d l d' l' : Int), (walkLF ts d l).1 = true → d' ≤ d → l ≤ l' → (walkLF ts d' l').1 = true ∧ (walkLF ts d' l').2 = l' - cntL ts
  | [], d, l, d', l' => by intro _ _ _; simp [walkLF, cntL]
  | t :: ts, d, l, d', l' => by
    intro h hd hl
    rw [walkLF] at h ⊢
    split at h
    · rename_i hc
      obtain ⟨h1, h2⟩ := walk_more t d l d' l' hc hd hl
      obtain ⟨_, h2'⟩ := walk_more t d l d l hc (Int.le_refl _) (Int.le_refl _)
      rw [if_pos h1]
      obtain ⟨h3, h4⟩ := walkL_more ts d _ d' (walkF t d' l').2 h hd (by omega)
      refine ⟨h3, ?_⟩
      rw [h4, h2, cntL]; omega
    · cases h
end
theorem good_walk {t : Term} : Good t ↔ (walkF t 1 1200).1 = true := by
  constructor
  · intro h
    unfold Good sizeF at h
    split at h
    · assumption
    · exact absurd rfl h
  · intro h
    unfold Good sizeF
    rw [if_pos h]
    obtain ⟨_, h2⟩ := walk_more t 1 1200 1 1200 h (Int.le_refl _) (Int.le_refl _)
    have := cnt_pos t
    omega
theorem good_size {t : Term} (h : Good t) : sizeF t = cnt t := by
  have h1 := good_walk.1 h
  unfold sizeF
  rw [if_pos h1]
  obtain ⟨_, h2⟩ := walk_more t 1 1200 1 1200 h1 (Int.le_refl _) (Int.le_refl _)
  omega
theorem walkL_mem : ∀ (ts : List Term) (d l : Int), (walkLF ts d l).1 = true → ∀ t ∈ ts, ∃ l', l' ≤ l ∧ (walkF t d l').1 = true
  | [], _, _ => by intro _ t ht; cases ht
  | x :: xs, d, l => by
    intro h t ht
    rw [walkLF] at h
    split at h
    · rename_i hc
      rcases List.mem_cons.1 ht with he | ht
      · exact ⟨l, Int.le_refl _, by rw [he]; exact hc⟩
      · obtain ⟨l', h1, h2⟩ := walkL_mem xs d _ h t ht
        have := walkF_le x d l
        exact ⟨l', by omega, h2⟩
    · cases h
theorem good_kid {k u n : Int} {s : List UInt8} {ks : List Term} (h : Good (.mk k u n s ks)) {t : Term} (ht : t ∈ ks) : Good t := by
  have h1 := good_walk.1 h
  rw [walkF] at h1
  split at h1
  · cases h1
  · obtain ⟨l', h2, h3⟩ := walkL_mem ks _ _ h1 t ht
    exact good_walk.2 (walk_more t (1 + 1) l' 1 1200 h3 (by omega) (by omega)).1
theorem good_le {t : Term} (h : Good t) : cnt t ≤ 1200 := by
  have h1 := good_walk.1 h
  obtain ⟨_, h2⟩ := walk_more t 1 1200 1 1200 h1 (Int.le_refl _) (Int.le_refl _)
  have := walkF_ge t 1 1200 (by omega) h1
  omega
theorem good_check {t : Term} : checkF t = 0 ↔ Good t := by
  unfold checkF Good
  split <;> simp_all
theorem good_secret {u : Int} (h : 1 ≤ u ∧ u ≤ 6) : Good (.mk 3 u 0 [] []) := by
  refine good_walk.2 ?_
  have hp : plainF 3 u 0 [] 0 = true := by
    have f2 : fieldsOf 3 = 2 := rfl
    have f21 : hasF 2 1 = false := rfl
    have f22 : hasF 2 2 = true := rfl
    have f24 : hasF 2 4 = false := rfl
    have k2 : kidsF 2 = 0 := rfl
    simp [plainF, f2, f21, f22, f24, k2, knownF, h.1, h.2]
  rw [walkF, if_neg (by simp [hp])]
  rfl
end Go.Proofs.YtmngicgdgpimlaaDoor
