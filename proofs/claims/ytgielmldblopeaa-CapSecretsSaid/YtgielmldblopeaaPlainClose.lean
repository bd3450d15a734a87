/- What can be reckoned: plain. -/
import Derived.Test.YtgielmldblopeaaPlainName
import Derived.Test.YtgielmldblopeaaCloseC
namespace Go.Proofs.Ytgielmldblopeaa
open Go Go.Wk
set_option maxRecDepth 100000


/-- what can be reckoned from known terms. -/
inductive Der (K : List Term) : Term → Prop where
  | known {t : Term} (h : t ∈ K) : Der K t
  | text {u n : Int} {s : List UInt8} {ks : List Term} : Der K (.mk 1 u n s ks)
  | make {k u n : Int} {s : List UInt8} {ks : List Term} (h2 : k ≠ 2) (h3 : k ≠ 3) (h8 : k = 8 → Der K (secretT u)) (hk : ∀ t ∈ ks, Der K t) : Der K (.mk k u n s ks)
  | part {k u n : Int} {s : List UInt8} {ks : List Term} {t : Term} (hk : k = 4 ∨ k = 8) (h : Der K (.mk k u n s ks)) (ht : t ∈ ks) : Der K t
  | unlock {u n : Int} {s : List UInt8} {key : Term} {ks : List Term} {t : Term} (h : Der K (.mk 6 u n s (key :: ks))) (hk : Der K key) (ht : t ∈ ks) : Der K t
  | open7 {u n : Int} {s : List UInt8} {ks : List Term} {t : Term} (h : Der K (.mk 7 u n s ks)) (hk : Der K (secretT u)) (ht : t ∈ ks) : Der K t
theorem Der.mono {K K' : List Term} (h : ∀ t ∈ K, Der K' t) {t : Term} (hd : Der K t) : Der K' t := by
  induction hd with
  | known hk => exact h _ hk
  | text => exact .text
  | make h2 h3 _ _ ih8 ihk => exact .make h2 h3 ih8 ihk
  | part hk _ ht ih => exact .part hk ih ht
  | unlock _ _ ht ih1 ih2 => exact .unlock ih1 ih2 ht
  | open7 _ _ ht ih1 ih2 => exact .open7 ih1 ih2 ht
def givesT (H : List UInt8 → Bool) : Term → List Term
  | .mk k u n s ks =>
    if k = 4 ∨ k = 8 then ks else if k = 6 then (if canF H (ks.headD Wk.zeroT) then ks.drop 1 else []) else if k = 7 then (if H (nameF (secretT u)) then ks else []) else []
theorem gives_map (H : List UInt8 → Bool) (t : LTerm) : (givesF H t).map LTerm.t = givesT H t.t := by
  have e : (nthL t.kids 0).t = (t.kids.map LTerm.t).headD Wk.zeroT := by
    cases h : t.kids with
    | nil => rfl
    | cons x xs => rfl
  rw [t.t_eq, givesT, givesF, e]
  split
  · rfl
  · split
    · split
      · rw [List.map_drop]
      · rfl
    · split
      · split <;> rfl
      · rfl
theorem inM_iff {km : List (List UInt8 × LTerm)} {k : List UInt8} : inM km k = true ↔ ∃ e ∈ km, e.1 = k := by
  unfold inM
  induction km with
  | nil => simp [tget]
  | cons e km ih =>
    obtain ⟨u, x⟩ := e
    rw [tget]
    split
    · rename_i h; simp [h]
    · rename_i h; rw [ih]; simp [Ne.symm h]
theorem inM_append {km km' : List (List UInt8 × LTerm)} {k : List UInt8} : inM (km ++ km') k = (inM km k || inM km' k) := by
  rw [Bool.eq_iff_iff, Bool.or_eq_true, inM_iff, inM_iff, inM_iff]
  constructor
  · rintro ⟨e, he, h⟩
    exact (List.mem_append.1 he).elim (fun q => .inl ⟨e, q, h⟩) (fun q => .inr ⟨e, q, h⟩)
  · rintro (⟨e, he, h⟩ | ⟨e, he, h⟩)
    · exact ⟨e, by simp [he], h⟩
    · exact ⟨e, by simp [he], h⟩
/-- what a taking apart ends with. -/
structure Apart (K : List Term) (km : List (List UInt8 × LTerm)) : Prop where
  names : ∀ e ∈ km, e.1 = nameF e.2.t
  good : ∀ e ∈ km, Good e.2.t ∧ Der K e.2.t
  cover : ∀ t ∈ K, inM km (nameF t) = true
  closed : ∀ e ∈ km, ∀ y ∈ givesT (inM km) e.2.t, inM km (nameF y) = true
  nd : (km.map (·.1)).Nodup
theorem inM_der {K : List Term} {km : List (List UInt8 × LTerm)} (hn : ∀ e ∈ km, e.1 = nameF e.2.t) (hg : ∀ e ∈ km, Good e.2.t ∧ Der K e.2.t) {t : Term} (ht : Good t) (h : inM km (nameF t) = true) : Der K t := by
  obtain ⟨e, he, h1⟩ := inM_iff.1 h
  rw [hn e he] at h1
  rw [← name_inj (hg e he).1 ht h1]
  exact (hg e he).2
mutual
theorem can_der {K : List Term} {km : List (List UInt8 × LTerm)} (hn : ∀ e ∈ km, e.1 = nameF e.2.t) (hg : ∀ e ∈ km, Good e.2.t ∧ Der K e.2.t) : ∀ t : Term, Good t → canF (inM km) t = true → Der K t
  | .mk k u n s ks => by
    intro ht h
    rw [canF] at h
    simp only [Bool.or_eq_true, Bool.and_eq_true, Bool.not_eq_true', Bool.or_eq_false_iff, decide_eq_true_eq, decide_eq_false_iff_not] at h
    rcases h with (h | rfl) | ⟨⟨h2, h3⟩, h8, hk⟩
    · exact inM_der hn hg ht h
    · exact .text
    · have hp := plain_shape (by cases ok_of_size ht with | mk h _ => exact h)
      refine .make h2 h3 (fun e8 => ?_) (canL_der hn hg ks (fun t h => good_kid ht h) hk)
      rcases h8 with h8 | h8
      · exact absurd e8 h8
      · exact inM_der hn hg (good_secret (by omega)) h8
theorem canL_der {K : List Term} {km : List (List UInt8 × LTerm)} (hn : ∀ e ∈ km, e.1 = nameF e.2.t) (hg : ∀ e ∈ km, Good e.2.t ∧ Der K e.2.t) : ∀ ts : List Term, (∀ t ∈ ts, Good t) → canLF (inM km) ts = true → ∀ t ∈ ts, Der K t
  | [] => by intro _ _ t ht; cases ht
  | x :: xs => by
    intro hG h t ht
    rw [canLF, Bool.and_eq_true] at h
    rcases List.mem_cons.1 ht with he | ht
    · rw [he]; exact can_der hn hg x (hG x (by simp)) h.1
    · exact canL_der hn hg xs (fun t h => hG t (by simp [h])) h.2 t ht
end
theorem canL_iff {H : List UInt8 → Bool} {ts : List Term} : canLF H ts = true ↔ ∀ t ∈ ts, canF H t = true := by
  induction ts with
  | nil => simp [canLF]
  | cons x xs ih => simp [canLF, ih]
theorem can_in {H : List UInt8 → Bool} {t : Term} (h : H (nameF t) = true) : canF H t = true := by
  cases t; rw [canF, h]; rfl
theorem name_ne {t : Term} (h : Good t) : nameF t ≠ [] := by
  rw [nameF, if_neg h]
  cases t
  rw [bytesF, headF]; simp
/-- what is had, or put together. -/
theorem can_cases {K : List Term} {km : List (List UInt8 × LTerm)} (A : Apart K km) {k u n : Int} {s : List UInt8} {ks : List Term} (h : canF (inM km) (.mk k u n s ks) = true) (hk : k ≠ 1) :
    (∃ e ∈ km, e.2.t = .mk k u n s ks) ∨ (∀ t ∈ ks, canF (inM km) t = true) := by
  rw [canF] at h
  simp only [Bool.or_eq_true, Bool.and_eq_true, decide_eq_true_eq] at h
  rcases h with (h | h) | ⟨_, _, h⟩
  · obtain ⟨e, he, h1⟩ := inM_iff.1 h
    refine .inl ⟨e, he, ?_⟩
    rw [A.names e he] at h1
    by_cases hG : Good (.mk k u n s ks)
    · exact name_inj (A.good e he).1 hG h1
    · have hG' : sizeF (.mk k u n s ks) = 0 := by
        unfold Good at hG
        exact Classical.not_not.1 hG
      rw [show nameF (.mk k u n s ks) = [] from by rw [nameF, if_pos hG']] at h1
      exact absurd h1 (name_ne (A.good e he).1)
  · exact absurd h hk
  · exact .inr (canL_iff.1 h)
theorem der_can {K : List Term} {km : List (List UInt8 × LTerm)} (A : Apart K km) {t : Term} (h : Der K t) : canF (inM km) t = true := by
  induction h with
  | known h => exact can_in (A.cover _ h)
  | text => simp [canF]
  | @make k u n s ks h2 h3 _ _ ih8 ihk =>
    rw [canF]
    have e1 : canLF (inM km) ks = true := canL_iff.2 ihk
    have e2 : (!decide (k = 8) || inM km (nameF (secretT u))) = true := by
      by_cases h8 : k = 8
      · have := ih8 h8
        rw [canF_secret] at this
        rw [this]; simp
      · simp [h8]
    rw [e1, e2]; simp [h2, h3]
  | @part k u n s ks t hk _ ht ih =>
    rcases can_cases A ih (by omega) with ⟨e, he, h1⟩ | h1
    · refine can_in (A.closed e he t ?_)
      rw [h1, givesT, if_pos hk]; exact ht
    · exact h1 t ht
  | @unlock u n s key ks t _ _ ht ih1 ih2 =>
    rcases can_cases A ih1 (by omega) with ⟨e, he, h1⟩ | h1
    · refine can_in (A.closed e he t ?_)
      rw [h1, givesT, if_neg (by omega), if_pos rfl, List.headD_cons, if_pos ih2]; exact ht
    · exact h1 t (by simp [ht])
  | @open7 u n s ks t _ _ ht ih1 ih2 =>
    rcases can_cases A ih1 (by omega) with ⟨e, he, h1⟩ | h1
    · refine can_in (A.closed e he t ?_)
      rw [canF_secret] at ih2
      rw [h1, givesT, if_neg (by omega), if_neg (by omega), if_pos rfl, if_pos ih2]; exact ht
    · exact h1 t ht
theorem can_iff {K : List Term} {km : List (List UInt8 × LTerm)} (A : Apart K km) {t : Term} (ht : Good t) : canF (inM km) t = true ↔ Der K t := ⟨can_der A.names A.good t ht, der_can A⟩

/-- a part, or a part of a part, of known terms. -/
inductive SubT (K : List Term) : Term → Prop where
  | top {t : Term} (h : t ∈ K) : SubT K t
  | kid {k u n : Int} {s : List UInt8} {ks : List Term} {t : Term} (h : SubT K (.mk k u n s ks)) (ht : t ∈ ks) : SubT K t
/-! the taking apart, as it goes -/
def Cov (st : List LTerm) (km : List (List UInt8 × LTerm)) (y : Term) : Prop := (∃ x ∈ st, x.t = y) ∨ inM km (nameF y) = true
def partsT : Term → List Term
  | .mk k _ _ _ ks => if k = 4 ∨ k = 8 ∨ k = 7 then ks else if k = 6 then ks.drop 1 else []
structure AInv (K : List Term) (O : LTerm → Prop) (st sh : List LTerm) (km : List (List UInt8 × LTerm)) : Prop where
  old : ∀ x, x ∈ st ∨ x ∈ sh ∨ (∃ e ∈ km, e.2 = x) → O x ∧ Good x.t ∧ Der K x.t
  names : ∀ e ∈ km, e.1 = nameF e.2.t
  cover : ∀ t ∈ K, Cov st km t
  closed : ∀ e ∈ km, (∃ x ∈ sh, x.t = e.2.t) ∨ ∀ y ∈ partsT e.2.t, Cov st km y
  nd : (km.map (·.1)).Nodup
def wS (st : List LTerm) : Nat := (st.map fun x => 2 * cnt x.t).sum
def wH (sh : List LTerm) : Nat := (sh.map fun x => 2 * cnt x.t - 1).sum
theorem wS_append (a b : List LTerm) : wS (a ++ b) = wS a + wS b := by simp [wS]
theorem wH_append (a b : List LTerm) : wH (a ++ b) = wH a + wH b := by simp [wH]
theorem wS_len (st : List LTerm) : st.length ≤ wS st := by
  induction st with
  | nil => simp
  | cons x xs ih =>
    have := cnt_pos x.t
    simp only [wS, List.map_cons, List.sum_cons, List.length_cons] at ih ⊢
    omega
theorem wH_len (st : List LTerm) : st.length ≤ wH st := by
  induction st with
  | nil => simp
  | cons x xs ih =>
    have := cnt_pos x.t
    simp only [wH, List.map_cons, List.sum_cons, List.length_cons] at ih ⊢
    omega
theorem wS_kids (t : LTerm) : wS t.kids + 2 = 2 * cnt t.t := by
  have h : ∀ ks : List LTerm, wS ks = 2 * cntL (ks.map LTerm.t) := by
    intro ks
    induction ks with
    | nil => rfl
    | cons x xs ih =>
      simp only [wS, List.map_cons, List.sum_cons, cntL] at ih ⊢
      omega
  rw [h, t.t_eq, cnt]; omega
theorem wS_gives (H : List UInt8 → Bool) (t : LTerm) : wS (givesF H t) + 2 ≤ 2 * cnt t.t := by
  have h1 := wS_kids t
  have h2 : wS (t.kids.drop 1) ≤ wS t.kids := by
    have : wS t.kids = wS (t.kids.take 1) + wS (t.kids.drop 1) := by rw [← wS_append, List.take_append_drop]
    omega
  have h3 : wS ([] : List LTerm) = 0 := rfl
  unfold givesF
  split
  · omega
  · split
    · split <;> omega
    · split
      · split <;> omega
      · omega
theorem wH_erase (sh : List LTerm) (i : Nat) (x : LTerm) (h : sh[i]? = some x) : wH (sh.eraseIdx i) + (2 * cnt x.t - 1) = wH sh := by
  induction sh generalizing i with
  | nil => simp at h
  | cons y ys ih =>
    cases i with
    | zero => simp at h; subst h; simp [wH]; omega
    | succ i =>
      have := ih i (by simpa using h)
      simp only [wH, List.eraseIdx_cons_succ, List.map_cons, List.sum_cons] at this ⊢
      omega
section
variable {K : List Term} {O : LTerm → Prop} {st sh : List LTerm} {km : List (List UInt8 × LTerm)} {x : LTerm}
theorem AInv.found (h : AInv K O (st ++ [x]) sh km) (hx : inM km (nameF x.t) = true) : AInv K O st sh km := by
  have hc : ∀ y, Cov (st ++ [x]) km y → Cov st km y := by
    rintro y (⟨z, hz, rfl⟩ | hy)
    · rcases List.mem_append.1 hz with hz | hz
      · exact .inl ⟨z, hz, rfl⟩
      · obtain rfl := List.mem_singleton.1 hz; exact .inr hx
    · exact .inr hy
  exact ⟨fun y hy => h.old y (hy.imp (fun q => by simp [q]) id), h.names, fun t ht => hc t (h.cover t ht), fun e he => (h.closed e he).imp id fun q y hy => hc y (q y hy), h.nd⟩
theorem nd_push {km : List (List UInt8 × LTerm)} {k : List UInt8} {x : LTerm} (h : (km.map (·.1)).Nodup) (hk : inM km k = false) : ((km ++ [(k, x)]).map (·.1)).Nodup := by
  rw [List.map_append, List.map_singleton]
  refine List.nodup_append.2 ⟨h, by simp, fun a ha b hb hab => ?_⟩
  obtain ⟨e, he, rfl⟩ := List.mem_map.1 ha
  have hk2 : inM km k = true := inM_iff.2 ⟨e, he, hab.trans (List.mem_singleton.1 hb)⟩
  rw [hk] at hk2; cases hk2
theorem AInv.new (hxk : inM km (nameF x.t) = false) (h : AInv K O (st ++ [x]) sh km) (st' sh' : List LTerm) (hst : ∀ y ∈ st', y ∈ st ∨ (O y ∧ Good y.t ∧ Der K y.t)) (hsh : ∀ y ∈ sh', y ∈ sh ∨ y = x) (hst2 : ∀ y ∈ st, y ∈ st') (hsh2 : ∀ y ∈ sh, y ∈ sh')
    (hx : (∃ y ∈ sh', y.t = x.t) ∨ ∀ y ∈ partsT x.t, Cov st' (km ++ [(nameF x.t, x)]) y) : AInv K O st' sh' (km ++ [(nameF x.t, x)]) := by
  have hox := h.old x (.inl (by simp))
  have hc : ∀ y, Cov (st ++ [x]) km y → Cov st' (km ++ [(nameF x.t, x)]) y := by
    rintro y (⟨z, hz, rfl⟩ | hy)
    · rcases List.mem_append.1 hz with hz | hz
      · exact .inl ⟨z, hst2 z hz, rfl⟩
      · obtain rfl := List.mem_singleton.1 hz
        exact .inr (inM_iff.2 ⟨(nameF z.t, z), by simp, rfl⟩)
    · exact .inr (by rw [inM_append, hy]; rfl)
  refine ⟨fun y hy => ?_, fun e he => ?_, fun t ht => hc t (h.cover t ht), fun e he => ?_, nd_push h.nd hxk⟩
  · rcases hy with hy | hy | ⟨e, he, rfl⟩
    · rcases hst y hy with q | q
      · exact h.old y (.inl (by simp [q]))
      · exact q
    · rcases hsh y hy with q | rfl
      · exact h.old y (.inr (.inl q))
      · exact hox
    · rcases List.mem_append.1 he with he | he
      · exact h.old _ (.inr (.inr ⟨e, he, rfl⟩))
      · obtain rfl := List.mem_singleton.1 he; exact hox
  · rcases List.mem_append.1 he with he | he
    · exact h.names e he
    · obtain rfl := List.mem_singleton.1 he; rfl
  · rcases List.mem_append.1 he with he | he
    · rcases h.closed e he with ⟨y, hy, q⟩ | q
      · exact .inl ⟨y, hsh2 y hy, q⟩
      · exact .inr fun y hy => hc y (q y hy)
    · obtain rfl := List.mem_singleton.1 he; exact hx
theorem AInv.open48 (hxk : inM km (nameF x.t) = false) (hO : ∀ x, O x → ∀ y ∈ x.kids, O y) (h : AInv K O (st ++ [x]) sh km) (hk : x.kind = 4 ∨ x.kind = 8) : AInv K O (st ++ x.kids) sh (km ++ [(nameF x.t, x)]) := by
  obtain ⟨o1, o2, o3⟩ := h.old x (.inl (by simp))
  refine h.new hxk _ _ (fun y hy => ?_) (fun y hy => .inl hy) (fun y hy => by simp [hy]) (fun y hy => hy) (.inr fun y hy => ?_)
  · rcases List.mem_append.1 hy with hy | hy
    · exact .inl hy
    · rw [x.t_eq] at o2 o3
      have hm : y.t ∈ x.kids.map LTerm.t := List.mem_map.2 ⟨y, hy, rfl⟩
      exact .inr ⟨hO x o1 y hy, good_kid o2 hm, .part hk o3 hm⟩
  · rw [x.t_eq, partsT, if_pos (by omega)] at hy
    obtain ⟨z, hz, rfl⟩ := List.mem_map.1 hy
    exact .inl ⟨z, by simp [hz], rfl⟩
theorem AInv.shut (hxk : inM km (nameF x.t) = false) (h : AInv K O (st ++ [x]) sh km) : AInv K O st (sh ++ [x]) (km ++ [(nameF x.t, x)]) :=
  h.new hxk _ _ (fun y hy => .inl hy) (fun y hy => (List.mem_append.1 hy).imp id fun q => List.mem_singleton.1 q) (fun y hy => hy) (fun y hy => by simp [hy]) (.inl ⟨x, by simp, rfl⟩)
theorem AInv.other (hxk : inM km (nameF x.t) = false) (h : AInv K O (st ++ [x]) sh km) (h4 : x.kind ≠ 4) (h8 : x.kind ≠ 8) (h6 : x.kind ≠ 6) (h7 : x.kind ≠ 7) : AInv K O st sh (km ++ [(nameF x.t, x)]) :=
  h.new hxk _ _ (fun y hy => .inl hy) (fun y hy => .inl hy) (fun y hy => hy) (fun y hy => hy) (.inr fun y hy => by rw [x.t_eq, partsT, if_neg (by omega), if_neg h6] at hy; cases hy)
theorem gives_der (h : AInv K O st sh km) {t : Term} (hG : Good t) (ht : Der K t) {y : Term} (hy : y ∈ givesT (inM km) t) : Good y ∧ Der K y := by
  have hg : ∀ e ∈ km, Good e.2.t ∧ Der K e.2.t := fun e he => (h.old _ (.inr (.inr ⟨e, he, rfl⟩))).2
  obtain ⟨k, u, n, s, ks⟩ := t
  rw [givesT] at hy
  split at hy
  · rename_i hk; exact ⟨good_kid hG hy, .part hk ht hy⟩
  · split at hy
    · rename_i hk
      subst hk
      split at hy
      · rename_i hc
        cases ks with
        | nil => simp at hy
        | cons key ks => exact ⟨good_kid hG (by simp at hy; simp [hy]), .unlock ht (can_der h.names hg key (good_kid hG (by simp)) (by simpa using hc)) (by simpa using hy)⟩
      · cases hy
    · split at hy
      · rename_i hk
        subst hk
        split at hy
        · rename_i hc
          have hp := plain_shape (by cases ok_of_size hG with | mk h _ => exact h)
          exact ⟨good_kid hG hy, .open7 ht (inM_der h.names hg (good_secret (by omega)) hc) hy⟩
        · cases hy
      · cases hy
theorem gives_parts {H : List UInt8 → Bool} {t : Term} (h : givesT H t ≠ []) : givesT H t = partsT t := by
  obtain ⟨k, u, n, s, ks⟩ := t
  rw [givesT] at h
  rw [givesT, partsT]
  by_cases hk : k = 4 ∨ k = 8
  · rw [if_pos hk, if_pos (show k = 4 ∨ k = 8 ∨ k = 7 by omega)]
  · rw [if_neg hk] at h ⊢
    by_cases h6 : k = 6
    · rw [if_pos h6] at h ⊢
      rw [if_neg (show ¬ (k = 4 ∨ k = 8 ∨ k = 7) by omega), if_pos h6]
      by_cases hc : canF H (ks.headD Wk.zeroT) = true
      · rw [if_pos hc]
      · rw [if_neg hc] at h; exact absurd rfl h
    · rw [if_neg h6] at h ⊢
      by_cases h7 : k = 7
      · rw [if_pos h7] at h ⊢
        rw [if_pos (show k = 4 ∨ k = 8 ∨ k = 7 by omega)]
        by_cases hc : H (nameF (secretT u)) = true
        · rw [if_pos hc]
        · rw [if_neg hc] at h; exact absurd rfl h
      · rw [if_neg h7] at h; exact absurd rfl h
theorem AInv.reopen (hO : ∀ x, O x → ∀ y ∈ x.kids, O y) (h : AInv K O [] sh km) {i : Nat} (hx : sh[i]? = some x) (hne : givesF (inM km) x ≠ []) : AInv K O (givesF (inM km) x) (sh.eraseIdx i) km := by
  have hxm : x ∈ sh := List.mem_of_getElem? hx
  obtain ⟨o1, o2, o3⟩ := h.old x (.inr (.inl hxm))
  have hsub : ∀ y ∈ givesF (inM km) x, y ∈ x.kids := fun y hy => by
    unfold givesF at hy
    split at hy
    · exact hy
    · split at hy
      · split at hy
        · exact List.mem_of_mem_drop hy
        · cases hy
      · split at hy
        · split at hy
          · exact hy
          · cases hy
        · cases hy
  have hc : ∀ y, Cov [] km y → Cov (givesF (inM km) x) km y := fun y hy => hy.elim (fun ⟨z, hz, _⟩ => by cases hz) .inr
  have hgp : (givesF (inM km) x).map LTerm.t = partsT x.t := by
    rw [gives_map]
    refine gives_parts fun h0 => hne ?_
    rw [← gives_map] at h0
    exact List.map_eq_nil_iff.1 h0
  refine ⟨fun y hy => ?_, h.names, fun t ht => hc t (h.cover t ht), fun e he => ?_, h.nd⟩
  · rcases hy with hy | hy | hy
    · have hm : y.t ∈ givesT (inM km) x.t := by rw [← gives_map]; exact List.mem_map.2 ⟨y, hy, rfl⟩
      exact ⟨hO x o1 y (hsub y hy), gives_der h o2 o3 hm⟩
    · exact h.old y (.inr (.inl (List.mem_of_mem_eraseIdx hy)))
    · exact h.old y (.inr (.inr hy))
  · rcases h.closed e he with ⟨y, hy, q⟩ | q
    · by_cases hxy : y.t = x.t
      · right
        intro z hz
        rw [← q, hxy, ← hgp] at hz
        obtain ⟨v, hv, rfl⟩ := List.mem_map.1 hz
        exact .inl ⟨v, hv, rfl⟩
      · left
        refine ⟨y, ?_, q⟩
        obtain ⟨j, hj, hjy⟩ := List.mem_iff_getElem.1 hy
        refine List.mem_eraseIdx_iff_getElem?.2 ⟨j, fun hji => hxy ?_, by rw [← hjy]; exact List.getElem?_eq_getElem hj⟩
        subst hji
        rw [List.getElem?_eq_getElem hj, hjy] at hx
        cases hx; rfl
    · exact .inr fun z hz => hc z (q z hz)
theorem AInv.apart (h : AInv K O [] sh km) (hsh : ∀ x ∈ sh, givesF (inM km) x = []) : Apart K km := by
  have hc : ∀ y, Cov [] km y → inM km (nameF y) = true := fun y hy => hy.elim (fun ⟨z, hz, _⟩ => by cases hz) id
  refine ⟨h.names, fun e he => (h.old _ (.inr (.inr ⟨e, he, rfl⟩))).2, fun t ht => hc t (h.cover t ht), fun e he y hy => ?_, h.nd⟩
  rcases h.closed e he with ⟨x, hx, q⟩ | q
  · rw [← q, ← gives_map, hsh x hx] at hy; cases hy
  · refine hc y (q y ?_)
    rw [← gives_parts (fun h0 => by rw [h0] at hy; cases hy)]; exact hy
theorem AInv.start (ks : List LTerm) (hK : ks.map LTerm.t = K) (ho : ∀ x ∈ ks, O x ∧ Good x.t) : AInv K O ks [] [] := by
  refine ⟨fun x hx => ?_, fun e he => by (cases he), fun t ht => ?_, fun e he => by (cases he), by simp⟩
  · rcases hx with hx | hx | ⟨e, he, _⟩
    · exact ⟨(ho x hx).1, (ho x hx).2, .known (by rw [← hK]; exact List.mem_map.2 ⟨x, hx, rfl⟩)⟩
    · cases hx
    · cases he
  · rw [← hK] at ht
    obtain ⟨x, hx, rfl⟩ := List.mem_map.1 ht
    exact .inl ⟨x, hx, rfl⟩
end
end Go.Proofs.Ytgielmldblopeaa
