/- 7: a part of this claim's texts, joined: PlainWalC PlainWalD WalLawE WalLawF WalLawG WalLawH WalLawI WalLawJ WalLawK WalLawL WalLawM WalLawN WalV PlainFail PlainVaultB PlainVaultC VaultG VaultH VaultI W11 W12 W13 TermI PlainDecB PlainDecC PlainVaultD TermJ TermK TermL VaultK. -/
import Derived.Test.YtdakncgafdnjfaaGreatPb6
import Derived.SizedLaws
import Derived.OpenShut
/- Package wal in plain words: appending, checkpoints, openings, wherever the power goes. -/
namespace Go.Proofs.YtdakncgafdnjfaaGreat
open Go Go.Wk
set_option maxRecDepth 100000

theorem over_ne {xs : List Blk} {k : Nat} {j : Int} (h : ∀ i, i < xs.length → j ≠ ((k + i : Nat) : Int)) (u : Blk) : (findB j (wrs k xs)).getD u = u := by
  refine over_out ?_ u
  by_cases h1 : j < (k : Int)
  · exact .inl h1
  · refine .inr ?_
    by_cases h2 : ((k + xs.length : Nat) : Int) ≤ j
    · exact h2
    · exact absurd (show j = ((k + (j - k).toNat : Nat) : Int) by omega) (h _ (by omega))
/-- what changes behind a log's end alone. -/
theorem LogOn.inner {s s' : DS} {n : Nat} {t : Int} {said : List (List UInt8)} {tail : List Blk} (h : LogOn s n t said tail) (hu : Up s') (hl : s'.loose = []) (hz : s'.size = s.size)
    (hh : ∀ j : Int, (∀ i, i < n → endF t said ≤ i → j ≠ ((fromN n t + i : Nat) : Int)) → holdsF s' j = holdsF s j) : LogOn s' n t said ((fieldOf s' (fromN n t) n).drop (endF t said)) := by
  have hb := from_bound t h.hn.2
  have hm := Int.emod_lt_of_pos t (show (0 : Int) < 2 by decide)
  have hm0 := Int.emod_nonneg t (show (2 : Int) ≠ 0 by decide)
  have hlen := h.len
  refine ⟨hu, hl, h.hn, by rw [hz]; exact h.size, h.ht, ?_, ?_, h.some_, h.short, ?_, ?_⟩
  · rw [hh _ (fun i _ _ => by omega)]; exact h.title
  · have := h.other
    unfold Below mayF at this ⊢
    rw [hz, hh _ (fun i _ _ => by omega)]; exact this
  · have e : (fieldOf s' (fromN n t) n).take (endF t said) = laidF t said 0 := by
      have h2 : (fieldOf s (fromN n t) n).take (endF t said) = laidF t said 0 := by rw [h.cur]; exact List.take_left' rfl
      rw [← h2]
      apply List.ext_getElem?
      intro i
      rw [List.getElem?_take, List.getElem?_take]
      by_cases hi : i < endF t said
      · rw [if_pos hi, if_pos hi, fieldOf_get _ _ _ _ (by omega), fieldOf_get _ _ _ _ (by omega), hh _ (fun a _ ha => by omega)]
      · rw [if_neg hi, if_neg hi]
    rw [← e, List.take_append_drop]
  · intro i hi
    rw [hh _ (fun a ha _ => by have := from_apart t ha hi; omega)]; exact h.oth i hi
theorem LogOn.snoc {s : DS} {n : Nat} {t : Int} {said : List (List UInt8)} {rest : List Blk} {bs : List UInt8} (h : LogOn s n t said (leavesF t (said.length : Nat) bs ++ rest)) (hb : bs.length ≤ 40000) : LogOn s n t (said ++ [bs]) rest where
  up := h.up
  loose := h.loose
  hn := h.hn
  size := h.size
  ht := h.ht
  title := h.title
  other := h.other
  some_ := by simp
  short := fun b hm => by
    rcases List.mem_append.1 hm with hm | hm
    · exact h.short b hm
    · obtain rfl := List.mem_singleton.1 hm; exact hb
  cur := by rw [laidF_snoc, List.append_assoc, Nat.zero_add]; exact h.cur
  oth := h.oth
/-- something is taken down. -/
theorem append_live {s : DS} {n : Nat} {t : Int} {said : List (List UInt8)} (h : Live s n t said) (bs : List UInt8) (hb : bs.length ≤ 40000) (hr : endF t said + secN bs.length ≤ n) :
    ((layF s ((fromN n t + endF t said : Nat) : Int) (leavesF t (said.length : Nat) bs)).2 = 0 ∧ Live (layF s ((fromN n t + endF t said : Nat) : Int) (leavesF t (said.length : Nat) bs)).1 n t (said ++ [bs]) ∧ (s.arms.on = false → (layF s ((fromN n t + endF t said : Nat) : Int) (leavesF t (said.length : Nat) bs)).1.arms.on = false)) ∨
    (s.arms.on = true ∧ (layF s ((fromN n t + endF t said : Nat) : Int) (leavesF t (said.length : Nat) bs)).2 = 9 ∧ (layF s ((fromN n t + endF t said : Nat) : Int) (leavesF t (said.length : Nat) bs)).1.out = true ∧ ∀ keep, Able (crashD keep (layF s ((fromN n t + endF t said : Nat) : Int) (leavesF t (said.length : Nat) bs)).1) n t said ∨ Able (crashD keep (layF s ((fromN n t + endF t said : Nat) : Int) (leavesF t (said.length : Nat) bs)).1) n t (said ++ [bs])) := by
  obtain ⟨tail, hL, hf⟩ := h
  have hfb := from_bound t hL.hn.2
  have hlen := hL.len
  have hsz := hL.size
  have hn := hL.hn
  have hfew := hL.few
  obtain ⟨xs, hxs⟩ : ∃ xs, xs = leavesF t (said.length : Nat) bs := ⟨_, rfl⟩
  have hxl : xs.length = secN bs.length := by rw [hxs, leavesF_len]
  rw [← hxs]
  have htl : ∀ i, i < tail.length → tail[i]? = some (holdsF s ((fromN n t + endF t said + i : Nat) : Int)) := fun i hi => by
    have h1 := fieldOf_get s (fromN n t) n (endF t said + i) (by omega)
    rw [hL.cur, List.getElem?_append_right (by unfold endF; omega), show endF t said + i - (laidF t said 0).length = i from by unfold endF; omega] at h1
    rw [h1]; congr 3; omega
  rcases lay_f xs s (fromN n t + endF t said) hL.up hL.loose (by omega) (by omega) with ⟨c1, c2, c3, c4, c5, c6⟩ | ⟨c0, c1, c2, c3, i, c4⟩
  · refine .inl ⟨c1, ?_, c5⟩
    have h1 := hL.inner c2 c3 c4 (fun j hj => by rw [c6, over_ne (fun i hi => by have := hj (endF t said + i) (by omega) (by omega); omega)])
    have h2 := field_over (n := n) (xs := xs) (k := endF t said) (by omega) c6
    have hk : ((fieldOf s (fromN n t) n).take (endF t said)).length = endF t said := by rw [List.length_take, fieldOf_len]; omega
    rw [h2, List.append_assoc, List.drop_left' hk, hL.cur] at h1
    subst hxs
    refine ⟨_, h1.snoc hb, fun x hx => hf x ?_⟩
    rw [List.drop_append, List.drop_of_length_le (by unfold endF; omega), List.nil_append] at hx
    exact List.mem_of_mem_drop hx
  · refine .inr ⟨c0, c1, c2, fun keep => ?_⟩
    obtain ⟨d1, d2, d3, d4, _⟩ := crash_any keep (layF s ((fromN n t + endF t said : Nat) : Int) xs).1
    have hcl := fun j => crash_lay keep hL.loose c3 c4 j
    have h1 := hL.inner d1 d2 (d3.trans c3.size) (fun j hj => by
      rcases hcl j with e | ⟨m, e1, e2⟩
      · exact e
      · have hm := (List.getElem?_eq_some_iff.1 e2).1
        exact absurd (e1.trans (by congr 1; omega)) (hj (endF t said + m) (by omega) (by omega)))
    obtain ⟨tail', ht'⟩ : ∃ tail', tail' = (fieldOf (crashD keep (layF s ((fromN n t + endF t said : Nat) : Int) xs).1) (fromN n t) n).drop (endF t said) := ⟨_, rfl⟩
    rw [← ht'] at h1
    have hlen' := h1.len
    have hmix : Mix tail xs tail' := by
      refine ⟨by omega, fun a x hx => ?_⟩
      have ha : a < tail'.length := (List.getElem?_eq_some_iff.1 hx).1
      rw [ht', List.getElem?_drop, fieldOf_get _ _ _ _ (by omega)] at hx
      obtain rfl := Option.some.inj hx
      rcases hcl ((fromN n t + (endF t said + a) : Nat) : Int) with e | ⟨m, e1, e2⟩
      · rw [e, htl a (by omega)]; left; congr 3; omega
      · right; rw [← e2]; congr 1; omega
    rw [hxs] at hmix
    rcases mix_entry hL.ht.2 (by omega) hb hf hmix (by rw [← hxs]; omega) with ⟨rest, e, hr'⟩ | hne
    · rw [e] at h1
      exact .inr (Live.able ⟨rest, h1.snoc hb, hr'⟩)
    · refine .inl ⟨tail', h1, hne, fun x hx => ?_⟩
      obtain ⟨a, ha⟩ := List.getElem?_of_mem hx
      rcases hmix.2 a x ha with h2 | h2
      · exact (hf x (List.mem_of_getElem? h2)).mono (by omega)
      · have hm : a < secN bs.length := by have := (List.getElem?_eq_some_iff.1 h2).1; rw [leavesF_len] at this; exact this
        rw [leaves_get t _ bs a hm] at h2
        rw [← Option.some.inj h2]
        exact fresh_old _ t _ bs a hL.ht (by omega)
end Go.Proofs.YtdakncgafdnjfaaGreat

/- Package wal in plain words: openings, a new log. -/
namespace Go.Proofs.YtdakncgafdnjfaaGreat
open Go Go.Wk
set_option maxRecDepth 100000

/-- a new log. -/
theorem format_live (n : Nat) (hn : 4 ≤ n ∧ n ≤ 1000) : (fmtF n (newD ((2 * n + 2 : Nat) : Int))).2 = 0 ∧ Live (fmtF n (newD ((2 * n + 2 : Nat) : Int))).1 n 0 [[]] ∧ (fmtF n (newD ((2 * n + 2 : Nat) : Int))).1.arms.on = false := by
  obtain ⟨s0, hs0⟩ : ∃ s0, s0 = newD ((2 * n + 2 : Nat) : Int) := ⟨_, rfl⟩
  rw [← hs0]
  have hu0 : Up s0 := by rw [hs0]; exact ⟨rfl, rfl⟩
  have hz0 : s0.size = ((2 * n + 2 : Nat) : Int) := by rw [hs0]; rfl
  have ha0 : s0.arms.on = false := by rw [hs0]; rfl
  have hh0 : ∀ j, holdsF s0 j = zB := fun j => by rw [hs0]; rfl
  have off : ∀ {s : DS}, s.arms.on = false → ¬ s.arms.on = true := fun h h2 => by rw [h] at h2; cases h2
  rcases lay_f (List.replicate (2 * n + 2) zB) s0 0 hu0 (by rw [hs0]; rfl) (by omega) (by rw [List.length_replicate]; omega) with ⟨c1, c2, c3, c4, c5, c6⟩ | ⟨c0, _⟩
  · replace c1 : (layF s0 0 (List.replicate (2 * n + 2) zB)).2 = 0 := c1
    have hfm : fmtF n s0 = begF n 0 [] (layF s0 0 (List.replicate (2 * n + 2) zB)).1 := by rw [fmtF, if_pos c1]
    rw [hfm]
    obtain ⟨s1, hs1⟩ : ∃ s1, s1 = (layF s0 0 (List.replicate (2 * n + 2) zB)).1 := ⟨_, rfl⟩
    replace c2 : Up s1 := by rw [hs1]; exact c2
    replace c3 : s1.loose = [] := by rw [hs1]; exact c3
    replace c4 : s1.size = s0.size := by rw [hs1]; exact c4
    replace c5 : s1.arms.on = false := by rw [hs1]; exact c5 ha0
    have hh1 : ∀ j, holdsF s1 j = zB := fun j => by
      rw [hs1]
      have := c6 j
      rw [hh0, wrs_find] at this
      refine Eq.trans this ?_
      split
      · rw [List.getElem?_replicate]; split <;> rfl
      · rfl
    rw [← hs1]
    have hxl : (leavesF 0 0 []).length = 1 := rfl
    rcases lay_f (leavesF 0 0 []) s1 2 c2 c3 (by omega) (by rw [hxl]; omega) with ⟨d1, d2, d3, d4, d5, d6⟩ | ⟨d0, _⟩
    · have h2n : fromN n 0 = 2 := by simp [fromN]
      replace d1 : (layF s1 ((2 : Nat) : Int) (leavesF 0 0 [])).2 = 0 := d1
      have hbg : begF n 0 [] s1 = layF (layF s1 ((2 : Nat) : Int) (leavesF 0 0 [])).1 (((0 : Int) % 2).toNat : Nat) [titleF 0 n] := by
        show (if (layF s1 (fromN n 0 : Nat) (leavesF 0 0 [])).2 = 0 then layF (layF s1 (fromN n 0 : Nat) (leavesF 0 0 [])).1 (((0 : Int) % 2).toNat : Nat) [titleF 0 n] else layF s1 (fromN n 0 : Nat) (leavesF 0 0 [])) = _
        rw [h2n]; exact if_pos d1
      rw [hbg]
      obtain ⟨s2, hs2⟩ : ∃ s2, s2 = (layF s1 ((2 : Nat) : Int) (leavesF 0 0 [])).1 := ⟨_, rfl⟩
      replace d2 : Up s2 := by rw [hs2]; exact d2
      replace d3 : s2.loose = [] := by rw [hs2]; exact d3
      replace d4 : s2.size = s1.size := by rw [hs2]; exact d4
      replace d5 : s2.arms.on = false := by rw [hs2]; exact d5 c5
      replace d6 : ∀ j, holdsF s2 j = (findB j (wrs 2 (leavesF 0 0 []))).getD (holdsF s1 j) := fun j => by rw [hs2]; exact d6 j
      rw [← hs2]
      rcases lay_f [titleF 0 n] s2 0 d2 d3 (by omega) (by simp only [List.length_singleton]; omega) with ⟨e1, e2, e3, e4, e5, e6⟩ | ⟨e0, _⟩
      · have h0 : holdsF (layF s2 (((0 : Int) % 2).toNat : Nat) [titleF 0 n]).1 0 = titleF 0 n := by
          have := e6 0
          exact this
        have hj : ∀ j : Int, j ≠ 0 → holdsF (layF s2 (((0 : Int) % 2).toNat : Nat) [titleF 0 n]).1 j = holdsF s2 j := fun j hj => by
          have := e6 j
          rw [over_ne (fun i hi => by have : i = 0 := by simpa using hi
                                      subst this; exact hj)] at this
          exact this
        refine ⟨e1, ⟨List.replicate (n - 1) zB, ⟨e2, e3, hn, ?_, by omega, h0, ?_, by simp, fun b hb => ?_, ?_, fun i hi => ?_⟩, fun x hx => ?_⟩, e5 d5⟩
        · have : (layF s2 (((0 : Int) % 2).toNat : Nat) [titleF 0 n]).1.size = s2.size := e4
          rw [this]; omega
        · rw [hj _ (by decide), d6, over_ne (fun i hi => by rw [hxl] at hi; omega), hh1]
          intro hb
          rw [show tellN zB = 0 from by decide] at hb
          simp [mayF] at hb
        · obtain rfl := List.mem_singleton.1 hb; simp
        · have h1 := field_over (s := s1) (s' := s2) (fr := 2) (n := n) (k := 0) (xs := leavesF 0 0 []) (by rw [hxl]; omega) (fun j => d6 j)
          rw [h2n, fieldOf_eq fun i hi => hj _ (by omega), h1, List.take_zero, List.nil_append, laidF, laidF, List.append_nil]
          congr 1
          rw [hxl, fieldOf, show (fun i => holdsF s1 ((2 + i : Nat) : Int)) = fun _ => zB from funext fun i => hh1 _]
          rw [List.map_const', List.length_range, List.drop_replicate]
        · rw [hj _ (by have := from_bound (0 + 1) (n := n) hn.2; omega), d6, over_ne (fun a ha => by rw [hxl] at ha; have := from_apart 0 (n := n) (i := a) (j := i) (by omega) hi; rw [h2n] at this; omega), hh1]
          exact fresh_zero _
        · rw [(List.mem_replicate.1 hx).2]; exact fresh_zero _
      · exact absurd e0 (off d5)
    · exact absurd d0 (off c5)
  · exact absurd c0 (off ha0)
end Go.Proofs.YtdakncgafdnjfaaGreat

/- The laws of layer 4: accounts of logs, and whether two are one. -/
namespace Go.Proofs.YtdakncgafdnjfaaGreat
open Go Go.Wk
set_option synthInstance.maxSize 100000
set_option synthInstance.maxHeartbeats 400000
set_option maxRecDepth 100000

/-- rows of entries. -/
abbrev bsL (ys : List LBy) : List (List UInt8) := ys.map LBy.bs
/-- an account. -/
abbrev accI (p : Option Addr) (c : Nat) (ys : List LBy) : Wk.Item := both (Wk.row 25 1 p ys.length c (encL ys)) (entI ys)
end Go.Proofs.YtdakncgafdnjfaaGreat

/- The laws of layer 4: logs as the laws hold them: told, taken down, opened. -/
namespace Go.Proofs.YtdakncgafdnjfaaGreat
open Go Go.Wk
set_option synthInstance.maxSize 100000
set_option synthInstance.maxHeartbeats 400000
set_option maxRecDepth 100000

/-- a log and its disk. -/
structure LG where
  m : Nat
  p : Option Addr
  c : Nat
  s : DS
  q : Option Addr
  e : Nat
  x : WS
abbrev lgI (b g : Nat) (L : LG) : Wk.Item := both (dkI b L.m L.p L.c L.s) (walI g b L.q L.e L.x)
/-- what a log tells. -/
structure LgSays (L : LG) (said : List (List UInt8)) : Prop where
  says : bsL L.x.said = said
  some_ : said ≠ []
  few : said.length ≤ 1000
  short : ∀ b ∈ said, b.length ≤ 40000
/-- a log that is as it should be. -/
structure LgOk (L : LG) (n : Nat) (t : Int) (said : List (List UInt8)) : Prop where
  num : L.x.n = n
  turn : L.x.turn = t
  says : bsL L.x.said = said
  fin : L.x.fin = endF t said
  broken : L.x.broken = false
  live : Live L.s n t said
theorem lg_cap {b g : Nat} {L : LG} {w : World} (h : (lgI b g L).holds w) : L.x.said.length ≤ L.e := own_le h.2.1.2.1.1
/-! what is taken down -/
def wantF (n : Nat) (t : Int) (said : List (List UInt8)) (ck : Bool) (bs : List UInt8) : Int := if 40000 < bs.length then 3 else if (if ck then n else n - endF t said) < secN bs.length then 6 else 0
def nextT (ck : Bool) (t : Int) : Int := if ck then t + 1 else t
def nextS (ck : Bool) (said : List (List UInt8)) (bs : List UInt8) : List (List UInt8) := if ck then [bs] else said ++ [bs]
def TakeR (L L' : LG) (n : Nat) (t : Int) (said : List (List UInt8)) (ck : Bool) (bs : List UInt8) (e : Int) : Prop :=
  (wantF n t said ck bs ≠ 0 ∧ e = wantF n t said ck bs ∧ L' = L) ∨
  (wantF n t said ck bs = 0 ∧ e = 0 ∧ L'.m = L.m ∧ LgOk L' n (nextT ck t) (nextS ck said bs) ∧ (L.s.arms.on = false → L'.s.arms.on = false)) ∨
  (wantF n t said ck bs = 0 ∧ L.s.arms.on = true ∧ e = 9 ∧ L'.m = L.m ∧ L'.s.out = true ∧ L'.s.loose.length ≤ 2000 ∧ LgSays L' said ∧ ∀ keep, Able (crashD keep L'.s) n t said ∨ Able (crashD keep L'.s) n (nextT ck t) (nextS ck said bs))
/-! openings -/
end Go.Proofs.YtdakncgafdnjfaaGreat

/- The laws of layer 4: what takes something down, what is told behind it. -/
namespace Go.Proofs.YtdakncgafdnjfaaGreat
open Go Go.Wk
set_option synthInstance.maxSize 100000
set_option synthInstance.maxHeartbeats 400000
set_option maxRecDepth 100000

def ckF (x : LAct) : Bool := decide (kindF x.kind = 3)
end Go.Proofs.YtdakncgafdnjfaaGreat

/- The laws of layer 4: what was lived through. -/
namespace Go.Proofs.YtdakncgafdnjfaaGreat
open Go Go.Wk
set_option synthInstance.maxSize 100000
set_option synthInstance.maxHeartbeats 400000
set_option maxRecDepth 100000

instance encAct : Enc LAct := ⟨4, cAct, fun _ => rfl, fun x u hu => by simp only [List.mem_cons, List.not_mem_nil, or_false] at hu; rcases hu with rfl | rfl | rfl | rfl <;> rfl⟩
instance layAct : Lay LAct := { encAct with
  dflt := ⟨0, 0, 0, none, 0, []⟩
  inn := fun w x => x.keep.length ≤ x.c ∧ x.c ≤ maxLen ∧ GlF x.p x.keep w
  mono := fun w w' x h hx => ⟨hx.1, hx.2.1, hx.2.2.mono h⟩ }
instance : SzE LAct 4 := ⟨rfl, by decide⟩
instance {x : LAct} : CellsOf x [.int .i64 x.kind, .int .i64 x.n, .int .u8 (x.fill.toNat : Int), .slice x.p x.keep.length x.c] := ⟨rfl⟩
end Go.Proofs.YtdakncgafdnjfaaGreat

/- The laws of layer 4: does the layer do anything? -/
namespace Go.Proofs.YtdakncgafdnjfaaGreat
open Go Go.Wk
set_option synthInstance.maxSize 100000
set_option synthInstance.maxHeartbeats 400000
set_option maxRecDepth 100000

theorem laid_sum (t : Int) : ∀ (said : List (List UInt8)) (j : Nat), (laidF t said j).length = (said.map fun b => secN b.length).sum
  | [], _ => rfl
  | b :: l, j => by rw [laidF, List.length_append, leavesF_len, laid_sum t l, List.map_cons, List.sum_cons]
theorem endF_sum (t : Int) (said : List (List UInt8)) : endF t said = (said.map fun b => secN b.length).sum := laid_sum t said 0
end Go.Proofs.YtdakncgafdnjfaaGreat

/- The laws of layer 4: how many sectors; of a log that is not there. -/
namespace Go.Proofs.YtdakncgafdnjfaaGreat
open Go Go.Wk
set_option synthInstance.maxSize 100000
set_option synthInstance.maxHeartbeats 400000
set_option maxRecDepth 100000

end Go.Proofs.YtdakncgafdnjfaaGreat

/- The laws of layer 4: what has room is taken down. -/
namespace Go.Proofs.YtdakncgafdnjfaaGreat
open Go Go.Wk
set_option synthInstance.maxSize 100000
set_option synthInstance.maxHeartbeats 400000
set_option maxRecDepth 100000

end Go.Proofs.YtdakncgafdnjfaaGreat

/- The laws of layer 4: which loose writes stay; what is found. -/
namespace Go.Proofs.YtdakncgafdnjfaaGreat
open Go Go.Wk
set_option synthInstance.maxSize 100000
set_option synthInstance.maxHeartbeats 400000
set_option maxRecDepth 100000

def keptF (x : LAct) : List Bool := x.keep.take (min x.keep.length 100)
def LG.arm (L : LG) (k : Int) : LG := { L with s := armD L.s k }
end Go.Proofs.YtdakncgafdnjfaaGreat

/- The laws of layer 4: what was taken down lasts. -/
namespace Go.Proofs.YtdakncgafdnjfaaGreat
open Go Go.Wk
set_option synthInstance.maxSize 100000
set_option synthInstance.maxHeartbeats 400000
set_option maxRecDepth 100000

/-- what may be found behind a crash. -/
def FindR (s : DS) (n : Nat) (e : Int) (now next : List (List UInt8)) : Prop := s.loose.length ≤ 2000 ∧ ∀ keep, (∃ t, Able (crashD keep s) n t now) ∨ (e = 9 ∧ ∃ t, Able (crashD keep s) n t next)
def moreA : LAct := ⟨0, 50, 200, none, 0, []⟩
end Go.Proofs.YtdakncgafdnjfaaGreat

/- The laws of layer 4: what an opening left is found once more. -/
namespace Go.Proofs.YtdakncgafdnjfaaGreat
open Go Go.Wk
set_option synthInstance.maxSize 100000
set_option synthInstance.maxHeartbeats 400000
set_option maxRecDepth 100000

/-! of a log whose disk another one has: what it tells -/
end Go.Proofs.YtdakncgafdnjfaaGreat

/- Logs as they are seen: what each call tells and leaves, as functions of the disk and of what was told, whatever fails. -/
namespace Go.Proofs.YtdakncgafdnjfaaGreat
open Go Go.Wk
set_option synthInstance.maxSize 100000
set_option synthInstance.maxHeartbeats 400000
set_option maxRecDepth 100000

/-- a log and its disk, without where they lie. -/
structure LV where
  s : DS
  n : Nat
  turn : Int
  said : List (List UInt8)
  fin : Nat
  broken : Bool
def LG.v (L : LG) : LV := ⟨L.s, L.x.n, L.x.turn, bsL L.x.said, L.x.fin, L.x.broken⟩
def LV.x (V : LV) : WS := ⟨V.n, V.turn, [], V.fin, V.broken⟩
structure LV.Wf (V : LV) (k : Nat) : Prop where
  n : V.n ≤ 1000
  fin : V.fin ≤ V.n
  some_ : 0 < V.said.length
  few : V.said.length ≤ V.fin
  short : ∀ b ∈ V.said, b.length ≤ 40000
  turn : 0 ≤ V.turn ∧ V.turn ≤ 4294967295
  loose : V.s.loose.length ≤ k
def appV (V : LV) (bs : List UInt8) : LV × Int :=
  if roomF V.x bs ≠ 0 then (V, roomF V.x bs) else
  if (layF V.s ((fromN V.n V.turn + V.fin : Nat) : Int) (leavesF V.turn (V.said.length : Int) bs)).2 = 0 then
    ({ V with s := (layF V.s ((fromN V.n V.turn + V.fin : Nat) : Int) (leavesF V.turn (V.said.length : Int) bs)).1, said := V.said ++ [bs], fin := V.fin + secN bs.length }, 0)
  else ({ V with s := (layF V.s ((fromN V.n V.turn + V.fin : Nat) : Int) (leavesF V.turn (V.said.length : Int) bs)).1, broken := true }, (layF V.s ((fromN V.n V.turn + V.fin : Nat) : Int) (leavesF V.turn (V.said.length : Int) bs)).2)
def chkV (V : LV) (bs : List UInt8) : LV × Int :=
  if roomC V.x bs ≠ 0 then (V, roomC V.x bs) else
  if (begF V.n (upT V.turn) bs V.s).2 = 0 then ({ V with s := (begF V.n (upT V.turn) bs V.s).1, turn := upT V.turn, said := [bs], fin := secN bs.length }, 0)
  else ({ V with s := (begF V.n (upT V.turn) bs V.s).1, broken := true }, (begF V.n (upT V.turn) bs V.s).2)
theorem v_len (L : LG) : L.v.said.length = L.x.said.length := List.length_map _
theorem append_v (b g : Nat) (L : LG) (k : Nat) (y : LBy) (h : L.v.Wf k) (hk : k ≤ 980000) (hyl : y.bs.length ≤ 10000000) (w0 : World) (hd : (lgI b g L).holds w0) (f0 : Stable (lgI b g L).foot w0 (GlF y.p y.bs)) :
    Ret Tryz.prog 20 [.pointer (some ⟨g, 0, none⟩), .slice y.p y.bs.length y.c] w0 (lgI b g L).foot fun v w' => ∃ L', v = .int .i64 (appV L.v y.bs).2 ∧ (lgI b g L').holds w' ∧ (∀ k, (lgI b g L').foot k → (lgI b g L).foot k ∨ w0.heap.size ≤ k) ∧ L'.m = L.m ∧ L'.v = (appV L.v y.bs).1 := by
  have hvl := v_len L
  have hcap := lg_cap hd
  obtain ⟨m, p, c, s, q, e, x⟩ := L
  have hn : x.n ≤ 1000 := h.n
  have hfi : x.fin ≤ x.n := h.fin
  have hs0 := h.some_
  have hsf : (LG.v ⟨m, p, c, s, q, e, x⟩).said.length ≤ x.fin := h.few
  have ht : 0 ≤ x.turn ∧ x.turn ≤ 4294967295 := h.turn
  have hl : s.loose.length ≤ k := h.loose
  have hvl : (LG.v ⟨m, p, c, s, q, e, x⟩).said.length = x.said.length := hvl
  rw [hvl] at hs0 hsf
  have hcap : x.said.length ≤ e := hcap
  refine (append_c g b m p c s q e x y w0 hn hfi ⟨by omega, hcap⟩ hs0 ht hyl (by omega) hd f0).mono fun v w' => ?_
  have hrm : roomF (LG.v ⟨m, p, c, s, q, e, x⟩).x y.bs = roomF x y.bs := rfl
  unfold appV
  rw [hrm, hvl]
  rintro (⟨ha, rfl, hb⟩ | ⟨ha, rfl, p', c', q', e', y', hy', he', hh, hf⟩)
  · rw [if_pos ha]
    exact ⟨⟨m, p, c, s, q, e, x⟩, rfl, hb, fun k hk => .inl hk, rfl, rfl⟩
  · rw [if_neg (fun h => h ha)]
    have hR : layF (LG.v ⟨m, p, c, s, q, e, x⟩).s ((fromN (LG.v ⟨m, p, c, s, q, e, x⟩).n (LG.v ⟨m, p, c, s, q, e, x⟩).turn + (LG.v ⟨m, p, c, s, q, e, x⟩).fin : Nat) : Int) (leavesF (LG.v ⟨m, p, c, s, q, e, x⟩).turn (x.said.length : Int) y.bs) = layF s ((fromN x.n x.turn + x.fin : Nat) : Int) (leavesF x.turn (x.said.length : Int) y.bs) := rfl
    rw [hR]
    obtain ⟨R, hR⟩ : ∃ R, R = layF s ((fromN x.n x.turn + x.fin : Nat) : Int) (leavesF x.turn (x.said.length : Int) y.bs) := ⟨_, rfl⟩
    rw [← hR] at hh hf ⊢
    refine ⟨⟨m, p', c', R.1, q', e', appS x y' R.2⟩, ?_, hh, hf, rfl, ?_⟩
    · by_cases h2 : R.2 = 0
      · rw [if_pos h2, h2]
      · rw [if_neg h2]
    · by_cases h2 : R.2 = 0
      · rw [if_pos h2]
        show LG.v _ = _
        unfold LG.v appS
        rw [if_pos h2]
        simp only [bsL, List.map_append, List.map_cons, List.map_nil, hy']
      · rw [if_neg h2]
        show LG.v _ = _
        unfold LG.v appS
        rw [if_neg h2]
theorem chk_v (b g : Nat) (L : LG) (k : Nat) (y : LBy) (h : L.v.Wf k) (hk : k ≤ 980000) (hyl : y.bs.length ≤ 10000000) (w0 : World) (hd : (lgI b g L).holds w0) (f0 : Stable (lgI b g L).foot w0 (GlF y.p y.bs)) :
    Ret Tryz.prog 19 [.pointer (some ⟨g, 0, none⟩), .slice y.p y.bs.length y.c] w0 (lgI b g L).foot fun v w' => ∃ L', v = .int .i64 (chkV L.v y.bs).2 ∧ (lgI b g L').holds w' ∧ (∀ k, (lgI b g L').foot k → (lgI b g L).foot k ∨ w0.heap.size ≤ k) ∧ L'.m = L.m ∧ L'.v = (chkV L.v y.bs).1 := by
  obtain ⟨m, p, c, s, q, e, x⟩ := L
  have hn : x.n ≤ 1000 := h.n
  have ht : 0 ≤ x.turn ∧ x.turn ≤ 4294967295 := h.turn
  have hl : s.loose.length ≤ k := h.loose
  refine (chk_c g b m p c s q e x y w0 hn ht hyl (by omega) hd f0).mono fun v w' => ?_
  have hrm : roomC (LG.v ⟨m, p, c, s, q, e, x⟩).x y.bs = roomC x y.bs := rfl
  unfold chkV
  rw [hrm]
  rintro (⟨ha, rfl, hb⟩ | ⟨ha, rfl, p', c', q', e', y', hy', -, -, hh, hf⟩)
  · rw [if_pos ha]
    exact ⟨⟨m, p, c, s, q, e, x⟩, rfl, hb, fun k hk => .inl hk, rfl, rfl⟩
  · rw [if_neg (fun h => h ha)]
    have hR : begF (LG.v ⟨m, p, c, s, q, e, x⟩).n (upT (LG.v ⟨m, p, c, s, q, e, x⟩).turn) y.bs (LG.v ⟨m, p, c, s, q, e, x⟩).s = begF x.n (upT x.turn) y.bs s := rfl
    rw [hR]
    obtain ⟨R, hR⟩ : ∃ R, R = begF x.n (upT x.turn) y.bs s := ⟨_, rfl⟩
    rw [← hR] at hh hf ⊢
    refine ⟨⟨m, p', c', R.1, q', e', chkS x y' R.2⟩, ?_, hh, hf, rfl, ?_⟩
    · by_cases h2 : R.2 = 0
      · rw [if_pos h2, h2]
      · rw [if_neg h2]
    · by_cases h2 : R.2 = 0
      · rw [if_pos h2]
        show LG.v _ = _
        unfold LG.v chkS
        rw [if_pos h2]
        simp only [bsL, List.map_cons, List.map_nil, hy']
      · rw [if_neg h2]
        show LG.v _ = _
        unfold LG.v chkS
        rw [if_neg h2]
/-! a log is opened, and laid -/
def opnV (s : DS) : LV := ⟨(openF s).1, (openF s).2.2.n, (openF s).2.2.turn, (openF s).2.2.said, (openF s).2.2.fin, false⟩
def fmtV (n : Nat) (s : DS) : LV := ⟨(fmtF n s).1, n, 0, [[]], 1, false⟩
theorem format_v (b m n : Nat) (p : Option Addr) (c : Nat) (s : DS) (hm : mayF s n = true) (hl : s.loose.length ≤ 980000) (w0 : World) (hd : (dkI b m p c s).holds w0) :
    Ret Tryz.prog 18 [.pointer (some ⟨b, 0, none⟩), .int .i64 (n : Int)] w0 (dkI b m p c s).foot fun v w' =>
      ((fmtF n s).2 ≠ 0 ∧ v = .tuple ⟨[.pointer none, .int .i64 (fmtF n s).2]⟩ ∧ ∃ p' c', (dkI b m p' c' (fmtF n s).1).holds w' ∧ ∀ k, (dkI b m p' c' (fmtF n s).1).foot k → (dkI b m p c s).foot k ∨ w0.heap.size ≤ k) ∨
      ((fmtF n s).2 = 0 ∧ ∃ g L, v = .tuple ⟨[.pointer (some ⟨g, 0, none⟩), .int .i64 0]⟩ ∧ L.m = m ∧ L.v = fmtV n s ∧ (lgI b g L).holds w' ∧ ∀ k, (lgI b g L).foot k → (dkI b m p c s).foot k ∨ w0.heap.size ≤ k) := by
  refine (format_c b m n p c s w0 hm hl hd).mono fun v w' => ?_
  rintro (h | ⟨h0, g, p', c', q, e, hv, hh, hf⟩)
  · exact .inl h
  · exact .inr ⟨h0, g, ⟨m, p', c', (fmtF n s).1, q, e, newW n⟩, hv, rfl, rfl, hh, hf⟩
/-! what a log tells -/
theorem left_v (b g : Nat) (L : LG) (k : Nat) (h : L.v.Wf k) (w0 : World) (hd : (lgI b g L).holds w0) : Ret Tryz.prog 100 [.pointer (some ⟨g, 0, none⟩)] w0 (fun _ => False) fun v _ => v = .int .i64 ((L.v.n : Int) - L.v.fin) := by
  have h1 := h.n
  have h2 := h.fin
  have h3 := h.few
  have h4 := h.some_
  rw [v_len] at h3 h4
  exact wleft_c g b L.q L.e L.x ⟨by omega, h4⟩ (show L.v.fin ≤ _ by omega) h1 w0 (BoxF.stable hd.2.1.1 (fun h => h))
theorem broken_v (b g : Nat) (L : LG) (w0 : World) (hd : (lgI b g L).holds w0) : Ret Tryz.prog 99 [.pointer (some ⟨g, 0, none⟩)] w0 (fun _ => False) fun v _ => v = .bool L.v.broken :=
  wbroken_c g b L.q L.e L.x w0 (BoxF.stable hd.2.1.1 (fun h => h))
end Go.Proofs.YtdakncgafdnjfaaGreat

/- Logs on disks where something is to fail: as if the power were to go then. -/
namespace Go.Proofs.YtdakncgafdnjfaaGreat
open Go Go.Wk
set_option maxRecDepth 100000

def Cnt.ok (c : Cnt) : Prop := c.on = true → 0 ≤ c.left ∧ c.left ≤ 9223372036854775807
/-- the one of two counters that is met first. -/
def bothC (f a : Cnt) : Cnt := if f.on then (if a.on then (if f.left ≤ a.left then f else a) else f) else a
/-- the same writes on the same sectors. -/
structure Same3 (r r' : DS) : Prop where
  loose : r.loose = r'.loose
  firm : r.firm = r'.firm
  size : r.size = r'.size
/-- a disk, and one whose power goes where that one fails. -/
structure Sim (s s' : DS) : Prop where
  same : Same3 s s'
  on : s.out = false
  up : Up s'
  arms : s'.arms = bothC s.fails s.arms
  okf : s.fails.ok
  oka : s.arms.ok
/-! what lasts -/
/-- a log's disk, where something may be to fail. -/
def LiveF (s : DS) (n : Nat) (t : Int) (said : List (List UInt8)) : Prop := ∃ s', Sim s s' ∧ Live s' n t said
theorem Live.liveF {s : DS} {n : Nat} {t : Int} {said : List (List UInt8)} (h : Live s n t said) (ha : s.arms.ok) : LiveF s n t said := by
  obtain ⟨tail, hL, _⟩ := id h
  refine ⟨s, ⟨⟨rfl, rfl, rfl⟩, hL.up.on, hL.up, ?_, ?_, ha⟩, h⟩
  · rw [bothC, if_neg (by rw [hL.up.fit]; exact Bool.false_ne_true)]
  · intro h1; rw [hL.up.fit] at h1; cases h1
end Go.Proofs.YtdakncgafdnjfaaGreat

/- Vaults over logs: what a put does. -/
namespace Go.Proofs.YtdakncgafdnjfaaGreat
open Go Go.Wk
set_option synthInstance.maxSize 100000
set_option synthInstance.maxHeartbeats 400000
set_option maxRecDepth 100000

def fitsV (V : LV) (bs : List UInt8) : Bool := decide (0 < secF (bs.length : Int)) && decide (secF (bs.length : Int) ≤ (V.n : Int) - V.fin)
def putR (V : LV) (rows l : List PRow) : LV × Int := if fitsV V (encP l) then appV V (encP l) else chkV V (encP (behP rows l))
def putV (V : LV) (rows l : List PRow) : LV × List PRow × Int :=
  if V.broken then (V, rows, 8) else
  if batchP l = false then (V, rows, 2) else
  if 64 < (behP rows l).length then (V, rows, 6) else
  ((putR V rows l).1, if (putR V rows l).2 = 0 then behP rows l else rows, (putR V rows l).2)
theorem secF_pos {n : Int} (h : 0 < secF n) : 0 ≤ n ∧ n ≤ 40000 := by
  unfold secF at h
  split at h
  · omega
  · omega
theorem encP_len {l : List PRow} (h : batchP l = true) : (encP l).length ≤ 4200000 := by
  rw [batchP, Bool.and_eq_true, decide_eq_true_eq] at h
  have h1 := rowsB_len l (goodP_all _ _ h.1)
  rw [encP, List.length_cons]
  omega
end Go.Proofs.YtdakncgafdnjfaaGreat

/- Logs that are whole: an append, a checkpoint. -/
namespace Go.Proofs.YtdakncgafdnjfaaGreat
open Go Go.Wk
set_option synthInstance.maxSize 100000
set_option synthInstance.maxHeartbeats 400000
set_option maxRecDepth 100000

structure LvOk (V : LV) (n : Nat) (t : Int) (said : List (List UInt8)) : Prop where
  num : V.n = n
  turn : V.turn = t
  says : V.said = said
  fin : V.fin = endF t said
  whole : V.broken = false
  live : LiveF V.s n t said
theorem LvOk.wf {V : LV} {n : Nat} {t : Int} {said : List (List UInt8)} (h : LvOk V n t said) : V.Wf 0 := by
  obtain ⟨s', hs, tail, hL, -⟩ := h.live
  have hlen := hL.len
  have hfew := hL.few
  have hll := laid_len t said 0
  refine ⟨by rw [h.num]; exact hL.hn.2, by rw [h.num, h.fin]; omega, by rw [h.says]; exact hfew.2, by rw [h.says, h.fin]; exact hll, by rw [h.says]; exact hL.short, by rw [h.turn]; exact hL.ht, ?_⟩
  rw [hs.same.loose, hL.loose]; exact Nat.le_refl _
/-- a log to which nothing happens. -/
structure LvOff (V : LV) (n : Nat) (t : Int) (said : List (List UInt8)) : Prop where
  ok : LvOk V n t said
  live : Live V.s n t said
  off : V.s.arms.on = false
theorem fmt_lv (n : Nat) (hn : 4 ≤ n ∧ n ≤ 1000) : LvOff (fmtV n (newD ((2 * n + 2 : Nat) : Int))) n 0 [[]] := by
  obtain ⟨h1, h2, h3⟩ := format_live n hn
  exact ⟨⟨rfl, rfl, rfl, rfl, rfl, h2.liveF (fun h => by rw [h3] at h; cases h)⟩, h2, h3⟩
theorem room_lv {V : LV} {n : Nat} {t : Int} {said : List (List UInt8)} (h : LvOk V n t said) (bs : List UInt8) (hb : bs.length ≤ 40000) : roomF V.x bs = if n < endF t said + secN bs.length then 6 else 0 := by
  obtain ⟨q1, q2, q3, q4, q5, q6⟩ := h
  obtain ⟨s, n', turn, said', fin, broken⟩ := V
  simp only at q1 q2 q3 q4 q5 q6
  subst q1 q2 q3 q4 q5
  have e1 : refF (LV.x ⟨s, n', turn, said', endF turn said', false⟩) bs = 0 := by
    rw [refF, if_neg (by omega)]; rfl
  obtain ⟨s', hs, tail, hL, -⟩ := q6
  have hlen := hL.len
  have hll := laid_len turn said' 0
  rw [roomF, if_pos e1]
  show (if n' - endF turn said' < secN bs.length then (6 : Int) else 0) = _
  by_cases h : n' < endF turn said' + secN bs.length
  · rw [if_pos h, if_pos (by omega)]
  · rw [if_neg h, if_neg (by have : endF turn said' ≤ n' := by omega
                             omega)]
theorem app_off {V : LV} {n : Nat} {t : Int} {said : List (List UInt8)} (h : LvOff V n t said) (bs : List UInt8) (hb : bs.length ≤ 40000) (hr : endF t said + secN bs.length ≤ n) :
    (appV V bs).2 = 0 ∧ LvOff (appV V bs).1 n t (said ++ [bs]) := by
  have hroom := room_lv h.ok bs hb
  rw [if_neg (by omega)] at hroom
  obtain ⟨⟨q1, q2, q3, q4, q5, q6⟩, hl, ho⟩ := h
  obtain ⟨s, n', turn, said', fin, broken⟩ := V
  simp only at q1 q2 q3 q4 q5 q6 hl ho hroom
  subst q1 q2 q3 q4 q5
  obtain ⟨a1, a2, a3⟩ := (append_live hl bs hb hr).resolve_right (fun h => by rw [ho] at h; cases h.1)
  have he : endF turn (said' ++ [bs]) = endF turn said' + secN bs.length := by
    rw [endF_sum, endF_sum, List.map_append, List.sum_append]; simp
  unfold appV
  rw [if_neg (fun h => h hroom), if_pos a1]
  exact ⟨rfl, ⟨⟨rfl, rfl, rfl, he.symm, rfl, a2.liveF (fun h => by rw [a3 ho] at h; cases h)⟩, a2, a3 ho⟩⟩
theorem fits_lv {V : LV} {n : Nat} {t : Int} {said : List (List UInt8)} (h : LvOk V n t said) (bs : List UInt8) : fitsV V bs = true ↔ bs.length ≤ 40000 ∧ endF t said + secN bs.length ≤ n := by
  obtain ⟨s', hs, tail, hL, -⟩ := h.live
  have hlen := hL.len
  have hll := laid_len t said 0
  have hsp := secN_pos bs.length
  rw [fitsV, Bool.and_eq_true, decide_eq_true_eq, decide_eq_true_eq, h.num, h.fin]
  constructor
  · rintro ⟨h1, h2⟩
    have h3 := (secF_pos h1).2
    rw [secF_nat _ (by omega)] at h2
    exact ⟨by omega, by omega⟩
  · rintro ⟨h1, h2⟩
    rw [secF_nat _ h1]
    omega
theorem putV_off {V : LV} {n : Nat} {t : Int} {said : List (List UInt8)} (h : LvOff V n t said) (rows l : List PRow) (hB : batchP l = true) (hle : (behP rows l).length ≤ 64) (hb : (encP l).length ≤ 40000) (hr : endF t said + secN (encP l).length ≤ n) :
    (putV V rows l).2.2 = 0 ∧ (putV V rows l).2.1 = behP rows l ∧ LvOff (putV V rows l).1 n t (said ++ [encP l]) := by
  have hf := (fits_lv h.ok (encP l)).2 ⟨hb, hr⟩
  obtain ⟨a1, a2⟩ := app_off h (encP l) hb hr
  have e : putR V rows l = appV V (encP l) := by rw [putR, if_pos hf]
  rw [putV, if_neg (by rw [h.ok.whole]; simp), if_neg (by rw [hB]; simp), if_neg (by omega), e]
  exact ⟨a1, by rw [if_pos a1], a2⟩
def wk1 : List PRow := [⟨[97], .mk 1 0 0 [120] []⟩, ⟨[98], .mk 3 1 0 [] []⟩]
def wk2 : List PRow := [⟨[97], zeroT⟩]
theorem wk1_ok : batchP wk1 = true ∧ behP [] wk1 = wk1 ∧ (encP wk1).length = 14 := by
  refine ⟨by decide, by rfl, by decide⟩
theorem wk2_ok : batchP wk2 = true ∧ behP wk1 wk2 = [⟨[98], .mk 3 1 0 [] []⟩] ∧ (encP wk2).length = 5 := by
  refine ⟨by decide, by rfl, by decide⟩
end Go.Proofs.YtdakncgafdnjfaaGreat

/- Package vault: a vault on a log; Put. -/
namespace Go.Proofs.YtdakncgafdnjfaaGreat
open Go Go.Wk
set_option synthInstance.maxSize 100000
set_option synthInstance.maxHeartbeats 400000
set_option maxRecDepth 100000

structure VT where
  L : LG
  p : Option Addr
  c : Nat
  xs : List LRow
abbrev cVt (g : Nat) (V : VT) : List Value := [.pointer (some ⟨g, 0, none⟩), .slice V.p V.xs.length V.c]
abbrev rwI (V : VT) : Wk.Item := Wk.row 150 6 V.p V.xs.length V.c (encL V.xs)
abbrev vtI (h b g : Nat) (V : VT) : Wk.Item := both (Wk.box h 144 (cVt g V)) (both (lgI b g V.L) (rwI V))
def encE (l : List PRow) : Int := if batchP l then 0 else 2
def encQ (l : List PRow) : List UInt8 := if batchP l then encP l else []
theorem vencode_q (xs : List LRow) (p : Option Addr) (n c : Nat) (w0 : World) (hn : xs.length = n) (hc : n ≤ c) (hl : ∀ x ∈ xs, x.name.length ≤ 9223372036854775807) (hll : n ≤ 9223372036854775807) (hx : Stable (fun _ => False) w0 (GlF p xs)) :
    Ret Tryz.prog 14 [.slice p n c] w0 (fun _ => False) fun v w' => ∃ (p' : Option Addr) (c' : Nat), v = .tuple ⟨[.slice p' (encQ (rsP xs)).length c', .int .i64 (encE (rsP xs))]⟩ ∧ w'.ownsRow 0 5 1 (.slice p' (encQ (rsP xs)).length c') (encQ (rsP xs)).length (encL (encQ (rsP xs))) ∧ ∀ ad, p' = some ad → w0.heap.size ≤ ad.block := by
  refine (vencode_c xs p n c w0 hn hc hl hll hx).mono fun v w' => ?_
  rintro (⟨hb, rfl⟩ | ⟨hb, h⟩)
  · rw [encQ, encE, hb]
    exact ⟨none, 0, rfl, World.ownsRow_nil _ _ _ _, fun _ h => by cases h⟩
  · rw [encQ, encE, hb]
    exact h
theorem vput_c (h b g : Nat) (V : VT) (l : List LRow) (q : Option Addr) (d k : Nat) (hwf : V.L.v.Wf k) (hk : k ≤ 970000) (hkp : KeptP (rsP V.xs)) (hxl : V.xs.length ≤ 64) (hll : l.length ≤ 200) (hnl : ∀ x ∈ l, x.name.length ≤ 9223372036854775807) (hdl : l.length ≤ d) (w0 : World) (hd : (vtI h b g V).holds w0) (fA : Stable (vtI h b g V).foot w0 (AllI V.xs)) (fl : Stable (vtI h b g V).foot w0 (GlF q l)) :
    Ret Tryz.prog 29 [.pointer (some ⟨h, 0, none⟩), .slice q l.length d] w0 (vtI h b g V).foot fun v w' => ∃ V', v = .int .i64 (putV V.L.v (rsP V.xs) (rsP l)).2.2 ∧ (vtI h b g V').holds w' ∧ (∀ k, (vtI h b g V').foot k → (vtI h b g V).foot k ∨ w0.heap.size ≤ k) ∧ V'.L.m = V.L.m ∧ V'.L.v = (putV V.L.v (rsP V.xs) (rsP l)).1 ∧ rsP V'.xs = (putV V.L.v (rsP V.xs) (rsP l)).2.1 ∧ ∀ y ∈ V'.xs, y ∈ V.xs ∨ y ∈ l := by
  obtain ⟨L, p, c, xs⟩ := V
  have hxl : xs.length ≤ 64 := hxl
  have hkp : KeptP (rsP xs) := hkp
  have hwf : L.v.Wf k := hwf
  have hn1 := hwf.n
  have hn2 := hwf.fin
  refine enter Tryz.func29 rfl rfl (Wd.it2Lent (x := Wk.box h 144 (cVt g ⟨L, p, c, xs⟩)) (y := both (lgI b g L) (rwI ⟨L, p, c, xs⟩)) (fs := [AllI xs, GlF q l]) hd rfl rfl (by simp; exact ⟨fA, fl⟩)) (fun a S => ?_)
  simp only [Tryz.ntmps29, List.length_cons, List.length_nil, Nat.reduceAdd, Nat.reduceSub, List.replicate_succ, List.replicate_zero, List.cons_append, List.nil_append] at S
  refine c_seq ?_
  refine c_region ?_
  refine sq S ?_; clear S; intro a S
  refine wl_nil ?_
  refine xtn ?_
  refine c_seq ?_
  refine c_block ?_
  refine c_seq ?_
  refine c_region ?_
  iterate 3 (refine sq S ?_; clear S; intro a S)
  refine wl_nil ?_
  refine xtn ?_
  refine c_condF S ?_
  refine c_seq ?_
  refine c_region ?_
  iterate 4 (refine sq S ?_; clear S; intro a S)
  replace S := S.front (both (lgI b g L) (rwI ⟨L, p, c, xs⟩))
  replace S := S.ofBoth
  refine sr S (broken_v b g L _ (S.it (lgI b g L))) ?_; clear S; rintro _ a w rfl S
  refine sq S ?_; clear S; intro a S
  refine wl_nil ?_
  refine xtn ?_
  refine c_cond S (fun h3 => ?_) (fun h3 => ?_)
  · refine c_seq ?_
    refine c_region ?_
    refine sq S ?_; clear S; intro a S
    refine wl_nil ?_
    refine xtn ?_
    refine c_ret ?_
    refine xbr ?_
    refine xtr ?_
    have hv : putV L.v (rsP xs) (rsP l) = (L.v, rsP xs, 8) := by rw [putV, if_pos h3]
    replace S := (((S.front (rwI ⟨L, p, c, xs⟩)).front (lgI b g L)).toBoth.front (Wk.box h 144 (cVt g ⟨L, p, c, xs⟩))).toBoth
    have h1 := S.it (vtI h b g ⟨L, p, c, xs⟩)
    have h2 := S.itNew (vtI h b g ⟨L, p, c, xs⟩) rfl
    exact end1 S (fun _ => ⟨⟨L, p, c, xs⟩, by rw [hv], h1, h2, rfl, by rw [hv], by rw [hv], fun y hy => .inl hy⟩)
  · refine c_skip ?_
    refine xbn ?_
    refine xtn ?_
    refine c_seq ?_
    refine c_region ?_
    refine sq S ?_; clear S; intro a S
    have hbr : ¬ L.v.broken = true := by simpa using h3
    refine srn S (vencode_q l q l.length d _ rfl hdl hnl (by omega) (S.gl0 q)) ?_; clear S; rintro _ a w ⟨p5, c5, rfl, hown, hnew⟩ hS -
    have S := hS hown hnew
    clear hS
    iterate 5 (refine sq S ?_; clear S; intro a S)
    refine wl_nil ?_
    refine xtn ?_
    iterate 2 (refine c_seq ?_)
    refine c_region ?_
    iterate 2 (refine sq S ?_; clear S; intro a S)
    refine wl_nil ?_
    refine xtn ?_
    refine c_cond S (fun h6 => ?_) (fun h6 => ?_)
    · refine c_seq ?_
      refine c_region ?_
      iterate 2 (refine sq S ?_; clear S; intro a S)
      refine wl_nil ?_
      refine xtn ?_
      refine c_ret ?_
      refine xtr ?_
      have hB : batchP (rsP l) = false := by
        cases hb : batchP (rsP l) with
        | false => rfl
        | true => rw [encE, hb] at h6; simp at h6
      have hv : putV L.v (rsP xs) (rsP l) = (L.v, rsP xs, 2) := by rw [putV, if_neg hbr, if_pos hB]
      have he : encE (rsP l) = 2 := by rw [encE, hB]; rfl
      replace S := (((S.front (rwI ⟨L, p, c, xs⟩)).front (lgI b g L)).toBoth.front (Wk.box h 144 (cVt g ⟨L, p, c, xs⟩))).toBoth
      have h1 := S.it (vtI h b g ⟨L, p, c, xs⟩)
      have h2 := S.itNew (vtI h b g ⟨L, p, c, xs⟩) rfl
      exact end1 S (fun _ => ⟨⟨L, p, c, xs⟩, by rw [hv, he], h1, h2, rfl, by rw [hv], by rw [hv], fun y hy => .inl hy⟩)
    · refine c_skip ?_
      refine xtn ?_
      refine c_seq ?_
      have hB : batchP (rsP l) = true := by
        cases hb : batchP (rsP l) with
        | true => rfl
        | false => rw [encE, hb] at h6; simp at h6
      have hQ : encQ (rsP l) = encP (rsP l) := by rw [encQ, hB]; rfl
      have hQl := encP_len hB
      rw [hQ] at S
      refine c_region ?_
      iterate 5 (refine sq S ?_; clear S; intro a S)
      refine srn S (vbehind_c xs p c l q d w (by omega) (by omega) (gl_own (S.row p xs.length) ((S.mem.fact (AllI xs)).less fun _ _ h => h.elim) (fun _ _ h => h)) (S.gl0 q) hkp.up) ?_; clear S; rintro _ a w ⟨ys, p8, c8, rfl, hown8, hnew8, hys, hmem⟩ hS -
      have S := hS hown8 hnew8
      clear hS
      have hyl : ys.length = (behP (rsP xs) (rsP l)).length := by rw [← hys, rsP_len]
      have hky : KeptP (rsP ys) := by rw [hys]; exact keptP_beh hkp hB
      refine sq S ?_; clear S; intro a S
      refine wl_nil ?_
      refine xtn ?_
      iterate 2 (refine c_seq ?_)
      refine c_region ?_
      iterate 3 (refine sq S ?_; clear S; intro a S)
      refine wl_nil ?_
      refine xtn ?_
      refine c_cond S (fun h9 => ?_) (fun h9 => ?_)
      · refine c_seq ?_
        refine c_region ?_
        refine sq S ?_; clear S; intro a S
        refine wl_nil ?_
        refine xtn ?_
        refine c_ret ?_
        refine xtr ?_
        have h9' : 64 < (behP (rsP xs) (rsP l)).length := by have := of_decide_eq_true h9; omega
        have hv : putV L.v (rsP xs) (rsP l) = (L.v, rsP xs, 6) := by rw [putV, if_neg hbr, if_neg (by rw [hB]; simp), if_pos h9']
        replace S := (((S.front (rwI ⟨L, p, c, xs⟩)).front (lgI b g L)).toBoth.front (Wk.box h 144 (cVt g ⟨L, p, c, xs⟩))).toBoth
        have h1 := S.it (vtI h b g ⟨L, p, c, xs⟩)
        have h2 := S.itNew (vtI h b g ⟨L, p, c, xs⟩) rfl
        exact end1 S (fun _ => ⟨⟨L, p, c, xs⟩, by rw [hv], h1, h2, rfl, by rw [hv], by rw [hv], fun y hy => .inl hy⟩)
      · refine c_skip ?_
        refine xtn ?_
        refine c_mrge2 S (fun (L2 : LG) (e : Int) uu => [(5, uu 5), (0, .int .i64 e), (1, uu 8), (26, uu 35), (0, uu 36), (0, uu 37), (0, uu 38), (0, uu 39), (0, uu 40), (0, uu 41), (0, uu 42), (0, uu 43), (0, uu 44), (0, uu 45), (0, uu 46), (0, uu 47), (0, uu 48), (0, uu 49), (0, uu 50), (0, uu 51), (0, uu 52), (0, uu 53), (0, uu 54), (0, uu 55), (0, uu 56), (0, uu 57), (0, uu 58), (0, uu 59), (0, uu 60), (0, uu 61), (0, uu 62), (0, uu 63), (0, uu 64), (0, uu 65), (0, uu 66), (0, uu 67), (0, uu 68), (0, uu 69)]) (fun (L2 : LG) (e : Int) => [lgI b g L2, Wk.row 150 6 p8 ys.length c8 (encL ys), Wk.box h 144 (cVt g ⟨L, p, c, xs⟩), rwI ⟨L, p, c, xs⟩]) (fun (L2 : LG) (e : Int) => [AllI ys, AllI xs, GlF q l]) (fun (L2 : LG) (e : Int) => L2.m = L.m ∧ L2.v = (putR L.v (rsP xs) (rsP l)).1 ∧ e = (putR L.v (rsP xs) (rsP l)).2) ?_ ?_
        · refine c_seq ?_
          have h9' : ¬ 64 < (behP (rsP xs) (rsP l)).length := by have := of_decide_eq_false h9; omega
          replace S := S.add (Φ := AllI ys) (fun w' hw' y hy => (hmem y hy).elim (fun h => S.wd.facts (AllI xs) (by simp) w' hw' y h) (fun h => (S.wd.facts (GlF q l) (by simp) w' hw').2 y h))
          refine c_region ?_
          iterate 2 (refine sq S ?_; clear S; intro a S)
          refine sr S (sectors_c ((encP (rsP l)).length : Int) _) ?_; clear S; rintro _ a w rfl S
          refine sq S ?_; clear S; intro a S
          refine wl_nil ?_
          refine xtn ?_
          refine c_seq ?_
          refine c_region ?_
          iterate 3 (refine sq S ?_; clear S; intro a S)
          refine gS S (fun hs1 S => ?_) (fun hs1 S => ?_)
          · refine gT S ?_
            refine sq S ?_; clear S; intro a S
            refine gT S ?_
            refine sq S ?_; clear S; intro a S
            refine gT S ?_
            refine sq S ?_; clear S; intro a S
            refine gT S ?_
            refine sq S ?_; clear S; intro a S
            refine gT S ?_
            refine sq S ?_; clear S; intro a S
            refine gT S ?_
            refine sr S (left_v b g L k hwf _ (S.it (lgI b g L))) ?_; clear S; rintro _ a w rfl S
            refine gT S ?_
            iterate 2 (refine sq S ?_; clear S; intro a S)
            refine wl_nil ?_
            refine xtn ?_
            refine c_cond S (fun h12 => ?_) (fun h12 => ?_)
            · refine c_region ?_
              iterate 5 (refine sq S ?_; clear S; intro a S)
              have hfit : fitsV L.v (encP (rsP l)) = true := by rw [fitsV, hs1, h12]; rfl
              have hsm := (secF_pos (of_decide_eq_true hs1)).2
              replace S := (S.front (Wk.row 5 1 p5 (encP (rsP l)).length c5 (encL (encP (rsP l))))).rowToGl p5 (encP (rsP l)) (e := 5) (sz := 1) (n := (encP (rsP l)).length) (c := c5) (fun _ _ _ _ => trivial)
              refine sit (lgI b g L) S (append_v b g L k ⟨p5, c5, encP (rsP l)⟩ hwf (by omega) (by show (encP (rsP l)).length ≤ _; omega) w (S.it (lgI b g L)) (S.lend (lgI b g L) (S.mem.fact (GlF p5 (encP (rsP l)))))) rfl ?_; clear S; rintro _ a w ⟨L2, rfl, hh2, hf2, hm2, hv2⟩ hS
              have S := hS (lgI b g L2) hh2 hf2
              clear hS
              refine sq S ?_; clear S; intro a S
              refine wl_nil ?_
              refine xtn ?_
              replace S := ((S.front (rwI ⟨L, p, c, xs⟩)).front (Wk.box h 144 (cVt g ⟨L, p, c, xs⟩))).front (Wk.row 150 6 p8 ys.length c8 (encL ys))
              replace S := S.front (lgI b g L2)
              exact ⟨L2, _, S.uu, ⟨hm2, by rw [putR, if_pos hfit]; exact hv2, by rw [putR, if_pos hfit]⟩, S.sub _ _⟩
            · refine c_seq ?_
              refine c_region ?_
              refine sq S ?_; clear S; intro a S
              have hfit : fitsV L.v (encP (rsP l)) = false := by
                rw [fitsV]
                first
                  | rw [hs1, h12]; rfl
                  | rw [hs1]; rfl
              have hlt := foots_lt S
              refine sr S (all_vf p8 ys.length c8 w) ?_; clear S; rintro _ a w ⟨g1, rfl, n1, f1⟩ S
              replace S := S.add (Φ := BoxF g1 142 [.slice p8 ys.length c8]) (BoxF.stable f1 (fun hm => by have := hlt _ hm; omega))
              refine srn S (collectR_c g1 ys p8 c8 (by omega) w ((S.mem.fact (BoxF g1 142 [.slice p8 ys.length c8])).less fun _ _ h => h.elim) (gl_own (S.row p8 ys.length) ((S.mem.fact (AllI ys)).less fun _ _ h => h.elim) (fun _ _ h => h))) ?_; clear S; rintro _ a w ⟨p9, c9, rfl, hown9, hnew9⟩ hS -
              have S := hS hown9 hnew9
              clear hS
              have hByes : batchP (rsP ys) = true := keptP_batch hky (by rw [rsP_len]; omega)
              have hn9 : ∀ x ∈ ys, x.name.length ≤ 9223372036854775807 := fun x hx => by have := (rightP_name (hky.right _ (rsP_mem hx))).2; have : x.name.length ≤ 32 := this; omega
              refine srn S (vencode_q ys p9 ys.length c9 _ rfl (own_le (S.row p9 ys.length)) hn9 (by omega) (gl_own (S.row p9 ys.length) ((S.mem.fact (AllI ys)).less fun _ _ h => h.elim) (fun _ _ h => h))) ?_; clear S; rintro _ a w ⟨p10, c10, rfl, hown10, hnew10⟩ hS -
              have S := hS hown10 hnew10
              clear hS
              have hQ2 : encQ (rsP ys) = encP (rsP ys) := by rw [encQ, hByes]; rfl
              have hE2 : encE (rsP ys) = 0 := by rw [encE, hByes]; rfl
              have hQl2 := encP_len hByes
              rw [hQ2, hE2] at S
              iterate 5 (refine sq S ?_; clear S; intro a S)
              refine wl_nil ?_
              refine xtn ?_
              refine c_seq ?_
              refine c_region ?_
              iterate 2 (refine sq S ?_; clear S; intro a S)
              refine wl_nil ?_
              refine xtn ?_
              refine c_condT S ?_
              refine c_region ?_
              iterate 5 (refine sq S ?_; clear S; intro a S)
              replace S := (S.front (Wk.row 5 1 p10 (encP (rsP ys)).length c10 (encL (encP (rsP ys))))).rowToGl p10 (encP (rsP ys)) (e := 5) (sz := 1) (n := (encP (rsP ys)).length) (c := c10) (fun _ _ _ _ => trivial)
              refine sit (lgI b g L) S (chk_v b g L k ⟨p10, c10, encP (rsP ys)⟩ hwf (by omega) (by show (encP (rsP ys)).length ≤ _; omega) w (S.it (lgI b g L)) (S.lend (lgI b g L) (S.mem.fact (GlF p10 (encP (rsP ys)))))) rfl ?_; clear S; rintro _ a w ⟨L2, rfl, hh2, hf2, hm2, hv2⟩ hS
              have S := hS (lgI b g L2) hh2 hf2
              clear hS
              refine sq S ?_; clear S; intro a S
              refine wl_nil ?_
              refine xtn ?_
              replace S := ((S.front (rwI ⟨L, p, c, xs⟩)).front (Wk.box h 144 (cVt g ⟨L, p, c, xs⟩))).front (Wk.row 150 6 p8 ys.length c8 (encL ys))
              replace S := S.front (lgI b g L2)
              exact ⟨L2, _, S.uu, ⟨hm2, by rw [putR, hfit, ← hys]; exact hv2, by rw [putR, hfit, ← hys]; rfl⟩, S.sub _ _⟩
          · refine gF S ?_; clear S; intro a S
            iterate 6 (refine gF S ?_; clear S; intro a S)
            refine sq S ?_; clear S; intro a S
            refine wl_nil ?_
            refine xtn ?_
            refine c_condF S ?_
            refine c_seq ?_
            refine c_region ?_
            refine sq S ?_; clear S; intro a S
            have hfit : fitsV L.v (encP (rsP l)) = false := by
              rw [fitsV]
              first
                | rw [hs1, h12]; rfl
                | rw [hs1]; rfl
            have hlt := foots_lt S
            refine sr S (all_vf p8 ys.length c8 w) ?_; clear S; rintro _ a w ⟨g1, rfl, n1, f1⟩ S
            replace S := S.add (Φ := BoxF g1 142 [.slice p8 ys.length c8]) (BoxF.stable f1 (fun hm => by have := hlt _ hm; omega))
            refine srn S (collectR_c g1 ys p8 c8 (by omega) w ((S.mem.fact (BoxF g1 142 [.slice p8 ys.length c8])).less fun _ _ h => h.elim) (gl_own (S.row p8 ys.length) ((S.mem.fact (AllI ys)).less fun _ _ h => h.elim) (fun _ _ h => h))) ?_; clear S; rintro _ a w ⟨p9, c9, rfl, hown9, hnew9⟩ hS -
            have S := hS hown9 hnew9
            clear hS
            have hByes : batchP (rsP ys) = true := keptP_batch hky (by rw [rsP_len]; omega)
            have hn9 : ∀ x ∈ ys, x.name.length ≤ 9223372036854775807 := fun x hx => by have := (rightP_name (hky.right _ (rsP_mem hx))).2; have : x.name.length ≤ 32 := this; omega
            refine srn S (vencode_q ys p9 ys.length c9 _ rfl (own_le (S.row p9 ys.length)) hn9 (by omega) (gl_own (S.row p9 ys.length) ((S.mem.fact (AllI ys)).less fun _ _ h => h.elim) (fun _ _ h => h))) ?_; clear S; rintro _ a w ⟨p10, c10, rfl, hown10, hnew10⟩ hS -
            have S := hS hown10 hnew10
            clear hS
            have hQ2 : encQ (rsP ys) = encP (rsP ys) := by rw [encQ, hByes]; rfl
            have hE2 : encE (rsP ys) = 0 := by rw [encE, hByes]; rfl
            have hQl2 := encP_len hByes
            rw [hQ2, hE2] at S
            iterate 5 (refine sq S ?_; clear S; intro a S)
            refine wl_nil ?_
            refine xtn ?_
            refine c_seq ?_
            refine c_region ?_
            iterate 2 (refine sq S ?_; clear S; intro a S)
            refine wl_nil ?_
            refine xtn ?_
            refine c_condT S ?_
            refine c_region ?_
            iterate 5 (refine sq S ?_; clear S; intro a S)
            replace S := (S.front (Wk.row 5 1 p10 (encP (rsP ys)).length c10 (encL (encP (rsP ys))))).rowToGl p10 (encP (rsP ys)) (e := 5) (sz := 1) (n := (encP (rsP ys)).length) (c := c10) (fun _ _ _ _ => trivial)
            refine sit (lgI b g L) S (chk_v b g L k ⟨p10, c10, encP (rsP ys)⟩ hwf (by omega) (by show (encP (rsP ys)).length ≤ _; omega) w (S.it (lgI b g L)) (S.lend (lgI b g L) (S.mem.fact (GlF p10 (encP (rsP ys)))))) rfl ?_; clear S; rintro _ a w ⟨L2, rfl, hh2, hf2, hm2, hv2⟩ hS
            have S := hS (lgI b g L2) hh2 hf2
            clear hS
            refine sq S ?_; clear S; intro a S
            refine wl_nil ?_
            refine xtn ?_
            replace S := ((S.front (rwI ⟨L, p, c, xs⟩)).front (Wk.box h 144 (cVt g ⟨L, p, c, xs⟩))).front (Wk.row 150 6 p8 ys.length c8 (encL ys))
            replace S := S.front (lgI b g L2)
            exact ⟨L2, _, S.uu, ⟨hm2, by rw [putR, hfit, ← hys]; exact hv2, by rw [putR, hfit, ← hys]; rfl⟩, S.sub _ _⟩
        · clear S; rintro L2 e uu a w ⟨hm2, hv2, he2⟩ S
          iterate 2 (refine c_seq ?_)
          have h9' : ¬ 64 < (behP (rsP xs) (rsP l)).length := by have := of_decide_eq_false h9; omega
          refine c_region ?_
          iterate 2 (refine sq S ?_; clear S; intro a S)
          refine wl_nil ?_
          refine xtn ?_
          refine c_cond S (fun h17 => ?_) (fun h17 => ?_)
          · refine c_region ?_
            iterate 4 (refine sq S ?_; clear S; intro a S)
            refine sw S ?_; clear S; intro a w S
            refine wl_nil ?_
            refine xtn ?_
            refine c_seq ?_
            refine c_region ?_
            iterate 2 (refine sq S ?_; clear S; intro a S)
            refine wl_nil ?_
            refine xtn ?_
            refine c_ret ?_
            have h17' : (putR L.v (rsP xs) (rsP l)).2 = 0 := by rw [← he2]; simpa using h17
            have hv : putV L.v (rsP xs) (rsP l) = ((putR L.v (rsP xs) (rsP l)).1, behP (rsP xs) (rsP l), (putR L.v (rsP xs) (rsP l)).2) := by rw [putV, if_neg hbr, if_neg (by rw [hB]; simp), if_neg h9', if_pos h17']
            replace S := (((S.front (rwI ⟨L2, p8, c8, ys⟩)).front (lgI b g L2)).toBoth.front (Wk.box h 144 (cVt g ⟨L2, p8, c8, ys⟩))).toBoth
            have h1 := S.it (vtI h b g ⟨L2, p8, c8, ys⟩)
            have h2 := S.itNew (vtI h b g ⟨L2, p8, c8, ys⟩) rfl
            exact end1 S (fun _ => ⟨⟨L2, p8, c8, ys⟩, by rw [hv, he2], h1, h2, hm2, by rw [hv]; exact hv2, by rw [hv]; exact hys, hmem⟩)
          · refine c_skip ?_
            refine xtn ?_
            refine c_seq ?_
            refine c_region ?_
            iterate 2 (refine sq S ?_; clear S; intro a S)
            refine wl_nil ?_
            refine xtn ?_
            refine c_ret ?_
            have h17' : ¬ (putR L.v (rsP xs) (rsP l)).2 = 0 := by rw [← he2]; simpa using h17
            have hv : putV L.v (rsP xs) (rsP l) = ((putR L.v (rsP xs) (rsP l)).1, rsP xs, (putR L.v (rsP xs) (rsP l)).2) := by rw [putV, if_neg hbr, if_neg (by rw [hB]; simp), if_neg h9', if_neg h17']
            replace S := (((S.front (rwI ⟨L, p, c, xs⟩)).front (lgI b g L2)).toBoth.front (Wk.box h 144 (cVt g ⟨L2, p, c, xs⟩))).toBoth
            have h1 := S.it (vtI h b g ⟨L2, p, c, xs⟩)
            have h2 := S.itNew (vtI h b g ⟨L2, p, c, xs⟩) rfl
            exact end1 S (fun _ => ⟨⟨L2, p, c, xs⟩, by rw [hv, he2], h1, h2, hm2, by rw [hv]; exact hv2, by rw [hv], fun y hy => .inl hy⟩)
end Go.Proofs.YtdakncgafdnjfaaGreat

/- Package vault: Get, Rows, Down, Format, Open without a log. -/
namespace Go.Proofs.YtdakncgafdnjfaaGreat
open Go Go.Wk
set_option synthInstance.maxSize 100000
set_option synthInstance.maxHeartbeats 400000
set_option maxRecDepth 100000

theorem vget_c (h g : Nat) (V : VT) (s : List UInt8) (w0 : World) (hxl : V.xs.length ≤ 1000) (f1 : Stable (fun _ => False) w0 (BoxF h 144 (cVt g V))) (f2 : Stable (fun _ => False) w0 (GlF V.p V.xs)) (hup : SortedP (rsP V.xs)) :
    Ret Tryz.prog 27 [.pointer (some ⟨h, 0, none⟩), str s] w0 (fun _ => False) fun v _ => ∃ i b, AtP V.xs s i b ∧ v = .tuple ⟨[vL (if b then (nthG V.xs i).term else zeroL), .bool b]⟩ := by
  obtain ⟨L, p, c, xs⟩ := V
  have hxl : xs.length ≤ 1000 := hxl
  refine enter Tryz.func27 rfl rfl (Wd.begin (fs := [BoxF h 144 (cVt g ⟨L, p, c, xs⟩), GlF p xs]) (by simp; exact ⟨f1, f2⟩)) (fun a S => ?_)
  simp only [Tryz.ntmps27, List.length_cons, List.length_nil, Nat.reduceAdd, Nat.reduceSub, List.replicate_succ, List.replicate_zero, List.cons_append, List.nil_append] at S
  refine c_seq ?_
  refine c_region ?_
  refine sa S ?_; clear S; intro b4 a w S
  refine sq S ?_; clear S; intro a S
  refine wl_nil ?_
  refine xtn ?_
  iterate 2 (refine c_seq ?_)
  refine c_region ?_
  iterate 2 (refine sq S ?_; clear S; intro a S)
  refine wl_nil ?_
  refine xtn ?_
  refine c_condF S ?_
  refine c_skip ?_
  refine xtn ?_
  refine c_seq ?_
  refine c_region ?_
  iterate 5 (refine sq S ?_; clear S; intro a S)
  refine sr S (rsearch_c xs p xs.length c s _ rfl (by omega) (S.gl0 p) hup) ?_; clear S; rintro _ a w ⟨i, b, rfl, hat⟩ S
  iterate 5 (refine sq S ?_; clear S; intro a S)
  refine wl_nil ?_
  refine xtn ?_
  iterate 2 (refine c_seq ?_)
  refine c_region ?_
  iterate 2 (refine sq S ?_; clear S; intro a S)
  refine wl_nil ?_
  refine xtn ?_
  refine c_cond S (fun h4 => ?_) (fun h4 => ?_)
  · refine c_seq ?_
    refine c_region ?_
    refine sq S ?_; clear S; intro a S
    refine sw S ?_; clear S; intro a w S
    refine sq S ?_; clear S; intro a S
    refine wl_nil ?_
    refine xtn ?_
    refine c_ret ?_
    refine xtr ?_
    have hb : b = false := by simpa using h4
    exact end2 S (fun _ => ⟨i, b, hat, by rw [hb]; rfl⟩)
  · refine c_skip ?_
    refine xtn ?_
    refine c_seq ?_
    have hb : b = true := by simpa using h4
    have hK : KLt i xs.length := ⟨hat.lt hb⟩
    refine c_region ?_
    iterate 8 (refine sq S ?_; clear S; intro a S)
    refine sw S ?_; clear S; intro a w S
    refine sq S ?_; clear S; intro a S
    refine wl_nil ?_
    refine xtn ?_
    refine c_ret ?_
    exact end2 S (fun _ => ⟨i, b, hat, by rw [hb]; rfl⟩)
theorem vrows_c (h g : Nat) (V : VT) (w0 : World) (hxl : V.xs.length ≤ 1000) (f1 : Stable (fun _ => False) w0 (BoxF h 144 (cVt g V))) (f2 : Stable (fun _ => False) w0 (GlF V.p V.xs)) :
    Ret Tryz.prog 26 [.pointer (some ⟨h, 0, none⟩)] w0 (fun _ => False) fun v w' => ∃ p' c', v = .slice p' V.xs.length c' ∧ w'.ownsRow 0 45 6 (.slice p' V.xs.length c') V.xs.length (encL V.xs) ∧ ∀ ad, p' = some ad → w0.heap.size ≤ ad.block := by
  obtain ⟨L, p, c, xs⟩ := V
  have hxl : xs.length ≤ 1000 := hxl
  refine enter Tryz.func26 rfl rfl (Wd.begin (fs := [BoxF h 144 (cVt g ⟨L, p, c, xs⟩), GlF p xs]) (by simp; exact ⟨f1, f2⟩)) (fun a S => ?_)
  simp only [Tryz.ntmps26, List.length_cons, List.length_nil, Nat.reduceAdd, Nat.reduceSub, List.replicate_succ, List.replicate_zero, List.cons_append, List.nil_append] at S
  refine c_seq ?_
  refine c_region ?_
  refine sq S ?_; clear S; intro a S
  refine wl_nil ?_
  refine xtn ?_
  iterate 2 (refine c_seq ?_)
  refine c_region ?_
  iterate 2 (refine sq S ?_; clear S; intro a S)
  refine wl_nil ?_
  refine xtn ?_
  refine c_condF S ?_
  refine c_skip ?_
  refine xtn ?_
  refine c_seq ?_
  refine c_region ?_
  iterate 4 (refine sq S ?_; clear S; intro a S)
  have hlt := foots_lt S
  refine sr S (all_vf p xs.length c _) ?_; clear S; rintro _ a w ⟨g1, rfl, n1, f1⟩ S
  replace S := S.add (Φ := BoxF g1 142 [.slice p xs.length c]) (BoxF.stable f1 (fun hm => by have := hlt _ hm; omega))
  refine srn S (collectR_c g1 xs p c (by omega) w ((S.mem.fact (BoxF g1 142 [.slice p xs.length c])).less fun _ _ h => h.elim) (S.gl0 p)) ?_; clear S; rintro _ a w ⟨p9, c9, rfl, hown9, hnew9⟩ hS -
  have S := hS hown9 hnew9
  clear hS
  refine sq S ?_; clear S; intro a S
  refine wl_nil ?_
  refine xtn ?_
  refine c_ret ?_
  have hrow := S.row p9 xs.length
  have hnew := S.rowNew p9 xs.length
  exact end1 S (fun _ => ⟨p9, c9, rfl, hrow, fun ad h => (hnew ad h).elim (fun h => h.elim) id⟩)
theorem vformat_ok (b m n : Nat) (p : Option Addr) (c : Nat) (s : DS) (hm : mayF s n = true) (hl : s.loose.length ≤ 980000) (h0 : (fmtF n s).2 = 0) (w0 : World) (hd : (dkI b m p c s).holds w0) :
    Ret Tryz.prog 28 [.pointer (some ⟨b, 0, none⟩), .int .i64 (n : Int)] w0 (dkI b m p c s).foot fun v w' => ∃ h g L, v = .tuple ⟨[.pointer (some ⟨h, 0, none⟩), .int .i64 0]⟩ ∧ L.m = m ∧ L.v = fmtV n s ∧ (vtI h b g ⟨L, none, 0, []⟩).holds w' ∧ ∀ k, (vtI h b g ⟨L, none, 0, []⟩).foot k → (dkI b m p c s).foot k ∨ w0.heap.size ≤ k := by
  refine enter Tryz.func28 rfl rfl (Wd.itLent (x := dkI b m p c s) (fs := []) hd (by simp)) (fun a S => ?_)
  simp only [Tryz.ntmps28, List.length_cons, List.length_nil, Nat.reduceAdd, Nat.reduceSub, List.replicate_succ, List.replicate_zero, List.cons_append, List.nil_append] at S
  refine c_seq ?_
  refine c_region ?_
  iterate 2 (refine sq S ?_; clear S; intro a S)
  refine wl_nil ?_
  refine xtn ?_
  refine c_seq ?_
  refine c_region ?_
  iterate 2 (refine sq S ?_; clear S; intro a S)
  refine sit (dkI b m p c s) S (format_v b m n p c s hm hl _ (S.it (dkI b m p c s))) rfl ?_; clear S; rintro _ a w (⟨h, -⟩ | ⟨-, g, L, rfl, hm2, hv2, hh2, hf2⟩) hS
  · exact absurd h0 h
  have S := hS (lgI b g L) hh2 hf2
  clear hS
  iterate 5 (refine sq S ?_; clear S; intro a S)
  refine wl_nil ?_
  refine xtn ?_
  iterate 2 (refine c_seq ?_)
  refine c_region ?_
  iterate 2 (refine sq S ?_; clear S; intro a S)
  refine wl_nil ?_
  refine xtn ?_
  refine c_condF S ?_
  refine c_skip ?_
  refine xtn ?_
  refine c_seq ?_
  refine c_region ?_
  iterate 2 (refine sq S ?_; clear S; intro a S)
  refine sa S ?_; clear S; intro b19 a w S
  iterate 2 (refine sq S ?_; clear S; intro a S)
  refine wl_nil ?_
  refine xtn ?_
  refine c_ret ?_
  replace S := S.addNil 150 6
  rw [show Wk.row 150 6 none 0 0 [] = rwI ⟨L, none, 0, []⟩ from rfl] at S
  rw [show [Value.pointer (some ⟨g, 0, none⟩), Value.slice none 0 0] = cVt g ⟨L, none, 0, []⟩ from rfl] at S
  replace S := (((S.front (rwI ⟨L, none, 0, []⟩)).front (lgI b g L)).toBoth.front (Wk.box b19 144 (cVt g ⟨L, none, 0, []⟩))).toBoth
  have h1 := S.it (vtI b19 b g ⟨L, none, 0, []⟩)
  have h2 := S.itNew (vtI b19 b g ⟨L, none, 0, []⟩) rfl
  exact end2 S (fun _ => ⟨b19, g, L, rfl, hm2, hv2, h1, h2⟩)
end Go.Proofs.YtdakncgafdnjfaaGreat

/- Law 19: a fresh disk; wakes. -/
namespace Go.Proofs.YtdakncgafdnjfaaGreat
open Go Go.Wk
set_option synthInstance.maxSize 100000
set_option synthInstance.maxHeartbeats 400000
set_option maxRecDepth 100000

theorem lfresh_c (w0 : World) : Ret Tryz.prog 17 [] w0 (fun _ => False) fun v w' => ∃ b m, v = .pointer (some ⟨b, 0, none⟩) ∧ (dkI b m none 0 (newD 602)).holds w' ∧ ∀ k, (dkI b m none 0 (newD 602)).foot k → w0.heap.size ≤ k := by
  refine enter Tryz.func17 rfl rfl (Wd.start w0) (fun a S => ?_)
  simp only [Tryz.ntmps17, List.length_cons, List.length_nil, Nat.reduceAdd, Nat.reduceSub, List.replicate_succ, List.replicate_zero, List.cons_append, List.nil_append] at S
  refine c_seq ?_
  refine c_region ?_
  refine sq S ?_; clear S; intro a S
  refine wl_nil ?_
  refine xtn ?_
  refine c_seq ?_
  refine c_region ?_
  refine snew S (dnew_dk 602 (by omega) _) ?_; clear S; rintro _ a w - ⟨b, m, rfl, hh, hnw⟩ hS -
  have S := hS (dkI b m none 0 (newD 602)) hh hnw
  clear hS
  iterate 5 (refine sq S ?_; clear S; intro a S)
  refine wl_nil ?_
  refine xtn ?_
  refine c_seq ?_
  refine c_region ?_
  iterate 2 (refine sq S ?_; clear S; intro a S)
  refine wl_nil ?_
  refine xtn ?_
  refine c_ret ?_
  have h1 := S.it (dkI b m none 0 (newD 602))
  have h2 := S.itNew (dkI b m none 0 (newD 602)) rfl
  exact end1 S (fun _ => ⟨b, m, rfl, h1, fun k hk => (h2 k hk).elim (fun h => h.elim) id⟩)
theorem lt_leaf (w : World) (k u n : Int) (s : List UInt8) : LtIn w (.mk k u n s none 0 []) := by
  rw [LtIn.iff]; exact ⟨Nat.le_refl _, Nat.zero_le _, trivial⟩
theorem row_one {xs : List LRow} {r : PRow} (h : rsP xs = [r]) : ∃ x, xs = [x] ∧ x.r = r := by
  match xs, h with
  | [x], h => exact ⟨x, rfl, by simpa [rsP] using h⟩
theorem at_one {x : LRow} {i : Nat} {b : Bool} (h : AtP [x] x.name i b) : i = 0 ∧ b = true := by
  obtain ⟨h1, h2, h3, h4⟩ := h
  have hi : i = 0 := by
    rcases Nat.eq_zero_or_pos i with h | h
    · exact h
    · have := h2 0 h
      rw [show (nthG [x] 0).name = x.name from rfl, bl_irrefl] at this; cases this
  subst hi
  exact ⟨rfl, by rw [h4]; simp [show (nthG [x] 0).name = x.name from rfl]⟩
def lw1 : List LRow := [⟨[97], textL [120]⟩, ⟨[98], secretL 1⟩]
def lw2 : List LRow := [⟨[97], zeroL⟩]
theorem lw2_p : rsP lw2 = wk2 := rfl
theorem vwakes_c (w0 : World) : Ret Tryz.prog 12 [] w0 (fun _ => False) fun v _ => v = .bool true := by
  have h0 := fmt_lv 300 (by omega)
  obtain ⟨b1, b2, b3⟩ := wk1_ok
  obtain ⟨c1, c2, c3⟩ := wk2_ok
  obtain ⟨e1, f1, g1⟩ := putV_off h0 [] wk1 b1 (by rw [b2]; decide) (by omega) (by rw [b3]; decide)
  rw [b2] at f1
  obtain ⟨e2, f2, g2⟩ := putV_off g1 wk1 wk2 c1 (by rw [c2]; decide) (by omega) (by rw [c3, endF_sum, List.map_append, List.sum_append, List.map_cons, List.map_nil, List.map_cons, List.map_nil, b3]; decide)
  rw [c2] at f2
  obtain ⟨V0, hV0⟩ : ∃ V0, V0 = fmtV 300 (newD ((2 * 300 + 2 : Nat) : Int)) := ⟨_, rfl⟩
  rw [← hV0] at h0 e1 f1 g1 e2 f2 g2
  refine enter Tryz.func12 rfl rfl (Wd.start w0) (fun a S => ?_)
  simp only [Tryz.ntmps12, List.length_cons, List.length_nil, Nat.reduceAdd, Nat.reduceSub, List.replicate_succ, List.replicate_zero, List.cons_append, List.nil_append] at S
  refine c_seq ?_
  refine c_region ?_
  refine sq S ?_; clear S; intro a S
  refine wl_nil ?_
  refine xtn ?_
  refine c_seq ?_
  refine c_region ?_
  refine snew S (lfresh_c _) ?_; clear S; rintro _ a w - ⟨b, m, rfl, hh, hnw⟩ hS -
  have S := hS (dkI b m none 0 (newD 602)) hh hnw
  clear hS
  refine sit (dkI b m none 0 (newD 602)) S (vformat_ok b m 300 none 0 (newD 602) (by simp [mayF, newD]) (by simp [newD]) (format_live 300 (by omega)).1 _ (S.it (dkI b m none 0 (newD 602)))) rfl ?_; clear S; rintro _ a w ⟨h, g, L, rfl, hm2, hv2, hh2, hf2⟩ hS
  have S := hS (vtI h b g ⟨L, none, 0, []⟩) hh2 hf2
  clear hS
  iterate 5 (refine sq S ?_; clear S; intro a S)
  refine wl_nil ?_
  refine xtn ?_
  iterate 2 (refine c_seq ?_)
  refine c_region ?_
  iterate 2 (refine sq S ?_; clear S; intro a S)
  refine wl_nil ?_
  refine xtn ?_
  refine c_condF S ?_
  refine c_skip ?_
  refine xtn ?_
  refine c_seq ?_
  refine c_region ?_
  refine sq S ?_; clear S; intro a S
  refine sc S ?_; clear S; intro a w S
  refine sq S ?_; clear S; intro a S
  refine sc S ?_; clear S; intro a w S
  refine sq S ?_; clear S; intro a S
  refine sn S ?_; clear S; intro b19 a w S
  replace hv2 : L.v = V0 := hv2.trans hV0.symm
  replace S := S.boxRow b19 6 2 rfl (by simp [maxLen])
  rw [show ([.string ⟨#[97]⟩, .int .i64 (textL [120]).kind, .int .i64 (textL [120]).user, .int .i64 (textL [120]).num, str (textL [120]).text, .slice (textL [120]).p (textL [120]).kids.length (textL [120]).cap, .string ⟨#[98]⟩, .int .i64 (secretL 1).kind, .int .i64 (secretL 1).user, .int .i64 (secretL 1).num, str (secretL 1).text, .slice (secretL 1).p (secretL 1).kids.length (secretL 1).cap] : List Value) = encL lw1 from rfl] at S
  replace S := S.rowToGl (some ⟨b19, 0, none⟩) lw1 (e := 45) (sz := 6) (n := 2) (c := 2) (fun w' _ x hx => by
    simp only [lw1, List.mem_cons, List.not_mem_nil, or_false] at hx
    rcases hx with rfl | rfl
    · exact lt_leaf w' 1 0 0 [120]
    · exact lt_leaf w' 3 1 0 [])
  refine sit (vtI h b g ⟨L, none, 0, []⟩) S (vput_c h b g ⟨L, none, 0, []⟩ lw1 (some ⟨b19, 0, none⟩) 2 0 (by show L.v.Wf 0; rw [hv2]; exact h0.ok.wf) (by omega) keptP_nil (by simp) (by decide) (by decide) (by decide) w (S.it (vtI h b g ⟨L, none, 0, []⟩)) (fun _ _ x hx => by cases hx) (S.lend (vtI h b g ⟨L, none, 0, []⟩) (S.mem.fact (GlF (some ⟨b19, 0, none⟩) lw1)))) rfl ?_; clear S; rintro _ a w ⟨V1, rfl, hh3, hf3, hm3, hv3, hx3, hmem3⟩ hS
  have S := hS (vtI h b g V1) hh3 hf3
  clear hS
  rw [show (putV (VT.L ⟨L, none, 0, []⟩).v (rsP (VT.xs ⟨L, none, 0, []⟩)) (rsP lw1)).2.2 = 0 from by show (putV L.v [] wk1).2.2 = 0; rw [hv2]; exact e1] at S
  replace hx3 : rsP V1.xs = wk1 := by rw [hx3]; show (putV L.v [] wk1).2.1 = wk1; rw [hv2]; exact f1
  replace hv3 : V1.L.v = (putV V0 [] wk1).1 := by rw [hv3]; show (putV L.v [] wk1).1 = _; rw [hv2]
  have hk3 : KeptP (rsP V1.xs) := by rw [hx3, ← b2]; exact keptP_beh keptP_nil b1
  have hl3 : V1.xs.length = 2 := by rw [← rsP_len, hx3]; rfl
  replace S := S.add (Φ := AllI V1.xs) (fun w' hw' y hy => (hmem3 y hy).elim (fun h => by cases h) (fun h => ((S.mem.fact (GlF (some ⟨b19, 0, none⟩) lw1)) w' hw').2 y h))
  refine sq S ?_; clear S; intro a S
  refine wl_nil ?_
  refine xtn ?_
  refine c_seq ?_
  refine c_region ?_
  iterate 2 (refine sq S ?_; clear S; intro a S)
  refine sn S ?_; clear S; intro b23 a w S
  replace S := S.boxRow b23 6 1 rfl (by simp [maxLen])
  rw [show ([.string ⟨#[97]⟩, .int .i64 0, .int .i64 0, .int .i64 0, .string ⟨#[]⟩, .slice none 0 0] : List Value) = encL lw2 from rfl] at S
  replace S := S.rowToGl (some ⟨b23, 0, none⟩) lw2 (e := 45) (sz := 6) (n := 1) (c := 1) (fun w' _ x hx => by
    simp only [lw2, List.mem_cons, List.not_mem_nil, or_false] at hx
    rcases hx with rfl
    exact lt_leaf w' 0 0 0 [])
  refine sit (vtI h b g V1) S (vput_c h b g V1 lw2 (some ⟨b23, 0, none⟩) 1 0 (by rw [hv3]; exact g1.ok.wf) (by omega) hk3 (by omega) (by decide) (by decide) (by decide) w (S.it (vtI h b g V1)) (S.lend (vtI h b g V1) (S.mem.fact (AllI V1.xs))) (S.lend (vtI h b g V1) (S.mem.fact (GlF (some ⟨b23, 0, none⟩) lw2)))) rfl ?_; clear S; rintro _ a w ⟨V2, rfl, hh4, hf4, hm4, hv4, hx4, hmem4⟩ hS
  have S := hS (vtI h b g V2) hh4 hf4
  clear hS
  rw [hv3, hx3, lw2_p] at hv4 hx4
  rw [show (putV V1.L.v (rsP V1.xs) (rsP lw2)).2.2 = 0 from by rw [hv3, hx3, lw2_p]; exact e2] at S
  replace hx4 : rsP V2.xs = [⟨[98], .mk 3 1 0 [] []⟩] := by rw [hx4]; exact f2
  obtain ⟨x, hxx, hxr⟩ := row_one hx4
  have hxn : x.name = [98] := congrArg PRow.name hxr
  have hxt : x.term.t = secretT 1 := congrArg PRow.term hxr
  have hl4 : V2.xs.length = 1 := by rw [hxx]; rfl
  have hup4 : SortedP (rsP V2.xs) := by rw [hx4]; exact List.pairwise_singleton _ _
  replace S := S.add (Φ := AllI V2.xs) (fun w' hw' y hy => (hmem4 y hy).elim (fun h => S.wd.facts (AllI V1.xs) (by simp) w' hw' y h) (fun h => ((S.mem.fact (GlF (some ⟨b23, 0, none⟩) lw2)) w' hw').2 y h))
  refine sq S ?_; clear S; intro a S
  refine wl_nil ?_
  refine xtn ?_
  refine c_seq ?_
  refine c_region ?_
  refine sq S ?_; clear S; intro a S
  replace S := S.ofBoth
  replace S := S.front (both (lgI b g V2.L) (rwI V2))
  replace S := S.ofBoth
  refine sr S (vget_c h g V2 [98] _ (by omega) ((BoxF.stable (S.box h) (fun h => h))) (gl_own (S.row V2.p V2.xs.length) ((S.mem.fact (AllI V2.xs)).less fun _ _ h => h.elim) (fun _ _ h => h)) hup4) ?_; clear S; rintro _ a w ⟨i, bb, hat, rfl⟩ S
  obtain ⟨rfl, rfl⟩ : i = 0 ∧ bb = true := by rw [hxx, ← hxn] at hat; exact at_one hat
  rw [show (if true then (nthG V2.xs 0).term else zeroL) = x.term from by rw [hxx]; rfl] at S
  iterate 3 (refine sq S ?_; clear S; intro a S)
  refine sa S ?_; clear S; intro b5 a w S
  refine sw S ?_; clear S; intro a w S
  refine sq S ?_; clear S; intro a S
  refine wl_nil ?_
  refine xtn ?_
  refine c_seq ?_
  have hxf : Stable (foots [Wk.box b5 43 x.term.cells, lgI b g V2.L, rwI V2, Wk.box h 144 (cVt g V2)]) w (LtF x.term) := (S.mem.fact (AllI V2.xs)).imp fun _ h => h x (by rw [hxx]; exact .head _)
  replace S := S.add (Φ := LtF x.term) hxf
  refine c_drawD [(0, true), (1, true), (2, true), (3, true), (4, true), (5, true), (6, true), (7, true), (8, false), (9, true), (10, true), (11, true), (12, true), (13, true), (14, true), (15, true), (16, true), (17, false), (18, false), (19, true), (20, true)] [] S ?_; clear S; intro w S
  iterate 2 (refine dq S ?_; clear S; intro a S)
  rw [show decide ((0 : Int) = 0) = true from rfl] at S
  refine dq S ?_; clear S; intro a S
  iterate 2 (refine dqG S ?_; clear S; intro a S)
  rw [show decide ((0 : Int) = 0) = true from rfl] at S
  iterate 2 (refine dq S ?_; clear S; intro a S)
  refine dqG S ?_; clear S; intro a S
  refine dl ?_
  refine gT S ?_
  refine srn S (vrows_c h g V2 _ (by omega) (BoxF.stable (S.box h) (fun h => h)) (gl_own (S.row V2.p V2.xs.length) ((S.mem.fact (AllI V2.xs)).less fun _ _ h => h.elim) (fun _ _ h => h))) ?_; clear S; rintro _ a w ⟨p9, c9, rfl, hown9, hnew9⟩ hS -
  have S := hS hown9 hnew9
  clear hS
  rw [hl4] at S
  refine de S ?_
  iterate 2 (refine dqG S ?_; clear S; intro a S)
  rw [show decide (((1 : Nat) : Int) = 1) = true from rfl] at S
  iterate 2 (refine dq S ?_; clear S; intro a S)
  refine dqG S ?_; clear S; intro a S
  iterate 2 (refine dq S ?_; clear S; intro a S)
  refine dqG S ?_; clear S; intro a S
  refine dl ?_
  refine gC S ?_; clear S; intro a w S
  refine de S ?_
  refine dl ?_
  refine gC S ?_; clear S; intro a w S
  refine de S ?_
  iterate 2 (refine dq S ?_; clear S; intro a S)
  refine dn ?_
  refine xtn ?_
  refine c_ret ?_
  refine end1 S (fun _ => ?_)
  rw [hxt]; rfl
end Go.Proofs.YtdakncgafdnjfaaGreat

namespace Go.Wk
open Go Go.Deep Go.ChangeShapes Go.WideShapes Go.ChangeAt Go.RowKit
/-! what comes in, and how large it may be -/
class TroZ (P : Program) (T : TypeId) (α : Type) [Lay α] (Z : outParam (α → Prop)) : Prop where
  of : ∀ {H : Type} (enc : TypeId × Value → H) (w : World) (base : Nat) (spare : Nat → Bool) (held : Bool) (fuel : Nat) (cs : List Value) (x : DataW H × List MemPlace), DataW.trod enc P w base spare held fuel T cs = some x → ∃ a : α, cs = Enc.cells a ∧ Lay.inn w a ∧ ((∀ n ∈ x.1.weights P T, n ≤ reachBytes) → Z a)
  size : P.cellsOf T = Enc.sz α
abbrev ZSl {α : Type} [Lay α] (P : Program) (T : TypeId) (Z : α → Prop) : Sl α → Prop := fun s => s.xs.length * P.bytesOf T ≤ reachBytes ∧ ∀ x ∈ s.xs, Z x
end Go.Wk

namespace Go.Wk
open Go
/-! going over a map -/
def kvI (x : Int × Value) : Value × Value := (.int .i64 x.1, x.2)
def kvIU (x : Value × Value) : Int × Value := (match x.1 with | .int _ n => n | _ => 0, x.2)
/-- a map, and the going over it: what has come out. -/
def mpin (b r : Nat) (kv done : List (Int × Value)) : Item where
  foot := fun k => k = b ∨ k = r
  holds := fun w => ∃ (es : Array MapEntry) (clock : Nat) (ds : List MapEntry), w.heap[b]? = some (.map es clock) ∧ es.toList.map enKV = kv.map kvI ∧ (∀ e ∈ es.toList, e.born < clock) ∧ (es.toList.map (·.born)).Nodup ∧
    w.heap[r]? = some (.mapIter (some b) clock (ds.map (·.born)).toArray clock) ∧ (∀ e ∈ ds, e ∈ es.toList) ∧ (ds.map (·.born)).Nodup ∧ ds.map enKV = done.map kvI
class HasMpin (bs : List Item) (r : Nat) (b : outParam Nat) (kv done : outParam (List (Int × Value))) : Prop where mem : mpin b r kv done ∈ bs
/-- what 'next' hands out. -/
def nxN (more : Bool) (k : Int) (v : Value) : Value := bif more then .tuple ⟨[.bool true, (.int .i64 k : Value), v]⟩ else .tuple ⟨[.bool false]⟩
class HasMpinnB (bs : List Item) (b : Nat) (kv : outParam (List (Int × Value))) : Prop where mem : ∃ r done, mpin b r kv done ∈ bs
section
variable {P : Program} {r0 : Option Nat} {ops : Array Oper} {Q : Exit → Act → World → Prop} {w0 : World} {M0 : Nat → Prop} {ds : List Deferred} {a : Act} {w : World} {l : List Value} {bs : List Item} {fs : List (World → Prop)}
  {d : Option Nat} {op : Op} {ty : TypeId} {pos : String} {af : Array Edge} {rest : List Oper} {t kt et : TypeId} {x : Operand} {b : Nat} {kv : List (Int × Value)}
end
end Go.Wk

namespace Go.Wk
open Go

/-! regions that draw their order, may panic on the way, and end by what all else feeds -/
section
variable {P : Program} {ops : Array Oper} {C : World → Prop} {X : XP}
def ACXL (last : Nat) (P : Program) (ops : Array Oper) (X : XP) (C : World → Prop) (R : Act → World → Prop) : Nat → Array Bool → Act → World → Prop
  | 0, listed, a, w => Region.ready .any ops listed = [] ∧ R a w
  | fuel + 1, listed, a, w =>
    (Region.ready .any ops listed = [] → R a w) ∧
    ∀ i ∈ Region.ready .any ops listed, WNX P ops X i (fun a' w' => (i ≠ last → C w') ∧ ACXL last P ops X C R fuel (listed.setIfInBounds i true) a' w') a w
variable {R : Act → World → Prop}
theorem acxl_first {last i : Nat} {oi : Oper} {v : Value} (hi : ops[i]? = some oi) (hoff : X.off oi) (hsel : ∀ (j : Nat) (o : Oper) cs b, ops[j]? = some o → o.op ≠ .select cs b) :
    (i ≠ last ∧ ∀ o, ops[last]? = some o → ∃ e ∈ o.after, Region.binds .any e = true ∧ e.on = i) → ∀ (fuel : Nat) (listed : Array Bool) (a : Act) (w : World),
      (∀ j oj, ops[j]? = some oj → j ≠ i → listed.getD j true = false → (∀ e ∈ oj.after, Region.binds .any e = true → e.on ≠ i) → oi.apart ops oj = true) →
      i ∈ Region.ready .any ops listed → YieldsC P ops C oi v a → C w →
      ACXL last P ops X C R fuel (listed.setIfInBounds i true) (a.put oi.dst v) w → ACXL last P ops X C R (fuel + 1) listed a w := by
  intro hlast fuel
  induction fuel with
  | zero =>
    intro listed a w _ hr hy hS H
    refine ⟨fun h => (by rw [h] at hr; cases hr), fun j hj => ?_⟩
    by_cases hji : j = i
    · subst hji; exact hy.wnx hi hS ⟨fun _ => hS, H⟩
    · have := ready_mono hj hji
      rw [H.1] at this
      cases this
  | succ fuel ih =>
    intro listed a w hfree hr hy hS H
    refine ⟨fun h => (by rw [h] at hr; cases hr), fun j hj => ?_⟩
    by_cases hji : j = i
    · subst hji; exact hy.wnx hi hS ⟨fun _ => hS, H⟩
    · have h1 := H.2 j (ready_mono hj hji)
      obtain ⟨hjun, oj, hoj, hall⟩ := mem_ready.1 hj
      have hnot : ∀ e ∈ oj.after, Region.binds .any e = true → e.on ≠ i := fun e he hb heq => by
        have h1 := hall e he hb
        have h0 := (mem_ready.1 hr).1
        rw [heq] at h1
        rcases Nat.lt_or_ge i listed.size with h' | h'
        · simp [h'] at h0 h1; rw [h0] at h1; cases h1
        · simp [Array.getElem?_eq_none h'] at h1
      have hjl : j ≠ last := fun e => by
        obtain ⟨e', he', hb', ho'⟩ := hlast.2 oj (e ▸ hoj)
        exact hnot e' he' hb' ho'
      have h2 := wnx_put hoj (hfree j oj hoj hji hjun hnot) hoff (fun cs b => hsel i oi cs b hi) (fun cs b => hsel j oj cs b hoj) hy h1
      have hfree' : ∀ k ok, ops[k]? = some ok → k ≠ i → (listed.setIfInBounds j true).getD k true = false →
          (∀ e ∈ ok.after, Region.binds .any e = true → e.on ≠ i) → oi.apart ops ok = true := fun k ok hk hki hun hno => by
        refine hfree k ok hk hki ?_ hno
        by_cases hjk : j = k
        · subst hjk; exact hjun
        · rw [getD_set_ne true hjk] at hun; exact hun
      refine wpOpIn_mono (fun a' w' h3 => ⟨h3.2.1, ih (listed.setIfInBounds j true) a' w' hfree' (ready_mono hr (Ne.symm hji)) h3.1 (h3.2.1 hjl) ?_⟩) h2
      rw [Array.setIfInBounds_comm _ _ hji]
      exact h3.2.2
variable {r : Option Nat} {Q : Exit → Act → World → Prop} {w0 : World} {M0 : Nat → Prop} {ds : List Deferred} {a : Act} {w : World} {l l' : List Value} {bs bs' bs0 : List Item} {fs fs0 : List (World → Prop)}
  {d : Option Nat} {op : Op} {ty : TypeId} {pos : String} {af : Array Edge} {rest : List Oper} {v v' G : Value} {j g : Nat} {pol : Bool} {cs : List Bool} {n last : Nat} {listed : Array Bool}
/-- the region in one order that stands for all. -/
def AQXL (last : Nat) (P : Program) (ops : Array Oper) (X : XP) (C : World → Prop) (R : Act → World → Prop) (ord : List (Nat × Bool)) (a : Act) (w : World) : Prop :=
  ∀ listed, Region.noSelect ops = true → X.offB ops = true → flowFromL last ops ord listed = true → ACXL last P ops X C R ord.length listed a w
variable {ord : List (Nat × Bool)} {i : Nat}
theorem dqXL (S : St w0 M0 ds a w l bs fs) [hb : SubL bs0 bs] [hf : SubL fs0 fs] [ho : OpAt ops i ⟨d, op, ty, pos, af, none⟩] [hq : OpQ P op ty ⟨[], l⟩ bs0 fs0 v] [hp : PutO l d v l']
    (K : ∀ a, St w0 M0 ds a w l' bs fs → AQXL last P ops X (fun w => Wd w0 M0 w bs0 fs0) R ord a w) :
    AQXL last P ops X (fun w => Wd w0 M0 w bs0 fs0) R ((i, true) :: ord) a w := by
  intro listed hs hx hflow
  simp only [flowFromL, Bool.and_eq_true] at hflow
  refine acxl_first ho.eq (XP.offB_spec hx ho.eq) (Region.noSelect_spec hs) (feeds_spec hflow.1.2) _ listed a w (Region.free_spec ho.eq hflow.1.1.2) (by simpa using hflow.1.1.1) (v := v) (.inl ⟨rfl, fun w' hw' => ?_⟩) (S.wd.sub hb.sub hf.sub) (K _ S.put _ hs hx hflow.2)
  rw [execOp_eq]
  exact hq.run a.eval w' S.fr hw'.mem
/-- the one operation that may come up; it may panic. -/
theorem dlXL {o : Oper} {C : World → Prop} [ho : OpAt ops i o] (h : WL P none ops (fun e a' w' => (e = .normal ∧ (i ≠ last → C w') ∧ AQXL last P ops X C R ord a' w') ∨ X.at e a' w') [o] a w) : AQXL last P ops X C R ((i, false) :: ord) a w := by
  intro listed hs hx hflow
  simp only [flowFromL, Bool.and_eq_true] at hflow
  have hr : Region.ready .any ops listed = [i] := by
    have := hflow.1
    split at this
    · rename_i k hk; rw [hk, Nat.eq_of_beq_eq_true this]
    · cases this
  refine ⟨fun h0 => (by rw [h0] at hr; cases hr), fun k hk => ?_⟩
  rw [hr] at hk
  obtain rfl : k = i := by simpa using hk
  have nor : ∀ {p : Prop} {a' : Act} {w' : World}, ((p ∧ (k ≠ last → C w') ∧ AQXL last P ops X C R ord a' w') ∨ X.at .normal a' w') → (k ≠ last → C w') ∧ ACXL last P ops X C R ord.length (listed.setIfInBounds k true) a' w' := by
    rintro p a' w' (⟨-, h1, h2⟩ | h)
    · exact ⟨h1, h2 _ hs hx hflow.2⟩
    · exact h.elim
  have pan : ∀ {c : List PanicEntry} {a' : Act} {w' : World}, ((Exit.panic c = Exit.normal ∧ (k ≠ last → C w') ∧ AQXL last P ops X C R ord a' w') ∨ X.at (.panic c) a' w') → X.at (.panic c) a' w' := by
    rintro c a' w' (⟨h, -⟩ | h)
    · cases h
    · exact h
  unfold WNX wpOpIn
  simp only [ho.eq]
  simp only [WL, wpListIn] at h
  split
  · rename_i hw
    rw [if_pos hw] at h
    refine ⟨fun _ _ => trivial, ?_⟩
    have h := h.2
    generalize (o.semAt (FW none).round a.eval).run P w = q at *
    cases q with
    | ok x w' =>
      cases x <;> simp only [Oper.uponIn] at h ⊢
      case value u => exact nor h
      case skip => exact nor h
      case defer d => exact nor h
      case enter f args =>
        refine ⟨h.1, CallsIn.mono h.2 fun e w'' he => ?_⟩
        cases e with
        | returned u => simp only [true_and] at he; exact nor (p := True) (by simpa using he)
        | panicked c => exact pan he
        | outgrown => obtain ⟨_, _, he⟩ := he; rcases he with ⟨he, _⟩ | he <;> first | cases he | exact he.elim
      case row row args => exact ⟨h.1, RowsIn.mono h.2 fun u w'' he => nor he⟩
      case round l f tmps assign body =>
        refine ⟨h.1, RoundIn.mono h.2 fun e w'' he => ?_⟩
        cases e with
        | returned u => simp only [true_and] at he; exact nor (p := True) (by simpa using he)
        | panicked c => exact pan he
        | outgrown => obtain ⟨_, _, he⟩ := he; rcases he with ⟨he, _⟩ | he <;> first | cases he | exact he.elim
    | halt x w' =>
      cases x <;> simp only [Oper.uponIn] at h ⊢
      case panic u => exact pan h
  · rename_i hw
    rw [if_neg hw] at h
    exact ⟨fun _ _ => trivial, nor h.2⟩
theorem deXL [hb : SubL bs0 bs] [hf : SubL fs0 fs] (S : St w0 M0 ds a w l bs fs) (h : AQXL last P ops X (fun w => Wd w0 M0 w bs0 fs0) R ord a w) : WL P none ops (fun e a' w' => (e = .normal ∧ (i ≠ last → Wd w0 M0 w' bs0 fs0) ∧ AQXL last P ops X (fun w => Wd w0 M0 w bs0 fs0) R ord a' w') ∨ X.at e a' w') [] a w :=
  wl_nil (.inl ⟨rfl, fun _ => S.wd.sub hb.sub hf.sub, h⟩)
/-- the last operation, which all others feed, is done. -/
theorem dzXL {C : World → Prop} (h : R a w) (hr : ∀ listed, Region.noSelect ops = true → flowFromL last ops [] listed = true → Region.ready .any ops listed = [] := by intro listed _ h; simpa [flowFromL] using h) : WL P none ops (fun e a' w' => (e = .normal ∧ (last ≠ last → C w') ∧ AQXL last P ops X C R [] a' w') ∨ X.at e a' w') [] a w :=
  wl_nil (.inl ⟨rfl, fun h => absurd rfl h, fun listed hs _ hf => ⟨hr listed hs hf, h⟩⟩)
theorem any_of_acxl (hQ : ∀ ch a w, X.at (.panic ch) a w → Q (.panic ch) a w) (hd : ∀ (i : Nat) o, ops[i]? = some o → isDefer o.op = false) : ∀ (fuel : Nat) (listed : Array Bool) (a : Act) (w : World), ACXL last P ops X C (fun a w => Q .normal a w) fuel listed a w → wpAnyIn (FW r) 0 P .any ops Q fuel listed a w
  | 0, _, _, _, h => h
  | fuel + 1, _, _, _, h => ⟨h.1, fun i hi => wnx_round hQ hd (wpOpIn_mono (fun a' w' h' => any_of_acxl hQ hd fuel _ a' w' h'.2) (h.2 i hi))⟩
/-- a region that draws its order, may panic, and ends by what all else feeds. -/
theorem c_drawXL {id : Nat} {lo : List Oper} (last : Nat) (ord : List (Nat × Bool)) (bs0 : List Item) (X : XP) (S : St w0 M0 ds a w l bs fs) (hQ : ∀ ch a w, X.at (.panic ch) a w → Q (.panic ch) a w)
    (h : ∀ w, St w0 M0 ds a w l bs fs → AQXL last P lo.toArray X (fun w => Wd w0 M0 w bs0 fs) (fun a w => Q .normal a w) ord a w)
    (hm : P.follows .mixedOrders = true := by kernel_rfl) (hx : X.offB lo.toArray = true := by kernel_rfl) (hd : ((lo.all fun o => !isDefer o.op) && (Nat.beq ord.length lo.length && (Region.noSelect lo.toArray && flowFromL last lo.toArray ord (Array.replicate lo.length false)))) = true := by kernel_rfl) : Wp P r (.region id lo.toArray true) Q a w := by
  simp only [Bool.and_eq_true] at hd
  refine wpIn_region_any hm (any_of_acxl (last := last) (C := fun w => Wd w0 M0 w bs0 fs) hQ (fun i o ho => ?_) _ _ _ _ ?_)
  · have := List.all_eq_true.1 hd.1 o (by
      rw [List.getElem?_toArray] at ho
      exact List.mem_of_getElem? ho)
    simpa using this
  · have := h { w with drawn := w.drawn + 1 } ⟨S.slots, S.defers, S.wd.step (Agree.drawn _ w _)⟩ _ hd.2.2.1 hx hd.2.2.2
    rw [Nat.eq_of_beq_eq_true hd.2.1] at this
    simpa using this
end

section
variable {P : Program} {r : Option Nat} {ops : Array Oper} {Q : Exit → Act → World → Prop} {w0 : World} {M0 : Nat → Prop} {ds : List Deferred} {a : Act} {w : World} {l : List Value} {bs bs' : List Item} {fs : List (World → Prop)}
  {d : Option Nat} {ty : TypeId} {pos : String} {af : Array Edge} {rest : List Oper} {f : Nat} {x : Operand} {ys : List Operand} {args : List Value} {ts : Array TypeId}
theorem xtp {next : Act → World → Prop} {ch : List PanicEntry} (h : Q (.panic ch) a w) : Exit.then next Q (.panic ch) a w := h
theorem xbp {id : Nat} {ch : List PanicEntry} (h : Q (.panic ch) a w) : Exit.inBlock id Q (.panic ch) a w := h
/-- nothing held. -/
abbrev noI : Item := ext fun _ => False
/-- a call that may write what one item holds, hands facts back, or panics. -/
theorem sitMP {l' : Value → List Value} (it : Item) [EntF P f] [CallTo ⟨[], l⟩ x ys f args] [hp : ∀ v, PutO l d v (l' v)] (S : St w0 M0 ds a w l bs fs) {R : Value → World → Prop} {X : List PanicEntry → World → Prop} (hc : RetP P f args w it.foot R X) (ho : it.own = true)
    (Kp : ∀ ch w', X ch w' → (∀ {bs' : List Item} [ReplI bs it noI bs'], St w0 M0 ds a w' l bs' fs) → Q (.panic ch) a w')
    (K : ∀ v a w', R v w' → (∀ (y : Item) (fs2 : List (World → Prop)) {fs3 : List (World → Prop)} {bs' : List Item} [AppL fs2 fs fs3] [ReplI bs it y bs'] [ItOk y], y.holds w' → (∀ k, y.foot k → it.foot k ∨ w.heap.size ≤ k) → (∀ Φ ∈ fs2, Stable (fun k => y.foot k ∨ restOf bs it k) w' Φ) → St w0 M0 ds a w' (l' v) bs' fs3) → WL P r ops Q rest a w') :
    WL P r ops Q (⟨d, .call { callee := .value x, args := ys.toArray, argTypes := ts }, ty, pos, af, none⟩ :: rest) a w := by
  have hap := S.wd.apart
  refine cv_anyP S hc ?_
  rintro e w' (⟨v, rfl, ha, hR⟩ | ⟨ch, rfl, ha, hX⟩)
  · have := hp v
    have S' := S.put (d := d) (v := v)
    refine .inl ⟨v, rfl, K v _ w' hR fun y fs2 fs3 bs' happ hr oy hy hf hfs => ?_⟩
    have hS : St w0 M0 ds (a.put d v) w' (l' v) bs' fs := ⟨S'.slots, S'.defers, by
      obtain ⟨pre, post, q1, q2⟩ := hr.ex
      have hwd := S'.wd
      rw [q1] at hwd
      rw [q2]
      exact hwd.swap ho ha hy hf (oy.lt w' hy) oy.loc⟩
    rw [← happ.eq]
    refine hS.addAll fs2 fun Φ hΦ => (hfs Φ hΦ).less fun k _ hk => ?_
    obtain ⟨pre, post, rfl, rfl⟩ := hr.ex
    obtain ⟨z, hz, hk⟩ := hk
    have hp := List.pairwise_append.1 hap
    rcases List.mem_append.1 hz with hz | hz
    · exact .inr ⟨⟨z, by simp [hz], hk⟩, hp.2.2 z hz it (by simp) k hk⟩
    · rcases List.mem_cons.1 hz with rfl | hz
      · exact .inl hk
      · exact .inr ⟨⟨z, by simp [hz], hk⟩, fun hx => (List.pairwise_cons.1 hp.2.1).1 z hz k hx hk⟩
  · refine .inr ⟨ch, rfl, Kp ch w' hX fun {bs'} hr => ⟨S.slots, S.defers, ?_⟩⟩
    obtain ⟨pre, post, q1, q2⟩ := hr.ex
    have hwd := S.wd
    rw [q1] at hwd
    rw [q2]
    exact hwd.swap ho ha trivial (fun _ h => h.elim) (fun _ h => h.elim) (fun _ _ _ _ => trivial)
end
end Go.Wk

/- Package term: what a reader leaves by; need. -/
namespace Go.Proofs.YtdakncgafdnjfaaGreat
open Go Go.Wk
set_option synthInstance.maxSize 100000
set_option synthInstance.maxHeartbeats 400000
set_option maxRecDepth 100000

instance : StT Tryz.prog 247 := ⟨⟨_, Tryz.underlying247⟩⟩
instance : IfT Tryz.prog 20 := ⟨by kernel_rfl⟩
abbrev wrongE (e : Int) : Value := .iface 247 (.agg ⟨[.int .i64 e]⟩)
abbrev tmI (h rd : Nat) (left : Int) : Wk.Item := Wk.box h 245 [.pointer (some ⟨rd, 0, none⟩), .int .i64 left]
abbrev rtI (h rd : Nat) (left : Int) (r : RS) : Wk.Item := both (tmI h rd left) (rdI rd r)
theorem needR_c (h rd : Nat) (left : Int) (r : RS) (b : Bool) (w0 : World) (f1 : Stable (fun _ => False) w0 (BoxF h 245 [.pointer (some ⟨rd, 0, none⟩), .int .i64 left])) (f2 : Stable (fun _ => False) w0 (BoxF rd 238 (cRS r))) :
    RetP Tryz.prog 234 [.pointer (some ⟨h, 0, none⟩), .bool b] w0 (fun _ => False) (fun _ _ => r.why = 0 ∧ b = true) (fun ch _ => ∃ e, ch = pch (wrongE e) ∧ ((r.why ≠ 0 ∧ e = 7) ∨ (r.why = 0 ∧ b = false ∧ e = 150))) := by
  refine enter Tryz.func234 rfl rfl (Wd.begin (fs := [BoxF h 245 [.pointer (some ⟨rd, 0, none⟩), .int .i64 left], BoxF rd 238 (cRS r)]) (by simp; exact ⟨f1, f2⟩)) (fun a S => ?_)
  simp only [Tryz.ntmps234, List.length_cons, List.length_nil, Nat.reduceAdd, Nat.reduceSub, List.replicate_succ, List.replicate_zero, List.cons_append, List.nil_append] at S
  refine c_block ?_
  refine c_seq ?_
  refine c_region ?_
  iterate 4 (refine sq S ?_; clear S; intro a S)
  refine sr S (errR_c rd r _ (S.mem.fact0 (BoxF rd 238 (cRS r)))) ?_; clear S; rintro _ a w rfl S
  iterate 2 (refine sq S ?_; clear S; intro a S)
  refine wl_nil ?_
  refine xtn ?_
  refine c_cond S (fun h0 => ?_) (fun h0 => ?_)
  · refine c_region ?_
    iterate 2 (refine sq S ?_; clear S; intro a S)
    refine sPan S (fun S => ?_)
    refine xbp ?_
    refine endX S ?_
    exact ⟨7, rfl, .inl ⟨by simpa using h0, rfl⟩⟩
  · refine c_seq ?_
    refine c_region ?_
    iterate 3 (refine sq S ?_; clear S; intro a S)
    refine wl_nil ?_
    refine xtn ?_
    refine c_cond S (fun h2 => ?_) (fun h2 => ?_)
    · refine c_region ?_
      iterate 2 (refine sq S ?_; clear S; intro a S)
      refine sPan S (fun S => ?_)
      refine xbp ?_
      refine endX S ?_
      exact ⟨150, rfl, .inr ⟨by simpa using h0, by simpa using h2, rfl⟩⟩
    · refine c_skip ?_
      refine xbn ?_
      refine endP (end0 S (fun _ => ?_))
      exact ⟨by simpa using h0, by simpa using h2⟩
/-- a reader behind another one. -/
structure SubR (r r' : RS) : Prop where
  gl : r.bs.length ≤ r.c → ∀ w, GlF r.p r.bs w → GlF r'.p r'.bs w
  len : r'.bs.length ≤ r.bs.length
  cap : r.bs.length ≤ r.c → r'.bs.length ≤ r'.c
theorem SubR.refl (r : RS) : SubR r r := ⟨fun _ _ h => h, Nat.le_refl _, id⟩
theorem SubR.trans {a b c : RS} (h : SubR a b) (k : SubR b c) : SubR a c := ⟨fun hc w hw => k.gl (h.cap hc) w (h.gl hc w hw), Nat.le_trans k.len h.len, fun hc => k.cap (h.cap hc)⟩
theorem SubR.take (r : RS) (k : Nat) : SubR r (takeR r k) := by
  refine ⟨fun hc w hw => ?_, takeR_len r k, fun hc => takeR_cap hc⟩
  unfold takeR; split
  · exact hw.drop (sz := 1) k hc
  · exact hw
theorem take1_ok {r : RS} (h : r.why = 0) (hk : (takeR r 1).why = 0) : ∃ c t, r.bs = c :: t ∧ numN (tookR r 1) 0 = c.toNat ∧ (takeR r 1).bs = t := by
  by_cases ho : okR r 1
  · have hl := ho.2
    match hb : r.bs with
    | [] => rw [hb] at hl; simp at hl
    | c :: t => exact ⟨c, t, rfl, by rw [tookR_yes ho, hb]; simp [numN], by rw [takeR_yes ho, hb]; rfl⟩
  · rw [takeR_no ho, if_pos h] at hk; cases hk
theorem take1_bad {r : RS} (h : r.why = 0) (hk : (takeR r 1).why ≠ 0) : r.bs = [] := by
  by_cases ho : okR r 1
  · rw [takeR_yes ho] at hk; exact absurd rfl hk
  · match hb : r.bs with
    | [] => rfl
    | c :: t => exact absurd ⟨h, by rw [hb]; simp⟩ ho
theorem take_ok {r : RS} {k : Nat} (h : r.why = 0) (hk : (takeR r k).why = 0) : k ≤ r.bs.length ∧ tookR r k = r.bs.take k ∧ (takeR r k).bs = r.bs.drop k := by
  by_cases ho : okR r k
  · exact ⟨ho.2, tookR_yes ho, by rw [takeR_yes ho]⟩
  · rw [takeR_no ho, if_pos h] at hk; cases hk
theorem take_bad {r : RS} {k : Nat} (h : r.why = 0) (hk : (takeR r k).why ≠ 0) : r.bs.length < k := by
  by_cases ho : okR r k
  · rw [takeR_yes ho] at hk; exact absurd rfl hk
  · rcases Nat.lt_or_ge r.bs.length k with h1 | h1
    · exact h1
    · exact absurd ⟨h, h1⟩ ho
def preD (ts : List Term) : DecE (List Term × Nat × List UInt8) → DecE (List Term × Nat × List UInt8)
  | .error e => .error e
  | .ok (us, left, bs) => .ok (ts ++ us, left, bs)
theorem preD_nil (x : DecE (List Term × Nat × List UInt8)) : preD [] x = x := by
  cases x <;> rfl
theorem kidsD_step (f : Nat → List UInt8 → DecE (Term × Nat × List UInt8)) (ts : List Term) (j left : Nat) (bs : List UInt8) (t : Term) (left' : Nat) (bs' : List UInt8) (h : f left bs = .ok (t, left', bs')) :
    preD ts (kidsD f (j + 1) left bs) = preD (ts ++ [t]) (kidsD f j left' bs') := by
  rw [kidsD, h]
  show preD ts (match kidsD f j left' bs' with | .error e => .error e | .ok (us, l, b) => .ok (t :: us, l, b)) = _
  cases kidsD f j left' bs' with
  | error e => rfl
  | ok x => obtain ⟨us, l, b⟩ := x; simp [preD]
theorem kidsD_bad (f : Nat → List UInt8 → DecE (Term × Nat × List UInt8)) (ts : List Term) (j left : Nat) (bs : List UInt8) (e : Int) (h : f left bs = .error e) : preD ts (kidsD f (j + 1) left bs) = .error e := by
  rw [kidsD, h]; rfl
end Go.Proofs.YtdakncgafdnjfaaGreat

/- What is read of a term, step by step. -/
namespace Go.Proofs.YtdakncgafdnjfaaGreat
open Go Go.Wk
set_option synthInstance.maxSize 100000
set_option synthInstance.maxHeartbeats 400000
set_option maxRecDepth 100000

variable {f : Nat → List UInt8 → DecE (Term × Nat × List UInt8)} {left : Nat} {k e : Int} {bs b2 b3 b4 : List UInt8} {s : List UInt8} {u n : Int}
theorem decB_text (h : textD k bs = .error e) : decB f left k bs = .error e := by rw [decB, h]
theorem decB_user (h : textD k bs = .ok (s, b2)) (h2 : userD k b2 = .error e) : decB f left k bs = .error e := by rw [decB, h]; simp only [h2]
theorem decB_num (h : textD k bs = .ok (s, b2)) (h2 : userD k b2 = .ok (u, b3)) (h3 : numD k b3 = .error e) : decB f left k bs = .error e := by rw [decB, h]; simp only [h2, h3]
theorem decB_kids (h : textD k bs = .ok (s, b2)) (h2 : userD k b2 = .ok (u, b3)) (h3 : numD k b3 = .ok (n, b4)) (h4 : kidsD f (kidsN k) (left - 1) b4 = .error e) : decB f left k bs = .error e := by rw [decB, h]; simp only [h2, h3, h4]
theorem decB_ok {ks : List Term} {l : Nat} {b5 : List UInt8} (h : textD k bs = .ok (s, b2)) (h2 : userD k b2 = .ok (u, b3)) (h3 : numD k b3 = .ok (n, b4)) (h4 : kidsD f (kidsN k) (left - 1) b4 = .ok (ks, l, b5)) : decB f left k bs = .ok (.mk k u n s ks, l, b5) := by rw [decB, h]; simp only [h2, h3, h4]
theorem textD_none (h : hasF (fieldsOf k) 1 = false) : textD k bs = .ok ([], bs) := by unfold textD; rw [if_neg (by rw [h]; simp)]
theorem textD_nil (h : hasF (fieldsOf k) 1 = true) : textD k [] = .error 7 := by rw [textD, if_pos h]
theorem textD_long (h : hasF (fieldsOf k) 1 = true) {c : UInt8} (hc : 64 < c.toNat) : textD k (c :: bs) = .error 150 := by rw [textD, if_pos h]; simp [hc]
theorem textD_short (h : hasF (fieldsOf k) 1 = true) {c : UInt8} (hc : ¬ 64 < c.toNat) (hl : bs.length < c.toNat) : textD k (c :: bs) = .error 7 := by rw [textD, if_pos h]; simp [hc, hl]
theorem textD_ok (h : hasF (fieldsOf k) 1 = true) {c : UInt8} (hc : ¬ 64 < c.toNat) (hl : ¬ bs.length < c.toNat) : textD k (c :: bs) = .ok (bs.take c.toNat, bs.drop c.toNat) := by rw [textD, if_pos h]; simp [hc, hl]
theorem userD_none (h : hasF (fieldsOf k) 2 = false) : userD k bs = .ok (0, bs) := by unfold userD; rw [if_neg (by rw [h]; simp)]
theorem userD_nil (h : hasF (fieldsOf k) 2 = true) : userD k [] = .error 7 := by rw [userD, if_pos h]
theorem userD_ok (h : hasF (fieldsOf k) 2 = true) {c : UInt8} (hc : 1 ≤ c.toNat ∧ c.toNat ≤ 6) : userD k (c :: bs) = .ok ((c.toNat : Int), bs) := by rw [userD, if_pos h]; simp [hc]
theorem userD_bad (h : hasF (fieldsOf k) 2 = true) {c : UInt8} (hc : ¬ (1 ≤ c.toNat ∧ c.toNat ≤ 6)) : userD k (c :: bs) = .error 150 := by rw [userD, if_pos h]; simp only [if_neg hc]
theorem numD_none (h : hasF (fieldsOf k) 4 = false) : numD k bs = .ok (0, bs) := by rw [numD, if_neg (by rw [h]; simp)]
theorem numD_bad (h : hasF (fieldsOf k) 4 = true) (hl : bs.length < 2) : numD k bs = .error 7 := by rw [numD, if_pos h, if_pos hl]
theorem numD_ok (h : hasF (fieldsOf k) 4 = true) (hl : ¬ bs.length < 2) : numD k bs = .ok ((numN (bs.take 2) 0 : Int), bs.drop 2) := by rw [numD, if_pos h, if_neg hl]
theorem kidsN_int (k : Int) : kidsF (fieldsOf k) = ((kidsN k : Nat) : Int) ∧ kidsN k ≤ 2 := by
  unfold kidsN kidsF
  split
  · exact ⟨rfl, by decide⟩
  · split
    · exact ⟨rfl, by decide⟩
    · exact ⟨rfl, by decide⟩
end Go.Proofs.YtdakncgafdnjfaaGreat

/- A term's bytes lead back to it. -/
namespace Go.Proofs.YtdakncgafdnjfaaGreat
open Go Go.Wk
set_option synthInstance.maxSize 100000
set_option synthInstance.maxHeartbeats 400000
set_option maxRecDepth 100000

theorem fields_kind {k : Int} (h : fieldsOf k ≠ 0) : 1 ≤ k ∧ k ≤ 8 := by
  unfold fieldsOf at h
  repeat (split at h; · omega)
  exact absurd rfl h
theorem u8_natD {n : Int} (h : 0 ≤ n ∧ n ≤ 255) : ((Wk.u8 n).toNat : Int) = n := by
  rw [← u8_wrap]
  unfold IntKind.wrap
  simp only [IntKind.bits, IntKind.signed, Bool.false_and]
  simp; omega
theorem u8_lenD {l : Nat} (h : l ≤ 255) : (Wk.u8 (l : Int)).toNat = l := by
  have := u8_natD (n := (l : Int)) (by omega)
  omega
theorem be2_numD {n : Int} (h : 0 ≤ n ∧ n ≤ 65535) : (numN (be 2 n) 0 : Int) = n := by
  have e : be 2 n = [Wk.u8 (n.fdiv (2 ^ 8)), Wk.u8 (n.fdiv (2 ^ 0))] := rfl
  have h1 : n.fdiv (2 ^ 8) = n / 256 := by rw [Int.fdiv_eq_ediv_of_nonneg _ (by decide)]; rfl
  have h0 : n.fdiv (2 ^ 0) = n := by rw [Int.fdiv_eq_ediv_of_nonneg _ (by decide)]; simp
  have h3 := u8_natD (n := n / 256) (by omega)
  have h4 : ((Wk.u8 n).toNat : Int) = n % 256 := by
    rw [← u8_wrap]
    unfold IntKind.wrap
    simp only [IntKind.bits, IntKind.signed, Bool.false_and]
    simp
  rw [e, h1, h0]
  simp only [numN, List.foldl_cons, List.foldl_nil]
  push_cast
  rw [h3, h4]
  omega
structure PlainOk (k u n : Int) (s : List UInt8) (m : Nat) : Prop where
  kind : fieldsOf k ≠ 0
  kids : (m : Int) = kidsF (fieldsOf k)
  short : s.length ≤ 64
  text : hasF (fieldsOf k) 1 = false → s = []
  user : hasF (fieldsOf k) 2 = true → 1 ≤ u ∧ u ≤ 6
  nouser : hasF (fieldsOf k) 2 = false → u = 0
  num : hasF (fieldsOf k) 4 = true → 0 ≤ n ∧ n ≤ 65535
  nonum : hasF (fieldsOf k) 4 = false → n = 0
theorem plain_ok {k u n : Int} {s : List UInt8} {m : Nat} (h : plainF k u n s m = true) : PlainOk k u n s m := by
  simp only [plainF, knownF, Bool.and_eq_true, Bool.or_eq_true, Bool.not_eq_true', decide_eq_true_eq, decide_eq_false_iff_not] at h
  obtain ⟨⟨⟨⟨⟨h1, h2⟩, h3⟩, h4⟩, h5⟩, h6⟩ := h
  refine ⟨h1, h2, by omega, fun e => ?_, fun e => ?_, fun e => ?_, fun e => ?_, fun e => ?_⟩
  · rcases h4 with h | h
    · rw [e] at h; cases h
    · exact h
  · rcases h5 with h | h
    · exact h.2
    · rw [e] at h; cases h.1
  · rcases h5 with h | h
    · rw [e] at h; cases h.1
    · exact h.2
  · rcases h6 with h | h
    · exact ⟨h.1.2, h.2⟩
    · rw [e] at h; cases h.1
  · rcases h6 with h | h
    · rw [e] at h; cases h.1.1
    · exact h.2
theorem text_back {k u n : Int} {s : List UInt8} {m : Nat} (h : PlainOk k u n s m) (X : List UInt8) : textD k (put1 k s ++ X) = .ok (s, X) := by
  cases hf : hasF (fieldsOf k) 1 with
  | false => rw [put1, hf, h.text hf]; exact textD_none hf
  | true =>
    have hs := h.short
    have hl := u8_lenD (l := s.length) (by omega)
    rw [put1, if_pos hf, List.cons_append, textD_ok hf (by rw [hl]; omega) (by rw [hl, List.length_append]; omega), hl, List.take_left, List.drop_left]
theorem user_back {k u n : Int} {s : List UInt8} {m : Nat} (h : PlainOk k u n s m) (X : List UInt8) : userD k (put2 k u ++ X) = .ok (u, X) := by
  cases hf : hasF (fieldsOf k) 2 with
  | false => rw [put2, hf, h.nouser hf]; exact userD_none hf
  | true =>
    have hu := h.user hf
    have hl := u8_natD (n := u) (by omega)
    rw [put2, if_pos hf, List.cons_append, List.nil_append, userD_ok hf (by omega), hl]
theorem num_back {k u n : Int} {s : List UInt8} {m : Nat} (h : PlainOk k u n s m) (X : List UInt8) : numD k (put4 k n ++ X) = .ok (n, X) := by
  cases hf : hasF (fieldsOf k) 4 with
  | false => rw [put4, hf, h.nonum hf]; exact numD_none hf
  | true =>
    have hn := h.num hf
    have hw : IntKind.u16.wrap n = n := by
      unfold IntKind.wrap
      simp only [IntKind.bits, IntKind.signed, Bool.false_and]
      simp; omega
    have hl : (be 2 n).length = 2 := by simp [be]
    rw [put4, if_pos hf, hw, numD_ok hf (by rw [List.length_append]; omega), List.take_left' hl, List.drop_left' hl, be2_numD hn]
mutual
theorem dec_back : ∀ (t : Term) (m : Nat) (left : Nat) (X : List UInt8), m ≤ 60 → (walkF t (61 - (m : Int)) (left : Int)).1 = true → decT m left (bytesF t ++ X) = .ok (t, (walkF t (61 - (m : Int)) (left : Int)).2.toNat, X)
  | .mk k u n s ks, m, left, X => by
    intro hm h
    rw [walkF] at h ⊢
    split at h
    · cases h
    · rename_i hc
      rw [if_neg hc]
      have hc' : 0 < left ∧ 0 < m ∧ plainF k u n s ks.length = true := by
        refine ⟨by omega, by omega, ?_⟩
        cases hp : plainF k u n s ks.length with
        | true => rfl
        | false => exact absurd (.inr (.inr hp)) hc
      obtain ⟨hl, hm0, hp⟩ := hc'
      have hok := plain_ok hp
      have hk := fields_kind hok.kind
      have hk8 := u8_natD (n := k) (by omega)
      rw [bytesF, headF]
      simp only [List.append_assoc, List.cons_append, List.nil_append]
      rw [decT_cons, hk8, if_neg (by have := hok.kind; omega)]
      have hkn : kidsN k = ks.length := by
        have h1 := (kidsN_int k).1
        have h2 := hok.kids
        omega
      rw [show (61 : Int) - (m : Int) + 1 = 61 - ((m - 1 : Nat) : Int) from by omega, show (left : Int) - 1 = ((left - 1 : Nat) : Int) from by omega] at h ⊢
      refine decB_ok (text_back hok _) (user_back hok _) (num_back hok _) ?_
      rw [hkn]
      exact decL_back ks (m - 1) (left - 1) X (by omega) h
theorem decL_back : ∀ (ts : List Term) (m : Nat) (left : Nat) (X : List UInt8), m ≤ 60 → (walkLF ts (61 - (m : Int)) (left : Int)).1 = true → kidsD (decT m) ts.length left (bytesLF ts ++ X) = .ok (ts, (walkLF ts (61 - (m : Int)) (left : Int)).2.toNat, X)
  | [], m, left, X => by
    intro _ _
    simp [kidsD, walkLF, bytesLF]
  | t :: ts, m, left, X => by
    intro hm h
    rw [walkLF] at h ⊢
    split at h
    · rename_i hc
      rw [if_pos hc]
      have h0 := walkF_ge t _ _ (by omega) hc
      have e : (walkF t (61 - (m : Int)) (left : Int)).2 = (((walkF t (61 - (m : Int)) (left : Int)).2.toNat : Nat) : Int) := by omega
      rw [e] at h
      have h1 := dec_back t m left (bytesLF ts ++ X) hm hc
      have h2 := decL_back ts m _ X hm h
      rw [bytesLF, List.append_assoc, List.length_cons, kidsD, h1]
      simp only [h2]
      rw [← e]
    · cases h
end
/-- a term that may be is read back. -/
theorem dec_name {t : Term} (h : checkF t = 0) : ∃ left, decT 60 1200 (nameF t) = .ok (t, left, []) := by
  have hs : sizeF t ≠ 0 := fun e => by rw [checkF, if_pos e] at h; cases h
  have hw : (walkF t 1 1200).1 = true := by
    cases hw : (walkF t 1 1200).1 with
    | true => rfl
    | false => rw [sizeF, hw] at hs; simp at hs
  have := dec_back t 60 1200 [] (Nat.le_refl _) hw
  rw [List.append_nil] at this
  rw [nameF, if_neg hs]
  exact ⟨_, this⟩
end Go.Proofs.YtdakncgafdnjfaaGreat

/- A batch out of bytes, in plain words; its bytes lead back to it, and less of them is too short. -/
namespace Go.Proofs.YtdakncgafdnjfaaGreat
open Go Go.Wk
set_option synthInstance.maxSize 100000
set_option synthInstance.maxHeartbeats 400000
set_option maxRecDepth 100000

abbrev RB := List UInt8 × Bool
def tkB (k : Nat) (x : RB) : List UInt8 × RB := if x.2 = false ∧ k ≤ x.1.length then (x.1.take k, (x.1.drop k, false)) else ([], (x.1, true))
def RS.ab (r : RS) : RB := (r.bs, !decide (r.why = 0))
theorem tk_ab (r : RS) (k : Nat) : tookR r k = (tkB k r.ab).1 ∧ (takeR r k).ab = (tkB k r.ab).2 := by
  by_cases h : okR r k
  · have h2 : r.ab.2 = false ∧ k ≤ r.ab.1.length := ⟨by simp [RS.ab, h.1], h.2⟩
    rw [tookR_yes h, takeR_yes h, tkB, if_pos h2]
    exact ⟨rfl, rfl⟩
  · have h2 : ¬ (r.ab.2 = false ∧ k ≤ r.ab.1.length) := fun h3 => h ⟨by simpa [RS.ab] using h3.1, h3.2⟩
    rw [tookR_no h, takeR_no h, tkB, if_neg h2]
    refine ⟨rfl, ?_⟩
    by_cases hw : r.why = 0
    · simp [RS.ab, hw]
    · simp [RS.ab, hw]
def termD (raw : List UInt8) : Term × Bool :=
  if raw = [] then (zeroT, true) else
  match decT 60 1200 raw with
  | .ok (t, _, rest) => (t, decide (rest = []))
  | .error _ => (zeroT, false)
def rowD (x : RB) : PRow × Bool × RB :=
  (⟨(tkB (numN (tkB 1 x).1 0) (tkB 1 x).2).1, (termD (tkB (numN (tkB 2 (tkB (numN (tkB 1 x).1 0) (tkB 1 x).2).2).1 0) (tkB 2 (tkB (numN (tkB 1 x).1 0) (tkB 1 x).2).2).2).1).1⟩,
    (termD (tkB (numN (tkB 2 (tkB (numN (tkB 1 x).1 0) (tkB 1 x).2).2).1 0) (tkB 2 (tkB (numN (tkB 1 x).1 0) (tkB 1 x).2).2).2).1).2,
    (tkB (numN (tkB 2 (tkB (numN (tkB 1 x).1 0) (tkB 1 x).2).2).1 0) (tkB 2 (tkB (numN (tkB 1 x).1 0) (tkB 1 x).2).2).2).2)
def rowsD : Nat → RB → List PRow × Bool × RB
  | 0, x => ([], true, x)
  | k + 1, x => ((rowD x).1 :: (rowsD k (rowD x).2.2).1, (rowD x).2.1 && (rowsD k (rowD x).2.2).2.1, (rowsD k (rowD x).2.2).2.2)
def allD (bs : List UInt8) : List PRow × Bool × RB := rowsD (numN (tkB 1 (bs, false)).1 0) (tkB 1 (bs, false)).2
def decV (bs : List UInt8) : List PRow × Int :=
  if (allD bs).2.2.2 = true then ([], 7) else
  if (allD bs).2.1 = false ∨ 0 < (allD bs).2.2.1.length ∨ 64 < (allD bs).1.length ∨ batchP (allD bs).1 = false then ([], 2) else ((allD bs).1, 0)
theorem tkB_bad (k : Nat) (l : List UInt8) : tkB k (l, true) = ([], (l, true)) := by rw [tkB, if_neg (by simp)]
theorem tkB_ok {k : Nat} {l X : List UInt8} (h : l.length = k) : tkB k (l ++ X, false) = (l, (X, false)) := by
  subst h
  rw [tkB, if_pos ⟨rfl, by rw [List.length_append]; omega⟩, List.take_left, List.drop_left]
theorem tkB_good {k : Nat} {x : RB} (h : (tkB k x).2.2 = false) : x.2 = false := by
  obtain ⟨l, b⟩ := x
  cases b with
  | false => rfl
  | true => rw [tkB_bad] at h; cases h
theorem tkB_ext {k : Nat} {l : List UInt8} (X : List UInt8) (h : (tkB k (l, false)).2.2 = false) : tkB k (l ++ X, false) = ((tkB k (l, false)).1, ((tkB k (l, false)).2.1 ++ X, false)) := by
  by_cases hk : k ≤ l.length
  · rw [tkB, if_pos ⟨rfl, by rw [List.length_append]; omega⟩, tkB, if_pos ⟨rfl, hk⟩, List.take_append_of_le_length hk, List.drop_append_of_le_length hk]
  · rw [tkB, if_neg (fun h => hk h.2)] at h; cases h
theorem tkB_pair {k : Nat} {x : RB} (h : (tkB k x).2.2 = false) : (tkB k x).2 = ((tkB k x).2.1, false) := Prod.ext rfl h
theorem rowD_good {x : RB} (h : (rowD x).2.2.2 = false) : x.2 = false := tkB_good (tkB_good (tkB_good (tkB_good h)))
theorem rowsD_good {k : Nat} {x : RB} (h : (rowsD k x).2.2.2 = false) : x.2 = false := by
  induction k generalizing x with
  | zero => exact h
  | succ k ih => exact rowD_good (ih h)
theorem rowD_ext {l : List UInt8} (X : List UInt8) (h : (rowD (l, false)).2.2.2 = false) : rowD (l ++ X, false) = ((rowD (l, false)).1, (rowD (l, false)).2.1, ((rowD (l, false)).2.2.1 ++ X, false)) := by
  unfold rowD at h ⊢
  obtain ⟨a, ha⟩ : ∃ a, a = tkB 1 (l, false) := ⟨_, rfl⟩
  rw [← ha] at h
  have g3 := tkB_good h
  have g2 := tkB_good g3
  have g1 := tkB_good g2
  have e1 := tkB_ext (k := 1) (l := l) X (by rw [← ha]; exact g1)
  rw [← ha] at e1
  rw [e1, ← ha]
  obtain ⟨a1, a2, a3⟩ := a
  obtain rfl : a3 = false := g1
  obtain ⟨b, hb⟩ : ∃ b, b = tkB (numN a1 0) (a2, false) := ⟨_, rfl⟩
  simp only at h g2 g3 ⊢
  rw [← hb] at h g2 g3
  have e2 := tkB_ext (k := numN a1 0) (l := a2) X (by rw [← hb]; exact g2)
  rw [← hb] at e2
  rw [e2, ← hb]
  obtain ⟨b1, b2, b3⟩ := b
  obtain rfl : b3 = false := g2
  obtain ⟨c, hc⟩ : ∃ c, c = tkB 2 (b2, false) := ⟨_, rfl⟩
  simp only at h g3 ⊢
  rw [← hc] at h g3
  have e3 := tkB_ext (k := 2) (l := b2) X (by rw [← hc]; exact g3)
  rw [← hc] at e3
  rw [e3, ← hc]
  obtain ⟨c1, c2, c3⟩ := c
  obtain rfl : c3 = false := g3
  simp only at h ⊢
  have e4 := tkB_ext (k := numN c1 0) (l := c2) X h
  rw [e4]
theorem rowsD_ext {k : Nat} {l : List UInt8} (X : List UInt8) (h : (rowsD k (l, false)).2.2.2 = false) : rowsD k (l ++ X, false) = ((rowsD k (l, false)).1, (rowsD k (l, false)).2.1, ((rowsD k (l, false)).2.2.1 ++ X, false)) := by
  induction k generalizing l with
  | zero => rfl
  | succ k ih =>
    rw [rowsD] at h ⊢
    have g := rowsD_good h
    have e := rowD_ext X g
    have hp : (rowD (l, false)).2.2 = ((rowD (l, false)).2.2.1, false) := Prod.ext rfl g
    have h' : (rowsD k ((rowD (l, false)).2.2.1, false)).2.2.2 = false := by rw [← hp]; exact h
    rw [e]
    simp only
    rw [ih h', rowsD, ← hp]
theorem rowB_back {r : PRow} (h : rightP r = true) (X : List UInt8) : rowD (rowB r ++ X, false) = (r, true, (X, false)) := by
  have h1 := rightP_name h
  have h2 := rightP_bytes h
  have hn : (Wk.u8 (r.name.length : Int)).toNat = r.name.length := u8_lenD (by omega)
  have hb : numN (be 2 ((nameF r.term).length : Int)) 0 = (nameF r.term).length := by
    have := be2_numD (n := ((nameF r.term).length : Int)) (by omega)
    omega
  have ht : termD (nameF r.term) = (r.term, true) := by
    by_cases he : nameF r.term = []
    · rw [termD, if_pos he]
      simp only [rightP, fitP, Bool.and_eq_true, Bool.or_eq_true, decide_eq_true_eq] at h
      rcases h.2.2 with hg | hg
      · rw [(sameF_iff _ _).1 hg]
      · obtain ⟨left, hd⟩ := dec_name hg.1
        rw [he, decT_nil] at hd; cases hd
    · rw [termD, if_neg he]
      simp only [rightP, fitP, Bool.and_eq_true, Bool.or_eq_true, decide_eq_true_eq] at h
      rcases h.2.2 with hg | hg
      · exact absurd (by rw [(sameF_iff _ _).1 hg, nameF_zero]) he
      · obtain ⟨left, hd⟩ := dec_name hg.1
        rw [hd]; rfl
  have e1 : tkB 1 (rowB r ++ X, false) = ([Wk.u8 (r.name.length : Int)], (r.name ++ (be 2 ((nameF r.term).length : Int) ++ (nameF r.term ++ X)), false)) := by
    rw [rowB, List.append_assoc, List.append_assoc, List.append_assoc]
    exact tkB_ok rfl
  have e2 : tkB (numN [Wk.u8 (r.name.length : Int)] 0) (r.name ++ (be 2 ((nameF r.term).length : Int) ++ (nameF r.term ++ X)), false) = (r.name, (be 2 ((nameF r.term).length : Int) ++ (nameF r.term ++ X), false)) :=
    tkB_ok (by simp [numN, hn])
  have e3 : tkB 2 (be 2 ((nameF r.term).length : Int) ++ (nameF r.term ++ X), false) = (be 2 ((nameF r.term).length : Int), (nameF r.term ++ X, false)) := tkB_ok (by simp [be])
  have e4 : tkB (numN (be 2 ((nameF r.term).length : Int)) 0) (nameF r.term ++ X, false) = (nameF r.term, (X, false)) := tkB_ok hb.symm
  rw [rowD, e1]; simp only
  rw [e2]; simp only
  rw [e3]; simp only
  rw [e4, ht]
theorem rowsB_back : ∀ (l : List PRow) (X : List UInt8), (∀ r ∈ l, rightP r = true) → rowsD l.length (rowsB l ++ X, false) = (l, true, (X, false))
  | [], X, _ => rfl
  | r :: l, X, h => by
    rw [List.length_cons, rowsD, rowsB, List.append_assoc, rowB_back (h r (.head _))]
    simp only
    rw [rowsB_back l X fun x hx => h x (.tail _ hx)]
    rfl
theorem allD_enc {l : List PRow} (h : batchP l = true) : allD (encP l) = (l, true, ([], false)) := by
  have h2 := h
  rw [batchP, Bool.and_eq_true, decide_eq_true_eq] at h2
  have e1 : tkB 1 (encP l, false) = ([Wk.u8 (l.length : Int)], (rowsB l, false)) := by
    have := tkB_ok (k := 1) (l := [Wk.u8 (l.length : Int)]) (X := rowsB l) rfl
    exact this
  have e2 : numN [Wk.u8 (l.length : Int)] 0 = l.length := by
    have := u8_lenD (l := l.length) (by omega)
    simp [numN, this]
  have := rowsB_back l [] (goodP_all _ _ h2.1)
  rw [List.append_nil] at this
  rw [allD, e1]; simp only
  rw [e2, this]
theorem decV_enc {l : List PRow} (h : batchP l = true) : decV (encP l) = (l, 0) := by
  have h2 := h
  rw [batchP, Bool.and_eq_true, decide_eq_true_eq] at h2
  rw [decV, allD_enc h, if_neg (by simp), if_neg]
  rintro (h3 | h3 | h3 | h3)
  · cases h3
  · exact absurd h3 (by simp)
  · exact absurd h3 (by have := h2.2; simp only; omega)
  · rw [h] at h3; cases h3
theorem decV_cut {l : List PRow} (h : batchP l = true) {n : Nat} (hn : n < (encP l).length) : (decV ((encP l).take n)).2 = 7 := by
  obtain ⟨A, hA⟩ : ∃ A, A = (encP l).take n := ⟨_, rfl⟩
  obtain ⟨X, hX⟩ : ∃ X, X = (encP l).drop n := ⟨_, rfl⟩
  have hAX : A ++ X = encP l := by rw [hA, hX, List.take_append_drop]
  have hXl : 0 < X.length := by rw [hX, List.length_drop]; omega
  rw [← hA]
  by_cases hb : (allD A).2.2.2 = true
  · rw [decV, if_pos hb]
  · have hb : (allD A).2.2.2 = false := by simpa using hb
    have hfull := allD_enc h
    rw [← hAX] at hfull
    have g1 : (tkB 1 (A, false)).2.2 = false := rowsD_good hb
    have e1 := tkB_ext X g1
    have hp := tkB_pair g1
    have hb' : (rowsD (numN (tkB 1 (A, false)).1 0) ((tkB 1 (A, false)).2.1, false)).2.2.2 = false := by rw [← hp]; exact hb
    rw [allD, e1] at hfull
    simp only at hfull
    rw [rowsD_ext X hb'] at hfull
    have := congrArg (fun x : List PRow × Bool × RB => x.2.2.1) hfull
    simp only at this
    have h3 := congrArg List.length this
    simp at h3
    rw [h3.2] at hXl
    simp at hXl
end Go.Proofs.YtdakncgafdnjfaaGreat

/- Package term: a term out of a reader. -/
namespace Go.Proofs.YtdakncgafdnjfaaGreat
open Go Go.Wk
set_option synthInstance.maxSize 100000
set_option synthInstance.maxHeartbeats 400000
set_option maxRecDepth 100000

theorem own_capT {w : World} {e : TypeId} {sz : Nat} {p : Option Addr} {n c : Nat} {xs : List Value} (h : w.ownsRow 0 e sz (.slice p n c) n xs) : c ≤ maxLen := by
  rcases h.2 with ⟨hv, h0⟩ | ⟨g, cap, cur, hv, hb, hg, hnc, hcm, hcs, ht⟩
  · cases hv; exact Nat.zero_le _
  · cases hv; exact hcm
def DecR (Mr : Nat → Prop) (h rd m left : Nat) (r : RS) (v : Value) (w : World) : Prop := ∃ (z : LTerm) (left' : Nat) (r' : RS), v = vL z ∧ decT m left r.bs = .ok (z.t, left', r'.bs) ∧ left' ≤ left ∧ r'.why = 0 ∧ SubR r r' ∧
  (rtI h rd (left' : Nat) r').holds w ∧ Stable (fun k => (rtI h rd (left' : Nat) r').foot k ∨ Mr k) w (LtF z)
def DecX (m left : Nat) (r : RS) (ch : List PanicEntry) : Prop := ∃ e, ch = pch (wrongE e) ∧ decT m left r.bs = .error e
theorem rterm_c0 (N : Nat) : ∀ (m h rd left : Nat) (r : RS) (Mr : Nat → Prop) (w0 : World), m < N → m ≤ 60 → left ≤ 1200 → r.why = 0 → r.bs.length ≤ r.c → r.bs.length ≤ 10000000 → (∀ k, Mr k → k < w0.heap.size ∧ ¬ (rtI h rd (left : Nat) r).foot k) → (rtI h rd (left : Nat) r).holds w0 → Stable (fun k => (rtI h rd (left : Nat) r).foot k ∨ Mr k) w0 (GlF r.p r.bs) →
    RetP Tryz.prog 169 [.pointer (some ⟨h, 0, none⟩), .int .i64 (61 - (m : Nat) : Int)] w0 (rtI h rd (left : Nat) r).foot (fun v w' => DecR Mr h rd m left r v w') (fun ch _ => DecX m left r ch) := by
  induction N with
  | zero => intro m _ _ _ _ _ _ h; exact absurd h (Nat.not_lt_zero _)
  | succ N ih =>
  intro m h rd left r Mr w0 hmN hm hleft hw hc hl hMr hd hf
  refine enter Tryz.func169 rfl rfl (Wd.it2LentM (x := tmI h rd (left : Nat)) (y := rdI rd r) (Mr := Mr) (fs := [GlF r.p r.bs]) hd rfl rfl hMr (by simpa using hf)) (fun a S => ?_)
  simp only [Tryz.ntmps169, List.length_cons, List.length_nil, Nat.reduceAdd, Nat.reduceSub, List.replicate_succ, List.replicate_zero, List.cons_append, List.nil_append] at S
  refine c_seq ?_
  refine c_region ?_
  refine sa S ?_; clear S; intro b4 a w S
  refine wl_nil ?_
  refine xtn ?_
  refine c_seq ?_
  refine c_region ?_
  iterate 4 (refine sq S ?_; clear S; intro a S)
  refine sit (rdI rd r) S (u8R_c rd r _ hc hl (S.it (rdI rd r)) (S.lend (rdI rd r) (S.mem.fact (GlF r.p r.bs)))) rfl ?_; clear S; rintro _ a w ⟨rfl, hh⟩ hS
  have S := hS (rdI rd (takeR r 1)) hh (fun k h => .inl h)
  clear hS
  obtain ⟨kd, hkd⟩ : ∃ kd, kd = numN (tookR r 1) 0 := ⟨_, rfl⟩
  rw [← hkd] at S
  have hkl : kd < 256 := by rw [hkd]; exact (took_num r 1 (by decide)).2
  refine sq S ?_; clear S; intro a S
  rw [w64 (kd : Int) (by omega) (by omega)] at S
  refine sq S ?_; clear S; intro a S
  refine sa S ?_; clear S; intro b5 a w S
  refine sw S ?_; clear S; intro a w S
  refine wl_nil ?_
  refine xtn ?_
  refine c_seq ?_
  refine c_region ?_
  iterate 2 (refine sq S ?_; clear S; intro a S)
  refine sc S ?_; clear S; intro a w S
  refine sq S ?_; clear S; intro a S
  refine wl_nil ?_
  refine xtn ?_
  refine c_seq ?_
  refine c_region ?_
  iterate 5 (refine sq S ?_; clear S; intro a S)
  rw [w64 ((left : Int) - 1) (by omega) (by omega)] at S
  replace S := S.add (Φ := GlF (takeR r 1).p (takeR r 1).bs) (takeR_gl hc (S.mem.fact (GlF r.p r.bs)))
  have hsub1 : SubR r (takeR r 1) := SubR.take r 1
  iterate 2 (refine sq S ?_; clear S; intro a S)
  refine sw S ?_; clear S; intro a w S
  refine wl_nil ?_
  refine xtn ?_
  refine c_seq ?_
  refine c_region ?_
  iterate 4 (refine sq S ?_; clear S; intro a S)
  iterate 5 (refine gQ S ?_; clear S; intro a S)
  iterate 2 (refine sq S ?_; clear S; intro a S)
  iterate 2 (refine gQ S ?_; clear S; intro a S)
  refine sq S ?_; clear S; intro a S
  refine srP S (needR_c h rd ((left : Int) - 1) (takeR r 1) _ w (BoxF.stable (S.box h) (fun h => h)) (BoxF.stable (S.box rd) (fun h => h))) (fun ch w' hx S => ?_) ?_
  · repeat (first | refine xtp ?_ | refine xbp ?_)
    refine endX S ?_
    obtain ⟨e, rfl, (⟨h1, rfl⟩ | ⟨h1, h2, rfl⟩)⟩ := hx
    · exact ⟨7, rfl, by rw [take1_bad hw h1, decT_nil]⟩
    · obtain ⟨c, t, hbs, hnum, hr1⟩ := take1_ok hw h1
      refine ⟨150, rfl, ?_⟩
      rw [hbs, decT_cons, if_pos]
      rw [hkd, hnum] at h2
      simp only [Bool.and_eq_false_iff, Bool.not_eq_false', decide_eq_true_eq, decide_eq_false_iff_not] at h2
      omega
  clear S; rintro _ a w ⟨hw1, hb⟩ S
  obtain ⟨c, t, hbs, hnum, hr1⟩ := take1_ok hw hw1
  rw [← hkd] at hnum
  simp only [Bool.and_eq_true, Bool.not_eq_true', decide_eq_true_eq, decide_eq_false_iff_not] at hb
  have hdec : decT m left r.bs = decB (decT (m - 1)) left (kd : Int) t := by
    rw [hbs, decT_cons, if_neg (by rw [← hnum]; omega), ← hnum]
  obtain ⟨r1, hr1e⟩ : ∃ r1, r1 = takeR r 1 := ⟨_, rfl⟩
  rw [← hr1e] at S hw1 hr1 hsub1
  have hc1 := hsub1.cap hc
  have hl1 := hsub1.len
  refine wl_nil ?_
  refine xtn ?_
  refine c_mrge2 S (fun (r2 : RS) (s : List UInt8) uu => [(7, uu 7), (32, uu 40), (0, uu 41), (0, uu 42), (0, uu 43), (0, uu 44), (0, uu 45), (0, uu 46), (0, uu 47), (0, uu 48), (0, uu 49), (0, uu 50), (0, uu 51), (0, uu 52), (0, uu 53), (0, uu 54), (0, uu 55), (0, uu 56), (0, uu 57), (0, uu 58), (0, uu 59), (0, uu 60), (0, uu 61)]) (fun (r2 : RS) (s : List UInt8) => [Wk.box b5 43 [.int .i64 kd, .int .i64 0, .int .i64 0, str s, .slice none 0 0], tmI h rd ((left : Int) - 1), rdI rd r2, Wk.box b4 43 [.int .i64 0, .int .i64 0, .int .i64 0, .string ⟨#[]⟩, .slice none 0 0], ext Mr]) (fun (r2 : RS) (s : List UInt8) => [GlF r2.p r2.bs]) (fun (r2 : RS) (s : List UInt8) => textD (kd : Int) t = .ok (s, r2.bs) ∧ r2.why = 0 ∧ SubR r1 r2) ?_ ?_
  · refine c_seq ?_
    refine c_region ?_
    refine sq S ?_; clear S; intro a S
    refine sc S ?_; clear S; intro a w S
    refine wl_nil ?_
    refine xtn ?_
    refine c_cond S (fun h5 => ?_) (fun h5 => ?_)
    · refine c_seq ?_
      refine c_region ?_
      iterate 4 (refine sq S ?_; clear S; intro a S)
      refine sit (rdI rd r1) S (u8R_c rd r1 _ hc1 (by omega) (S.it (rdI rd r1)) (S.lend (rdI rd r1) (S.mem.fact (GlF r1.p r1.bs)))) rfl ?_; clear S; rintro _ a w ⟨rfl, hh⟩ hS
      have S := hS (rdI rd (takeR r1 1)) hh (fun k h => .inl h)
      clear hS
      obtain ⟨nn, hnn⟩ : ∃ nn, nn = numN (tookR r1 1) 0 := ⟨_, rfl⟩
      rw [← hnn] at S
      have hnl : nn < 256 := by rw [hnn]; exact (took_num r1 1 (by decide)).2
      replace S := S.add (Φ := GlF (takeR r1 1).p (takeR r1 1).bs) (takeR_gl hc1 (S.mem.fact (GlF r1.p r1.bs)))
      refine sq S ?_; clear S; intro a S
      rw [w64 (nn : Int) (by omega) (by omega)] at S
      refine sq S ?_; clear S; intro a S
      refine wl_nil ?_
      refine xtn ?_
      refine c_seq ?_
      refine c_region ?_
      iterate 3 (refine sq S ?_; clear S; intro a S)
      refine srP S (needR_c h rd ((left : Int) - 1) (takeR r1 1) _ w (BoxF.stable (S.box h) (fun h => h)) (BoxF.stable (S.box rd) (fun h => h))) (fun ch w' hx S => ?_) ?_
      · repeat (first | refine xtp ?_ | refine xbp ?_)
        refine endX S ?_
        obtain ⟨e, rfl, (⟨h1, rfl⟩ | ⟨h1, h2, rfl⟩)⟩ := hx
        · refine ⟨7, rfl, ?_⟩
          rw [hdec, ← hr1, take1_bad hw1 h1]; exact decB_text (textD_nil h5)
        · obtain ⟨c2, t2, hb2, hn2, -⟩ := take1_ok hw1 h1
          refine ⟨150, rfl, ?_⟩
          rw [hdec, ← hr1, hb2]
          refine decB_text (textD_long h5 ?_)
          have := of_decide_eq_false h2
          omega
      clear S; rintro _ a w ⟨hw1b, hb1⟩ S
      obtain ⟨c2, t2, hb2, hn2, hr2⟩ := take1_ok hw1 hw1b
      rw [← hnn] at hn2
      have hb1 := of_decide_eq_true hb1
      obtain ⟨r1b, hr1b⟩ : ∃ r1b, r1b = takeR r1 1 := ⟨_, rfl⟩
      have hsub1b : SubR r1 r1b := hr1b ▸ SubR.take r1 1
      rw [← hr1b] at S hw1b hr2
      have hc1b := hsub1b.cap hc1
      have hl1b := hsub1b.len
      refine wl_nil ?_
      refine xtn ?_
      refine c_seq ?_
      refine c_region ?_
      iterate 5 (refine sq S ?_; clear S; intro a S)
      refine sit (rdI rd r1b) S (rawR_c rd r1b nn _ (by omega) hc1b (by omega) (S.it (rdI rd r1b)) (S.lend (rdI rd r1b) (S.mem.fact (GlF r1b.p r1b.bs)))) rfl ?_; clear S; rintro _ a w ⟨p8, c8, rfl, hh, hf8⟩ hS
      have S := hS (both (Wk.row 5 1 p8 (tookR r1b nn).length c8 (encL (tookR r1b nn))) (rdI rd (takeR r1b nn))) hh hf8
      clear hS
      replace S := S.front (both (Wk.row 5 1 p8 (tookR r1b nn).length c8 (encL (tookR r1b nn))) (rdI rd (takeR r1b nn)))
      replace S := S.ofBoth
      replace S := S.add (Φ := GlF (takeR r1b nn).p (takeR r1b nn).bs) (takeR_gl hc1b (S.mem.fact (GlF r1b.p r1b.bs)))
      iterate 2 (refine sq S ?_; clear S; intro a S)
      refine sw S ?_; clear S; intro a w S
      refine wl_nil ?_
      refine xtn ?_
      refine c_region ?_
      refine sq S ?_; clear S; intro a S
      refine srP S (needR_c h rd ((left : Int) - 1) (takeR r1b nn) _ w (BoxF.stable (S.box h) (fun h => h)) (BoxF.stable (S.box rd) (fun h => h))) (fun ch w' hx S => ?_) ?_
      · repeat (first | refine xtp ?_ | refine xbp ?_)
        refine endX S ?_
        obtain ⟨e, rfl, (⟨h1, rfl⟩ | ⟨h1, h2, rfl⟩)⟩ := hx
        · refine ⟨7, rfl, ?_⟩
          have hsh := take_bad hw1b h1
          rw [hdec, ← hr1, hb2]
          refine decB_text (textD_short h5 (by omega) ?_)
          rw [← hr2, ← hn2]; exact hsh
        · cases h2
      clear S; rintro _ a w ⟨hw1c, -⟩ S
      obtain ⟨q1, q2, q3⟩ := take_ok hw1b hw1c
      refine wl_nil ?_
      refine xtn ?_
      replace S := ((((S.front (ext Mr)).front (Wk.box b4 43 [.int .i64 0, .int .i64 0, .int .i64 0, .string ⟨#[]⟩, .slice none 0 0])).front (rdI rd (takeR r1b nn))).front (tmI h rd ((left : Int) - 1))).front (Wk.box b5 43 [.int .i64 kd, .int .i64 0, .int .i64 0, str (tookR r1b nn), .slice none 0 0])
      refine ⟨takeR r1b nn, tookR r1b nn, S.uu, ⟨?_, hw1c, hsub1b.trans (SubR.take r1b nn)⟩, S.sub _ _⟩
      rw [← hr1, hb2, textD_ok h5 (by omega) (by rw [← hr2, ← hn2]; omega), q2, q3, ← hr2, ← hn2]
    · refine c_skip ?_
      refine xtn ?_
      rw [show (Value.string ⟨#[]⟩) = str [] from rfl] at S
      replace S := ((((S.front (ext Mr)).front (Wk.box b4 43 [.int .i64 0, .int .i64 0, .int .i64 0, str [], .slice none 0 0])).front (rdI rd r1)).front (tmI h rd ((left : Int) - 1))).front (Wk.box b5 43 [.int .i64 kd, .int .i64 0, .int .i64 0, str [], .slice none 0 0])
      exact ⟨r1, [], S.uu, ⟨by rw [← hr1]; exact textD_none h5, hw1, SubR.refl r1⟩, S.sub _ _⟩
  · clear S; rintro r2 s uu a w ⟨htx, hw2, hsub2⟩ S
    have hc2 := hsub2.cap hc1
    have hl2 := hsub2.len
    refine c_mrge2 S (fun (r3 : RS) (u : Int) uu => [(62, uu 62), (0, uu 63), (0, uu 64), (0, uu 65), (0, uu 66), (0, uu 67), (0, uu 68), (0, uu 69), (0, uu 70), (0, uu 71), (0, uu 72), (0, uu 73), (0, uu 74), (0, uu 75)]) (fun (r3 : RS) (u : Int) => [Wk.box b5 43 [.int .i64 kd, .int .i64 u, .int .i64 0, str s, .slice none 0 0], tmI h rd ((left : Int) - 1), rdI rd r3, Wk.box b4 43 [.int .i64 0, .int .i64 0, .int .i64 0, .string ⟨#[]⟩, .slice none 0 0], ext Mr]) (fun (r3 : RS) (u : Int) => [GlF r3.p r3.bs]) (fun (r3 : RS) (u : Int) => userD (kd : Int) r2.bs = .ok (u, r3.bs) ∧ r3.why = 0 ∧ SubR r2 r3) ?_ ?_
    · refine c_seq ?_
      refine c_region ?_
      refine sq S ?_; clear S; intro a S
      refine sc S ?_; clear S; intro a w S
      refine wl_nil ?_
      refine xtn ?_
      refine c_cond S (fun h10 => ?_) (fun h10 => ?_)
      · refine c_seq ?_
        refine c_region ?_
        iterate 4 (refine sq S ?_; clear S; intro a S)
        refine sit (rdI rd r2) S (u8R_c rd r2 _ hc2 (by omega) (S.it (rdI rd r2)) (S.lend (rdI rd r2) (S.mem.fact (GlF r2.p r2.bs)))) rfl ?_; clear S; rintro _ a w ⟨rfl, hh⟩ hS
        have S := hS (rdI rd (takeR r2 1)) hh (fun k h => .inl h)
        clear hS
        obtain ⟨uu', huu⟩ : ∃ uu', uu' = numN (tookR r2 1) 0 := ⟨_, rfl⟩
        rw [← huu] at S
        have hul : uu' < 256 := by rw [huu]; exact (took_num r2 1 (by decide)).2
        replace S := S.add (Φ := GlF (takeR r2 1).p (takeR r2 1).bs) (takeR_gl hc2 (S.mem.fact (GlF r2.p r2.bs)))
        refine sq S ?_; clear S; intro a S
        rw [w64 (uu' : Int) (by omega) (by omega)] at S
        refine sq S ?_; clear S; intro a S
        refine sw S ?_; clear S; intro a w S
        refine wl_nil ?_
        refine xtn ?_
        refine c_region ?_
        iterate 3 (refine sq S ?_; clear S; intro a S)
        refine sc S ?_; clear S; intro a w S
        refine srP S (needR_c h rd ((left : Int) - 1) (takeR r2 1) _ w (BoxF.stable (S.box h) (fun h => h)) (BoxF.stable (S.box rd) (fun h => h))) (fun ch w' hx S => ?_) ?_
        · repeat (first | refine xtp ?_ | refine xbp ?_)
          refine endX S ?_
          obtain ⟨e, rfl, (⟨h1, rfl⟩ | ⟨h1, h2, rfl⟩)⟩ := hx
          · refine ⟨7, rfl, ?_⟩
            rw [hdec]; refine decB_user htx ?_
            rw [take1_bad hw2 h1]; exact userD_nil h10
          · obtain ⟨c3, t3, hb3, hn3, -⟩ := take1_ok hw2 h1
            refine ⟨150, rfl, ?_⟩
            rw [hdec]; refine decB_user htx ?_
            rw [hb3]
            refine userD_bad h10 ?_
            simp only [knownF, Bool.and_eq_false_iff, decide_eq_false_iff_not] at h2
            omega
        clear S; rintro _ a w ⟨hw2b, hb3⟩ S
        obtain ⟨c3, t3, hbb3, hn3, hr3⟩ := take1_ok hw2 hw2b
        rw [← huu] at hn3
        simp only [knownF, Bool.and_eq_true, decide_eq_true_eq] at hb3
        refine wl_nil ?_
        refine xtn ?_
        replace S := ((((S.front (ext Mr)).front (Wk.box b4 43 [.int .i64 0, .int .i64 0, .int .i64 0, .string ⟨#[]⟩, .slice none 0 0])).front (rdI rd (takeR r2 1))).front (tmI h rd ((left : Int) - 1))).front (Wk.box b5 43 [.int .i64 kd, .int .i64 (uu' : Int), .int .i64 0, str s, .slice none 0 0])
        refine ⟨takeR r2 1, (uu' : Int), S.uu, ⟨?_, hw2b, SubR.take r2 1⟩, S.sub _ _⟩
        rw [hbb3, userD_ok h10 (by omega), hr3, hn3]
      · refine c_skip ?_
        refine xtn ?_
        exact ⟨r2, 0, S.uu, ⟨userD_none h10, hw2, SubR.refl r2⟩, S.sub _ _⟩
    · clear S; rintro r3 u uu a w ⟨hus, hw3, hsub3⟩ S
      have hc3 := hsub3.cap hc2
      have hl3 := hsub3.len
      refine c_mrge2 S (fun (r4 : RS) (n : Int) uu => [(76, uu 76), (0, uu 77), (0, uu 78), (0, uu 79), (0, uu 80), (0, uu 81), (0, uu 82), (0, uu 83), (0, uu 84), (0, uu 85), (0, uu 86)]) (fun (r4 : RS) (n : Int) => [Wk.box b5 43 [.int .i64 kd, .int .i64 u, .int .i64 n, str s, .slice none 0 0], tmI h rd ((left : Int) - 1), rdI rd r4, Wk.box b4 43 [.int .i64 0, .int .i64 0, .int .i64 0, .string ⟨#[]⟩, .slice none 0 0], ext Mr]) (fun (r4 : RS) (n : Int) => [GlF r4.p r4.bs]) (fun (r4 : RS) (n : Int) => numD (kd : Int) r3.bs = .ok (n, r4.bs) ∧ r4.why = 0 ∧ SubR r3 r4) ?_ ?_
      · refine c_seq ?_
        refine c_region ?_
        refine sq S ?_; clear S; intro a S
        refine sc S ?_; clear S; intro a w S
        refine wl_nil ?_
        refine xtn ?_
        refine c_cond S (fun h13 => ?_) (fun h13 => ?_)
        · refine c_seq ?_
          refine c_region ?_
          iterate 4 (refine sq S ?_; clear S; intro a S)
          refine sit (rdI rd r3) S (u16R_c rd r3 _ hc3 (by omega) (S.it (rdI rd r3)) (S.lend (rdI rd r3) (S.mem.fact (GlF r3.p r3.bs)))) rfl ?_; clear S; rintro _ a w ⟨rfl, hh⟩ hS
          have S := hS (rdI rd (takeR r3 2)) hh (fun k h => .inl h)
          clear hS
          obtain ⟨n2, hn2⟩ : ∃ n2, n2 = numN (tookR r3 2) 0 := ⟨_, rfl⟩
          rw [← hn2] at S
          have hn2l : n2 < 65536 := by rw [hn2]; exact (took_num r3 2 (by decide)).2
          replace S := S.add (Φ := GlF (takeR r3 2).p (takeR r3 2).bs) (takeR_gl hc3 (S.mem.fact (GlF r3.p r3.bs)))
          refine sq S ?_; clear S; intro a S
          rw [w64 (n2 : Int) (by omega) (by omega)] at S
          refine sq S ?_; clear S; intro a S
          refine sw S ?_; clear S; intro a w S
          refine wl_nil ?_
          refine xtn ?_
          refine c_region ?_
          refine sq S ?_; clear S; intro a S
          refine srP S (needR_c h rd ((left : Int) - 1) (takeR r3 2) _ w (BoxF.stable (S.box h) (fun h => h)) (BoxF.stable (S.box rd) (fun h => h))) (fun ch w' hx S => ?_) ?_
          · repeat (first | refine xtp ?_ | refine xbp ?_)
            refine endX S ?_
            obtain ⟨e, rfl, (⟨h1, rfl⟩ | ⟨h1, h2, rfl⟩)⟩ := hx
            · refine ⟨7, rfl, ?_⟩
              rw [hdec]; refine decB_num htx hus ?_
              exact numD_bad h13 (take_bad hw3 h1)
            · cases h2
          clear S; rintro _ a w ⟨hw3b, -⟩ S
          obtain ⟨q1, q2, q3⟩ := take_ok hw3 hw3b
          refine wl_nil ?_
          refine xtn ?_
          replace S := ((((S.front (ext Mr)).front (Wk.box b4 43 [.int .i64 0, .int .i64 0, .int .i64 0, .string ⟨#[]⟩, .slice none 0 0])).front (rdI rd (takeR r3 2))).front (tmI h rd ((left : Int) - 1))).front (Wk.box b5 43 [.int .i64 kd, .int .i64 u, .int .i64 (n2 : Int), str s, .slice none 0 0])
          refine ⟨takeR r3 2, (n2 : Int), S.uu, ⟨?_, hw3b, SubR.take r3 2⟩, S.sub _ _⟩
          rw [numD_ok h13 (by omega), q3, hn2, q2]
        · refine c_skip ?_
          refine xtn ?_
          exact ⟨r3, 0, S.uu, ⟨numD_none h13, hw3, SubR.refl r3⟩, S.sub _ _⟩
      · clear S; rintro r4 n uu a w ⟨hnu, hw4, hsub4⟩ S
        iterate 2 (refine c_seq ?_)
        refine c_region ?_
        refine sq S ?_; clear S; intro a S
        have hc4 := hsub4.cap hc3
        have hl4 := hsub4.len
        obtain ⟨hkn, hkn2⟩ := kidsN_int (kd : Int)
        refine sr S (kids_c (fieldsOf (kd : Int)) _) ?_; clear S; rintro _ a w rfl S
        rw [hkn, show (left : Int) - 1 = ((left - 1 : Nat) : Int) from by omega] at S
        refine sq S ?_; clear S; intro a S
        refine wl_nil ?_
        refine xtn ?_
        refine c_block ?_
        refine c_fore6 S (fun (k : Nat) (zs : List LTerm) (r5 : RS) (lf : Nat) (p5 : Option Addr) (c5 : Nat) uu => [(89, .int .i64 (k : Nat)), (0, uu 90), (0, uu 91), (0, uu 92), (0, uu 93), (0, uu 94), (0, uu 95), (0, uu 96), (0, uu 97), (0, uu 98), (0, uu 99), (0, uu 100)]) (fun (k : Nat) (zs : List LTerm) (r5 : RS) (lf : Nat) (p5 : Option Addr) (c5 : Nat) => [Wk.box b5 43 [.int .i64 kd, .int .i64 u, .int .i64 n, str s, .slice p5 k c5], Wk.row 43 5 p5 k c5 (encL zs), tmI h rd (lf : Nat), rdI rd r5, Wk.box b4 43 [.int .i64 0, .int .i64 0, .int .i64 0, .string ⟨#[]⟩, .slice none 0 0], ext Mr]) (fun (k : Nat) (zs : List LTerm) (r5 : RS) (lf : Nat) (p5 : Option Addr) (c5 : Nat) => [AllL zs, GlF r5.p r5.bs]) (fun (k : Nat) (zs : List LTerm) (r5 : RS) (lf : Nat) (p5 : Option Addr) (c5 : Nat) => k = zs.length ∧ k ≤ kidsN (kd : Int) ∧ lf ≤ left - 1 ∧ r5.why = 0 ∧ SubR r4 r5 ∧ kidsD (decT (m - 1)) (kidsN (kd : Int)) (left - 1) r4.bs = preD (zs.map LTerm.t) (kidsD (decT (m - 1)) (kidsN (kd : Int) - k) lf r5.bs)) (fun (k : Nat) (zs : List LTerm) (r5 : RS) (lf : Nat) (p5 : Option Addr) (c5 : Nat) => kidsN (kd : Int) - k) (0) ([]) (r4) (left - 1) (none) (0) ?_ S.uu ?_ ?_
        · exact ⟨rfl, Nat.zero_le _, Nat.le_refl _, hw4, SubR.refl r4, (preD_nil _).symm⟩
        · replace S := S.addNil 43 5
          replace S := S.add (Φ := AllL []) (fun _ _ _ hx => by cases hx)
          rw [show Wk.row 43 5 none 0 0 [] = Wk.row 43 5 none 0 0 (encL ([] : List LTerm)) from rfl] at S
          exact S.front (Wk.box b5 43 [.int .i64 kd, .int .i64 u, .int .i64 n, str s, .slice none 0 0])
        · clear S; rintro k zs r5 lf p5 c5 uu a w ⟨hkz, hk, hlf, hw5, hsub5, hkd5⟩ S
          refine c_seq ?_
          refine c_region ?_
          refine sq S ?_; clear S; intro a S
          refine wl_nil ?_
          refine xtn ?_
          refine c_seq ?_
          refine c_cond S (fun h17 => ?_) (fun h17 => ?_)
          · refine c_skip ?_
            refine xtn ?_
            refine c_seq ?_
            refine c_block ?_
            have hkl : k < kidsN (kd : Int) := by simp at h17; omega
            have hc5 := hsub5.cap hc4
            have hl5 := hsub5.len
            have hkk : kidsN (kd : Int) - k = (kidsN (kd : Int) - (k + 1)) + 1 := by omega
            refine c_drawXL 9 [(0, true), (1, true), (2, true), (3, true), (4, true), (5, false), (6, false), (7, false), (8, true), (9, false)] [Wk.box b5 43 [.int .i64 kd, .int .i64 u, .int .i64 n, str s, .slice p5 k c5]] (⟨[], [], fun ch w => Agree (rtI h rd (left : Nat) r).foot w0 w ∧ DecX m left r ch⟩) S (fun ch a w ⟨_, hd, ha, hx⟩ => by repeat (first | refine xtp ?_ | refine xbp ?_); exact ⟨hd, .inr ⟨ch, rfl, ha, hx⟩⟩) ?_; clear S; intro w S
            iterate 5 (refine dqXL S ?_; clear S; intro a S)
            rw [w64 ((61 : Int) - (m : Nat) + 1) (by omega) (by omega), show (61 : Int) - (m : Nat) + 1 = 61 - ((m - 1 : Nat) : Int) from by omega] at S
            refine dlXL ?_
            replace S := ((S.front (rdI rd r5)).front (tmI h rd (lf : Nat))).toBoth
            refine sitMP (rtI h rd (lf : Nat) r5) S (ih (m - 1) h rd lf r5 (restOf _ (rtI h rd (lf : Nat) r5)) w (by omega) (by omega) (by omega) hw5 hc5 (by omega) (S.restOk _) (S.it (rtI h rd (lf : Nat) r5)) ((S.mem.fact (GlF r5.p r5.bs)).split (rtI h rd (lf : Nat) r5))) rfl (fun ch w' hx hS => ?_) ?_
            · obtain ⟨e, rfl, he⟩ := hx
              have S := hS (bs' := _)
              refine XP.of S (by simp) rfl ⟨S.wd.agree, e, rfl, ?_⟩
              rw [hdec]
              refine decB_kids htx hus hnu ?_
              rw [hkd5, hkk]
              exact kidsD_bad _ _ _ _ _ _ he
            clear S; rintro _ a w ⟨z, lf', r6, rfl, hde, hlf', hw6, hsub6, hh6, hz⟩ hS
            have S := hS (rtI h rd (lf' : Nat) r6) [LtF z] hh6 (fun k h => .inl h) (by simp only [List.mem_cons, List.not_mem_nil, or_false]; rintro Φ rfl; exact hz)
            clear hS
            replace S := S.ofBoth
            replace S := S.add (Φ := GlF r6.p r6.bs) ((S.mem.fact (GlF r5.p r5.bs)).imp fun _ h => hsub6.gl hc5 _ h)
            have hA1 : Stable _ _ (AllL zs) := S.wd.facts (AllL zs) (by simp)
            have hA2 := S.t z
            replace S := S.add (Φ := AllL (zs ++ [z])) (fun w' hw' x hx => by
              rcases List.mem_append.1 hx with h | h
              · exact hA1 w' hw' x h
              · rw [List.mem_singleton.1 h]; exact hA2 w' hw')
            refine deXL S ?_
            refine dlXL ?_
            refine sn S ?_; clear S; intro b97 a w S
            refine deXL S ?_
            refine dlXL ?_
            refine sap S (by simp [maxLen]; omega) (by omega) ?_; clear S; rintro p7 c7 a w - S
            rw [show encL zs ++ [Value.int .i64 z.kind, .int .i64 z.user, .int .i64 z.num, str z.text, .slice z.p z.kids.length z.cap] = encL (zs ++ [z]) from by rw [encL_append]; rfl] at S
            refine deXL S ?_
            refine dqXL S ?_; clear S; intro a S
            refine dlXL ?_
            refine sw S ?_; clear S; intro a w S
            refine dzXL ?_
            refine xbn ?_
            refine xtn ?_
            refine c_region ?_
            iterate 2 (refine sq S ?_; clear S; intro a S)
            refine wl_nil ?_
            refine xtn ?_
            rw [w64 ((k : Int) + 1) (by omega) (by omega)] at S
            replace S := ((((S.front (rdI rd r6)).front (tmI h rd (lf' : Nat))).front (Wk.row 43 5 p7 (k + 1) c7 (encL (zs ++ [z])))).front (Wk.box b5 43 [.int .i64 kd, .int .i64 u, .int .i64 n, str s, .slice p7 (k + 1) c7]))
            refine ⟨k + 1, zs ++ [z], r6, lf', p7, c7, S.uu, ⟨by simp [hkz], hkl, by omega, hw6, hsub5.trans hsub6, ?_⟩, S.sub _ _, by omega⟩
            rw [hkd5, hkk, kidsD_step _ _ _ _ _ z.t lf' r6.bs hde, List.map_append]; rfl
          · refine c_exit ?_
            iterate 2 (refine xte ?_)
            refine xbe ?_
            refine xtn ?_
            refine c_seq ?_
            have hk2 : kidsN (kd : Int) = k := by simp at h17; omega
            subst hkz
            refine c_region ?_
            refine sq S ?_; clear S; intro a S
            refine sw S ?_; clear S; intro a w S
            refine wl_nil ?_
            refine xtn ?_
            refine c_ret ?_
            have hrow := S.row p5 zs.length
            have hall : Stable _ _ (AllL zs) := S.wd.facts (AllL zs) (by simp)
            have hap : ∀ ad, p5 = some ad → ¬ ((rtI h rd (lf : Nat) r5).foot ad.block ∨ Mr ad.block) := fun ad had hm => by
              rcases hm with (hm | hm) | hm
              · exact St.apart2 S (Wk.row 43 5 p5 zs.length c5 (encL zs)) (tmI h rd (lf : Nat)) ad.block ⟨ad, had, rfl⟩ hm
              · exact St.apart2 S (Wk.row 43 5 p5 zs.length c5 (encL zs)) (rdI rd r5) ad.block ⟨ad, had, rfl⟩ hm
              · exact St.apart2 S (Wk.row 43 5 p5 zs.length c5 (encL zs)) (ext Mr) ad.block ⟨ad, had, rfl⟩ hm
            have hkids : Stable (fun k => (rtI h rd (lf : Nat) r5).foot k ∨ Mr k) _ (AllL zs) := hall.less fun k _ hm => by
              rcases hm with (hm | hm) | hm
              · exact ⟨tmI h rd (lf : Nat), by simp, hm⟩
              · exact ⟨rdI rd r5, by simp, hm⟩
              · exact ⟨ext Mr, by simp, hm⟩
            have hls := ls_of_own hrow (fun x hx => AllL.get hkids hx) hap
            replace S := ((S.front (rdI rd r5)).front (tmI h rd (lf : Nat))).toBoth
            have hh := S.it (rtI h rd (lf : Nat) r5)
            refine endP (end1 S (fun _ => ?_))
            refine ⟨.mk kd u n s p5 c5 zs, lf, r5, rfl, ?_, by omega, hw5, ((((hsub1.trans hsub2).trans hsub3).trans hsub4).trans hsub5), hh, fun w' hw' => ?_⟩
            · rw [hdec, LTerm.t_eq]
              refine decB_ok htx hus hnu ?_
              rw [hkd5, hk2, Nat.sub_self, kidsD, preD, List.append_nil]; rfl
            · exact LtIn.iff.2 ⟨own_le hrow, own_capT hrow, hls w' hw'⟩
end Go.Proofs.YtdakncgafdnjfaaGreat

/- Package term: Decode. -/
namespace Go.Proofs.YtdakncgafdnjfaaGreat
open Go Go.Wk
set_option synthInstance.maxSize 100000
set_option synthInstance.maxHeartbeats 400000
set_option maxRecDepth 100000

theorem textD_err {k e : Int} {bs : List UInt8} (h : textD k bs = .error e) : e ≠ 0 := by
  unfold textD at h
  split at h
  · split at h
    · cases h; decide
    · split at h
      · cases h; decide
      · split at h
        · cases h; decide
        · cases h
  · cases h
theorem userD_err {k e : Int} {bs : List UInt8} (h : userD k bs = .error e) : e ≠ 0 := by
  unfold userD at h
  split at h
  · split at h
    · cases h; decide
    · split at h
      · cases h
      · cases h; decide
  · cases h
theorem numD_err {k e : Int} {bs : List UInt8} (h : numD k bs = .error e) : e ≠ 0 := by
  unfold numD at h
  split at h
  · split at h
    · cases h; decide
    · cases h
  · cases h
theorem kidsD_err {f : Nat → List UInt8 → DecE (Term × Nat × List UInt8)} (hf : ∀ l b e, f l b = .error e → e ≠ 0) : ∀ (k l : Nat) (b : List UInt8) (e : Int), kidsD f k l b = .error e → e ≠ 0
  | 0, l, b, e, h => by rw [kidsD] at h; cases h
  | k + 1, l, b, e, h => by
    rw [kidsD] at h
    split at h
    · rename_i e' he
      cases h; exact hf _ _ _ he
    · split at h
      · rename_i e' he
        cases h; exact kidsD_err hf _ _ _ _ he
      · cases h
theorem decT_err : ∀ (m left : Nat) (bs : List UInt8) (e : Int), decT m left bs = .error e → e ≠ 0 := by
  intro m
  induction m with
  | zero =>
    intro left bs e h
    cases bs with
    | nil => rw [decT_nil] at h; cases h; decide
    | cons c t => rw [decT_cons, if_pos (.inl rfl)] at h; cases h; decide
  | succ m ih =>
    intro left bs e h
    cases bs with
    | nil => rw [decT_nil] at h; cases h; decide
    | cons c t =>
      rw [decT_cons] at h
      split at h
      · cases h; decide
      · rw [show m + 1 - 1 = m from rfl, decB] at h
        split at h
        · rename_i h1; cases h; exact textD_err h1
        · split at h
          · rename_i h1; cases h; exact userD_err h1
          · split at h
            · rename_i h1; cases h; exact numD_err h1
            · split at h
              · rename_i h1; cases h; exact kidsD_err ih _ _ _ _ h1
              · cases h
theorem tcatch_ret (p2 p3 p4 : Value) (w : World) : CallsDIn (FW none) 0 Tryz.prog 168 #[p2, p3, p4] .returning w fun e u' w' => (∃ v, e = .returned v) ∧ u' = .returning ∧ Agree (fun _ => False) w w' := by
  refine callsD_catch Tryz.func168 rfl (l := [p2, p3, p4, undef, undef, undef, undef, undef, undef, undef, undef, undef, undef, undef, undef, undef, undef, undef, undef, undef]) (args := [p2, p3, p4]) rfl (Wd.start w) (.inl rfl) ?_
  rintro x u' (⟨-, rfl, rfl⟩ | ⟨pv, h, -⟩) a S
  · refine c_seq ?_
    refine c_region ?_
    iterate 2 (refine sq S ?_; clear S; intro a S)
    refine wl_nil ?_
    refine xtn ?_
    refine c_condF S ?_
    refine c_skip ?_
    exact ⟨.inl rfl, S.defers, .tuple #[], resC S, ⟨_, rfl⟩, rfl, S.wd.agree⟩
  · cases h
theorem tcatch_pan (g2 g3 g4 : Nat) (x0 x1 x2 x3 x4 y z : Value) (e0 : Int) (w0 w : World) (M0 : Nat → Prop) (hw : Wd w0 M0 w [Wk.box g4 26 [z], Wk.box g3 3 [y], Wk.box g2 43 [x0, x1, x2, x3, x4]] []) :
    CallsDIn (FW none) 0 Tryz.prog 168 #[.pointer (some ⟨g2, 0, none⟩), .pointer (some ⟨g3, 0, none⟩), .pointer (some ⟨g4, 0, none⟩)] (.panicking (pch (wrongE e0))) w fun e u' w' => (∃ v, e = .returned v) ∧ u' = .panicking [{ v := wrongE e0, recovered := true }] ∧
      Wd w0 M0 w' [Wk.box g4 26 [.int .i64 e0], Wk.box g3 3 [.int .i64 0], Wk.box g2 43 [.int .i64 0, .int .i64 0, .int .i64 0, .string ⟨#[]⟩, .slice none 0 0]] [] := by
  refine callsD_catch Tryz.func168 rfl (l := [.pointer (some ⟨g2, 0, none⟩), .pointer (some ⟨g3, 0, none⟩), .pointer (some ⟨g4, 0, none⟩), undef, undef, undef, undef, undef, undef, undef, undef, undef, undef, undef, undef, undef, undef, undef, undef, undef]) (args := [.pointer (some ⟨g2, 0, none⟩), .pointer (some ⟨g3, 0, none⟩), .pointer (some ⟨g4, 0, none⟩)]) rfl hw (.inr ⟨_, rfl⟩) ?_
  rintro x u' (⟨h, -⟩ | ⟨pv, h, rfl, rfl⟩) a S
  · cases h
  · obtain rfl : x = wrongE e0 := by injection h with h; injection h with h _; injection h with h; exact h.symm
    refine c_seq ?_
    refine c_region ?_
    iterate 2 (refine sq S ?_; clear S; intro a S)
    refine wl_nil ?_
    refine xtn ?_
    refine c_condT S ?_
    refine c_seq ?_
    refine c_region ?_
    iterate 5 (refine sq S ?_; clear S; intro a S)
    refine sa S ?_; clear S; intro b4 a w S
    refine sw S ?_; clear S; intro a w S
    refine sq S ?_; clear S; intro a S
    refine wl_nil ?_
    refine xtn ?_
    iterate 2 (refine c_seq ?_)
    refine c_region ?_
    iterate 2 (refine sq S ?_; clear S; intro a S)
    rw [show (!true) = false from rfl] at S
    refine wl_nil ?_
    refine xtn ?_
    refine c_condF S ?_
    refine c_skip ?_
    refine xtn ?_
    refine c_drawD [(0, true), (1, true), (2, true), (3, false), (4, false), (5, false)] [g2, g3, g4] S ?_; clear S; intro w S
    iterate 3 (refine dq S ?_; clear S; intro a S)
    refine dl ?_
    refine sw S ?_; clear S; intro a w S
    refine de S ?_
    refine dl ?_
    refine sw S ?_; clear S; intro a w S
    refine de S ?_
    refine dl ?_
    refine sw S ?_; clear S; intro a w S
    refine de S ?_
    refine dn ?_
    refine ⟨.inl rfl, S.defers, .tuple #[], resC S, ⟨_, rfl⟩, rfl, ?_⟩
    exact (S.sub _ _).wd
end Go.Proofs.YtdakncgafdnjfaaGreat

/- Package term: Decode. -/
namespace Go.Proofs.YtdakncgafdnjfaaGreat
open Go Go.Wk
set_option synthInstance.maxSize 100000
set_option synthInstance.maxHeartbeats 400000
set_option maxRecDepth 100000

theorem leftG_c (b n c : Nat) (p : Option Addr) (why : Int) (w0 : World) (hb : Stable (fun _ => False) w0 (BoxF b 238 [.slice p n c, .int .i64 why])) : Ret Tryz.prog 72 [.pointer (some ⟨b, 0, none⟩)] w0 (fun _ => False) fun v _ => v = .int .i64 (n : Nat) := by
  refine enter Tryz.func72 rfl rfl (Wd.begin (fs := [BoxF b 238 [.slice p n c, .int .i64 why]]) (by simpa using hb)) (fun a S => ?_)
  simp only [Tryz.ntmps72, List.length_cons, List.length_nil, Nat.reduceAdd, Nat.reduceSub, List.replicate_succ, List.replicate_zero, List.cons_append, List.nil_append] at S
  refine c_seq ?_
  refine c_region ?_
  refine sq S ?_; clear S; intro a S
  refine wl_nil ?_
  refine xtn ?_
  iterate 2 (refine c_seq ?_)
  refine c_region ?_
  iterate 2 (refine sq S ?_; clear S; intro a S)
  refine wl_nil ?_
  refine xtn ?_
  refine c_condF S ?_
  refine c_skip ?_
  refine xtn ?_
  refine c_seq ?_
  refine c_region ?_
  iterate 7 (refine sq S ?_; clear S; intro a S)
  refine wl_nil ?_
  refine xtn ?_
  refine c_ret ?_
  exact end1 S (fun _ => rfl)
instance {b n c : Nat} {p : Option Addr} {why : Int} {bs fs} [hb : HasBox bs b 238 [.slice p n c, .int .i64 why]] : CallV Tryz.prog 72 [.pointer (some ⟨b, 0, none⟩)] bs fs (.int .i64 (n : Nat)) := ⟨fun w m => leftG_c b n c p why w (BoxF.stable m.box (fun h => h))⟩
abbrev ptrT (b : Nat) : Value := .pointer (some ⟨b, 0, none⟩)
abbrev defT (b2 b3 b4 : Nat) : Deferred := { target := .fn (.func 168) ⟨[ptrT b2, ptrT b3, ptrT b4]⟩, args := #[] }
abbrev zTm : List Value := [.int .i64 0, .int .i64 0, .int .i64 0, .string ⟨#[]⟩, .slice none 0 0]
theorem tdec_pan {a : Act} {w0 w : World} {M0 : Nat → Prop} {Rr : Ending → World → Prop} (b2 b3 b4 : Nat) (x0 x1 x2 x3 x4 y z : Value) (e0 : Int) (hd : a.defers = [defT b2 b3 b4]) (h2 : a.tmps[2]? = some (ptrT b2)) (h3 : a.tmps[3]? = some (ptrT b3)) (h4 : a.tmps[4]? = some (ptrT b4))
    (hw : Wd w0 M0 w [Wk.box b4 26 [z], Wk.box b3 3 [y], Wk.box b2 43 [x0, x1, x2, x3, x4]] [])
    (hR : ∀ w', Agree M0 w0 w' → Rr (.returned (.tuple ⟨[vL zeroL, .int .i64 0, .int .i64 e0]⟩)) w') : bodyPostDIn (FW none) 0 Tryz.prog Tryz.f70 Rr (.panic (pch (wrongE e0))) a w := by
  refine leavePan (ca := [ptrT b2, ptrT b3, ptrT b4]) hd (tcatch_pan b2 b3 b4 x0 x1 x2 x3 x4 y z e0 w0 w M0 hw) fun w' hK => ⟨_, ?_, hR w' hK.agree⟩
  have n2 : Nth a.tmps.toList 2 (ptrT b2) := ⟨by simpa using h2⟩
  have n3 : Nth a.tmps.toList 3 (ptrT b3) := ⟨by simpa using h3⟩
  have n4 : Nth a.tmps.toList 4 (ptrT b4) := ⟨by simpa using h4⟩
  exact res3 (l := a.tmps.toList) rfl hK.held
def TDecR (M : Nat → Prop) (bs : List UInt8) (v : Value) (w : World) : Prop := ∃ (z : LTerm) (n e : Int), v = .tuple ⟨[vL z, .int .i64 n, .int .i64 e]⟩ ∧ Stable M w (LtF z) ∧
  ((∃ left rest, decT 60 1200 bs = .ok (z.t, left, rest) ∧ n = (bs.length : Int) - rest.length ∧ e = 0) ∨ (decT 60 1200 bs = .error e ∧ z = zeroL ∧ e ≠ 0))
theorem tdec_c (bs : List UInt8) (p : Option Addr) (n c : Nat) (M : Nat → Prop) (w0 : World) (hn : bs.length = n) (hl : n ≤ 10000000) (hM : ∀ k, M k → k < w0.heap.size) (hf : Stable M w0 (GlF p bs)) :
    Ret Tryz.prog 70 [.slice p n c] w0 (fun _ => False) fun v w' => TDecR M bs v w' := by
  subst hn
  refine enterD Tryz.func70 rfl rfl (Wd.beginM (M := M) (fs := [GlF p bs]) hM (by simpa using hf)) (fun a S => ?_)
  simp only [Tryz.ntmps70, List.length_cons, List.length_nil, Nat.reduceAdd, Nat.reduceSub, List.replicate_succ, List.replicate_zero, List.cons_append, List.nil_append] at S
  refine c_seq ?_
  refine c_region ?_
  refine sa S ?_; clear S; intro b2 a w S
  refine sa S ?_; clear S; intro b3 a w S
  refine sa S ?_; clear S; intro b4 a w S
  refine wl_nil ?_
  refine xtn ?_
  refine c_seq ?_
  refine c_region ?_
  refine sq S ?_; clear S; intro a S
  refine snew S (readR_c bs p bs.length c _ rfl hl (S.gl0 p)) ?_; clear S; rintro _ a w - ⟨rd, p1, c1, rfl, hh, hnw⟩ hS -
  have S := hS (both (rdI rd ⟨p1, c1, bs, 0⟩) (Wk.row 5 1 p1 bs.length c1 (encL bs))) hh hnw
  clear hS
  replace S := S.ofBoth
  have hc1 := own_le (S.row p1 bs.length)
  replace S := (S.front (Wk.row 5 1 p1 bs.length c1 (encL bs))).rowToGl p1 bs (e := 5) (sz := 1) (n := bs.length) (c := c1) (fun _ _ _ _ => trivial)
  refine sq S ?_; clear S; intro a S
  refine sa S ?_; clear S; intro b9 a w S
  refine sq S ?_; clear S; intro a S
  refine wl_nil ?_
  refine xtn ?_
  refine c_seq ?_
  refine c_region ?_
  refine sq S ?_; clear S; intro a S
  refine sdef S ?_; clear S; intro a S
  refine wl_nil ?_
  refine xtn ?_
  refine c_seq ?_
  refine c_region ?_
  refine sq S ?_; clear S; intro a S
  replace S := ((S.front (rdI rd ⟨p1, c1, bs, 0⟩)).front (tmI b9 rd 1200)).toBoth
  refine sitMP (rtI b9 rd ((1200 : Nat) : Int) ⟨p1, c1, bs, 0⟩) S (rterm_c0 61 60 b9 rd 1200 ⟨p1, c1, bs, 0⟩ (restOf _ (rtI b9 rd ((1200 : Nat) : Int) ⟨p1, c1, bs, 0⟩)) w (by decide) (by decide) (by decide) rfl hc1 hl (S.restOk _) (S.it (rtI b9 rd ((1200 : Nat) : Int) ⟨p1, c1, bs, 0⟩)) ((S.mem.fact (GlF p1 bs)).split (rtI b9 rd ((1200 : Nat) : Int) ⟨p1, c1, bs, 0⟩))) rfl (fun ch w' hx hS => ?_) ?_
  · obtain ⟨e, rfl, he⟩ := hx
    have S := hS (bs' := _)
    refine tdec_pan b2 b3 b4 _ _ _ _ _ _ _ e S.defers (by rw [S.slots]; rfl) (by rw [S.slots]; rfl) (by rw [S.slots]; rfl) (S.sub [Wk.box b4 26 [.int .i64 0], Wk.box b3 3 [.int .i64 0], Wk.box b2 43 zTm] []).wd (fun w' ha => ⟨_, rfl, ha, zeroL, 0, e, rfl, fun _ _ => zeroL_in _, .inr ⟨he, rfl, decT_err _ _ _ _ he⟩⟩)
  clear S; rintro _ a w ⟨z, lf, r6, rfl, hde, -, hw6, hsub6, hh6, hz⟩ hS
  have S := hS (rtI b9 rd (lf : Nat) r6) [LtF z] hh6 (fun k h => .inl h) (by simp only [List.mem_cons, List.not_mem_nil, or_false]; rintro Φ rfl; exact hz)
  clear hS
  replace S := S.ofBoth
  refine sw S ?_; clear S; intro a w S
  refine wl_nil ?_
  refine xtn ?_
  refine c_seq ?_
  refine' c_drawT0 (.q 1 (.q 2 (.q 3 (.q 4 (.q 5 (.q 6 (.b2 0 7 (.l 7 (.q 8 (.l 9 (.l 10 (.l 11 (.e)))))) (.q 8 (.l 0 (.l 9 (.l 10 (.l 11 (.e))))))))))))) [b2, b3, b4] S ?_ ?_
  rotate_left 3
  · intro w S
    iterate 6 (refine tq S ?_; clear S; intro a S)
    refine tb2 ?_ ?_
    · refine sq S ?_; clear S; intro a S
      refine te S ?_
      refine tl ?_
      refine sc S ?_; clear S; intro a w S
      refine te S ?_
      refine tq S ?_; clear S; intro a S
      rw [w64 ((bs.length : Int) - (r6.bs.length : Int)) (by have := hsub6.len; have : r6.bs.length ≤ bs.length := this; omega) (by omega)] at S
      refine tl ?_
      refine sw S ?_; clear S; intro a w S
      refine te S ?_
      refine tl ?_
      refine sw S ?_; clear S; intro a w S
      refine te S ?_
      refine tl ?_
      refine sw S ?_; clear S; intro a w S
      refine te S ?_
      refine tn ?_
      exact S
    · refine sc S ?_; clear S; intro a w S
      refine te S ?_
      refine tq S ?_; clear S; intro a S
      rw [w64 ((bs.length : Int) - (r6.bs.length : Int)) (by have := hsub6.len; have : r6.bs.length ≤ bs.length := this; omega) (by omega)] at S
      refine tl ?_
      refine sq S ?_; clear S; intro a S
      refine te S ?_
      refine tl ?_
      refine sw S ?_; clear S; intro a w S
      refine te S ?_
      refine tl ?_
      refine sw S ?_; clear S; intro a w S
      refine te S ?_
      refine tl ?_
      refine sw S ?_; clear S; intro a w S
      refine te S ?_
      refine tn ?_
      exact S
  intro  a w S
  refine xtn ?_
  refine c_ret ?_
  have hlat := S.laterT (M := M) z
  refine leaveRet S.defers (tcatch_ret _ _ _ w) (fun w' hw' => ⟨_, res3 S.slots (S.wd.step hw').held, _, rfl, (S.wd.step hw').agree, z, (bs.length : Int) - (r6.bs.length : Int), 0, rfl, ?_, .inl ⟨lf, r6.bs, hde, rfl, rfl⟩⟩)
  exact hlat.later (hw'.mono fun _ _ h => h.elim)
end Go.Proofs.YtdakncgafdnjfaaGreat

/- Package vault: Decode. -/
namespace Go.Proofs.YtdakncgafdnjfaaGreat
open Go Go.Wk
set_option synthInstance.maxSize 100000
set_option synthInstance.maxHeartbeats 400000
set_option maxRecDepth 100000

def preR (l : List PRow) (g : Bool) (X : List PRow × Bool × RB) : List PRow × Bool × RB := (l ++ X.1, g && X.2.1, X.2.2)
theorem preR_nil (X : List PRow × Bool × RB) : preR [] true X = X := by obtain ⟨a, b, c⟩ := X; simp [preR]
theorem rowsD_step (l : List PRow) (g : Bool) (j : Nat) (x : RB) : preR l g (rowsD (j + 1) x) = preR (l ++ [(rowD x).1]) (g && (rowD x).2.1) (rowsD j (rowD x).2.2) := by
  rw [rowsD, preR, preR]; simp [Bool.and_assoc]
theorem rowD_tk {r ra rb rc rd : RS} {nm raw : List UInt8} {a c : Nat} (ha : ra = takeR r 1) (ea : a = numN (tookR r 1) 0) (hb : rb = takeR ra a) (eb : nm = tookR ra a) (hc : rc = takeR rb 2) (ec : c = numN (tookR rb 2) 0) (hd : rd = takeR rc c) (ed : raw = tookR rc c) :
    rowD r.ab = (⟨nm, (termD raw).1⟩, (termD raw).2, rd.ab) := by
  have h1 := tk_ab r 1
  have h2 := tk_ab ra a
  have h3 := tk_ab rb 2
  have h4 := tk_ab rc c
  rw [← ha] at h1; rw [← hb, ← eb] at h2; rw [← hc] at h3; rw [← hd, ← ed] at h4
  rw [rowD, ← h1.1, ← h1.2, ← ea, ← h2.1, ← h2.2, ← h3.1, ← h3.2, ← ec, ← h4.1, ← h4.2]
theorem rsP_lenK (xs : List LRow) : (rsP xs).length = xs.length := List.length_map _
class NamesOk (xs : List LRow) : Prop where
  all : ∀ x ∈ xs, x.name.length ≤ 9223372036854775807
instance {xs : List LRow} {p : Option Addr} {n c : Nat} {bs fs} [hg : HasG fs p LRow layRow xs] [hn : LenN xs n] [hk : LeC n c] [hl : LeC n 9223372036854775807] [ho : NamesOk xs] : CallV Tryz.prog 63 [.slice p n c] bs fs (.bool (batchP (rsP xs))) := ⟨fun w m => batch_c xs p n c w hn.eq hk.le ho.all hl.le ((hg.of _ _ m.facts).less fun _ _ h => h.elim)⟩
def VDecR (M : Nat → Prop) (bs : List UInt8) (v : Value) (w : World) : Prop := ∃ (xs : List LRow) (p : Option Addr) (c : Nat) (e : Int), v = .tuple ⟨[.slice p xs.length c, .int .i64 e]⟩ ∧ rsP xs = (decV bs).1 ∧ e = (decV bs).2 ∧ Stable M w (GlF p xs) ∧ xs.length ≤ c ∧ ∀ x ∈ xs, x.name.length ≤ 255
theorem vdec_c (bs : List UInt8) (p : Option Addr) (n c : Nat) (M : Nat → Prop) (w0 : World) (hn : bs.length = n) (hl : n ≤ 10000000) (hM : ∀ k, M k → k < w0.heap.size) (hf : Stable M w0 (GlF p bs)) :
    Ret Tryz.prog 15 [.slice p n c] w0 (fun _ => False) fun v w' => VDecR M bs v w' := by
  subst hn
  refine enter Tryz.func15 rfl rfl (Wd.beginM (M := M) (fs := [GlF p bs]) hM (by simpa using hf)) (fun a S => ?_)
  simp only [Tryz.ntmps15, List.length_cons, List.length_nil, Nat.reduceAdd, Nat.reduceSub, List.replicate_succ, List.replicate_zero, List.cons_append, List.nil_append] at S
  refine c_seq ?_
  refine c_region ?_
  iterate 2 (refine sq S ?_; clear S; intro a S)
  refine wl_nil ?_
  refine xtn ?_
  refine c_seq ?_
  refine c_region ?_
  refine sq S ?_; clear S; intro a S
  refine snew S (readR_c bs p bs.length c _ rfl hl (S.gl0 p)) ?_; clear S; rintro _ a w - ⟨rd, p1, c1, rfl, hh, hnw⟩ hS -
  have S := hS (both (rdI rd ⟨p1, c1, bs, 0⟩) (Wk.row 5 1 p1 bs.length c1 (encL bs))) hh hnw
  clear hS
  replace S := S.ofBoth
  have hc1 := own_le (S.row p1 bs.length)
  replace S := (S.front (Wk.row 5 1 p1 bs.length c1 (encL bs))).rowToGl p1 bs (e := 5) (sz := 1) (n := bs.length) (c := c1) (fun _ _ _ _ => trivial)
  obtain ⟨r0, hr0⟩ : ∃ r0 : RS, r0 = ⟨p1, c1, bs, 0⟩ := ⟨_, rfl⟩
  rw [← hr0, show GlF p1 bs = GlF r0.p r0.bs from by rw [hr0]] at S
  have hc0 : r0.bs.length ≤ r0.c := by rw [hr0]; exact hc1
  have hl0 : r0.bs.length ≤ 10000000 := by rw [hr0]; exact hl
  have hab : r0.ab = (bs, false) := by rw [hr0]; rfl
  refine sq S ?_; clear S; intro a S
  refine wl_nil ?_
  refine xtn ?_
  refine c_seq ?_
  refine c_region ?_
  refine sq S ?_; clear S; intro a S
  refine wl_nil ?_
  refine xtn ?_
  refine c_seq ?_
  refine c_region ?_
  refine sq S ?_; clear S; intro a S
  refine wl_nil ?_
  refine xtn ?_
  iterate 2 (refine c_seq ?_)
  refine c_region ?_
  refine sq S ?_; clear S; intro a S
  refine sit (rdI rd r0) S (u8R_c rd r0 _ hc0 hl0 (S.it (rdI rd r0)) (S.lend (rdI rd r0) (S.mem.fact (GlF r0.p r0.bs)))) rfl ?_; clear S; rintro _ a w ⟨rfl, hh⟩ hS
  have S := hS (rdI rd (takeR r0 1)) hh (fun k h => .inl h)
  clear hS
  obtain ⟨N, hN⟩ : ∃ N, N = numN (tookR r0 1) 0 := ⟨_, rfl⟩
  rw [← hN] at S
  have hNl : N < 256 := by rw [hN]; exact (took_num r0 1 (by decide)).2
  replace S := S.add (Φ := GlF (takeR r0 1).p (takeR r0 1).bs) (takeR_gl hc0 (S.mem.fact (GlF r0.p r0.bs)))
  have hall : allD bs = rowsD N (takeR r0 1).ab := by
    have h1 := tk_ab r0 1
    rw [hab] at h1
    rw [allD, ← h1.1, ← h1.2, hN]
  have hc2 := takeR_cap (k := 1) hc0
  have hl2 := takeR_len r0 1
  refine sq S ?_; clear S; intro a S
  rw [w64 (N : Int) (by omega) (by omega)] at S
  refine sq S ?_; clear S; intro a S
  refine wl_nil ?_
  refine xtn ?_
  refine c_block ?_
  refine c_fore6 S (fun (k : Nat) (xs : List LRow) (r : RS) (good : Bool) (p' : Option Addr) (c' : Nat) uu => [(5, .slice p' k c'), (0, .bool good), (0, uu 7), (0, uu 8), (0, uu 9), (0, uu 10), (0, uu 11), (0, uu 12), (5, .int .i64 (k : Nat)), (0, uu 19), (0, uu 20), (0, uu 21), (0, uu 22), (0, uu 23), (0, uu 24), (0, uu 25), (0, uu 26), (0, uu 27), (0, uu 28), (0, uu 29), (0, uu 30), (0, uu 31), (0, uu 32), (0, uu 33), (0, uu 34), (0, uu 35), (0, uu 36), (0, uu 37), (0, uu 38), (0, uu 39), (0, uu 40), (0, uu 41), (0, uu 42), (0, uu 43), (0, uu 44), (0, uu 45), (0, uu 46), (0, uu 47), (0, uu 48), (0, uu 49), (0, uu 50), (0, uu 51), (0, uu 52), (0, uu 53), (0, uu 54), (0, uu 55), (0, uu 56), (0, uu 57), (0, uu 58), (0, uu 59)]) (fun (k : Nat) (xs : List LRow) (r : RS) (good : Bool) (p' : Option Addr) (c' : Nat) => [Wk.row 45 6 p' k c' (encL xs), rdI rd r, ext M]) (fun (k : Nat) (xs : List LRow) (r : RS) (good : Bool) (p' : Option Addr) (c' : Nat) => [AllI xs, GlF r.p r.bs]) (fun (k : Nat) (xs : List LRow) (r : RS) (good : Bool) (p' : Option Addr) (c' : Nat) => k = xs.length ∧ k ≤ N ∧ SubR (takeR r0 1) r ∧ allD bs = preR (rsP xs) good (rowsD (N - k) r.ab) ∧ ∀ x ∈ xs, x.name.length ≤ 255) (fun (k : Nat) (xs : List LRow) (r : RS) (good : Bool) (p' : Option Addr) (c' : Nat) => N - k) (0) ([]) (takeR r0 1) (true) (none) (0) ?_ S.uu ?_ ?_
  · exact ⟨rfl, Nat.zero_le _, SubR.refl _, by rw [hall]; exact (preR_nil _).symm, nofun⟩
  · replace S := S.addNil 45 6
    replace S := S.add (Φ := AllI ([] : List LRow)) (fun _ _ _ hx => by cases hx)
    rw [show Wk.row 45 6 none 0 0 [] = Wk.row 45 6 none 0 0 (encL ([] : List LRow)) from rfl] at S
    exact S.sub _ _
  · clear S; rintro k xs r good p' c' uu a w ⟨hkx, hk, hsub, hrel, hnm⟩ S
    refine c_seq ?_
    refine c_region ?_
    refine sq S ?_; clear S; intro a S
    refine wl_nil ?_
    refine xtn ?_
    refine c_seq ?_
    refine c_cond S (fun h5 => ?_) (fun h5 => ?_)
    · refine c_skip ?_
      refine xtn ?_
      refine c_seq ?_
      refine c_block ?_
      refine c_seq ?_
      have hkl : k < N := by simp at h5; omega
      have hcr := hsub.cap hc2
      have hlr := hsub.len
      have hNk : N - k = (N - (k + 1)) + 1 := by omega
      refine c_region ?_
      iterate 2 (refine sq S ?_; clear S; intro a S)
      refine sit (rdI rd r) S (u8R_c rd r _ hcr (by omega) (S.it (rdI rd r)) (S.lend (rdI rd r) (S.mem.fact (GlF r.p r.bs)))) rfl ?_; clear S; rintro _ a w ⟨rfl, hh⟩ hS
      have S := hS (rdI rd (takeR r 1)) hh (fun k h => .inl h)
      clear hS
      obtain ⟨na, hna⟩ : ∃ na, na = numN (tookR r 1) 0 := ⟨_, rfl⟩
      rw [← hna] at S
      have hnal : na < 256 := by rw [hna]; exact (took_num r 1 (by decide)).2
      replace S := S.add (Φ := GlF (takeR r 1).p (takeR r 1).bs) (takeR_gl hcr (S.mem.fact (GlF r.p r.bs)))
      obtain ⟨ra, hra⟩ : ∃ ra, ra = takeR r 1 := ⟨_, rfl⟩
      have hsa : SubR r ra := hra ▸ SubR.take r 1
      rw [← hra] at S
      have hca := hsa.cap hcr
      have hla := hsa.len
      refine sq S ?_; clear S; intro a S
      rw [w64 (na : Int) (by omega) (by omega)] at S
      refine sit (rdI rd ra) S (rawR_c rd ra na _ (by omega) hca (by omega) (S.it (rdI rd ra)) (S.lend (rdI rd ra) (S.mem.fact (GlF ra.p ra.bs)))) rfl ?_; clear S; rintro _ a w ⟨p6, c6, rfl, hh, hf6⟩ hS
      have S := hS (both (Wk.row 5 1 p6 (tookR ra na).length c6 (encL (tookR ra na))) (rdI rd (takeR ra na))) hh hf6
      clear hS
      replace S := S.front (both (Wk.row 5 1 p6 (tookR ra na).length c6 (encL (tookR ra na))) (rdI rd (takeR ra na)))
      replace S := S.ofBoth
      replace S := S.add (Φ := GlF (takeR ra na).p (takeR ra na).bs) (takeR_gl hca (S.mem.fact (GlF ra.p ra.bs)))
      obtain ⟨rb, hrb⟩ : ∃ rb, rb = takeR ra na := ⟨_, rfl⟩
      have hsb : SubR ra rb := hrb ▸ SubR.take ra na
      rw [← hrb] at S
      have hcb := hsb.cap hca
      have hlb := hsb.len
      obtain ⟨nm, hnmm⟩ : ∃ nm, nm = tookR ra na := ⟨_, rfl⟩
      have hnml : nm.length ≤ 255 := by have := (tookR_len ra na).1; rw [← hnmm] at this; omega
      rw [← hnmm] at S
      iterate 2 (refine sq S ?_; clear S; intro a S)
      refine wl_nil ?_
      refine xtn ?_
      refine c_seq ?_
      refine c_region ?_
      iterate 2 (refine sq S ?_; clear S; intro a S)
      refine sit (rdI rd rb) S (u16R_c rd rb _ hcb (by omega) (S.it (rdI rd rb)) (S.lend (rdI rd rb) (S.mem.fact (GlF rb.p rb.bs)))) rfl ?_; clear S; rintro _ a w ⟨rfl, hh⟩ hS
      have S := hS (rdI rd (takeR rb 2)) hh (fun k h => .inl h)
      clear hS
      obtain ⟨nc, hnc⟩ : ∃ nc, nc = numN (tookR rb 2) 0 := ⟨_, rfl⟩
      rw [← hnc] at S
      have hncl : nc < 65536 := by rw [hnc]; exact (took_num rb 2 (by decide)).2
      replace S := S.add (Φ := GlF (takeR rb 2).p (takeR rb 2).bs) (takeR_gl hcb (S.mem.fact (GlF rb.p rb.bs)))
      obtain ⟨rc, hrc⟩ : ∃ rc, rc = takeR rb 2 := ⟨_, rfl⟩
      have hsc : SubR rb rc := hrc ▸ SubR.take rb 2
      rw [← hrc] at S
      have hcc := hsc.cap hcb
      have hlc := hsc.len
      refine sq S ?_; clear S; intro a S
      rw [w64 (nc : Int) (by omega) (by omega)] at S
      refine sit (rdI rd rc) S (rawR_c rd rc nc _ (by omega) hcc (by omega) (S.it (rdI rd rc)) (S.lend (rdI rd rc) (S.mem.fact (GlF rc.p rc.bs)))) rfl ?_; clear S; rintro _ a w ⟨p7, c7, rfl, hh, hf7⟩ hS
      have S := hS (both (Wk.row 5 1 p7 (tookR rc nc).length c7 (encL (tookR rc nc))) (rdI rd (takeR rc nc))) hh hf7
      clear hS
      replace S := S.front (both (Wk.row 5 1 p7 (tookR rc nc).length c7 (encL (tookR rc nc))) (rdI rd (takeR rc nc)))
      replace S := S.ofBoth
      replace S := S.add (Φ := GlF (takeR rc nc).p (takeR rc nc).bs) (takeR_gl hcc (S.mem.fact (GlF rc.p rc.bs)))
      obtain ⟨re, hre⟩ : ∃ re, re = takeR rc nc := ⟨_, rfl⟩
      have hse : SubR rc re := hre ▸ SubR.take rc nc
      rw [← hre] at S
      obtain ⟨raw, hraw⟩ : ∃ raw, raw = tookR rc nc := ⟨_, rfl⟩
      have hrawl : raw.length ≤ 65535 := by have := (tookR_len rc nc).1; rw [← hraw] at this; omega
      rw [← hraw] at S
      replace S := (S.front (Wk.row 5 1 p7 raw.length c7 (encL raw))).rowToGl p7 raw (e := 5) (sz := 1) (n := raw.length) (c := c7) (fun _ _ _ _ => trivial)
      have hrow := rowD_tk hra hna hrb hnmm hrc hnc hre hraw
      refine sq S ?_; clear S; intro a S
      refine wl_nil ?_
      refine xtn ?_
      refine c_seq ?_
      refine c_region ?_
      iterate 2 (refine sq S ?_; clear S; intro a S)
      refine sa S ?_; clear S; intro b9 a w S
      refine sw S ?_; clear S; intro a w S
      refine wl_nil ?_
      refine xtn ?_
      refine c_mrge2 S (fun (z : LTerm) (g : Bool) uu => [(6, .bool g), (3, uu 10), (0, uu 11), (0, uu 12), (20, uu 33), (0, uu 34), (0, uu 35), (0, uu 36), (0, uu 37), (0, uu 38), (0, uu 39), (0, uu 40), (0, uu 41), (0, uu 42), (0, uu 43), (0, uu 44), (0, uu 45), (0, uu 46), (0, uu 47), (0, uu 48), (0, uu 49), (0, uu 50), (0, uu 51), (0, uu 52), (0, uu 53), (0, uu 54)]) (fun (z : LTerm) (g : Bool) => [Wk.box b9 45 [str nm, .int .i64 z.kind, .int .i64 z.user, .int .i64 z.num, str z.text, .slice z.p z.kids.length z.cap], Wk.row 45 6 p' k c' (encL xs), rdI rd re, ext M]) (fun (z : LTerm) (g : Bool) => [LtF z, GlF re.p re.bs, AllI xs]) (fun (z : LTerm) (g : Bool) => z.t = (termD raw).1 ∧ g = (good && (termD raw).2)) ?_ ?_
      · refine c_seq ?_
        refine c_region ?_
        iterate 3 (refine sq S ?_; clear S; intro a S)
        refine wl_nil ?_
        refine xtn ?_
        refine c_cond S (fun h9 => ?_) (fun h9 => ?_)
        · refine c_seq ?_
          refine c_region ?_
          refine sq S ?_; clear S; intro a S
          refine sr S (tdec_c raw p7 raw.length c7 _ w rfl (by omega) (foots_lt S) (S.mem.fact (GlF p7 raw))) ?_; clear S; rintro _ a w ⟨z, nn, e, rfl, hzf, hcase⟩ S
          replace S := S.add hzf
          have hraw0 : raw ≠ [] := fun h => by rw [h] at h9; simp at h9
          have htd : z.t = (termD raw).1 ∧ (decide (e = 0) && decide (nn = (raw.length : Int))) = (termD raw).2 := by
            rw [termD, if_neg hraw0]
            rcases hcase with ⟨left, rest, hd, hnn, he⟩ | ⟨hd, hz, he⟩
            · rw [hd]
              refine ⟨rfl, ?_⟩
              rw [he, hnn]
              cases rest with
              | nil => simp
              | cons x rest => simp; omega
            · rw [hd, hz]
              refine ⟨rfl, ?_⟩
              simp [he]
          iterate 4 (refine sq S ?_; clear S; intro a S)
          refine sa S ?_; clear S; intro b10 a w S
          refine sw S ?_; clear S; intro a w S
          iterate 2 (refine sq S ?_; clear S; intro a S)
          refine wl_nil ?_
          refine xtn ?_
          refine c_seq ?_
          refine c_region ?_
          iterate 2 (refine sq S ?_; clear S; intro a S)
          iterate 2 (refine gQ S ?_; clear S; intro a S)
          iterate 2 (refine sq S ?_; clear S; intro a S)
          iterate 4 (refine gQ S ?_; clear S; intro a S)
          iterate 2 (refine sq S ?_; clear S; intro a S)
          refine wl_nil ?_
          refine xtn ?_
          refine c_region ?_
          iterate 2 (refine sq S ?_; clear S; intro a S)
          refine sw S ?_; clear S; intro a w S
          refine wl_nil ?_
          refine xtn ?_
          rw [show (Value.string ⟨nm.toArray⟩) = str nm from rfl] at S
          replace S := (((S.front (ext M)).front (rdI rd re)).front (Wk.row 45 6 p' k c' (encL xs))).front (Wk.box b9 45 [str nm, .int .i64 z.kind, .int .i64 z.user, .int .i64 z.num, str z.text, .slice z.p z.kids.length z.cap])
          exact ⟨z, _, S.uu, ⟨htd.1, by rw [← htd.2, Bool.and_assoc]⟩, S.sub _ _⟩
        · refine c_skip ?_
          refine xtn ?_
          have hraw0 : raw = [] := by
            cases hr : raw with
            | nil => rfl
            | cons x l => rw [hr] at h9; simp at h9
          have htd : termD raw = (zeroT, true) := by rw [termD, if_pos hraw0]
          rw [show ([.string ⟨nm.toArray⟩, .int .i64 0, .int .i64 0, .int .i64 0, .string ⟨#[]⟩, .slice none 0 0] : List Value) = [str nm, .int .i64 Wk.zeroL.kind, .int .i64 Wk.zeroL.user, .int .i64 Wk.zeroL.num, str Wk.zeroL.text, .slice Wk.zeroL.p Wk.zeroL.kids.length Wk.zeroL.cap] from rfl] at S
          replace S := S.add (Φ := LtF Wk.zeroL) (fun _ _ => zeroL_in _)
          replace S := (((S.front (ext M)).front (rdI rd re)).front (Wk.row 45 6 p' k c' (encL xs))).front (Wk.box b9 45 [str nm, .int .i64 Wk.zeroL.kind, .int .i64 Wk.zeroL.user, .int .i64 Wk.zeroL.num, str Wk.zeroL.text, .slice Wk.zeroL.p Wk.zeroL.kids.length Wk.zeroL.cap])
          exact ⟨Wk.zeroL, good, S.uu, ⟨by rw [htd]; rfl, by rw [htd, Bool.and_true]⟩, S.sub _ _⟩
      · clear S; rintro z g uu a w ⟨hzt, hg⟩ S
        refine c_region ?_
        iterate 2 (refine sq S ?_; clear S; intro a S)
        refine sn S ?_; clear S; intro b57 a w S
        have hke : (encL xs).length = k * 6 := by rw [encL_len, hkx]; rfl
        refine sap S (by simp [maxLen]; omega) (by omega) ?_; clear S; rintro p13 c13 a w - S
        rw [show encL xs ++ [str nm, .int .i64 z.kind, .int .i64 z.user, .int .i64 z.num, str z.text, .slice z.p z.kids.length z.cap] = encL (xs ++ [⟨nm, z⟩]) from by rw [encL_append]; rfl] at S
        have hA1 : Stable _ _ (AllI xs) := S.wd.facts (AllI xs) (by simp)
        have hA2 := S.t z
        replace S := S.add (Φ := AllI (xs ++ [(⟨nm, z⟩ : LRow)])) (fun w' hw' x hx => by
          rcases List.mem_append.1 hx with h | h
          · exact hA1 w' hw' x h
          · rw [List.mem_singleton.1 h]; exact hA2 w' hw')
        refine sq S ?_; clear S; intro a S
        refine wl_nil ?_
        refine xbn ?_
        refine xtn ?_
        refine c_region ?_
        iterate 2 (refine sq S ?_; clear S; intro a S)
        refine wl_nil ?_
        refine xtn ?_
        have hkl : k < N := by simp at h5; omega
        have hNk : N - k = (N - (k + 1)) + 1 := by omega
        have hst : SubR (takeR r0 1) re := ((((hsub.trans hsa).trans hsb).trans hsc).trans hse)
        rw [w64 ((k : Int) + 1) (by omega) (by omega)] at S
        refine ⟨k + 1, xs ++ [(⟨nm, z⟩ : LRow)], re, g, p13, c13, S.uu, ⟨by simp [hkx], hkl, hst, ?_, fun x hx => ?_⟩, S.sub [Wk.row 45 6 p13 (k + 1) c13 (encL (xs ++ [(⟨nm, z⟩ : LRow)])), rdI rd re, ext M] _, by omega⟩
        · rw [hrel, hNk, rowsD_step, hrow, hg, rsP, rsP, List.map_append]
          show preR (xs.map LRow.r ++ [⟨nm, (termD raw).1⟩]) _ _ = preR (xs.map LRow.r ++ [⟨nm, z.t⟩]) _ _
          rw [hzt]
        · rcases List.mem_append.1 hx with h | h
          · exact hnm x h
          · rw [List.mem_singleton.1 h]; exact hnml
    · refine c_exit ?_
      iterate 2 (refine xte ?_)
      refine xbe ?_
      refine xtn ?_
      refine c_seq ?_
      refine c_block ?_
      refine c_seq ?_
      have hkN : N - k = 0 := by simp at h5; omega
      rw [hkN] at hrel
      have hkle : k ≤ c' := own_le (S.row p' k)
      have hI1 : LenN xs k := ⟨hkx.symm⟩
      have hI2 : LeC k c' := ⟨hkle⟩
      have hI3 : LeC k 9223372036854775807 := ⟨by omega⟩
      have hI4 : NamesOk xs := ⟨fun x hx => by have := hnm x hx; omega⟩
      replace S := S.rowToGl p' xs (e := 45) (sz := 6) (n := k) (c := c') (S.wd.facts (AllI xs) (by simp))
      have hA : allD bs = (rsP xs, good, r.ab) := by rw [hrel]; simp [preR, rowsD]
      refine c_region ?_
      refine sq S ?_; clear S; intro a S
      refine sr S (errR_c rd r _ (BoxF.stable (S.box rd) (fun h => h))) ?_; clear S; rintro _ a w rfl S
      iterate 2 (refine sq S ?_; clear S; intro a S)
      refine wl_nil ?_
      refine xtn ?_
      refine c_cond S (fun h15 => ?_) (fun h15 => ?_)
      · refine c_seq ?_
        refine c_region ?_
        iterate 2 (refine sq S ?_; clear S; intro a S)
        refine wl_nil ?_
        refine xtn ?_
        refine c_ret ?_
        refine xbr ?_
        refine xtr ?_
        have hv : decV bs = ([], 7) := by rw [decV, hA, if_pos (show r.ab.2 = true from h15)]
        exact end2 S (fun _ => ⟨[], none, 0, 7, rfl, by rw [hv]; rfl, by rw [hv], fun _ _ => gl_nil, Nat.le_refl _, nofun⟩)
      · refine c_seq ?_
        refine c_region ?_
        iterate 3 (refine sq S ?_; clear S; intro a S)
        refine gQ S ?_; clear S; intro a S
        refine gC S ?_; clear S; intro a w S
        refine gQ S ?_; clear S; intro a S
        iterate 2 (refine sq S ?_; clear S; intro a S)
        iterate 3 (refine gQ S ?_; clear S; intro a S)
        iterate 2 (refine sq S ?_; clear S; intro a S)
        refine gQ S ?_; clear S; intro a S
        refine gC S ?_; clear S; intro a w S
        refine gQ S ?_; clear S; intro a S
        iterate 2 (refine sq S ?_; clear S; intro a S)
        refine wl_nil ?_
        refine xtn ?_
        refine c_cond S (fun h17 => ?_) (fun h17 => ?_)
        · refine c_seq ?_
          refine c_region ?_
          iterate 2 (refine sq S ?_; clear S; intro a S)
          refine wl_nil ?_
          refine xtn ?_
          refine c_ret ?_
          refine xbr ?_
          refine xtr ?_
          have h15' : ¬ r.ab.2 = true := by show ¬ (!decide (r.why = 0)) = true; rw [h15]; simp
          have hv : decV bs = ([], 2) := by
            rw [decV, hA, if_neg h15', if_pos]
            simp only [Bool.or_eq_true, Bool.not_eq_true', decide_eq_true_eq] at h17
            simp only [rsP_lenK]
            show good = false ∨ 0 < r.bs.length ∨ 64 < xs.length ∨ batchP (rsP xs) = false
            rcases h17 with ((h | h) | h) | h
            · exact .inl h
            · exact .inr (.inl (by omega))
            · exact .inr (.inr (.inl (by omega)))
            · exact .inr (.inr (.inr h))
          exact end2 S (fun _ => ⟨[], none, 0, 2, rfl, by rw [hv]; rfl, by rw [hv], fun _ _ => gl_nil, Nat.le_refl _, nofun⟩)
        · refine c_skip ?_
          refine xbn ?_
          refine xtn ?_
          refine c_seq ?_
          refine c_region ?_
          iterate 3 (refine sq S ?_; clear S; intro a S)
          refine wl_nil ?_
          refine xtn ?_
          refine c_ret ?_
          have h15' : ¬ r.ab.2 = true := by show ¬ (!decide (r.why = 0)) = true; rw [h15]; simp
          have hv : decV bs = (rsP xs, 0) := by
            rw [decV, hA, if_neg h15', if_neg]
            simp only [Bool.or_eq_false_iff, Bool.not_eq_false', decide_eq_false_iff_not] at h17
            simp only [rsP_lenK]
            show ¬ (good = false ∨ 0 < r.bs.length ∨ 64 < xs.length ∨ batchP (rsP xs) = false)
            rintro (h | h | h | h)
            · rw [h] at h17; simp at h17
            · omega
            · omega
            · rw [h] at h17; simp at h17
          have hgl : Stable M _ (GlF p' xs) := S.laterFact (M := M) (by simp)
          refine end2 S (fun _ => ?_)
          subst hkx
          exact ⟨xs, p', c', 0, rfl, by rw [hv], by rw [hv], hgl, hkle, hnm⟩
end Go.Proofs.YtdakncgafdnjfaaGreat
