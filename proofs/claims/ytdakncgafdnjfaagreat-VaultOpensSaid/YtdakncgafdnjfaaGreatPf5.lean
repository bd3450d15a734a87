/- 5: a part of this claim's texts, joined: ReaderC PlainDec RefOct Sha ShaB ShaC VaultA VaultB VaultC VaultD VaultE. -/
import Derived.Test.YtdakncgafdnjfaaGreatPf4
namespace Go.Proofs.YtdakncgafdnjfaaGreat
open Go Go.Wk
set_option synthInstance.maxSize 100000
set_option synthInstance.maxHeartbeats 400000
set_option maxRecDepth 100000
abbrev outI (bo : Nat) (p : Option Addr) (c : Nat) (bs : List UInt8) : Wk.Item := both (Wk.box bo 25 [.slice p bs.length c]) (Wk.row 5 1 p bs.length c (encL bs))
theorem offR_c (b bo : Nat) (r : RS) (k : Nat) (w0 : World) (hk : k ≤ 1000000000) (hc : r.bs.length ≤ r.c) (hl : r.bs.length ≤ 10000000) (hb : (both (Wk.box bo 25 [.slice none 0 0]) (rdI b r)).holds w0) (hx : Stable (both (Wk.box bo 25 [.slice none 0 0]) (rdI b r)).foot w0 (GlF r.p r.bs)) :
    Ret Tryz.prog 166 [.pointer (some ⟨b, 0, none⟩), .int .i64 (k : Int), .func (.func 167) #[] ⟨[.pointer (some ⟨bo, 0, none⟩)]⟩] w0 (both (Wk.box bo 25 [.slice none 0 0]) (rdI b r)).foot fun _ w' =>
      ∃ p' c', (both (outI bo p' c' (tookR r k)) (rdI b (takeR r k))).holds w' ∧ ∀ j, (both (outI bo p' c' (tookR r k)) (rdI b (takeR r k))).foot j → (both (Wk.box bo 25 [.slice none 0 0]) (rdI b r)).foot j ∨ w0.heap.size ≤ j := by
  refine enter Tryz.func166 rfl rfl (Wd.it2Lent (x := Wk.box bo 25 [.slice none 0 0]) (y := rdI b r) (fs := [GlF r.p r.bs]) hb rfl rfl (by simpa using hx)) (fun a S => ?_)
  simp only [Tryz.ntmps166, List.length_cons, List.length_nil, Nat.reduceAdd, Nat.reduceSub, List.replicate_succ, List.replicate_zero, List.cons_append, List.nil_append] at S
  refine c_block ?_; refine c_seq ?_; refine c_region ?_; (iterate 6 (refine sq S ?_; clear S; intro a S)); refine wl_nil ?_; refine xtn ?_
  refine c_cond S (fun h3 => ?_) (fun h3 => ?_)
  · refine c_skip ?_; refine xbn ?_
    have hw : ¬ r.why = 0 := by simpa using h3
    have hno : ¬ okR r k := fun h => hw h.1
    have e1 : takeR r k = r := by rw [takeR_no hno, if_neg hw]
    have e2 : tookR r k = [] := tookR_no hno
    replace S := S.addNil 5 1
    replace S := (((S.front (rdI b r)).front (Wk.row 5 1 none 0 0 [])).front (Wk.box bo 25 [.slice none 0 0])).toBoth.toBoth
    have h1 := S.it (both (both (Wk.box bo 25 [.slice none 0 0]) (Wk.row 5 1 none 0 0 [])) (rdI b r))
    have h2 := S.itNew (both (both (Wk.box bo 25 [.slice none 0 0]) (Wk.row 5 1 none 0 0 [])) (rdI b r)) rfl
    refine end0 S (fun _ => ?_)
    rw [e1, e2]
    exact ⟨none, 0, h1, h2⟩
  · refine c_seq ?_; refine c_region ?_; (iterate 2 (refine sq S ?_; clear S; intro a S))
    rw [show decide ((k : Int) < 0) = false from decide_eq_false (by omega)] at S
    refine sq S ?_; clear S; intro a S; refine wl_nil ?_; refine xtn ?_; refine c_condF S ?_; refine c_seq ?_; refine c_region ?_; (iterate 8 (refine sq S ?_; clear S; intro a S)); refine wl_nil ?_; refine xtn ?_
    refine c_cond S (fun h6 => ?_) (fun h6 => ?_)
    · refine c_region ?_; (iterate 3 (refine sq S ?_; clear S; intro a S)); refine sw S ?_; clear S; intro a w S; refine wl_nil ?_; refine xbn ?_
      have hw : r.why = 0 := by simpa using h3
      have hno : ¬ okR r k := fun h => by have := of_decide_eq_true h6; have := h.2; omega
      have e1 : takeR r k = ⟨r.p, r.c, r.bs, 7⟩ := by rw [takeR_no hno, if_pos hw]
      have e2 : tookR r k = [] := tookR_no hno
      replace S := S.addNil 5 1
      rw [show Wk.box b 238 [.slice r.p r.bs.length r.c, .int .i64 7] = rdI b ⟨r.p, r.c, r.bs, 7⟩ from rfl] at S
      replace S := (((S.front (rdI b ⟨r.p, r.c, r.bs, 7⟩)).front (Wk.row 5 1 none 0 0 [])).front (Wk.box bo 25 [.slice none 0 0])).toBoth.toBoth
      have h1 := S.it (both (both (Wk.box bo 25 [.slice none 0 0]) (Wk.row 5 1 none 0 0 [])) (rdI b ⟨r.p, r.c, r.bs, 7⟩))
      have h2 := S.itNew (both (both (Wk.box bo 25 [.slice none 0 0]) (Wk.row 5 1 none 0 0 [])) (rdI b ⟨r.p, r.c, r.bs, 7⟩)) rfl
      refine end0 S (fun _ => ?_)
      rw [e1, e2]
      exact ⟨none, 0, h1, h2⟩
    · refine c_seq ?_
      have hL1 : LeC k r.bs.length := ⟨by simp at h6; omega⟩
      have hL2 : LeC r.bs.length r.c := ⟨hc⟩
      have hL3 : LeC k r.c := ⟨by have := hL1.le; omega⟩
      refine c_region ?_; (iterate 7 (refine sq S ?_; clear S; intro a S)); refine wl_nil ?_; refine xtn ?_; refine c_seq ?_; refine c_region ?_; (iterate 9 (refine sq S ?_; clear S; intro a S)); refine sw S ?_; clear S; intro a w S; refine wl_nil ?_; refine xtn ?_; refine c_region ?_; (iterate 2 (refine sq S ?_; clear S; intro a S))
      have hok : okR r k := ⟨by simpa using h3, hL1.le⟩
      have hkl : (r.bs.take k).length = k := by rw [List.length_take]; have := hL1.le; omega
      refine sit (Wk.box bo 25 [.slice none 0 0]) S (raw1_c bo (r.bs.take k) r.p k r.c w hkl (by have := hL1.le; omega) (S.box bo) (S.lend (Wk.box bo 25 [.slice none 0 0]) ((S.mem.fact (GlF r.p r.bs)).imp fun _ h => h.take k))) rfl ?_; clear S; rintro _ a w ⟨p2, c2, hbx, hf2⟩ hS
      have S := hS (both (Wk.box bo 25 [.slice p2 k c2]) (Wk.row 5 1 p2 k c2 (encL (r.bs.take k)))) hbx hf2
      clear hS
      refine wl_nil ?_; refine xbn ?_
      have e1 : tookR r k = r.bs.take k := tookR_yes hok
      rw [show r.bs.length - k = (r.bs.drop k).length from (List.length_drop ..).symm, show r.why = 0 from hok.1] at S
      rw [show Wk.box b 238 [.slice (if r.c = k then r.p else r.p.map (·.add (k * 1))) (r.bs.drop k).length (r.c - k), .int .i64 0] = rdI b (takeR r k) from by rw [takeR_yes hok]] at S
      replace S := ((S.front (rdI b (takeR r k))).front (both (Wk.box bo 25 [.slice p2 k c2]) (Wk.row 5 1 p2 k c2 (encL (r.bs.take k))))).toBoth
      have h1 := S.it (both (both (Wk.box bo 25 [.slice p2 k c2]) (Wk.row 5 1 p2 k c2 (encL (r.bs.take k)))) (rdI b (takeR r k)))
      have h2 := S.itNew (both (both (Wk.box bo 25 [.slice p2 k c2]) (Wk.row 5 1 p2 k c2 (encL (r.bs.take k)))) (rdI b (takeR r k))) rfl
      have e3 : outI bo p2 c2 (tookR r k) = both (Wk.box bo 25 [.slice p2 k c2]) (Wk.row 5 1 p2 k c2 (encL (r.bs.take k))) := by rw [e1, outI, hkl]
      refine end0 S (fun _ => ⟨p2, c2, ?_, ?_⟩)
      · rw [e3]; exact h1
      · rw [e3]; exact h2
theorem rawR_c (b : Nat) (r : RS) (k : Nat) (w0 : World) (hk : k ≤ 1000000000) (hc : r.bs.length ≤ r.c) (hl : r.bs.length ≤ 10000000) (hb : (rdI b r).holds w0) (hx : Stable (fun k => k = b) w0 (GlF r.p r.bs)) :
    Ret Tryz.prog 68 [.pointer (some ⟨b, 0, none⟩), .int .i64 (k : Int)] w0 (fun k => k = b) fun v w' => ∃ p' c', v = .slice p' (tookR r k).length c' ∧ (both (Wk.row 5 1 p' (tookR r k).length c' (encL (tookR r k))) (rdI b (takeR r k))).holds w' ∧ ∀ j, (both (Wk.row 5 1 p' (tookR r k).length c' (encL (tookR r k))) (rdI b (takeR r k))).foot j → j = b ∨ w0.heap.size ≤ j := by
  refine enter Tryz.func68 rfl rfl (Wd.itLent (x := rdI b r) (fs := [GlF r.p r.bs]) hb (by intro Φ hΦ; obtain rfl := List.mem_singleton.1 hΦ; exact hx)) (fun a S => ?_)
  simp only [Tryz.ntmps68, List.length_cons, List.length_nil, Nat.reduceAdd, Nat.reduceSub, List.replicate_succ, List.replicate_zero, List.cons_append, List.nil_append] at S
  refine c_seq ?_; refine c_region ?_
  refine sa S ?_; clear S; intro b4 a w S
  refine wl_nil ?_; refine xtn ?_; (iterate 2 (refine c_seq ?_)); refine c_region ?_; (iterate 2 (refine sq S ?_; clear S; intro a S)); refine wl_nil ?_; refine xtn ?_; refine c_condT S ?_; refine c_region ?_; (iterate 5 (refine sq S ?_; clear S; intro a S))
  replace S := S.toBoth
  refine sit (both (Wk.box b4 25 [.slice none 0 0]) (rdI b r)) S (offR_c b b4 r k w hk hc hl (S.it (both (Wk.box b4 25 [.slice none 0 0]) (rdI b r))) (S.lend (both (Wk.box b4 25 [.slice none 0 0]) (rdI b r)) (S.mem.fact (GlF r.p r.bs)))) rfl ?_; clear S; rintro _ a w ⟨p2, c2, hbx, hf2⟩ hS
  have S := hS (both (outI b4 p2 c2 (tookR r k)) (rdI b (takeR r k))) hbx hf2
  clear hS
  replace S := S.ofBoth.ofBoth
  refine wl_nil ?_; refine xtn ?_; refine c_seq ?_; refine c_region ?_; refine sq S ?_; clear S; intro a S; refine sw S ?_; clear S; intro a w S; refine wl_nil ?_; refine xtn ?_; refine c_ret ?_
  replace S := ((S.front (rdI b (takeR r k))).front (Wk.row 5 1 p2 (tookR r k).length c2 (encL (tookR r k)))).toBoth
  have h1 := S.it (both (Wk.row 5 1 p2 (tookR r k).length c2 (encL (tookR r k))) (rdI b (takeR r k)))
  have h2 := S.itNew (both (Wk.row 5 1 p2 (tookR r k).length c2 (encL (tookR r k))) (rdI b (takeR r k))) rfl
  exact end1 S (fun _ => ⟨p2, c2, rfl, h1, h2⟩)
def numN (bs : List UInt8) (x : Nat) : Nat := bs.foldl (fun x c => 256 * x + c.toNat) x
theorem numN_cons (c : UInt8) (bs : List UInt8) (x : Nat) : numN (c :: bs) x = numN bs (256 * x + c.toNat) := rfl
theorem numN_lt (bs : List UInt8) : ∀ x : Nat, numN bs x < (x + 1) * 256 ^ bs.length := by
  induction bs with
  | nil => intro x; simp [numN]
  | cons c bs ih =>
    intro x
    rw [numN_cons]
    have h1 := ih (256 * x + c.toNat)
    have h2 := c.toNat_lt
    have h3 : (256 * x + c.toNat + 1) * 256 ^ bs.length ≤ (256 * (x + 1)) * 256 ^ bs.length := Nat.mul_le_mul_right _ (by omega)
    have h4 : (256 * (x + 1)) * 256 ^ bs.length = (x + 1) * 256 ^ (c :: bs).length := by
      rw [List.length_cons, Nat.pow_succ, Nat.mul_comm 256 (x + 1), Nat.mul_assoc, Nat.mul_comm 256]
    omega
theorem numB_nat (bs : List UInt8) : ∀ x : Nat, (x + 1) * 256 ^ bs.length ≤ 18446744073709551616 → numB bs (x : Int) = (numN bs x : Int) := by
  induction bs with
  | nil => intro x _; rfl
  | cons c bs ih =>
    intro x hx
    have h2 := c.toNat_lt
    have h5 : 1 ≤ 256 ^ bs.length := Nat.one_le_pow _ _ (by decide)
    have h4 : (256 * (x + 1)) * 256 ^ bs.length = (x + 1) * 256 ^ (c :: bs).length := by
      rw [List.length_cons, Nat.pow_succ, Nat.mul_comm 256 (x + 1), Nat.mul_assoc, Nat.mul_comm 256]
    have h6 : 256 * (x + 1) ≤ 18446744073709551616 := by
      have := Nat.mul_le_mul_left (256 * (x + 1)) h5
      omega
    have h3 : (256 * x + c.toNat + 1) * 256 ^ bs.length ≤ (256 * (x + 1)) * 256 ^ bs.length := Nat.mul_le_mul_right _ (by omega)
    rw [numN_cons, ← ih _ (by omega)]
    show numB bs (IntKind.u64.wrap (IntKind.u64.wrap (256 * (x : Int)) + (c.toNat : Int))) = _
    rw [wu64 (256 * (x : Int)) (by omega) (by omega), wu64 _ (by omega) (by omega)]
    norm_cast
theorem took_num (r : RS) (k : Nat) (hk : k ≤ 7) : numB (tookR r k) 0 = (numN (tookR r k) 0 : Int) ∧ numN (tookR r k) 0 < 256 ^ k := by
  have h1 := (tookR_len r k).1
  have h2 : 256 ^ (tookR r k).length ≤ 256 ^ k := Nat.pow_le_pow_right (by decide) h1
  have h3 : 256 ^ k ≤ 256 ^ 7 := Nat.pow_le_pow_right (by decide) hk
  have h4 : (256 : Nat) ^ 7 ≤ 18446744073709551616 := by decide
  have h5 := numN_lt (tookR r k) 0
  exact ⟨numB_nat _ 0 (by omega), by omega⟩
theorem u8R_c (b : Nat) (r : RS) (w0 : World) (hc : r.bs.length ≤ r.c) (hl : r.bs.length ≤ 10000000) (hb : (rdI b r).holds w0) (hx : Stable (fun k => k = b) w0 (GlF r.p r.bs)) :
    Ret Tryz.prog 67 [.pointer (some ⟨b, 0, none⟩)] w0 (fun k => k = b) fun v w' => v = .int .u8 (numN (tookR r 1) 0 : Nat) ∧ (rdI b (takeR r 1)).holds w' := by
  have hn := took_num r 1 (by decide)
  refine enter Tryz.func67 rfl rfl (Wd.itLent (x := rdI b r) (fs := [GlF r.p r.bs]) hb (by intro Φ hΦ; obtain rfl := List.mem_singleton.1 hΦ; exact hx)) (fun a S => ?_)
  simp only [Tryz.ntmps67, List.length_cons, List.length_nil, Nat.reduceAdd, Nat.reduceSub, List.replicate_succ, List.replicate_zero, List.cons_append, List.nil_append] at S
  refine c_seq ?_; refine c_region ?_; refine sq S ?_; clear S; intro a S; refine wl_nil ?_; refine xtn ?_; refine c_seq ?_; refine c_region ?_; refine sq S ?_; clear S; intro a S
  refine sit (rdI b r) S (weighR_c b r 1 _ (by decide) hc hl (S.it (rdI b r)) (S.lend (rdI b r) (S.mem.fact (GlF r.p r.bs)))) rfl ?_; clear S; rintro _ a w ⟨rfl, hh⟩ hS
  have S := hS (rdI b (takeR r 1)) hh (fun k h => .inl h)
  clear hS
  rw [hn.1] at S
  refine sq S ?_; clear S; intro a S
  rw [show IntKind.u8.wrap ((numN (tookR r 1) 0 : Nat) : Int) = ((numN (tookR r 1) 0 : Nat) : Int) from by
    unfold IntKind.wrap
    simp only [IntKind.bits, IntKind.signed, Bool.false_and]
    simp; omega] at S
  refine sq S ?_; clear S; intro a S; refine wl_nil ?_; refine xtn ?_; refine c_ret ?_
  have hh := S.it (rdI b (takeR r 1))
  exact end1 S (fun _ => ⟨rfl, hh⟩)
theorem u16R_c (b : Nat) (r : RS) (w0 : World) (hc : r.bs.length ≤ r.c) (hl : r.bs.length ≤ 10000000) (hb : (rdI b r).holds w0) (hx : Stable (fun k => k = b) w0 (GlF r.p r.bs)) :
    Ret Tryz.prog 69 [.pointer (some ⟨b, 0, none⟩)] w0 (fun k => k = b) fun v w' => v = .int .u16 (numN (tookR r 2) 0 : Nat) ∧ (rdI b (takeR r 2)).holds w' := by
  have hn := took_num r 2 (by decide)
  refine enter Tryz.func69 rfl rfl (Wd.itLent (x := rdI b r) (fs := [GlF r.p r.bs]) hb (by intro Φ hΦ; obtain rfl := List.mem_singleton.1 hΦ; exact hx)) (fun a S => ?_)
  simp only [Tryz.ntmps69, List.length_cons, List.length_nil, Nat.reduceAdd, Nat.reduceSub, List.replicate_succ, List.replicate_zero, List.cons_append, List.nil_append] at S
  refine c_seq ?_; refine c_region ?_; refine sq S ?_; clear S; intro a S; refine wl_nil ?_; refine xtn ?_; refine c_seq ?_; refine c_region ?_; refine sq S ?_; clear S; intro a S
  refine sit (rdI b r) S (weighR_c b r 2 _ (by decide) hc hl (S.it (rdI b r)) (S.lend (rdI b r) (S.mem.fact (GlF r.p r.bs)))) rfl ?_; clear S; rintro _ a w ⟨rfl, hh⟩ hS
  have S := hS (rdI b (takeR r 2)) hh (fun k h => .inl h)
  clear hS
  rw [hn.1] at S
  refine sq S ?_; clear S; intro a S
  rw [show IntKind.u16.wrap ((numN (tookR r 2) 0 : Nat) : Int) = ((numN (tookR r 2) 0 : Nat) : Int) from by
    unfold IntKind.wrap
    simp only [IntKind.bits, IntKind.signed, Bool.false_and]
    simp; omega] at S
  refine sq S ?_; clear S; intro a S; refine wl_nil ?_; refine xtn ?_; refine c_ret ?_
  have hh := S.it (rdI b (takeR r 2))
  exact end1 S (fun _ => ⟨rfl, hh⟩)
theorem errR_c (b : Nat) (r : RS) (w0 : World) (hb : Stable (fun _ => False) w0 (BoxF b 238 (cRS r))) : Ret Tryz.prog 71 [.pointer (some ⟨b, 0, none⟩)] w0 (fun _ => False) fun v _ => v = .int .i64 r.why := by
  refine enter Tryz.func71 rfl rfl (Wd.begin (fs := [BoxF b 238 (cRS r)]) (by simpa using hb)) (fun a S => ?_)
  simp only [Tryz.ntmps71, List.length_cons, List.length_nil, Nat.reduceAdd, Nat.reduceSub, List.replicate_succ, List.replicate_zero, List.cons_append, List.nil_append] at S
  refine c_seq ?_; refine c_region ?_; refine sq S ?_; clear S; intro a S; refine wl_nil ?_; refine xtn ?_; (iterate 2 (refine c_seq ?_)); refine c_region ?_; (iterate 2 (refine sq S ?_; clear S; intro a S)); refine wl_nil ?_; refine xtn ?_; refine c_condF S ?_; refine c_skip ?_; refine xtn ?_; refine c_seq ?_; refine c_region ?_; (iterate 6 (refine sq S ?_; clear S; intro a S)); refine wl_nil ?_; refine xtn ?_
  refine c_ret ?_
  exact end1 S (fun _ => rfl)
theorem readR_c (bs : List UInt8) (p : Option Addr) (n c : Nat) (w0 : World) (hn : bs.length = n) (hl : n ≤ 10000000) (hx : Stable (fun _ => False) w0 (GlF p bs)) :
    Ret Tryz.prog 66 [.slice p n c] w0 (fun _ => False) fun v w' => ∃ b p' c', v = .pointer (some ⟨b, 0, none⟩) ∧ (both (rdI b ⟨p', c', bs, 0⟩) (Wk.row 5 1 p' bs.length c' (encL bs))).holds w' ∧ ∀ k, (both (rdI b ⟨p', c', bs, 0⟩) (Wk.row 5 1 p' bs.length c' (encL bs))).foot k → w0.heap.size ≤ k := by
  subst hn
  refine enter Tryz.func66 rfl rfl (Wd.begin (fs := [GlF p bs]) (by simpa using hx)) (fun a S => ?_)
  simp only [Tryz.ntmps66, List.length_cons, List.length_nil, Nat.reduceAdd, Nat.reduceSub, List.replicate_succ, List.replicate_zero, List.cons_append, List.nil_append] at S
  refine c_seq ?_; refine c_region ?_; refine sq S ?_; clear S; intro a S; refine wl_nil ?_; refine xtn ?_; refine c_seq ?_; refine c_region ?_; refine sq S ?_; clear S; intro a S
  replace S := S.addNil 5 1
  refine sap S (by simp [maxLen]; omega) (by omega) ?_; clear S; rintro p2 c2 a w - S
  rw [List.nil_append, Nat.zero_add] at S
  (iterate 2 (refine sq S ?_; clear S; intro a S))
  refine sa S ?_; clear S; intro b7 a w S
  refine sq S ?_; clear S; intro a S; refine wl_nil ?_; refine xtn ?_; refine c_ret ?_
  replace S := ((S.front (Wk.row 5 1 p2 bs.length c2 (encL bs))).front (rdI b7 ⟨p2, c2, bs, 0⟩)).toBoth
  have h1 := S.it (both (rdI b7 ⟨p2, c2, bs, 0⟩) (Wk.row 5 1 p2 bs.length c2 (encL bs)))
  have h2 := S.itNew (both (rdI b7 ⟨p2, c2, bs, 0⟩) (Wk.row 5 1 p2 bs.length c2 (encL bs))) rfl
  exact end1 S (fun _ => ⟨b7, p2, c2, rfl, h1, fun k hk => (h2 k hk).elim (fun h => h.elim) id⟩)
abbrev DecE (α : Type) := Except Int α
def textD (k : Int) (bs : List UInt8) : DecE (List UInt8 × List UInt8) :=
  if hasF (fieldsOf k) 1 then
    match bs with
    | [] => .error 7
    | n :: bs => if 64 < n.toNat then .error 150 else if bs.length < n.toNat then .error 7 else .ok (bs.take n.toNat, bs.drop n.toNat)
  else .ok ([], bs)
def userD (k : Int) (bs : List UInt8) : DecE (Int × List UInt8) :=
  if hasF (fieldsOf k) 2 then
    match bs with
    | [] => .error 7
    | u :: bs => if 1 ≤ u.toNat ∧ u.toNat ≤ 6 then .ok ((u.toNat : Int), bs) else .error 150
  else .ok (0, bs)
def numD (k : Int) (bs : List UInt8) : DecE (Int × List UInt8) :=
  if hasF (fieldsOf k) 4 then (if bs.length < 2 then .error 7 else .ok ((numN (bs.take 2) 0 : Int), bs.drop 2)) else .ok (0, bs)
def kidsD (f : Nat → List UInt8 → DecE (Term × Nat × List UInt8)) : Nat → Nat → List UInt8 → DecE (List Term × Nat × List UInt8)
  | 0, left, bs => .ok ([], left, bs)
  | k + 1, left, bs => match f left bs with
    | .error e => .error e
    | .ok (t, left, bs) => match kidsD f k left bs with
      | .error e => .error e
      | .ok (ts, left, bs) => .ok (t :: ts, left, bs)
def kidsN (k : Int) : Nat := (kidsF (fieldsOf k)).toNat
def decT : Nat → Nat → List UInt8 → DecE (Term × Nat × List UInt8)
  | _, _, [] => .error 7
  | 0, _, _ :: _ => .error 150
  | m + 1, left, c :: bs =>
    if fieldsOf (c.toNat : Int) = 0 ∨ left = 0 then .error 150 else
    match textD (c.toNat : Int) bs with
    | .error e => .error e
    | .ok (s, bs) => match userD (c.toNat : Int) bs with
      | .error e => .error e
      | .ok (u, bs) => match numD (c.toNat : Int) bs with
        | .error e => .error e
        | .ok (n, bs) => match kidsD (decT m) (kidsN (c.toNat : Int)) (left - 1) bs with
          | .error e => .error e
          | .ok (ks, left, bs) => .ok (.mk (c.toNat : Int) u n s ks, left, bs)
def decB (f : Nat → List UInt8 → DecE (Term × Nat × List UInt8)) (left : Nat) (k : Int) (bs : List UInt8) : DecE (Term × Nat × List UInt8) :=
  match textD k bs with
  | .error e => .error e
  | .ok (s, bs) => match userD k bs with
    | .error e => .error e
    | .ok (u, bs) => match numD k bs with
      | .error e => .error e
      | .ok (n, bs) => match kidsD f (kidsN k) (left - 1) bs with
        | .error e => .error e
        | .ok (ks, left, bs) => .ok (.mk k u n s ks, left, bs)
theorem decT_nil (m left : Nat) : decT m left [] = .error 7 := by cases m <;> rfl
theorem decT_cons (m left : Nat) (c : UInt8) (bs : List UInt8) : decT m left (c :: bs) = if m = 0 ∨ fieldsOf (c.toNat : Int) = 0 ∨ left = 0 then .error 150 else decB (decT (m - 1)) left (c.toNat : Int) bs := by
  cases m with
  | zero => rw [if_pos (.inl rfl)]; rfl
  | succ m =>
    rw [decT]
    by_cases h : fieldsOf (c.toNat : Int) = 0 ∨ left = 0
    · rw [if_pos h, if_pos (.inr h)]
    · rw [if_neg h, if_neg (fun h2 => h2.elim (fun h => by cases h) h)]; rfl
def byteN (x wd k : Nat) : UInt8 := Wk.u8 (x / 256 ^ (wd - 1 - k) : Nat)
theorem rbyte_c (x wd k : Nat) (w0 : World) (hx : x < 18446744073709551616) (hw : wd ≤ 1000) (hk : k < wd) : Ret Tryz.prog 255 [.int .u64 (x : Nat), .int .i64 (wd : Nat), .int .i64 (k : Nat)] w0 (fun _ => False) fun v _ => v = .int .u8 ((byteN x wd k).toNat : Int) := by
  refine enter Tryz.func255 rfl rfl (Wd.start w0) (fun a S => ?_)
  simp only [Tryz.ntmps255, List.length_cons, List.length_nil, Nat.reduceAdd, Nat.reduceSub, List.replicate_succ, List.replicate_zero, List.cons_append, List.nil_append] at S
  refine c_seq ?_; refine c_region ?_; refine sq S ?_; clear S; intro a S; refine wl_nil ?_; refine xtn ?_; refine c_seq ?_; refine c_block ?_
  refine c_forb2 S (fun (j : Nat) (y : Nat) uu => [(0, .int .u64 (y : Nat)), (1, .int .i64 (j : Nat)), (4, uu 7), (0, uu 8), (0, uu 9), (0, uu 10), (0, uu 11), (0, uu 12), (0, uu 13), (0, uu 14)]) (fun (j : Nat) (y : Nat) => k ≤ j ∧ j ≤ wd - 1 ∧ y = x / 256 ^ (j - k)) (fun (j : Nat) (y : Nat) => wd - j) (k) (x) ?_ S.uu ?_ ?_
  · exact ⟨Nat.le_refl _, by omega, by rw [Nat.sub_self, Nat.pow_zero, Nat.div_one]⟩
  · first | exact S | exact S.sub _ _
  · clear S; rintro j y uu a w ⟨hj1, hj2, hy⟩ S
    (iterate 2 (refine c_seq ?_)); refine c_region ?_; (iterate 3 (refine sq S ?_; clear S; intro a S))
    rw [w64 ((wd : Int) - 1) (by omega) (by omega)] at S
    refine sq S ?_; clear S; intro a S; refine wl_nil ?_; refine xtn ?_
    refine c_cond S (fun h1 => ?_) (fun h1 => ?_)
    · refine c_skip ?_; refine xtn ?_; refine c_block ?_
      have hjl : j < wd - 1 := by simp at h1; omega
      have hyx : y ≤ x := by rw [hy]; exact Nat.div_le_self _ _
      have hNZ : NZ (256 : Int) := ⟨by decide⟩
      refine c_region ?_; (iterate 2 (refine sq S ?_; clear S; intro a S))
      rw [show ((y : Int).tdiv 256) = ((y / 256 : Nat) : Int) from rfl, wu64 _ (by omega) (by omega)] at S
      (iterate 2 (refine sq S ?_; clear S; intro a S))
      rw [w64 ((j : Int) + 1) (by omega) (by omega), show (j : Int) + 1 = ((j + 1 : Nat) : Int) from rfl] at S
      (iterate 2 (refine sq S ?_; clear S; intro a S)); refine wl_nil ?_; refine xbn ?_; refine xtn ?_
      refine ⟨j + 1, y / 256, S.uu, ⟨by omega, by omega, ?_⟩, S.sub _ _, by omega⟩
      rw [hy, Nat.div_div_eq_div_mul, ← Nat.pow_succ, show (j - k).succ = j + 1 - k from by omega]
    · refine c_exit ?_; (iterate 2 (refine xte ?_)); refine xbe ?_; refine xtn ?_; refine c_seq ?_; refine c_region ?_; refine sq S ?_; clear S; intro a S
      have hNZ : NZ (256 : Int) := ⟨by decide⟩
      have hyx : y ≤ x := by rw [hy]; exact Nat.div_le_self _ _
      refine sq S ?_; clear S; intro a S
      rw [show ((y : Int).tmod 256) = ((y % 256 : Nat) : Int) from rfl] at S
      (iterate 2 (refine sq S ?_; clear S; intro a S)); refine wl_nil ?_; refine xtn ?_; refine c_ret ?_
      have hjw : j = wd - 1 := by simp at h1; omega
      refine end1 S (fun _ => ?_)
      rw [u8_wrap, byteN]
      have : Wk.u8 ((y % 256 : Nat) : Int) = Wk.u8 ((x / 256 ^ (wd - 1 - k) : Nat) : Int) := by
        rw [hy, hjw]
        unfold Wk.u8
        congr 1
        omega
      rw [this]
def beN (w x : Nat) : List UInt8 := (List.range w).map fun k => byteN x w k
theorem beN_len (w x : Nat) : (beN w x).length = w := by simp [beN]
theorem beN_take (w x k : Nat) (h : k < w) : (beN w x).take (k + 1) = (beN w x).take k ++ [byteN x w k] := by
  have hl : k < (beN w x).length := by rw [beN_len]; exact h
  rw [List.take_succ_eq_append_getElem hl]
  congr 2
  simp [beN]
theorem rhigh_c (x wd : Nat) (w0 : World) (hx : x < 18446744073709551616) (hw : wd ≤ 1000) : Ret Tryz.prog 215 [.int .u64 (x : Nat), .int .i64 (wd : Nat)] w0 (fun _ => False) fun v w' =>
    ∃ (p' : Option Addr) (c' : Nat), v = .slice p' (beN wd x).length c' ∧ w'.ownsRow 0 5 1 (.slice p' (beN wd x).length c') (beN wd x).length (encL (beN wd x)) ∧ ∀ ad, p' = some ad → w0.heap.size ≤ ad.block := by
  refine enter Tryz.func215 rfl rfl (Wd.start w0) (fun a S => ?_)
  simp only [Tryz.ntmps215, List.length_cons, List.length_nil, Nat.reduceAdd, Nat.reduceSub, List.replicate_succ, List.replicate_zero, List.cons_append, List.nil_append] at S
  refine c_seq ?_; refine c_region ?_; refine sq S ?_; clear S; intro a S; refine wl_nil ?_; refine xtn ?_; refine c_seq ?_; refine c_region ?_; refine sq S ?_; clear S; intro a S; refine wl_nil ?_; refine xtn ?_; (iterate 2 (refine c_seq ?_)); refine c_region ?_; refine sq S ?_; clear S; intro a S; refine wl_nil ?_; refine xtn ?_; refine c_block ?_
  refine c_forf4 S (fun (k : Nat) (b : List UInt8) (p' : Option Addr) (c' : Nat) uu => [(5, .slice p' b.length c'), (0, .int .i64 (k : Nat)), (0, uu 7), (0, uu 8), (0, uu 9), (0, uu 10), (0, uu 11), (0, uu 12), (0, uu 13), (0, uu 14), (0, uu 15), (0, uu 16), (0, uu 17), (0, uu 18)]) (fun (k : Nat) (b : List UInt8) (p' : Option Addr) (c' : Nat) => [Wk.row 5 1 p' b.length c' (encL b)]) (fun (k : Nat) (b : List UInt8) (p' : Option Addr) (c' : Nat) => k ≤ wd ∧ b = (beN wd x).take k) (fun (k : Nat) (b : List UInt8) (p' : Option Addr) (c' : Nat) => wd - k) (0) ([]) (none) (0) ?_ S.uu ?_ ?_
  · exact ⟨Nat.zero_le _, rfl⟩
  · replace S := S.addNil 5 1
    rw [show Wk.row 5 1 none 0 0 [] = Wk.row 5 1 none 0 0 (encL ([] : List UInt8)) from rfl] at S
    exact S.sub _ _
  · clear S; rintro k b p' c' uu a w ⟨hk, hb⟩ S
    (iterate 2 (refine c_seq ?_)); refine c_region ?_; (iterate 3 (refine sq S ?_; clear S; intro a S)); refine wl_nil ?_; refine xtn ?_
    refine c_cond S (fun h3 => ?_) (fun h3 => ?_)
    · refine c_skip ?_; refine xtn ?_; refine c_seq ?_; refine c_block ?_
      have hkl : k < wd := by simp at h3; omega
      have hbl : b.length = k := by rw [hb, List.length_take, beN_len]; omega
      refine c_region ?_; (iterate 4 (refine sq S ?_; clear S; intro a S))
      refine sr S (rbyte_c x wd k _ hx hw hkl) ?_; clear S; rintro _ a w1 rfl S
      refine sn S ?_; clear S; intro b17 a w S
      refine sap S (by simp [maxLen]; omega) (by omega) ?_; clear S; rintro p1 c1 a w1 - S
      rw [show encL b ++ [Value.int .u8 ((byteN x wd k).toNat : Int)] = encL (b ++ [byteN x wd k]) from by rw [encL_append]; rfl, show b.length + 1 = (b ++ [byteN x wd k]).length from by simp] at S
      refine sq S ?_; clear S; intro a S; refine wl_nil ?_; refine xbn ?_; refine xtn ?_; refine c_region ?_; (iterate 2 (refine sq S ?_; clear S; intro a S))
      rw [w64 ((k : Int) + 1) (by omega) (by omega), show (k : Int) + 1 = ((k + 1 : Nat) : Int) from rfl] at S
      refine sq S ?_; clear S; intro a S; refine wl_nil ?_; refine xtn ?_
      exact ⟨k + 1, b ++ [byteN x wd k], p1, c1, S.uu, ⟨hkl, by rw [beN_take wd x k hkl, ← hb]⟩, S.sub _ _, by omega⟩
    · refine c_exit ?_; (iterate 2 (refine xte ?_)); refine xbe ?_; refine xtn ?_; refine c_seq ?_; refine c_region ?_; (iterate 2 (refine sq S ?_; clear S; intro a S)); refine wl_nil ?_; refine xtn ?_; refine c_ret ?_
      have hk2 : k = wd := by simp at h3; omega
      obtain rfl : b = beN wd x := by rw [hb, List.take_of_length_le (by rw [beN_len]; omega)]
      have hrow := S.row p' (beN wd x).length
      have hnew := S.rowNew p' (beN wd x).length
      exact end1 S (fun _ => ⟨p', c', rfl, hrow, fun ad h => (hnew ad h).elim (fun h => h.elim) id⟩)
theorem enc_rep8 : ∀ n : Nat, encL (List.replicate n (0 : UInt8)) = List.replicate n (Value.int .u8 0)
  | 0 => rfl
  | n + 1 => by rw [List.replicate_succ, List.replicate_succ, encL_cons, enc_rep8 n]; rfl
theorem nthG_left {xs ys : List UInt8} {k : Nat} (h : k < xs.length) : nthG (xs ++ ys) k = nthG xs k := by
  have h1 := nthG_get (xs := xs ++ ys) (k := k) (by rw [List.length_append]; omega)
  have h2 := nthG_get h
  rw [List.getElem?_append_left h, h2] at h1
  exact (Option.some.inj h1).symm
theorem nthG_right {xs ys : List UInt8} {k : Nat} (h : xs.length ≤ k) (h2 : k < xs.length + ys.length) : nthG (xs ++ ys) k = nthG ys (k - xs.length) := by
  have h1 := nthG_get (xs := xs ++ ys) (k := k) (by rw [List.length_append]; omega)
  have h3 := nthG_get (xs := ys) (k := k - xs.length) (by omega)
  rw [List.getElem?_append_right h, h3] at h1
  exact (Option.some.inj h1).symm
theorem fill_step {ab : List UInt8} {k n : Nat} (hn : ab.length = n) (hk : k < n) (y : UInt8) (hy : y = nthG ab k) :
    (encL (ab.take k ++ List.replicate (n - k) 0)).take k ++ [.int .u8 (y.toNat : Int)] ++ (encL (ab.take k ++ List.replicate (n - k) 0)).drop (k + [Value.int .u8 (y.toNat : Int)].length) = encL (ab.take (k + 1) ++ List.replicate (n - (k + 1)) 0) := by
  have h1 : (ab.take k).length = k := by rw [List.length_take]; omega
  have h2 : List.replicate (n - k) (0 : UInt8) = 0 :: List.replicate (n - (k + 1)) 0 := by rw [show n - k = (n - (k + 1)) + 1 from by omega, List.replicate_succ]
  have := enc_set1 (ab.take k) (List.replicate (n - (k + 1)) 0) 0 y
  rw [h1] at this
  rw [h2, List.length_singleton, this, take_snocG (by omega), ← hy]
  simp
theorem both_c (xs ys : List UInt8) (p q : Option Addr) (n m c d : Nat) (w0 : World) (hn : xs.length = n) (hm : ys.length = m) (hl : n + m ≤ 1073741824) (fx : Stable (fun _ => False) w0 (GlF p xs)) (fy : Stable (fun _ => False) w0 (GlF q ys)) :
    Ret Tryz.prog 216 [.slice p n c, .slice q m d] w0 (fun _ => False) fun v w' =>
    ∃ (p' : Option Addr) (c' : Nat), v = .slice p' (xs ++ ys).length c' ∧ w'.ownsRow 0 5 1 (.slice p' (xs ++ ys).length c') (xs ++ ys).length (encL (xs ++ ys)) ∧ ∀ ad, p' = some ad → w0.heap.size ≤ ad.block := by
  subst hn hm
  obtain ⟨N, hN⟩ : ∃ N, N = xs.length + ys.length := ⟨_, rfl⟩
  obtain ⟨zs, hzs⟩ : ∃ zs, zs = xs ++ ys := ⟨_, rfl⟩
  have hzl : zs.length = N := by rw [hzs, List.length_append, hN]
  refine enter Tryz.func216 rfl rfl (Wd.begin (fs := [GlF p xs, GlF q ys]) (by simp; exact ⟨fx, fy⟩)) (fun a S => ?_)
  simp only [Tryz.ntmps216, List.length_cons, List.length_nil, Nat.reduceAdd, Nat.reduceSub, List.replicate_succ, List.replicate_zero, List.cons_append, List.nil_append] at S
  refine c_seq ?_; refine c_region ?_; refine sq S ?_; clear S; intro a S; refine wl_nil ?_; refine xtn ?_; refine c_seq ?_; refine c_region ?_; (iterate 5 (refine sq S ?_; clear S; intro a S))
  rw [w64 ((xs.length : Int) + ys.length) (by omega) (by omega), show (xs.length : Int) + ys.length = ((N : Nat) : Int) from by omega] at S
  refine smk N S rfl rfl (by omega) (by simp only [maxLen]; omega) ?_; clear S; intro g a w S
  rw [show (List.replicate N [Value.int .u8 0]).flatten = encL (zs.take 0 ++ List.replicate (N - 0) (0 : UInt8)) from by have := drop_rep 0 N (Value.int .u8 0); rw [Nat.zero_mul, List.drop_zero, Nat.zero_add] at this; rw [this, List.take_zero, List.nil_append, Nat.sub_zero, enc_rep8]] at S
  refine sq S ?_; clear S; intro a S; refine wl_nil ?_; refine xtn ?_; (iterate 2 (refine c_seq ?_)); refine c_region ?_; (iterate 3 (refine sq S ?_; clear S; intro a S)); refine wl_nil ?_; refine xtn ?_; refine c_block ?_
  refine c_forf1 S (fun (k : Nat) uu => [(6, uu 6), (8, .int .i64 (k : Nat)), (0, uu 16), (0, uu 17), (0, uu 18), (0, uu 19), (0, uu 20), (0, uu 21), (0, uu 22), (0, uu 23), (0, uu 24), (0, uu 25), (0, uu 26), (0, uu 27), (0, uu 28), (0, uu 29), (0, uu 30), (0, uu 31), (0, uu 32), (0, uu 33), (0, uu 34), (0, uu 35), (0, uu 36), (0, uu 37), (0, uu 38), (0, uu 39)]) (fun (k : Nat) => [Wk.row 5 1 (some ⟨g, 0, none⟩) N N (encL (zs.take k ++ List.replicate (N - k) 0))]) (fun (k : Nat) => k ≤ N) (fun (k : Nat) => N - k) (0) ?_ S.uu ?_ ?_
  · exact Nat.zero_le _
  · first | exact S | exact S.sub _ _
  · clear S; rintro k uu a w hk S
    refine c_seq ?_; refine c_region ?_; refine sq S ?_; clear S; intro a S; refine wl_nil ?_; refine xtn ?_; refine c_seq ?_
    refine c_cond S (fun h3 => ?_) (fun h3 => ?_)
    · refine c_skip ?_; refine xtn ?_; refine c_seq ?_; refine c_block ?_; refine c_seq ?_
      have hkl : k < N := by simp at h3; omega
      have hKN : KLt k N := ⟨hkl⟩
      refine c_region ?_; (iterate 2 (refine sq S ?_; clear S; intro a S)); refine wl_nil ?_; refine xtn ?_; refine c_seq ?_; refine c_region ?_; (iterate 4 (refine sq S ?_; clear S; intro a S)); refine wl_nil ?_; refine xtn ?_
      refine c_cond S (fun h5 => ?_) (fun h5 => ?_)
      · have hkx : k < xs.length := by simpa using h5
        have hK : KLt k xs.length := ⟨hkx⟩
        refine c_region ?_; (iterate 7 (refine sq S ?_; clear S; intro a S))
        rw [show (⟨g, k, none⟩ : Addr) = rAddr (some ⟨g, 0, none⟩) k from by rw [rAddr, Option.getD_some, add_lit]] at S
        refine sws S N (by omega) (by omega) ?_; clear S; intro a w S
        rw [fill_step hzl hkl (nthG xs k) (by rw [hzs]; exact (nthG_left hkx).symm)] at S
        refine wl_nil ?_; refine xbn ?_; refine xtn ?_; refine c_region ?_; (iterate 2 (refine sq S ?_; clear S; intro a S)); refine wl_nil ?_; refine xtn ?_
        rw [w64 ((k : Int) + 1) (by omega) (by omega)] at S
        exact ⟨k + 1, S.uu, hkl, S.sub _ _, by omega⟩
      · refine c_region ?_; (iterate 6 (refine sq S ?_; clear S; intro a S))
        have hkx : ¬ k < xs.length := by simpa using h5
        refine sq S ?_; clear S; intro a S
        rw [w64 ((k : Int) - xs.length) (by omega) (by omega), show (k : Int) - xs.length = ((k - xs.length : Nat) : Int) from by omega] at S
        have hK : KLt (k - xs.length) ys.length := ⟨by omega⟩
        (iterate 3 (refine sq S ?_; clear S; intro a S))
        rw [show (⟨g, k, none⟩ : Addr) = rAddr (some ⟨g, 0, none⟩) k from by rw [rAddr, Option.getD_some, add_lit]] at S
        refine sws S N (by omega) (by omega) ?_; clear S; intro a w S
        rw [fill_step hzl hkl (nthG ys (k - xs.length)) (by rw [hzs]; exact (nthG_right (by omega) (by omega)).symm)] at S
        refine wl_nil ?_; refine xbn ?_; refine xtn ?_; refine c_region ?_; (iterate 2 (refine sq S ?_; clear S; intro a S)); refine wl_nil ?_; refine xtn ?_
        rw [w64 ((k : Int) + 1) (by omega) (by omega)] at S
        exact ⟨k + 1, S.uu, hkl, S.sub _ _, by omega⟩
    · refine c_exit ?_; (iterate 2 (refine xte ?_)); refine xbe ?_; refine xtn ?_; refine c_seq ?_; refine c_region ?_; (iterate 2 (refine sq S ?_; clear S; intro a S)); refine wl_nil ?_; refine xtn ?_; refine c_ret ?_
      have hk2 : k = N := by simp at h3; omega
      subst hk2
      rw [List.take_of_length_le (by omega), Nat.sub_self, List.replicate_zero, List.append_nil] at S
      have hrow := S.row (some ⟨g, 0, none⟩) k
      have hnew := S.rowNew (some ⟨g, 0, none⟩) k
      rw [← hzs, hzl]
      exact end1 S (fun _ => ⟨_, _, rfl, hrow, fun ad h => (hnew ad h).elim (fun h => h.elim) id⟩)
theorem oread_c (bs : List UInt8) (p : Option Addr) (n c : Nat) (w0 : World) (hn : bs.length = n) (hl : n ≤ 1000000) (hx : Stable (fun _ => False) w0 (GlF p bs)) :
    Ret Tryz.prog 66 [.slice p n c] w0 (fun _ => False) fun v w' => ∃ (b : Nat) (q : Option Addr) (e : Nat), v = .pointer (some ⟨b, 0, none⟩) ∧ w0.heap.size ≤ b ∧ (Wk.box b 238 [.slice q bs.length e, .int .i64 0]).holds w' ∧ bs.length ≤ e ∧ Stable (fun k => k < w0.heap.size ∨ k = b) w' (GlF q bs) := by
  subst hn
  refine enter Tryz.func66 rfl rfl (Wd.begin (fs := [GlF p bs]) (by simpa using hx)) (fun a S => ?_)
  simp only [Tryz.ntmps66, List.length_cons, List.length_nil, Nat.reduceAdd, Nat.reduceSub, List.replicate_succ, List.replicate_zero, List.cons_append, List.nil_append] at S
  refine c_seq ?_; refine c_region ?_; refine sq S ?_; clear S; intro a S; refine wl_nil ?_; refine xtn ?_; refine c_seq ?_; refine c_region ?_; refine sq S ?_; clear S; intro a S
  replace S := S.addNil 5 1
  refine sap S (by simp [maxLen]; omega) (by omega) ?_; clear S; rintro p1 c1 a w - S
  rw [List.nil_append, Nat.zero_add] at S
  have hc1 := own_le (S.row p1 bs.length)
  (iterate 2 (refine sq S ?_; clear S; intro a S))
  refine sa S ?_; clear S; intro b7 a w S
  refine sq S ?_; clear S; intro a S; refine wl_nil ?_; refine xtn ?_; refine c_ret ?_
  have hb := (S.boxNew b7).elim (fun h => h.elim) id
  have hh := S.box b7
  have hrow := S.row p1 bs.length
  have hnew := S.rowNew p1 bs.length
  have hap := fun k hk => St.apart2 S (Wk.box b7 238 [.slice p1 bs.length c1, .int .i64 0]) (Wk.row 5 1 p1 bs.length c1 (encL bs)) k hk
  refine end1 S (fun _ => ?_)
  refine ⟨b7, p1, c1, rfl, hb, hh, hc1, gl_own hrow (fun _ _ _ _ => trivial) (fun ad had hm => ?_)⟩
  rcases hm with h | h
  · exact (hnew ad had).elim (fun h => h.elim) (fun h2 => by omega)
  · exact hap b7 rfl ⟨ad, had, h.symm⟩
def u32B (bs : List UInt8) : Int := IntKind.u32.wrap (numB (bs.take 4) 0)
def u16B (bs : List UInt8) : Int := IntKind.u16.wrap (numB (bs.take 2) 0)
theorem u32_c (b : Nat) (bs : List UInt8) (p : Option Addr) (c : Nat) (w0 : World) (hk : 4 ≤ bs.length) (hc : bs.length ≤ c) (hl : bs.length ≤ 1000000) (hb : (Wk.box b 238 [.slice p bs.length c, .int .i64 0]).holds w0) (hx : Stable (fun k => k = b) w0 (GlF p bs)) :
    Ret Tryz.prog 217 [.pointer (some ⟨b, 0, none⟩)] w0 (fun k => k = b) fun v w' => v = .int .u32 (u32B bs) ∧
      (Wk.box b 238 [.slice (if c = 4 then p else p.map (·.add (4 * 1))) (bs.length - 4) (c - 4), .int .i64 0]).holds w' := by
  refine enter Tryz.func217 rfl rfl (Wd.itLent (x := Wk.box b 238 [.slice p bs.length c, .int .i64 0]) (fs := [GlF p bs]) hb (by intro Φ hΦ; obtain rfl := List.mem_singleton.1 hΦ; exact hx)) (fun a S => ?_)
  simp only [Tryz.ntmps217, List.length_cons, List.length_nil, Nat.reduceAdd, Nat.reduceSub, List.replicate_succ, List.replicate_zero, List.cons_append, List.nil_append] at S
  refine c_seq ?_; refine c_region ?_; refine sq S ?_; clear S; intro a S; refine wl_nil ?_; refine xtn ?_; refine c_seq ?_; refine c_region ?_; refine sq S ?_; clear S; intro a S
  refine sit (Wk.box b 238 [.slice p bs.length c, .int .i64 0]) S (weigh_c b bs p c 4 _ hk hc (by omega) (S.box b) (S.lend (Wk.box b 238 [.slice p bs.length c, .int .i64 0]) (S.mem.fact (GlF p bs)))) rfl ?_; clear S; rintro _ a w ⟨rfl, hbx⟩ hS
  have S := hS (Wk.box b 238 [.slice (if c = 4 then p else p.map (·.add (4 * 1))) (bs.length - 4) (c - 4), .int .i64 0]) hbx (fun k h => .inl h)
  clear hS
  (iterate 2 (refine sq S ?_; clear S; intro a S)); refine wl_nil ?_; refine xtn ?_; refine c_ret ?_
  have hh := S.box b
  refine end1 S (fun _ => ?_)
  exact ⟨rfl, hh⟩
theorem u16_c (b : Nat) (bs : List UInt8) (p : Option Addr) (c : Nat) (w0 : World) (hk : 2 ≤ bs.length) (hc : bs.length ≤ c) (hl : bs.length ≤ 1000000) (hb : (Wk.box b 238 [.slice p bs.length c, .int .i64 0]).holds w0) (hx : Stable (fun k => k = b) w0 (GlF p bs)) :
    Ret Tryz.prog 69 [.pointer (some ⟨b, 0, none⟩)] w0 (fun k => k = b) fun v w' => v = .int .u16 (u16B bs) ∧
      (Wk.box b 238 [.slice (if c = 2 then p else p.map (·.add (2 * 1))) (bs.length - 2) (c - 2), .int .i64 0]).holds w' := by
  refine enter Tryz.func69 rfl rfl (Wd.itLent (x := Wk.box b 238 [.slice p bs.length c, .int .i64 0]) (fs := [GlF p bs]) hb (by intro Φ hΦ; obtain rfl := List.mem_singleton.1 hΦ; exact hx)) (fun a S => ?_)
  simp only [Tryz.ntmps69, List.length_cons, List.length_nil, Nat.reduceAdd, Nat.reduceSub, List.replicate_succ, List.replicate_zero, List.cons_append, List.nil_append] at S
  refine c_seq ?_; refine c_region ?_; refine sq S ?_; clear S; intro a S; refine wl_nil ?_; refine xtn ?_; refine c_seq ?_; refine c_region ?_; refine sq S ?_; clear S; intro a S
  refine sit (Wk.box b 238 [.slice p bs.length c, .int .i64 0]) S (weigh_c b bs p c 2 _ hk hc (by omega) (S.box b) (S.lend (Wk.box b 238 [.slice p bs.length c, .int .i64 0]) (S.mem.fact (GlF p bs)))) rfl ?_; clear S; rintro _ a w ⟨rfl, hbx⟩ hS
  have S := hS (Wk.box b 238 [.slice (if c = 2 then p else p.map (·.add (2 * 1))) (bs.length - 2) (c - 2), .int .i64 0]) hbx (fun k h => .inl h)
  clear hS
  (iterate 2 (refine sq S ?_; clear S; intro a S)); refine wl_nil ?_; refine xtn ?_; refine c_ret ?_
  have hh := S.box b
  refine end1 S (fun _ => ?_)
  exact ⟨rfl, hh⟩
def turnF (x : Int) (n : Nat) : Int := ior .u32 (x.fdiv (2 ^ (min n IntKind.u32.bits))) (IntKind.u32.wrap (x * 2 ^ (min (32 - n) IntKind.u32.bits)))
def pushF (x : Int) (n : Nat) : Int := x.fdiv (2 ^ (min n IntKind.u32.bits))
theorem turned_c (x : Int) (n : Nat) (hn : n ≤ 32) (w0 : World) : Ret Tryz.prog 274 [.int .u32 x, .int .i64 (n : Int)] w0 (fun _ => False) fun v _ => v = .int .u32 (turnF x n) := by
  refine enter Tryz.func274 rfl rfl (Wd.start w0) (fun a S => ?_)
  simp only [Tryz.ntmps274, List.length_cons, List.length_nil, Nat.reduceAdd, Nat.reduceSub, List.replicate_succ, List.replicate_zero, List.cons_append, List.nil_append] at S
  refine c_seq ?_; refine c_region ?_; refine sq S ?_; clear S; intro a S; refine wl_nil ?_; refine xtn ?_; refine c_seq ?_
  refine c_drawD [(0, true), (1, true), (2, true), (3, true), (4, true), (5, true), (6, true), (7, true), (8, true)] [] S ?_; clear S; intro w S
  (iterate 6 (refine dq S ?_; clear S; intro a S))
  rw [show IntKind.i64.wrap (32 - (n : Int)) = ((32 - n : Nat) : Int) from by rw [w64 _ (by omega) (by omega)]; omega] at S
  (iterate 3 (refine dq S ?_; clear S; intro a S)); refine dn ?_; refine xtn ?_; refine c_ret ?_
  refine end1 S (fun _ => rfl)
theorem pushed_c (x : Int) (n : Nat) (w0 : World) : Ret Tryz.prog 273 [.int .u32 x, .int .i64 (n : Int)] w0 (fun _ => False) fun v _ => v = .int .u32 (pushF x n) := by
  refine enter Tryz.func273 rfl rfl (Wd.start w0) (fun a S => ?_)
  simp only [Tryz.ntmps273, List.length_cons, List.length_nil, Nat.reduceAdd, Nat.reduceSub, List.replicate_succ, List.replicate_zero, List.cons_append, List.nil_append] at S
  refine c_seq ?_; refine c_region ?_; refine sq S ?_; clear S; intro a S; refine wl_nil ?_; refine xtn ?_; refine c_seq ?_; refine c_region ?_; (iterate 4 (refine sq S ?_; clear S; intro a S)); refine wl_nil ?_; refine xtn ?_; refine c_ret ?_
  refine end1 S (fun _ => rfl)
def mixF (G : Int → Nat → Int) (a b c : Nat) (x : Int) : Int := ixor .u32 (ixor .u32 (turnF x a) (turnF x b)) (G x c)
theorem mix_c (F : Nat) [EntF Tryz.prog F] (G : Int → Nat → Int) (na nb nc : Nat) (x : Int) (ha : na ≤ 32) (hb : nb ≤ 32) (hF : ∀ w, Ret Tryz.prog F [.int .u32 x, .int .i64 (nc : Int)] w (fun _ => False) fun v _ => v = .int .u32 (G x nc)) (w0 : World) :
    Ret Tryz.prog 276 [.agg ⟨[.int .i64 (na : Int), .int .i64 (nb : Int), .int .i64 (nc : Int), .func (.func F) #[] #[]]⟩, .int .u32 x] w0 (fun _ => False) fun v _ => v = .int .u32 (mixF G na nb nc x) := by
  refine enter Tryz.func276 rfl rfl (Wd.start w0) (fun a S => ?_)
  simp only [Tryz.ntmps276, List.length_cons, List.length_nil, Nat.reduceAdd, Nat.reduceSub, List.replicate_succ, List.replicate_zero, List.cons_append, List.nil_append] at S
  refine c_seq ?_; refine c_region ?_
  refine sa S ?_; clear S; intro b2 a w S
  refine sq S ?_; clear S; intro a S; refine wl_nil ?_; refine xtn ?_; refine c_seq ?_
  refine c_drawD [(0, true), (1, true), (2, true), (4, true), (5, true), (6, true), (9, true), (10, true), (11, true), (12, true), (13, true), (3, false), (7, false), (8, true), (14, false), (15, true), (16, true)] [] S ?_; clear S; intro w S
  (iterate 11 (refine dq S ?_; clear S; intro a S)); refine dl ?_
  refine sr S (turned_c x na ha _) ?_; clear S; rintro _ act w rfl S
  refine de S ?_; refine dl ?_
  refine sr S (turned_c x nb hb _) ?_; clear S; rintro _ act w rfl S
  refine de S ?_; refine dq S ?_; clear S; intro a S; refine dl ?_
  refine sr S (hF _) ?_; clear S; rintro _ act w rfl S
  refine de S ?_; (iterate 2 (refine dq S ?_; clear S; intro a S)); refine dn ?_; refine xtn ?_; refine c_ret ?_
  refine end1 S (fun _ => rfl)
theorem pushmix_c (a b c : Nat) (x : Int) (ha : a ≤ 32) (hb : b ≤ 32) (w0 : World) : Ret Tryz.prog 276 [.agg ⟨[.int .i64 (a : Int), .int .i64 (b : Int), .int .i64 (c : Int), .func (.func 273) #[] #[]]⟩, .int .u32 x] w0 (fun _ => False) fun v _ => v = .int .u32 (mixF pushF a b c x) := mix_c 273 pushF a b c x ha hb (fun w => pushed_c x c w) w0
theorem turnmix_c (a b c : Nat) (x : Int) (ha : a ≤ 32) (hb : b ≤ 32) (hc : c ≤ 32) (w0 : World) : Ret Tryz.prog 276 [.agg ⟨[.int .i64 (a : Int), .int .i64 (b : Int), .int .i64 (c : Int), .func (.func 274) #[] #[]]⟩, .int .u32 x] w0 (fun _ => False) fun v _ => v = .int .u32 (mixF turnF a b c x) := mix_c 274 turnF a b c x ha hb (fun w => turned_c x c hc w) w0
def shaH : List Int := [1779033703, 3144134277, 1013904242, 2773480762, 1359893119, 2600822924, 528734635, 1541459225]
def shaK : List Int := [0x428a2f98, 0x71374491, 0xb5c0fbcf, 0xe9b5dba5, 0x3956c25b, 0x59f111f1,
  0x923f82a4, 0xab1c5ed5, 0xd807aa98, 0x12835b01, 0x243185be, 0x550c7dc3,
  0x72be5d74, 0x80deb1fe, 0x9bdc06a7, 0xc19bf174, 0xe49b69c1, 0xefbe4786,
  0x0fc19dc6, 0x240ca1cc, 0x2de92c6f, 0x4a7484aa, 0x5cb0a9dc, 0x76f988da,
  0x983e5152, 0xa831c66d, 0xb00327c8, 0xbf597fc7, 0xc6e00bf3, 0xd5a79147,
  0x06ca6351, 0x14292967, 0x27b70a85, 0x2e1b2138, 0x4d2c6dfc, 0x53380d13,
  0x650a7354, 0x766a0abb, 0x81c2c92e, 0x92722c85, 0xa2bfe8a1, 0xa81a664b,
  0xc24b8b70, 0xc76c51a3, 0xd192e819, 0xd6990624, 0xf40e3585, 0x106aa070,
  0x19a4c116, 0x1e376c08, 0x2748774c, 0x34b0bcb5, 0x391c0cb3, 0x4ed8aa4a,
  0x5b9cca4f, 0x682e6ff3, 0x748f82ee, 0x78a5636f, 0x84c87814, 0x8cc70208,
  0x90befffa, 0xa4506ceb, 0xbef9a3f7, 0xc67178f2]
theorem start_c (w0 : World) : Ret Tryz.prog 262 [] w0 (fun _ => False) fun v _ => v = .agg ⟨u32s shaH⟩ := by
  refine enter Tryz.func262 rfl rfl (Wd.start w0) (fun a S => ?_)
  simp only [Tryz.ntmps262, List.length_cons, List.length_nil, Nat.reduceAdd, Nat.reduceSub, List.replicate_succ, List.replicate_zero, List.cons_append, List.nil_append] at S
  refine c_seq ?_; refine c_region ?_
  refine sa S ?_; clear S; intro b0 a w S
  refine wl_nil ?_; refine xtn ?_; refine c_seq ?_; refine c_region ?_; refine sq S ?_; clear S; intro a S; refine sw S ?_; clear S; intro a w S; refine wl_nil ?_; refine xtn ?_; refine c_ret ?_
  refine end1 S (fun _ => rfl)
theorem constants_c (w0 : World) : Ret Tryz.prog 275 [] w0 (fun _ => False) fun v _ => v = .agg ⟨u32s shaK⟩ := by
  refine enter Tryz.func275 rfl rfl (Wd.start w0) (fun a S => ?_)
  simp only [Tryz.ntmps275, List.length_cons, List.length_nil, Nat.reduceAdd, Nat.reduceSub, List.replicate_succ, List.replicate_zero, List.cons_append, List.nil_append] at S
  refine c_seq ?_; refine c_region ?_
  refine sa S ?_; clear S; intro b0 a w S
  refine wl_nil ?_; refine xtn ?_; refine c_seq ?_; refine c_region ?_; refine sq S ?_; clear S; intro a S; refine sw S ?_; clear S; intro a w S; refine wl_nil ?_; refine xtn ?_; refine c_ret ?_
  refine end1 S (fun _ => rfl)
theorem at_c (b1 b2 i t : Nat) (hi : i < 8) (ht : t ≤ 64) (w0 : World) (f2 : Stable (fun _ => False) w0 (BoxF b2 3 [.int .i64 (t : Int)])) : Ret Tryz.prog 277 [.int .i64 (i : Int), .pointer (some ⟨b1, 0, none⟩), .pointer (some ⟨b2, 0, none⟩)] w0 (fun _ => False) fun v _ => v = .pointer (some ⟨b1, (i + (64 - t)) % 8, none⟩) := by
  refine enter Tryz.func277 rfl rfl (Wd.begin (fs := [BoxF b2 3 [.int .i64 (t : Int)]]) (by simpa using f2)) (fun a S => ?_)
  simp only [Tryz.ntmps277, List.length_cons, List.length_nil, Nat.reduceAdd, Nat.reduceSub, List.replicate_succ, List.replicate_zero, List.cons_append, List.nil_append] at S
  refine c_seq ?_; refine c_region ?_; refine sq S ?_; clear S; intro a S; refine wl_nil ?_; refine xtn ?_; refine c_seq ?_; refine c_region ?_; (iterate 4 (refine sq S ?_; clear S; intro a S))
  have hK : KLt ((i + (64 - t)) % 8) 8 := ⟨Nat.mod_lt _ (by omega)⟩
  rw [show iand .i64 (IntKind.i64.wrap ((i : Int) - (t : Int))) 7 = (((i + (64 - t)) % 8 : Nat) : Int) from by rw [w64 _ (by omega) (by omega), iand7 _ ⟨by omega, by omega⟩]; omega] at S
  (iterate 2 (refine sq S ?_; clear S; intro a S)); refine wl_nil ?_; refine xtn ?_; refine c_ret ?_
  refine end1 S (fun _ => rfl)
set_option maxHeartbeats 4000000
abbrev a32 (x y : Int) : Int := IntKind.u32.wrap (x + y)
def w16 (bs : List UInt8) : List Int := (List.range 16).map fun i => u32B (bs.drop (4 * i))
theorem w16_len (bs : List UInt8) : (w16 bs).length = 16 := by simp [w16]
def wordF (t : Nat) (ws : List Int) : List Int := if t < 16 then ws else
  ws.set (t % 16) (a32 (nthI ws (t % 16)) (a32 (a32 (mixF pushF 17 19 10 (nthI ws ((t - 2) % 16))) (nthI ws ((t - 7) % 16))) (mixF pushF 7 18 3 (nthI ws ((t - 15) % 16)))))
abbrev posF (t i : Nat) : Nat := (i + (64 - t)) % 8
def sumF (t : Nat) (K W : Int) (r : List Int) : Int :=
  a32 (a32 (a32 (a32 (nthI r (posF t 7)) (mixF turnF 6 11 25 (nthI r (posF t 4)))) (ixor .u32 (nthI r (posF t 6)) (iand .u32 (nthI r (posF t 4)) (ixor .u32 (nthI r (posF t 5)) (nthI r (posF t 6)))))) K) W
def row1F (t : Nat) (K W : Int) (r : List Int) : List Int := r.set (posF t 3) (a32 (nthI r (posF t 3)) (sumF t K W r))
def rowF (t : Nat) (K W : Int) (r : List Int) : List Int :=
  (row1F t K W r).set (posF t 7) (a32 (a32 (sumF t K W r) (mixF turnF 2 13 22 (nthI r (posF t 0)))) (ior .u32 (iand .u32 (nthI r (posF t 0)) (nthI r (posF t 2))) (iand .u32 (nthI (row1F t K W r) (posF t 1)) (ior .u32 (nthI r (posF t 0)) (nthI r (posF t 2))))))
def rounds (bs : List UInt8) (h : List Int) : Nat → List Int × List Int
  | 0 => (w16 bs, h)
  | t + 1 => let (ws, r) := rounds bs h t; let ws' := wordF t ws; (ws', rowF t (nthI shaK t) (nthI ws' (t % 16)) r)
def blockF (h : List Int) (bs : List UInt8) : List Int := (List.range 8).map fun i => a32 (nthI h i) (nthI (rounds bs h 64).2 i)
theorem wordF_len (t : Nat) (ws : List Int) : (wordF t ws).length = ws.length := by unfold wordF; split <;> simp
theorem rowF_len (t : Nat) (K W : Int) (r : List Int) : (rowF t K W r).length = r.length := by simp [rowF, row1F]
theorem rounds_len (bs : List UInt8) (h : List Int) (t : Nat) : (rounds bs h t).1.length = 16 ∧ (rounds bs h t).2.length = h.length := by
  induction t with
  | zero => exact ⟨w16_len bs, rfl⟩
  | succ t ih => exact ⟨by rw [rounds]; simp only; rw [wordF_len]; exact ih.1, by rw [rounds]; simp only; rw [rowF_len]; exact ih.2⟩
theorem blockF_len (h : List Int) (bs : List UInt8) : (blockF h bs).length = 8 := by simp [blockF]
theorem set_step {l t : List Int} {k : Nat} (h : k < l.length) (hl : t.length = l.length) (e : l.take k = t.take k) : (l.set k (nthI t k)).take (k + 1) = t.take (k + 1) := by
  rw [List.take_set, List.take_succ_eq_append_getElem h, List.take_succ_eq_append_getElem (by omega), e]
  have h1 : (t.take k).length = k := by rw [List.length_take]; omega
  rw [List.set_append_right _ _ (by omega), h1, Nat.sub_self]
  have h2 := nthI_get (show k < t.length by omega)
  rw [List.getElem?_eq_getElem (by omega)] at h2
  rw [← Option.some.inj h2]; rfl
theorem w16_get (bs : List UInt8) (k : Nat) (h : k < 16) : nthI (w16 bs) k = u32B (bs.drop (4 * k)) := by
  simp [nthI, w16, List.getD_eq_getElem?_getD, h]
theorem glBox {w : World} {b : Nat} {T : TypeId} {xs : List UInt8} (h : w.heap[b]? = some (.cells (encL xs).toArray T (0, 0))) : GlF (some ⟨b, 0, none⟩) xs w :=
  ⟨⟨nofun, fun ad had j u hj => by
    obtain rfl := Option.some.inj had
    rw [add_lit, cell_of_row w b j _ T (0, 0) h]
    simpa using hj⟩, fun _ _ => trivial⟩
theorem glStable {w : World} {p : Option Addr} {xs : List UInt8} (h : GlF p xs w) : Stable (fun _ => False) w (GlF p xs) := fun w' hw' => ⟨h.1.stable (fun _ _ h => h) w' hw', fun _ _ => trivial⟩
theorem Ret.alsoS {P : Program} {f : Nat} {args : List Value} {w : World} {M : Nat → Prop} {R : Value → World → Prop} (h : Ret P f args w M R) : Ret P f args w M (fun v w' => R v w' ∧ Agree M w w') :=
  Calls.mono h fun _ _ ⟨v, e, ha, hv⟩ => ⟨v, e, ha, hv, ha⟩
theorem St.addOld {w0 : World} {M0 : Nat → Prop} {ds : List Deferred} {a : Act} {w : World} {l : List Value} {x : Wk.Item} {bs : List Wk.Item} {fs : List (World → Prop)} {n : Nat} {Φ : World → Prop} {B : Nat → Prop} (S : St w0 M0 ds a w l (x :: bs) fs) (hold : ∀ k, foots bs k → k < n) (h : Stable (fun k => k < n ∨ B k) w Φ) (hB : ∀ k, x.foot k → B k := by exact fun _ h => h) : St w0 M0 ds a w l (x :: bs) (Φ :: fs) :=
  S.add (h.less fun k _ ⟨it, hi, hk⟩ => by
    rcases List.mem_cons.1 hi with rfl | hi
    · exact .inr (hB k hk)
    · exact .inl (hold k ⟨it, hi, hk⟩))
theorem block_c (h : List Int) (blk : Blk) (hh : h.length = 8) (w0 : World) : Ret Tryz.prog 264 [.agg ⟨u32s h⟩, vBlk blk] w0 (fun _ => False) fun v _ => v = .agg ⟨u32s (blockF h blk.l)⟩ := by
  have hN8 : LenN h 8 := ⟨hh⟩
  have hbl := blk.h
  refine enter Tryz.func264 rfl rfl (Wd.start w0) (fun a S => ?_)
  simp only [Tryz.ntmps264, List.length_cons, List.length_nil, Nat.reduceAdd, Nat.reduceSub, List.replicate_succ, List.replicate_zero, List.cons_append, List.nil_append] at S
  refine c_seq ?_; refine c_region ?_
  refine sa S ?_; clear S; intro b2 a w S
  refine sa S ?_; clear S; intro b3 a w S
  refine sa S ?_; clear S; intro b4 a w S
  refine wl_nil ?_; refine xtn ?_; refine c_seq ?_; refine c_region ?_; (iterate 2 (refine sq S ?_; clear S; intro a S))
  refine sa S ?_; clear S; intro b5 a w S
  refine sa S ?_; clear S; intro b6 a w S
  (iterate 2 (refine sw S ?_; clear S; intro a w S)); refine wl_nil ?_; refine xtn ?_; refine c_seq ?_; refine c_region ?_; (iterate 2 (refine sq S ?_; clear S; intro a S))
  refine sa S ?_; clear S; intro b7 a w S
  refine sa S ?_; clear S; intro b8 a w S
  (iterate 2 (refine sw S ?_; clear S; intro a w S)); refine wl_nil ?_; refine xtn ?_; refine c_seq ?_; refine c_region ?_
  refine sa S ?_; clear S; intro b9 a w S
  refine wl_nil ?_; refine xtn ?_; refine c_seq ?_
  rw [show ([.int .u32 0, .int .u32 0, .int .u32 0, .int .u32 0, .int .u32 0, .int .u32 0, .int .u32 0, .int .u32 0, .int .u32 0, .int .u32 0, .int .u32 0, .int .u32 0, .int .u32 0, .int .u32 0, .int .u32 0, .int .u32 0] : List Value) = u32s (List.replicate 16 0) from rfl] at S
  rw [show ([.int .u32 0, .int .u32 0, .int .u32 0, .int .u32 0, .int .u32 0, .int .u32 0, .int .u32 0, .int .u32 0] : List Value) = u32s (List.replicate 8 0) from rfl] at S
  refine c_region ?_; refine sq S ?_; clear S; intro a S
  have hold := foots_lt S
  refine snew S (oread_c blk.l (some ⟨b3, 0, none⟩) 64 64 _ blk.h (by omega) (glStable (glBox (S.box b3)))) ?_; clear S; rintro _ a w hsz ⟨br, q, e, rfl, hbr, hrd, hqe, hq⟩ hS -
  have S := hS (Wk.box br 238 [.slice q blk.l.length e, .int .i64 0]) hrd (fun k hk => by rw [show k = br from hk]; exact hbr)
  clear hS
  replace S := St.addOld S hold hq
  refine sq S ?_; clear S; intro a S; refine wl_nil ?_; refine xtn ?_; (iterate 2 (refine c_seq ?_)); refine c_region ?_; refine sq S ?_; clear S; intro a S; refine wl_nil ?_; refine xtn ?_; refine c_block ?_
  refine c_fore4 S (fun (k : Nat) (ws : List Int) (p : Option Addr) (c : Nat) uu => [(11, uu 11), (17, .int .i64 (k : Nat)), (0, uu 30), (0, uu 31), (0, uu 32), (0, uu 33), (0, uu 34), (0, uu 35), (0, uu 36)]) (fun (k : Nat) (ws : List Int) (p : Option Addr) (c : Nat) => [Wk.box br 238 [.slice p (blk.l.drop (4 * k)).length c, .int .i64 0], Wk.box b9 322 (u32s ws), Wk.box b8 321 [.int .i64 6, .int .i64 11, .int .i64 25, .func (.func 274) #[] #[]], Wk.box b7 321 [.int .i64 2, .int .i64 13, .int .i64 22, .func (.func 274) #[] #[]], Wk.box b6 321 [.int .i64 17, .int .i64 19, .int .i64 10, .func (.func 273) #[] #[]], Wk.box b5 321 [.int .i64 7, .int .i64 18, .int .i64 3, .func (.func 273) #[] #[]], Wk.box b4 313 (u32s (List.replicate 8 0)), Wk.box b3 128 (encL blk.l), Wk.box b2 313 (u32s h)]) (fun (k : Nat) (ws : List Int) (p : Option Addr) (c : Nat) => [GlF p (blk.l.drop (4 * k))]) (fun (k : Nat) (ws : List Int) (p : Option Addr) (c : Nat) => k ≤ 16 ∧ ws.length = 16 ∧ ws.take k = (w16 blk.l).take k ∧ (blk.l.drop (4 * k)).length ≤ c) (fun (k : Nat) (ws : List Int) (p : Option Addr) (c : Nat) => 16 - k) (0) (List.replicate 16 0) (q) (e) ?_ S.uu ?_ ?_
  · exact ⟨by omega, by simp, rfl, hqe⟩
  · exact S
  · clear S; rintro k ws p c uu a w ⟨hk, hwl, hwt, hkc⟩ S
    refine c_seq ?_; refine c_region ?_; refine sq S ?_; clear S; intro a S; refine wl_nil ?_; refine xtn ?_; refine c_seq ?_
    refine c_cond S (fun h6 => ?_) (fun h6 => ?_)
    · refine c_skip ?_; refine xtn ?_; refine c_seq ?_; refine c_block ?_; refine c_seq ?_
      have hk16 : k < 16 := by simp at h6; omega
      have hK : KLt k 16 := ⟨hk16⟩
      have hK2 : KLt k ws.length := ⟨by omega⟩
      have hdl : (blk.l.drop (4 * k)).length = 64 - 4 * k := by rw [List.length_drop, hbl]
      have hdd : (blk.l.drop (4 * k)).length - 4 = (blk.l.drop (4 * (k + 1))).length := by rw [List.length_drop, List.length_drop]; omega
      refine c_region ?_; (iterate 2 (refine sq S ?_; clear S; intro a S)); refine wl_nil ?_; refine xtn ?_; refine c_region ?_; (iterate 2 (refine sq S ?_; clear S; intro a S))
      have hf := S.gl p (xs := blk.l.drop (4 * k))
      refine sit (Wk.box br 238 [.slice p (blk.l.drop (4 * k)).length c, .int .i64 0]) S (u32_c br (blk.l.drop (4 * k)) p c _ (by omega) hkc (by omega) (S.box br) (S.lend (Wk.box br 238 [.slice p (blk.l.drop (4 * k)).length c, .int .i64 0]) (S.mem.fact (GlF p (blk.l.drop (4 * k)))))) rfl ?_; clear S; rintro _ a w ⟨rfl, hbx⟩ hS
      have S := hS (Wk.box br 238 [.slice (if c = 4 then p else p.map (·.add (4 * 1))) ((blk.l.drop (4 * k)).length - 4) (c - 4), .int .i64 0]) hbx (fun k h => .inl h)
      clear hS
      replace S := S.add (Φ := GlF (if c = 4 then p else p.map (·.add (4 * 1))) ((blk.l.drop (4 * k)).drop 4)) ((S.mem.fact (GlF p (blk.l.drop (4 * k)))).imp fun _ h => h.drop 4 hkc)
      rw [hdd, List.drop_drop, show 4 * k + 4 = 4 * (k + 1) from by omega] at S
      refine sq S ?_; clear S; intro a S; refine sw S ?_; clear S; intro a w S; refine wl_nil ?_; refine xbn ?_; refine xtn ?_; refine c_region ?_; (iterate 2 (refine sq S ?_; clear S; intro a S)); refine wl_nil ?_; refine xtn ?_
      rw [w64 ((k : Int) + 1) (by omega) (by omega)] at S
      rw [← w16_get blk.l k hk16] at S
      exact ⟨k + 1, ws.set k (nthI (w16 blk.l) k), (if c = 4 then p else p.map (·.add (4 * 1))), c - 4, S.uu, ⟨hk16, by rw [List.length_set]; exact hwl, set_step (by omega) (by rw [w16_len, hwl]) hwt, by omega⟩, S.sub _ _, by omega⟩
    · refine c_exit ?_; (iterate 2 (refine xte ?_)); refine xbe ?_; refine xtn ?_; refine c_seq ?_
      have hk16 : k = 16 := by simp at h6; omega
      have hws : ws = w16 blk.l := by
        subst hk16
        rw [List.take_of_length_le (by omega), List.take_of_length_le (by rw [w16_len]; exact Nat.le_refl _)] at hwt
        exact hwt
      have hL0 : LenN (List.replicate 8 (0 : Int)) 8 := ⟨by simp⟩
      refine c_region ?_; refine sq S ?_; clear S; intro a S
      refine sa S ?_; clear S; intro b12 a w S
      rw [show ([.int .u32 0, .int .u32 0, .int .u32 0, .int .u32 0, .int .u32 0, .int .u32 0, .int .u32 0, .int .u32 0] : List Value) = u32s (List.replicate 8 0) from rfl] at S
      refine sw S ?_; clear S; intro a w S; refine wl_nil ?_; refine xtn ?_; (iterate 2 (refine c_seq ?_)); refine c_region ?_
      refine sr S (constants_c _) ?_; clear S; rintro _ a w rfl S
      refine sq S ?_; clear S; intro a S; refine wl_nil ?_; refine xtn ?_; refine c_block ?_
      refine c_fore3 S (fun (t : Nat) (ws : List Int) (row : List Int) uu => [(13, uu 13), (0, uu 14), (0, uu 15), (0, uu 16), (0, uu 17), (0, uu 18), (0, uu 19), (0, uu 20), (0, uu 21), (17, .int .i64 (t : Nat)), (0, uu 40), (0, uu 41), (0, uu 42), (0, uu 43), (0, uu 44), (0, uu 45), (0, uu 46), (0, uu 47), (0, uu 48), (0, uu 49), (0, uu 50), (0, uu 51), (0, uu 52), (0, uu 53), (0, uu 54), (0, uu 55), (0, uu 56), (0, uu 57), (0, uu 58), (0, uu 59), (0, uu 60), (0, uu 61), (0, uu 62), (0, uu 63), (0, uu 64), (0, uu 65), (0, uu 66), (0, uu 67), (0, uu 68), (0, uu 69), (0, uu 70), (0, uu 71), (0, uu 72), (0, uu 73), (0, uu 74), (0, uu 75), (0, uu 76), (0, uu 77), (0, uu 78), (0, uu 79), (0, uu 80), (0, uu 81), (0, uu 82), (0, uu 83), (0, uu 84), (0, uu 85), (0, uu 86), (0, uu 87), (0, uu 88), (0, uu 89), (0, uu 90), (0, uu 91), (0, uu 92), (0, uu 93), (0, uu 94), (0, uu 95), (0, uu 96), (0, uu 97), (0, uu 98), (0, uu 99), (0, uu 100), (0, uu 101), (0, uu 102), (0, uu 103), (0, uu 104), (0, uu 105), (0, uu 106), (0, uu 107), (0, uu 108), (0, uu 109), (0, uu 110), (0, uu 111), (0, uu 112), (0, uu 113), (0, uu 114), (0, uu 115), (0, uu 116), (0, uu 117), (0, uu 118), (0, uu 119), (0, uu 120), (0, uu 121), (0, uu 122), (0, uu 123), (0, uu 124), (0, uu 125), (0, uu 126), (0, uu 127), (0, uu 128), (0, uu 129), (0, uu 130), (0, uu 131), (0, uu 132), (0, uu 133), (0, uu 134), (0, uu 135), (0, uu 136), (0, uu 137), (0, uu 138), (0, uu 139), (0, uu 140), (0, uu 141), (0, uu 142), (0, uu 143), (0, uu 144)]) (fun (t : Nat) (ws : List Int) (row : List Int) => [Wk.box b12 313 (u32s row), Wk.box b9 322 (u32s ws), Wk.box b8 321 [.int .i64 6, .int .i64 11, .int .i64 25, .func (.func 274) #[] #[]], Wk.box b7 321 [.int .i64 2, .int .i64 13, .int .i64 22, .func (.func 274) #[] #[]], Wk.box b6 321 [.int .i64 17, .int .i64 19, .int .i64 10, .func (.func 273) #[] #[]], Wk.box b5 321 [.int .i64 7, .int .i64 18, .int .i64 3, .func (.func 273) #[] #[]], Wk.box b4 313 (u32s (List.replicate 8 0)), Wk.box b2 313 (u32s h)]) (fun (t : Nat) (ws : List Int) (row : List Int) => []) (fun (t : Nat) (ws : List Int) (row : List Int) => t ≤ 64 ∧ rounds blk.l h t = (ws, row)) (fun (t : Nat) (ws : List Int) (row : List Int) => 64 - t) (0) (ws) (h) ?_ S.uu ?_ ?_
      · exact ⟨by omega, by rw [hws]; rfl⟩
      · first | exact S | exact S.sub _ _
      · clear S; rintro t ws row uu a w ⟨ht, hrt⟩ S
        refine c_seq ?_; refine c_region ?_; refine sq S ?_; clear S; intro a S; refine wl_nil ?_; refine xtn ?_; refine c_seq ?_
        refine c_cond S (fun h12 => ?_) (fun h12 => ?_)
        · refine c_skip ?_; refine xtn ?_; refine c_seq ?_; refine c_block ?_; refine c_seq ?_
          have ht64 : t < 64 := by simp at h12; omega
          have hlen := rounds_len blk.l h t
          rw [hrt] at hlen
          have hwl2 : ws.length = 16 := hlen.1
          have hrl : row.length = 8 := hlen.2.trans hh
          have hKt : KLt t shaK.length := ⟨ht64⟩
          have hLK : LenN shaK 64 := ⟨rfl⟩
          have hK16 : KLt (t % 16) 16 := ⟨Nat.mod_lt _ (by omega)⟩
          have hKw : KLt (t % 16) ws.length := ⟨by omega⟩
          have hp : ∀ i, posF t i < 8 := fun i => Nat.mod_lt _ (by omega)
          have hK0 : KLt (posF t 0) row.length := ⟨by rw [hrl]; exact hp 0⟩
          have hK1 : KLt (posF t 1) row.length := ⟨by rw [hrl]; exact hp 1⟩
          have hK2 : KLt (posF t 2) row.length := ⟨by rw [hrl]; exact hp 2⟩
          have hK3 : KLt (posF t 3) row.length := ⟨by rw [hrl]; exact hp 3⟩
          have hK4 : KLt (posF t 4) row.length := ⟨by rw [hrl]; exact hp 4⟩
          have hK5 : KLt (posF t 5) row.length := ⟨by rw [hrl]; exact hp 5⟩
          have hK6 : KLt (posF t 6) row.length := ⟨by rw [hrl]; exact hp 6⟩
          have hK7 : KLt (posF t 7) row.length := ⟨by rw [hrl]; exact hp 7⟩
          refine c_region ?_; (iterate 2 (refine sq S ?_; clear S; intro a S))
          refine sa S ?_; clear S; intro b13 a w S
          refine sw S ?_; clear S; intro a w S; refine sq S ?_; clear S; intro a S; refine wl_nil ?_; refine xtn ?_; refine c_seq ?_; refine c_region ?_; (iterate 2 (refine sq S ?_; clear S; intro a S))
          rw [show (t : Int).tmod 16 = ((t % 16 : Nat) : Int) from by rw [Int.tmod_eq_emod_of_nonneg (by omega)]; omega] at S
          (iterate 2 (refine sq S ?_; clear S; intro a S)); refine wl_nil ?_; refine xtn ?_
          refine c_mrge1 S (fun (ws1 : List Int) uu => [(46, uu 46), (0, uu 47), (0, uu 48), (0, uu 49), (0, uu 50), (0, uu 51), (0, uu 52), (0, uu 53), (0, uu 54), (0, uu 55), (0, uu 56), (0, uu 57), (0, uu 58), (0, uu 59), (0, uu 60), (0, uu 61), (0, uu 62), (0, uu 63), (0, uu 64), (0, uu 65), (0, uu 66), (0, uu 67), (0, uu 68), (0, uu 69), (0, uu 70), (0, uu 71), (0, uu 72), (0, uu 73)]) (fun (ws1 : List Int) => [Wk.box b13 3 [.int .i64 (t : Int)], Wk.box b12 313 (u32s row), Wk.box b9 322 (u32s ws1), Wk.box b8 321 [.int .i64 6, .int .i64 11, .int .i64 25, .func (.func 274) #[] #[]], Wk.box b7 321 [.int .i64 2, .int .i64 13, .int .i64 22, .func (.func 274) #[] #[]], Wk.box b6 321 [.int .i64 17, .int .i64 19, .int .i64 10, .func (.func 273) #[] #[]], Wk.box b5 321 [.int .i64 7, .int .i64 18, .int .i64 3, .func (.func 273) #[] #[]], Wk.box b4 313 (u32s (List.replicate 8 0)), Wk.box b2 313 (u32s h)]) (fun (ws1 : List Int) => []) (fun (ws1 : List Int) => ws1 = wordF t ws) ?_ ?_
          · refine c_seq ?_; refine c_region ?_; (iterate 2 (refine sq S ?_; clear S; intro a S)); refine wl_nil ?_; refine xtn ?_
            refine c_cond S (fun h15 => ?_) (fun h15 => ?_)
            · have ht16 : 16 ≤ t := by simp at h15; omega
              have hKa : KLt ((t - 2) % 16) 16 := ⟨Nat.mod_lt _ (by omega)⟩
              have hKa2 : KLt ((t - 2) % 16) ws.length := ⟨by omega⟩
              have hKb : KLt ((t - 7) % 16) 16 := ⟨Nat.mod_lt _ (by omega)⟩
              have hKb2 : KLt ((t - 7) % 16) ws.length := ⟨by omega⟩
              have hKc : KLt ((t - 15) % 16) 16 := ⟨Nat.mod_lt _ (by omega)⟩
              have hKc2 : KLt ((t - 15) % 16) ws.length := ⟨by omega⟩
              have hna : NeK ((t - 2) % 16) (t % 16) := ⟨by omega⟩
              have hnb : NeK ((t - 7) % 16) (t % 16) := ⟨by omega⟩
              have hnc : NeK ((t - 15) % 16) (t % 16) := ⟨by omega⟩
              have hx := S.box b9
              have hlt9 : b9 < w.heap.size := (Array.getElem?_eq_some_iff.1 hx).1
              replace S := S.hideK b9 322 ws (t % 16) inferInstance
              refine c_drwHe0 (.q 0 (.q 1 (.q 3 (.q 4 (.q 5 (.q 6 (.q 7 (.q 8 (.q 10 (.q 11 (.q 12 (.q 13 (.q 14 (.q 16 (.q 17 (.q 18 (.q 19 (.q 20 (.q 21 (.b2 2 9 (.l 9 (.q 15 (.l 22 (.q 23 (.q 24 (.q 25 (.l 26 (.e)))))))) (.q 15 (.b2 2 22 (.l 22 (.q 23 (.q 24 (.q 25 (.l 26 (.e)))))) (.q 23 (.l 2 (.q 24 (.q 25 (.l 26 (.e)))))))))))))))))))))))))))) S (fun  uu => [(48, uu 48), (0, uu 49), (0, uu 50), (0, uu 51), (0, uu 52), (0, uu 53), (0, uu 54), (0, uu 55), (0, uu 56), (0, uu 57), (0, uu 58), (0, uu 59), (0, uu 60), (0, uu 61), (0, uu 62), (0, uu 63), (0, uu 64), (0, uu 65), (0, uu 66), (0, uu 67), (0, uu 68), (0, uu 69), (0, uu 70), (0, uu 71), (0, uu 72), (0, uu 73)]) [Wk.box b13 3 [.int .i64 (t : Int)], Wk.box b12 313 (u32s row), bxk b9 322 ws (t % 16), Wk.box b8 321 [.int .i64 6, .int .i64 11, .int .i64 25, .func (.func 274) #[] #[]], Wk.box b7 321 [.int .i64 2, .int .i64 13, .int .i64 22, .func (.func 274) #[] #[]], Wk.box b6 321 [.int .i64 17, .int .i64 19, .int .i64 10, .func (.func 273) #[] #[]], Wk.box b5 321 [.int .i64 7, .int .i64 18, .int .i64 3, .func (.func 273) #[] #[]], Wk.box b4 313 (u32s (List.replicate 8 0)), Wk.box b2 313 (u32s h)] ([Wk.box b13 3 [.int .i64 (t : Int)], Wk.box b12 313 (u32s row), Wk.box b9 322 (u32s (wordF t ws)), Wk.box b8 321 [.int .i64 6, .int .i64 11, .int .i64 25, .func (.func 274) #[] #[]], Wk.box b7 321 [.int .i64 2, .int .i64 13, .int .i64 22, .func (.func 274) #[] #[]], Wk.box b6 321 [.int .i64 17, .int .i64 19, .int .i64 10, .func (.func 273) #[] #[]], Wk.box b5 321 [.int .i64 7, .int .i64 18, .int .i64 3, .func (.func 273) #[] #[]], Wk.box b4 313 (u32s (List.replicate 8 0)), Wk.box b2 313 (u32s h)]) ([]) (True) ?_ ?_
              · intro w hheap S
                replace hx : w.heap[b9]? = some (.cells (u32s ws).toArray 322 (0, 0)) := by rw [hheap]; exact hx
                (iterate 5 (refine tq S ?_; clear S; intro a S))
                rw [show IntKind.i64.wrap ((t : Int) - 2) = ((t - 2 : Nat) : Int) from by rw [w64 _ (by omega) (by omega)]; omega] at S
                refine tq S ?_; clear S; intro a S
                rw [show ((t - 2 : Nat) : Int).tmod 16 = (((t - 2) % 16 : Nat) : Int) from by rw [Int.tmod_eq_emod_of_nonneg (by omega)]; omega] at S
                (iterate 4 (refine tq S ?_; clear S; intro a S))
                rw [show IntKind.i64.wrap ((t : Int) - 7) = ((t - 7 : Nat) : Int) from by rw [w64 _ (by omega) (by omega)]; omega] at S
                refine tq S ?_; clear S; intro a S
                rw [show ((t - 7 : Nat) : Int).tmod 16 = (((t - 7) % 16 : Nat) : Int) from by rw [Int.tmod_eq_emod_of_nonneg (by omega)]; omega] at S
                (iterate 5 (refine tq S ?_; clear S; intro a S))
                rw [show IntKind.i64.wrap ((t : Int) - 15) = ((t - 15 : Nat) : Int) from by rw [w64 _ (by omega) (by omega)]; omega] at S
                refine tq S ?_; clear S; intro a S
                rw [show ((t - 15 : Nat) : Int).tmod 16 = (((t - 15) % 16 : Nat) : Int) from by rw [Int.tmod_eq_emod_of_nonneg (by omega)]; omega] at S
                (iterate 2 (refine tq S ?_; clear S; intro a S))
                refine tb2 ?_ ?_
                · refine sl1 (.int .u32 (nthI ws (t % 16))) S (by rw [cell_of_row _ b9 (t % 16) _ 322 (0, 0) hx]; simpa using u32s_get (l := ws) (k := t % 16) (by omega)) ?_; clear S; intro a S
                  refine te S ?_; refine tl ?_
                  refine sr S (Ret.alsoS (pushmix_c 17 19 10 (nthI ws ((t - 2) % 16)) (by omega) (by omega) _)) ?_; clear S; rintro _ a w ⟨rfl, hag⟩ S
                  replace hx := (hag.blk (Array.getElem?_eq_some_iff.1 hx).1 (fun h => h)).trans hx
                  clear hag
                  refine te S ?_; refine tq S ?_; clear S; intro a S; refine tl ?_
                  refine sr S (Ret.alsoS (pushmix_c 7 18 3 (nthI ws ((t - 15) % 16)) (by omega) (by omega) _)) ?_; clear S; rintro _ a w ⟨rfl, hag⟩ S
                  replace hx := (hag.blk (Array.getElem?_eq_some_iff.1 hx).1 (fun h => h)).trans hx
                  clear hag
                  refine te S ?_; (iterate 3 (refine tq S ?_; clear S; intro a S)); refine tl ?_
                  refine swk b9 322 ws (t % 16) S (by omega) hx ?_; clear S hx; intro a w hx S
                  refine te S ?_; refine tn ?_
                  have e : wordF t ws = ws.set (t % 16) (a32 (nthI ws (t % 16)) (a32 (a32 (mixF pushF 17 19 10 (nthI ws ((t - 2) % 16))) (nthI ws ((t - 7) % 16))) (mixF pushF 7 18 3 (nthI ws ((t - 15) % 16))))) := by rw [wordF, if_neg (by omega)]
                  replace S := S.showK b9 322 ws (wordF t ws) (t % 16) (by rw [e]; exact hx)
                  exact ⟨S.uu, trivial, S.sub _ _⟩
                · refine sr S (Ret.alsoS (pushmix_c 17 19 10 (nthI ws ((t - 2) % 16)) (by omega) (by omega) _)) ?_; clear S; rintro _ a w ⟨rfl, hag⟩ S
                  replace hx := (hag.blk (Array.getElem?_eq_some_iff.1 hx).1 (fun h => h)).trans hx
                  clear hag
                  refine te S ?_; refine tq S ?_; clear S; intro a S
                  refine tb2 ?_ ?_
                  · refine sl1 (.int .u32 (nthI ws (t % 16))) S (by rw [cell_of_row _ b9 (t % 16) _ 322 (0, 0) hx]; simpa using u32s_get (l := ws) (k := t % 16) (by omega)) ?_; clear S; intro a S
                    refine te S ?_; refine tl ?_
                    refine sr S (Ret.alsoS (pushmix_c 7 18 3 (nthI ws ((t - 15) % 16)) (by omega) (by omega) _)) ?_; clear S; rintro _ a w ⟨rfl, hag⟩ S
                    replace hx := (hag.blk (Array.getElem?_eq_some_iff.1 hx).1 (fun h => h)).trans hx
                    clear hag
                    refine te S ?_; (iterate 3 (refine tq S ?_; clear S; intro a S)); refine tl ?_
                    refine swk b9 322 ws (t % 16) S (by omega) hx ?_; clear S hx; intro a w hx S
                    refine te S ?_; refine tn ?_
                    have e : wordF t ws = ws.set (t % 16) (a32 (nthI ws (t % 16)) (a32 (a32 (mixF pushF 17 19 10 (nthI ws ((t - 2) % 16))) (nthI ws ((t - 7) % 16))) (mixF pushF 7 18 3 (nthI ws ((t - 15) % 16))))) := by rw [wordF, if_neg (by omega)]
                    replace S := S.showK b9 322 ws (wordF t ws) (t % 16) (by rw [e]; exact hx)
                    exact ⟨S.uu, trivial, S.sub _ _⟩
                  · refine sr S (Ret.alsoS (pushmix_c 7 18 3 (nthI ws ((t - 15) % 16)) (by omega) (by omega) _)) ?_; clear S; rintro _ a w ⟨rfl, hag⟩ S
                    replace hx := (hag.blk (Array.getElem?_eq_some_iff.1 hx).1 (fun h => h)).trans hx
                    clear hag
                    refine te S ?_; refine tq S ?_; clear S; intro a S; refine tl ?_
                    refine sl1 (.int .u32 (nthI ws (t % 16))) S (by rw [cell_of_row _ b9 (t % 16) _ 322 (0, 0) hx]; simpa using u32s_get (l := ws) (k := t % 16) (by omega)) ?_; clear S; intro a S
                    refine te S ?_; (iterate 2 (refine tq S ?_; clear S; intro a S)); refine tl ?_
                    refine swk b9 322 ws (t % 16) S (by omega) hx ?_; clear S hx; intro a w hx S
                    refine te S ?_; refine tn ?_
                    have e : wordF t ws = ws.set (t % 16) (a32 (nthI ws (t % 16)) (a32 (a32 (mixF pushF 17 19 10 (nthI ws ((t - 2) % 16))) (nthI ws ((t - 7) % 16))) (mixF pushF 7 18 3 (nthI ws ((t - 15) % 16))))) := by rw [wordF, if_neg (by omega)]
                    replace S := S.showK b9 322 ws (wordF t ws) (t % 16) (by rw [e]; exact hx)
                    exact ⟨S.uu, trivial, S.sub _ _⟩
              clear S; rintro  uu a w - S
              refine xtn ?_
              exact ⟨wordF t ws, S.uu, rfl, S.sub _ _⟩
            · refine c_skip ?_; refine xtn ?_
              have ht16 : t < 16 := by simp at h15; omega
              have e : wordF t ws = ws := by rw [wordF, if_pos ht16]
              exact ⟨ws, S.uu, e.symm, S.sub _ _⟩
          · clear S; rintro ws1 uu a w hws1 S
            refine c_seq ?_
            have hKw1 : KLt (t % 16) ws1.length := ⟨by rw [hws1, wordF_len]; omega⟩
            refine c_region ?_; (iterate 2 (refine sq S ?_; clear S; intro a S)); refine wl_nil ?_; refine xtn ?_; refine c_seq ?_
            refine c_drawD [(0, true), (4, true), (8, true), (12, true), (1, false), (2, true), (3, true), (5, false), (6, true), (7, true), (9, false), (10, true), (11, true), (13, false), (14, true), (15, true), (16, true), (17, true), (18, true), (19, true)] [] S ?_; clear S; intro w S
            (iterate 4 (refine dq S ?_; clear S; intro a S)); refine dl ?_
            refine sr S (at_c b12 b13 0 t (by omega) ht _ (BoxF.stable (S.boxF b13) (fun h => h))) ?_; clear S; rintro _ a w rfl S
            refine de S ?_; (iterate 2 (refine dq S ?_; clear S; intro a S)); refine dl ?_
            refine sr S (at_c b12 b13 2 t (by omega) ht _ (BoxF.stable (S.boxF b13) (fun h => h))) ?_; clear S; rintro _ a w rfl S
            refine de S ?_; (iterate 2 (refine dq S ?_; clear S; intro a S)); refine dl ?_
            refine sr S (at_c b12 b13 4 t (by omega) ht _ (BoxF.stable (S.boxF b13) (fun h => h))) ?_; clear S; rintro _ a w rfl S
            refine de S ?_; (iterate 2 (refine dq S ?_; clear S; intro a S)); refine dl ?_
            refine sr S (at_c b12 b13 6 t (by omega) ht _ (BoxF.stable (S.boxF b13) (fun h => h))) ?_; clear S; rintro _ a w rfl S
            refine de S ?_; (iterate 6 (refine dq S ?_; clear S; intro a S)); refine dn ?_; refine xtn ?_; refine c_seq ?_
            refine c_drawD [(0, true), (4, true), (5, true), (8, true), (9, true), (10, true), (14, true), (19, true), (21, true), (22, true), (23, true), (1, false), (2, true), (3, true), (6, false), (7, true), (11, false), (12, true), (13, true), (15, true), (16, true), (17, true), (18, true), (20, true), (24, true), (25, true)] [] S ?_; clear S; intro w S
            (iterate 11 (refine dq S ?_; clear S; intro a S)); refine dl ?_
            refine sr S (at_c b12 b13 7 t (by omega) ht _ (BoxF.stable (S.boxF b13) (fun h => h))) ?_; clear S; rintro _ a w rfl S
            refine de S ?_; (iterate 2 (refine dq S ?_; clear S; intro a S)); refine dl ?_
            refine sr S (turnmix_c 6 11 25 _ (by omega) (by omega) (by omega) _) ?_; clear S; rintro _ a w rfl S
            refine de S ?_; refine dq S ?_; clear S; intro a S; refine dl ?_
            refine sr S (at_c b12 b13 5 t (by omega) ht _ (BoxF.stable (S.boxF b13) (fun h => h))) ?_; clear S; rintro _ a w rfl S
            refine de S ?_; (iterate 9 (refine dq S ?_; clear S; intro a S)); refine dn ?_; refine xtn ?_; refine c_seq ?_
            have e := Eq.refl (sumF t (nthI shaK t) (nthI ws1 (t % 16)) row)
            conv at e => rhs; simp only [sumF, a32, posF]
            rw [← e] at S
            clear e
            refine c_region ?_; refine sq S ?_; clear S; intro a S
            refine sr S (at_c b12 b13 3 t (by omega) ht _ (BoxF.stable (S.boxF b13) (fun h => h))) ?_; clear S; rintro _ a w rfl S
            (iterate 5 (refine sq S ?_; clear S; intro a S)); refine sw S ?_; clear S; intro a w S
            rw [show row.set ((3 + (64 - t)) % 8) (IntKind.u32.wrap (nthI row ((3 + (64 - t)) % 8) + sumF t (nthI shaK t) (nthI ws1 (t % 16)) row)) = row1F t (nthI shaK t) (nthI ws1 (t % 16)) row from rfl] at S
            have hr1 : (row1F t (nthI shaK t) (nthI ws1 (t % 16)) row).length = 8 := by rw [row1F, List.length_set, hrl]
            have hK1b : KLt (posF t 1) (row1F t (nthI shaK t) (nthI ws1 (t % 16)) row).length := ⟨by rw [hr1]; exact hp 1⟩
            have hK7b : KLt (posF t 7) (row1F t (nthI shaK t) (nthI ws1 (t % 16)) row).length := ⟨by rw [hr1]; exact hp 7⟩
            refine wl_nil ?_; refine xtn ?_
            refine' c_drawT0 (.q 0 (.q 2 (.q 3 (.q 4 (.q 7 (.q 8 (.q 9 (.q 10 (.q 14 (.q 15 (.q 16 (.l 1 (.l 5 (.q 6 (.l 11 (.q 12 (.l 13 (.q 17 (.q 18 (.q 19 (.q 20 (.l 21 (.e))))))))))))))))))))))) [b12] S ?_ ?_
            rotate_left 3
            · intro w S
              (iterate 11 (refine tq S ?_; clear S; intro a S)); refine tl ?_
              refine sr S (at_c b12 b13 7 t (by omega) ht _ (BoxF.stable (S.boxF b13) (fun h => h))) ?_; clear S; rintro _ a w rfl S
              refine te S ?_; refine tl ?_
              refine sr S (turnmix_c 2 13 22 _ (by omega) (by omega) (by omega) _) ?_; clear S; rintro _ a w rfl S
              refine te S ?_; refine tq S ?_; clear S; intro a S; refine tl ?_
              refine sr S (at_c b12 b13 1 t (by omega) ht _ (BoxF.stable (S.boxF b13) (fun h => h))) ?_; clear S; rintro _ a w rfl S
              refine te S ?_; refine tq S ?_; clear S; intro a S; refine tl ?_; refine sq S ?_; clear S; intro a S; refine te S ?_; (iterate 4 (refine tq S ?_; clear S; intro a S)); refine tl ?_; refine sw S ?_; clear S; intro a w S; refine te S ?_; refine tn ?_
              exact S
            intro  a w S
            refine xbn ?_; refine xtn ?_; refine c_region ?_; (iterate 2 (refine sq S ?_; clear S; intro a S)); refine wl_nil ?_; refine xtn ?_
            have e := Eq.refl (rowF t (nthI shaK t) (nthI ws1 (t % 16)) row)
            conv at e => rhs; simp only [rowF, a32, posF]
            rw [← e] at S
            clear e
            rw [w64 ((t : Int) + 1) (by omega) (by omega)] at S
            refine ⟨t + 1, ws1, rowF t (nthI shaK t) (nthI ws1 (t % 16)) row, S.uu, ⟨by omega, ?_⟩, S.sub _ _, by omega⟩
            rw [rounds, hrt, hws1]
        · refine c_exit ?_; (iterate 2 (refine xte ?_)); refine xbe ?_; refine xtn ?_; (iterate 2 (refine c_seq ?_))
          have ht64 : t = 64 := by simp at h12; omega
          subst ht64
          have hlen := rounds_len blk.l h 64
          rw [hrt] at hlen
          have hrl : row.length = 8 := hlen.2.trans hh
          refine c_region ?_; refine sq S ?_; clear S; intro a S; refine wl_nil ?_; refine xtn ?_; refine c_block ?_
          refine c_fore2 S (fun (i : Nat) (g : List Int) uu => [(22, uu 22), (122, .int .i64 (i : Nat)), (0, uu 146), (0, uu 147), (0, uu 148), (0, uu 149), (0, uu 150), (0, uu 151), (0, uu 152), (0, uu 153), (0, uu 154), (0, uu 155), (0, uu 156)]) (fun (i : Nat) (g : List Int) => [Wk.box b12 313 (u32s row), Wk.box b4 313 (u32s (List.replicate 8 0)), Wk.box b2 313 (u32s g)]) (fun (i : Nat) (g : List Int) => []) (fun (i : Nat) (g : List Int) => i ≤ 8 ∧ g.length = 8 ∧ g.take i = (blockF h blk.l).take i ∧ g.drop i = h.drop i) (fun (i : Nat) (g : List Int) => 8 - i) (0) (h) ?_ S.uu ?_ ?_
          · exact ⟨by omega, hh, rfl, rfl⟩
          · first | exact S | exact S.sub _ _
          · clear S; rintro i g uu a w ⟨hi, hgl, hgt, hgd⟩ S
            refine c_seq ?_; refine c_region ?_; refine sq S ?_; clear S; intro a S; refine wl_nil ?_; refine xtn ?_; refine c_seq ?_
            refine c_cond S (fun h24 => ?_) (fun h24 => ?_)
            · refine c_skip ?_; refine xtn ?_; refine c_seq ?_; refine c_block ?_; refine c_seq ?_
              have hi8 : i < 8 := by simp at h24; omega
              have hKi : KLt i 8 := ⟨hi8⟩
              have hKi2 : KLt i g.length := ⟨by omega⟩
              have hKi3 : KLt i row.length := ⟨by omega⟩
              have hgi : nthI g i = nthI h i := by
                have := congrArg (fun l => l[0]?) hgd
                simp only [List.getElem?_drop, Nat.add_zero] at this
                rw [nthI_get (by omega), nthI_get (by omega)] at this
                exact Option.some.inj this
              have hbi : nthI (blockF h blk.l) i = a32 (nthI h i) (nthI row i) := by
                have : (rounds blk.l h 64).2 = row := by rw [hrt]
                rw [← this]
                simp [nthI, blockF, List.getD_eq_getElem?_getD, hi8]
              refine c_region ?_; (iterate 2 (refine sq S ?_; clear S; intro a S)); refine wl_nil ?_; refine xtn ?_
              refine' c_drawT0 (.q 0 (.q 1 (.q 3 (.q 4 (.q 5 (.l 2 (.q 6 (.q 7 (.l 8 (.e)))))))))) [b2] S ?_ ?_
              rotate_left 3
              · intro w S
                (iterate 5 (refine tq S ?_; clear S; intro a S)); refine tl ?_; refine sq S ?_; clear S; intro a S; refine te S ?_; (iterate 2 (refine tq S ?_; clear S; intro a S)); refine tl ?_; refine sw S ?_; clear S; intro a w S; refine te S ?_; refine tn ?_
                exact S
              intro  a w S
              refine xbn ?_; refine xtn ?_; refine c_region ?_; (iterate 2 (refine sq S ?_; clear S; intro a S)); refine wl_nil ?_; refine xtn ?_
              rw [w64 ((i : Int) + 1) (by omega) (by omega), hgi, show IntKind.u32.wrap (nthI h i + nthI row i) = nthI (blockF h blk.l) i from hbi.symm] at S
              refine ⟨i + 1, g.set i (nthI (blockF h blk.l) i), S.uu, ⟨by omega, by rw [List.length_set]; exact hgl, set_step (by omega) (by rw [blockF_len, hgl]) hgt, ?_⟩, S.sub _ _, by omega⟩
              rw [List.drop_set_of_lt (by omega), ← List.drop_drop, hgd, List.drop_drop]
            · refine c_exit ?_; (iterate 2 (refine xte ?_)); refine xbe ?_; refine xtn ?_; refine c_seq ?_
              have hi8 : i = 8 := by simp at h24; omega
              have hg8 : LenN g 8 := ⟨hgl⟩
              have hL0 : LenN (List.replicate 8 (0 : Int)) 8 := ⟨by simp⟩
              have hgb : g = blockF h blk.l := by
                subst hi8
                rw [List.take_of_length_le (by omega), List.take_of_length_le (by rw [blockF_len]; exact Nat.le_refl _)] at hgt
                exact hgt
              refine c_region ?_; refine sq S ?_; clear S; intro a S; refine sw S ?_; clear S; intro a w S; refine wl_nil ?_; refine xtn ?_; refine c_ret ?_
              refine end1 S (fun _ => ?_)
              rw [hgb]
def padF (bs : List UInt8) : List UInt8 := bs ++ [128] ++ List.replicate ((119 - bs.length % 64) % 64) 0 ++ be 8 (8 * (bs.length : Int))
theorem padF_len (bs : List UInt8) : (padF bs).length = bs.length + 1 + (119 - bs.length % 64) % 64 + 8 := by
  unfold padF; rw [List.length_append, List.length_append, List.length_append, be_len, List.length_replicate]; rfl
theorem pad_c (bs : List UInt8) (p : Option Addr) (n c : Nat) (w0 : World) (hn : bs.length = n) (hl : n ≤ 1000000) (hx : Stable (fun _ => False) w0 (SlF p (encL bs))) :
    Ret Tryz.prog 263 [.slice p n c] w0 (fun _ => False) fun r w' => ∃ g, r = .slice (some ⟨g, 0, none⟩) (padF bs).length (padF bs).length ∧ w0.heap.size ≤ g ∧ w'.ownsRow 0 5 1 (.slice (some ⟨g, 0, none⟩) (padF bs).length (padF bs).length) (padF bs).length (encL (padF bs)) := by
  have hln : LenN bs n := ⟨hn⟩
  have hpl := padF_len bs
  refine enter Tryz.func263 rfl rfl (Wd.begin (fs := [SlF p (encL bs)]) (by simpa using hx)) (fun a S => ?_)
  simp only [Tryz.ntmps263, List.length_cons, List.length_nil, Nat.reduceAdd, Nat.reduceSub, List.replicate_succ, List.replicate_zero, List.cons_append, List.nil_append] at S
  refine c_seq ?_; refine c_region ?_; refine sq S ?_; clear S; intro a S; refine wl_nil ?_; refine xtn ?_; refine c_seq ?_; refine c_region ?_; (iterate 5 (refine sq S ?_; clear S; intro a S))
  rw [w64 ((n : Int) + 72) (by omega) (by omega)] at S
  refine smkc n (n + 72) S rfl (by omega) (by omega) (by omega) (by simp only [maxLen]; omega) ?_; clear S; intro g a w S
  refine sq S ?_; clear S; intro a S; refine wl_nil ?_; refine xtn ?_; refine c_seq ?_; refine c_region ?_; (iterate 2 (refine sq S ?_; clear S; intro a S))
  refine scp S (by omega) ?_; clear S; intro a w S
  rw [show encL bs ++ (encL (List.replicate n (0 : UInt8))).drop (n * 1) = encL bs from by rw [List.drop_of_length_le (by rw [encL_len, List.length_replicate]; exact Nat.le_refl _), List.append_nil]] at S
  refine wl_nil ?_; refine xtn ?_; refine c_seq ?_; refine c_region ?_; refine sq S ?_; clear S; intro a S
  refine sn S ?_; clear S; intro b14 a w S
  refine sap S (by simp only [maxLen]; omega) (by omega) ?_; clear S; rintro p3 c3 a w - S
  rw [show encL bs ++ [.int .u8 128] = encL (bs ++ [128]) from by rw [encL_append]; rfl] at S
  refine sq S ?_; clear S; intro a S; refine wl_nil ?_; refine xtn ?_; refine c_seq ?_; refine c_region ?_; (iterate 4 (refine sq S ?_; clear S; intro a S))
  rw [show (n : Int).tmod 64 = ((n % 64 : Nat) : Int) from by rw [Int.tmod_eq_emod_of_nonneg (by omega)]; omega] at S
  refine sq S ?_; clear S; intro a S
  rw [show IntKind.i64.wrap (119 - ((n % 64 : Nat) : Int)) = ((119 - n % 64 : Nat) : Int) from by rw [w64 _ (by omega) (by omega)]; omega] at S
  refine sq S ?_; clear S; intro a S
  rw [show ((119 - n % 64 : Nat) : Int).tmod 64 = (((119 - n % 64) % 64 : Nat) : Int) from by rw [Int.tmod_eq_emod_of_nonneg (by omega)]; omega] at S
  refine sapz1 p3 (n + 1) (m := (119 - n % 64) % 64) S (by omega) (by simp only [maxLen]; omega) (by omega) ?_; clear S; intro p4 c4 a w S
  rw [← encL_append] at S
  refine sq S ?_; clear S; intro a S; refine wl_nil ?_; refine xtn ?_; refine c_seq ?_; refine c_region ?_; (iterate 4 (refine sq S ?_; clear S; intro a S))
  rw [wu64 (n : Int) (by omega) (by omega)] at S
  refine sq S ?_; clear S; intro a S
  rw [wu64 (8 * (n : Int)) (by omega) (by omega)] at S
  refine srn S (put64_c p4 (n + 1 + (119 - n % 64) % 64) c4 (bs ++ [128] ++ List.replicate ((119 - n % 64) % 64) 0) (8 * (n : Int)) _ (by rw [List.length_append, List.length_append, List.length_replicate, hn]; rfl) (by omega) (by omega) (by omega) ((own_sl (S.row p4 (n + 1 + (119 - n % 64) % 64))).stable (fun _ _ h => h))) ?_; clear S; rintro _ a w ⟨g2, rfl, hg2, hown⟩ hS -
  have S := hS hown (fun ad h => by cases h; exact hg2)
  clear hS
  have e1 : n + 1 + (119 - n % 64) % 64 + 8 = (padF bs).length := by rw [hpl, hn]
  have e2 : bs ++ [128] ++ List.replicate ((119 - n % 64) % 64) 0 ++ be 8 (8 * (n : Int)) = padF bs := by rw [padF, hn]
  rw [e1, e2] at S
  refine sq S ?_; clear S; intro a S; refine wl_nil ?_; refine xtn ?_; refine c_ret ?_
  have hrow := S.row (some ⟨g2, 0, none⟩) (padF bs).length
  have hnew := S.rowNew (some ⟨g2, 0, none⟩) (padF bs).length
  refine end1 S (fun _ => ?_)
  exact ⟨g2, rfl, (hnew _ rfl).elim (fun h => h.elim) id, hrow⟩
def blocksF : Nat → List Int → List UInt8 → List Int
  | 0, h, _ => h
  | k + 1, h, xs => blocksF k (blockF h (xs.take 64)) (xs.drop 64)
def outF (h : List Int) (k : Nat) : List UInt8 := (List.range k).flatMap fun j => be 4 (nthI h j)
theorem outF_len (h : List Int) (k : Nat) : (outF h k).length = 4 * k := by
  induction k with
  | zero => rfl
  | succ k ih => rw [outF, List.range_succ, List.flatMap_append, List.length_append]; simp only [List.flatMap_cons, List.flatMap_nil, List.append_nil, be_len]; rw [show ((List.range k).flatMap fun j => be 4 (nthI h j)).length = 4 * k from ih]; omega
theorem outF_succ (h : List Int) (k : Nat) : outF h (k + 1) = outF h k ++ be 4 (nthI h k) := by
  rw [outF, List.range_succ, List.flatMap_append]; simp [outF]
def shaF (bs : List UInt8) : List UInt8 := outF (blocksF ((padF bs).length / 64) shaH (padF bs)) 8
theorem shaF_len (bs : List UInt8) : (shaF bs).length = 32 := outF_len _ 8
theorem wrap32 (x : Int) : 0 ≤ IntKind.u32.wrap x ∧ IntKind.u32.wrap x ≤ 4294967295 := by
  unfold IntKind.wrap
  simp only [IntKind.bits, IntKind.signed]
  constructor
  · simp; omega
  · simp; omega
theorem blockF_u32 (h : List Int) (bs : List UInt8) : ∀ x ∈ blockF h bs, 0 ≤ x ∧ x ≤ 4294967295 := fun x hx => by
  obtain ⟨i, -, rfl⟩ := List.mem_map.1 hx
  exact wrap32 _
theorem sum_c (bs : List UInt8) (p : Option Addr) (n c : Nat) (w0 : World) (hn : bs.length = n) (hl : n ≤ 1000000) (hx : Stable (fun _ => False) w0 (SlF p (encL bs))) :
    Ret Tryz.prog 240 [.slice p n c] w0 (fun _ => False) fun r _ => r = .agg ⟨encL (shaF bs)⟩ := by
  have hpl := padF_len bs
  have hp64 : (padF bs).length % 64 = 0 := by rw [hpl]; omega
  have hpm : (padF bs).length ≤ 1000200 := by rw [hpl]; omega
  refine enter Tryz.func240 rfl rfl (Wd.begin (fs := [SlF p (encL bs)]) (by simpa using hx)) (fun a S => ?_)
  simp only [Tryz.ntmps240, List.length_cons, List.length_nil, Nat.reduceAdd, Nat.reduceSub, List.replicate_succ, List.replicate_zero, List.cons_append, List.nil_append] at S
  refine c_seq ?_; refine c_region ?_
  refine sa S ?_; clear S; intro b2 a w S
  refine wl_nil ?_; refine xtn ?_; refine c_seq ?_; refine c_region ?_
  refine sr S (start_c _) ?_; clear S; rintro _ a w rfl S
  have hH8 : LenN shaH 8 := ⟨rfl⟩
  have hL0 : LenN (List.replicate 8 (0 : Int)) 8 := ⟨by simp⟩
  refine sa S ?_; clear S; intro b3 a w S
  rw [show ([.int .u32 0, .int .u32 0, .int .u32 0, .int .u32 0, .int .u32 0, .int .u32 0, .int .u32 0, .int .u32 0] : List Value) = u32s (List.replicate 8 0) from rfl] at S
  refine sw S ?_; clear S; intro a w S; refine wl_nil ?_; refine xtn ?_; (iterate 2 (refine c_seq ?_)); refine c_region ?_; refine sq S ?_; clear S; intro a S
  refine srn S (pad_c bs p n c _ hn hl ((S.fact (Φ := SlF p (encL bs)) (by simp)).less fun _ _ h => h.elim)) ?_; clear S; rintro _ a w ⟨g, rfl, hg, hown⟩ hS -
  have S := hS hown (fun ad h => by cases h; exact hg)
  clear hS
  replace S := S.rowToGl (some ⟨g, 0, none⟩) (padF bs) (e := 5) (sz := 1) (n := (padF bs).length) (c := (padF bs).length) (fun _ _ _ _ => trivial)
  refine sq S ?_; clear S; intro a S; refine wl_nil ?_; refine xtn ?_; refine c_block ?_
  refine c_fore4 S (fun (h : List Int) (xs : List UInt8) (q : Option Addr) (e : Nat) uu => [(4, .slice q xs.length e), (5, uu 10), (0, uu 11), (0, uu 12), (0, uu 13), (0, uu 14), (0, uu 15), (0, uu 16), (0, uu 17), (0, uu 18), (0, uu 19)]) (fun (h : List Int) (xs : List UInt8) (q : Option Addr) (e : Nat) => [Wk.box b3 313 (u32s h), Wk.box b2 296 (encL (List.replicate 32 (0 : UInt8)))]) (fun (h : List Int) (xs : List UInt8) (q : Option Addr) (e : Nat) => [GlF q xs]) (fun (h : List Int) (xs : List UInt8) (q : Option Addr) (e : Nat) => h.length = 8 ∧ xs.length % 64 = 0 ∧ xs.length ≤ e ∧ (∀ x ∈ h, 0 ≤ x ∧ x ≤ 4294967295) ∧ blocksF (xs.length / 64) h xs = blocksF ((padF bs).length / 64) shaH (padF bs)) (fun (h : List Int) (xs : List UInt8) (q : Option Addr) (e : Nat) => xs.length) (shaH) (padF bs) (some ⟨g, 0, none⟩) ((padF bs).length) ?_ S.uu ?_ ?_
  · exact ⟨rfl, hp64, Nat.le_refl _, by decide, rfl⟩
  · exact S.sub _ _
  · clear S; rintro h xs q e uu a w ⟨hh8, hx64, hxe, hhu, hbl⟩ S
    (iterate 2 (refine c_seq ?_)); refine c_region ?_; (iterate 3 (refine sq S ?_; clear S; intro a S)); refine wl_nil ?_; refine xtn ?_
    refine c_cond S (fun h3 => ?_) (fun h3 => ?_)
    · refine c_skip ?_; refine xtn ?_; refine c_seq ?_; refine c_block ?_
      have hx0 : 64 ≤ xs.length := by have := of_decide_eq_true h3; omega
      have hN8 : LenN h 8 := ⟨hh8⟩
      have hLe : LeC 64 xs.length := ⟨hx0⟩
      have hLe2 : LeC xs.length e := ⟨hxe⟩
      have hLe3 : LeC 64 e := ⟨by omega⟩
      obtain ⟨bl, hbl1⟩ : ∃ bl : Blk, bl.l = xs.take 64 := ⟨⟨xs.take 64, by rw [List.length_take]; omega⟩, rfl⟩
      obtain ⟨ad, rfl⟩ : ∃ ad, q = some ad := by
        cases q with
        | some ad => exact ⟨ad, rfl⟩
        | none =>
          have h1 := (S.mem.fact (GlF none xs)).now.1.1 rfl
          have h2 := congrArg List.length h1
          rw [encL_len] at h2
          have h3 : xs.length * 1 = 0 := h2
          omega
      have hN8b : LenN (blockF h (xs.take 64)) 8 := ⟨blockF_len _ _⟩
      replace S := S.add (Φ := BlkF ad bl) ((S.mem.fact (GlF (some ad) xs)).imp fun _ h j v hj => h.1.2 ad rfl j v (by
        rw [hbl1, show encL (xs.take 64) = (encL xs).take (64 * 1) from (encL_take xs 64).symm, List.getElem?_take] at hj
        split at hj
        · exact hj
        · cases hj))
      refine' c_drawT0 (.q 1 (.q 2 (.q 3 (.l 0 (.l 4 (.l 5 (.e))))))) [b3] S ?_ ?_
      rotate_left 3
      · intro w S
        (iterate 3 (refine tq S ?_; clear S; intro a S)); refine tl ?_; refine sq S ?_; clear S; intro a S; refine te S ?_; refine tl ?_
        refine sr S (block_c h bl hh8 _) ?_; clear S; rintro _ a w rfl S
        rw [hbl1] at S
        refine te S ?_; refine tl ?_; refine sw S ?_; clear S; intro a w S; refine te S ?_; refine tn ?_
        exact S
      intro  a w S
      refine xbn ?_; refine xtn ?_; refine c_region ?_; (iterate 3 (refine sq S ?_; clear S; intro a S)); refine wl_nil ?_; refine xtn ?_
      replace S := S.add (Φ := GlF (if e = 64 then some ad else (some ad).map (·.add (64 * 1))) (xs.drop 64)) ((S.mem.fact (GlF (some ad) xs)).imp fun _ h => h.drop 64 hxe)
      rw [show xs.length - 64 = (xs.drop 64).length from List.length_drop.symm] at S
      refine ⟨blockF h (xs.take 64), xs.drop 64, (if e = 64 then some ad else (some ad).map (·.add (64 * 1))), e - 64, S.uu, ⟨blockF_len _ _, by rw [List.length_drop]; omega, by rw [List.length_drop]; omega, blockF_u32 _ _, ?_⟩, S.sub _ _, by rw [List.length_drop]; omega⟩
      rw [← hbl, List.length_drop, show xs.length / 64 = (xs.length - 64) / 64 + 1 from by omega, blocksF]
    · refine c_exit ?_; (iterate 2 (refine xte ?_)); refine xbe ?_; refine xtn ?_; refine c_seq ?_
      have hx0 : xs.length = 0 := by have := of_decide_eq_false h3; omega
      have hhf : h = blocksF ((padF bs).length / 64) shaH (padF bs) := by rw [← hbl, hx0]; rfl
      have hN8 : LenN h 8 := ⟨hh8⟩
      replace S := S.addNil 5 1
      refine c_region ?_; refine sq S ?_; clear S; intro a S; refine wl_nil ?_; refine xtn ?_; (iterate 2 (refine c_seq ?_)); refine c_region ?_; refine sq S ?_; clear S; intro a S; refine wl_nil ?_; refine xtn ?_; refine c_block ?_
      refine c_fore4 S (fun (i : Nat) (out : List UInt8) (q2 : Option Addr) (e2 : Nat) uu => [(5, .slice q2 out.length e2), (0, uu 6), (13, .int .i64 (i : Nat)), (0, uu 21), (0, uu 22), (0, uu 23), (0, uu 24), (0, uu 25), (0, uu 26), (0, uu 27), (0, uu 28)]) (fun (i : Nat) (out : List UInt8) (q2 : Option Addr) (e2 : Nat) => [Wk.row 5 1 q2 out.length e2 (encL out), Wk.box b3 313 (u32s h), Wk.box b2 296 (encL (List.replicate 32 (0 : UInt8)))]) (fun (i : Nat) (out : List UInt8) (q2 : Option Addr) (e2 : Nat) => []) (fun (i : Nat) (out : List UInt8) (q2 : Option Addr) (e2 : Nat) => i ≤ 8 ∧ out = outF h i) (fun (i : Nat) (out : List UInt8) (q2 : Option Addr) (e2 : Nat) => 8 - i) (0) ([]) (none) (0) ?_ S.uu ?_ ?_
      · exact ⟨by omega, rfl⟩
      · exact S.sub [Wk.row 5 1 none 0 0 [], Wk.box b3 313 (u32s h), Wk.box b2 296 (encL (List.replicate 32 (0 : UInt8)))] []
      · clear S; rintro i out q2 e2 uu a w ⟨hi, hout⟩ S
        refine c_seq ?_; refine c_region ?_; refine sq S ?_; clear S; intro a S; refine wl_nil ?_; refine xtn ?_; refine c_seq ?_
        refine c_cond S (fun h8 => ?_) (fun h8 => ?_)
        · refine c_skip ?_; refine xtn ?_; refine c_seq ?_; refine c_block ?_; refine c_seq ?_
          have hi8 : i < 8 := by simp at h8; omega
          have hKi : KLt i 8 := ⟨hi8⟩
          have hKi2 : KLt i h.length := ⟨by omega⟩
          have hol : out.length = 4 * i := by rw [hout, outF_len]
          have hui : 0 ≤ nthI h i ∧ nthI h i ≤ 4294967295 := by
            have h1 := nthI_get (ys := h) (k := i) (by omega)
            exact hhu _ (List.mem_of_getElem? h1)
          refine c_region ?_; (iterate 2 (refine sq S ?_; clear S; intro a S)); refine wl_nil ?_; refine xtn ?_; refine c_region ?_; (iterate 4 (refine sq S ?_; clear S; intro a S))
          refine srn S (put32_c q2 out.length e2 out (nthI h i) _ rfl (by omega) hui.1 hui.2 ((own_sl (S.row q2 out.length)).stable (fun _ _ h => h))) ?_; clear S; rintro _ a w ⟨g2, rfl, hg2, hown⟩ hS -
          have S := hS hown (fun ad h => by cases h; exact hg2)
          clear hS
          rw [show out.length + 4 = (out ++ be 4 (nthI h i)).length from by rw [List.length_append, be_len]] at S
          refine sq S ?_; clear S; intro a S; refine wl_nil ?_; refine xbn ?_; refine xtn ?_; refine c_region ?_; (iterate 2 (refine sq S ?_; clear S; intro a S)); refine wl_nil ?_; refine xtn ?_
          rw [w64 ((i : Int) + 1) (by omega) (by omega)] at S
          exact ⟨i + 1, out ++ be 4 (nthI h i), some ⟨g2, 0, none⟩, (out ++ be 4 (nthI h i)).length, S.uu, ⟨by omega, by rw [outF_succ, hout]⟩, S.sub _ _, by omega⟩
        · refine c_exit ?_; (iterate 2 (refine xte ?_)); refine xbe ?_; refine xtn ?_; refine c_seq ?_
          have hi8 : i = 8 := by simp at h8; omega
          have hol : out.length = 32 := by rw [hout, hi8, outF_len]
          have hLe : LeC 32 out.length := ⟨by omega⟩
          have hlen : LenIs (encL out) 32 := ⟨by rw [encL_len, hol]; rfl⟩
          have hsf : SetFront (encL (List.replicate 32 (0 : UInt8))) (encL out) (encL out) := ⟨by rw [encL_len, encL_len, hol]; exact Nat.le_refl _, by rw [List.drop_of_length_le (by rw [encL_len, encL_len, hol]; exact Nat.le_refl _), List.append_nil]⟩
          obtain ⟨g3, cur, hq2, -⟩ := own_cells (S.row q2 out.length) (show 0 < out.length by omega)
          subst hq2
          refine c_region ?_; (iterate 2 (refine sq S ?_; clear S; intro a S))
          refine slA (encL out) S (fun j v hj => ?_) ?_
          · have := own_cell (S.row (some ⟨g3, 0, none⟩) out.length) (o := 0) (j := j) (u := v) (by rw [Nat.zero_add]; exact hj)
            rw [rAddr, Option.getD_some, add_lit] at this
            exact this
          clear S; intro a S
          refine sw S ?_; clear S; intro a w S; refine wl_nil ?_; refine xtn ?_; refine c_ret ?_
          refine end1 S (fun _ => ?_)
          rw [hout, hi8, hhf]; rfl
structure LRow where
  name : List UInt8
  term : LTerm
instance encRow : Enc LRow := ⟨6, fun r => str r.name :: r.term.cells, fun _ => rfl, fun x u hu => by
  rcases List.mem_cons.1 hu with rfl | hu
  · rfl
  · exact encT.one x.term u hu⟩
instance layRow : Lay LRow := { encRow with
  dflt := ⟨[], zeroL⟩
  inn := fun w r => LtIn w r.term
  mono := fun w w' x h hx => LtIn.mono h x.term hx }
instance : SzE LRow 6 := ⟨rfl, by decide⟩
instance {r : LRow} : CellsOf r [str r.name, .int .i64 r.term.kind, .int .i64 r.term.user, .int .i64 r.term.num, str r.term.text, .slice r.term.p r.term.kids.length r.term.cap] := ⟨rfl⟩
def LRow.r (x : LRow) : PRow := ⟨x.name, x.term.t⟩
abbrev vRow (r : LRow) : Value := .agg ⟨[str r.name, .int .i64 r.term.kind, .int .i64 r.term.user, .int .i64 r.term.num, str r.term.text, .slice r.term.p r.term.kids.length r.term.cap]⟩
instance (priority := 850) hast_row {fs : List (World → Prop)} {r : LRow} [h : HasI fs r] : HasT fs r.term := ⟨fun M w hf => h.of M w hf⟩
theorem indexRow_c (F : Nat) [EntF Tryz.prog F] (ca : List Value) (q : LRow → Bool) (xs : List LRow) (p : Option Addr) (n c : Nat) (w0 : World) (hn : xs.length = n) (hl : n ≤ 9223372036854775807) (hx : Stable (fun _ => False) w0 (GlF p xs))
    (hF : ∀ x ∈ xs, ∀ w, Agree (fun _ => False) w0 w → Ret Tryz.prog F (vRow x :: ca) w (fun _ => False) fun v _ => v = .bool (q x)) :
    Ret Tryz.prog 184 [.slice p n c, .func (.func F) #[] ⟨ca⟩] w0 (fun _ => False) fun v _ => v = .int .i64 (idxG q xs 0) := by
  refine enter Tryz.func184 rfl rfl (Wd.begin (fs := [GlF p xs]) (by simpa using hx)) (fun a S => ?_)
  simp only [Tryz.ntmps184, List.length_cons, List.length_nil, Nat.reduceAdd, Nat.reduceSub, List.replicate_succ, List.replicate_zero, List.cons_append, List.nil_append] at S
  refine c_seq ?_; refine c_region ?_; refine sq S ?_; clear S; intro a S; refine wl_nil ?_; refine xtn ?_; (iterate 2 (refine c_seq ?_)); refine c_region ?_; (iterate 3 (refine sq S ?_; clear S; intro a S)); refine wl_nil ?_; refine xtn ?_; refine c_block ?_
  refine c_forb1 S (fun (k : Nat) uu => [(4, uu 4), (0, uu 5), (2, .int .i64 (k : Nat)), (0, uu 9), (0, uu 10), (0, uu 11), (0, uu 12), (0, uu 13), (0, uu 14), (0, uu 15), (0, uu 16), (0, uu 17), (0, uu 18)]) (fun (k : Nat) => k ≤ n ∧ idxG q (xs.drop k) k = idxG q xs 0) (fun (k : Nat) => n - k) (0) ?_ S.uu ?_ ?_
  · exact ⟨Nat.zero_le _, rfl⟩
  · first | exact S | exact S.sub _ _
  · clear S; rintro k uu a w ⟨hk, hrel⟩ S
    refine c_seq ?_; refine c_region ?_; refine sq S ?_; clear S; intro a S; refine wl_nil ?_; refine xtn ?_; refine c_seq ?_
    refine c_cond S (fun h2 => ?_) (fun h2 => ?_)
    · refine c_skip ?_; refine xtn ?_; refine c_seq ?_; refine c_block ?_; refine c_seq ?_; refine c_region ?_; (iterate 2 (refine sq S ?_; clear S; intro a S)); refine wl_nil ?_; refine xtn ?_; refine c_seq ?_
      have hkl : k < n := by simp at h2; omega
      have hK : KLt k n := ⟨hkl⟩
      have hK2 : KLt k xs.length := ⟨by omega⟩
      rw [nthG_drop (show k < xs.length by omega), idxG] at hrel
      refine c_region ?_; (iterate 5 (refine sq S ?_; clear S; intro a S))
      refine sr S (hF (nthG xs k) (nthG_mem (by omega)) w S.wd.agree) ?_; clear S; rintro _ a w rfl S
      refine wl_nil ?_; refine xtn ?_
      refine c_cond S (fun h4 => ?_) (fun h4 => ?_)
      · refine c_seq ?_; refine c_region ?_; (iterate 2 (refine sq S ?_; clear S; intro a S)); refine wl_nil ?_; refine xtn ?_; refine c_ret ?_; refine xbr ?_; (iterate 2 (refine xtr ?_)); refine xbr ?_; refine xtr ?_
        rw [if_pos h4] at hrel
        refine end1 S (fun _ => ?_)
        rw [hrel]
      · refine c_skip ?_; refine xbn ?_; refine xtn ?_; refine c_region ?_; (iterate 2 (refine sq S ?_; clear S; intro a S)); refine wl_nil ?_; refine xtn ?_
        rw [if_neg (by simpa using h4)] at hrel
        rw [w64 ((k : Int) + 1) (by omega) (by omega)] at S
        exact ⟨k + 1, S.uu, ⟨hkl, by rw [← hrel]; rfl⟩, S.sub _ _, by omega⟩
    · refine c_exit ?_; (iterate 2 (refine xte ?_)); refine xbe ?_; refine xtn ?_; refine c_seq ?_; refine c_region ?_; refine sq S ?_; clear S; intro a S; refine wl_nil ?_; refine xtn ?_; refine c_ret ?_
      rw [List.drop_of_length_le (by simp at h2; omega)] at hrel
      refine end1 S (fun _ => ?_)
      rw [← hrel]; rfl
theorem containsRow_c (F : Nat) [EntF Tryz.prog F] (ca : List Value) (q : LRow → Bool) (xs : List LRow) (p : Option Addr) (n c : Nat) (w0 : World) (hn : xs.length = n) (hl : n ≤ 9223372036854775807) (hx : Stable (fun _ => False) w0 (GlF p xs))
    (hF : ∀ x ∈ xs, ∀ w, Agree (fun _ => False) w0 w → Ret Tryz.prog F (vRow x :: ca) w (fun _ => False) fun v _ => v = .bool (q x)) :
    Ret Tryz.prog 90 [.slice p n c, .func (.func F) #[] ⟨ca⟩] w0 (fun _ => False) fun v _ => v = .bool (xs.any q) := by
  refine enter Tryz.func90 rfl rfl (Wd.begin (fs := [GlF p xs]) (by simpa using hx)) (fun a S => ?_)
  simp only [Tryz.ntmps90, List.length_cons, List.length_nil, Nat.reduceAdd, Nat.reduceSub, List.replicate_succ, List.replicate_zero, List.cons_append, List.nil_append] at S
  refine c_seq ?_; refine c_region ?_; refine sq S ?_; clear S; intro a S; refine wl_nil ?_; refine xtn ?_; refine c_seq ?_; refine c_region ?_; (iterate 2 (refine sq S ?_; clear S; intro a S))
  refine sr S (indexRow_c F ca q xs p n c _ hn hl (S.gl0 p) fun x hx w' hw' => hF x hx w' (S.wd.agree.trans hw')) ?_; clear S; rintro _ a w rfl S
  (iterate 2 (refine sq S ?_; clear S; intro a S)); refine wl_nil ?_; refine xtn ?_; refine c_ret ?_
  refine end1 S (fun _ => ?_)
  rw [idxG_any q xs 0 (by omega)]
theorem gone_c (r : LRow) (w0 : World) (hf : Stable (fun _ => False) w0 (LtF r.term)) : Ret Tryz.prog 92 [vRow r] w0 (fun _ => False) fun v _ => v = .bool (sameF r.term.t zeroT) := by
  refine enter Tryz.func92 rfl rfl (Wd.begin (fs := [LtF r.term]) (by simpa using hf)) (fun a S => ?_)
  simp only [Tryz.ntmps92, List.length_cons, List.length_nil, Nat.reduceAdd, Nat.reduceSub, List.replicate_succ, List.replicate_zero, List.cons_append, List.nil_append] at S
  refine c_seq ?_; refine c_region ?_
  refine sa S ?_; clear S; intro b1 a w S
  refine sq S ?_; clear S; intro a S; refine wl_nil ?_; refine xtn ?_; refine c_seq ?_; refine c_region ?_; (iterate 3 (refine sq S ?_; clear S; intro a S))
  refine sr S (same_c r.term zeroL w (S.t0 _) (S.t0 _)) ?_; clear S; rintro _ a w rfl S
  refine sq S ?_; clear S; intro a S; refine wl_nil ?_; refine xtn ?_; refine c_ret ?_
  refine end1 S (fun _ => rfl)
instance {r : LRow} {bs fs} [HasT fs r.term] : CallV Tryz.prog 92 [vRow r] bs fs (.bool (sameF r.term.t zeroT)) := ⟨fun w m => gone_c r w (m.t0 _)⟩
theorem charsP_cons (c : UInt8) (l : List UInt8) : charsP (c :: l) = (!(decide ((c.toNat : Int) < 33) || decide (126 < (c.toNat : Int))) && charsP l) := by
  unfold charsP
  rw [List.all_cons]
  congr 1
  by_cases h1 : (c.toNat : Int) < 33
  · have : ¬ 33 ≤ c.toNat := by omega
    simp [h1, this]
  · by_cases h2 : 126 < (c.toNat : Int)
    · have : ¬ c.toNat ≤ 126 := by omega
      simp [h2, this]
    · have h3 : 33 ≤ c.toNat := by omega
      have h4 : c.toNat ≤ 126 := by omega
      simp [h1, h2, h3, h4]
theorem rowRight_c (r : LRow) (w0 : World) (hl : r.name.length ≤ 9223372036854775807) (hf : Stable (fun _ => False) w0 (LtF r.term)) : Ret Tryz.prog 160 [vRow r] w0 (fun _ => False) fun v _ => v = .bool (rightP r.r) := by
  refine enter Tryz.func160 rfl rfl (Wd.begin (fs := [LtF r.term]) (by simpa using hf)) (fun a S => ?_)
  simp only [Tryz.ntmps160, List.length_cons, List.length_nil, Nat.reduceAdd, Nat.reduceSub, List.replicate_succ, List.replicate_zero, List.cons_append, List.nil_append] at S
  refine c_seq ?_; refine c_region ?_
  refine sa S ?_; clear S; intro b1 a w S
  refine sq S ?_; clear S; intro a S; refine wl_nil ?_; refine xtn ?_; (iterate 2 (refine c_seq ?_)); refine c_region ?_; (iterate 4 (refine sq S ?_; clear S; intro a S)); refine wl_nil ?_; refine xtn ?_; refine c_block ?_
  refine c_forb1 S (fun (k : Nat) uu => [(2, uu 2), (0, uu 3), (5, .int .i64 (k : Nat)), (0, uu 10), (0, uu 11), (0, uu 12), (0, uu 13), (0, uu 14), (0, uu 15), (0, uu 16), (0, uu 17), (0, uu 18), (0, uu 19), (0, uu 20), (0, uu 21), (0, uu 22), (0, uu 23), (0, uu 24)]) (fun (k : Nat) => k ≤ r.name.length ∧ charsP (r.name.drop k) = charsP r.name) (fun (k : Nat) => r.name.length - k) (0) ?_ S.uu ?_ ?_
  · exact ⟨Nat.zero_le _, rfl⟩
  · first | exact S | exact S.sub _ _
  · clear S; rintro k uu a w ⟨hk, hrel⟩ S
    refine c_seq ?_; refine c_region ?_; refine sq S ?_; clear S; intro a S; refine wl_nil ?_; refine xtn ?_; refine c_seq ?_
    refine c_cond S (fun h2 => ?_) (fun h2 => ?_)
    · refine c_skip ?_; refine xtn ?_; refine c_seq ?_; refine c_block ?_; refine c_seq ?_; refine c_region ?_; (iterate 2 (refine sq S ?_; clear S; intro a S)); refine wl_nil ?_; refine xtn ?_; refine c_seq ?_
      have hkl : k < r.name.length := by simp at h2; omega
      have hK : KLt k r.name.length := ⟨hkl⟩
      rw [nthG_drop hkl, charsP_cons] at hrel
      refine c_region ?_; (iterate 6 (refine sq S ?_; clear S; intro a S)); (iterate 5 (refine gQ S ?_; clear S; intro a S)); refine sq S ?_; clear S; intro a S; refine wl_nil ?_; refine xtn ?_
      refine c_cond S (fun h4 => ?_) (fun h4 => ?_)
      · refine c_seq ?_; refine c_region ?_; refine sq S ?_; clear S; intro a S; refine wl_nil ?_; refine xtn ?_; refine c_ret ?_; refine xbr ?_; (iterate 2 (refine xtr ?_)); refine xbr ?_; refine xtr ?_
        refine end1 S (fun _ => ?_)
        rw [h4] at hrel
        rw [rightP, show r.r.name = r.name from rfl, ← hrel]; rfl
      · refine c_skip ?_; refine xbn ?_; refine xtn ?_; refine c_region ?_; (iterate 2 (refine sq S ?_; clear S; intro a S)); refine wl_nil ?_; refine xtn ?_
        rw [w64 ((k : Int) + 1) (by omega) (by omega)] at S
        refine ⟨k + 1, S.uu, ⟨hkl, ?_⟩, S.sub _ _, by omega⟩
        rw [h4] at hrel
        exact hrel
    · refine c_exit ?_; (iterate 2 (refine xte ?_)); refine xbe ?_; refine xtn ?_; refine c_seq ?_; refine c_region ?_; (iterate 2 (refine sq S ?_; clear S; intro a S))
      refine srn S (encode_c r.term _ (S.t0 r.term)) ?_; clear S; rintro _ a w ⟨p, c, rfl, hown, hnew⟩ hS -
      have S := hS hown hnew
      clear hS
      (iterate 5 (refine sq S ?_; clear S; intro a S)); refine wl_nil ?_; refine xtn ?_; refine c_seq ?_; refine c_region ?_; (iterate 5 (refine sq S ?_; clear S; intro a S)); (iterate 4 (refine gQ S ?_; clear S; intro a S)); (iterate 2 (refine sq S ?_; clear S; intro a S)); refine gQ S ?_; clear S; intro a S; refine gC S ?_; clear S; intro a w S; (iterate 9 (refine gQ S ?_; clear S; intro a S)); (iterate 2 (refine sq S ?_; clear S; intro a S))
      refine wl_nil ?_; refine xtn ?_; refine c_ret ?_
      have hk2 : r.name.length ≤ k := by simp at h2; omega
      rw [List.drop_of_length_le hk2] at hrel
      refine end1 S (fun _ => ?_)
      rw [rightP, show charsP r.r.name = true from hrel.symm, Bool.true_and, fitP]
      have e1 : ∀ a b : Nat, decide ((a : Int) ≤ (b : Int)) = decide (a ≤ b) := fun a b => by simp
      have e2 : decide ((1 : Int) ≤ (r.name.length : Int)) = decide (1 ≤ r.name.length) := e1 1 _
      have e3 : decide ((r.name.length : Int) ≤ 32) = decide (r.name.length ≤ 32) := e1 _ 32
      have e4 : decide (((nameF r.term.t).length : Int) ≤ 65535) = decide ((nameF r.term.t).length ≤ 65535) := e1 _ 65535
      rw [e2, e3, e4]; rfl
theorem batch1_c (x : LRow) (b : Nat) (r : LRow) (w0 : World) (hb : Stable (fun _ => False) w0 (BoxF b 45 (Enc.cells r))) : Ret Tryz.prog 161 [vRow x, .pointer (some ⟨b, 0, none⟩)] w0 (fun _ => False) fun v _ => v = .bool (decide (x.name = r.name)) := by
  refine enter Tryz.func161 rfl rfl (Wd.begin (fs := [BoxF b 45 [str r.name, .int .i64 r.term.kind, .int .i64 r.term.user, .int .i64 r.term.num, str r.term.text, .slice r.term.p r.term.kids.length r.term.cap]]) (fun Φ h => by obtain rfl := List.mem_singleton.1 h; exact hb)) (fun a S => ?_)
  simp only [Tryz.ntmps161, List.length_cons, List.length_nil, Nat.reduceAdd, Nat.reduceSub, List.replicate_succ, List.replicate_zero, List.cons_append, List.nil_append] at S
  refine c_seq ?_; refine c_region ?_
  refine sa S ?_; clear S; intro b2 a w S
  refine sq S ?_; clear S; intro a S; refine wl_nil ?_; refine xtn ?_; refine c_seq ?_; refine c_region ?_; (iterate 6 (refine sq S ?_; clear S; intro a S)); refine wl_nil ?_; refine xtn ?_; refine c_ret ?_
  exact end1 S (fun _ => rfl)
def rsP (xs : List LRow) : List PRow := xs.map LRow.r
theorem batch_c (xs : List LRow) (p : Option Addr) (n c : Nat) (w0 : World) (hn : xs.length = n) (hc : n ≤ c) (hl : ∀ x ∈ xs, x.name.length ≤ 9223372036854775807) (hll : n ≤ 9223372036854775807) (hx : Stable (fun _ => False) w0 (GlF p xs)) : Ret Tryz.prog 63 [.slice p n c] w0 (fun _ => False) fun v _ => v = .bool (batchP (rsP xs)) := by
  subst hn
  refine enter Tryz.func63 rfl rfl (Wd.begin (fs := [GlF p xs]) (by simpa using hx)) (fun a S => ?_)
  simp only [Tryz.ntmps63, List.length_cons, List.length_nil, Nat.reduceAdd, Nat.reduceSub, List.replicate_succ, List.replicate_zero, List.cons_append, List.nil_append] at S
  refine c_seq ?_; refine c_region ?_; refine sq S ?_; clear S; intro a S; refine wl_nil ?_; refine xtn ?_; (iterate 2 (refine c_seq ?_)); refine c_region ?_; (iterate 3 (refine sq S ?_; clear S; intro a S)); refine wl_nil ?_; refine xtn ?_; refine c_block ?_
  refine c_forb1 S (fun (k : Nat) uu => [(2, uu 2), (0, uu 3), (0, uu 4), (2, .int .i64 (k : Nat)), (0, uu 8), (0, uu 9), (0, uu 10), (0, uu 11), (0, uu 12), (0, uu 13), (0, uu 14), (0, uu 15), (0, uu 16), (0, uu 17), (0, uu 18), (0, uu 19), (0, uu 20), (0, uu 21), (0, uu 22)]) (fun (k : Nat) => k ≤ xs.length ∧ goodP (rsP (xs.take k)) (rsP (xs.drop k)) = goodP [] (rsP xs)) (fun (k : Nat) => xs.length - k) (0) ?_ S.uu ?_ ?_
  · exact ⟨Nat.zero_le _, rfl⟩
  · first | exact S | exact S.sub _ _
  · clear S; rintro k uu a w ⟨hk, hrel⟩ S
    refine c_seq ?_; refine c_region ?_; refine sq S ?_; clear S; intro a S; refine wl_nil ?_; refine xtn ?_; refine c_seq ?_
    refine c_cond S (fun h2 => ?_) (fun h2 => ?_)
    · refine c_skip ?_; refine xtn ?_; refine c_seq ?_; refine c_block ?_; refine c_seq ?_
      have hkl : k < xs.length := by simp at h2; omega
      have hK : KLt k xs.length := ⟨hkl⟩
      have hle : LeC k c := ⟨by omega⟩
      have hd : rsP (xs.drop k) = (nthG xs k).r :: rsP (xs.drop (k + 1)) := by rw [nthG_drop hkl]; rfl
      have ht : rsP (xs.take (k + 1)) = rsP (xs.take k) ++ [(nthG xs k).r] := by rw [take_snocG hkl, rsP, List.map_append]; rfl
      rw [hd, goodP] at hrel
      have hany : ((rsP (xs.take k)).any fun x => decide (x.name = (nthG xs k).r.name)) = (xs.take k).any fun x => decide (x.name = (nthG xs k).name) := by rw [rsP, List.any_map]; rfl
      rw [hany] at hrel
      refine c_region ?_; (iterate 3 (refine sq S ?_; clear S; intro a S))
      refine sa S ?_; clear S; intro b4 a w S
      refine sq S ?_; clear S; intro a S; refine sw S ?_; clear S; intro a w S; refine wl_nil ?_; refine xtn ?_; refine c_seq ?_; refine c_region ?_; refine sq S ?_; clear S; intro a S
      refine sr S (rowRight_c (nthG xs k) w (hl _ (nthG_mem hkl)) (S.t0 (nthG xs k).term)) ?_; clear S; rintro _ a w rfl S
      (iterate 2 (refine sq S ?_; clear S; intro a S))
      refine gS S (fun hs S => ?_) (fun hs S => ?_)
      · refine gF' S ?_; clear S; intro a S; (iterate 4 (refine gF' S ?_; clear S; intro a S)); refine sq S ?_; clear S; intro a S; refine wl_nil ?_; refine xtn ?_; refine c_condT S ?_; refine c_seq ?_; refine c_region ?_; refine sq S ?_; clear S; intro a S; refine wl_nil ?_; refine xtn ?_; refine c_ret ?_; refine xbr ?_; (iterate 2 (refine xtr ?_)); refine xbr ?_; refine xtr ?_
        have e : rightP (nthG xs k).r = false := by simpa using hs
        refine end1 S (fun _ => ?_)
        rw [batchP, ← hrel, e]; rfl
      · refine gT' S ?_; refine sq S ?_; clear S; intro a S; refine gT' S ?_; refine sq S ?_; clear S; intro a S; refine gT' S ?_; refine sq S ?_; clear S; intro a S; refine gT' S ?_; refine sq S ?_; clear S; intro a S; refine gT' S ?_
        have hg : Stable (fun _ => False) w (GlF p (xs.take k)) := (S.gl0 p).imp fun _ h => h.take k
        refine sr S (containsRow_c 161 [.pointer (some ⟨b4, 0, none⟩)] (fun x => decide (x.name = (nthG xs k).name)) (xs.take k) p k c w (by simp; omega) (by omega) hg fun x hx w' hw' => batch1_c x b4 (nthG xs k) w' ((BoxF.stable (M := fun _ => False) (S.boxF b4) (fun h => h)).later hw')) ?_; clear S hg; rintro _ a w rfl S
        refine sq S ?_; clear S; intro a S; refine wl_nil ?_; refine xtn ?_
        refine c_cond S (fun h4 => ?_) (fun h4 => ?_)
        · refine c_seq ?_; refine c_region ?_; refine sq S ?_; clear S; intro a S; refine wl_nil ?_; refine xtn ?_; refine c_ret ?_; refine xbr ?_; (iterate 2 (refine xtr ?_)); refine xbr ?_; refine xtr ?_
          refine end1 S (fun _ => ?_)
          rw [batchP, ← hrel, h4]; simp
        · refine c_skip ?_; refine xbn ?_; refine xtn ?_; refine c_region ?_; (iterate 2 (refine sq S ?_; clear S; intro a S)); refine wl_nil ?_; refine xtn ?_
          rw [w64 ((k : Int) + 1) (by omega) (by omega)] at S
          refine ⟨k + 1, S.uu, ⟨hkl, ?_⟩, S.sub _ _, by omega⟩
          have e : rightP (nthG xs k).r = true := by simpa using hs
          rw [e, h4] at hrel
          rw [ht]; exact hrel
    · refine c_exit ?_; (iterate 2 (refine xte ?_)); refine xbe ?_; refine xtn ?_; refine c_seq ?_; refine c_region ?_; (iterate 4 (refine sq S ?_; clear S; intro a S)); refine wl_nil ?_; refine xtn ?_; refine c_ret ?_
      have hk2 : xs.length ≤ k := by simp at h2; omega
      rw [List.drop_of_length_le hk2] at hrel
      refine end1 S (fun _ => ?_)
      have e1 : decide ((xs.length : Int) ≤ 64) = decide (xs.length ≤ 64) := by
        have : ∀ a b : Nat, decide ((a : Int) ≤ (b : Int)) = decide (a ≤ b) := fun a b => by simp
        exact this _ 64
      rw [batchP, ← hrel, show rsP [] = [] from rfl, goodP, Bool.true_and, rsP, List.length_map, e1]
theorem rsP_len (xs : List LRow) : (rsP xs).length = xs.length := List.length_map _
theorem rsP_mem {xs : List LRow} {x : LRow} (h : x ∈ xs) : x.r ∈ rsP xs := List.mem_map_of_mem h
theorem vencode_c (xs : List LRow) (p : Option Addr) (n c : Nat) (w0 : World) (hn : xs.length = n) (hc : n ≤ c) (hl : ∀ x ∈ xs, x.name.length ≤ 9223372036854775807) (hll : n ≤ 9223372036854775807) (hx : Stable (fun _ => False) w0 (GlF p xs)) :
    Ret Tryz.prog 14 [.slice p n c] w0 (fun _ => False) fun v w' =>
      (batchP (rsP xs) = false ∧ v = .tuple ⟨[.slice none 0 0, .int .i64 2]⟩) ∨
      (batchP (rsP xs) = true ∧ ∃ (p' : Option Addr) (c' : Nat), v = .tuple ⟨[.slice p' (encP (rsP xs)).length c', .int .i64 0]⟩ ∧ w'.ownsRow 0 5 1 (.slice p' (encP (rsP xs)).length c') (encP (rsP xs)).length (encL (encP (rsP xs))) ∧ ∀ ad, p' = some ad → w0.heap.size ≤ ad.block) := by
  subst hn
  refine enter Tryz.func14 rfl rfl (Wd.begin (fs := [GlF p xs]) (by simpa using hx)) (fun a S => ?_)
  simp only [Tryz.ntmps14, List.length_cons, List.length_nil, Nat.reduceAdd, Nat.reduceSub, List.replicate_succ, List.replicate_zero, List.cons_append, List.nil_append] at S
  refine c_seq ?_; refine c_region ?_; (iterate 2 (refine sq S ?_; clear S; intro a S)); refine wl_nil ?_; refine xtn ?_; (iterate 2 (refine c_seq ?_)); refine c_region ?_; (iterate 4 (refine sq S ?_; clear S; intro a S))
  refine gS S (fun hs1 S => ?_) (fun hs1 S => ?_)
  · refine gF' S ?_; clear S; intro a S; (iterate 2 (refine gF' S ?_; clear S; intro a S)); refine sq S ?_; clear S; intro a S; refine wl_nil ?_; refine xtn ?_; refine c_condT S ?_; refine c_seq ?_; refine c_region ?_; (iterate 2 (refine sq S ?_; clear S; intro a S)); refine wl_nil ?_; refine xtn ?_; refine c_ret ?_; refine xtr ?_
    refine end2 S (fun _ => .inl ⟨?_, rfl⟩)
    have : ¬ (xs.length : Int) ≤ 64 := by simp at hs1; omega
    rw [batchP, rsP_len, Bool.and_eq_false_iff]
    right; simp; omega
  · refine gT' S ?_; refine sq S ?_; clear S; intro a S; refine gT' S ?_
    refine sr S (batch_c xs p xs.length c _ rfl hc hl hll (S.gl0 p)) ?_; clear S; rintro _ a w rfl S
    refine gT' S ?_; (iterate 2 (refine sq S ?_; clear S; intro a S)); refine wl_nil ?_; refine xtn ?_
    refine c_cond S (fun h1 => ?_) (fun h1 => ?_)
    · refine c_seq ?_; refine c_region ?_; (iterate 2 (refine sq S ?_; clear S; intro a S)); refine wl_nil ?_; refine xtn ?_; refine c_ret ?_; refine xtr ?_
      refine end2 S (fun _ => .inl ⟨?_, rfl⟩)
      simpa using h1
    · refine c_skip ?_; refine xtn ?_; refine c_seq ?_; refine c_region ?_; (iterate 3 (refine sq S ?_; clear S; intro a S))
      have hb : batchP (rsP xs) = true := by simpa using h1
      have hb2 := hb
      rw [batchP, rsP_len, Bool.and_eq_true, decide_eq_true_eq] at hb2
      have hxl : xs.length ≤ 64 := hb2.2
      have hall := goodP_all _ _ hb2.1
      have htot := rowsB_len _ hall
      rw [rsP_len] at htot
      refine sn S ?_; clear S; intro b20 a w S
      replace S := S.boxRow b20 1 1 rfl (by simp [maxLen])
      rw [show [Value.int .u8 (IntKind.u8.wrap (xs.length : Int))] = encL [Wk.u8 xs.length] from by rw [u8_wrap]; rfl] at S
      refine sq S ?_; clear S; intro a S; refine wl_nil ?_; refine xtn ?_; (iterate 2 (refine c_seq ?_)); refine c_region ?_; (iterate 3 (refine sq S ?_; clear S; intro a S)); refine wl_nil ?_; refine xtn ?_; refine c_block ?_
      refine c_forf4 S (fun (k : Nat) (b : List UInt8) (p' : Option Addr) (c' : Nat) uu => [(4, .slice p' b.length c'), (1, uu 6), (0, uu 7), (0, uu 8), (14, .int .i64 (k : Nat)), (0, uu 24), (0, uu 25), (0, uu 26), (0, uu 27), (0, uu 28), (0, uu 29), (0, uu 30), (0, uu 31), (0, uu 32), (0, uu 33), (0, uu 34), (0, uu 35), (0, uu 36), (0, uu 37), (0, uu 38), (0, uu 39), (0, uu 40), (0, uu 41), (0, uu 42), (0, uu 43), (0, uu 44), (0, uu 45), (0, uu 46), (0, uu 47), (0, uu 48), (0, uu 49), (0, uu 50)]) (fun (k : Nat) (b : List UInt8) (p' : Option Addr) (c' : Nat) => [Wk.row 5 1 p' b.length c' (encL b)]) (fun (k : Nat) (b : List UInt8) (p' : Option Addr) (c' : Nat) => k ≤ xs.length ∧ b ++ rowsB (rsP (xs.drop k)) = encP (rsP xs)) (fun (k : Nat) (b : List UInt8) (p' : Option Addr) (c' : Nat) => xs.length - k) (0) ([Wk.u8 xs.length]) (some ⟨b20, 0, none⟩) (1) ?_ S.uu ?_ ?_
      · exact ⟨Nat.zero_le _, by rw [encP, rsP_len]; rfl⟩
      · first | exact S | exact S.sub _ _
      · clear S; rintro k b p' c' uu a w ⟨hk, hrel⟩ S
        refine c_seq ?_; refine c_region ?_; refine sq S ?_; clear S; intro a S; refine wl_nil ?_; refine xtn ?_; refine c_seq ?_
        refine c_cond S (fun h5 => ?_) (fun h5 => ?_)
        · refine c_skip ?_; refine xtn ?_; refine c_seq ?_; refine c_block ?_; refine c_seq ?_
          have hkl : k < xs.length := by simp at h5; omega
          have hK : KLt k xs.length := ⟨hkl⟩
          have hR := hall _ (rsP_mem (nthG_mem hkl))
          have hR1 : (nthG xs k).name.length ≤ 32 := (rightP_name hR).2
          have hR2 : (nameF (nthG xs k).term.t).length ≤ 65535 := rightP_bytes hR
          have hd : rsP (xs.drop k) = (nthG xs k).r :: rsP (xs.drop (k + 1)) := by rw [nthG_drop hkl]; rfl
          rw [hd, rowsB] at hrel
          have hbl := congrArg List.length hrel
          rw [encP, List.length_cons, List.length_append, List.length_append] at hbl
          have hb2 : b.length ≤ 4300000 := by omega
          refine c_region ?_; (iterate 2 (refine sq S ?_; clear S; intro a S))
          refine sa S ?_; clear S; intro b6 a w S
          refine sw S ?_; clear S; intro a w S; refine wl_nil ?_; refine xtn ?_; refine c_seq ?_
          refine c_drawE [(0, true), (1, true), (2, true), (3, true), (4, true), (7, true), (8, true), (5, false), (6, false), (9, false), (10, true)] [Wk.box b6 45 [str (nthG xs k).name, .int .i64 (nthG xs k).term.kind, .int .i64 (nthG xs k).term.user, .int .i64 (nthG xs k).term.num, str (nthG xs k).term.text, .slice (nthG xs k).term.p (nthG xs k).term.kids.length (nthG xs k).term.cap]] S ?_; clear S; intro w S
          (iterate 7 (refine dq S ?_; clear S; intro a S)); refine dl ?_
          refine sn S ?_; clear S; intro b32 a w S
          refine de S ?_; refine dl ?_
          refine sap S (by simp [maxLen]; omega) (by omega) ?_; clear S; rintro p7 c7 a w - S
          refine de S ?_; refine dl ?_
          refine sap S (by simp [maxLen]; omega) (by omega) ?_; clear S; rintro p8 c8 a w - S
          rw [show encL b ++ [Value.int .u8 (IntKind.u8.wrap ((nthG xs k).name.length : Int))] ++ encL (nthG xs k).name = encL (b ++ ([Wk.u8 (nthG xs k).name.length] ++ (nthG xs k).name)) from by rw [u8_wrap]; simp [encL, Enc.cells], show b.length + 1 + (nthG xs k).name.length = (b ++ ([Wk.u8 (nthG xs k).name.length] ++ (nthG xs k).name)).length from by simp; omega] at S
          refine de S ?_; refine dq S ?_; clear S; intro a S; refine dn ?_; refine xtn ?_; refine c_seq ?_; refine c_region ?_; (iterate 2 (refine sq S ?_; clear S; intro a S))
          generalize hbb : b ++ ([Wk.u8 (nthG xs k).name.length] ++ (nthG xs k).name) = b2 at S
          have hl2 : b2.length ≤ b.length + 41 := by rw [← hbb]; simp; omega
          refine srn S (encode_c (nthG xs k).term _ (S.t0 (nthG xs k).term)) ?_; clear S; rintro _ a w ⟨p9, c9, rfl, hown, hnew⟩ hS -
          have S := hS hown hnew
          clear hS
          (iterate 5 (refine sq S ?_; clear S; intro a S)); refine wl_nil ?_; refine xtn ?_; refine c_region ?_; (iterate 4 (refine sq S ?_; clear S; intro a S))
          have hw0 : IntKind.u16.wrap ((nameF (nthG xs k).term.t).length : Int) = ((nameF (nthG xs k).term.t).length : Int) := by
            unfold IntKind.wrap
            simp only [IntKind.bits, IntKind.signed, Bool.false_and]
            simp; omega
          rw [hw0] at S
          refine srn S (put16_c p8 b2.length c8 b2 ((nameF (nthG xs k).term.t).length : Int) w rfl (by omega) (by omega) (by omega) (sl_stable (S.row p8 b2.length))) ?_; clear S; rintro _ a w ⟨g, rfl, hg, hown2⟩ hS -
          have S := hS hown2 (fun ad h => by cases h; exact hg)
          clear hS
          refine sq S ?_; clear S; intro a S
          refine sap S (by simp [maxLen]; omega) (by omega) ?_; clear S; rintro p10 c10 a w - S
          have hb3 : b2 ++ be 2 ((nameF (nthG xs k).term.t).length : Int) ++ nameF (nthG xs k).term.t = b ++ rowB (nthG xs k).r := by
            rw [← hbb, rowB]; simp [LRow.r]
          have hb4 := congrArg List.length hb3
          simp only [List.length_append, be_len] at hb4
          rw [← encL_append, hb3, show b2.length + 2 + (nameF (nthG xs k).term.t).length = (b ++ rowB (nthG xs k).r).length from by simp only [List.length_append]; omega] at S
          refine sq S ?_; clear S; intro a S; refine wl_nil ?_; refine xbn ?_; refine xtn ?_; refine c_region ?_; (iterate 2 (refine sq S ?_; clear S; intro a S)); refine wl_nil ?_; refine xtn ?_
          rw [w64 ((k : Int) + 1) (by omega) (by omega)] at S
          exact ⟨k + 1, _, p10, c10, S.uu, ⟨hkl, by rw [List.append_assoc]; exact hrel⟩, S.sub [Wk.row 5 1 p10 (b ++ rowB (nthG xs k).r).length c10 (encL (b ++ rowB (nthG xs k).r))] _, by omega⟩
        · refine c_exit ?_; (iterate 2 (refine xte ?_)); refine xbe ?_; refine xtn ?_; refine c_seq ?_; refine c_region ?_; (iterate 3 (refine sq S ?_; clear S; intro a S)); refine wl_nil ?_; refine xtn ?_; refine c_ret ?_
          have hk2 : xs.length ≤ k := by simp at h5; omega
          rw [List.drop_of_length_le hk2, show rsP [] = [] from rfl, rowsB, List.append_nil] at hrel
          subst hrel
          have hrow := S.row p' (encP (rsP xs)).length
          have hnew := S.rowNew p' (encP (rsP xs)).length
          exact end2 S (fun _ => .inr ⟨hb, p', c', rfl, hrow, fun ad h => (hnew ad h).elim (fun h => h.elim) id⟩)
abbrev cRow (r : LRow) : List Value := [str r.name, .int .i64 r.term.kind, .int .i64 r.term.user, .int .i64 r.term.num, str r.term.text, .slice r.term.p r.term.kids.length r.term.cap]
theorem rclone_c (xs : List LRow) (p : Option Addr) (n c : Nat) (w0 : World) (hn : xs.length = n) (hl : n ≤ 1000000) (hx : Stable (fun _ => False) w0 (GlF p xs)) :
    Ret Tryz.prog 185 [.slice p n c] w0 (fun _ => False) fun v w' => ∃ p' c', v = .slice p' n c' ∧ w'.ownsRow 0 150 6 (.slice p' n c') n (encL xs) ∧ ∀ ad, p' = some ad → w0.heap.size ≤ ad.block := by
  refine enter Tryz.func185 rfl rfl (Wd.begin (fs := [GlF p xs]) (by simpa using hx)) (fun a S => ?_)
  simp only [Tryz.ntmps185, List.length_cons, List.length_nil, Nat.reduceAdd, Nat.reduceSub, List.replicate_succ, List.replicate_zero, List.cons_append, List.nil_append] at S
  refine c_seq ?_; refine c_region ?_; refine sq S ?_; clear S; intro a S; refine wl_nil ?_; refine xtn ?_; (iterate 2 (refine c_seq ?_)); refine c_region ?_; (iterate 2 (refine sq S ?_; clear S; intro a S)); refine wl_nil ?_; refine xtn ?_
  refine c_cond S (fun h1 => ?_) (fun h1 => ?_)
  · refine c_seq ?_; refine c_region ?_; refine sq S ?_; clear S; intro a S; refine wl_nil ?_; refine xtn ?_; refine c_ret ?_; refine xtr ?_
    have hp : p = none := by simpa using h1
    have hn0 : xs = [] := by
      rcases xs with _ | ⟨x, xs⟩
      · rfl
      · have h1 := congrArg List.length (hx.now.1.1 hp)
        rw [encL_len] at h1
        simp [Enc.sz] at h1
    subst hn0
    subst hn
    refine end1 S (fun _ => ?_)
    exact ⟨none, 0, rfl, World.ownsRow_nil _ _ _ _, fun _ h => by cases h⟩
  · refine c_skip ?_; refine xtn ?_; refine c_seq ?_; refine c_region ?_
    refine sn S ?_; clear S; intro b5 a w S
    refine sq S ?_; clear S; intro a S
    replace S := S.boxRow b5 6 0 rfl (by omega)
    have hN : LenN xs n := ⟨hn⟩
    refine sap S (by simp [maxLen]; omega) (by omega) ?_; clear S; rintro p2 c2 a w - S
    rw [List.nil_append, Nat.zero_add] at S
    refine sq S ?_; clear S; intro a S; refine wl_nil ?_; refine xtn ?_; refine c_ret ?_
    have hrow := S.row p2 n
    have hnew := S.rowNew p2 n
    refine end1 S (fun _ => ?_)
    exact ⟨p2, c2, rfl, hrow, fun ad h => (hnew ad h).elim (fun h => h.elim) id⟩
theorem ins_grow1 (A Z V : List Value) (T : Nat) (hA : A.length = T) (hV : V.length ≤ Z.length) : (A ++ Z).take T ++ V ++ (A ++ Z).drop (T + V.length) = A ++ V ++ Z.drop V.length := by
  subst hA
  rw [List.take_left, List.drop_append, List.drop_of_length_le (by omega), List.nil_append]
  congr 2; omega
theorem ins_grow2 (A V Z D : List Value) (T : Nat) (hT : (A ++ V).length = T) (hZ : Z.length = D.length) : (A ++ V ++ Z).take T ++ D ++ (A ++ V ++ Z).drop (T + D.length) = A ++ V ++ D := by
  subst hT
  rw [List.take_left, List.drop_append, List.drop_of_length_le (by omega), List.nil_append, List.drop_of_length_le (by omega), List.append_nil]
theorem ins_room (A D Y V : List Value) (T : Nat) (hA : A.length = T) (hY : Y.length = V.length) :
    (((A ++ D) ++ Y).take (T + V.length) ++ D ++ ((A ++ D) ++ Y).drop (T + V.length + D.length)).take T ++ V ++ (((A ++ D) ++ Y).take (T + V.length) ++ D ++ ((A ++ D) ++ Y).drop (T + V.length + D.length)).drop (T + V.length) = A ++ V ++ D := by
  subst hA
  have e1 : ((A ++ D) ++ Y).drop (A.length + V.length + D.length) = [] := List.drop_of_length_le (by simp; omega)
  have e2 : (((A ++ D) ++ Y).take (A.length + V.length)).length = A.length + V.length := by rw [List.length_take]; simp; omega
  rw [e1, List.append_nil, List.take_append_of_le_length (by omega), List.take_take, Nat.min_eq_left (by omega)]
  have e3 : ((A ++ D) ++ Y).take A.length = A := by rw [List.append_assoc, List.take_left]
  rw [e3]
  congr 1
  rw [List.drop_append, List.drop_of_length_le (by omega), List.nil_append, e2, Nat.sub_self, List.drop_zero]
theorem encR_one (s : LRow) : encL [s] = cRow s := rfl
theorem rinsert_c (xs : List LRow) (s : LRow) (i n c b : Nat) (T : TypeId) (p : Option Addr) (w0 : World) (hi : i ≤ n) (hn : n ≤ 1000) (hnc : n ≤ c) (hc : c ≤ maxLen) (hx : xs.length = n) (hown : w0.ownsRow 0 150 6 (.slice p n c) n (encL xs)) (hb : Stable (fun k => ∃ ad, p = some ad ∧ k = ad.block) w0 (BoxF b T (cRow s))) (hne : ∀ ad, p = some ad → b ≠ ad.block) :
    Ret Tryz.prog 187 [.slice p n c, .int .i64 (i : Int), .slice (some ⟨b, 0, none⟩) 1 1] w0 (fun k => ∃ ad, p = some ad ∧ k = ad.block) fun u w' => ∃ p' c', u = .slice p' (n + 1) c' ∧ w'.ownsRow 0 150 6 (.slice p' (n + 1) c') (n + 1) (encL (xs.take i ++ [s] ++ xs.drop i)) ∧ ∀ ad, p' = some ad → (∃ ad', p = some ad' ∧ ad.block = ad'.block) ∨ w0.heap.size ≤ ad.block := by
  have hle : LeC n c := ⟨hnc⟩
  have hle2 : LeC i c := ⟨by omega⟩
  have hle3 : LeC i n := ⟨hi⟩
  have e0 : encL (xs.take i ++ [s] ++ xs.drop i) = (encL xs).take (i * 6) ++ cRow s ++ (encL xs).drop (i * 6) := by
    have h1 : encL xs = encL (xs.take i) ++ encL (xs.drop i) := by rw [← encL_append, List.take_append_drop]
    have h2 : (encL (xs.take i)).length = i * 6 := by rw [encL_len, List.length_take, Nat.min_eq_left (by omega)]; rfl
    rw [encL_append, encL_append, encR_one, h1, ← h2, List.take_left, List.drop_left]
  have hxl : (encL xs).length = n * 6 := by rw [encL_len, hx]; rfl
  have hT : ((encL xs).take (i * 6)).length = i * 6 := by rw [List.length_take, hxl]; omega
  have hD : ((encL xs).drop (i * 6)).length = (n - i) * 6 := by rw [List.length_drop, hxl]; omega
  refine enter Tryz.func187 rfl rfl (Wd.rowLent (fs := [BoxF b T (cRow s)]) hown (by simpa using hb)) (fun a S => ?_)
  simp only [Tryz.ntmps187, List.length_cons, List.length_nil, Nat.reduceAdd, Nat.reduceSub, List.replicate_succ, List.replicate_zero, List.cons_append, List.nil_append] at S
  refine c_seq ?_; refine c_region ?_; refine sq S ?_; clear S; intro a S; refine wl_nil ?_; refine xtn ?_; refine c_seq ?_; refine c_region ?_; (iterate 3 (refine sq S ?_; clear S; intro a S)); refine wl_nil ?_; refine xtn ?_; refine c_seq ?_; refine c_region ?_; (iterate 3 (refine sq S ?_; clear S; intro a S)); refine wl_nil ?_; refine xtn ?_; (iterate 2 (refine c_seq ?_)); refine c_region ?_; (iterate 2 (refine sq S ?_; clear S; intro a S))
  rw [show decide (((1 : Nat) : Int) = 0) = false from rfl] at S
  refine wl_nil ?_; refine xtn ?_; refine c_condF S ?_; refine c_skip ?_; refine xtn ?_; refine c_seq ?_; refine c_region ?_; (iterate 3 (refine sq S ?_; clear S; intro a S)); refine wl_nil ?_; refine xtn ?_; (iterate 2 (refine c_seq ?_)); refine c_region ?_; (iterate 3 (refine sq S ?_; clear S; intro a S)); refine wl_nil ?_; refine xtn ?_
  refine c_cond S (fun h6 => ?_) (fun h6 => ?_)
  · refine c_seq ?_
    have hin : i = n := by simp at h6; omega
    subst hin
    refine c_region ?_; (iterate 2 (refine sq S ?_; clear S; intro a S))
    have hs : SrcV Tryz.prog 142 (.slice (some ⟨b, 0, none⟩) 1 1) [Wk.row 150 6 p i c (encL xs)] [BoxF b T (cRow s)] 6 1 (cRow s) := ⟨fun w mm => by
      have hbx : BoxF b T (cRow s) w := (mm.fact0 (BoxF b T (cRow s))).now
      refine Src.ofSlice w (Und.eq (P := Tryz.prog) (t := 142)) _ _ _ _ rfl (fun j u hj => ?_) (fun u hu => Enc.one s u hu)
      rw [add_lit, cell_of_row w b j _ T (0, 0) hbx]
      simpa using hj⟩
    refine sap S (by simp [maxLen]; omega) (by omega) ?_; clear S; rintro p7 c7 a w - S
    refine sq S ?_; clear S; intro a S; refine wl_nil ?_; refine xtn ?_; refine c_ret ?_; refine xtr ?_
    have hrow := S.row p7 (i + 1)
    have hnew := S.rowNew p7 (i + 1)
    refine end1 S (fun _ => ?_)
    refine ⟨p7, c7, rfl, ?_, hnew⟩
    rw [e0, List.take_of_length_le (by omega), List.drop_of_length_le (by omega), List.append_nil]
    exact hrow
  · refine c_skip ?_; refine xtn ?_; (iterate 2 (refine c_seq ?_)); refine c_region ?_; (iterate 3 (refine sq S ?_; clear S; intro a S))
    rw [show IntKind.i64.wrap ((n : Int) + ((1 : Nat) : Int)) = ((n + 1 : Nat) : Int) from w64 _ (by omega) (by omega)] at S
    (iterate 3 (refine sq S ?_; clear S; intro a S)); refine wl_nil ?_; refine xtn ?_
    refine c_cond S (fun h8 => ?_) (fun h8 => ?_)
    · refine c_seq ?_
      have hin : i < n := by simp at h6; omega
      have hgc : c < n + 1 := by simp at h8; omega
      refine c_region ?_; (iterate 6 (refine sq S ?_; clear S; intro a S))
      rw [show IntKind.i64.wrap ((n : Int) + ((1 : Nat) : Int)) = ((n + 1 : Nat) : Int) from w64 _ (by omega) (by omega)] at S
      (iterate 2 (refine sq S ?_; clear S; intro a S))
      rw [show IntKind.i64.wrap (((n + 1 : Nat) : Int) - (i : Int)) = ((n + 1 - i : Nat) : Int) from by rw [w64 _ (by omega) (by omega)]; omega] at S
      refine sapzo p n (i := i) (m := n + 1 - i) S hi (by omega) (by omega) (by omega) (by simp only [maxLen]; omega) (by omega) ?_; clear S; intro b9 c9 zs a w hzs S
      rw [show i + (n + 1 - i) = n + 1 from by omega] at S
      have hc9 : n + 1 ≤ c9 := own_le (S.row (some ⟨b9, 0, none⟩) (n + 1))
      have hL9 : LeC i c9 := ⟨by omega⟩
      have hL9b : LeC (n + 1) c9 := ⟨by omega⟩
      have hL9c : LeC i (n + 1) := ⟨by omega⟩
      have hL9d : LeC (i + 1) (n + 1) := ⟨by omega⟩
      refine sq S ?_; clear S; intro a S; refine wl_nil ?_; refine xtn ?_; refine c_seq ?_; refine c_region ?_; (iterate 4 (refine sq S ?_; clear S; intro a S))
      refine scpo (some ⟨b9, 0, none⟩) (n + 1) (lo := i) (cnt := 1) (cRow s) S (by show min _ _ = _; omega) (fun _ => by rw [if_neg (by omega)]) (by omega) rfl (fun u hu => Enc.one s u hu) (fun _ => ⟨_, rfl, fun j u hj => ?_⟩) ?_
      · have hbx : BoxF b T (cRow s) w := (S.mem.fact0 (BoxF b T (cRow s))).now
        rw [add_lit, cell_of_row w b j _ T (0, 0) hbx]
        simpa using hj
      clear S; intro a w S
      rw [ins_grow1 _ zs (cRow s) (i * 6) hT (by rw [hzs]; show 6 ≤ _; omega)] at S
      refine wl_nil ?_; refine xtn ?_; refine c_seq ?_
      refine c_drawE [(0, true), (1, true), (2, true), (3, true), (4, true), (5, true), (6, true), (7, true), (8, false)] [Wk.row 150 6 p n c (encL xs)] S ?_; clear S; intro w S
      (iterate 4 (refine dq S ?_; clear S; intro a S))
      rw [show IntKind.i64.wrap ((i : Int) + ((1 : Nat) : Int)) = ((i + 1 : Nat) : Int) from w64 _ (by omega) (by omega)] at S
      (iterate 4 (refine dq S ?_; clear S; intro a S)); refine dl ?_
      refine scpo (some ⟨b9, 0, none⟩) (n + 1) (lo := i + 1) (cnt := n - i) ((encL xs).drop (i * 6)) S (by show min _ _ = _; omega) (fun h => by rw [if_neg (by omega)]) (by omega) hD (fun u hu => encL_one xs u (List.mem_of_mem_drop hu)) (fun _ => ?_) ?_
      · obtain ⟨g, cur, hpp, -⟩ := own_cells (S.row p n) (show 0 < n by omega)
        refine ⟨⟨g, i * 6, none⟩, by rw [if_neg (by omega), hpp, Option.map_some, add_lit], fun j u hj => ?_⟩
        have h1 := own_cell (S.row p n) (o := i * 6) (j := j) (u := u) (by rw [← hj, List.getElem?_drop])
        rw [rAddr, hpp, Option.getD_some, add_lit] at h1
        exact h1
      clear S; intro a w S
      rw [show (i + 1) * 6 = i * 6 + 6 from by omega, ins_grow2 _ (cRow s) _ _ (i * 6 + 6) (by rw [List.length_append, hT]; rfl) (by rw [List.length_drop, hzs, hD]; show _ - 6 = _; omega), ← e0] at S
      refine de S ?_; refine dn ?_; refine xtn ?_; refine c_seq ?_; refine c_region ?_; (iterate 2 (refine sq S ?_; clear S; intro a S)); refine wl_nil ?_; refine xtn ?_; refine c_ret ?_; refine xtr ?_
      have hrow := S.row (some ⟨b9, 0, none⟩) (n + 1)
      have hnew := S.rowNew (some ⟨b9, 0, none⟩) (n + 1)
      refine end1 S (fun _ => ?_)
      exact ⟨_, c9, rfl, hrow, hnew⟩
    · refine c_skip ?_; refine xtn ?_; refine c_seq ?_
      have hin : i < n := by simp at h6; omega
      have hgc : n + 1 ≤ c := by simp at h8; omega
      have hL1 : LeC (n + 1) c := ⟨hgc⟩
      have hL2 : LeC (i + 1) (n + 1) := ⟨by omega⟩
      have hL3 : LeC i (n + 1) := ⟨by omega⟩
      refine c_region ?_; (iterate 4 (refine sq S ?_; clear S; intro a S))
      rw [show IntKind.i64.wrap ((n : Int) + ((1 : Nat) : Int)) = ((n + 1 : Nat) : Int) from w64 _ (by omega) (by omega)] at S
      (iterate 2 (refine sq S ?_; clear S; intro a S)); refine wl_nil ?_; refine xtn ?_; (iterate 2 (refine c_seq ?_))
      obtain ⟨ys, hys, hM⟩ := S.rowMore p n (n + 1) (by omega) hgc (by omega)
      replace S := hM (bs' := [Wk.row 150 6 p (n + 1) c (encL xs ++ ys)])
      clear hM
      obtain ⟨g, cur, hpp, hgcur, -, hcsz, -, -⟩ := own_cells (S.row p (n + 1)) (show 0 < n + 1 by omega)
      have hbg : b ≠ g := hne ⟨g, 0, none⟩ hpp
      refine c_region ?_; (iterate 5 (refine sq S ?_; clear S; intro a S))
      rw [show IntKind.i64.wrap ((i : Int) + ((1 : Nat) : Int)) = ((i + 1 : Nat) : Int) from w64 _ (by omega) (by omega)] at S
      refine sq S ?_; clear S; intro a S
      rw [show (if c = i + 1 then p else p.map (·.add ((i + 1) * 6))) = some ⟨g, (i + 1) * 6, none⟩ from by rw [if_neg (by omega), hpp, Option.map_some, add_lit]] at S
      refine sext S (run_apart (b1 := b) (b2 := g) (fn := Tryz.f243) (o2 := (i + 1) * 6) Tryz.func243 (by kernel_rfl) (by kernel_rfl) (by kernel_rfl) (by kernel_rfl) (tS := 142) (tR := 4) rfl hbg ((S.mem.fact0 (BoxF b T (cRow s))).now) hgcur (by rw [hcsz]; omega)) ?_
      clear S; intro a S
      refine sq S ?_; clear S; intro a S
      rw [show (!false) = true from rfl] at S
      refine wl_nil ?_; refine xtn ?_; refine c_condT S ?_; refine c_seq ?_
      refine c_drawE [(0, true), (1, true), (2, true), (3, true), (4, true), (5, true), (6, true), (7, true), (8, false)] [] S ?_; clear S; intro w S
      (iterate 4 (refine dq S ?_; clear S; intro a S))
      rw [show IntKind.i64.wrap ((i : Int) + ((1 : Nat) : Int)) = ((i + 1 : Nat) : Int) from w64 _ (by omega) (by omega)] at S
      (iterate 4 (refine dq S ?_; clear S; intro a S)); refine dl ?_
      refine scpo p (n + 1) (lo := i + 1) (cnt := n - i) ((encL xs).drop (i * 6)) S (by show min _ _ = _; omega) (fun h => by rw [if_neg (by omega)]) (by omega) hD (fun u hu => encL_one xs u (List.mem_of_mem_drop hu)) (fun _ => ?_) ?_
      · refine ⟨⟨g, i * 6, none⟩, by rw [if_neg (by omega), hpp, Option.map_some, add_lit], fun j u hj => ?_⟩
        have h1 := own_cell (S.row p (n + 1)) (o := i * 6) (j := j) (u := u) (by rw [← hj, List.getElem?_drop, List.getElem?_append_left (by have := (List.getElem?_eq_some_iff.1 hj).1; rw [hD] at this; rw [hxl]; omega)])
        rw [rAddr, hpp, Option.getD_some, add_lit] at h1
        exact h1
      clear S; intro a w S
      refine de S ?_; refine dn ?_; refine xtn ?_; refine c_seq ?_; refine c_region ?_; (iterate 4 (refine sq S ?_; clear S; intro a S))
      refine scpo p (n + 1) (lo := i) (cnt := 1) (cRow s) S (by show min _ _ = _; omega) (fun _ => by rw [if_neg (by omega)]) (by omega) rfl (fun u hu => Enc.one s u hu) (fun _ => ⟨_, rfl, fun j u hj => ?_⟩) ?_
      · have hbx : BoxF b T (cRow s) w := (S.mem.fact0 (BoxF b T (cRow s))).now
        rw [add_lit, cell_of_row w b j _ T (0, 0) hbx]
        simpa using hj
      clear S; intro a w S
      have hroom := ins_room ((encL xs).take (i * 6)) ((encL xs).drop (i * 6)) ys (cRow s) (i * 6) hT (by rw [hys]; show _ = 6; omega)
      rw [List.take_append_drop] at hroom
      rw [show (i + 1) * 6 = i * 6 + (cRow s).length from by show _ = _ + 6; omega, hroom, ← e0] at S
      refine wl_nil ?_; refine xtn ?_; refine c_seq ?_; refine c_region ?_; (iterate 2 (refine sq S ?_; clear S; intro a S)); refine wl_nil ?_; refine xtn ?_; refine c_ret ?_; refine xtr ?_
      have hrow := S.row p (n + 1)
      have hnew := S.rowNew p (n + 1)
      refine end1 S (fun _ => ?_)
      exact ⟨_, c, rfl, hrow, hnew⟩
theorem encR_drop (xs : List LRow) (k : Nat) (h : k ≤ xs.length) : (encL xs).drop (k * 6) = encL (xs.drop k) := by
  have e : encL xs = encL (xs.take k) ++ encL (xs.drop k) := by rw [← encL_append, List.take_append_drop]
  have hl : (encL (xs.take k)).length = k * 6 := by rw [encL_len, List.length_take, Nat.min_eq_left h]; rfl
  rw [e, ← hl, List.drop_left]
theorem encR_take (xs : List LRow) (k : Nat) (h : k ≤ xs.length) : (encL xs).take (k * 6) = encL (xs.take k) := by
  have e : encL xs = encL (xs.take k) ++ encL (xs.drop k) := by rw [← encL_append, List.take_append_drop]
  have hl : (encL (xs.take k)).length = k * 6 := by rw [encL_len, List.length_take, Nat.min_eq_left h]; rfl
  rw [e, ← hl, List.take_left]
theorem encR_erase (xs : List LRow) (i : Nat) (h : i < xs.length) : (encL xs).take (i * 6) ++ (encL xs).drop ((i + 1) * 6) = encL (xs.eraseIdx i) := by
  rw [encR_drop xs (i + 1) h, encR_take xs i (by omega), ← encL_append, List.eraseIdx_eq_take_drop_succ]
theorem rdelete_c (xs : List LRow) (i : Nat) (p : Option Addr) (n c : Nat) (w0 : World) (hi : i < n) (hn : xs.length = n) (hl : n ≤ 10000000) (hown : w0.ownsRow 0 150 6 (.slice p n c) n (encL xs)) :
    Ret Tryz.prog 186 [.slice p n c, .int .i64 i, .int .i64 ((i + 1 : Nat) : Int)] w0 (fun k => ∃ ad, p = some ad ∧ k = ad.block) fun v w' =>
      v = .slice p (n - 1) c ∧ w'.ownsRow 0 150 6 (.slice p (n - 1) c) (n - 1) (encL (xs.eraseIdx i)) := by
  have hnc : n ≤ c := by
    obtain ⟨g, cur, _, _, hnc, _⟩ := own_cells hown (by omega)
    exact hnc
  have h1 : LeC n c := ⟨hnc⟩
  have h2 : LeC (i + 1) n := ⟨by omega⟩
  have h3 : LeC i (i + 1) := ⟨by omega⟩
  have h4 : LeC i c := ⟨by omega⟩
  have h5 : LeC 0 i := ⟨by omega⟩
  refine enter Tryz.func186 rfl rfl (Wd.rowLent (fs := []) hown (by simp)) (fun a S => ?_)
  simp only [Tryz.ntmps186, List.length_cons, List.length_nil, Nat.reduceAdd, Nat.reduceSub, List.replicate_succ, List.replicate_zero, List.cons_append, List.nil_append] at S
  refine c_seq ?_; refine c_region ?_; refine sq S ?_; clear S; intro a S; refine wl_nil ?_; refine xtn ?_; refine c_seq ?_; refine c_region ?_; (iterate 6 (refine sq S ?_; clear S; intro a S)); refine wl_nil ?_; refine xtn ?_; (iterate 2 (refine c_seq ?_)); refine c_region ?_; (iterate 3 (refine sq S ?_; clear S; intro a S))
  rw [show decide ((i : Int) = ((i + 1 : Nat) : Int)) = false from by simp; omega] at S
  refine wl_nil ?_; refine xtn ?_; refine c_condF S ?_; refine c_skip ?_; refine xtn ?_; refine c_seq ?_; refine c_region ?_; (iterate 3 (refine sq S ?_; clear S; intro a S)); refine wl_nil ?_; refine xtn ?_; refine c_seq ?_
  refine c_drawE [(0, true), (1, true), (2, true), (3, true), (4, true), (5, true), (6, false), (7, true)] [] S ?_; clear S; intro w S
  (iterate 6 (refine dq S ?_; clear S; intro a S)); refine dl ?_
  refine sapr p n S rfl rfl (by omega) (by omega) (by omega) ?_; clear S; intro a w S
  rw [show i + (n - (i + 1)) = n - 1 from by omega, encR_erase xs i (by omega)] at S
  have h6 : LeC (n - 1) n := ⟨by omega⟩
  refine de S ?_; refine dq S ?_; clear S; intro a S; refine dn ?_; refine xtn ?_; refine c_seq ?_; refine c_region ?_; (iterate 5 (refine sq S ?_; clear S; intro a S))
  refine sclr p (n - 1) S rfl rfl (by omega) ?_; clear S; intro a w S
  refine wl_nil ?_; refine xtn ?_; refine c_seq ?_; refine c_region ?_; (iterate 2 (refine sq S ?_; clear S; intro a S)); refine wl_nil ?_; refine xtn ?_; refine c_ret ?_
  have hrow := S.row p (n - 1)
  refine end1 S (fun _ => ?_)
  exact ⟨rfl, hrow⟩
theorem half_uV (i j : Nat) (h : i + j ≤ 1000000000) : (IntKind.u64.wrap (IntKind.i64.wrap ((i : Int) + (j : Int)))).fdiv (2 ^ min 1 IntKind.u64.bits) = (((i + j) / 2 : Nat) : Int) := by
  have e1 : IntKind.u64.wrap ((i : Int) + (j : Int)) = (i : Int) + (j : Int) := by
    unfold IntKind.wrap
    simp only [IntKind.bits, IntKind.signed, Bool.false_and]
    simp
    omega
  rw [w64 _ (by omega) (by omega), e1]
  show ((i : Int) + (j : Int)).fdiv 2 = _
  rw [Int.fdiv_eq_ediv_of_nonneg _ (by omega)]
  omega
theorem cmp_lessV (a b : List UInt8) : decide (Lib.compareBytes a b < 0) = Op.bytesLess a b := by
  induction a generalizing b with
  | nil => cases b <;> simp [Lib.compareBytes, Op.bytesLess]
  | cons x a ih =>
    cases b with
    | nil => simp [Lib.compareBytes, Op.bytesLess]
    | cons y b =>
      rw [Lib.compareBytes, Op.bytesLess]
      by_cases h1 : x < y
      · simp [h1]
      · by_cases h2 : y < x
        · have : ¬ x = y := fun h => by subst h; exact absurd h2 h1
          simp [h1, h2, this]
        · have : x = y := UInt8.le_antisymm (UInt8.not_lt.1 h2) (UInt8.not_lt.1 h1)
          subst this
          simp [h1, ih]
theorem cmp_zeroV (a b : List UInt8) : decide (Lib.compareBytes a b = 0) = decide (a = b) := by
  induction a generalizing b with
  | nil => cases b <;> simp [Lib.compareBytes]
  | cons x a ih =>
    cases b with
    | nil => simp [Lib.compareBytes]
    | cons y b =>
      rw [Lib.compareBytes]
      by_cases h1 : x < y
      · have : ¬ x = y := fun h => by subst h; exact absurd h1 (UInt8.lt_irrefl _)
        simp [h1, this]
      · by_cases h2 : y < x
        · have : ¬ x = y := fun h => by subst h; exact absurd h2 h1
          simp [h1, h2, this]
        · have : x = y := UInt8.le_antisymm (UInt8.not_lt.1 h2) (UInt8.not_lt.1 h1)
          subst this
          simp [h1, ih]
theorem compare_c (a b : List UInt8) (w0 : World) : Ret Tryz.prog 89 [str a, str b] w0 (fun _ => False) fun v _ => v = .int .i64 (Lib.compareBytes a b) := by
  refine Calls.mono (Any.strings_Compare Tryz.lays106 ⟨a.toArray⟩ ⟨b.toArray⟩ w0) ?_
  rintro e w' ⟨rfl, rfl⟩
  exact ⟨_, rfl, Agree.refl _ _, rfl⟩
instance {a b : List UInt8} {bs fs} : CallV Tryz.prog 89 [str a, str b] bs fs (.int .i64 (Lib.compareBytes a b)) := ⟨fun w _ => compare_c a b w⟩
theorem before_c (r : LRow) (s : List UInt8) (w0 : World) : Ret Tryz.prog 98 [vRow r, str s] w0 (fun _ => False) fun v _ => v = .int .i64 (Lib.compareBytes r.name s) := by
  refine enter Tryz.func98 rfl rfl (Wd.start w0) (fun a S => ?_)
  simp only [Tryz.ntmps98, List.length_cons, List.length_nil, Nat.reduceAdd, Nat.reduceSub, List.replicate_succ, List.replicate_zero, List.cons_append, List.nil_append] at S
  refine c_seq ?_; refine c_region ?_
  refine sa S ?_; clear S; intro b2 a w S
  refine sq S ?_; clear S; intro a S; refine wl_nil ?_; refine xtn ?_; refine c_seq ?_; refine c_region ?_; (iterate 3 (refine sq S ?_; clear S; intro a S)); refine sc S ?_; clear S; intro a w S; refine sq S ?_; clear S; intro a S; refine wl_nil ?_; refine xtn ?_; refine c_ret ?_
  refine end1 S (fun _ => rfl)
instance {r : LRow} {s : List UInt8} {bs fs} : CallV Tryz.prog 98 [vRow r, str s] bs fs (.int .i64 (Lib.compareBytes r.name s)) := ⟨fun w _ => before_c r s w⟩
theorem rname_lt {l : List LRow} (hr : SortedP (rsP l)) {i j : Nat} (hij : i < j) (hj : j < l.length) : Op.bytesLess (nthG l i).name (nthG l j).name = true := by
  have e1 : ((rsP l).map PRow.name)[i]? = some (nthG l i).name := by rw [List.getElem?_map, rsP, List.getElem?_map, nthG_get (by omega)]; rfl
  have e2 : ((rsP l).map PRow.name)[j]? = some (nthG l j).name := by rw [List.getElem?_map, rsP, List.getElem?_map, nthG_get hj]; rfl
  obtain ⟨q1, q2⟩ := List.getElem?_eq_some_iff.1 e1
  obtain ⟨q3, q4⟩ := List.getElem?_eq_some_iff.1 e2
  have := List.pairwise_iff_getElem.1 hr i j q1 q3 hij
  rw [q2, q4] at this; exact this
theorem rname_le {l : List LRow} (hr : SortedP (rsP l)) {m h : Nat} {s : List UInt8} (hs : Op.bytesLess (nthG l h).name s = true) (hm : m ≤ h) (hh : h < l.length) : Op.bytesLess (nthG l m).name s = true := by
  rcases Nat.lt_or_ge m h with h1 | h1
  · exact bl_trans _ _ _ (rname_lt hr h1 hh) hs
  · obtain rfl : m = h := by omega
    exact hs
theorem rname_ge {l : List LRow} (hr : SortedP (rsP l)) {m h : Nat} {s : List UInt8} (hs : Op.bytesLess (nthG l h).name s = false) (hm : h ≤ m) (hml : m < l.length) : Op.bytesLess (nthG l m).name s = false := by
  rcases Nat.lt_or_ge h m with h1 | h1
  · cases h2 : Op.bytesLess (nthG l m).name s with
    | false => rfl
    | true => rw [bl_trans _ _ _ (rname_lt hr h1 hml) h2] at hs; cases hs
  · obtain rfl : m = h := by omega
    exact hs
structure AtP (l : List LRow) (s : List UInt8) (i : Nat) (b : Bool) : Prop where
  le : i ≤ l.length
  lo : ∀ m, m < i → Op.bytesLess (nthG l m).name s = true
  hi : ∀ m, i ≤ m → m < l.length → Op.bytesLess (nthG l m).name s = false
  there : b = (decide ((i : Int) < (l.length : Int)) && decide ((nthG l i).name = s))
theorem rsearch_c (l : List LRow) (p : Option Addr) (n c : Nat) (s : List UInt8) (w0 : World) (hn : l.length = n) (hl : n ≤ 1000000) (hx : Stable (fun _ => False) w0 (GlF p l)) (hr : SortedP (rsP l)) :
    Ret Tryz.prog 97 [.slice p n c, str s, .func (.func 98) #[] #[]] w0 (fun _ => False) fun v _ => ∃ (i : Nat) (b : Bool), v = .tuple ⟨[.int .i64 (i : Nat), .bool b]⟩ ∧ AtP l s i b := by
  subst hn
  refine enter Tryz.func97 rfl rfl (Wd.begin (fs := [GlF p l]) (by simpa using hx)) (fun a S => ?_)
  simp only [Tryz.ntmps97, List.length_cons, List.length_nil, Nat.reduceAdd, Nat.reduceSub, List.replicate_succ, List.replicate_zero, List.cons_append, List.nil_append] at S
  refine c_seq ?_; refine c_region ?_; (iterate 2 (refine sq S ?_; clear S; intro a S)); refine wl_nil ?_; refine xtn ?_; refine c_seq ?_; refine c_region ?_; (iterate 3 (refine sq S ?_; clear S; intro a S)); refine wl_nil ?_; refine xtn ?_; refine c_seq ?_; refine c_region ?_; (iterate 3 (refine sq S ?_; clear S; intro a S)); refine wl_nil ?_; refine xtn ?_; refine c_seq ?_; refine c_block ?_
  refine c_forb2 S (fun (i : Nat) (j : Nat) uu => [(9, .int .i64 (i : Nat)), (0, .int .i64 (j : Nat)), (0, uu 11), (3, uu 15), (0, uu 16), (0, uu 17), (0, uu 18), (0, uu 19), (0, uu 20), (0, uu 21), (0, uu 22), (0, uu 23), (0, uu 24), (0, uu 25), (0, uu 26), (0, uu 27), (0, uu 28), (0, uu 29), (0, uu 30), (0, uu 31), (0, uu 32), (0, uu 33), (0, uu 34)]) (fun (i : Nat) (j : Nat) => i ≤ j ∧ j ≤ l.length ∧ (∀ m, m < i → Op.bytesLess (nthG l m).name s = true) ∧ ∀ m, j ≤ m → m < l.length → Op.bytesLess (nthG l m).name s = false) (fun (i : Nat) (j : Nat) => j - i) (0) (l.length) ?_ S.uu ?_ ?_
  · exact ⟨Nat.zero_le _, Nat.le_refl _, fun m h => by omega, fun m h h' => by omega⟩
  · first | exact S | exact S.sub _ _
  · clear S; rintro i j uu a w ⟨hij, hjl, hlo, hhi⟩ S
    (iterate 2 (refine c_seq ?_)); refine c_region ?_; (iterate 3 (refine sq S ?_; clear S; intro a S)); refine wl_nil ?_; refine xtn ?_
    refine c_cond S (fun h3 => ?_) (fun h3 => ?_)
    · refine c_skip ?_; refine xtn ?_; refine c_block ?_; refine c_seq ?_; refine c_region ?_; (iterate 5 (refine sq S ?_; clear S; intro a S))
      rw [half_uV i j (by omega)] at S
      refine sq S ?_; clear S; intro a S
      rw [show IntKind.i64.wrap (((i + j) / 2 : Nat) : Int) = (((i + j) / 2 : Nat) : Int) from w64 _ (by omega) (by omega)] at S
      have hKh : KLt ((i + j) / 2) l.length := ⟨by simp at h3; omega⟩
      refine sq S ?_; clear S; intro a S; refine wl_nil ?_; refine xtn ?_; refine c_seq ?_; refine c_region ?_; (iterate 6 (refine sq S ?_; clear S; intro a S))
      refine sr S (before_c (nthG l ((i + j) / 2)) s _) ?_; clear S; rintro _ a w rfl S
      refine sq S ?_; clear S; intro a S
      rw [cmp_lessV] at S
      refine wl_nil ?_; refine xtn ?_
      refine c_cond S (fun h5 => ?_) (fun h5 => ?_)
      · refine c_region ?_; (iterate 2 (refine sq S ?_; clear S; intro a S))
        rw [show IntKind.i64.wrap ((((i + j) / 2 : Nat) : Int) + 1) = (((i + j) / 2 + 1 : Nat) : Int) from w64 _ (by omega) (by omega)] at S
        refine sq S ?_; clear S; intro a S; refine wl_nil ?_; refine xbn ?_; refine xtn ?_
        have h3' : i < j := by simp at h3; omega
        refine ⟨(i + j) / 2 + 1, j, S.uu, ⟨by omega, hjl, fun m hm => ?_, hhi⟩, S.sub _ _, by omega⟩
        exact rname_le hr h5 (by omega) (by omega)
      · refine c_region ?_; (iterate 2 (refine sq S ?_; clear S; intro a S)); refine wl_nil ?_; refine xbn ?_; refine xtn ?_
        have h3' : i < j := by simp at h3; omega
        refine ⟨i, (i + j) / 2, S.uu, ⟨by omega, by omega, hlo, fun m hm hml => ?_⟩, S.sub _ _, by omega⟩
        exact rname_ge hr h5 hm hml
    · refine c_exit ?_; (iterate 2 (refine xte ?_)); refine xbe ?_; refine xtn ?_; refine c_seq ?_; refine c_region ?_; (iterate 5 (refine sq S ?_; clear S; intro a S)); (iterate 6 (refine gQ S ?_; clear S; intro a S)); refine gC S ?_; clear S; intro a w S; refine gQ S ?_; clear S; intro a S; (iterate 3 (refine sq S ?_; clear S; intro a S)); refine wl_nil ?_; refine xtn ?_; refine c_ret ?_
      have hij2 : i = j := by simp at h3; omega
      subst hij2
      refine end2 S (fun _ => ?_)
      exact ⟨i, _, rfl, hjl, hlo, hhi, by rw [cmp_zeroV]⟩
theorem putP_row (ys : List LRow) (r : LRow) (i : Nat) (b : Bool) (h : AtP ys r.name i b) :
    putP (rsP ys) r.r = rsP (if b then (if goneP r.r then ys.eraseIdx i else ys.set i r) else (if goneP r.r then ys else ys.take i ++ [r] ++ ys.drop i)) := by
  obtain ⟨h1, h2, h3, h4⟩ := h
  have hg : ∀ m, m < ys.length → (rsP ys)[m]? = some (nthG ys m).r := fun m hm => by rw [rsP, List.getElem?_map, nthG_get hm]; rfl
  have hlen : (rsP ys).length = ys.length := List.length_map _
  rw [putP_at (rsP ys) r.r i (by rw [hlen]; exact h1) (fun m x hm hx => by rw [hg m (by omega)] at hx; cases hx; exact h2 m hm) (fun m x hm hx => by
    have hml : m < ys.length := by rw [← hlen]; exact (List.getElem?_eq_some_iff.1 hx).1
    rw [hg m hml] at hx; cases hx; exact h3 m hm hml)]
  have hb : isAt (rsP ys)[i]? r.r.name = b := by
    rw [h4]
    by_cases hi : i < ys.length
    · rw [hg i hi, isAt_some]
      have : decide ((i : Int) < (ys.length : Int)) = true := by simp; omega
      rw [this, Bool.true_and]; rfl
    · rw [List.getElem?_eq_none (by rw [hlen]; omega), isAt_none]
      have : decide ((i : Int) < (ys.length : Int)) = false := by simp; omega
      rw [this, Bool.false_and]
  rw [hb]
  cases b <;> cases goneP r.r <;> simp [rsP, List.map_set, List.map_take, List.map_drop, List.eraseIdx_eq_take_drop_succ]
theorem AtP.lt {ys : List LRow} {s : List UInt8} {i : Nat} {b : Bool} (h : AtP ys s i b) (hb : b = true) : i < ys.length := by
  have := h.there
  rw [hb] at this
  simp at this
  omega
theorem encR_set (ys : List LRow) (i : Nat) (x : LRow) (h : i < ys.length) : (encL ys).take (i * 6) ++ cRow x ++ (encL ys).drop (i * 6 + (cRow x).length) = encL (ys.set i x) := by
  rw [show i * 6 + (cRow x).length = (i + 1) * 6 from by simp; omega, encR_drop ys (i + 1) (by omega), encR_take ys i (by omega), ← encR_one, ← encL_append, ← encL_append, List.set_eq_take_append_cons_drop, if_pos h]
  simp
theorem own_capV {w : World} {e : TypeId} {sz : Nat} {p : Option Addr} {n c : Nat} {xs : List Value} (h : w.ownsRow 0 e sz (.slice p n c) n xs) : c ≤ maxLen := by
  rcases h.2 with ⟨hv, h0⟩ | ⟨g, cap, cur, hv, hb, hg, hnc, hcm, hcs, ht⟩
  · cases hv; exact Nat.zero_le _
  · cases hv; exact hcm
theorem vbehind_c (rows : List LRow) (p : Option Addr) (c : Nat) (l : List LRow) (q : Option Addr) (d : Nat) (w0 : World) (hn : rows.length ≤ 300) (hl : l.length ≤ 300) (hr : Stable (fun _ => False) w0 (GlF p rows)) (hs : Stable (fun _ => False) w0 (GlF q l)) (hup : SortedP (rsP rows)) :
    Ret Tryz.prog 93 [.slice p rows.length c, .slice q l.length d] w0 (fun _ => False) fun v w' => ∃ ys p' c', v = .slice p' ys.length c' ∧ w'.ownsRow 0 150 6 (.slice p' ys.length c') ys.length (encL ys) ∧ (∀ ad, p' = some ad → w0.heap.size ≤ ad.block) ∧ rsP ys = behP (rsP rows) (rsP l) ∧ ∀ y ∈ ys, y ∈ rows ∨ y ∈ l := by
  refine enter Tryz.func93 rfl rfl (Wd.begin (fs := [GlF p rows, GlF q l]) (by simp; exact ⟨hr, hs⟩)) (fun a S => ?_)
  simp only [Tryz.ntmps93, List.length_cons, List.length_nil, Nat.reduceAdd, Nat.reduceSub, List.replicate_succ, List.replicate_zero, List.cons_append, List.nil_append] at S
  refine c_seq ?_; refine c_region ?_; refine sq S ?_; clear S; intro a S; refine wl_nil ?_; refine xtn ?_; refine c_seq ?_; refine c_region ?_; refine sq S ?_; clear S; intro a S
  refine srn S (rclone_c rows p rows.length c _ rfl (by omega) (S.gl0 p)) ?_; clear S; rintro _ a w ⟨p1, c1, rfl, hown, hnew⟩ hS -
  have S := hS hown hnew
  clear hS
  refine sq S ?_; clear S; intro a S; refine wl_nil ?_; refine xtn ?_; (iterate 2 (refine c_seq ?_)); refine c_region ?_; (iterate 3 (refine sq S ?_; clear S; intro a S)); refine wl_nil ?_; refine xtn ?_; refine c_block ?_
  refine c_fore4 S (fun (k : Nat) (ys : List LRow) (p' : Option Addr) (c' : Nat) uu => [(5, .slice p' ys.length c'), (1, uu 7), (0, uu 8), (0, uu 9), (0, uu 10), (4, .int .i64 (k : Nat)), (0, uu 16), (0, uu 17), (0, uu 18), (0, uu 19), (0, uu 20), (0, uu 21), (0, uu 22), (0, uu 23), (0, uu 24), (0, uu 25), (0, uu 26), (0, uu 27), (0, uu 28), (0, uu 29), (0, uu 30), (0, uu 31), (0, uu 32), (0, uu 33), (0, uu 34), (0, uu 35), (0, uu 36), (0, uu 37), (0, uu 38), (0, uu 39), (0, uu 40), (0, uu 41), (0, uu 42), (0, uu 43), (0, uu 44), (0, uu 45), (0, uu 46), (0, uu 47), (0, uu 48), (0, uu 49), (0, uu 50), (0, uu 51), (0, uu 52)]) (fun (k : Nat) (ys : List LRow) (p' : Option Addr) (c' : Nat) => [Wk.row 150 6 p' ys.length c' (encL ys)]) (fun (k : Nat) (ys : List LRow) (p' : Option Addr) (c' : Nat) => [GlF p rows, GlF q l]) (fun (k : Nat) (ys : List LRow) (p' : Option Addr) (c' : Nat) => k ≤ l.length ∧ ys.length ≤ rows.length + k ∧ rsP ys = behP (rsP rows) (rsP (l.take k)) ∧ ∀ y ∈ ys, y ∈ rows ∨ y ∈ l) (fun (k : Nat) (ys : List LRow) (p' : Option Addr) (c' : Nat) => l.length - k) (0) (rows) (p1) (c1) ?_ S.uu ?_ ?_
  · exact ⟨Nat.zero_le _, Nat.le_refl _, rfl, fun y hy => .inl hy⟩
  · first | exact S | exact S.sub _ _
  · clear S; rintro k ys p' c' uu a w ⟨hk, hyl, hrel, hmem⟩ S
    refine c_seq ?_; refine c_region ?_; refine sq S ?_; clear S; intro a S; refine wl_nil ?_; refine xtn ?_; refine c_seq ?_
    refine c_cond S (fun h3 => ?_) (fun h3 => ?_)
    · refine c_skip ?_; refine xtn ?_
      refine c_mrge3 S (fun (zs : List LRow) (p2 : Option Addr) (c2 : Nat) uu => [(5, .slice p2 zs.length c2), (1, uu 7), (0, uu 8), (0, uu 9), (0, uu 10), (6, uu 17), (0, uu 18), (0, uu 19), (0, uu 20), (0, uu 21), (0, uu 22), (0, uu 23), (0, uu 24), (0, uu 25), (0, uu 26), (0, uu 27), (0, uu 28), (0, uu 29), (0, uu 30), (0, uu 31), (0, uu 32), (0, uu 33), (0, uu 34), (0, uu 35), (0, uu 36), (0, uu 37), (0, uu 38), (0, uu 39), (0, uu 40), (0, uu 41), (0, uu 42), (0, uu 43), (0, uu 44), (0, uu 45), (0, uu 46), (0, uu 47), (0, uu 48), (0, uu 49), (0, uu 50), (0, uu 51)]) (fun (zs : List LRow) (p2 : Option Addr) (c2 : Nat) => [Wk.row 150 6 p2 zs.length c2 (encL zs)]) (fun (zs : List LRow) (p2 : Option Addr) (c2 : Nat) => [GlF p rows, GlF q l]) (fun (zs : List LRow) (p2 : Option Addr) (c2 : Nat) => rsP zs = putP (rsP ys) (nthG l k).r ∧ zs.length ≤ ys.length + 1 ∧ ∀ y ∈ zs, y ∈ ys ∨ y ∈ l) ?_ ?_
      · refine c_block ?_; refine c_seq ?_
        have hkl : k < l.length := by simp at h3; omega
        have hK : KLt k l.length := ⟨hkl⟩
        have hsort : SortedP (rsP ys) := by rw [hrel]; exact behP_sorted _ _ hup
        have hcap : ys.length ≤ c' ∧ c' ≤ maxLen := ⟨own_le (S.row p' ys.length), own_capV (S.row p' ys.length)⟩
        have hA : Stable (fun _ => False) w (AllI ys) := fun w' hw' y hy => by
          rcases hmem y hy with h | h
          · exact (S.gl0 p).later hw' |>.now.2 y h
          · exact (S.gl0 q).later hw' |>.now.2 y h
        replace S := S.add (Φ := AllI ys) (fun w' hw' y hy => by
          rcases hmem y hy with h | h
          · exact ((S.mem.fact (GlF p rows)) w' hw').2 y h
          · exact ((S.mem.fact (GlF q l)) w' hw').2 y h)
        refine c_region ?_; (iterate 2 (refine sq S ?_; clear S; intro a S))
        refine sa S ?_; clear S; intro b7 a w S
        refine sw S ?_; clear S; intro a w S; refine wl_nil ?_; refine xtn ?_; refine c_seq ?_; refine c_region ?_; (iterate 3 (refine sq S ?_; clear S; intro a S))
        refine sr S (rsearch_c ys p' ys.length c' (nthG l k).name w rfl (by omega) (gl_own (S.row p' ys.length) ((S.mem.fact (AllI ys)).less fun _ _ h => h.elim) (fun _ _ h => h)) hsort) ?_; clear S; rintro _ a w ⟨i, b, rfl, hat⟩ S
        have hput := putP_row ys (nthG l k) i b hat
        have hil := hat.le
        (iterate 5 (refine sq S ?_; clear S; intro a S)); refine wl_nil ?_; refine xtn ?_; refine c_seq ?_; refine c_region ?_; refine sq S ?_; clear S; intro a S
        refine sa S ?_; clear S; intro b10 a w S
        refine sw S ?_; clear S; intro a w S; refine wl_nil ?_; refine xtn ?_; refine c_block ?_; refine c_seq ?_; refine c_region ?_; refine sq S ?_; clear S; intro a S; refine sc S ?_; clear S; intro a w S; refine sq S ?_; clear S; intro a S; refine gQ S ?_; clear S; intro a S; (iterate 2 (refine sq S ?_; clear S; intro a S)); refine wl_nil ?_; refine xtn ?_
        refine c_cond S (fun h8 => ?_) (fun h8 => ?_)
        · refine c_region ?_; (iterate 3 (refine sq S ?_; clear S; intro a S))
          have hb : b = true := by simp at h8; exact h8.2
          have hg : goneP (nthG l k).r = true := show sameF (nthG l k).term.t zeroT = true by simp at h8; exact h8.1
          have hib := hat.lt hb
          rw [hb, hg] at hput
          refine sq S ?_; clear S; intro a S
          rw [show IntKind.i64.wrap ((i : Int) + 1) = ((i + 1 : Nat) : Int) from w64 _ (by omega) (by omega)] at S
          refine sit (Wk.row 150 6 p' ys.length c' (encL ys)) S (rdelete_c ys i p' ys.length c' w hib rfl (by omega) (S.row p' ys.length)) rfl ?_; clear S; rintro _ a w ⟨rfl, hown2⟩ hS
          have S := hS (Wk.row 150 6 p' (ys.length - 1) c' (encL (ys.eraseIdx i))) hown2 (fun k h => .inl h)
          rw [show ys.length - 1 = (ys.eraseIdx i).length from by rw [List.length_eraseIdx, if_pos hib]] at S
          clear hS
          refine sq S ?_; clear S; intro a S; refine wl_nil ?_; (iterate 2 (refine xbn ?_)); refine xtn ?_
          exact ⟨ys.eraseIdx i, p', c', S.uu, ⟨hput.symm, by have := List.length_eraseIdx_le ys i; omega, fun y hy => .inl (List.mem_of_mem_eraseIdx hy)⟩, S.sub _ _⟩
        · refine c_seq ?_; refine c_region ?_; refine sq S ?_; clear S; intro a S; refine sc S ?_; clear S; intro a w S; refine sq S ?_; clear S; intro a S; refine wl_nil ?_; refine xtn ?_
          refine c_cond S (fun h10 => ?_) (fun h10 => ?_)
          · refine c_skip ?_; (iterate 2 (refine xbn ?_)); refine xtn ?_
            have hg : goneP (nthG l k).r = true := show sameF (nthG l k).term.t zeroT = true by simpa using h10
            have hb : b = false := by
              have h8' : (sameF (nthG l k).term.t zeroT && b) = false := by simpa using h8
              rw [show sameF (nthG l k).term.t zeroT = true from hg] at h8'
              exact h8'
            rw [hb, hg] at hput
            exact ⟨ys, p', c', S.uu, ⟨hput.symm, by omega, fun y hy => .inl hy⟩, S.sub _ _⟩
          · refine c_seq ?_; refine c_region ?_; (iterate 2 (refine sq S ?_; clear S; intro a S)); refine wl_nil ?_; refine xtn ?_
            refine c_cond S (fun h11 => ?_) (fun h11 => ?_)
            · refine c_region ?_; (iterate 3 (refine sq S ?_; clear S; intro a S))
              have hb : b = true := by simpa using h11
              have hg : goneP (nthG l k).r = false := show sameF (nthG l k).term.t zeroT = false by simpa using h10
              have hib := hat.lt hb
              have hK2 : KLt i ys.length := ⟨hib⟩
              rw [hb, hg] at hput
              refine sq S ?_; clear S; intro a S
              refine sws S ys.length (by omega) (by omega) ?_; clear S; intro a w S
              rw [encR_set ys i (nthG l k) hib] at S
              refine wl_nil ?_; (iterate 2 (refine xbn ?_)); refine xtn ?_
              rw [show ys.length = (ys.set i (nthG l k)).length from (List.length_set ..).symm] at S
              exact ⟨ys.set i (nthG l k), p', c', S.uu, ⟨hput.symm, by simp, fun y hy => (List.mem_or_eq_of_mem_set hy).imp id (fun h => by rw [h]; exact nthG_mem hkl)⟩, S.sub _ _⟩
            · have hb : b = false := by simpa using h11
              have hg : goneP (nthG l k).r = false := show sameF (nthG l k).term.t zeroT = false by simpa using h10
              rw [hb, hg] at hput
              refine c_region ?_; (iterate 3 (refine sq S ?_; clear S; intro a S))
              refine sn S ?_; clear S; intro b30 a w S
              have hap : ∀ ad, p' = some ad → b30 ≠ ad.block := fun ad had he => St.apart2 S (Wk.box b30 150 (cRow (nthG l k))) (Wk.row 150 6 p' ys.length c' (encL ys)) b30 rfl ⟨ad, had, he⟩
              replace S := S.boxToF b30
              refine sit (Wk.row 150 6 p' ys.length c' (encL ys)) S (rinsert_c ys (nthG l k) i ys.length c' b30 150 p' w (by omega) (by omega) hcap.1 hcap.2 rfl (S.row p' ys.length) (S.rowFact p' ys.length (Φ := BoxF b30 150 (cRow (nthG l k))) (List.mem_cons_self ..)) hap) rfl ?_; clear S; rintro _ a w ⟨p2, c2, rfl, hown2, hnew2⟩ hS
              have S := hS (Wk.row 150 6 p2 (ys.length + 1) c2 (encL (ys.take i ++ [nthG l k] ++ ys.drop i))) hown2 (fun k ⟨ad, h1, h2⟩ => (hnew2 ad h1).imp (fun ⟨ad', h3, h4⟩ => ⟨ad', h3, h2.trans h4⟩) (fun h => by rw [h2]; exact h))
              clear hS
              have hnl : ys.length + 1 = (ys.take i ++ [nthG l k] ++ ys.drop i).length := by simp; omega
              rw [hnl] at S
              refine sq S ?_; clear S; intro a S; refine wl_nil ?_; (iterate 2 (refine xbn ?_)); refine xtn ?_
              exact ⟨ys.take i ++ [nthG l k] ++ ys.drop i, p2, c2, S.uu, ⟨hput.symm, by omega, fun y hy => by
                simp only [List.mem_append, List.mem_singleton] at hy
                rcases hy with (h | h) | h
                · exact .inl (List.mem_of_mem_take h)
                · rw [h]; exact .inr (nthG_mem hkl)
                · exact .inl (List.mem_of_mem_drop h)⟩, S.sub _ _⟩
      · clear S; rintro zs p2 c2 uu a w ⟨hz1, hz2, hz3⟩ S
        refine c_region ?_; (iterate 2 (refine sq S ?_; clear S; intro a S)); refine wl_nil ?_; refine xtn ?_
        have hkl : k < l.length := by simp at h3; omega
        rw [w64 ((k : Int) + 1) (by omega) (by omega)] at S
        refine ⟨k + 1, zs, p2, c2, S.uu, ⟨hkl, by omega, ?_, ?_⟩, S.sub _ _, by omega⟩
        · rw [hz1, hrel, take_snocG hkl, rsP, rsP, rsP, List.map_append, behP, behP, List.foldl_append]; rfl
        · intro y hy
          exact (hz3 y hy).elim (fun h => hmem y h) .inr
    · refine c_exit ?_; (iterate 2 (refine xte ?_)); refine xbe ?_; refine xtn ?_; refine c_seq ?_; refine c_region ?_; (iterate 2 (refine sq S ?_; clear S; intro a S)); refine wl_nil ?_; refine xtn ?_; refine c_ret ?_
      have hk2 : l.length ≤ k := by simp at h3; omega
      rw [List.take_of_length_le hk2] at hrel
      have hrow := S.row p' ys.length
      have hnew := S.rowNew p' ys.length
      exact end1 S (fun _ => ⟨ys, p', c', rfl, hrow, fun ad h => (hnew ad h).elim (fun h => h.elim) id, hrel, hmem⟩)
end Go.Proofs.YtdakncgafdnjfaaGreat