/- Package term: a term's bytes. -/
import Derived.Test.YtgielmldblopeaaDoorTermC
import Derived.Test.YtgielmldblopeaaDoorOctet
namespace Go.Proofs.YtgielmldblopeaaDoor
open Go Go.Wk
set_option synthInstance.maxSize 100000
set_option synthInstance.maxHeartbeats 400000
set_option maxRecDepth 100000

def put1 (k : Int) (s : List UInt8) : List UInt8 := if hasF (fieldsOf k) 1 then Wk.u8 s.length :: s else []
def put2 (k u : Int) : List UInt8 := if hasF (fieldsOf k) 2 then [Wk.u8 u] else []
def put4 (k n : Int) : List UInt8 := if hasF (fieldsOf k) 4 then be 2 (IntKind.u16.wrap n) else []
def headF (k u n : Int) (s : List UInt8) : List UInt8 := [Wk.u8 k] ++ put1 k s ++ put2 k u ++ put4 k n
mutual
def bytesF : Term → List UInt8
  | .mk k u n s ks => headF k u n s ++ bytesLF ks
def bytesLF : List Term → List UInt8
  | [] => []
  | t :: ts => bytesF t ++ bytesLF ts
end
theorem wu16_range (n : Int) : 0 ≤ IntKind.u16.wrap n ∧ IntKind.u16.wrap n ≤ 65535 := by
  unfold IntKind.wrap
  simp only [IntKind.bits, IntKind.signed, Bool.false_and]
  simp; omega
theorem sl_stable {w : World} {e : TypeId} {sz : Nat} {p : Option Addr} {n c : Nat} {xs : List Value} (h : w.ownsRow 0 e sz (.slice p n c) n xs) : Stable (fun _ => False) w (SlF p xs) := (own_sl h).stable fun _ _ h => h
/-- the row has grown. -/
def Grew (w0 w' : World) (p : Option Addr) (b : List UInt8) (v : Value) : Prop := ∃ p' c', v = .slice p' b.length c' ∧ w'.ownsRow 0 5 1 (.slice p' b.length c') b.length (encL b) ∧ ∀ ad, p' = some ad → (∃ ad', p = some ad' ∧ ad.block = ad'.block) ∨ w0.heap.size ≤ ad.block
theorem put_c (N : Nat) : ∀ (t : LTerm) (p : Option Addr) (n c : Nat) (b : List UInt8) (w0 : World), SizeOf.sizeOf t ≤ N → b.length = n → n + (bytesF t.t).length ≤ 1073741824 → w0.ownsRow 0 5 1 (.slice p n c) n (encL b) → Stable (fun k => ∃ ad, p = some ad ∧ k = ad.block) w0 (LtF t) →
    Ret Tryd.prog 134 [.slice p n c, vL t] w0 (fun k => ∃ ad, p = some ad ∧ k = ad.block) fun v w' => Grew w0 w' p (b ++ bytesF t.t) v := by
  induction N with
  | zero => intro t _ _ _ _ _ h; cases t; simp at h
  | succ N ih =>
  intro t p n c b w0 hN hbn hbd hown hf
  have hlen := LTerm.len_le hf
  have e0 : bytesF t.t = headF t.kind t.user t.num t.text ++ bytesLF (t.kids.map LTerm.t) := by rw [t.t_eq, bytesF]
  have hL : n + (1 + (put1 t.kind t.text).length + (put2 t.kind t.user).length + (put4 t.kind t.num).length + (bytesLF (t.kids.map LTerm.t)).length) ≤ 1073741824 := by
    rw [e0] at hbd; simp only [headF, List.length_append, List.length_singleton] at hbd; omega
  refine enter Tryd.func134 rfl rfl (Wd.rowLent (fs := [LtF t]) hown (by simpa using hf)) (fun a S => ?_)
  simp only [Tryd.ntmps134, List.length_cons, List.length_nil, Nat.reduceAdd, Nat.reduceSub, List.replicate_succ, List.replicate_zero, List.cons_append, List.nil_append] at S
  refine c_seq ?_
  refine c_region ?_
  refine sa S ?_; clear S; intro b3 a w S
  refine sq S ?_; clear S; intro a S
  refine wl_nil ?_
  refine xtn ?_
  refine c_seq ?_
  refine c_region ?_
  iterate 2 (refine sq S ?_; clear S; intro a S)
  refine sc S ?_; clear S; intro a w S
  refine sq S ?_; clear S; intro a S
  refine wl_nil ?_
  refine xtn ?_
  refine c_seq ?_
  refine c_region ?_
  iterate 4 (refine sq S ?_; clear S; intro a S)
  refine sn S ?_; clear S; intro b15 a w S
  refine sap S (by simp only [maxLen]; omega) (by omega) ?_; clear S; intro p1 c1 a w _ S
  rw [show encL b ++ [Value.int .u8 (IntKind.u8.wrap t.kind)] = encL (b ++ ([Wk.u8 t.kind])) from by rw [encL_append, u8_wrap]; rfl] at S
  refine sq S ?_; clear S; intro a S
  refine wl_nil ?_
  refine xtn ?_
  have hm1 : n + 1 = (b ++ ([Wk.u8 t.kind])).length := by rw [List.length_append, hbn]; rfl
  generalize n + 1 = m1 at S hm1
  refine c_merge (fun a w => ∃ (p' : Option Addr) (c' m : Nat), m = (b ++ ([Wk.u8 t.kind] ++ put1 t.kind t.text)).length ∧ ∃ uu : Nat → Value,  St w0 (fun k => ∃ ad, p = some ad ∧ k = ad.block) [] a w ((.slice p' m c') :: (vL t) :: uu 2 :: (.pointer (some ⟨b3, 0, none⟩)) :: (.slice none 0 0) :: (.int .i64 (fieldsOf t.kind)) :: uu 6 :: uu 7 :: uu 8 :: uu 9 :: uu 10 :: uu 11 :: uu 12 :: uu 13 :: uu 14 :: uu 15 :: uu 16 :: uu 17 :: uu 18 :: uu 19 :: uu 20 :: uu 21 :: uu 22 :: uu 23 :: uu 24 :: uu 25 :: uu 26 :: uu 27 :: uu 28 :: uu 29 :: uu 30 :: uu 31 :: uu 32 :: uu 33 :: uu 34 :: uu 35 :: uu 36 :: uu 37 :: uu 38 :: uu 39 :: uu 40 :: uu 41 :: uu 42 :: uu 43 :: uu 44 :: uu 45 :: uu 46 :: uu 47 :: uu 48 :: uu 49 :: uu 50 :: uu 51 :: uu 52 :: uu 53 :: uu 54 :: uu 55 :: []) [box b3 24 t.cells, row 5 1 p' m c' (encL (b ++ ([Wk.u8 t.kind] ++ put1 t.kind t.text)))] [LtF t]) ?_ ?_
  · refine c_seq ?_
    refine c_region ?_
    refine sq S ?_; clear S; intro a S
    refine sc S ?_; clear S; intro a w S
    refine wl_nil ?_
    refine xtn ?_
    refine c_cond S (fun h3 => ?_) (fun h3 => ?_)
    · refine c_drawE [(0, true), (1, true), (2, true), (3, true), (4, true), (7, true), (8, true), (5, false), (6, false), (9, false), (10, true)] [box b3 24 t.cells] S ?_; clear S; intro w S
      iterate 7 (refine dq S ?_; clear S; intro a S)
      refine dl ?_
      refine sn S ?_; clear S; intro b24 a w S
      refine de S ?_
      refine dl ?_
      have h3' : hasF (fieldsOf t.kind) 1 = true := h3
      have e1 : put1 t.kind t.text = Wk.u8 t.text.length :: t.text := by rw [put1, if_pos h3']
      have hl1 : (put1 t.kind t.text).length = t.text.length + 1 := by rw [e1]; rfl
      have hm2 : m1 = n + 1 := by rw [hm1, List.length_append, hbn]; rfl
      refine sap S (by simp only [maxLen]; omega) (by omega) ?_; clear S; intro p2 c2 a w _ S
      refine de S ?_
      refine dl ?_
      refine sap S (by simp only [maxLen]; omega) (by omega) ?_; clear S; intro p3 c3 a w _ S
      rw [show encL (b ++ ([Wk.u8 t.kind])) ++ [Value.int .u8 (IntKind.u8.wrap (t.text.length : Int))] ++ encL t.text = encL (b ++ ([Wk.u8 t.kind] ++ put1 t.kind t.text)) from by rw [e1, u8_wrap]; simp [encL, Enc.cells]] at S
      refine de S ?_
      refine dq S ?_; clear S; intro a S
      refine dn ?_
      refine xtn ?_
      replace S := S.sub [box b3 24 t.cells, row 5 1 p3 (m1 + 1 + t.text.length) c3 (encL (b ++ ([Wk.u8 t.kind] ++ put1 t.kind t.text)))] [LtF t]
      exact ⟨p3, c3, _, by rw [hm2, List.length_append, List.length_append, hl1, hbn]; simp; omega, S.uu, S⟩
    · refine c_skip ?_
      refine xtn ?_
      have h3' : ¬ hasF (fieldsOf t.kind) 1 = true := by simpa using h3
      have e1 : put1 t.kind t.text = [] := by rw [put1, if_neg h3']
      rw [show b ++ ([Wk.u8 t.kind]) = b ++ ([Wk.u8 t.kind] ++ put1 t.kind t.text) from by rw [e1, List.append_nil]] at S hm1
      replace S := S.sub [box b3 24 t.cells, row 5 1 p1 m1 c1 (encL (b ++ ([Wk.u8 t.kind] ++ put1 t.kind t.text)))] [LtF t]
      exact ⟨p1, c1, m1, hm1, S.uu, S⟩
  · clear S; rintro a w ⟨p', c', m, hm, uu, S⟩
    have hlm : m = n + 1 + (put1 t.kind t.text).length := by rw [hm]; simp [hbn]; omega
    refine c_merge (fun a w => ∃ (p' : Option Addr) (c' m : Nat), m = (b ++ ([Wk.u8 t.kind] ++ put1 t.kind t.text ++ put2 t.kind t.user)).length ∧ ∃ uu : Nat → Value,  St w0 (fun k => ∃ ad, p = some ad ∧ k = ad.block) [] a w ((.slice p' m c') :: (vL t) :: uu 2 :: (.pointer (some ⟨b3, 0, none⟩)) :: (.slice none 0 0) :: (.int .i64 (fieldsOf t.kind)) :: uu 6 :: uu 7 :: uu 8 :: uu 9 :: uu 10 :: uu 11 :: uu 12 :: uu 13 :: uu 14 :: uu 15 :: uu 16 :: uu 17 :: uu 18 :: uu 19 :: uu 20 :: uu 21 :: uu 22 :: uu 23 :: uu 24 :: uu 25 :: uu 26 :: uu 27 :: uu 28 :: uu 29 :: uu 30 :: uu 31 :: uu 32 :: uu 33 :: uu 34 :: uu 35 :: uu 36 :: uu 37 :: uu 38 :: uu 39 :: uu 40 :: uu 41 :: uu 42 :: uu 43 :: uu 44 :: uu 45 :: uu 46 :: uu 47 :: uu 48 :: uu 49 :: uu 50 :: uu 51 :: uu 52 :: uu 53 :: uu 54 :: uu 55 :: []) [box b3 24 t.cells, row 5 1 p' m c' (encL (b ++ ([Wk.u8 t.kind] ++ put1 t.kind t.text ++ put2 t.kind t.user)))] [LtF t]) ?_ ?_
    · refine c_seq ?_
      refine c_region ?_
      refine sq S ?_; clear S; intro a S
      refine sc S ?_; clear S; intro a w S
      refine wl_nil ?_
      refine xtn ?_
      refine c_cond S (fun h5 => ?_) (fun h5 => ?_)
      · refine c_region ?_
        iterate 4 (refine sq S ?_; clear S; intro a S)
        have h5' : hasF (fieldsOf t.kind) 2 = true := h5
        have e2 : put2 t.kind t.user = [Wk.u8 t.user] := by rw [put2, if_pos h5']
        have hl2 : (put2 t.kind t.user).length = 1 := by rw [e2]; rfl
        refine sn S ?_; clear S; intro b35 a w S
        refine sap S (by simp only [maxLen]; omega) (by omega) ?_; clear S; intro p2 c2 a w _ S
        rw [show encL (b ++ ([Wk.u8 t.kind] ++ put1 t.kind t.text)) ++ [Value.int .u8 (IntKind.u8.wrap t.user)] = encL (b ++ ([Wk.u8 t.kind] ++ put1 t.kind t.text ++ put2 t.kind t.user)) from by rw [e2, u8_wrap]; simp [encL, Enc.cells]] at S
        refine sq S ?_; clear S; intro a S
        refine wl_nil ?_
        refine xtn ?_
        replace S := S.sub [box b3 24 t.cells, row 5 1 p2 (m + 1) c2 (encL (b ++ ([Wk.u8 t.kind] ++ put1 t.kind t.text ++ put2 t.kind t.user)))] [LtF t]
        exact ⟨p2, c2, _, by rw [hm]; simp [hl2]; omega, S.uu, S⟩
      · refine c_skip ?_
        refine xtn ?_
        have h5' : ¬ hasF (fieldsOf t.kind) 2 = true := by simpa using h5
        have e2 : put2 t.kind t.user = [] := by rw [put2, if_neg h5']
        rw [show b ++ ([Wk.u8 t.kind] ++ put1 t.kind t.text) = b ++ ([Wk.u8 t.kind] ++ put1 t.kind t.text ++ put2 t.kind t.user) from by rw [e2, List.append_nil]] at S hm
        exact ⟨p', c', m, hm, S.uu, S⟩
    · clear S; clear hlm hm; clear m; rintro a w ⟨p', c', m, hm, uu, S⟩
      have hlm : m = n + 1 + (put1 t.kind t.text).length + (put2 t.kind t.user).length := by rw [hm]; simp [hbn]; omega
      refine c_merge (fun a w => ∃ (p' : Option Addr) (c' m : Nat), m = (b ++ (headF t.kind t.user t.num t.text)).length ∧ ∃ uu : Nat → Value,  St w0 (fun k => ∃ ad, p = some ad ∧ k = ad.block) [] a w ((.slice p' m c') :: (vL t) :: uu 2 :: (.pointer (some ⟨b3, 0, none⟩)) :: (.slice none 0 0) :: (.int .i64 (fieldsOf t.kind)) :: uu 6 :: uu 7 :: uu 8 :: uu 9 :: uu 10 :: uu 11 :: uu 12 :: uu 13 :: uu 14 :: uu 15 :: uu 16 :: uu 17 :: uu 18 :: uu 19 :: uu 20 :: uu 21 :: uu 22 :: uu 23 :: uu 24 :: uu 25 :: uu 26 :: uu 27 :: uu 28 :: uu 29 :: uu 30 :: uu 31 :: uu 32 :: uu 33 :: uu 34 :: uu 35 :: uu 36 :: uu 37 :: uu 38 :: uu 39 :: uu 40 :: uu 41 :: uu 42 :: uu 43 :: uu 44 :: uu 45 :: uu 46 :: uu 47 :: uu 48 :: uu 49 :: uu 50 :: uu 51 :: uu 52 :: uu 53 :: uu 54 :: uu 55 :: []) [box b3 24 t.cells, row 5 1 p' m c' (encL (b ++ (headF t.kind t.user t.num t.text)))] [LtF t]) ?_ ?_
      · refine c_seq ?_
        refine c_region ?_
        refine sq S ?_; clear S; intro a S
        refine sc S ?_; clear S; intro a w S
        refine wl_nil ?_
        refine xtn ?_
        refine c_cond S (fun h7 => ?_) (fun h7 => ?_)
        · refine c_region ?_
          iterate 4 (refine sq S ?_; clear S; intro a S)
          have h7' : hasF (fieldsOf t.kind) 4 = true := h7
          have e4 : put4 t.kind t.num = be 2 (IntKind.u16.wrap t.num) := by rw [put4, if_pos h7']
          have hwr := wu16_range t.num
          refine srn S (put16_c p' m c' (b ++ ([Wk.u8 t.kind] ++ put1 t.kind t.text ++ put2 t.kind t.user)) (IntKind.u16.wrap t.num) w hm.symm (by omega) hwr.1 hwr.2 (sl_stable (S.row p' m))) ?_; clear S; rintro _ a w ⟨g, rfl, hg, hown2⟩ hS -
          have S := hS hown2 (fun ad h => by cases h; exact hg)
          clear hS
          rw [show b ++ ([Wk.u8 t.kind] ++ put1 t.kind t.text ++ put2 t.kind t.user) ++ be 2 (IntKind.u16.wrap t.num) = b ++ (headF t.kind t.user t.num t.text) from by rw [headF, e4, List.append_assoc]] at S
          refine sq S ?_; clear S; intro a S
          refine wl_nil ?_
          refine xtn ?_
          have S2 : St w0 (fun k => ∃ ad, p = some ad ∧ k = ad.block) [] _ _ _ [box b3 24 t.cells, row 5 1 (some ⟨g, 0, none⟩) (m + 2) (m + 2) (encL (b ++ (headF t.kind t.user t.num t.text)))] [LtF t] := S.swap2
          exact ⟨_, _, _, by rw [hm, headF, e4]; simp [be]; omega, S.uu, S2⟩
        · refine c_skip ?_
          refine xtn ?_
          have h7' : ¬ hasF (fieldsOf t.kind) 4 = true := by simpa using h7
          have e4 : put4 t.kind t.num = [] := by rw [put4, if_neg h7']
          rw [show b ++ ([Wk.u8 t.kind] ++ put1 t.kind t.text ++ put2 t.kind t.user) = b ++ (headF t.kind t.user t.num t.text) from by rw [headF, e4, List.append_nil]] at S hm
          exact ⟨p', c', m, hm, S.uu, S⟩
      · clear S; clear hlm hm; clear m; rintro a w ⟨p', c', m, hm, uu, S⟩
        iterate 2 (refine c_seq ?_)
        refine c_region ?_
        iterate 4 (refine sq S ?_; clear S; intro a S)
        refine wl_nil ?_
        refine xtn ?_
        refine c_block ?_
        refine c_loop (ι := Nat) (fun k a w => k ≤ t.kids.length ∧ ∃ (p' : Option Addr) (c' m : Nat) (b' : List UInt8), m = b'.length ∧ b' ++ bytesLF ((t.kids.drop k).map LTerm.t) = b ++ bytesF t.t ∧ ∃ uu : Nat → Value,  St w0 (fun k => ∃ ad, p = some ad ∧ k = ad.block) [] a w ((.slice p' m c') :: (vL t) :: uu 2 :: (.pointer (some ⟨b3, 0, none⟩)) :: (.slice none 0 0) :: (.int .i64 (fieldsOf t.kind)) :: uu 6 :: uu 7 :: uu 8 :: uu 9 :: uu 10 :: uu 11 :: uu 12 :: uu 13 :: uu 14 :: uu 15 :: uu 16 :: uu 17 :: uu 18 :: uu 19 :: uu 20 :: uu 21 :: uu 22 :: uu 23 :: uu 24 :: uu 25 :: uu 26 :: uu 27 :: uu 28 :: uu 29 :: uu 30 :: uu 31 :: uu 32 :: uu 33 :: uu 34 :: uu 35 :: uu 36 :: uu 37 :: uu 38 :: uu 39 :: uu 40 :: uu 41 :: uu 42 :: uu 43 :: uu 44 :: (.slice t.p t.kids.length t.cap) :: (.int .i64 t.kids.length) :: (.int .i64 (k : Nat)) :: uu 48 :: uu 49 :: uu 50 :: uu 51 :: uu 52 :: uu 53 :: uu 54 :: uu 55 :: []) [box b3 24 t.cells, row 5 1 p' m c' (encL b')] [LtF t]) (fun k => t.kids.length - k) 0 ?_ ?_
        · exact ⟨Nat.zero_le _, p', c', m, _, hm, by rw [e0, List.append_assoc]; rfl, S.uu, S⟩
        · clear S; clear hm; clear m p' c'
          rintro k a w ⟨hk, p', c', m, b', hm, hrel, uu, S⟩
          refine c_seq ?_
          refine c_region ?_
          refine sq S ?_; clear S; intro a S
          refine wl_nil ?_
          refine xtn ?_
          refine c_seq ?_
          refine c_cond S (fun h10 => ?_) (fun h10 => ?_)
          · refine c_skip ?_
            refine xtn ?_
            refine c_seq ?_
            refine c_block ?_
            refine c_seq ?_
            refine c_region ?_
            have hkl : k < t.kids.length := by simpa using h10
            have hK : KLt k t.kids.length := ⟨hkl⟩
            iterate 2 (refine sq S ?_; clear S; intro a S)
            refine sa S ?_; clear S; intro b7 a w S
            refine sw S ?_; clear S; intro a w S
            refine wl_nil ?_
            refine xtn ?_
            refine c_region ?_
            iterate 2 (refine sq S ?_; clear S; intro a S)
            rw [nth_drop hkl, List.map_cons, bytesLF] at hrel
            have hbl := congrArg List.length hrel
            simp only [List.length_append, hbn] at hbl
            refine srg p' m S (ih (nthL t.kids k) p' m c' b' w (by have := LTerm.kid_lt (nth_mem hkl); omega) hm.symm (by omega) (S.row p' m) ((S.t _).less fun _ _ hk => ⟨_, HasRow.mem (p := p') (n := m), hk⟩)) ?_; clear S; rintro _ a w ⟨p2, c2, rfl, hown2, hnew2⟩ hS
            have S := hS _ hown2 hnew2
            clear hS
            refine sq S ?_; clear S; intro a S
            refine wl_nil ?_
            refine xbn ?_
            refine xtn ?_
            refine c_region ?_
            iterate 2 (refine sq S ?_; clear S; intro a S)
            refine wl_nil ?_
            refine xtn ?_
            rw [w64 ((k : Int) + 1) (by omega) (by omega)] at S
            replace S := S.sub [box b3 24 t.cells, row 5 1 p2 (b' ++ bytesF (nthL t.kids k).t).length c2 (encL (b' ++ bytesF (nthL t.kids k).t))] [LtF t]
            exact ⟨k + 1, ⟨hkl, p2, c2, _, _, rfl, by rw [List.append_assoc]; exact hrel, S.uu, S⟩, by omega⟩
          · refine c_exit ?_
            iterate 2 (refine xte ?_)
            refine xbe ?_
            refine xtn ?_
            refine c_seq ?_
            refine c_region ?_
            iterate 2 (refine sq S ?_; clear S; intro a S)
            refine wl_nil ?_
            refine xtn ?_
            refine c_ret ?_
            have h9 : t.kids.length ≤ k := by simpa using h10
            rw [List.drop_of_length_le h9, List.map_nil, bytesLF, List.append_nil] at hrel
            subst hrel hm
            have hrow := S.row p' (b ++ bytesF t.t).length
            have hnew := S.rowNew p' (b ++ bytesF t.t).length
            exact end1 S (fun _ => ⟨p', c', rfl, hrow, hnew⟩)
end Go.Proofs.YtgielmldblopeaaDoor
