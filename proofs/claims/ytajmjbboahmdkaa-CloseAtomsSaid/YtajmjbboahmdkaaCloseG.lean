/- Package close: Parts. -/
import Derived.Test.YtajmjbboahmdkaaCloseF
import Derived.Test.YtajmjbboahmdkaaW4
namespace Go.Proofs.Ytajmjbboahmdkaa
open Go Go.Wk
set_option synthInstance.maxSize 100000
set_option synthInstance.maxHeartbeats 400000
set_option maxRecDepth 100000

/-- what is asked of the sort. -/
def SortOk (P : Program) (f : Nat) : Prop := ∀ (ns : List (List UInt8)) (p : Option Addr) (c : Nat) (w0 : World), ns.length ≤ 10000000 → w0.ownsRow 0 9 1 (.slice p ns.length c) ns.length (encL ns) →
  Ret P f [.slice p ns.length c] w0 (fun k => ∃ ad, p = some ad ∧ k = ad.block) fun v w' => v = .tuple #[] ∧ ∃ ns' : List (List UInt8), ns'.Perm ns ∧ w'.ownsRow 0 9 1 (.slice p ns.length c) ns.length (encL ns')
theorem tget_nodup {km : List (List UInt8 × LTerm)} (h : (km.map (·.1)).Nodup) : km.map (fun e => (tget e.1 km).getD zeroL) = km.map (·.2) := by
  induction km with
  | nil => rfl
  | cons e km ih =>
    obtain ⟨k, x⟩ := e
    rw [List.map_cons, List.nodup_cons] at h
    rw [List.map_cons, List.map_cons]
    congr 1
    · rw [tget, if_pos rfl]; rfl
    · rw [← ih h.2]
      apply List.map_congr_left
      intro e he
      rw [tget, if_neg (fun hk => h.1 (List.mem_map.2 ⟨e, he, hk⟩))]
theorem kvM_fst (km : List (List UInt8 × LTerm)) : (kvM km).map (·.1) = km.map (·.1) := by
  simp [kvM]
def EntsF (km : List (List UInt8 × LTerm)) : World → Prop := fun w => ∀ e ∈ km, LtIn w e.2
theorem parts_c (hsort : SortOk Try.prog 115) (xs : List LTerm) (p : Option Addr) (c : Nat) (w0 : World) (hx : Stable (fun _ => False) w0 (LsF p 0 xs)) :
    Ret Try.prog 67 [.slice p xs.length c] w0 (fun _ => False) fun v w' => ∃ p' c' ls, v = .tuple ⟨[.slice p' ls.length c', .int .i64 (chkF (xs.map LTerm.t) [])]⟩ ∧ w'.ownsRow 0 37 5 (.slice p' ls.length c') ls.length (encL ls) ∧ (∀ ad, p' = some ad → w0.heap.size ≤ ad.block) ∧
      (∀ x ∈ ls, Stable (fun k => ∃ ad, p' = some ad ∧ k = ad.block) w' (LtF x)) ∧ (chkF (xs.map LTerm.t) [] ≠ 0 → ls = []) ∧ (chkF (xs.map LTerm.t) [] = 0 → ∃ km, Apart (xs.map LTerm.t) km ∧ (∀ e ∈ km, SubT (xs.map LTerm.t) e.2.t) ∧ ls.Perm (km.map (·.2))) ∧ ls.length ≤ 1200000 := by
  refine enter Try.func67 rfl rfl (Wd.begin (fs := [LsF p 0 xs]) (by simpa using hx)) (fun a S => ?_)
  simp only [Try.ntmps67, List.length_cons, List.length_nil, Nat.reduceAdd, Nat.reduceSub, List.replicate_succ, List.replicate_zero, List.cons_append, List.nil_append] at S
  refine c_seq ?_
  refine c_region ?_
  iterate 2 (refine sq S ?_; clear S; intro a S)
  refine wl_nil ?_
  refine xtn ?_
  iterate 2 (refine c_seq ?_)
  refine c_region ?_
  refine sq S ?_; clear S; intro a S
  have hck := check_cl xs [] p none xs.length 0 c 0 w0 rfl rfl (by omega) (S.mem.fact0 (LsF p 0 xs)) (fun w _ => by simp [LsF, LsIn])
  refine sr S hck ?_; clear S hck; rintro _ a w rfl S
  refine sq S ?_; clear S; intro a S
  refine wl_nil ?_
  refine xtn ?_
  refine c_seq ?_
  refine c_region ?_
  iterate 2 (refine sq S ?_; clear S; intro a S)
  refine wl_nil ?_
  refine xtn ?_
  refine c_cond S (fun h2 => ?_) (fun h2 => ?_)
  · refine c_seq ?_
    refine c_region ?_
    iterate 3 (refine sq S ?_; clear S; intro a S)
    refine wl_nil ?_
    refine xtn ?_
    refine c_ret ?_
    refine xtr ?_
    refine end2 S (fun _ => ?_)
    have h2' : chkF (xs.map LTerm.t) [] ≠ 0 := by simpa using h2
    exact ⟨none, 0, [], rfl, World.ownsRow_nil _ _ _ _, fun _ h => by (cases h), fun x hx => by (cases hx), fun _ => rfl, fun h => absurd h h2', Nat.zero_le _⟩
  · refine c_skip ?_
    refine xtn ?_
    refine c_seq ?_
    refine c_region ?_
    refine sq S ?_; clear S; intro a S
    have h2' : chkF (xs.map LTerm.t) [] = 0 := by simpa using h2
    obtain ⟨hlen, hgood⟩ := chk_zero.1 h2'
    rw [List.length_map] at hlen
    refine srx S (apart_c xs p c w hlen (S.mem.fact0 (LsF p 0 xs)) (fun x hx => hgood _ (List.mem_append_left _ (List.mem_map.2 ⟨x, hx, rfl⟩)))) ?_
    clear S; rintro _ a w ⟨b, km, rfl, hm, hb, hA, hkn, hE⟩ hS -
    have S := hS (mp b (kvM km)) hm (fun k hk => hk ▸ hb) (mp_lt hm) (mp_loc _ _)
    replace S := S.add (Φ := EntsF km) (fun w' hw' e he => (hE e he).1 w' (hw'.mono fun k _ hk => by
      obtain ⟨it, hi, hk⟩ := hk
      obtain rfl := List.mem_singleton.1 hi
      exact hk))
    clear hS hm hb
    refine sq S ?_; clear S; intro a S
    refine wl_nil ?_
    refine xtn ?_
    refine c_seq ?_
    refine c_region ?_
    refine sq S ?_; clear S; intro a S
    refine wl_nil ?_
    refine xtn ?_
    refine c_seq ?_
    refine c_region ?_
    refine sq S ?_; clear S; intro a S
    refine wl_nil ?_
    refine xtn ?_
    iterate 2 (refine c_seq ?_)
    refine c_region ?_
    refine sq S ?_; clear S; intro a S
    refine srg0 S ?_; clear S; intro ri a w S
    refine wl_nil ?_
    refine xtn ?_
    refine c_block ?_
    replace S := S.addNil 9 1
    refine c_loop (ι := Nat) (fun k a w => ∃ done pn cn, k = done.length ∧ done.length ≤ (kvM km).length ∧ ∃ uu : Nat → Value,  St w0 (fun _ => False) [] a w ((.slice p xs.length c) :: uu 1 :: (.slice none 0 0) :: uu 3 :: uu 4 :: (.map (some b)) :: (.slice none 0 0) :: (.slice pn done.length cn) :: uu 8 :: uu 9 :: uu 10 :: uu 11 :: uu 12 :: uu 13 :: uu 14 :: uu 15 :: uu 16 :: uu 17 :: uu 18 :: (.pointer (some ⟨ri, 0, none⟩)) :: uu 20 :: uu 21 :: uu 22 :: uu 23 :: uu 24 :: uu 25 :: uu 26 :: uu 27 :: uu 28 :: uu 29 :: uu 30 :: uu 31 :: uu 32 :: uu 33 :: uu 34 :: uu 35 :: uu 36 :: uu 37 :: uu 38 :: uu 39 :: uu 40 :: uu 41 :: uu 42 :: uu 43 :: []) [Wk.row 9 1 pn done.length cn (encL (done.map (·.1))), mpi b ri (kvM km) done] [EntsF km, LsF p 0 xs]) (fun k => (kvM km).length - k) 0 ?_ ?_
    · exact ⟨[], none, 0, rfl, Nat.zero_le _, S.uu, S⟩
    · clear S
      rintro _ a w ⟨done, pn, cn, rfl, hdl, uu, S⟩
      have hkl : (kvM km).length = km.length := by simp [kvM]
      refine c_seq ?_
      refine c_region ?_
      refine snx S ?_; clear S; intro more k v a w hfin hmore S
      refine sq S ?_; clear S; intro a S
      refine wl_nil ?_
      refine xtn ?_
      refine c_seq ?_
      refine c_cond S (fun h8 => ?_) (fun h8 => ?_)
      · refine c_skip ?_
        refine xtn ?_
        refine c_block ?_
        refine c_seq ?_
        subst h8
        obtain ⟨hkv, hlen2⟩ := hmore rfl
        rw [cond_true] at S
        refine c_region ?_
        iterate 3 (refine sq S ?_; clear S; intro a S)
        refine wl_nil ?_
        refine xtn ?_
        refine c_region ?_
        iterate 2 (refine sq S ?_; clear S; intro a S)
        refine sn S ?_; clear S; intro b26 a w S
        refine sap S (by simp [maxLen]; omega) (by omega) ?_; clear S; rintro p3 c3 a w - S
        rw [show encL (done.map (·.1)) ++ [str k] = encL ((done ++ [(k, v)]).map (·.1)) from by rw [List.map_append, encL_append]; rfl, show done.length + 1 = (done ++ [(k, v)]).length from by simp] at S
        refine sq S ?_; clear S; intro a S
        refine wl_nil ?_
        refine xbn ?_
        refine xtn ?_
        exact ⟨done.length + 1, ⟨done ++ [(k, v)], p3, c3, by simp, by simp; omega, S.uu, S.sub _ _⟩, by omega⟩
      · refine c_exit ?_
        iterate 2 (refine xte ?_)
        refine xbe ?_
        refine xtn ?_
        refine c_seq ?_
        subst h8
        rw [cond_false] at S
        have hperm := hfin rfl
        obtain ⟨ns, hns⟩ : ∃ ns, ns = done.map (·.1) := ⟨_, rfl⟩
        have hnl : done.length = ns.length := by rw [hns, List.length_map]
        have hnp : ns.Perm (km.map (·.1)) := by rw [hns, ← kvM_fst]; exact hperm.map _
        have hnk : ns.length = km.length := by rw [hnp.length_eq, List.length_map]
        rw [← hns, hnl] at S
        refine c_region ?_
        refine sq S ?_; clear S; intro a S
        refine srg pn ns.length S (hsort ns pn cn w (by omega) (S.row pn ns.length)) ?_; clear S; rintro _ a w ⟨rfl, ns', hp', hown⟩ hS
        have S := hS _ hown (fun ad h => .inl ⟨ad, h, rfl⟩)
        clear hS hown
        refine wl_nil ?_
        refine xtn ?_
        iterate 2 (refine c_seq ?_)
        refine c_region ?_
        iterate 3 (refine sq S ?_; clear S; intro a S)
        refine wl_nil ?_
        refine xtn ?_
        refine c_block ?_
        have hl' := hp'.length_eq
        replace S := S.addNil 37 5
        refine c_loop (ι := Nat) (fun i a w => ∃ po co, i ≤ ns.length ∧ ∃ uu : Nat → Value,  St w0 (fun _ => False) [] a w ((.slice p xs.length c) :: uu 1 :: (.slice none 0 0) :: uu 3 :: uu 4 :: (.map (some b)) :: (.slice po i co) :: (.slice pn ns.length cn) :: uu 8 :: uu 9 :: uu 10 :: uu 11 :: uu 12 :: uu 13 :: uu 14 :: uu 15 :: uu 16 :: uu 17 :: uu 18 :: uu 19 :: uu 20 :: uu 21 :: uu 22 :: uu 23 :: uu 24 :: uu 25 :: uu 26 :: uu 27 :: uu 28 :: uu 29 :: (.slice pn ns.length cn) :: (.int .i64 ns.length) :: (.int .i64 (i : Nat)) :: uu 33 :: uu 34 :: uu 35 :: uu 36 :: uu 37 :: uu 38 :: uu 39 :: uu 40 :: uu 41 :: uu 42 :: uu 43 :: []) [Wk.row 37 5 po i co (encL ((ns'.take i).map fun k => (tget k km).getD zeroL)), Wk.row 9 1 pn ns.length cn (encL ns'), mpi b ri (kvM km) done] [EntsF km, LsF p 0 xs]) (fun i => ns.length - i) 0 ?_ ?_
        · exact ⟨none, 0, Nat.zero_le _, S.uu, S⟩
        · clear S
          rintro i a w ⟨po, co, hi, uu, S⟩
          refine c_seq ?_
          refine c_region ?_
          refine sq S ?_; clear S; intro a S
          refine wl_nil ?_
          refine xtn ?_
          refine c_seq ?_
          refine c_cond S (fun h13 => ?_) (fun h13 => ?_)
          · refine c_skip ?_
            refine xtn ?_
            refine c_seq ?_
            refine c_block ?_
            refine c_seq ?_
            have hil : i < ns.length := by simp at h13; omega
            have hKL : KLt i ns.length := ⟨hil⟩
            obtain ⟨kk, hkk⟩ : ∃ kk, ns'[i]? = some kk := ⟨_, List.getElem?_eq_getElem (by omega)⟩
            refine c_region ?_
            refine sq S ?_; clear S; intro a S
            refine slr1 (str kk) S ns.length (by have := encL_get ns' i kk hkk 0 (Nat.zero_lt_one); simpa [Enc.sz, Enc.cells] using this) ?_; clear S; intro a S
            refine sq S ?_; clear S; intro a S
            refine wl_nil ?_
            refine xtn ?_
            refine c_region ?_
            iterate 4 (refine sq S ?_; clear S; intro a S)
            rw [kvM_getD] at S
            refine sn S ?_; clear S; intro b40 a w S
            refine sap S (by simp [maxLen]; omega) (by omega) ?_; clear S; rintro p4 c4 a w - S
            have e1 : encL ((ns'.take i).map fun k => (tget k km).getD zeroL) ++ ((tget kk km).getD zeroL).cells = encL ((ns'.take (i + 1)).map fun k => (tget k km).getD zeroL) := by
              rw [List.take_add_one, hkk, List.map_append, encL_append]; simp [encT_cells]
            rw [show encL ((ns'.take i).map fun k => (tget k km).getD zeroL) ++ [Value.int .i64 ((tget kk km).getD zeroL).kind, Value.int .i64 ((tget kk km).getD zeroL).user, Value.int .i64 ((tget kk km).getD zeroL).num, str ((tget kk km).getD zeroL).text, Value.slice ((tget kk km).getD zeroL).p ((tget kk km).getD zeroL).kids.length ((tget kk km).getD zeroL).cap] = _ from e1] at S
            refine sq S ?_; clear S; intro a S
            refine wl_nil ?_
            refine xbn ?_
            refine xtn ?_
            refine c_region ?_
            iterate 2 (refine sq S ?_; clear S; intro a S)
            refine wl_nil ?_
            refine xtn ?_
            rw [w64 ((i : Int) + 1) (by omega) (by omega)] at S
            exact ⟨i + 1, ⟨p4, c4, hil, S.uu, S.sub _ _⟩, by omega⟩
          · refine c_exit ?_
            iterate 2 (refine xte ?_)
            refine xbe ?_
            refine xtn ?_
            refine c_seq ?_
            refine c_region ?_
            iterate 3 (refine sq S ?_; clear S; intro a S)
            refine wl_nil ?_
            refine xtn ?_
            refine c_ret ?_
            have hi2 : i = ns.length := by simp at h13; omega
            subst hi2
            rw [List.take_of_length_le (by omega)] at S
            have hrow := S.row po ns.length
            have hnew := S.rowNew po ns.length
            have hent := S.rowFact po ns.length (Φ := EntsF km) (by simp)
            have hls : (ns'.map fun k => (tget k km).getD zeroL).Perm (km.map (·.2)) := by
              rw [← tget_nodup hA.nd]
              have := (hp'.trans hnp).map fun k => (tget k km).getD zeroL
              rw [List.map_map] at this
              exact this
            have hlen3 : (ns'.map fun k => (tget k km).getD zeroL).length = ns.length := by rw [List.length_map]; exact hl'
            refine end2 S (fun _ => ?_)
            refine ⟨po, co, ns'.map fun k => (tget k km).getD zeroL, by rw [hlen3, h2'], by rw [hlen3]; exact hrow, fun ad h => (hnew ad h).elim (fun h => h.elim) id, fun x hx' => ?_, fun h => absurd h2' h, fun _ => ⟨km, hA, fun e he => (hE e he).2, hls⟩, by rw [hls.length_eq, List.length_map]; exact hkn⟩
            obtain ⟨e, he, rfl⟩ := List.mem_map.1 (hls.mem_iff.1 hx')
            exact hent.imp fun w h => h e he
end Go.Proofs.Ytajmjbboahmdkaa
