/- Package cap: Make, whole. -/
import Derived.Test.YtgielmldblopeaaPlainCap
namespace Go.Proofs.Ytgielmldblopeaa
open Go Go.Wk
set_option synthInstance.maxSize 100000
set_option synthInstance.maxHeartbeats 400000
set_option maxRecDepth 100000

def keyT (keys : List LKey) (g : Int) : Term := (findG (fun k => decide (k.group = g)) keys).1.key.t
def uBox (s : Term) (n : Int) : Term := rowT (rowS [117] n) (sealT n s)
def gBox (s : Term) (kt : Int → Term) (g : Int) : Term := rowT (rowS [103] g) (lockT (kt g) s)
def boxesT (us gs : List Int) (s : Term) (kt : Int → Term) : List Term := us.map (uBox s) ++ gs.map (gBox s kt)
def MakeR (M : Nat → Prop) (p : LPerm) (s : Term) (keys : List LKey) (v : Value) (w : World) : Prop :=
  (permB p = false ∧ v = .tuple ⟨[vL zeroL, .int .i64 210]⟩) ∨ (permB p = true ∧ ∃ (us : List Int) (r : LTerm), us.Perm (p.owner :: p.rd.xs) ∧ us.Pairwise (· < ·) ∧ v = .tuple ⟨[vL r, .int .i64 0]⟩ ∧ r.t = listT (boxesT us p.gr.xs s (keyT keys)) ∧ Good r.t ∧ Stable M w (LtF r))
def SmallT (t : Term) : Prop := Good t ∧ cnt t ≤ 3 ∧ dpt t ≤ 3
theorem uBox_ok {s : Term} {n : Int} (hs : SmallT s) (hn : 1 ≤ n ∧ n ≤ 6) : Good (uBox s n) ∧ cnt (uBox s n) ≤ 20 ∧ dpt (uBox s n) ≤ 20 := by
  obtain ⟨h1, h2, h3⟩ := hs
  have e1 : cnt (sealT n s) = 1 + cnt s := by simp [sealT, cnt, cntL]
  have e2 : dpt (sealT n s) = 1 + dpt s := by simp [sealT, dpt, dptL]
  have e3 : ∀ x, cnt (textT x) = 1 := fun x => by simp [textT, cnt, cntL]
  have e4 : ∀ x, dpt (textT x) = 1 := fun x => by simp [textT, dpt, dptL]
  rw [uBox, rowT, cnt_pair, dpt_pair, e1, e2, e3, e4]
  exact ⟨good_pair (good_text (by simp [rowS])) (good_seal hn h1 (by omega) (by omega)) (by rw [e1, e3]; omega) (by rw [e4]; omega) (by rw [e2]; omega), by omega, by omega⟩
theorem gBox_ok {s : Term} {kt : Int → Term} {g : Int} (hs : SmallT s) (hk : SmallT (kt g)) : Good (gBox s kt g) ∧ cnt (gBox s kt g) ≤ 20 ∧ dpt (gBox s kt g) ≤ 20 := by
  obtain ⟨h1, h2, h3⟩ := hs
  obtain ⟨k1, k2, k3⟩ := hk
  have e1 : cnt (lockT (kt g) s) = 1 + (cnt (kt g) + cnt s) := by simp [lockT, cnt, cntL]
  have e2 : dpt (lockT (kt g) s) = 1 + max (dpt (kt g)) (dpt s) := by simp [lockT, dpt, dptL]
  have e3 : ∀ x, cnt (textT x) = 1 := fun x => by simp [textT, cnt, cntL]
  have e4 : ∀ x, dpt (textT x) = 1 := fun x => by simp [textT, dpt, dptL]
  rw [gBox, rowT, cnt_pair, dpt_pair, e1, e2, e3, e4]
  exact ⟨good_pair (good_text (by simp [rowS])) (good_lock k1 h1 (by omega) (by omega) (by omega)) (by rw [e1, e3]; omega) (by rw [e4]; omega) (by rw [e2]; omega), by omega, by omega⟩
theorem make_c (p : LPerm) (st : LTerm) (keys : List LKey) (kp : Option Addr) (kc : Nat) (M : Nat → Prop) (w0 : World) (hM : ∀ k, M k → k < w0.heap.size) (hp : Stable M w0 (InF p)) (hst : Stable M w0 (LtF st)) (hk : Stable M w0 (GlF kp keys)) (hkl : keys.length ≤ 1000)
    (hs : SmallT st.t) (hgk : ∀ k ∈ keys, SmallT k.key.t) (hg : ∀ g ∈ p.gr.xs, 1 ≤ g → g ≤ 3 → ∃ k ∈ keys, k.group = g) :
    Ret Try.prog 27 [vPerm p, vL st, .slice kp keys.length kc] w0 (fun _ => False) (MakeR M p st.t keys) := by
  have hfind : ∀ g ∈ p.gr.xs, 1 ≤ g → g ≤ 3 → ∃ k ∈ keys, findG (fun k => decide (k.group = g)) keys = (k, true) := fun g h1 h2 h3 => by
    obtain ⟨k, hk, hkg⟩ := hg g h1 h2 h3
    unfold findG
    cases h : keys.find? fun k => decide (k.group = g) with
    | some x => exact ⟨x, List.mem_of_find?_eq_some h, rfl⟩
    | none => have := List.find?_eq_none.1 h k hk; simp [hkg] at this
  have hany : (keys.any fun k => !decide (checkF k.key.t = 0)) = false := by
    rw [List.any_eq_false]
    intro k hk
    simp [good_check.2 (hgk k hk).1]
  have hu1 : LeC ([117] : List UInt8).length 1000 := ⟨by decide⟩
  have hg1 : LeC ([103] : List UInt8).length 1000 := ⟨by decide⟩
  refine enter Try.func27 rfl rfl (Wd.beginM (M := M) (fs := [InF p, LtF st, GlF kp keys]) hM (by simp; exact ⟨hp, hst, hk⟩)) (fun a S => ?_)
  simp only [Try.ntmps27, List.length_cons, List.length_nil, Nat.reduceAdd, Nat.reduceSub, List.replicate_succ, List.replicate_zero, List.cons_append, List.nil_append] at S
  refine c_seq ?_
  refine c_region ?_
  refine sa S ?_; clear S; intro b3 a w S
  refine sa S ?_; clear S; intro b4 a w S
  refine sa S ?_; clear S; intro b6 a w S
  refine sq S ?_; clear S; intro a S
  refine wl_nil ?_
  refine xtn ?_
  iterate 2 (refine c_seq ?_)
  refine c_region ?_
  refine sq S ?_; clear S; intro a S
  refine sc S ?_; clear S; intro a w S
  refine sq S ?_; clear S; intro a S
  refine wl_nil ?_
  refine xtn ?_
  refine c_seq ?_
  refine c_region ?_
  iterate 2 (refine sq S ?_; clear S; intro a S)
  refine wl_nil ?_
  refine xtn ?_
  refine c_cond S (fun h2 => ?_) (fun h2 => ?_)
  · refine c_seq ?_
    refine c_region ?_
    iterate 2 (refine sq S ?_; clear S; intro a S)
    refine sw S ?_; clear S; intro a w S
    refine sq S ?_; clear S; intro a S
    refine wl_nil ?_
    refine xtn ?_
    refine c_ret ?_
    refine xtr ?_
    have e : permB p = false := by
      cases h : permB p with
      | false => rfl
      | true => simp [permF, h] at h2
    refine end2 S (fun _ => .inl ⟨e, ?_⟩)
    rw [permF, e]; rfl
  · refine c_skip ?_
    refine xtn ?_
    iterate 2 (refine c_seq ?_)
    have hP : permB p = true := by
      cases h : permB p with
      | true => rfl
      | false => simp [permF, h] at h2
    have hO := permOk hP
    have hrl : (p.rd.xs.length : Int) ≤ max 0 (6 - 1 + 1) := rising_len hO.rd hO.rdU
    have hgl : (p.gr.xs.length : Int) ≤ max 0 (3 - 1 + 1) := rising_len hO.gr hO.grU
    refine c_region ?_
    refine sq S ?_; clear S; intro a S
    refine sc S ?_; clear S; intro a w S
    rw [good_check.2 hs.1] at S
    refine sq S ?_; clear S; intro a S
    rw [show (!decide ((0 : Int) = 0)) = false from rfl] at S
    refine sq S ?_; clear S; intro a S
    refine gT' S ?_
    refine sq S ?_; clear S; intro a S
    refine gT' S ?_
    refine sr S (containsKey_c 54 [] (fun k => !decide (checkF k.key.t = 0)) keys kp keys.length kc _ rfl (by omega) (S.gl0 kp) fun x hx w' hw' => make1_c x w' ?_) ?_
    · exact ((S.gl0 kp (xs := keys)).imp fun _ h => h.2 x hx).later hw'
    clear S; rintro _ a w rfl S
    rw [hany] at S
    refine sq S ?_; clear S; intro a S
    refine wl_nil ?_
    refine xtn ?_
    refine c_condF S ?_
    refine c_skip ?_
    refine xtn ?_
    refine c_seq ?_
    refine c_region ?_
    refine sa S ?_; clear S; intro b9 a w S
    refine wl_nil ?_
    refine xtn ?_
    refine c_seq ?_
    refine c_region ?_
    iterate 2 (refine sq S ?_; clear S; intro a S)
    refine wl_nil ?_
    refine xtn ?_
    refine c_seq ?_
    refine c_region ?_
    iterate 2 (refine sq S ?_; clear S; intro a S)
    refine sn S ?_; clear S; intro b36 a w S
    iterate 2 (refine sq S ?_; clear S; intro a S)
    replace S := S.boxRow b36 1 1 rfl (by simp [maxLen])
    refine sap S (by simp [maxLen]; omega) (by omega) ?_; clear S; rintro p8 c8 a w - S
    rw [show [Value.int .i64 p.owner] ++ encL p.rd.xs = encL (p.owner :: p.rd.xs) from rfl, show 1 + p.rd.xs.length = (p.owner :: p.rd.xs).length from by simp; omega] at S
    refine sq S ?_; clear S; intro a S
    refine wl_nil ?_
    refine xtn ?_
    refine c_seq ?_
    refine c_region ?_
    refine sq S ?_; clear S; intro a S
    refine sit (Wk.row 3 1 p8 (p.owner :: p.rd.xs).length c8 (encL (p.owner :: p.rd.xs))) S (sortI_c (p.owner :: p.rd.xs) p8 c8 w (by simp) (by simp; omega) (S.row p8 _)) rfl ?_; clear S; rintro _ a w ⟨rfl, us, hperm, hsort, hown⟩ hS
    have S := hS (Wk.row 3 1 p8 (p.owner :: p.rd.xs).length c8 (encL us)) hown (fun k hk => .inl hk)
    clear hS
    have hul : us.length = (p.owner :: p.rd.xs).length := hperm.length_eq
    replace S := S.rowToGl (e := 3) (sz := 1) (n := (p.owner :: p.rd.xs).length) (c := c8) p8 us (fun _ _ _ _ => trivial)
    rw [← hul] at S
    replace S := S.boxToF b3
    replace S := S.boxToF b4
    refine wl_nil ?_
    refine xtn ?_
    iterate 2 (refine c_seq ?_)
    have huU : ∀ n ∈ us, 1 ≤ n ∧ n ≤ 6 := fun n hn => by
      rcases List.mem_cons.1 (hperm.mem_iff.1 hn) with rfl | h
      · exact hO.owner
      · exact hO.rdU n h
    have hul6 : us.length ≤ 7 := by rw [hul]; simp; omega
    refine c_region ?_
    iterate 3 (refine sq S ?_; clear S; intro a S)
    refine wl_nil ?_
    refine xtn ?_
    refine c_block ?_
    replace S := (S.addNil 35 5).perm _ (List.Perm.swap _ _ _)
    replace S := S.toBoth
    refine c_fore4 S (fun (k : Nat) (os : List LTerm) (p' : Option Addr) (c' : Nat) uu => [(13, uu 13), (30, .int .i64 (k : Nat)), (0, uu 45), (0, uu 46), (0, uu 47), (0, uu 48), (0, uu 49), (0, uu 50), (0, uu 51), (0, uu 52), (0, uu 53), (0, uu 54), (0, uu 55)]) (fun (k : Nat) (os : List LTerm) (p' : Option Addr) (c' : Nat) => [lsI b9 p' c' os, Wk.box b6 35 zeroL.cells, ext M]) (fun (k : Nat) (os : List LTerm) (p' : Option Addr) (c' : Nat) => [AllI os, BoxF b4 35 st.cells, BoxF b3 56 (cPerm p), GlF p8 us, InF p, LtF st, GlF kp keys]) (fun (k : Nat) (os : List LTerm) (p' : Option Addr) (c' : Nat) => k ≤ us.length ∧ os.map LTerm.t = (us.take k).map (uBox st.t)) (fun (k : Nat) (os : List LTerm) (p' : Option Addr) (c' : Nat) => us.length - k) (0) ([]) (none) (0) ?_ S.uu ?_ ?_
    · exact ⟨Nat.zero_le _, rfl⟩
    · exact S.add (Φ := AllI (α := LTerm) []) AllI.nil
    · clear S; rintro k os p' c' uu a w ⟨hkk, hos⟩ S
      refine c_seq ?_
      refine c_region ?_
      refine sq S ?_; clear S; intro a S
      refine wl_nil ?_
      refine xtn ?_
      refine c_seq ?_
      refine c_cond S (fun h11 => ?_) (fun h11 => ?_)
      · refine c_skip ?_
        refine xtn ?_
        refine c_seq ?_
        refine c_block ?_
        refine c_seq ?_
        have hkl1 : k < us.length := by simp at h11; omega
        have hK : KLt k us.length := ⟨hkl1⟩
        have hD : Dig (nthG us k) := ⟨by have := huU _ (nthG_mem hkl1); omega, by have := huU _ (nthG_mem hkl1); omega⟩
        have hosl : os.length = k := by have := congrArg List.length hos; simpa [Nat.min_eq_left hkk] using this
        refine c_region ?_
        iterate 3 (refine sq S ?_; clear S; intro a S)
        refine wl_nil ?_
        refine xtn ?_
        refine c_drawE [(0, true), (1, true), (3, true), (4, true), (2, false), (5, false), (6, false)] [Wk.box b6 35 zeroL.cells, ext M] S ?_; clear S; intro w S
        iterate 4 (refine dq S ?_; clear S; intro a S)
        refine dl ?_
        refine sc S ?_; clear S; intro a w S
        refine de S ?_
        refine dl ?_
        refine sr S (seal_c (nthG us k) st _ w (foots_lt S) (S.t st)) ?_; clear S; rintro _ a w ⟨r0, rfl, hr0, hrf⟩ S
        replace S := S.add hrf
        refine de S ?_
        refine dl ?_
        have h1 := S.wd.facts (AllI os) (by simp)
        have h2 := S.t r0
        refine sitM (lsI b9 p' c' os) S (make2_c b9 os (rowS [117] (nthG us k)) r0 p' c' (restOf _ (lsI b9 p' c' os)) w (by omega) (S.it (lsI b9 p' c' os)) (S.restOk _) (h2.split (lsI b9 p' c' os)) (h1.split (lsI b9 p' c' os))) rfl ?_
        clear S h1 h2; rintro _ a w ⟨rfl, p2, c2, r, hr, hh, hft, hfa⟩ hS
        have S := hS (lsI b9 p2 c2 (os ++ [r])) [AllI (os ++ [r])] hh hft (by simpa using hfa)
        clear hS
        refine de S ?_
        refine dn ?_
        refine xbn ?_
        refine xtn ?_
        refine c_region ?_
        iterate 2 (refine sq S ?_; clear S; intro a S)
        refine wl_nil ?_
        refine xtn ?_
        rw [w64 ((k : Int) + 1) (by omega) (by omega)] at S
        exact ⟨k + 1, os ++ [r], p2, c2, S.uu, ⟨hkl1, by rw [List.map_append, hos, nthG_take hkl1, List.map_append]; simp [hr, hr0, uBox]⟩, S.sub _ _, by omega⟩
      · refine c_exit ?_
        iterate 2 (refine xte ?_)
        refine xbe ?_
        refine xtn ?_
        iterate 2 (refine c_seq ?_)
        refine c_region ?_
        iterate 4 (refine sq S ?_; clear S; intro a S)
        refine wl_nil ?_
        refine xtn ?_
        refine c_block ?_
        have hos1 : os.map LTerm.t = us.map (uBox st.t) := by rw [List.take_of_length_le (by simp at h11; omega)] at hos; exact hos
        refine c_fore4 S (fun (k : Nat) (os2 : List LTerm) (q' : Option Addr) (d' : Nat) uu => [(7, uu 7), (7, uu 15), (0, uu 16), (0, uu 17), (41, .int .i64 (k : Nat)), (0, uu 60), (0, uu 61), (0, uu 62), (0, uu 63), (0, uu 64), (0, uu 65), (0, uu 66), (0, uu 67), (0, uu 68), (0, uu 69), (0, uu 70), (0, uu 71), (0, uu 72), (0, uu 73), (0, uu 74), (0, uu 75), (0, uu 76), (0, uu 77), (0, uu 78), (0, uu 79), (0, uu 80)]) (fun (k : Nat) (os2 : List LTerm) (q' : Option Addr) (d' : Nat) => [lsI b9 q' d' os2, Wk.box b6 35 zeroL.cells, ext M]) (fun (k : Nat) (os2 : List LTerm) (q' : Option Addr) (d' : Nat) => [AllI os2, BoxF b4 35 st.cells, BoxF b3 56 (cPerm p), GlF p8 us, InF p, LtF st, GlF kp keys]) (fun (k : Nat) (os2 : List LTerm) (q' : Option Addr) (d' : Nat) => k ≤ p.gr.xs.length ∧ os2.map LTerm.t = us.map (uBox st.t) ++ (p.gr.xs.take k).map (gBox st.t (keyT keys))) (fun (k : Nat) (os2 : List LTerm) (q' : Option Addr) (d' : Nat) => p.gr.xs.length - k) (0) (os) (p') (c') ?_ S.uu ?_ ?_
        · exact ⟨Nat.zero_le _, by simpa using hos1⟩
        · first | exact S | exact S.sub _ _
        · clear S; rintro k os2 q' d' uu a w ⟨hkk2, hos2⟩ S
          refine c_seq ?_
          refine c_region ?_
          refine sq S ?_; clear S; intro a S
          refine wl_nil ?_
          refine xtn ?_
          refine c_seq ?_
          refine c_cond S (fun h16 => ?_) (fun h16 => ?_)
          · refine c_skip ?_
            refine xtn ?_
            refine c_seq ?_
            refine c_block ?_
            refine c_seq ?_
            have hkl2 : k < p.gr.xs.length := by simp at h16; omega
            have hK2 : KLt k p.gr.xs.length := ⟨hkl2⟩
            have hgU := hO.grU _ (nthG_mem hkl2)
            have hD2 : Dig (nthG p.gr.xs k) := ⟨by omega, by omega⟩
            obtain ⟨kk, hkm, hkf⟩ := hfind _ (nthG_mem hkl2) hgU.1 hgU.2
            have hkT : keyT keys (nthG p.gr.xs k) = kk.key.t := by rw [keyT, hkf]
            have hos2l : os2.length ≤ 20 := by have := congrArg List.length hos2; simp at this; omega
            refine c_region ?_
            iterate 2 (refine sq S ?_; clear S; intro a S)
            refine sa S ?_; clear S; intro b15 a w S
            refine sw S ?_; clear S; intro a w S
            refine wl_nil ?_
            refine xtn ?_
            refine c_seq ?_
            refine c_region ?_
            iterate 2 (refine sq S ?_; clear S; intro a S)
            refine sr S (findKey_c 62 [.pointer (some ⟨b15, 0, none⟩)] (fun k' => decide (k'.group = nthG p.gr.xs k)) keys kp keys.length kc _ rfl (by omega) (S.gl0 kp) fun x hx w' hw' => make3_c b15 _ x w' ((BoxF.stable (S.boxF b15) (fun h => h)).later hw')) ?_
            clear S; rintro _ a w rfl S
            rw [hkf] at S
            replace S := S.add (Φ := InF kk) ((S.gl kp (xs := keys)).imp fun _ h => h.2 kk hkm)
            iterate 3 (refine sq S ?_; clear S; intro a S)
            refine sa S ?_; clear S; intro b16 a w S
            refine sw S ?_; clear S; intro a w S
            refine sq S ?_; clear S; intro a S
            refine wl_nil ?_
            refine xtn ?_
            iterate 2 (refine c_seq ?_)
            refine c_region ?_
            iterate 2 (refine sq S ?_; clear S; intro a S)
            rw [show (!true) = false from rfl] at S
            refine wl_nil ?_
            refine xtn ?_
            refine c_condF S ?_
            refine c_skip ?_
            refine xtn ?_
            refine c_drawE [(0, true), (1, true), (3, true), (4, true), (5, true), (2, false), (6, false), (7, false)] [Wk.box b16 68 (cKey kk), Wk.box b15 3 [.int .i64 (nthG p.gr.xs k)], Wk.box b6 35 zeroL.cells, ext M] S ?_; clear S; intro w S
            iterate 5 (refine dq S ?_; clear S; intro a S)
            refine dl ?_
            refine sc S ?_; clear S; intro a w S
            refine de S ?_
            refine dl ?_
            refine sr S (lock_c kk.key st _ w (foots_lt S) (S.t kk.key) (S.t st)) ?_; clear S; rintro _ a w ⟨r0, rfl, hr0, hrf⟩ S
            replace S := S.add hrf
            refine de S ?_
            refine dl ?_
            have h1 := S.wd.facts (AllI os2) (by simp)
            have h2 := S.t r0
            refine sitM (lsI b9 q' d' os2) S (make2_c b9 os2 (rowS [103] (nthG p.gr.xs k)) r0 q' d' (restOf _ (lsI b9 q' d' os2)) w (by omega) (S.it (lsI b9 q' d' os2)) (S.restOk _) (h2.split (lsI b9 q' d' os2)) (h1.split (lsI b9 q' d' os2))) rfl ?_
            clear S h1 h2; rintro _ a w ⟨rfl, p2, c2, r, hr, hh, hft, hfa⟩ hS
            have S := hS (lsI b9 p2 c2 (os2 ++ [r])) [AllI (os2 ++ [r])] hh hft (by simpa using hfa)
            clear hS
            refine de S ?_
            refine dn ?_
            refine xbn ?_
            refine xtn ?_
            refine c_region ?_
            iterate 2 (refine sq S ?_; clear S; intro a S)
            refine wl_nil ?_
            refine xtn ?_
            rw [w64 ((k : Int) + 1) (by omega) (by omega)] at S
            exact ⟨k + 1, os2 ++ [r], p2, c2, S.uu, ⟨hkl2, by rw [List.map_append, hos2, nthG_take hkl2, List.map_append, List.append_assoc]; simp [hr, hr0, gBox, hkT]⟩, S.sub _ _, by omega⟩
          · refine c_exit ?_
            iterate 2 (refine xte ?_)
            refine xbe ?_
            refine xtn ?_
            refine c_seq ?_
            rw [List.take_of_length_le (by simp at h16; omega)] at hos2
            have hos2l : os2.length ≤ 20 := by have := congrArg List.length hos2; simp at this; omega
            have hgood : Good (listT (os2.map LTerm.t)) := by
              rw [hos2]
              refine (listT_good _ (fun t ht => ?_) (by simp; omega)).1
              rcases List.mem_append.1 ht with ht | ht
              · obtain ⟨n, hn, rfl⟩ := List.mem_map.1 ht
                exact uBox_ok hs (huU n hn)
              · obtain ⟨g, hgm, rfl⟩ := List.mem_map.1 ht
                obtain ⟨kk, hkm, hkf⟩ := hfind g hgm (hO.grU g hgm).1 (hO.grU g hgm).2
                exact gBox_ok hs (by rw [keyT, hkf]; exact hgk kk hkm)
            replace S := S.ofBoth
            have hall := S.wd.facts (AllI os2) (by simp)
            replace S := S.rowToGl (e := 35) (sz := 5) (n := os2.length) (c := d') q' os2 hall
            refine c_region ?_
            refine sq S ?_; clear S; intro a S
            refine sr S (list_c os2 q' d' _ w (by omega) (foots_lt S) ((S.gl q' (xs := os2)).imp fun _ h => gl_ls h)) ?_; clear S; rintro _ a w ⟨r, rfl, hr, hrf⟩ S
            replace S := S.add hrf
            refine sa S ?_; clear S; intro b18 a w S
            refine sw S ?_; clear S; intro a w S
            refine wl_nil ?_
            refine xtn ?_
            iterate 2 (refine c_seq ?_)
            refine c_region ?_
            refine sq S ?_; clear S; intro a S
            refine sc S ?_; clear S; intro a w S
            rw [hr, good_check.2 hgood] at S
            refine sq S ?_; clear S; intro a S
            rw [show (!decide ((0 : Int) = 0)) = false from rfl] at S
            refine wl_nil ?_
            refine xtn ?_
            refine c_condF S ?_
            refine c_skip ?_
            refine xtn ?_
            refine c_seq ?_
            refine c_region ?_
            refine sq S ?_; clear S; intro a S
            refine sw S ?_; clear S; intro a w S
            refine sq S ?_; clear S; intro a S
            refine wl_nil ?_
            refine xtn ?_
            refine c_ret ?_
            have hlat := S.laterT (M := M) r
            refine end2 S (fun _ => .inr ⟨hP, us, r, hperm, ?_, rfl, by rw [hr, hos2]; rfl, by rw [hr]; exact hgood, hlat⟩)
            have hnd : us.Nodup := hperm.nodup_iff.2 (List.nodup_cons.2 ⟨hO.rdO, hO.rd.imp fun h => by omega⟩)
            exact (List.Pairwise.and hsort hnd).imp fun ⟨h1, h2⟩ => by omega
end Go.Proofs.Ytgielmldblopeaa
