/- 5: a part of this claim's texts, joined: ShaC VaultA VaultB VaultC VaultD VaultE VaultF W9 WalA WalB WalC WalD WalE WalF. -/
import Derived.Test.YtdakncgafdnjfaaGreatPe4
import Derived.ChangeKeysEq
import Derived.Laws.StructEq
namespace Go.Proofs.YtdakncgafdnjfaaGreat
open Go Go.Wk
set_option synthInstance.maxSize 100000
set_option synthInstance.maxHeartbeats 400000
set_option maxRecDepth 100000
def padF (bs : List UInt8) : List UInt8 := bs ++ [128] ++ List.replicate ((119 - bs.length % 64) % 64) 0 ++ be 8 (8 * (bs.length : Int))
theorem padF_len (bs : List UInt8) : (padF bs).length = bs.length + 1 + (119 - bs.length % 64) % 64 + 8 := by
  unfold padF; rw [List.length_append, List.length_append, List.length_append, be_len, List.length_replicate]; rfl
theorem pad_c (bs : List UInt8) (p : Option Addr) (n c : Nat) (w0 : World) (hn : bs.length = n) (hl : n ≤ 1000000) (hx : Stable (fun _ => False) w0 (SlF p (encL bs))) :
    Ret Tryz.prog 263 [.slice p n c] w0 (fun _ => False) fun r w' => ∃ g, r = .slice (some ⟨g, 0, none⟩) (padF bs).length (padF bs).length ∧ w0.heap.size ≤ g ∧ w'.ownsRow 0 5 1 (.slice (some ⟨g, 0, none⟩) (padF bs).length (padF bs).length) (padF bs).length (encL (padF bs)) := by
  have hln : LenN bs n := ⟨hn⟩
  have hpl := padF_len bs
  refine enter Tryz.func263 rfl rfl (Wd.begin (fs := [SlF p (encL bs)]) (by simpa using hx)) (fun a S => ?_)
  simp only [Tryz.ntmps263, List.length_cons, List.length_nil, Nat.reduceAdd, Nat.reduceSub, List.replicate_succ, List.replicate_zero, List.cons_append, List.nil_append] at S
  refine c_seq ?_
  refine c_region ?_
  refine sq S ?_; clear S; intro a S
  refine wl_nil ?_
  refine xtn ?_
  refine c_seq ?_
  refine c_region ?_
  iterate 5 (refine sq S ?_; clear S; intro a S)
  rw [w64 ((n : Int) + 72) (by omega) (by omega)] at S
  refine smkc n (n + 72) S rfl (by omega) (by omega) (by omega) (by simp only [maxLen]; omega) ?_; clear S; intro g a w S
  refine sq S ?_; clear S; intro a S
  refine wl_nil ?_
  refine xtn ?_
  refine c_seq ?_
  refine c_region ?_
  iterate 2 (refine sq S ?_; clear S; intro a S)
  refine scp S (by omega) ?_; clear S; intro a w S
  rw [show encL bs ++ (encL (List.replicate n (0 : UInt8))).drop (n * 1) = encL bs from by rw [List.drop_of_length_le (by rw [encL_len, List.length_replicate]; exact Nat.le_refl _), List.append_nil]] at S
  refine wl_nil ?_
  refine xtn ?_
  refine c_seq ?_
  refine c_region ?_
  refine sq S ?_; clear S; intro a S
  refine sn S ?_; clear S; intro b14 a w S
  refine sap S (by simp only [maxLen]; omega) (by omega) ?_; clear S; rintro p3 c3 a w - S
  rw [show encL bs ++ [.int .u8 128] = encL (bs ++ [128]) from by rw [encL_append]; rfl] at S
  refine sq S ?_; clear S; intro a S
  refine wl_nil ?_
  refine xtn ?_
  refine c_seq ?_
  refine c_region ?_
  iterate 4 (refine sq S ?_; clear S; intro a S)
  rw [show (n : Int).tmod 64 = ((n % 64 : Nat) : Int) from by rw [Int.tmod_eq_emod_of_nonneg (by omega)]; omega] at S
  refine sq S ?_; clear S; intro a S
  rw [show IntKind.i64.wrap (119 - ((n % 64 : Nat) : Int)) = ((119 - n % 64 : Nat) : Int) from by rw [w64 _ (by omega) (by omega)]; omega] at S
  refine sq S ?_; clear S; intro a S
  rw [show ((119 - n % 64 : Nat) : Int).tmod 64 = (((119 - n % 64) % 64 : Nat) : Int) from by rw [Int.tmod_eq_emod_of_nonneg (by omega)]; omega] at S
  refine sapz1 p3 (n + 1) (m := (119 - n % 64) % 64) S (by omega) (by simp only [maxLen]; omega) (by omega) ?_; clear S; intro p4 c4 a w S
  rw [← encL_append] at S
  refine sq S ?_; clear S; intro a S
  refine wl_nil ?_
  refine xtn ?_
  refine c_seq ?_
  refine c_region ?_
  iterate 4 (refine sq S ?_; clear S; intro a S)
  rw [wu64 (n : Int) (by omega) (by omega)] at S
  refine sq S ?_; clear S; intro a S
  rw [wu64 (8 * (n : Int)) (by omega) (by omega)] at S
  refine srn S (put64_c p4 (n + 1 + (119 - n % 64) % 64) c4 (bs ++ [128] ++ List.replicate ((119 - n % 64) % 64) 0) (8 * (n : Int)) _ (by rw [List.length_append, List.length_append, List.length_replicate, hn]; rfl) (by omega) (by omega) (by omega) ((own_sl (S.row p4 (n + 1 + (119 - n % 64) % 64))).stable (fun _ _ h => h))) ?_; clear S; rintro _ a w ⟨g2, rfl, hg2, hown⟩ hS -
  have S := hS hown (fun ad h => by cases h; exact hg2)
  clear hS
  have e1 : n + 1 + (119 - n % 64) % 64 + 8 = (padF bs).length := by rw [hpl, hn]
  have e2 : bs ++ [128] ++ List.replicate ((119 - n % 64) % 64) 0 ++ be 8 (8 * (n : Int)) = padF bs := by rw [padF, hn]
  rw [e1, e2] at S
  refine sq S ?_; clear S; intro a S
  refine wl_nil ?_
  refine xtn ?_
  refine c_ret ?_
  have hrow := S.row (some ⟨g2, 0, none⟩) (padF bs).length
  have hnew := S.rowNew (some ⟨g2, 0, none⟩) (padF bs).length
  refine end1 S (fun _ => ?_)
  exact ⟨g2, rfl, (hnew _ rfl).elim (fun h => h.elim) id, hrow⟩
def blocksF : Nat → List Int → List UInt8 → List Int
  | 0, h, _ => h
  | k + 1, h, xs => blocksF k (blockF h (xs.take 64)) (xs.drop 64)
def outF (h : List Int) (k : Nat) : List UInt8 := (List.range k).flatMap fun j => be 4 (nthI h j)
theorem outF_len (h : List Int) (k : Nat) : (outF h k).length = 4 * k := by
  induction k with
  | zero => rfl
  | succ k ih => rw [outF, List.range_succ, List.flatMap_append, List.length_append]; simp only [List.flatMap_cons, List.flatMap_nil, List.append_nil, be_len]; rw [show ((List.range k).flatMap fun j => be 4 (nthI h j)).length = 4 * k from ih]; omega
theorem outF_succ (h : List Int) (k : Nat) : outF h (k + 1) = outF h k ++ be 4 (nthI h k) := by
  rw [outF, List.range_succ, List.flatMap_append]; simp [outF]
def shaF (bs : List UInt8) : List UInt8 := outF (blocksF ((padF bs).length / 64) shaH (padF bs)) 8
theorem shaF_len (bs : List UInt8) : (shaF bs).length = 32 := outF_len _ 8
theorem wrap32 (x : Int) : 0 ≤ IntKind.u32.wrap x ∧ IntKind.u32.wrap x ≤ 4294967295 := by
  unfold IntKind.wrap
  simp only [IntKind.bits, IntKind.signed]
  constructor
  · simp; omega
  · simp; omega
theorem blockF_u32 (h : List Int) (bs : List UInt8) : ∀ x ∈ blockF h bs, 0 ≤ x ∧ x ≤ 4294967295 := fun x hx => by
  obtain ⟨i, -, rfl⟩ := List.mem_map.1 hx
  exact wrap32 _
theorem sum_c (bs : List UInt8) (p : Option Addr) (n c : Nat) (w0 : World) (hn : bs.length = n) (hl : n ≤ 1000000) (hx : Stable (fun _ => False) w0 (SlF p (encL bs))) :
    Ret Tryz.prog 240 [.slice p n c] w0 (fun _ => False) fun r _ => r = .agg ⟨encL (shaF bs)⟩ := by
  have hpl := padF_len bs
  have hp64 : (padF bs).length % 64 = 0 := by rw [hpl]; omega
  have hpm : (padF bs).length ≤ 1000200 := by rw [hpl]; omega
  refine enter Tryz.func240 rfl rfl (Wd.begin (fs := [SlF p (encL bs)]) (by simpa using hx)) (fun a S => ?_)
  simp only [Tryz.ntmps240, List.length_cons, List.length_nil, Nat.reduceAdd, Nat.reduceSub, List.replicate_succ, List.replicate_zero, List.cons_append, List.nil_append] at S
  refine c_seq ?_
  refine c_region ?_
  refine sa S ?_; clear S; intro b2 a w S
  refine wl_nil ?_
  refine xtn ?_
  refine c_seq ?_
  refine c_region ?_
  refine sr S (start_c _) ?_; clear S; rintro _ a w rfl S
  have hH8 : LenN shaH 8 := ⟨rfl⟩
  have hL0 : LenN (List.replicate 8 (0 : Int)) 8 := ⟨by simp⟩
  refine sa S ?_; clear S; intro b3 a w S
  rw [show ([.int .u32 0, .int .u32 0, .int .u32 0, .int .u32 0, .int .u32 0, .int .u32 0, .int .u32 0, .int .u32 0] : List Value) = u32s (List.replicate 8 0) from rfl] at S
  refine sw S ?_; clear S; intro a w S
  refine wl_nil ?_
  refine xtn ?_
  iterate 2 (refine c_seq ?_)
  refine c_region ?_
  refine sq S ?_; clear S; intro a S
  refine srn S (pad_c bs p n c _ hn hl ((S.fact (Φ := SlF p (encL bs)) (by simp)).less fun _ _ h => h.elim)) ?_; clear S; rintro _ a w ⟨g, rfl, hg, hown⟩ hS -
  have S := hS hown (fun ad h => by cases h; exact hg)
  clear hS
  replace S := S.rowToGl (some ⟨g, 0, none⟩) (padF bs) (e := 5) (sz := 1) (n := (padF bs).length) (c := (padF bs).length) (fun _ _ _ _ => trivial)
  refine sq S ?_; clear S; intro a S
  refine wl_nil ?_
  refine xtn ?_
  refine c_block ?_
  refine c_fore4 S (fun (h : List Int) (xs : List UInt8) (q : Option Addr) (e : Nat) uu => [(4, .slice q xs.length e), (5, uu 10), (0, uu 11), (0, uu 12), (0, uu 13), (0, uu 14), (0, uu 15), (0, uu 16), (0, uu 17), (0, uu 18), (0, uu 19)]) (fun (h : List Int) (xs : List UInt8) (q : Option Addr) (e : Nat) => [Wk.box b3 313 (u32s h), Wk.box b2 296 (encL (List.replicate 32 (0 : UInt8)))]) (fun (h : List Int) (xs : List UInt8) (q : Option Addr) (e : Nat) => [GlF q xs]) (fun (h : List Int) (xs : List UInt8) (q : Option Addr) (e : Nat) => h.length = 8 ∧ xs.length % 64 = 0 ∧ xs.length ≤ e ∧ (∀ x ∈ h, 0 ≤ x ∧ x ≤ 4294967295) ∧ blocksF (xs.length / 64) h xs = blocksF ((padF bs).length / 64) shaH (padF bs)) (fun (h : List Int) (xs : List UInt8) (q : Option Addr) (e : Nat) => xs.length) (shaH) (padF bs) (some ⟨g, 0, none⟩) ((padF bs).length) ?_ S.uu ?_ ?_
  · exact ⟨rfl, hp64, Nat.le_refl _, by decide, rfl⟩
  · exact S.sub _ _
  · clear S; rintro h xs q e uu a w ⟨hh8, hx64, hxe, hhu, hbl⟩ S
    iterate 2 (refine c_seq ?_)
    refine c_region ?_
    iterate 3 (refine sq S ?_; clear S; intro a S)
    refine wl_nil ?_
    refine xtn ?_
    refine c_cond S (fun h3 => ?_) (fun h3 => ?_)
    · refine c_skip ?_
      refine xtn ?_
      refine c_seq ?_
      refine c_block ?_
      have hx0 : 64 ≤ xs.length := by have := of_decide_eq_true h3; omega
      have hN8 : LenN h 8 := ⟨hh8⟩
      have hLe : LeC 64 xs.length := ⟨hx0⟩
      have hLe2 : LeC xs.length e := ⟨hxe⟩
      have hLe3 : LeC 64 e := ⟨by omega⟩
      obtain ⟨bl, hbl1⟩ : ∃ bl : Blk, bl.l = xs.take 64 := ⟨⟨xs.take 64, by rw [List.length_take]; omega⟩, rfl⟩
      obtain ⟨ad, rfl⟩ : ∃ ad, q = some ad := by
        cases q with
        | some ad => exact ⟨ad, rfl⟩
        | none =>
          have h1 := (S.mem.fact (GlF none xs)).now.1.1 rfl
          have h2 := congrArg List.length h1
          rw [encL_len] at h2
          have h3 : xs.length * 1 = 0 := h2
          omega
      have hN8b : LenN (blockF h (xs.take 64)) 8 := ⟨blockF_len _ _⟩
      replace S := S.add (Φ := BlkF ad bl) ((S.mem.fact (GlF (some ad) xs)).imp fun _ h j v hj => h.1.2 ad rfl j v (by
        rw [hbl1, show encL (xs.take 64) = (encL xs).take (64 * 1) from (encL_take xs 64).symm, List.getElem?_take] at hj
        split at hj
        · exact hj
        · cases hj))
      refine' c_drawT0 (.q 1 (.q 2 (.q 3 (.l 0 (.l 4 (.l 5 (.e))))))) [b3] S ?_ ?_
      rotate_left 3
      · intro w S
        iterate 3 (refine tq S ?_; clear S; intro a S)
        refine tl ?_
        refine sq S ?_; clear S; intro a S
        refine te S ?_
        refine tl ?_
        refine sr S (block_c h bl hh8 _) ?_; clear S; rintro _ a w rfl S
        rw [hbl1] at S
        refine te S ?_
        refine tl ?_
        refine sw S ?_; clear S; intro a w S
        refine te S ?_
        refine tn ?_
        exact S
      intro  a w S
      refine xbn ?_
      refine xtn ?_
      refine c_region ?_
      iterate 3 (refine sq S ?_; clear S; intro a S)
      refine wl_nil ?_
      refine xtn ?_
      replace S := S.add (Φ := GlF (if e = 64 then some ad else (some ad).map (·.add (64 * 1))) (xs.drop 64)) ((S.mem.fact (GlF (some ad) xs)).imp fun _ h => h.drop 64 hxe)
      rw [show xs.length - 64 = (xs.drop 64).length from List.length_drop.symm] at S
      refine ⟨blockF h (xs.take 64), xs.drop 64, (if e = 64 then some ad else (some ad).map (·.add (64 * 1))), e - 64, S.uu, ⟨blockF_len _ _, by rw [List.length_drop]; omega, by rw [List.length_drop]; omega, blockF_u32 _ _, ?_⟩, S.sub _ _, by rw [List.length_drop]; omega⟩
      rw [← hbl, List.length_drop, show xs.length / 64 = (xs.length - 64) / 64 + 1 from by omega, blocksF]
    · refine c_exit ?_
      iterate 2 (refine xte ?_)
      refine xbe ?_
      refine xtn ?_
      refine c_seq ?_
      have hx0 : xs.length = 0 := by have := of_decide_eq_false h3; omega
      have hhf : h = blocksF ((padF bs).length / 64) shaH (padF bs) := by rw [← hbl, hx0]; rfl
      have hN8 : LenN h 8 := ⟨hh8⟩
      replace S := S.addNil 5 1
      refine c_region ?_
      refine sq S ?_; clear S; intro a S
      refine wl_nil ?_
      refine xtn ?_
      iterate 2 (refine c_seq ?_)
      refine c_region ?_
      refine sq S ?_; clear S; intro a S
      refine wl_nil ?_
      refine xtn ?_
      refine c_block ?_
      refine c_fore4 S (fun (i : Nat) (out : List UInt8) (q2 : Option Addr) (e2 : Nat) uu => [(5, .slice q2 out.length e2), (0, uu 6), (13, .int .i64 (i : Nat)), (0, uu 21), (0, uu 22), (0, uu 23), (0, uu 24), (0, uu 25), (0, uu 26), (0, uu 27), (0, uu 28)]) (fun (i : Nat) (out : List UInt8) (q2 : Option Addr) (e2 : Nat) => [Wk.row 5 1 q2 out.length e2 (encL out), Wk.box b3 313 (u32s h), Wk.box b2 296 (encL (List.replicate 32 (0 : UInt8)))]) (fun (i : Nat) (out : List UInt8) (q2 : Option Addr) (e2 : Nat) => []) (fun (i : Nat) (out : List UInt8) (q2 : Option Addr) (e2 : Nat) => i ≤ 8 ∧ out = outF h i) (fun (i : Nat) (out : List UInt8) (q2 : Option Addr) (e2 : Nat) => 8 - i) (0) ([]) (none) (0) ?_ S.uu ?_ ?_
      · exact ⟨by omega, rfl⟩
      · exact S.sub [Wk.row 5 1 none 0 0 [], Wk.box b3 313 (u32s h), Wk.box b2 296 (encL (List.replicate 32 (0 : UInt8)))] []
      · clear S; rintro i out q2 e2 uu a w ⟨hi, hout⟩ S
        refine c_seq ?_
        refine c_region ?_
        refine sq S ?_; clear S; intro a S
        refine wl_nil ?_
        refine xtn ?_
        refine c_seq ?_
        refine c_cond S (fun h8 => ?_) (fun h8 => ?_)
        · refine c_skip ?_
          refine xtn ?_
          refine c_seq ?_
          refine c_block ?_
          refine c_seq ?_
          have hi8 : i < 8 := by simp at h8; omega
          have hKi : KLt i 8 := ⟨hi8⟩
          have hKi2 : KLt i h.length := ⟨by omega⟩
          have hol : out.length = 4 * i := by rw [hout, outF_len]
          have hui : 0 ≤ nthI h i ∧ nthI h i ≤ 4294967295 := by
            have h1 := nthI_get (ys := h) (k := i) (by omega)
            exact hhu _ (List.mem_of_getElem? h1)
          refine c_region ?_
          iterate 2 (refine sq S ?_; clear S; intro a S)
          refine wl_nil ?_
          refine xtn ?_
          refine c_region ?_
          iterate 4 (refine sq S ?_; clear S; intro a S)
          refine srn S (put32_c q2 out.length e2 out (nthI h i) _ rfl (by omega) hui.1 hui.2 ((own_sl (S.row q2 out.length)).stable (fun _ _ h => h))) ?_; clear S; rintro _ a w ⟨g2, rfl, hg2, hown⟩ hS -
          have S := hS hown (fun ad h => by cases h; exact hg2)
          clear hS
          rw [show out.length + 4 = (out ++ be 4 (nthI h i)).length from by rw [List.length_append, be_len]] at S
          refine sq S ?_; clear S; intro a S
          refine wl_nil ?_
          refine xbn ?_
          refine xtn ?_
          refine c_region ?_
          iterate 2 (refine sq S ?_; clear S; intro a S)
          refine wl_nil ?_
          refine xtn ?_
          rw [w64 ((i : Int) + 1) (by omega) (by omega)] at S
          exact ⟨i + 1, out ++ be 4 (nthI h i), some ⟨g2, 0, none⟩, (out ++ be 4 (nthI h i)).length, S.uu, ⟨by omega, by rw [outF_succ, hout]⟩, S.sub _ _, by omega⟩
        · refine c_exit ?_
          iterate 2 (refine xte ?_)
          refine xbe ?_
          refine xtn ?_
          refine c_seq ?_
          have hi8 : i = 8 := by simp at h8; omega
          have hol : out.length = 32 := by rw [hout, hi8, outF_len]
          have hLe : LeC 32 out.length := ⟨by omega⟩
          have hlen : LenIs (encL out) 32 := ⟨by rw [encL_len, hol]; rfl⟩
          have hsf : SetFront (encL (List.replicate 32 (0 : UInt8))) (encL out) (encL out) := ⟨by rw [encL_len, encL_len, hol]; exact Nat.le_refl _, by rw [List.drop_of_length_le (by rw [encL_len, encL_len, hol]; exact Nat.le_refl _), List.append_nil]⟩
          obtain ⟨g3, cur, hq2, -⟩ := own_cells (S.row q2 out.length) (show 0 < out.length by omega)
          subst hq2
          refine c_region ?_
          iterate 2 (refine sq S ?_; clear S; intro a S)
          refine slA (encL out) S (fun j v hj => ?_) ?_
          · have := own_cell (S.row (some ⟨g3, 0, none⟩) out.length) (o := 0) (j := j) (u := v) (by rw [Nat.zero_add]; exact hj)
            rw [rAddr, Option.getD_some, add_lit] at this
            exact this
          clear S; intro a S
          refine sw S ?_; clear S; intro a w S
          refine wl_nil ?_
          refine xtn ?_
          refine c_ret ?_
          refine end1 S (fun _ => ?_)
          rw [hout, hi8, hhf]; rfl
end Go.Proofs.YtdakncgafdnjfaaGreat
namespace Go.Proofs.YtdakncgafdnjfaaGreat
open Go Go.Wk
set_option synthInstance.maxSize 100000
set_option synthInstance.maxHeartbeats 400000
set_option maxRecDepth 100000
structure LRow where
  name : List UInt8
  term : LTerm
instance encRow : Enc LRow := ⟨6, fun r => str r.name :: r.term.cells, fun _ => rfl, fun x u hu => by
  rcases List.mem_cons.1 hu with rfl | hu
  · rfl
  · exact encT.one x.term u hu⟩
instance layRow : Lay LRow := { encRow with
  dflt := ⟨[], zeroL⟩
  inn := fun w r => LtIn w r.term
  mono := fun w w' x h hx => LtIn.mono h x.term hx }
instance : SzE LRow 6 := ⟨rfl, by decide⟩
instance {r : LRow} : CellsOf r [str r.name, .int .i64 r.term.kind, .int .i64 r.term.user, .int .i64 r.term.num, str r.term.text, .slice r.term.p r.term.kids.length r.term.cap] := ⟨rfl⟩
def LRow.r (x : LRow) : PRow := ⟨x.name, x.term.t⟩
abbrev vRow (r : LRow) : Value := .agg ⟨[str r.name, .int .i64 r.term.kind, .int .i64 r.term.user, .int .i64 r.term.num, str r.term.text, .slice r.term.p r.term.kids.length r.term.cap]⟩
instance (priority := 850) hast_row {fs : List (World → Prop)} {r : LRow} [h : HasI fs r] : HasT fs r.term := ⟨fun M w hf => h.of M w hf⟩
theorem indexRow_c (F : Nat) [EntF Tryz.prog F] (ca : List Value) (q : LRow → Bool) (xs : List LRow) (p : Option Addr) (n c : Nat) (w0 : World) (hn : xs.length = n) (hl : n ≤ 9223372036854775807) (hx : Stable (fun _ => False) w0 (GlF p xs))
    (hF : ∀ x ∈ xs, ∀ w, Agree (fun _ => False) w0 w → Ret Tryz.prog F (vRow x :: ca) w (fun _ => False) fun v _ => v = .bool (q x)) :
    Ret Tryz.prog 184 [.slice p n c, .func (.func F) #[] ⟨ca⟩] w0 (fun _ => False) fun v _ => v = .int .i64 (idxG q xs 0) := by
  refine enter Tryz.func184 rfl rfl (Wd.begin (fs := [GlF p xs]) (by simpa using hx)) (fun a S => ?_)
  simp only [Tryz.ntmps184, List.length_cons, List.length_nil, Nat.reduceAdd, Nat.reduceSub, List.replicate_succ, List.replicate_zero, List.cons_append, List.nil_append] at S
  refine c_seq ?_
  refine c_region ?_
  refine sq S ?_; clear S; intro a S
  refine wl_nil ?_
  refine xtn ?_
  iterate 2 (refine c_seq ?_)
  refine c_region ?_
  iterate 3 (refine sq S ?_; clear S; intro a S)
  refine wl_nil ?_
  refine xtn ?_
  refine c_block ?_
  refine c_forb1 S (fun (k : Nat) uu => [(4, uu 4), (0, uu 5), (2, .int .i64 (k : Nat)), (0, uu 9), (0, uu 10), (0, uu 11), (0, uu 12), (0, uu 13), (0, uu 14), (0, uu 15), (0, uu 16), (0, uu 17), (0, uu 18)]) (fun (k : Nat) => k ≤ n ∧ idxG q (xs.drop k) k = idxG q xs 0) (fun (k : Nat) => n - k) (0) ?_ S.uu ?_ ?_
  · exact ⟨Nat.zero_le _, rfl⟩
  · first | exact S | exact S.sub _ _
  · clear S; rintro k uu a w ⟨hk, hrel⟩ S
    refine c_seq ?_
    refine c_region ?_
    refine sq S ?_; clear S; intro a S
    refine wl_nil ?_
    refine xtn ?_
    refine c_seq ?_
    refine c_cond S (fun h2 => ?_) (fun h2 => ?_)
    · refine c_skip ?_
      refine xtn ?_
      refine c_seq ?_
      refine c_block ?_
      refine c_seq ?_
      refine c_region ?_
      iterate 2 (refine sq S ?_; clear S; intro a S)
      refine wl_nil ?_
      refine xtn ?_
      refine c_seq ?_
      have hkl : k < n := by simp at h2; omega
      have hK : KLt k n := ⟨hkl⟩
      have hK2 : KLt k xs.length := ⟨by omega⟩
      rw [nthG_drop (show k < xs.length by omega), idxG] at hrel
      refine c_region ?_
      iterate 5 (refine sq S ?_; clear S; intro a S)
      refine sr S (hF (nthG xs k) (nthG_mem (by omega)) w S.wd.agree) ?_; clear S; rintro _ a w rfl S
      refine wl_nil ?_
      refine xtn ?_
      refine c_cond S (fun h4 => ?_) (fun h4 => ?_)
      · refine c_seq ?_
        refine c_region ?_
        iterate 2 (refine sq S ?_; clear S; intro a S)
        refine wl_nil ?_
        refine xtn ?_
        refine c_ret ?_
        refine xbr ?_
        iterate 2 (refine xtr ?_)
        refine xbr ?_
        refine xtr ?_
        rw [if_pos h4] at hrel
        refine end1 S (fun _ => ?_)
        rw [hrel]
      · refine c_skip ?_
        refine xbn ?_
        refine xtn ?_
        refine c_region ?_
        iterate 2 (refine sq S ?_; clear S; intro a S)
        refine wl_nil ?_
        refine xtn ?_
        rw [if_neg (by simpa using h4)] at hrel
        rw [w64 ((k : Int) + 1) (by omega) (by omega)] at S
        exact ⟨k + 1, S.uu, ⟨hkl, by rw [← hrel]; rfl⟩, S.sub _ _, by omega⟩
    · refine c_exit ?_
      iterate 2 (refine xte ?_)
      refine xbe ?_
      refine xtn ?_
      refine c_seq ?_
      refine c_region ?_
      refine sq S ?_; clear S; intro a S
      refine wl_nil ?_
      refine xtn ?_
      refine c_ret ?_
      rw [List.drop_of_length_le (by simp at h2; omega)] at hrel
      refine end1 S (fun _ => ?_)
      rw [← hrel]; rfl
theorem containsRow_c (F : Nat) [EntF Tryz.prog F] (ca : List Value) (q : LRow → Bool) (xs : List LRow) (p : Option Addr) (n c : Nat) (w0 : World) (hn : xs.length = n) (hl : n ≤ 9223372036854775807) (hx : Stable (fun _ => False) w0 (GlF p xs))
    (hF : ∀ x ∈ xs, ∀ w, Agree (fun _ => False) w0 w → Ret Tryz.prog F (vRow x :: ca) w (fun _ => False) fun v _ => v = .bool (q x)) :
    Ret Tryz.prog 90 [.slice p n c, .func (.func F) #[] ⟨ca⟩] w0 (fun _ => False) fun v _ => v = .bool (xs.any q) := by
  refine enter Tryz.func90 rfl rfl (Wd.begin (fs := [GlF p xs]) (by simpa using hx)) (fun a S => ?_)
  simp only [Tryz.ntmps90, List.length_cons, List.length_nil, Nat.reduceAdd, Nat.reduceSub, List.replicate_succ, List.replicate_zero, List.cons_append, List.nil_append] at S
  refine c_seq ?_
  refine c_region ?_
  refine sq S ?_; clear S; intro a S
  refine wl_nil ?_
  refine xtn ?_
  refine c_seq ?_
  refine c_region ?_
  iterate 2 (refine sq S ?_; clear S; intro a S)
  refine sr S (indexRow_c F ca q xs p n c _ hn hl (S.gl0 p) fun x hx w' hw' => hF x hx w' (S.wd.agree.trans hw')) ?_; clear S; rintro _ a w rfl S
  iterate 2 (refine sq S ?_; clear S; intro a S)
  refine wl_nil ?_
  refine xtn ?_
  refine c_ret ?_
  refine end1 S (fun _ => ?_)
  rw [idxG_any q xs 0 (by omega)]
theorem gone_c (r : LRow) (w0 : World) (hf : Stable (fun _ => False) w0 (LtF r.term)) : Ret Tryz.prog 92 [vRow r] w0 (fun _ => False) fun v _ => v = .bool (sameF r.term.t zeroT) := by
  refine enter Tryz.func92 rfl rfl (Wd.begin (fs := [LtF r.term]) (by simpa using hf)) (fun a S => ?_)
  simp only [Tryz.ntmps92, List.length_cons, List.length_nil, Nat.reduceAdd, Nat.reduceSub, List.replicate_succ, List.replicate_zero, List.cons_append, List.nil_append] at S
  refine c_seq ?_
  refine c_region ?_
  refine sa S ?_; clear S; intro b1 a w S
  refine sq S ?_; clear S; intro a S
  refine wl_nil ?_
  refine xtn ?_
  refine c_seq ?_
  refine c_region ?_
  iterate 3 (refine sq S ?_; clear S; intro a S)
  refine sr S (same_c r.term zeroL w (S.t0 _) (S.t0 _)) ?_; clear S; rintro _ a w rfl S
  refine sq S ?_; clear S; intro a S
  refine wl_nil ?_
  refine xtn ?_
  refine c_ret ?_
  refine end1 S (fun _ => rfl)
instance {r : LRow} {bs fs} [HasT fs r.term] : CallV Tryz.prog 92 [vRow r] bs fs (.bool (sameF r.term.t zeroT)) := ⟨fun w m => gone_c r w (m.t0 _)⟩
theorem charsP_cons (c : UInt8) (l : List UInt8) : charsP (c :: l) = (!(decide ((c.toNat : Int) < 33) || decide (126 < (c.toNat : Int))) && charsP l) := by
  unfold charsP
  rw [List.all_cons]
  congr 1
  by_cases h1 : (c.toNat : Int) < 33
  · have : ¬ 33 ≤ c.toNat := by omega
    simp [h1, this]
  · by_cases h2 : 126 < (c.toNat : Int)
    · have : ¬ c.toNat ≤ 126 := by omega
      simp [h2, this]
    · have h3 : 33 ≤ c.toNat := by omega
      have h4 : c.toNat ≤ 126 := by omega
      simp [h1, h2, h3, h4]
theorem rowRight_c (r : LRow) (w0 : World) (hl : r.name.length ≤ 9223372036854775807) (hf : Stable (fun _ => False) w0 (LtF r.term)) : Ret Tryz.prog 160 [vRow r] w0 (fun _ => False) fun v _ => v = .bool (rightP r.r) := by
  refine enter Tryz.func160 rfl rfl (Wd.begin (fs := [LtF r.term]) (by simpa using hf)) (fun a S => ?_)
  simp only [Tryz.ntmps160, List.length_cons, List.length_nil, Nat.reduceAdd, Nat.reduceSub, List.replicate_succ, List.replicate_zero, List.cons_append, List.nil_append] at S
  refine c_seq ?_
  refine c_region ?_
  refine sa S ?_; clear S; intro b1 a w S
  refine sq S ?_; clear S; intro a S
  refine wl_nil ?_
  refine xtn ?_
  iterate 2 (refine c_seq ?_)
  refine c_region ?_
  iterate 4 (refine sq S ?_; clear S; intro a S)
  refine wl_nil ?_
  refine xtn ?_
  refine c_block ?_
  refine c_forb1 S (fun (k : Nat) uu => [(2, uu 2), (0, uu 3), (5, .int .i64 (k : Nat)), (0, uu 10), (0, uu 11), (0, uu 12), (0, uu 13), (0, uu 14), (0, uu 15), (0, uu 16), (0, uu 17), (0, uu 18), (0, uu 19), (0, uu 20), (0, uu 21), (0, uu 22), (0, uu 23), (0, uu 24)]) (fun (k : Nat) => k ≤ r.name.length ∧ charsP (r.name.drop k) = charsP r.name) (fun (k : Nat) => r.name.length - k) (0) ?_ S.uu ?_ ?_
  · exact ⟨Nat.zero_le _, rfl⟩
  · first | exact S | exact S.sub _ _
  · clear S; rintro k uu a w ⟨hk, hrel⟩ S
    refine c_seq ?_
    refine c_region ?_
    refine sq S ?_; clear S; intro a S
    refine wl_nil ?_
    refine xtn ?_
    refine c_seq ?_
    refine c_cond S (fun h2 => ?_) (fun h2 => ?_)
    · refine c_skip ?_
      refine xtn ?_
      refine c_seq ?_
      refine c_block ?_
      refine c_seq ?_
      refine c_region ?_
      iterate 2 (refine sq S ?_; clear S; intro a S)
      refine wl_nil ?_
      refine xtn ?_
      refine c_seq ?_
      have hkl : k < r.name.length := by simp at h2; omega
      have hK : KLt k r.name.length := ⟨hkl⟩
      rw [nthG_drop hkl, charsP_cons] at hrel
      refine c_region ?_
      iterate 6 (refine sq S ?_; clear S; intro a S)
      iterate 5 (refine gQ S ?_; clear S; intro a S)
      refine sq S ?_; clear S; intro a S
      refine wl_nil ?_
      refine xtn ?_
      refine c_cond S (fun h4 => ?_) (fun h4 => ?_)
      · refine c_seq ?_
        refine c_region ?_
        refine sq S ?_; clear S; intro a S
        refine wl_nil ?_
        refine xtn ?_
        refine c_ret ?_
        refine xbr ?_
        iterate 2 (refine xtr ?_)
        refine xbr ?_
        refine xtr ?_
        refine end1 S (fun _ => ?_)
        rw [h4] at hrel
        rw [rightP, show r.r.name = r.name from rfl, ← hrel]; rfl
      · refine c_skip ?_
        refine xbn ?_
        refine xtn ?_
        refine c_region ?_
        iterate 2 (refine sq S ?_; clear S; intro a S)
        refine wl_nil ?_
        refine xtn ?_
        rw [w64 ((k : Int) + 1) (by omega) (by omega)] at S
        refine ⟨k + 1, S.uu, ⟨hkl, ?_⟩, S.sub _ _, by omega⟩
        rw [h4] at hrel
        exact hrel
    · refine c_exit ?_
      iterate 2 (refine xte ?_)
      refine xbe ?_
      refine xtn ?_
      refine c_seq ?_
      refine c_region ?_
      iterate 2 (refine sq S ?_; clear S; intro a S)
      refine srn S (encode_c r.term _ (S.t0 r.term)) ?_; clear S; rintro _ a w ⟨p, c, rfl, hown, hnew⟩ hS -
      have S := hS hown hnew
      clear hS
      iterate 5 (refine sq S ?_; clear S; intro a S)
      refine wl_nil ?_
      refine xtn ?_
      refine c_seq ?_
      refine c_region ?_
      iterate 5 (refine sq S ?_; clear S; intro a S)
      iterate 4 (refine gQ S ?_; clear S; intro a S)
      iterate 2 (refine sq S ?_; clear S; intro a S)
      refine gQ S ?_; clear S; intro a S
      refine gC S ?_; clear S; intro a w S
      iterate 9 (refine gQ S ?_; clear S; intro a S)
      iterate 2 (refine sq S ?_; clear S; intro a S)
      refine wl_nil ?_
      refine xtn ?_
      refine c_ret ?_
      have hk2 : r.name.length ≤ k := by simp at h2; omega
      rw [List.drop_of_length_le hk2] at hrel
      refine end1 S (fun _ => ?_)
      rw [rightP, show charsP r.r.name = true from hrel.symm, Bool.true_and, fitP]
      have e1 : ∀ a b : Nat, decide ((a : Int) ≤ (b : Int)) = decide (a ≤ b) := fun a b => by simp
      have e2 : decide ((1 : Int) ≤ (r.name.length : Int)) = decide (1 ≤ r.name.length) := e1 1 _
      have e3 : decide ((r.name.length : Int) ≤ 32) = decide (r.name.length ≤ 32) := e1 _ 32
      have e4 : decide (((nameF r.term.t).length : Int) ≤ 65535) = decide ((nameF r.term.t).length ≤ 65535) := e1 _ 65535
      rw [e2, e3, e4]; rfl
theorem batch1_c (x : LRow) (b : Nat) (r : LRow) (w0 : World) (hb : Stable (fun _ => False) w0 (BoxF b 45 (Enc.cells r))) : Ret Tryz.prog 161 [vRow x, .pointer (some ⟨b, 0, none⟩)] w0 (fun _ => False) fun v _ => v = .bool (decide (x.name = r.name)) := by
  refine enter Tryz.func161 rfl rfl (Wd.begin (fs := [BoxF b 45 [str r.name, .int .i64 r.term.kind, .int .i64 r.term.user, .int .i64 r.term.num, str r.term.text, .slice r.term.p r.term.kids.length r.term.cap]]) (fun Φ h => by obtain rfl := List.mem_singleton.1 h; exact hb)) (fun a S => ?_)
  simp only [Tryz.ntmps161, List.length_cons, List.length_nil, Nat.reduceAdd, Nat.reduceSub, List.replicate_succ, List.replicate_zero, List.cons_append, List.nil_append] at S
  refine c_seq ?_
  refine c_region ?_
  refine sa S ?_; clear S; intro b2 a w S
  refine sq S ?_; clear S; intro a S
  refine wl_nil ?_
  refine xtn ?_
  refine c_seq ?_
  refine c_region ?_
  iterate 6 (refine sq S ?_; clear S; intro a S)
  refine wl_nil ?_
  refine xtn ?_
  refine c_ret ?_
  exact end1 S (fun _ => rfl)
def rsP (xs : List LRow) : List PRow := xs.map LRow.r
theorem batch_c (xs : List LRow) (p : Option Addr) (n c : Nat) (w0 : World) (hn : xs.length = n) (hc : n ≤ c) (hl : ∀ x ∈ xs, x.name.length ≤ 9223372036854775807) (hll : n ≤ 9223372036854775807) (hx : Stable (fun _ => False) w0 (GlF p xs)) : Ret Tryz.prog 63 [.slice p n c] w0 (fun _ => False) fun v _ => v = .bool (batchP (rsP xs)) := by
  subst hn
  refine enter Tryz.func63 rfl rfl (Wd.begin (fs := [GlF p xs]) (by simpa using hx)) (fun a S => ?_)
  simp only [Tryz.ntmps63, List.length_cons, List.length_nil, Nat.reduceAdd, Nat.reduceSub, List.replicate_succ, List.replicate_zero, List.cons_append, List.nil_append] at S
  refine c_seq ?_
  refine c_region ?_
  refine sq S ?_; clear S; intro a S
  refine wl_nil ?_
  refine xtn ?_
  iterate 2 (refine c_seq ?_)
  refine c_region ?_
  iterate 3 (refine sq S ?_; clear S; intro a S)
  refine wl_nil ?_
  refine xtn ?_
  refine c_block ?_
  refine c_forb1 S (fun (k : Nat) uu => [(2, uu 2), (0, uu 3), (0, uu 4), (2, .int .i64 (k : Nat)), (0, uu 8), (0, uu 9), (0, uu 10), (0, uu 11), (0, uu 12), (0, uu 13), (0, uu 14), (0, uu 15), (0, uu 16), (0, uu 17), (0, uu 18), (0, uu 19), (0, uu 20), (0, uu 21), (0, uu 22)]) (fun (k : Nat) => k ≤ xs.length ∧ goodP (rsP (xs.take k)) (rsP (xs.drop k)) = goodP [] (rsP xs)) (fun (k : Nat) => xs.length - k) (0) ?_ S.uu ?_ ?_
  · exact ⟨Nat.zero_le _, rfl⟩
  · first | exact S | exact S.sub _ _
  · clear S; rintro k uu a w ⟨hk, hrel⟩ S
    refine c_seq ?_
    refine c_region ?_
    refine sq S ?_; clear S; intro a S
    refine wl_nil ?_
    refine xtn ?_
    refine c_seq ?_
    refine c_cond S (fun h2 => ?_) (fun h2 => ?_)
    · refine c_skip ?_
      refine xtn ?_
      refine c_seq ?_
      refine c_block ?_
      refine c_seq ?_
      have hkl : k < xs.length := by simp at h2; omega
      have hK : KLt k xs.length := ⟨hkl⟩
      have hle : LeC k c := ⟨by omega⟩
      have hd : rsP (xs.drop k) = (nthG xs k).r :: rsP (xs.drop (k + 1)) := by rw [nthG_drop hkl]; rfl
      have ht : rsP (xs.take (k + 1)) = rsP (xs.take k) ++ [(nthG xs k).r] := by rw [take_snocG hkl, rsP, List.map_append]; rfl
      rw [hd, goodP] at hrel
      have hany : ((rsP (xs.take k)).any fun x => decide (x.name = (nthG xs k).r.name)) = (xs.take k).any fun x => decide (x.name = (nthG xs k).name) := by rw [rsP, List.any_map]; rfl
      rw [hany] at hrel
      refine c_region ?_
      iterate 3 (refine sq S ?_; clear S; intro a S)
      refine sa S ?_; clear S; intro b4 a w S
      refine sq S ?_; clear S; intro a S
      refine sw S ?_; clear S; intro a w S
      refine wl_nil ?_
      refine xtn ?_
      refine c_seq ?_
      refine c_region ?_
      refine sq S ?_; clear S; intro a S
      refine sr S (rowRight_c (nthG xs k) w (hl _ (nthG_mem hkl)) (S.t0 (nthG xs k).term)) ?_; clear S; rintro _ a w rfl S
      iterate 2 (refine sq S ?_; clear S; intro a S)
      refine gS S (fun hs S => ?_) (fun hs S => ?_)
      · refine gF' S ?_; clear S; intro a S
        iterate 4 (refine gF' S ?_; clear S; intro a S)
        refine sq S ?_; clear S; intro a S
        refine wl_nil ?_
        refine xtn ?_
        refine c_condT S ?_
        refine c_seq ?_
        refine c_region ?_
        refine sq S ?_; clear S; intro a S
        refine wl_nil ?_
        refine xtn ?_
        refine c_ret ?_
        refine xbr ?_
        iterate 2 (refine xtr ?_)
        refine xbr ?_
        refine xtr ?_
        have e : rightP (nthG xs k).r = false := by simpa using hs
        refine end1 S (fun _ => ?_)
        rw [batchP, ← hrel, e]; rfl
      · refine gT' S ?_
        refine sq S ?_; clear S; intro a S
        refine gT' S ?_
        refine sq S ?_; clear S; intro a S
        refine gT' S ?_
        refine sq S ?_; clear S; intro a S
        refine gT' S ?_
        refine sq S ?_; clear S; intro a S
        refine gT' S ?_
        have hg : Stable (fun _ => False) w (GlF p (xs.take k)) := (S.gl0 p).imp fun _ h => h.take k
        refine sr S (containsRow_c 161 [.pointer (some ⟨b4, 0, none⟩)] (fun x => decide (x.name = (nthG xs k).name)) (xs.take k) p k c w (by simp; omega) (by omega) hg fun x hx w' hw' => batch1_c x b4 (nthG xs k) w' ((BoxF.stable (M := fun _ => False) (S.boxF b4) (fun h => h)).later hw')) ?_; clear S hg; rintro _ a w rfl S
        refine sq S ?_; clear S; intro a S
        refine wl_nil ?_
        refine xtn ?_
        refine c_cond S (fun h4 => ?_) (fun h4 => ?_)
        · refine c_seq ?_
          refine c_region ?_
          refine sq S ?_; clear S; intro a S
          refine wl_nil ?_
          refine xtn ?_
          refine c_ret ?_
          refine xbr ?_
          iterate 2 (refine xtr ?_)
          refine xbr ?_
          refine xtr ?_
          refine end1 S (fun _ => ?_)
          rw [batchP, ← hrel, h4]; simp
        · refine c_skip ?_
          refine xbn ?_
          refine xtn ?_
          refine c_region ?_
          iterate 2 (refine sq S ?_; clear S; intro a S)
          refine wl_nil ?_
          refine xtn ?_
          rw [w64 ((k : Int) + 1) (by omega) (by omega)] at S
          refine ⟨k + 1, S.uu, ⟨hkl, ?_⟩, S.sub _ _, by omega⟩
          have e : rightP (nthG xs k).r = true := by simpa using hs
          rw [e, h4] at hrel
          rw [ht]; exact hrel
    · refine c_exit ?_
      iterate 2 (refine xte ?_)
      refine xbe ?_
      refine xtn ?_
      refine c_seq ?_
      refine c_region ?_
      iterate 4 (refine sq S ?_; clear S; intro a S)
      refine wl_nil ?_
      refine xtn ?_
      refine c_ret ?_
      have hk2 : xs.length ≤ k := by simp at h2; omega
      rw [List.drop_of_length_le hk2] at hrel
      refine end1 S (fun _ => ?_)
      have e1 : decide ((xs.length : Int) ≤ 64) = decide (xs.length ≤ 64) := by
        have : ∀ a b : Nat, decide ((a : Int) ≤ (b : Int)) = decide (a ≤ b) := fun a b => by simp
        exact this _ 64
      rw [batchP, ← hrel, show rsP [] = [] from rfl, goodP, Bool.true_and, rsP, List.length_map, e1]
end Go.Proofs.YtdakncgafdnjfaaGreat
namespace Go.Proofs.YtdakncgafdnjfaaGreat
open Go Go.Wk
set_option synthInstance.maxSize 100000
set_option synthInstance.maxHeartbeats 400000
set_option maxRecDepth 100000
theorem rsP_len (xs : List LRow) : (rsP xs).length = xs.length := List.length_map _
theorem rsP_mem {xs : List LRow} {x : LRow} (h : x ∈ xs) : x.r ∈ rsP xs := List.mem_map_of_mem h
theorem vencode_c (xs : List LRow) (p : Option Addr) (n c : Nat) (w0 : World) (hn : xs.length = n) (hc : n ≤ c) (hl : ∀ x ∈ xs, x.name.length ≤ 9223372036854775807) (hll : n ≤ 9223372036854775807) (hx : Stable (fun _ => False) w0 (GlF p xs)) :
    Ret Tryz.prog 14 [.slice p n c] w0 (fun _ => False) fun v w' =>
      (batchP (rsP xs) = false ∧ v = .tuple ⟨[.slice none 0 0, .int .i64 2]⟩) ∨
      (batchP (rsP xs) = true ∧ ∃ (p' : Option Addr) (c' : Nat), v = .tuple ⟨[.slice p' (encP (rsP xs)).length c', .int .i64 0]⟩ ∧ w'.ownsRow 0 5 1 (.slice p' (encP (rsP xs)).length c') (encP (rsP xs)).length (encL (encP (rsP xs))) ∧ ∀ ad, p' = some ad → w0.heap.size ≤ ad.block) := by
  subst hn
  refine enter Tryz.func14 rfl rfl (Wd.begin (fs := [GlF p xs]) (by simpa using hx)) (fun a S => ?_)
  simp only [Tryz.ntmps14, List.length_cons, List.length_nil, Nat.reduceAdd, Nat.reduceSub, List.replicate_succ, List.replicate_zero, List.cons_append, List.nil_append] at S
  refine c_seq ?_
  refine c_region ?_
  iterate 2 (refine sq S ?_; clear S; intro a S)
  refine wl_nil ?_
  refine xtn ?_
  iterate 2 (refine c_seq ?_)
  refine c_region ?_
  iterate 4 (refine sq S ?_; clear S; intro a S)
  refine gS S (fun hs1 S => ?_) (fun hs1 S => ?_)
  · refine gF' S ?_; clear S; intro a S
    iterate 2 (refine gF' S ?_; clear S; intro a S)
    refine sq S ?_; clear S; intro a S
    refine wl_nil ?_
    refine xtn ?_
    refine c_condT S ?_
    refine c_seq ?_
    refine c_region ?_
    iterate 2 (refine sq S ?_; clear S; intro a S)
    refine wl_nil ?_
    refine xtn ?_
    refine c_ret ?_
    refine xtr ?_
    refine end2 S (fun _ => .inl ⟨?_, rfl⟩)
    have : ¬ (xs.length : Int) ≤ 64 := by simp at hs1; omega
    rw [batchP, rsP_len, Bool.and_eq_false_iff]
    right; simp; omega
  · refine gT' S ?_
    refine sq S ?_; clear S; intro a S
    refine gT' S ?_
    refine sr S (batch_c xs p xs.length c _ rfl hc hl hll (S.gl0 p)) ?_; clear S; rintro _ a w rfl S
    refine gT' S ?_
    iterate 2 (refine sq S ?_; clear S; intro a S)
    refine wl_nil ?_
    refine xtn ?_
    refine c_cond S (fun h1 => ?_) (fun h1 => ?_)
    · refine c_seq ?_
      refine c_region ?_
      iterate 2 (refine sq S ?_; clear S; intro a S)
      refine wl_nil ?_
      refine xtn ?_
      refine c_ret ?_
      refine xtr ?_
      refine end2 S (fun _ => .inl ⟨?_, rfl⟩)
      simpa using h1
    · refine c_skip ?_
      refine xtn ?_
      refine c_seq ?_
      refine c_region ?_
      iterate 3 (refine sq S ?_; clear S; intro a S)
      have hb : batchP (rsP xs) = true := by simpa using h1
      have hb2 := hb
      rw [batchP, rsP_len, Bool.and_eq_true, decide_eq_true_eq] at hb2
      have hxl : xs.length ≤ 64 := hb2.2
      have hall := goodP_all _ _ hb2.1
      have htot := rowsB_len _ hall
      rw [rsP_len] at htot
      refine sn S ?_; clear S; intro b20 a w S
      replace S := S.boxRow b20 1 1 rfl (by simp [maxLen])
      rw [show [Value.int .u8 (IntKind.u8.wrap (xs.length : Int))] = encL [Wk.u8 xs.length] from by rw [u8_wrap]; rfl] at S
      refine sq S ?_; clear S; intro a S
      refine wl_nil ?_
      refine xtn ?_
      iterate 2 (refine c_seq ?_)
      refine c_region ?_
      iterate 3 (refine sq S ?_; clear S; intro a S)
      refine wl_nil ?_
      refine xtn ?_
      refine c_block ?_
      refine c_forf4 S (fun (k : Nat) (b : List UInt8) (p' : Option Addr) (c' : Nat) uu => [(4, .slice p' b.length c'), (1, uu 6), (0, uu 7), (0, uu 8), (14, .int .i64 (k : Nat)), (0, uu 24), (0, uu 25), (0, uu 26), (0, uu 27), (0, uu 28), (0, uu 29), (0, uu 30), (0, uu 31), (0, uu 32), (0, uu 33), (0, uu 34), (0, uu 35), (0, uu 36), (0, uu 37), (0, uu 38), (0, uu 39), (0, uu 40), (0, uu 41), (0, uu 42), (0, uu 43), (0, uu 44), (0, uu 45), (0, uu 46), (0, uu 47), (0, uu 48), (0, uu 49), (0, uu 50)]) (fun (k : Nat) (b : List UInt8) (p' : Option Addr) (c' : Nat) => [Wk.row 5 1 p' b.length c' (encL b)]) (fun (k : Nat) (b : List UInt8) (p' : Option Addr) (c' : Nat) => k ≤ xs.length ∧ b ++ rowsB (rsP (xs.drop k)) = encP (rsP xs)) (fun (k : Nat) (b : List UInt8) (p' : Option Addr) (c' : Nat) => xs.length - k) (0) ([Wk.u8 xs.length]) (some ⟨b20, 0, none⟩) (1) ?_ S.uu ?_ ?_
      · exact ⟨Nat.zero_le _, by rw [encP, rsP_len]; rfl⟩
      · first | exact S | exact S.sub _ _
      · clear S; rintro k b p' c' uu a w ⟨hk, hrel⟩ S
        refine c_seq ?_
        refine c_region ?_
        refine sq S ?_; clear S; intro a S
        refine wl_nil ?_
        refine xtn ?_
        refine c_seq ?_
        refine c_cond S (fun h5 => ?_) (fun h5 => ?_)
        · refine c_skip ?_
          refine xtn ?_
          refine c_seq ?_
          refine c_block ?_
          refine c_seq ?_
          have hkl : k < xs.length := by simp at h5; omega
          have hK : KLt k xs.length := ⟨hkl⟩
          have hR := hall _ (rsP_mem (nthG_mem hkl))
          have hR1 : (nthG xs k).name.length ≤ 32 := (rightP_name hR).2
          have hR2 : (nameF (nthG xs k).term.t).length ≤ 65535 := rightP_bytes hR
          have hd : rsP (xs.drop k) = (nthG xs k).r :: rsP (xs.drop (k + 1)) := by rw [nthG_drop hkl]; rfl
          rw [hd, rowsB] at hrel
          have hbl := congrArg List.length hrel
          rw [encP, List.length_cons, List.length_append, List.length_append] at hbl
          have hb2 : b.length ≤ 4300000 := by omega
          refine c_region ?_
          iterate 2 (refine sq S ?_; clear S; intro a S)
          refine sa S ?_; clear S; intro b6 a w S
          refine sw S ?_; clear S; intro a w S
          refine wl_nil ?_
          refine xtn ?_
          refine c_seq ?_
          refine c_drawE [(0, true), (1, true), (2, true), (3, true), (4, true), (7, true), (8, true), (5, false), (6, false), (9, false), (10, true)] [Wk.box b6 45 [str (nthG xs k).name, .int .i64 (nthG xs k).term.kind, .int .i64 (nthG xs k).term.user, .int .i64 (nthG xs k).term.num, str (nthG xs k).term.text, .slice (nthG xs k).term.p (nthG xs k).term.kids.length (nthG xs k).term.cap]] S ?_; clear S; intro w S
          iterate 7 (refine dq S ?_; clear S; intro a S)
          refine dl ?_
          refine sn S ?_; clear S; intro b32 a w S
          refine de S ?_
          refine dl ?_
          refine sap S (by simp [maxLen]; omega) (by omega) ?_; clear S; rintro p7 c7 a w - S
          refine de S ?_
          refine dl ?_
          refine sap S (by simp [maxLen]; omega) (by omega) ?_; clear S; rintro p8 c8 a w - S
          rw [show encL b ++ [Value.int .u8 (IntKind.u8.wrap ((nthG xs k).name.length : Int))] ++ encL (nthG xs k).name = encL (b ++ ([Wk.u8 (nthG xs k).name.length] ++ (nthG xs k).name)) from by rw [u8_wrap]; simp [encL, Enc.cells], show b.length + 1 + (nthG xs k).name.length = (b ++ ([Wk.u8 (nthG xs k).name.length] ++ (nthG xs k).name)).length from by simp; omega] at S
          refine de S ?_
          refine dq S ?_; clear S; intro a S
          refine dn ?_
          refine xtn ?_
          refine c_seq ?_
          refine c_region ?_
          iterate 2 (refine sq S ?_; clear S; intro a S)
          generalize hbb : b ++ ([Wk.u8 (nthG xs k).name.length] ++ (nthG xs k).name) = b2 at S
          have hl2 : b2.length ≤ b.length + 41 := by rw [← hbb]; simp; omega
          refine srn S (encode_c (nthG xs k).term _ (S.t0 (nthG xs k).term)) ?_; clear S; rintro _ a w ⟨p9, c9, rfl, hown, hnew⟩ hS -
          have S := hS hown hnew
          clear hS
          iterate 5 (refine sq S ?_; clear S; intro a S)
          refine wl_nil ?_
          refine xtn ?_
          refine c_region ?_
          iterate 4 (refine sq S ?_; clear S; intro a S)
          have hw0 : IntKind.u16.wrap ((nameF (nthG xs k).term.t).length : Int) = ((nameF (nthG xs k).term.t).length : Int) := by
            unfold IntKind.wrap
            simp only [IntKind.bits, IntKind.signed, Bool.false_and]
            simp; omega
          rw [hw0] at S
          refine srn S (put16_c p8 b2.length c8 b2 ((nameF (nthG xs k).term.t).length : Int) w rfl (by omega) (by omega) (by omega) (sl_stable (S.row p8 b2.length))) ?_; clear S; rintro _ a w ⟨g, rfl, hg, hown2⟩ hS -
          have S := hS hown2 (fun ad h => by cases h; exact hg)
          clear hS
          refine sq S ?_; clear S; intro a S
          refine sap S (by simp [maxLen]; omega) (by omega) ?_; clear S; rintro p10 c10 a w - S
          have hb3 : b2 ++ be 2 ((nameF (nthG xs k).term.t).length : Int) ++ nameF (nthG xs k).term.t = b ++ rowB (nthG xs k).r := by
            rw [← hbb, rowB]; simp [LRow.r]
          have hb4 := congrArg List.length hb3
          simp only [List.length_append, be_len] at hb4
          rw [← encL_append, hb3, show b2.length + 2 + (nameF (nthG xs k).term.t).length = (b ++ rowB (nthG xs k).r).length from by simp only [List.length_append]; omega] at S
          refine sq S ?_; clear S; intro a S
          refine wl_nil ?_
          refine xbn ?_
          refine xtn ?_
          refine c_region ?_
          iterate 2 (refine sq S ?_; clear S; intro a S)
          refine wl_nil ?_
          refine xtn ?_
          rw [w64 ((k : Int) + 1) (by omega) (by omega)] at S
          exact ⟨k + 1, _, p10, c10, S.uu, ⟨hkl, by rw [List.append_assoc]; exact hrel⟩, S.sub [Wk.row 5 1 p10 (b ++ rowB (nthG xs k).r).length c10 (encL (b ++ rowB (nthG xs k).r))] _, by omega⟩
        · refine c_exit ?_
          iterate 2 (refine xte ?_)
          refine xbe ?_
          refine xtn ?_
          refine c_seq ?_
          refine c_region ?_
          iterate 3 (refine sq S ?_; clear S; intro a S)
          refine wl_nil ?_
          refine xtn ?_
          refine c_ret ?_
          have hk2 : xs.length ≤ k := by simp at h5; omega
          rw [List.drop_of_length_le hk2, show rsP [] = [] from rfl, rowsB, List.append_nil] at hrel
          subst hrel
          have hrow := S.row p' (encP (rsP xs)).length
          have hnew := S.rowNew p' (encP (rsP xs)).length
          exact end2 S (fun _ => .inr ⟨hb, p', c', rfl, hrow, fun ad h => (hnew ad h).elim (fun h => h.elim) id⟩)
end Go.Proofs.YtdakncgafdnjfaaGreat
namespace Go.Proofs.YtdakncgafdnjfaaGreat
open Go Go.Wk
set_option synthInstance.maxSize 100000
set_option synthInstance.maxHeartbeats 400000
set_option maxRecDepth 100000
abbrev cRow (r : LRow) : List Value := [str r.name, .int .i64 r.term.kind, .int .i64 r.term.user, .int .i64 r.term.num, str r.term.text, .slice r.term.p r.term.kids.length r.term.cap]
theorem rclone_c (xs : List LRow) (p : Option Addr) (n c : Nat) (w0 : World) (hn : xs.length = n) (hl : n ≤ 1000000) (hx : Stable (fun _ => False) w0 (GlF p xs)) :
    Ret Tryz.prog 185 [.slice p n c] w0 (fun _ => False) fun v w' => ∃ p' c', v = .slice p' n c' ∧ w'.ownsRow 0 150 6 (.slice p' n c') n (encL xs) ∧ ∀ ad, p' = some ad → w0.heap.size ≤ ad.block := by
  refine enter Tryz.func185 rfl rfl (Wd.begin (fs := [GlF p xs]) (by simpa using hx)) (fun a S => ?_)
  simp only [Tryz.ntmps185, List.length_cons, List.length_nil, Nat.reduceAdd, Nat.reduceSub, List.replicate_succ, List.replicate_zero, List.cons_append, List.nil_append] at S
  refine c_seq ?_
  refine c_region ?_
  refine sq S ?_; clear S; intro a S
  refine wl_nil ?_
  refine xtn ?_
  iterate 2 (refine c_seq ?_)
  refine c_region ?_
  iterate 2 (refine sq S ?_; clear S; intro a S)
  refine wl_nil ?_
  refine xtn ?_
  refine c_cond S (fun h1 => ?_) (fun h1 => ?_)
  · refine c_seq ?_
    refine c_region ?_
    refine sq S ?_; clear S; intro a S
    refine wl_nil ?_
    refine xtn ?_
    refine c_ret ?_
    refine xtr ?_
    have hp : p = none := by simpa using h1
    have hn0 : xs = [] := by
      rcases xs with _ | ⟨x, xs⟩
      · rfl
      · have h1 := congrArg List.length (hx.now.1.1 hp)
        rw [encL_len] at h1
        simp [Enc.sz] at h1
    subst hn0
    subst hn
    refine end1 S (fun _ => ?_)
    exact ⟨none, 0, rfl, World.ownsRow_nil _ _ _ _, fun _ h => by cases h⟩
  · refine c_skip ?_
    refine xtn ?_
    refine c_seq ?_
    refine c_region ?_
    refine sn S ?_; clear S; intro b5 a w S
    refine sq S ?_; clear S; intro a S
    replace S := S.boxRow b5 6 0 rfl (by omega)
    have hN : LenN xs n := ⟨hn⟩
    refine sap S (by simp [maxLen]; omega) (by omega) ?_; clear S; rintro p2 c2 a w - S
    rw [List.nil_append, Nat.zero_add] at S
    refine sq S ?_; clear S; intro a S
    refine wl_nil ?_
    refine xtn ?_
    refine c_ret ?_
    have hrow := S.row p2 n
    have hnew := S.rowNew p2 n
    refine end1 S (fun _ => ?_)
    exact ⟨p2, c2, rfl, hrow, fun ad h => (hnew ad h).elim (fun h => h.elim) id⟩
theorem ins_grow1 (A Z V : List Value) (T : Nat) (hA : A.length = T) (hV : V.length ≤ Z.length) : (A ++ Z).take T ++ V ++ (A ++ Z).drop (T + V.length) = A ++ V ++ Z.drop V.length := by
  subst hA
  rw [List.take_left, List.drop_append, List.drop_of_length_le (by omega), List.nil_append]
  congr 2; omega
theorem ins_grow2 (A V Z D : List Value) (T : Nat) (hT : (A ++ V).length = T) (hZ : Z.length = D.length) : (A ++ V ++ Z).take T ++ D ++ (A ++ V ++ Z).drop (T + D.length) = A ++ V ++ D := by
  subst hT
  rw [List.take_left, List.drop_append, List.drop_of_length_le (by omega), List.nil_append, List.drop_of_length_le (by omega), List.append_nil]
theorem ins_room (A D Y V : List Value) (T : Nat) (hA : A.length = T) (hY : Y.length = V.length) :
    (((A ++ D) ++ Y).take (T + V.length) ++ D ++ ((A ++ D) ++ Y).drop (T + V.length + D.length)).take T ++ V ++ (((A ++ D) ++ Y).take (T + V.length) ++ D ++ ((A ++ D) ++ Y).drop (T + V.length + D.length)).drop (T + V.length) = A ++ V ++ D := by
  subst hA
  have e1 : ((A ++ D) ++ Y).drop (A.length + V.length + D.length) = [] := List.drop_of_length_le (by simp; omega)
  have e2 : (((A ++ D) ++ Y).take (A.length + V.length)).length = A.length + V.length := by rw [List.length_take]; simp; omega
  rw [e1, List.append_nil, List.take_append_of_le_length (by omega), List.take_take, Nat.min_eq_left (by omega)]
  have e3 : ((A ++ D) ++ Y).take A.length = A := by rw [List.append_assoc, List.take_left]
  rw [e3]
  congr 1
  rw [List.drop_append, List.drop_of_length_le (by omega), List.nil_append, e2, Nat.sub_self, List.drop_zero]
theorem encR_one (s : LRow) : encL [s] = cRow s := rfl
theorem rinsert_c (xs : List LRow) (s : LRow) (i n c b : Nat) (T : TypeId) (p : Option Addr) (w0 : World) (hi : i ≤ n) (hn : n ≤ 1000) (hnc : n ≤ c) (hc : c ≤ maxLen) (hx : xs.length = n) (hown : w0.ownsRow 0 150 6 (.slice p n c) n (encL xs)) (hb : Stable (fun k => ∃ ad, p = some ad ∧ k = ad.block) w0 (BoxF b T (cRow s))) (hne : ∀ ad, p = some ad → b ≠ ad.block) :
    Ret Tryz.prog 187 [.slice p n c, .int .i64 (i : Int), .slice (some ⟨b, 0, none⟩) 1 1] w0 (fun k => ∃ ad, p = some ad ∧ k = ad.block) fun u w' => ∃ p' c', u = .slice p' (n + 1) c' ∧ w'.ownsRow 0 150 6 (.slice p' (n + 1) c') (n + 1) (encL (xs.take i ++ [s] ++ xs.drop i)) ∧ ∀ ad, p' = some ad → (∃ ad', p = some ad' ∧ ad.block = ad'.block) ∨ w0.heap.size ≤ ad.block := by
  have hle : LeC n c := ⟨hnc⟩
  have hle2 : LeC i c := ⟨by omega⟩
  have hle3 : LeC i n := ⟨hi⟩
  have e0 : encL (xs.take i ++ [s] ++ xs.drop i) = (encL xs).take (i * 6) ++ cRow s ++ (encL xs).drop (i * 6) := by
    have h1 : encL xs = encL (xs.take i) ++ encL (xs.drop i) := by rw [← encL_append, List.take_append_drop]
    have h2 : (encL (xs.take i)).length = i * 6 := by rw [encL_len, List.length_take, Nat.min_eq_left (by omega)]; rfl
    rw [encL_append, encL_append, encR_one, h1, ← h2, List.take_left, List.drop_left]
  have hxl : (encL xs).length = n * 6 := by rw [encL_len, hx]; rfl
  have hT : ((encL xs).take (i * 6)).length = i * 6 := by rw [List.length_take, hxl]; omega
  have hD : ((encL xs).drop (i * 6)).length = (n - i) * 6 := by rw [List.length_drop, hxl]; omega
  refine enter Tryz.func187 rfl rfl (Wd.rowLent (fs := [BoxF b T (cRow s)]) hown (by simpa using hb)) (fun a S => ?_)
  simp only [Tryz.ntmps187, List.length_cons, List.length_nil, Nat.reduceAdd, Nat.reduceSub, List.replicate_succ, List.replicate_zero, List.cons_append, List.nil_append] at S
  refine c_seq ?_
  refine c_region ?_
  refine sq S ?_; clear S; intro a S
  refine wl_nil ?_
  refine xtn ?_
  refine c_seq ?_
  refine c_region ?_
  iterate 3 (refine sq S ?_; clear S; intro a S)
  refine wl_nil ?_
  refine xtn ?_
  refine c_seq ?_
  refine c_region ?_
  iterate 3 (refine sq S ?_; clear S; intro a S)
  refine wl_nil ?_
  refine xtn ?_
  iterate 2 (refine c_seq ?_)
  refine c_region ?_
  iterate 2 (refine sq S ?_; clear S; intro a S)
  rw [show decide (((1 : Nat) : Int) = 0) = false from rfl] at S
  refine wl_nil ?_
  refine xtn ?_
  refine c_condF S ?_
  refine c_skip ?_
  refine xtn ?_
  refine c_seq ?_
  refine c_region ?_
  iterate 3 (refine sq S ?_; clear S; intro a S)
  refine wl_nil ?_
  refine xtn ?_
  iterate 2 (refine c_seq ?_)
  refine c_region ?_
  iterate 3 (refine sq S ?_; clear S; intro a S)
  refine wl_nil ?_
  refine xtn ?_
  refine c_cond S (fun h6 => ?_) (fun h6 => ?_)
  · refine c_seq ?_
    have hin : i = n := by simp at h6; omega
    subst hin
    refine c_region ?_
    iterate 2 (refine sq S ?_; clear S; intro a S)
    have hs : SrcV Tryz.prog 142 (.slice (some ⟨b, 0, none⟩) 1 1) [Wk.row 150 6 p i c (encL xs)] [BoxF b T (cRow s)] 6 1 (cRow s) := ⟨fun w mm => by
      have hbx : BoxF b T (cRow s) w := (mm.fact0 (BoxF b T (cRow s))).now
      refine Src.ofSlice w (Und.eq (P := Tryz.prog) (t := 142)) _ _ _ _ rfl (fun j u hj => ?_) (fun u hu => Enc.one s u hu)
      rw [add_lit, cell_of_row w b j _ T (0, 0) hbx]
      simpa using hj⟩
    refine sap S (by simp [maxLen]; omega) (by omega) ?_; clear S; rintro p7 c7 a w - S
    refine sq S ?_; clear S; intro a S
    refine wl_nil ?_
    refine xtn ?_
    refine c_ret ?_
    refine xtr ?_
    have hrow := S.row p7 (i + 1)
    have hnew := S.rowNew p7 (i + 1)
    refine end1 S (fun _ => ?_)
    refine ⟨p7, c7, rfl, ?_, hnew⟩
    rw [e0, List.take_of_length_le (by omega), List.drop_of_length_le (by omega), List.append_nil]
    exact hrow
  · refine c_skip ?_
    refine xtn ?_
    iterate 2 (refine c_seq ?_)
    refine c_region ?_
    iterate 3 (refine sq S ?_; clear S; intro a S)
    rw [show IntKind.i64.wrap ((n : Int) + ((1 : Nat) : Int)) = ((n + 1 : Nat) : Int) from w64 _ (by omega) (by omega)] at S
    iterate 3 (refine sq S ?_; clear S; intro a S)
    refine wl_nil ?_
    refine xtn ?_
    refine c_cond S (fun h8 => ?_) (fun h8 => ?_)
    · refine c_seq ?_
      have hin : i < n := by simp at h6; omega
      have hgc : c < n + 1 := by simp at h8; omega
      refine c_region ?_
      iterate 6 (refine sq S ?_; clear S; intro a S)
      rw [show IntKind.i64.wrap ((n : Int) + ((1 : Nat) : Int)) = ((n + 1 : Nat) : Int) from w64 _ (by omega) (by omega)] at S
      iterate 2 (refine sq S ?_; clear S; intro a S)
      rw [show IntKind.i64.wrap (((n + 1 : Nat) : Int) - (i : Int)) = ((n + 1 - i : Nat) : Int) from by rw [w64 _ (by omega) (by omega)]; omega] at S
      refine sapzo p n (i := i) (m := n + 1 - i) S hi (by omega) (by omega) (by omega) (by simp only [maxLen]; omega) (by omega) ?_; clear S; intro b9 c9 zs a w hzs S
      rw [show i + (n + 1 - i) = n + 1 from by omega] at S
      have hc9 : n + 1 ≤ c9 := own_le (S.row (some ⟨b9, 0, none⟩) (n + 1))
      have hL9 : LeC i c9 := ⟨by omega⟩
      have hL9b : LeC (n + 1) c9 := ⟨by omega⟩
      have hL9c : LeC i (n + 1) := ⟨by omega⟩
      have hL9d : LeC (i + 1) (n + 1) := ⟨by omega⟩
      refine sq S ?_; clear S; intro a S
      refine wl_nil ?_
      refine xtn ?_
      refine c_seq ?_
      refine c_region ?_
      iterate 4 (refine sq S ?_; clear S; intro a S)
      refine scpo (some ⟨b9, 0, none⟩) (n + 1) (lo := i) (cnt := 1) (cRow s) S (by show min _ _ = _; omega) (fun _ => by rw [if_neg (by omega)]) (by omega) rfl (fun u hu => Enc.one s u hu) (fun _ => ⟨_, rfl, fun j u hj => ?_⟩) ?_
      · have hbx : BoxF b T (cRow s) w := (S.mem.fact0 (BoxF b T (cRow s))).now
        rw [add_lit, cell_of_row w b j _ T (0, 0) hbx]
        simpa using hj
      clear S; intro a w S
      rw [ins_grow1 _ zs (cRow s) (i * 6) hT (by rw [hzs]; show 6 ≤ _; omega)] at S
      refine wl_nil ?_
      refine xtn ?_
      refine c_seq ?_
      refine c_drawE [(0, true), (1, true), (2, true), (3, true), (4, true), (5, true), (6, true), (7, true), (8, false)] [Wk.row 150 6 p n c (encL xs)] S ?_; clear S; intro w S
      iterate 4 (refine dq S ?_; clear S; intro a S)
      rw [show IntKind.i64.wrap ((i : Int) + ((1 : Nat) : Int)) = ((i + 1 : Nat) : Int) from w64 _ (by omega) (by omega)] at S
      iterate 4 (refine dq S ?_; clear S; intro a S)
      refine dl ?_
      refine scpo (some ⟨b9, 0, none⟩) (n + 1) (lo := i + 1) (cnt := n - i) ((encL xs).drop (i * 6)) S (by show min _ _ = _; omega) (fun h => by rw [if_neg (by omega)]) (by omega) hD (fun u hu => encL_one xs u (List.mem_of_mem_drop hu)) (fun _ => ?_) ?_
      · obtain ⟨g, cur, hpp, -⟩ := own_cells (S.row p n) (show 0 < n by omega)
        refine ⟨⟨g, i * 6, none⟩, by rw [if_neg (by omega), hpp, Option.map_some, add_lit], fun j u hj => ?_⟩
        have h1 := own_cell (S.row p n) (o := i * 6) (j := j) (u := u) (by rw [← hj, List.getElem?_drop])
        rw [rAddr, hpp, Option.getD_some, add_lit] at h1
        exact h1
      clear S; intro a w S
      rw [show (i + 1) * 6 = i * 6 + 6 from by omega, ins_grow2 _ (cRow s) _ _ (i * 6 + 6) (by rw [List.length_append, hT]; rfl) (by rw [List.length_drop, hzs, hD]; show _ - 6 = _; omega), ← e0] at S
      refine de S ?_
      refine dn ?_
      refine xtn ?_
      refine c_seq ?_
      refine c_region ?_
      iterate 2 (refine sq S ?_; clear S; intro a S)
      refine wl_nil ?_
      refine xtn ?_
      refine c_ret ?_
      refine xtr ?_
      have hrow := S.row (some ⟨b9, 0, none⟩) (n + 1)
      have hnew := S.rowNew (some ⟨b9, 0, none⟩) (n + 1)
      refine end1 S (fun _ => ?_)
      exact ⟨_, c9, rfl, hrow, hnew⟩
    · refine c_skip ?_
      refine xtn ?_
      refine c_seq ?_
      have hin : i < n := by simp at h6; omega
      have hgc : n + 1 ≤ c := by simp at h8; omega
      have hL1 : LeC (n + 1) c := ⟨hgc⟩
      have hL2 : LeC (i + 1) (n + 1) := ⟨by omega⟩
      have hL3 : LeC i (n + 1) := ⟨by omega⟩
      refine c_region ?_
      iterate 4 (refine sq S ?_; clear S; intro a S)
      rw [show IntKind.i64.wrap ((n : Int) + ((1 : Nat) : Int)) = ((n + 1 : Nat) : Int) from w64 _ (by omega) (by omega)] at S
      iterate 2 (refine sq S ?_; clear S; intro a S)
      refine wl_nil ?_
      refine xtn ?_
      iterate 2 (refine c_seq ?_)
      obtain ⟨ys, hys, hM⟩ := S.rowMore p n (n + 1) (by omega) hgc (by omega)
      replace S := hM (bs' := [Wk.row 150 6 p (n + 1) c (encL xs ++ ys)])
      clear hM
      obtain ⟨g, cur, hpp, hgcur, -, hcsz, -, -⟩ := own_cells (S.row p (n + 1)) (show 0 < n + 1 by omega)
      have hbg : b ≠ g := hne ⟨g, 0, none⟩ hpp
      refine c_region ?_
      iterate 5 (refine sq S ?_; clear S; intro a S)
      rw [show IntKind.i64.wrap ((i : Int) + ((1 : Nat) : Int)) = ((i + 1 : Nat) : Int) from w64 _ (by omega) (by omega)] at S
      refine sq S ?_; clear S; intro a S
      rw [show (if c = i + 1 then p else p.map (·.add ((i + 1) * 6))) = some ⟨g, (i + 1) * 6, none⟩ from by rw [if_neg (by omega), hpp, Option.map_some, add_lit]] at S
      refine sext S (run_apart (b1 := b) (b2 := g) (fn := Tryz.f243) (o2 := (i + 1) * 6) Tryz.func243 (by kernel_rfl) (by kernel_rfl) (by kernel_rfl) (by kernel_rfl) (tS := 142) (tR := 4) rfl hbg ((S.mem.fact0 (BoxF b T (cRow s))).now) hgcur (by rw [hcsz]; omega)) ?_
      clear S; intro a S
      refine sq S ?_; clear S; intro a S
      rw [show (!false) = true from rfl] at S
      refine wl_nil ?_
      refine xtn ?_
      refine c_condT S ?_
      refine c_seq ?_
      refine c_drawE [(0, true), (1, true), (2, true), (3, true), (4, true), (5, true), (6, true), (7, true), (8, false)] [] S ?_; clear S; intro w S
      iterate 4 (refine dq S ?_; clear S; intro a S)
      rw [show IntKind.i64.wrap ((i : Int) + ((1 : Nat) : Int)) = ((i + 1 : Nat) : Int) from w64 _ (by omega) (by omega)] at S
      iterate 4 (refine dq S ?_; clear S; intro a S)
      refine dl ?_
      refine scpo p (n + 1) (lo := i + 1) (cnt := n - i) ((encL xs).drop (i * 6)) S (by show min _ _ = _; omega) (fun h => by rw [if_neg (by omega)]) (by omega) hD (fun u hu => encL_one xs u (List.mem_of_mem_drop hu)) (fun _ => ?_) ?_
      · refine ⟨⟨g, i * 6, none⟩, by rw [if_neg (by omega), hpp, Option.map_some, add_lit], fun j u hj => ?_⟩
        have h1 := own_cell (S.row p (n + 1)) (o := i * 6) (j := j) (u := u) (by rw [← hj, List.getElem?_drop, List.getElem?_append_left (by have := (List.getElem?_eq_some_iff.1 hj).1; rw [hD] at this; rw [hxl]; omega)])
        rw [rAddr, hpp, Option.getD_some, add_lit] at h1
        exact h1
      clear S; intro a w S
      refine de S ?_
      refine dn ?_
      refine xtn ?_
      refine c_seq ?_
      refine c_region ?_
      iterate 4 (refine sq S ?_; clear S; intro a S)
      refine scpo p (n + 1) (lo := i) (cnt := 1) (cRow s) S (by show min _ _ = _; omega) (fun _ => by rw [if_neg (by omega)]) (by omega) rfl (fun u hu => Enc.one s u hu) (fun _ => ⟨_, rfl, fun j u hj => ?_⟩) ?_
      · have hbx : BoxF b T (cRow s) w := (S.mem.fact0 (BoxF b T (cRow s))).now
        rw [add_lit, cell_of_row w b j _ T (0, 0) hbx]
        simpa using hj
      clear S; intro a w S
      have hroom := ins_room ((encL xs).take (i * 6)) ((encL xs).drop (i * 6)) ys (cRow s) (i * 6) hT (by rw [hys]; show _ = 6; omega)
      rw [List.take_append_drop] at hroom
      rw [show (i + 1) * 6 = i * 6 + (cRow s).length from by show _ = _ + 6; omega, hroom, ← e0] at S
      refine wl_nil ?_
      refine xtn ?_
      refine c_seq ?_
      refine c_region ?_
      iterate 2 (refine sq S ?_; clear S; intro a S)
      refine wl_nil ?_
      refine xtn ?_
      refine c_ret ?_
      refine xtr ?_
      have hrow := S.row p (n + 1)
      have hnew := S.rowNew p (n + 1)
      refine end1 S (fun _ => ?_)
      exact ⟨_, c, rfl, hrow, hnew⟩
theorem encR_drop (xs : List LRow) (k : Nat) (h : k ≤ xs.length) : (encL xs).drop (k * 6) = encL (xs.drop k) := by
  have e : encL xs = encL (xs.take k) ++ encL (xs.drop k) := by rw [← encL_append, List.take_append_drop]
  have hl : (encL (xs.take k)).length = k * 6 := by rw [encL_len, List.length_take, Nat.min_eq_left h]; rfl
  rw [e, ← hl, List.drop_left]
theorem encR_take (xs : List LRow) (k : Nat) (h : k ≤ xs.length) : (encL xs).take (k * 6) = encL (xs.take k) := by
  have e : encL xs = encL (xs.take k) ++ encL (xs.drop k) := by rw [← encL_append, List.take_append_drop]
  have hl : (encL (xs.take k)).length = k * 6 := by rw [encL_len, List.length_take, Nat.min_eq_left h]; rfl
  rw [e, ← hl, List.take_left]
theorem encR_erase (xs : List LRow) (i : Nat) (h : i < xs.length) : (encL xs).take (i * 6) ++ (encL xs).drop ((i + 1) * 6) = encL (xs.eraseIdx i) := by
  rw [encR_drop xs (i + 1) h, encR_take xs i (by omega), ← encL_append, List.eraseIdx_eq_take_drop_succ]
theorem rdelete_c (xs : List LRow) (i : Nat) (p : Option Addr) (n c : Nat) (w0 : World) (hi : i < n) (hn : xs.length = n) (hl : n ≤ 10000000) (hown : w0.ownsRow 0 150 6 (.slice p n c) n (encL xs)) :
    Ret Tryz.prog 186 [.slice p n c, .int .i64 i, .int .i64 ((i + 1 : Nat) : Int)] w0 (fun k => ∃ ad, p = some ad ∧ k = ad.block) fun v w' =>
      v = .slice p (n - 1) c ∧ w'.ownsRow 0 150 6 (.slice p (n - 1) c) (n - 1) (encL (xs.eraseIdx i)) := by
  have hnc : n ≤ c := by
    obtain ⟨g, cur, _, _, hnc, _⟩ := own_cells hown (by omega)
    exact hnc
  have h1 : LeC n c := ⟨hnc⟩
  have h2 : LeC (i + 1) n := ⟨by omega⟩
  have h3 : LeC i (i + 1) := ⟨by omega⟩
  have h4 : LeC i c := ⟨by omega⟩
  have h5 : LeC 0 i := ⟨by omega⟩
  refine enter Tryz.func186 rfl rfl (Wd.rowLent (fs := []) hown (by simp)) (fun a S => ?_)
  simp only [Tryz.ntmps186, List.length_cons, List.length_nil, Nat.reduceAdd, Nat.reduceSub, List.replicate_succ, List.replicate_zero, List.cons_append, List.nil_append] at S
  refine c_seq ?_
  refine c_region ?_
  refine sq S ?_; clear S; intro a S
  refine wl_nil ?_
  refine xtn ?_
  refine c_seq ?_
  refine c_region ?_
  iterate 6 (refine sq S ?_; clear S; intro a S)
  refine wl_nil ?_
  refine xtn ?_
  iterate 2 (refine c_seq ?_)
  refine c_region ?_
  iterate 3 (refine sq S ?_; clear S; intro a S)
  rw [show decide ((i : Int) = ((i + 1 : Nat) : Int)) = false from by simp; omega] at S
  refine wl_nil ?_
  refine xtn ?_
  refine c_condF S ?_
  refine c_skip ?_
  refine xtn ?_
  refine c_seq ?_
  refine c_region ?_
  iterate 3 (refine sq S ?_; clear S; intro a S)
  refine wl_nil ?_
  refine xtn ?_
  refine c_seq ?_
  refine c_drawE [(0, true), (1, true), (2, true), (3, true), (4, true), (5, true), (6, false), (7, true)] [] S ?_; clear S; intro w S
  iterate 6 (refine dq S ?_; clear S; intro a S)
  refine dl ?_
  refine sapr p n S rfl rfl (by omega) (by omega) (by omega) ?_; clear S; intro a w S
  rw [show i + (n - (i + 1)) = n - 1 from by omega, encR_erase xs i (by omega)] at S
  have h6 : LeC (n - 1) n := ⟨by omega⟩
  refine de S ?_
  refine dq S ?_; clear S; intro a S
  refine dn ?_
  refine xtn ?_
  refine c_seq ?_
  refine c_region ?_
  iterate 5 (refine sq S ?_; clear S; intro a S)
  refine sclr p (n - 1) S rfl rfl (by omega) ?_; clear S; intro a w S
  refine wl_nil ?_
  refine xtn ?_
  refine c_seq ?_
  refine c_region ?_
  iterate 2 (refine sq S ?_; clear S; intro a S)
  refine wl_nil ?_
  refine xtn ?_
  refine c_ret ?_
  have hrow := S.row p (n - 1)
  refine end1 S (fun _ => ?_)
  exact ⟨rfl, hrow⟩
end Go.Proofs.YtdakncgafdnjfaaGreat
namespace Go.Proofs.YtdakncgafdnjfaaGreat
open Go Go.Wk
set_option synthInstance.maxSize 100000
set_option synthInstance.maxHeartbeats 400000
set_option maxRecDepth 100000
theorem half_uV (i j : Nat) (h : i + j ≤ 1000000000) : (IntKind.u64.wrap (IntKind.i64.wrap ((i : Int) + (j : Int)))).fdiv (2 ^ min 1 IntKind.u64.bits) = (((i + j) / 2 : Nat) : Int) := by
  have e1 : IntKind.u64.wrap ((i : Int) + (j : Int)) = (i : Int) + (j : Int) := by
    unfold IntKind.wrap
    simp only [IntKind.bits, IntKind.signed, Bool.false_and]
    simp
    omega
  rw [w64 _ (by omega) (by omega), e1]
  show ((i : Int) + (j : Int)).fdiv 2 = _
  rw [Int.fdiv_eq_ediv_of_nonneg _ (by omega)]
  omega
theorem cmp_lessV (a b : List UInt8) : decide (Lib.compareBytes a b < 0) = Op.bytesLess a b := by
  induction a generalizing b with
  | nil => cases b <;> simp [Lib.compareBytes, Op.bytesLess]
  | cons x a ih =>
    cases b with
    | nil => simp [Lib.compareBytes, Op.bytesLess]
    | cons y b =>
      rw [Lib.compareBytes, Op.bytesLess]
      by_cases h1 : x < y
      · simp [h1]
      · by_cases h2 : y < x
        · have : ¬ x = y := fun h => by subst h; exact absurd h2 h1
          simp [h1, h2, this]
        · have : x = y := UInt8.le_antisymm (UInt8.not_lt.1 h2) (UInt8.not_lt.1 h1)
          subst this
          simp [h1, ih]
theorem cmp_zeroV (a b : List UInt8) : decide (Lib.compareBytes a b = 0) = decide (a = b) := by
  induction a generalizing b with
  | nil => cases b <;> simp [Lib.compareBytes]
  | cons x a ih =>
    cases b with
    | nil => simp [Lib.compareBytes]
    | cons y b =>
      rw [Lib.compareBytes]
      by_cases h1 : x < y
      · have : ¬ x = y := fun h => by subst h; exact absurd h1 (UInt8.lt_irrefl _)
        simp [h1, this]
      · by_cases h2 : y < x
        · have : ¬ x = y := fun h => by subst h; exact absurd h2 h1
          simp [h1, h2, this]
        · have : x = y := UInt8.le_antisymm (UInt8.not_lt.1 h2) (UInt8.not_lt.1 h1)
          subst this
          simp [h1, ih]
theorem compare_c (a b : List UInt8) (w0 : World) : Ret Tryz.prog 89 [str a, str b] w0 (fun _ => False) fun v _ => v = .int .i64 (Lib.compareBytes a b) := by
  refine Calls.mono (Any.strings_Compare Tryz.lays106 ⟨a.toArray⟩ ⟨b.toArray⟩ w0) ?_
  rintro e w' ⟨rfl, rfl⟩
  exact ⟨_, rfl, Agree.refl _ _, rfl⟩
instance {a b : List UInt8} {bs fs} : CallV Tryz.prog 89 [str a, str b] bs fs (.int .i64 (Lib.compareBytes a b)) := ⟨fun w _ => compare_c a b w⟩
theorem before_c (r : LRow) (s : List UInt8) (w0 : World) : Ret Tryz.prog 98 [vRow r, str s] w0 (fun _ => False) fun v _ => v = .int .i64 (Lib.compareBytes r.name s) := by
  refine enter Tryz.func98 rfl rfl (Wd.start w0) (fun a S => ?_)
  simp only [Tryz.ntmps98, List.length_cons, List.length_nil, Nat.reduceAdd, Nat.reduceSub, List.replicate_succ, List.replicate_zero, List.cons_append, List.nil_append] at S
  refine c_seq ?_
  refine c_region ?_
  refine sa S ?_; clear S; intro b2 a w S
  refine sq S ?_; clear S; intro a S
  refine wl_nil ?_
  refine xtn ?_
  refine c_seq ?_
  refine c_region ?_
  iterate 3 (refine sq S ?_; clear S; intro a S)
  refine sc S ?_; clear S; intro a w S
  refine sq S ?_; clear S; intro a S
  refine wl_nil ?_
  refine xtn ?_
  refine c_ret ?_
  refine end1 S (fun _ => rfl)
instance {r : LRow} {s : List UInt8} {bs fs} : CallV Tryz.prog 98 [vRow r, str s] bs fs (.int .i64 (Lib.compareBytes r.name s)) := ⟨fun w _ => before_c r s w⟩
theorem rname_lt {l : List LRow} (hr : SortedP (rsP l)) {i j : Nat} (hij : i < j) (hj : j < l.length) : Op.bytesLess (nthG l i).name (nthG l j).name = true := by
  have e1 : ((rsP l).map PRow.name)[i]? = some (nthG l i).name := by rw [List.getElem?_map, rsP, List.getElem?_map, nthG_get (by omega)]; rfl
  have e2 : ((rsP l).map PRow.name)[j]? = some (nthG l j).name := by rw [List.getElem?_map, rsP, List.getElem?_map, nthG_get hj]; rfl
  obtain ⟨q1, q2⟩ := List.getElem?_eq_some_iff.1 e1
  obtain ⟨q3, q4⟩ := List.getElem?_eq_some_iff.1 e2
  have := List.pairwise_iff_getElem.1 hr i j q1 q3 hij
  rw [q2, q4] at this; exact this
theorem rname_le {l : List LRow} (hr : SortedP (rsP l)) {m h : Nat} {s : List UInt8} (hs : Op.bytesLess (nthG l h).name s = true) (hm : m ≤ h) (hh : h < l.length) : Op.bytesLess (nthG l m).name s = true := by
  rcases Nat.lt_or_ge m h with h1 | h1
  · exact bl_trans _ _ _ (rname_lt hr h1 hh) hs
  · obtain rfl : m = h := by omega
    exact hs
theorem rname_ge {l : List LRow} (hr : SortedP (rsP l)) {m h : Nat} {s : List UInt8} (hs : Op.bytesLess (nthG l h).name s = false) (hm : h ≤ m) (hml : m < l.length) : Op.bytesLess (nthG l m).name s = false := by
  rcases Nat.lt_or_ge h m with h1 | h1
  · cases h2 : Op.bytesLess (nthG l m).name s with
    | false => rfl
    | true => rw [bl_trans _ _ _ (rname_lt hr h1 hml) h2] at hs; cases hs
  · obtain rfl : m = h := by omega
    exact hs
structure AtP (l : List LRow) (s : List UInt8) (i : Nat) (b : Bool) : Prop where
  le : i ≤ l.length
  lo : ∀ m, m < i → Op.bytesLess (nthG l m).name s = true
  hi : ∀ m, i ≤ m → m < l.length → Op.bytesLess (nthG l m).name s = false
  there : b = (decide ((i : Int) < (l.length : Int)) && decide ((nthG l i).name = s))
theorem rsearch_c (l : List LRow) (p : Option Addr) (n c : Nat) (s : List UInt8) (w0 : World) (hn : l.length = n) (hl : n ≤ 1000000) (hx : Stable (fun _ => False) w0 (GlF p l)) (hr : SortedP (rsP l)) :
    Ret Tryz.prog 97 [.slice p n c, str s, .func (.func 98) #[] #[]] w0 (fun _ => False) fun v _ => ∃ (i : Nat) (b : Bool), v = .tuple ⟨[.int .i64 (i : Nat), .bool b]⟩ ∧ AtP l s i b := by
  subst hn
  refine enter Tryz.func97 rfl rfl (Wd.begin (fs := [GlF p l]) (by simpa using hx)) (fun a S => ?_)
  simp only [Tryz.ntmps97, List.length_cons, List.length_nil, Nat.reduceAdd, Nat.reduceSub, List.replicate_succ, List.replicate_zero, List.cons_append, List.nil_append] at S
  refine c_seq ?_
  refine c_region ?_
  iterate 2 (refine sq S ?_; clear S; intro a S)
  refine wl_nil ?_
  refine xtn ?_
  refine c_seq ?_
  refine c_region ?_
  iterate 3 (refine sq S ?_; clear S; intro a S)
  refine wl_nil ?_
  refine xtn ?_
  refine c_seq ?_
  refine c_region ?_
  iterate 3 (refine sq S ?_; clear S; intro a S)
  refine wl_nil ?_
  refine xtn ?_
  refine c_seq ?_
  refine c_block ?_
  refine c_forb2 S (fun (i : Nat) (j : Nat) uu => [(9, .int .i64 (i : Nat)), (0, .int .i64 (j : Nat)), (0, uu 11), (3, uu 15), (0, uu 16), (0, uu 17), (0, uu 18), (0, uu 19), (0, uu 20), (0, uu 21), (0, uu 22), (0, uu 23), (0, uu 24), (0, uu 25), (0, uu 26), (0, uu 27), (0, uu 28), (0, uu 29), (0, uu 30), (0, uu 31), (0, uu 32), (0, uu 33), (0, uu 34)]) (fun (i : Nat) (j : Nat) => i ≤ j ∧ j ≤ l.length ∧ (∀ m, m < i → Op.bytesLess (nthG l m).name s = true) ∧ ∀ m, j ≤ m → m < l.length → Op.bytesLess (nthG l m).name s = false) (fun (i : Nat) (j : Nat) => j - i) (0) (l.length) ?_ S.uu ?_ ?_
  · exact ⟨Nat.zero_le _, Nat.le_refl _, fun m h => by omega, fun m h h' => by omega⟩
  · first | exact S | exact S.sub _ _
  · clear S; rintro i j uu a w ⟨hij, hjl, hlo, hhi⟩ S
    iterate 2 (refine c_seq ?_)
    refine c_region ?_
    iterate 3 (refine sq S ?_; clear S; intro a S)
    refine wl_nil ?_
    refine xtn ?_
    refine c_cond S (fun h3 => ?_) (fun h3 => ?_)
    · refine c_skip ?_
      refine xtn ?_
      refine c_block ?_
      refine c_seq ?_
      refine c_region ?_
      iterate 5 (refine sq S ?_; clear S; intro a S)
      rw [half_uV i j (by omega)] at S
      refine sq S ?_; clear S; intro a S
      rw [show IntKind.i64.wrap (((i + j) / 2 : Nat) : Int) = (((i + j) / 2 : Nat) : Int) from w64 _ (by omega) (by omega)] at S
      have hKh : KLt ((i + j) / 2) l.length := ⟨by simp at h3; omega⟩
      refine sq S ?_; clear S; intro a S
      refine wl_nil ?_
      refine xtn ?_
      refine c_seq ?_
      refine c_region ?_
      iterate 6 (refine sq S ?_; clear S; intro a S)
      refine sr S (before_c (nthG l ((i + j) / 2)) s _) ?_; clear S; rintro _ a w rfl S
      refine sq S ?_; clear S; intro a S
      rw [cmp_lessV] at S
      refine wl_nil ?_
      refine xtn ?_
      refine c_cond S (fun h5 => ?_) (fun h5 => ?_)
      · refine c_region ?_
        iterate 2 (refine sq S ?_; clear S; intro a S)
        rw [show IntKind.i64.wrap ((((i + j) / 2 : Nat) : Int) + 1) = (((i + j) / 2 + 1 : Nat) : Int) from w64 _ (by omega) (by omega)] at S
        refine sq S ?_; clear S; intro a S
        refine wl_nil ?_
        refine xbn ?_
        refine xtn ?_
        have h3' : i < j := by simp at h3; omega
        refine ⟨(i + j) / 2 + 1, j, S.uu, ⟨by omega, hjl, fun m hm => ?_, hhi⟩, S.sub _ _, by omega⟩
        exact rname_le hr h5 (by omega) (by omega)
      · refine c_region ?_
        iterate 2 (refine sq S ?_; clear S; intro a S)
        refine wl_nil ?_
        refine xbn ?_
        refine xtn ?_
        have h3' : i < j := by simp at h3; omega
        refine ⟨i, (i + j) / 2, S.uu, ⟨by omega, by omega, hlo, fun m hm hml => ?_⟩, S.sub _ _, by omega⟩
        exact rname_ge hr h5 hm hml
    · refine c_exit ?_
      iterate 2 (refine xte ?_)
      refine xbe ?_
      refine xtn ?_
      refine c_seq ?_
      refine c_region ?_
      iterate 5 (refine sq S ?_; clear S; intro a S)
      iterate 6 (refine gQ S ?_; clear S; intro a S)
      refine gC S ?_; clear S; intro a w S
      refine gQ S ?_; clear S; intro a S
      iterate 3 (refine sq S ?_; clear S; intro a S)
      refine wl_nil ?_
      refine xtn ?_
      refine c_ret ?_
      have hij2 : i = j := by simp at h3; omega
      subst hij2
      refine end2 S (fun _ => ?_)
      exact ⟨i, _, rfl, hjl, hlo, hhi, by rw [cmp_zeroV]⟩
end Go.Proofs.YtdakncgafdnjfaaGreat
namespace Go.Proofs.YtdakncgafdnjfaaGreat
open Go Go.Wk
set_option synthInstance.maxSize 100000
set_option synthInstance.maxHeartbeats 400000
set_option maxRecDepth 100000
theorem putP_row (ys : List LRow) (r : LRow) (i : Nat) (b : Bool) (h : AtP ys r.name i b) :
    putP (rsP ys) r.r = rsP (if b then (if goneP r.r then ys.eraseIdx i else ys.set i r) else (if goneP r.r then ys else ys.take i ++ [r] ++ ys.drop i)) := by
  obtain ⟨h1, h2, h3, h4⟩ := h
  have hg : ∀ m, m < ys.length → (rsP ys)[m]? = some (nthG ys m).r := fun m hm => by rw [rsP, List.getElem?_map, nthG_get hm]; rfl
  have hlen : (rsP ys).length = ys.length := List.length_map _
  rw [putP_at (rsP ys) r.r i (by rw [hlen]; exact h1) (fun m x hm hx => by rw [hg m (by omega)] at hx; cases hx; exact h2 m hm) (fun m x hm hx => by
    have hml : m < ys.length := by rw [← hlen]; exact (List.getElem?_eq_some_iff.1 hx).1
    rw [hg m hml] at hx; cases hx; exact h3 m hm hml)]
  have hb : isAt (rsP ys)[i]? r.r.name = b := by
    rw [h4]
    by_cases hi : i < ys.length
    · rw [hg i hi, isAt_some]
      have : decide ((i : Int) < (ys.length : Int)) = true := by simp; omega
      rw [this, Bool.true_and]; rfl
    · rw [List.getElem?_eq_none (by rw [hlen]; omega), isAt_none]
      have : decide ((i : Int) < (ys.length : Int)) = false := by simp; omega
      rw [this, Bool.false_and]
  rw [hb]
  cases b <;> cases goneP r.r <;> simp [rsP, List.map_set, List.map_take, List.map_drop, List.eraseIdx_eq_take_drop_succ]
theorem AtP.lt {ys : List LRow} {s : List UInt8} {i : Nat} {b : Bool} (h : AtP ys s i b) (hb : b = true) : i < ys.length := by
  have := h.there
  rw [hb] at this
  simp at this
  omega
theorem encR_set (ys : List LRow) (i : Nat) (x : LRow) (h : i < ys.length) : (encL ys).take (i * 6) ++ cRow x ++ (encL ys).drop (i * 6 + (cRow x).length) = encL (ys.set i x) := by
  rw [show i * 6 + (cRow x).length = (i + 1) * 6 from by simp; omega, encR_drop ys (i + 1) (by omega), encR_take ys i (by omega), ← encR_one, ← encL_append, ← encL_append, List.set_eq_take_append_cons_drop, if_pos h]
  simp
theorem own_capV {w : World} {e : TypeId} {sz : Nat} {p : Option Addr} {n c : Nat} {xs : List Value} (h : w.ownsRow 0 e sz (.slice p n c) n xs) : c ≤ maxLen := by
  rcases h.2 with ⟨hv, h0⟩ | ⟨g, cap, cur, hv, hb, hg, hnc, hcm, hcs, ht⟩
  · cases hv; exact Nat.zero_le _
  · cases hv; exact hcm
theorem vbehind_c (rows : List LRow) (p : Option Addr) (c : Nat) (l : List LRow) (q : Option Addr) (d : Nat) (w0 : World) (hn : rows.length ≤ 300) (hl : l.length ≤ 300) (hr : Stable (fun _ => False) w0 (GlF p rows)) (hs : Stable (fun _ => False) w0 (GlF q l)) (hup : SortedP (rsP rows)) :
    Ret Tryz.prog 93 [.slice p rows.length c, .slice q l.length d] w0 (fun _ => False) fun v w' => ∃ ys p' c', v = .slice p' ys.length c' ∧ w'.ownsRow 0 150 6 (.slice p' ys.length c') ys.length (encL ys) ∧ (∀ ad, p' = some ad → w0.heap.size ≤ ad.block) ∧ rsP ys = behP (rsP rows) (rsP l) ∧ ∀ y ∈ ys, y ∈ rows ∨ y ∈ l := by
  refine enter Tryz.func93 rfl rfl (Wd.begin (fs := [GlF p rows, GlF q l]) (by simp; exact ⟨hr, hs⟩)) (fun a S => ?_)
  simp only [Tryz.ntmps93, List.length_cons, List.length_nil, Nat.reduceAdd, Nat.reduceSub, List.replicate_succ, List.replicate_zero, List.cons_append, List.nil_append] at S
  refine c_seq ?_
  refine c_region ?_
  refine sq S ?_; clear S; intro a S
  refine wl_nil ?_
  refine xtn ?_
  refine c_seq ?_
  refine c_region ?_
  refine sq S ?_; clear S; intro a S
  refine srn S (rclone_c rows p rows.length c _ rfl (by omega) (S.gl0 p)) ?_; clear S; rintro _ a w ⟨p1, c1, rfl, hown, hnew⟩ hS -
  have S := hS hown hnew
  clear hS
  refine sq S ?_; clear S; intro a S
  refine wl_nil ?_
  refine xtn ?_
  iterate 2 (refine c_seq ?_)
  refine c_region ?_
  iterate 3 (refine sq S ?_; clear S; intro a S)
  refine wl_nil ?_
  refine xtn ?_
  refine c_block ?_
  refine c_fore4 S (fun (k : Nat) (ys : List LRow) (p' : Option Addr) (c' : Nat) uu => [(5, .slice p' ys.length c'), (1, uu 7), (0, uu 8), (0, uu 9), (0, uu 10), (4, .int .i64 (k : Nat)), (0, uu 16), (0, uu 17), (0, uu 18), (0, uu 19), (0, uu 20), (0, uu 21), (0, uu 22), (0, uu 23), (0, uu 24), (0, uu 25), (0, uu 26), (0, uu 27), (0, uu 28), (0, uu 29), (0, uu 30), (0, uu 31), (0, uu 32), (0, uu 33), (0, uu 34), (0, uu 35), (0, uu 36), (0, uu 37), (0, uu 38), (0, uu 39), (0, uu 40), (0, uu 41), (0, uu 42), (0, uu 43), (0, uu 44), (0, uu 45), (0, uu 46), (0, uu 47), (0, uu 48), (0, uu 49), (0, uu 50), (0, uu 51), (0, uu 52)]) (fun (k : Nat) (ys : List LRow) (p' : Option Addr) (c' : Nat) => [Wk.row 150 6 p' ys.length c' (encL ys)]) (fun (k : Nat) (ys : List LRow) (p' : Option Addr) (c' : Nat) => [GlF p rows, GlF q l]) (fun (k : Nat) (ys : List LRow) (p' : Option Addr) (c' : Nat) => k ≤ l.length ∧ ys.length ≤ rows.length + k ∧ rsP ys = behP (rsP rows) (rsP (l.take k)) ∧ ∀ y ∈ ys, y ∈ rows ∨ y ∈ l) (fun (k : Nat) (ys : List LRow) (p' : Option Addr) (c' : Nat) => l.length - k) (0) (rows) (p1) (c1) ?_ S.uu ?_ ?_
  · exact ⟨Nat.zero_le _, Nat.le_refl _, rfl, fun y hy => .inl hy⟩
  · first | exact S | exact S.sub _ _
  · clear S; rintro k ys p' c' uu a w ⟨hk, hyl, hrel, hmem⟩ S
    refine c_seq ?_
    refine c_region ?_
    refine sq S ?_; clear S; intro a S
    refine wl_nil ?_
    refine xtn ?_
    refine c_seq ?_
    refine c_cond S (fun h3 => ?_) (fun h3 => ?_)
    · refine c_skip ?_
      refine xtn ?_
      refine c_mrge3 S (fun (zs : List LRow) (p2 : Option Addr) (c2 : Nat) uu => [(5, .slice p2 zs.length c2), (1, uu 7), (0, uu 8), (0, uu 9), (0, uu 10), (6, uu 17), (0, uu 18), (0, uu 19), (0, uu 20), (0, uu 21), (0, uu 22), (0, uu 23), (0, uu 24), (0, uu 25), (0, uu 26), (0, uu 27), (0, uu 28), (0, uu 29), (0, uu 30), (0, uu 31), (0, uu 32), (0, uu 33), (0, uu 34), (0, uu 35), (0, uu 36), (0, uu 37), (0, uu 38), (0, uu 39), (0, uu 40), (0, uu 41), (0, uu 42), (0, uu 43), (0, uu 44), (0, uu 45), (0, uu 46), (0, uu 47), (0, uu 48), (0, uu 49), (0, uu 50), (0, uu 51)]) (fun (zs : List LRow) (p2 : Option Addr) (c2 : Nat) => [Wk.row 150 6 p2 zs.length c2 (encL zs)]) (fun (zs : List LRow) (p2 : Option Addr) (c2 : Nat) => [GlF p rows, GlF q l]) (fun (zs : List LRow) (p2 : Option Addr) (c2 : Nat) => rsP zs = putP (rsP ys) (nthG l k).r ∧ zs.length ≤ ys.length + 1 ∧ ∀ y ∈ zs, y ∈ ys ∨ y ∈ l) ?_ ?_
      · refine c_block ?_
        refine c_seq ?_
        have hkl : k < l.length := by simp at h3; omega
        have hK : KLt k l.length := ⟨hkl⟩
        have hsort : SortedP (rsP ys) := by rw [hrel]; exact behP_sorted _ _ hup
        have hcap : ys.length ≤ c' ∧ c' ≤ maxLen := ⟨own_le (S.row p' ys.length), own_capV (S.row p' ys.length)⟩
        have hA : Stable (fun _ => False) w (AllI ys) := fun w' hw' y hy => by
          rcases hmem y hy with h | h
          · exact (S.gl0 p).later hw' |>.now.2 y h
          · exact (S.gl0 q).later hw' |>.now.2 y h
        replace S := S.add (Φ := AllI ys) (fun w' hw' y hy => by
          rcases hmem y hy with h | h
          · exact ((S.mem.fact (GlF p rows)) w' hw').2 y h
          · exact ((S.mem.fact (GlF q l)) w' hw').2 y h)
        refine c_region ?_
        iterate 2 (refine sq S ?_; clear S; intro a S)
        refine sa S ?_; clear S; intro b7 a w S
        refine sw S ?_; clear S; intro a w S
        refine wl_nil ?_
        refine xtn ?_
        refine c_seq ?_
        refine c_region ?_
        iterate 3 (refine sq S ?_; clear S; intro a S)
        refine sr S (rsearch_c ys p' ys.length c' (nthG l k).name w rfl (by omega) (gl_own (S.row p' ys.length) ((S.mem.fact (AllI ys)).less fun _ _ h => h.elim) (fun _ _ h => h)) hsort) ?_; clear S; rintro _ a w ⟨i, b, rfl, hat⟩ S
        have hput := putP_row ys (nthG l k) i b hat
        have hil := hat.le
        iterate 5 (refine sq S ?_; clear S; intro a S)
        refine wl_nil ?_
        refine xtn ?_
        refine c_seq ?_
        refine c_region ?_
        refine sq S ?_; clear S; intro a S
        refine sa S ?_; clear S; intro b10 a w S
        refine sw S ?_; clear S; intro a w S
        refine wl_nil ?_
        refine xtn ?_
        refine c_block ?_
        refine c_seq ?_
        refine c_region ?_
        refine sq S ?_; clear S; intro a S
        refine sc S ?_; clear S; intro a w S
        refine sq S ?_; clear S; intro a S
        refine gQ S ?_; clear S; intro a S
        iterate 2 (refine sq S ?_; clear S; intro a S)
        refine wl_nil ?_
        refine xtn ?_
        refine c_cond S (fun h8 => ?_) (fun h8 => ?_)
        · refine c_region ?_
          iterate 3 (refine sq S ?_; clear S; intro a S)
          have hb : b = true := by simp at h8; exact h8.2
          have hg : goneP (nthG l k).r = true := show sameF (nthG l k).term.t zeroT = true by simp at h8; exact h8.1
          have hib := hat.lt hb
          rw [hb, hg] at hput
          refine sq S ?_; clear S; intro a S
          rw [show IntKind.i64.wrap ((i : Int) + 1) = ((i + 1 : Nat) : Int) from w64 _ (by omega) (by omega)] at S
          refine sit (Wk.row 150 6 p' ys.length c' (encL ys)) S (rdelete_c ys i p' ys.length c' w hib rfl (by omega) (S.row p' ys.length)) rfl ?_; clear S; rintro _ a w ⟨rfl, hown2⟩ hS
          have S := hS (Wk.row 150 6 p' (ys.length - 1) c' (encL (ys.eraseIdx i))) hown2 (fun k h => .inl h)
          rw [show ys.length - 1 = (ys.eraseIdx i).length from by rw [List.length_eraseIdx, if_pos hib]] at S
          clear hS
          refine sq S ?_; clear S; intro a S
          refine wl_nil ?_
          iterate 2 (refine xbn ?_)
          refine xtn ?_
          exact ⟨ys.eraseIdx i, p', c', S.uu, ⟨hput.symm, by have := List.length_eraseIdx_le ys i; omega, fun y hy => .inl (List.mem_of_mem_eraseIdx hy)⟩, S.sub _ _⟩
        · refine c_seq ?_
          refine c_region ?_
          refine sq S ?_; clear S; intro a S
          refine sc S ?_; clear S; intro a w S
          refine sq S ?_; clear S; intro a S
          refine wl_nil ?_
          refine xtn ?_
          refine c_cond S (fun h10 => ?_) (fun h10 => ?_)
          · refine c_skip ?_
            iterate 2 (refine xbn ?_)
            refine xtn ?_
            have hg : goneP (nthG l k).r = true := show sameF (nthG l k).term.t zeroT = true by simpa using h10
            have hb : b = false := by
              have h8' : (sameF (nthG l k).term.t zeroT && b) = false := by simpa using h8
              rw [show sameF (nthG l k).term.t zeroT = true from hg] at h8'
              exact h8'
            rw [hb, hg] at hput
            exact ⟨ys, p', c', S.uu, ⟨hput.symm, by omega, fun y hy => .inl hy⟩, S.sub _ _⟩
          · refine c_seq ?_
            refine c_region ?_
            iterate 2 (refine sq S ?_; clear S; intro a S)
            refine wl_nil ?_
            refine xtn ?_
            refine c_cond S (fun h11 => ?_) (fun h11 => ?_)
            · refine c_region ?_
              iterate 3 (refine sq S ?_; clear S; intro a S)
              have hb : b = true := by simpa using h11
              have hg : goneP (nthG l k).r = false := show sameF (nthG l k).term.t zeroT = false by simpa using h10
              have hib := hat.lt hb
              have hK2 : KLt i ys.length := ⟨hib⟩
              rw [hb, hg] at hput
              refine sq S ?_; clear S; intro a S
              refine sws S ys.length (by omega) (by omega) ?_; clear S; intro a w S
              rw [encR_set ys i (nthG l k) hib] at S
              refine wl_nil ?_
              iterate 2 (refine xbn ?_)
              refine xtn ?_
              rw [show ys.length = (ys.set i (nthG l k)).length from (List.length_set ..).symm] at S
              exact ⟨ys.set i (nthG l k), p', c', S.uu, ⟨hput.symm, by simp, fun y hy => (List.mem_or_eq_of_mem_set hy).imp id (fun h => by rw [h]; exact nthG_mem hkl)⟩, S.sub _ _⟩
            · have hb : b = false := by simpa using h11
              have hg : goneP (nthG l k).r = false := show sameF (nthG l k).term.t zeroT = false by simpa using h10
              rw [hb, hg] at hput
              refine c_region ?_
              iterate 3 (refine sq S ?_; clear S; intro a S)
              refine sn S ?_; clear S; intro b30 a w S
              have hap : ∀ ad, p' = some ad → b30 ≠ ad.block := fun ad had he => St.apart2 S (Wk.box b30 150 (cRow (nthG l k))) (Wk.row 150 6 p' ys.length c' (encL ys)) b30 rfl ⟨ad, had, he⟩
              replace S := S.boxToF b30
              refine sit (Wk.row 150 6 p' ys.length c' (encL ys)) S (rinsert_c ys (nthG l k) i ys.length c' b30 150 p' w (by omega) (by omega) hcap.1 hcap.2 rfl (S.row p' ys.length) (S.rowFact p' ys.length (Φ := BoxF b30 150 (cRow (nthG l k))) (List.mem_cons_self ..)) hap) rfl ?_; clear S; rintro _ a w ⟨p2, c2, rfl, hown2, hnew2⟩ hS
              have S := hS (Wk.row 150 6 p2 (ys.length + 1) c2 (encL (ys.take i ++ [nthG l k] ++ ys.drop i))) hown2 (fun k ⟨ad, h1, h2⟩ => (hnew2 ad h1).imp (fun ⟨ad', h3, h4⟩ => ⟨ad', h3, h2.trans h4⟩) (fun h => by rw [h2]; exact h))
              clear hS
              have hnl : ys.length + 1 = (ys.take i ++ [nthG l k] ++ ys.drop i).length := by simp; omega
              rw [hnl] at S
              refine sq S ?_; clear S; intro a S
              refine wl_nil ?_
              iterate 2 (refine xbn ?_)
              refine xtn ?_
              exact ⟨ys.take i ++ [nthG l k] ++ ys.drop i, p2, c2, S.uu, ⟨hput.symm, by omega, fun y hy => by
                simp only [List.mem_append, List.mem_singleton] at hy
                rcases hy with (h | h) | h
                · exact .inl (List.mem_of_mem_take h)
                · rw [h]; exact .inr (nthG_mem hkl)
                · exact .inl (List.mem_of_mem_drop h)⟩, S.sub _ _⟩
      · clear S; rintro zs p2 c2 uu a w ⟨hz1, hz2, hz3⟩ S
        refine c_region ?_
        iterate 2 (refine sq S ?_; clear S; intro a S)
        refine wl_nil ?_
        refine xtn ?_
        have hkl : k < l.length := by simp at h3; omega
        rw [w64 ((k : Int) + 1) (by omega) (by omega)] at S
        refine ⟨k + 1, zs, p2, c2, S.uu, ⟨hkl, by omega, ?_, ?_⟩, S.sub _ _, by omega⟩
        · rw [hz1, hrel, take_snocG hkl, rsP, rsP, rsP, List.map_append, behP, behP, List.foldl_append]; rfl
        · intro y hy
          exact (hz3 y hy).elim (fun h => hmem y h) .inr
    · refine c_exit ?_
      iterate 2 (refine xte ?_)
      refine xbe ?_
      refine xtn ?_
      refine c_seq ?_
      refine c_region ?_
      iterate 2 (refine sq S ?_; clear S; intro a S)
      refine wl_nil ?_
      refine xtn ?_
      refine c_ret ?_
      have hk2 : l.length ≤ k := by simp at h3; omega
      rw [List.take_of_length_le hk2] at hrel
      have hrow := S.row p' ys.length
      have hnew := S.rowNew p' ys.length
      exact end1 S (fun _ => ⟨ys, p', c', rfl, hrow, fun ad h => (hnew ad h).elim (fun h => h.elim) id, hrel, hmem⟩)
end Go.Proofs.YtdakncgafdnjfaaGreat
namespace Go.Proofs.YtdakncgafdnjfaaGreat
open Go Go.Wk
set_option synthInstance.maxSize 100000
set_option synthInstance.maxHeartbeats 400000
set_option maxRecDepth 100000
def alV (b : Nat) : Value := .func (.func 190) #[] ⟨[.pointer (some ⟨b, 0, none⟩)]⟩
theorem all_vf (p : Option Addr) (n c : Nat) (w0 : World) : Ret Tryz.prog 96 [.slice p n c] w0 (fun _ => False) fun v w' => ∃ b, v = alV b ∧ w0.heap.size ≤ b ∧ BoxF b 142 [.slice p n c] w' := by
  refine enter Tryz.func96 rfl rfl (Wd.start w0) (fun a S => ?_)
  simp only [Tryz.ntmps96, List.length_cons, List.length_nil, Nat.reduceAdd, Nat.reduceSub, List.replicate_succ, List.replicate_zero, List.cons_append, List.nil_append] at S
  refine c_seq ?_
  refine c_region ?_
  refine sa S ?_; clear S; intro b1 a w S
  refine sq S ?_; clear S; intro a S
  refine wl_nil ?_
  refine xtn ?_
  refine c_seq ?_
  refine c_region ?_
  iterate 2 (refine sq S ?_; clear S; intro a S)
  refine wl_nil ?_
  refine xtn ?_
  refine c_ret ?_
  have h1 := S.boxF b1
  have n1 := S.boxNew b1
  refine end1 S (fun _ => ?_)
  exact ⟨b1, rfl, n1.elim (fun h => h.elim) id, h1⟩
theorem all_vit (b : Nat) (xs : List LRow) (p : Option Addr) (c : Nat) (hl : xs.length ≤ 1000000) (w0 : World) (M : Nat → Prop) (hM : ∀ k, M k → k < w0.heap.size) (f1 : Stable M w0 (BoxF b 142 [.slice p xs.length c])) (f2 : Stable M w0 (GlF p xs)) :
    IterRet Tryz.prog 190 [.pointer (some ⟨b, 0, none⟩)] w0 M (fun (y : LRow) vs _ _ => vs = [vRow y]) xs := by
  intro L J Jx hy hJ
  have hF : ∀ Φ ∈ [BoxF b 142 [.slice p xs.length c], GlF p xs], Stable M w0 Φ := by simp; exact ⟨f1, f2⟩
  refine (callsIn_wide (n := 0)).2 ?_
  refine enter Tryz.func190 rfl rfl (Wd.beginM (M := M) (fs := [BoxF b 142 [.slice p xs.length c], GlF p xs]) hM hF) (fun a S => ?_)
  simp only [Tryz.ntmps190, List.length_cons, List.length_nil, Nat.reduceAdd, Nat.reduceSub, List.replicate_succ, List.replicate_zero, List.cons_append, List.nil_append] at S
  refine c_seq ?_
  refine c_region ?_
  iterate 3 (refine sq S ?_; clear S; intro a S)
  refine wl_nil ?_
  refine xtn ?_
  refine c_block ?_
  refine c_loop (ι := Nat) (fun k a w => k ≤ xs.length ∧ ∃ N w1, J k w1 ∧ ∃ uu : Nat → Value,  St w1 (fun _ => False) [] a w ((.func (.yield L) #[] #[]) :: (.pointer (some ⟨b, 0, none⟩)) :: uu 2 :: uu 3 :: uu 4 :: (.slice p xs.length c) :: (.int .i64 xs.length) :: (.int .i64 (k : Nat)) :: uu 8 :: uu 9 :: uu 10 :: uu 11 :: uu 12 :: uu 13 :: uu 14 :: uu 15 :: []) [ext N] [BoxF b 142 [.slice p xs.length c], GlF p xs]) (fun k => xs.length - k) 0 ?_ ?_
  · exact ⟨Nat.zero_le _, M, w0, hJ, S.uu, S⟩
  · clear S
    rintro k a w ⟨hk, N, w1, hJk, uu, S⟩
    refine c_seq ?_
    refine c_region ?_
    refine sq S ?_; clear S; intro a S
    refine wl_nil ?_
    refine xtn ?_
    refine c_seq ?_
    refine c_cond S (fun h1 => ?_) (fun h1 => ?_)
    · refine c_skip ?_
      refine xtn ?_
      refine c_seq ?_
      refine c_block ?_
      refine c_seq ?_
      have hkl : k < xs.length := by simp at h1; omega
      have hK : KLt k xs.length := ⟨hkl⟩
      refine c_region ?_
      iterate 2 (refine sq S ?_; clear S; intro a S)
      refine sa S ?_; clear S; intro b4 a w S
      refine sw S ?_; clear S; intro a w S
      refine wl_nil ?_
      refine xtn ?_
      refine c_seq ?_
      refine c_region ?_
      iterate 2 (refine sq S ?_; clear S; intro a S)
      refine sy S (M := M) (wI := w0) (fs0 := [BoxF b 142 [.slice p xs.length c], GlF p xs]) hF (hy k _ _ w1 w (nthG_get hkl) hJk S.wd.agree rfl) ?_; clear S; intro ok N' a w2 hT hX S
      refine sq S ?_; clear S; intro a S
      refine wl_nil ?_
      refine xtn ?_
      refine c_cond S (fun h3 => ?_) (fun h3 => ?_)
      · refine c_ret ?_
        refine xbr ?_
        iterate 2 (refine xtr ?_)
        refine xbr ?_
        exact endI S ⟨w2, S.wd.agree, .inr (hX (by simpa using h3))⟩
      · refine c_skip ?_
        refine xbn ?_
        refine xtn ?_
        refine c_region ?_
        iterate 2 (refine sq S ?_; clear S; intro a S)
        refine wl_nil ?_
        refine xtn ?_
        rw [w64 ((k : Int) + 1) (by omega) (by omega)] at S
        exact ⟨k + 1, ⟨hkl, N', w2, hT (by simpa using h3), S.uu, S⟩, by omega⟩
    · refine c_exit ?_
      iterate 2 (refine xte ?_)
      refine xbe ?_
      refine endI S ⟨w1, S.wd.agree, .inl ?_⟩
      have h9 : k = xs.length := by simp at h1; omega
      rw [← h9]; exact hJk
theorem rappendSeq_c (gf : Nat) [EntF Tryz.prog gf] (lb : List Value) (ys : List LRow) (xs : List Value) (fs0 : List (World → Prop)) (p : Option Addr) (n c : Nat) (w0 : World) (hl : n + ys.length ≤ 10000000) (hown : w0.ownsRow 0 45 6 (.slice p n c) n xs)
    (hfs : ∀ Φ ∈ fs0, Stable (fun k => ∃ ad, p = some ad ∧ k = ad.block) w0 Φ)
    (hit : ∀ (M : Nat → Prop) (w1 : World), (∀ k, M k → k < w1.heap.size) → (∀ Φ ∈ fs0, Stable M w1 Φ) → IterRet Tryz.prog gf lb w1 M (fun (x : LRow) vs _ _ => vs = [vRow x]) ys) :
    Ret Tryz.prog 189 [.slice p n c, .func (.func gf) #[] ⟨lb⟩] w0 (fun k => ∃ ad, p = some ad ∧ k = ad.block) fun v w' =>
      ∃ p' c', v = .slice p' (n + ys.length) c' ∧ w'.ownsRow 0 45 6 (.slice p' (n + ys.length) c') (n + ys.length) (xs ++ encL ys) ∧ ∀ ad, p' = some ad → (∃ ad', p = some ad' ∧ ad.block = ad'.block) ∨ w0.heap.size ≤ ad.block := by
  refine enterM Tryz.func189 rfl rfl (Wd.rowLent hown hfs) (fun a S => ?_)
  simp only [Tryz.ntmps189, List.length_cons, List.length_nil, Nat.reduceAdd, Nat.reduceSub, List.replicate_succ, List.replicate_zero, List.cons_append, List.nil_append] at S
  refine c_seq ?_
  refine c_region ?_
  refine sa S ?_; clear S; intro b2 a w S
  refine sq S ?_; clear S; intro a S
  refine wl_nil ?_
  refine xtn ?_
  iterate 2 (refine c_seq ?_)
  refine c_region ?_
  refine sq S ?_; clear S; intro a S
  refine wl_nil ?_
  refine xtn ?_
  refine c_block ?_
  refine c_range (κ := Option Addr × Nat) (κx := Empty) (Ds := []) ys
    (fun i k => [Wk.box b2 22 [.slice k.1 (n + i) k.2], marks [], Wk.row 45 6 k.1 (n + i) k.2 (xs ++ encL (ys.take i))]) (fun _ _ => fs0) (fun _ _ => True) (fun k => k.elim) (fun k => k.elim) (fun _ k => k.elim) (p, c) S (fun M w1 hM hF _ => hit M w1 hM hF) ⟨trivial, by simp [encL], rfl⟩ ?_ ?_ ?_ ?_
  · clear S
    rintro L D bL M w1 i x vs ⟨p, c⟩ W0 w hx - hW0 hgr rfl
    refine ⟨_, inferInstance, fun a S => ?_⟩
    have hil : i < ys.length := (List.getElem?_eq_some_iff.1 hx).1
    have hti : ys.take (i + 1) = ys.take i ++ [x] := by rw [List.take_add_one, hx]; rfl
    have hKL : KLt (n + i) (n + i + 1) := ⟨by omega⟩
    have hrl : (xs ++ encL (ys.take i)).length = (n + i) * 6 := S.row p (n + i) |>.1
    refine c_region ?_
    refine sa S ?_; clear S; intro b5 a w S
    refine sw S ?_; clear S; intro a w S
    refine wl_nil ?_
    refine xtn ?_
    refine rbegin (D := D) (b := bL) S ?_; clear S; intro a w S
    refine c_block ?_
    refine c_region ?_
    iterate 2 (refine sq S ?_; clear S; intro a S)
    refine sn S ?_; clear S; intro b10 a w S
    refine sap S (by simp [maxLen]; omega) (by omega) ?_; clear S; rintro p2 c2 a w - S
    rw [List.append_assoc, show encL (ys.take i) ++ [str x.name, .int .i64 x.term.kind, .int .i64 x.term.user, .int .i64 x.term.num, str x.term.text, .slice x.term.p x.term.kids.length x.term.cap] = encL (ys.take (i + 1)) from by rw [hti, encL_append]; rfl] at S
    refine sw S ?_; clear S; intro a w S
    refine wl_nil ?_
    refine xbn ?_
    replace S := S.sub [lpI L D (lpR bL .busy none), Wk.box b2 22 [.slice p2 (n + i + 1) c2], marks [], Wk.row 45 6 p2 (n + i + 1) c2 (xs ++ encL (ys.take (i + 1)))] fs0
    exact rnext (D := D) (b := bL) S fun W hW => ⟨(p2, c2), trivial, hW⟩
  · clear S
    rintro D ⟨p2, c2⟩ a w - S
    refine xbn ?_
    refine xtn ?_
    refine c_seq ?_
    refine c_region ?_
    iterate 2 (refine sq S ?_; clear S; intro a S)
    refine wl_nil ?_
    refine xtn ?_
    refine c_ret ?_
    replace S := S.join (Ds := [])
    have hrow := S.row p2 (n + ys.length)
    have hnew := S.rowNew p2 (n + ys.length)
    refine endM1 S (fun w hw => ?_)
    have h1 := hw.held (Wk.row 45 6 p2 (n + ys.length) c2 (xs ++ encL (ys.take ys.length))) (by simp)
    rw [List.take_length] at h1
    exact ⟨p2, c2, rfl, h1, hnew⟩
  · intro D k; exact k.elim
  · intro id D k; exact k.elim
theorem collectR_c (b : Nat) (xs : List LRow) (p : Option Addr) (c : Nat) (hl : xs.length ≤ 1000000) (w0 : World) (f1 : Stable (fun _ => False) w0 (BoxF b 142 [.slice p xs.length c])) (f2 : Stable (fun _ => False) w0 (GlF p xs)) :
    Ret Tryz.prog 95 [alV b] w0 (fun _ => False) fun v w' => ∃ p' c', v = .slice p' xs.length c' ∧ w'.ownsRow 0 45 6 (.slice p' xs.length c') xs.length (encL xs) ∧ ∀ ad, p' = some ad → w0.heap.size ≤ ad.block := by
  refine enter Tryz.func95 rfl rfl (Wd.begin (fs := [BoxF b 142 [.slice p xs.length c], GlF p xs]) (by simp; exact ⟨f1, f2⟩)) (fun a S => ?_)
  simp only [Tryz.ntmps95, List.length_cons, List.length_nil, Nat.reduceAdd, Nat.reduceSub, List.replicate_succ, List.replicate_zero, List.cons_append, List.nil_append] at S
  refine c_seq ?_
  refine c_region ?_
  refine sq S ?_; clear S; intro a S
  refine wl_nil ?_
  refine xtn ?_
  refine c_seq ?_
  refine c_region ?_
  refine sq S ?_; clear S; intro a S
  replace S := S.addNil 45 6
  refine srg none 0 S (rappendSeq_c 190 [.pointer (some ⟨b, 0, none⟩)] xs [] [BoxF b 142 [.slice p xs.length c], GlF p xs] none 0 0 _ (by omega) (S.row none 0) (fun Φ hΦ => by
    simp only [List.mem_cons, List.not_mem_nil, or_false] at hΦ
    rcases hΦ with rfl | rfl
    · exact (S.mem.fact (BoxF b 142 [.slice p xs.length c])).less fun _ _ ⟨_, h, _⟩ => by cases h
    · exact (S.mem.fact (GlF p xs)).less fun _ _ ⟨_, h, _⟩ => by cases h) (fun M w1 hM hF => all_vit b xs p c hl w1 M hM (hF _ (by simp)) (hF _ (by simp)))) ?_; clear S; rintro _ a w ⟨p2, c2, rfl, hown2, hnew2⟩ hS
  have S := hS _ hown2 hnew2
  clear hS
  rw [List.nil_append, Nat.zero_add] at S
  refine sq S ?_; clear S; intro a S
  refine wl_nil ?_
  refine xtn ?_
  refine c_ret ?_
  have hrow := S.row p2 xs.length
  have hnew := S.rowNew p2 xs.length
  refine end1 S (fun _ => ?_)
  exact ⟨p2, c2, rfl, hrow, fun ad h => (hnew ad h).elim (fun h => h.elim) id⟩
end Go.Proofs.YtdakncgafdnjfaaGreat
namespace Go.Wk
open Go
section
variable {P : Program} {r : Option Nat} {ops : Array Oper} {Q : Exit → Act → World → Prop} {w0 : World} {M0 : Nat → Prop} {ds : List Deferred} {a : Act} {w : World} {l : List Value} {bs : List Item} {fs : List (World → Prop)}
  {d : Option Nat} {ty t tx e : TypeId} {pos : String} {af : Array Edge} {rest : List Oper} {x y : Operand} {by_ c sz m : Nat} {z : Value}
theorem sapG (ad : Addr) (n : Nat) (olds : List Value) {xv : Value} {news : List Value} {l' : Nat → Nat → List Value} (S : St w0 M0 ds a w l bs fs)
    [Ev ⟨[], l⟩ x (.slice (some ad) n c)] [Ev ⟨[], l⟩ y xv] [ht : Und P t (.slice e)] [hti : TI P e z sz by_] {zc : List Value} [hzc : Cells z zc] [hzl : LenIs zc sz] [hs : SrcV P tx xv bs fs sz m news]
    [hp : ∀ g c', PutO l d (.slice (some ⟨g, 0, none⟩) (n + m) c') (l' g c')] (hl : olds.length = n * sz) (hold : ∀ j u, olds[j]? = some u → w.cell? (ad.add j) = some u) (hg : c < n + m)
    (h63 : n + m ≤ maxLen) (hb : (n + m) * by_ ≤ 140737488355328)
    (K : ∀ g c' a w, St w0 M0 ds a w (l' g c') (row e sz (some ⟨g, 0, none⟩) (n + m) c' (olds ++ news) :: bs) fs → WL P r ops Q rest a w) :
    WL P r ops Q (⟨d, .call { callee := .builtin .append, args := #[x, y], argTypes := #[t, tx] }, ty, pos, af, none⟩ :: rest) a w := by
  refine wl_plain rfl ?_
  rw [semAt_nd rfl]
  obtain ⟨ii, hi, hz', hsize, hby⟩ := hti.ex
  subst hsize hby
  have hsrc := hs.src w S.wd.mem
  have hr := run_append_grow_src (P := P) w t tx ty e ii z ht.eq hi hz' (some ad) n c olds (by
    have := run_firstCells_some (P := P) w.drew ii.size n ad n c olds hl (fun j u hu => by simpa using hold j u hu)
    simpa using this) xv m news hsrc hg (by simp only [maxLen] at h63; omega) (growslice_fits hg hb)
  have hlen : (olds ++ news).length = (n + m) * ii.size := by rw [List.length_append, hl, hsrc.newsLen, Nat.add_mul]
  have hzs : z.cells.size = ii.size := by rw [← Array.length_toList, hzc.eq, hzl.eq]
  have hown : (w.drew.alloc (.cells ((olds ++ news).toArray ++ Builtin.zeroCells z.cells (grownCap w (n + m) c e - (n + m))) e)).ownsRow 0 e ii.size (.slice (some ⟨w.heap.size, 0, none⟩) (n + m) (grownCap w (n + m) c e)) (n + m) (olds ++ news) := by
    refine ⟨hlen, .inr ⟨w.heap.size, _, _, rfl, Nat.zero_le _, heap_alloc_new w.drew _, grownCap_ge _ _ _ _, grownCap_le_maxLen w (n + m) c e h63, ?_, ?_⟩⟩
    · have := grownCap_ge w (n + m) c e
      rw [Array.size_append, size_zeroCells, hzs, List.size_toArray, hlen, ← Nat.add_mul]
      congr 1; omega
    · rw [← hlen, Array.toList_append]
      exact List.take_left
  have hag : Agree (fun _ => False) w (w.drew.alloc (.cells ((olds ++ news).toArray ++ Builtin.zeroCells z.cells (grownCap w (n + m) c e - (n + m))) e)) := (Agree.drawn _ w _).trans (Agree.alloc _ w.drew _)
  generalize w.drew.alloc (.cells ((olds ++ news).toArray ++ Builtin.zeroCells z.cells (grownCap w (n + m) c e - (n + m))) e) = w' at hr hown hag
  generalize grownCap w (n + m) c e = c' at hr hown
  have e1 : (xop a.eval (.call { callee := .builtin .append, args := #[x, y], argTypes := #[t, tx] }) ty).run P w = .ok (.value (.slice (some ⟨w.heap.size, 0, none⟩) (n + m) c')) w' := by
    simp [xop, execOp, resolve, invoke, builtin, S.fr.ev (x := x) (v := .slice (some ad) n c), S.fr.ev (x := y) (v := xv), Sem.run_bind, hr]
  simp only [e1, Oper.uponIn]
  have := hp w.heap.size c'
  have S' := S.put (d := d) (v := .slice (some ⟨w.heap.size, 0, none⟩) (n + m) c')
  exact K w.heap.size c' _ w' ⟨S'.slots, S'.defers, S'.wd.addRow hag hown (fun ad h => by cases h; exact Nat.le_refl _)⟩
theorem scpB (b n m : Nat) {T : TypeId} {cs : List Value} (ys : List UInt8) {q : Option Addr} {cd cy : Nat} {bs' : List Item} {l' : List Value} (S : St w0 M0 ds a w l bs fs) [Ev ⟨[], l⟩ x (.slice (some ⟨b, 0, none⟩) n cd)] [Ev ⟨[], l⟩ y (.slice q m cy)] [ht : Und P t (.slice e)] [hti : TI P e z 1 by_] [HasBox bs b T cs]
    [hrep : ReplI bs (box b T cs) (box b T ((encL ys).take n ++ cs.drop m)) bs'] [hp : PutO l d (.int .i64 ((min m n : Nat) : Int)) l'] (hq : SlF q (encL ys) w) (hy : ys.length = m) (hc : cs.length = n) (K : ∀ a w, St w0 M0 ds a w l' bs' fs → WL P r ops Q rest a w) :
    WL P r ops Q (⟨d, .call { callee := .builtin .copy, args := #[x, y], argTypes := #[t, tx] }, ty, pos, af, none⟩ :: rest) a w := by
  refine wl_plain rfl ?_
  rw [semAt_nd rfl]
  have hb := S.box b
  have S' := S.put (d := d) (v := .int .i64 ((min m n : Nat) : Int)) (l' := l')
  have hel : (encL ys).length = m := by rw [encL_len, hy]; exact Nat.mul_one _
  have hnl : ((encL ys).take (min m n)).length = min m n := by rw [List.length_take, hel]; omega
  have hcells : (Builtin.firstCells 1 (min m n) (.slice q m cy)).run P w = .ok ((encL ys).take (min m n)).toArray w := by
    cases hqq : q with
    | none =>
      have h1 := hq.1 hqq
      have h2 : m = 0 := by rw [← hel, h1]; rfl
      subst h2
      rw [h1, Nat.zero_min]
      exact run_firstCells_none w 1 0 0 cy
    | some ad =>
      refine run_firstCells_some w 1 (min m n) ad m cy _ (by rw [hnl, Nat.mul_one]) (fun j u hj => hq.2 ad hqq j u ?_)
      rw [List.getElem?_take] at hj
      split at hj
      · exact hj
      · cases hj
  have hst := run_storeCells_at (P := P) b 0 T ((encL ys).take (min m n)) 0 cs.toArray w hb (by rw [hnl]; simp [hc]; omega) (fun u hu => encL_one ys u (List.mem_of_mem_take hu))
  have e0 : (cs.toArray.toList.take 0 ++ (encL ys).take (min m n) ++ cs.toArray.toList.drop (0 + ((encL ys).take (min m n)).length)) = (encL ys).take n ++ cs.drop m := by
    rw [hnl]
    rcases Nat.le_total m n with h | h
    · rw [Nat.min_eq_left h, List.take_of_length_le (by omega : (encL ys).length ≤ m), List.take_of_length_le (by omega : (encL ys).length ≤ n)]; simp
    · rw [Nat.min_eq_right h]; simp; omega
  simp only [Nat.zero_add] at hst e0
  rw [e0] at hst
  have hrun : (Builtin.copy_ #[t, tx] ty #[.slice (some ⟨b, 0, none⟩) n cd, .slice q m cy]).run P w = .ok (.int .i64 ((min m n : Nat) : Int)) (w.setRow b ((encL ys).take n ++ cs.drop m).toArray) := by
    have h1 : (storeCells ⟨b, 0, none⟩ ((encL ys).take (min m n))).run P w = .ok () (w.setRow b ((encL ys).take n ++ cs.drop m).toArray) := by simpa using hst
    have h2 : Nat.min m n = min m n := rfl
    simp [Builtin.copy_, Sem.run_bind, run_und, run_size, Builtin.lenOf, h2, hcells, h1, goInt]
  have e1 : (xop a.eval (.call { callee := .builtin .copy, args := #[x, y], argTypes := #[t, tx] }) ty).run P w = .ok (.value (.int .i64 ((min m n : Nat) : Int))) (w.setRow b ((encL ys).take n ++ cs.drop m).toArray) := by
    simp [xop, execOp, resolve, invoke, builtin, S.fr.ev (x := x) (v := .slice (some ⟨b, 0, none⟩) n cd), S.fr.ev (x := y) (v := .slice q m cy), Sem.run_bind, hrun]
  simp only [e1, Oper.uponIn]
  have hh : (box b T ((encL ys).take n ++ cs.drop m)).holds (w.setRow b ((encL ys).take n ++ cs.drop m).toArray) := setRow_heap w b cs.toArray _ T _ hb
  exact K _ _ (S.reput (x := box b T cs) (y := box b T ((encL ys).take n ++ cs.drop m)) S'.slots S'.defers rfl (Agree.setRow w b _ rfl) hh (fun k h => .inl h) (ItOk.lt _ hh) ItOk.loc)
end
theorem run_idx {P : Program} {ty t e : TypeId} {l : Cx} {x y : Operand} {n : Nat} {kk : IntKind} {z : Value} {by_ : Nat} {ρ : Operand → Value} (vs : List Value) (k : Nat) (v : Value) [Ev l x (.agg ⟨vs⟩)] [Ev l y (.int kk (k : Int))] [ht : Und P t (.array n e)] [hti : TI P e z 1 by_] [ha : AggT P e false] (hv : vs[k]? = some v) (hn : vs.length = n) (h : Fr ρ l) (w : World) :
    (xop ρ (.index t x y) ty).run P w = .ok (.value v) w := by
  have hlt : k < vs.length := (List.getElem?_eq_some_iff.1 hv).1
  have e2 : (⟨vs⟩ : Array Value)[k]? = some v := by simpa using hv
  have e3 : k < (⟨vs⟩ : Array Value).size := hlt
  simp [xop, execOp, h.ev (x := x) (v := .agg ⟨vs⟩), h.ev (x := y) (v := .int kk (k : Int)), Instr.index, asIntOf, Sem.run_bind, run_und, run_size, part, ha.run, e2]
  rw [if_pos (by rw [← hn]; exact hlt), hv]
  rfl
theorem run_eqItemsB {P : Program} (d : Nat) {e : TypeId} (he : P.underlying e = some (.int .u8)) [ha : AggT P e false] (w : World) (x y : List UInt8) : ∀ is : List Nat, (∀ i ∈ is, i < x.length ∧ i < y.length) →
    (Op.eqItems (d + 1) e 1 ⟨encL x⟩ ⟨encL y⟩ is).run P w = .ok (is.all fun i => decide (x[i]? = y[i]?)) w
  | [], _ => by simp [Op.eqItems]
  | i :: is, h => by
    have h0 := h i (List.mem_cons_self ..)
    have ih := run_eqItemsB d he w x y is (fun j hj => h j (List.mem_cons_of_mem _ hj))
    have ex : ∀ (z : List UInt8) (hz : i < z.length), (part e ⟨encL z⟩ (i * 1)).run P w = .ok (.int .u8 (z[i].toNat : Int)) w := fun z hz => by
      have h1 : (encL z)[i]? = some (.int .u8 (z[i].toNat : Int)) := by
        have h2 := encL_get z i z[i] (List.getElem?_eq_getElem hz) 0 (by decide)
        have h3 : i * Enc.sz UInt8 + 0 = i := Nat.mul_one i
        rw [h3] at h2
        rw [h2]; rfl
      have h2 : (⟨encL z⟩ : Array Value)[i]? = some (.int .u8 (z[i].toNat : Int)) := by simpa using h1
      have h3 : i < (encL z).length := (List.getElem?_eq_some_iff.1 h1).1
      simp [part, Sem.run_bind, ha.run, h2]
      done
    have eq : (Op.equalIn (d + 1) e (.int .u8 (x[i].toNat : Int)) (.int .u8 (y[i].toNat : Int))).run P w = .ok ((x[i].toNat : Int) == (y[i].toNat : Int)) w := run_equalIn_int w d e .u8 .u8 _ _ he
    have hb : ((x[i].toNat : Int) == (y[i].toNat : Int)) = decide (x[i]? = y[i]?) := by
      rw [List.getElem?_eq_getElem h0.1, List.getElem?_eq_getElem h0.2, Bool.eq_iff_iff]
      simp only [beq_iff_eq, decide_eq_true_eq, Option.some.injEq]
      exact ⟨fun h => UInt8.toNat.inj (Int.ofNat.inj h), fun h => by rw [h]⟩
    simp only [Op.eqItems, Sem.run_bind, ex x h0.1, ex y h0.2, eq, Result.andThen_ok, List.all_cons, hb]
    cases h5 : decide (x[i]? = y[i]?) with
    | false => simp
    | true => simp [ih]
theorem blk_len (u : Blk) : u.l.length = 64 := by
  have h := u.len
  rw [encL_len] at h
  exact (Nat.mul_one _).symm.trans h
class EqG (P : Program) (t : TypeId) : Prop where eq : P.eqGuardType P.depth t = false
theorem run_eqB {P : Program} (w : World) {t e : TypeId} {n by_ : Nat} {z : Value} (x y : List UInt8) (hu : P.underlying t = some (.array n e)) (he : P.underlying e = some (.int .u8)) [ha : AggT P e false] [hti : TI P e z 1 by_] (hx : x.length = n) (hy : y.length = n) :
    (Op.equalIn 10000 t (.agg ⟨encL x⟩) (.agg ⟨encL y⟩)).run P w = .ok (decide (x = y)) w := by
  obtain ⟨ii, hi, hz, hs, hb⟩ := hti.ex
  have hc : P.cellsOf e = 1 := by simp [Program.cellsOf, hi, hs]
  rw [show (10000 : Nat) = 9999 + 1 from rfl, run_equalIn_array w 9999 _ _ hu hi, hc, run_eqItemsB 9998 he w x y _ (fun i hi => by rw [List.mem_range] at hi; omega)]
  congr 1
  rw [Bool.eq_iff_iff, List.all_eq_true]
  simp only [List.mem_range, decide_eq_true_eq]
  exact ⟨fun h => List.ext_getElem? fun i => by
    rcases Nat.lt_or_ge i n with h1 | h1
    · exact h i h1
    · rw [List.getElem?_eq_none (by omega), List.getElem?_eq_none (by omega)], fun h i _ => by rw [h]⟩
instance opBlkEql {P : Program} {l : Cx} {bs : List Item} {fs : List (World → Prop)} {x y : Operand} {t t' ty e : TypeId} {u v : Blk} {z : Value} {by_ : Nat} [Ev l x (.agg ⟨encL u.l⟩)] [Ev l y (.agg ⟨encL v.l⟩)] [ht : Und P t (.array 64 e)] [he : Und P e (.int .u8)] [AggT P e false] [TI P e z 1 by_] [hg : EqG P t] :
    OpQ P (.binOp .eql t x y t') ty l bs fs (.bool (decide (u.l = v.l))) := ⟨fun ρ w h _ => by
  simp [xop, execOp, h.ev (x := x) (v := .agg ⟨encL u.l⟩), h.ev (x := y) (v := .agg ⟨encL v.l⟩), Sem.run_bind, run_eqGuard_agg w .eql t x y _ _ hg.eq, run_eql_struct, run_eqB w u.l v.l ht.eq he.eq (blk_len u) (blk_len v)]⟩
instance opBlkNeq {P : Program} {l : Cx} {bs : List Item} {fs : List (World → Prop)} {x y : Operand} {t t' ty e : TypeId} {u v : Blk} {z : Value} {by_ : Nat} [Ev l x (.agg ⟨encL u.l⟩)] [Ev l y (.agg ⟨encL v.l⟩)] [ht : Und P t (.array 64 e)] [he : Und P e (.int .u8)] [AggT P e false] [TI P e z 1 by_] [hg : EqG P t] :
    OpQ P (.binOp .neq t x y t') ty l bs fs (.bool (!decide (u.l = v.l))) := ⟨fun ρ w h _ => by
  simp [xop, execOp, h.ev (x := x) (v := .agg ⟨encL u.l⟩), h.ev (x := y) (v := .agg ⟨encL v.l⟩), Sem.run_bind, run_eqGuard_agg w .neq t x y _ _ hg.eq, run_neq_struct, run_eqB w u.l v.l ht.eq he.eq (blk_len u) (blk_len v)]⟩
instance nz48 : NZ 48 := ⟨by decide⟩
end Go.Wk
namespace Go.Proofs.YtdakncgafdnjfaaGreat
open Go Go.Wk
set_option synthInstance.maxSize 100000
set_option synthInstance.maxHeartbeats 400000
set_option maxRecDepth 100000
def blkOf (l : List UInt8) : Blk := if h : l.length = 64 then ⟨l, h⟩ else zB
theorem blkOf_l {l : List UInt8} (h : l.length = 64) : (blkOf l).l = l := by rw [blkOf, dif_pos h]
def sealF (bs : List UInt8) : Blk := blkOf ((shaF bs).drop 28 ++ bs)
theorem sealF_l {bs : List UInt8} (h : bs.length = 60) : (sealF bs).l = (shaF bs).drop 28 ++ bs := blkOf_l (by rw [List.length_append, List.length_drop, shaF_len, h])
theorem sealed_c (bs : List UInt8) (p : Option Addr) (c : Nat) (w0 : World) (hn : bs.length = 60) (hx : Stable (fun _ => False) w0 (SlF p (encL bs))) :
    Ret Tryz.prog 178 [.slice p 60 c] w0 (fun _ => False) fun r _ => r = vBlk (sealF bs) := by
  have hLN : LenN bs 60 := ⟨hn⟩
  have hsl := shaF_len bs
  have hS32 : LenN (shaF bs) 32 := ⟨hsl⟩
  have hlen : LenIs (encL (shaF bs)) 32 := ⟨by rw [encL_len, hsl]; rfl⟩
  have hle1 : LeC 28 32 := ⟨by omega⟩
  have hle2 : LeC 32 32 := ⟨by omega⟩
  have hsf : SetFront (encL (List.replicate 32 (0 : UInt8))) (encL (shaF bs)) (encL (shaF bs)) := ⟨by rw [encL_len, encL_len, hsl]; exact Nat.le_refl _, by rw [List.drop_of_length_le (by rw [encL_len, encL_len, hsl]; exact Nat.le_refl _), List.append_nil]⟩
  refine enter Tryz.func178 rfl rfl (Wd.begin (fs := [SlF p (encL bs)]) (by simpa using hx)) (fun a S => ?_)
  simp only [Tryz.ntmps178, List.length_cons, List.length_nil, Nat.reduceAdd, Nat.reduceSub, List.replicate_succ, List.replicate_zero, List.cons_append, List.nil_append] at S
  refine c_seq ?_
  refine c_region ?_
  refine sa S ?_; clear S; intro b2 a w S
  refine wl_nil ?_
  refine xtn ?_
  refine c_seq ?_
  refine c_region ?_
  refine sq S ?_; clear S; intro a S
  refine sr S (sum_c bs p 60 c _ hn (by omega) ((S.fact (Φ := SlF p (encL bs)) (by simp)).less fun _ _ h => h.elim)) ?_; clear S; rintro _ a w rfl S
  refine sa S ?_; clear S; intro b3 a w S
  refine sw S ?_; clear S; intro a w S
  refine wl_nil ?_
  refine xtn ?_
  refine c_seq ?_
  refine c_region ?_
  iterate 2 (refine sq S ?_; clear S; intro a S)
  have hb := S.box b3
  refine sapG ⟨b3, 28, none⟩ 4 ((encL (shaF bs)).drop 28) S (by rw [List.length_drop, encL_len, hsl]; rfl) (fun j u hj => ?_) (by omega) (by simp only [maxLen]; omega) (by omega) ?_
  · rw [Addr.add_lit, cell_of_row _ b3 _ _ _ _ hb]
    rw [List.getElem?_drop] at hj
    simpa using hj
  clear S; intro g c' a w S
  rw [show (encL (shaF bs)).drop 28 = encL ((shaF bs).drop 28) from (encL_dropG (shaF bs) 28).symm, ← encL_append, ← sealF_l hn] at S
  have hrow := S.row (some ⟨g, 0, none⟩) (4 + 60)
  replace S := S.rowToGl (some ⟨g, 0, none⟩) (sealF bs).l (e := 5) (sz := 1) (n := 4 + 60) (c := c') (fun _ _ _ _ => trivial)
  replace S := S.add (Φ := BlkF ⟨g, 0, none⟩ (sealF bs)) ((S.mem.fact (GlF (some ⟨g, 0, none⟩) (sealF bs).l)).imp fun _ h j v hj => h.1.2 _ rfl j v hj)
  have hle3 : LeC 64 (4 + 60) := ⟨by omega⟩
  iterate 2 (refine sq S ?_; clear S; intro a S)
  refine sw S ?_; clear S; intro a w S
  refine wl_nil ?_
  refine xtn ?_
  refine c_ret ?_
  refine end1 S (fun _ => ?_)
  rfl
theorem wu32 (n : Int) (h1 : 0 ≤ n) (h2 : n ≤ 4294967295) : IntKind.u32.wrap n = n := by
  unfold IntKind.wrap; simp only [IntKind.bits, IntKind.signed]; simp; omega
theorem slNil (M : Nat → Prop) (w : World) : Stable M w (SlF none (encL ([] : List UInt8))) := fun _ _ => ⟨fun _ => rfl, fun _ h => by cases h⟩
def safeS : List UInt8 := [83, 65, 70, 69, 72, 79, 85, 83, 69]
def titleB (turn n : Int) : List UInt8 := be 4 n ++ be 4 turn ++ safeS ++ List.replicate 43 0
theorem titleB_len (turn n : Int) : (titleB turn n).length = 60 := by simp [titleB, be_len, safeS]
def titleF (turn n : Int) : Blk := sealF (titleB turn n)
theorem title_c (turn n : Int) (ht : 0 ≤ turn ∧ turn ≤ 4294967295) (hn : 0 ≤ n ∧ n ≤ 4294967295) (w0 : World) : Ret Tryz.prog 176 [.int .u32 turn, .int .i64 n] w0 (fun _ => False) fun r _ => r = vBlk (titleF turn n) := by
  refine enter Tryz.func176 rfl rfl (Wd.start w0) (fun a S => ?_)
  simp only [Tryz.ntmps176, List.length_cons, List.length_nil, Nat.reduceAdd, Nat.reduceSub, List.replicate_succ, List.replicate_zero, List.cons_append, List.nil_append] at S
  refine c_seq ?_
  refine c_region ?_
  refine sa S ?_; clear S; intro b4 a w S
  refine wl_nil ?_
  refine xtn ?_
  refine c_seq ?_
  refine c_region ?_
  iterate 2 (refine sq S ?_; clear S; intro a S)
  rw [wu32 n (by omega) (by omega)] at S
  refine srn S (put32_c none 0 0 [] n _ rfl (by omega) hn.1 hn.2 (slNil _ _)) ?_; clear S; rintro _ a w ⟨g, rfl, hg, hown⟩ hS -
  have S := hS hown (fun ad h => by cases h; exact hg)
  clear hS
  rw [List.nil_append] at S
  refine sq S ?_; clear S; intro a S
  refine srn S (put32_c (some ⟨g, 0, none⟩) (0 + 4) (0 + 4) (be 4 n) turn _ (be_len _ _) (by omega) ht.1 ht.2 ((own_sl (S.row (some ⟨g, 0, none⟩) (0 + 4))).stable (fun _ _ h => h))) ?_; clear S; rintro _ a w ⟨g2, rfl, hg2, hown2⟩ hS -
  have S := hS hown2 (fun ad h => by cases h; exact hg2)
  clear hS
  refine sq S ?_; clear S; intro a S
  refine wl_nil ?_
  refine xtn ?_
  refine c_seq ?_
  refine c_region ?_
  refine sq S ?_; clear S; intro a S
  refine sap S (by simp only [maxLen]; simp) (by simp) ?_; clear S; rintro p3 c3 a w - S
  refine sapz1 p3 (0 + 4 + 4 + 9) (m := 43) S (by omega) (by simp only [maxLen]; omega) (by omega) ?_; clear S; intro p4 c4 a w S
  rw [← encL_append] at S
  refine sr S (sealed_c (titleB turn n) p4 c4 _ (titleB_len turn n) ((own_sl (S.row p4 60)).stable (fun _ _ h => h))) ?_; clear S; rintro _ a w rfl S
  refine sw S ?_; clear S; intro a w S
  refine wl_nil ?_
  refine xtn ?_
  refine c_ret ?_
  refine end1 S (fun _ => ?_)
  rfl
end Go.Proofs.YtdakncgafdnjfaaGreat
namespace Go.Proofs.YtdakncgafdnjfaaGreat
open Go Go.Wk
set_option synthInstance.maxSize 100000
set_option synthInstance.maxHeartbeats 400000
set_option maxRecDepth 100000
theorem encZ_drop (n m : Nat) : (encL (List.replicate n (0 : UInt8))).drop m = encL (List.replicate (n - m) (0 : UInt8)) := by
  have h := encL_dropG (List.replicate n (0 : UInt8)) m
  rw [List.drop_replicate, show m * Enc.sz UInt8 = m from Nat.mul_one m] at h
  exact h.symm
def secN (n : Nat) : Nat := if n = 0 then 1 else (n + 47) / 48
def pad48 (l : List UInt8) : List UInt8 := l.take 48 ++ List.replicate (48 - l.length) 0
theorem pad48_len (l : List UInt8) : (pad48 l).length = 48 := by simp [pad48]; omega
def leafB (turn number : Int) (n : Nat) (left : List UInt8) : List UInt8 := be 4 turn ++ be 4 number ++ be 2 (n : Int) ++ be 2 (left.length : Int) ++ pad48 left
theorem leafB_len (turn number : Int) (n : Nat) (left : List UInt8) : (leafB turn number n left).length = 60 := by simp [leafB, be_len, pad48_len]
def leafF (turn number : Int) (bs : List UInt8) (k : Nat) : Blk := sealF (leafB turn number bs.length (bs.drop (48 * k)))
def leavesF (turn number : Int) (bs : List UInt8) : List Blk := (List.range (secN bs.length)).map (leafF turn number bs)
theorem leavesF_len (turn number : Int) (bs : List UInt8) : (leavesF turn number bs).length = secN bs.length := by simp [leavesF]
def leavesV (g0 g1 g2 : Nat) : Value := .func (.func 177) #[] ⟨[.pointer (some ⟨g0, 0, none⟩), .pointer (some ⟨g1, 0, none⟩), .pointer (some ⟨g2, 0, none⟩)]⟩
theorem leaves_f (turn number : Int) (p : Option Addr) (n c : Nat) (w0 : World) : Ret Tryz.prog 82 [.int .u32 turn, .int .u32 number, .slice p n c] w0 (fun _ => False) fun v w' => ∃ g0 g1 g2, v = leavesV g0 g1 g2 ∧ (w0.heap.size ≤ g0 ∧ w0.heap.size ≤ g1 ∧ w0.heap.size ≤ g2) ∧ BoxF g0 25 [.slice p n c] w' ∧ BoxF g1 130 [.int .u32 turn] w' ∧ BoxF g2 130 [.int .u32 number] w' := by
  refine enter Tryz.func82 rfl rfl (Wd.start w0) (fun a S => ?_)
  simp only [Tryz.ntmps82, List.length_cons, List.length_nil, Nat.reduceAdd, Nat.reduceSub, List.replicate_succ, List.replicate_zero, List.cons_append, List.nil_append] at S
  refine c_seq ?_
  refine c_region ?_
  refine sa S ?_; clear S; intro b3 a w S
  refine sa S ?_; clear S; intro b4 a w S
  refine sa S ?_; clear S; intro b5 a w S
  refine sq S ?_; clear S; intro a S
  refine wl_nil ?_
  refine xtn ?_
  refine c_seq ?_
  refine c_region ?_
  iterate 2 (refine sq S ?_; clear S; intro a S)
  refine wl_nil ?_
  refine xtn ?_
  refine c_ret ?_
  have h3 := (S.boxNew b3).elim (fun h => h.elim) id
  have h4 := (S.boxNew b4).elim (fun h => h.elim) id
  have h5 := (S.boxNew b5).elim (fun h => h.elim) id
  have e3 := S.boxF b3
  have e4 := S.boxF b4
  have e5 := S.boxF b5
  exact end1 S (fun _ => ⟨b5, b3, b4, rfl, ⟨h5, h3, h4⟩, e5, e3, e4⟩)
theorem leaves_it (turn number : Int) (ht : 0 ≤ turn ∧ turn ≤ 4294967295) (hnu : 0 ≤ number ∧ number ≤ 4294967295) (g0 g1 g2 : Nat) (bs : List UInt8) (p : Option Addr) (c : Nat) (hl : bs.length ≤ 40000) (hc : bs.length ≤ c) (w0 : World) (M : Nat → Prop) (hM : ∀ k, M k → k < w0.heap.size) (f0 : Stable M w0 (BoxF g0 25 [.slice p bs.length c])) (f1 : Stable M w0 (BoxF g1 130 [.int .u32 turn])) (f2 : Stable M w0 (BoxF g2 130 [.int .u32 number])) (f3 : Stable M w0 (GlF p bs)) :
    IterRet Tryz.prog 177 [.pointer (some ⟨g0, 0, none⟩), .pointer (some ⟨g1, 0, none⟩), .pointer (some ⟨g2, 0, none⟩)] w0 M (fun (x : Blk) vs _ _ => vs = [vBlk x]) (leavesF turn number bs) := by
  intro L J Jx hy hJ
  have hF : ∀ Φ ∈ [GlF p bs, BoxF g0 25 [.slice p bs.length c], BoxF g1 130 [.int .u32 turn], BoxF g2 130 [.int .u32 number]], Stable M w0 Φ := by simp; exact ⟨f3, f0, f1, f2⟩
  have hs0 : 0 < secN bs.length := by unfold secN; split <;> omega
  refine (callsIn_wide (n := 0)).2 ?_
  refine enter Tryz.func177 rfl rfl (Wd.beginM (M := M) (fs := [GlF p bs, BoxF g0 25 [.slice p bs.length c], BoxF g1 130 [.int .u32 turn], BoxF g2 130 [.int .u32 number]]) hM hF) (fun a S => ?_)
  simp only [Tryz.ntmps177, List.length_cons, List.length_nil, Nat.reduceAdd, Nat.reduceSub, List.replicate_succ, List.replicate_zero, List.cons_append, List.nil_append] at S
  refine c_seq ?_
  refine c_region ?_
  iterate 2 (refine sq S ?_; clear S; intro a S)
  refine wl_nil ?_
  refine xtn ?_
  refine c_block ?_
  refine c_loop (ι := Nat × Option Addr × Nat) (fun ⟨k, q, e⟩ a w => (k < secN bs.length ∧ (bs.drop (48 * k)).length ≤ e ∧ Stable M w0 (GlF q (bs.drop (48 * k)))) ∧ ∃ N w1, J k w1 ∧ ∃ uu : Nat → Value,  St w1 (fun _ => False) [] a w ((.func (.yield L) #[] #[]) :: (.pointer (some ⟨g0, 0, none⟩)) :: (.pointer (some ⟨g1, 0, none⟩)) :: (.pointer (some ⟨g2, 0, none⟩)) :: uu 4 :: (.slice q (bs.drop (48 * k)).length e) :: uu 6 :: uu 7 :: uu 8 :: uu 9 :: uu 10 :: uu 11 :: uu 12 :: uu 13 :: uu 14 :: uu 15 :: uu 16 :: uu 17 :: uu 18 :: uu 19 :: uu 20 :: uu 21 :: uu 22 :: uu 23 :: uu 24 :: uu 25 :: uu 26 :: uu 27 :: uu 28 :: uu 29 :: uu 30 :: uu 31 :: uu 32 :: uu 33 :: uu 34 :: uu 35 :: uu 36 :: uu 37 :: uu 38 :: []) [ext N] [GlF q (bs.drop (48 * k)), BoxF g0 25 [.slice p bs.length c], BoxF g1 130 [.int .u32 turn], BoxF g2 130 [.int .u32 number]]) (fun x => secN bs.length - x.1) (0, p, c) ?_ ?_
  · exact ⟨⟨hs0, by simpa using hc, by simpa using f3⟩, M, w0, hJ, S.uu, by rw [show bs.drop (48 * 0) = bs from rfl]; exact S⟩
  · clear S
    rintro ⟨k, q, e⟩ a w ⟨⟨hk, hqe, hq⟩, N, w1, hJk, uu, S⟩
    have hdl : (bs.drop (48 * k)).length = bs.length - 48 * k := List.length_drop
    obtain ⟨left, hleft⟩ : ∃ left, left = bs.drop (48 * k) := ⟨_, rfl⟩
    rw [← hleft] at S hq hqe hdl
    have hll : left.length ≤ 40000 := by omega
    have hF2 : ∀ Φ ∈ [GlF q left, BoxF g0 25 [.slice p bs.length c], BoxF g1 130 [.int .u32 turn], BoxF g2 130 [.int .u32 number]], Stable M w0 Φ := by simp; exact ⟨hq, f0, f1, f2⟩
    have hx : (leavesF turn number bs)[k]? = some (sealF (leafB turn number bs.length left)) := by rw [leavesF, List.getElem?_map, List.getElem?_range hk, hleft]; rfl
    refine c_seq ?_
    refine c_block ?_
    refine c_seq ?_
    refine c_drawD [(0, true), (2, true), (1, false), (3, false), (4, true)] [] S ?_; clear S; intro w S
    iterate 2 (refine dq S ?_; clear S; intro a S)
    refine dl ?_
    refine srn S (put32_c none 0 0 [] turn _ rfl (by omega) ht.1 ht.2 (slNil _ _)) ?_; clear S; rintro _ a w ⟨g, rfl, hg, hown⟩ hS -
    have S := hS hown (fun ad h => by cases h; exact hg)
    clear hS
    rw [List.nil_append] at S
    refine de S ?_
    refine dl ?_
    refine srn S (put32_c (some ⟨g, 0, none⟩) (0 + 4) (0 + 4) (be 4 turn) number _ (be_len _ _) (by omega) hnu.1 hnu.2 ((own_sl (S.row (some ⟨g, 0, none⟩) (0 + 4))).stable (fun _ _ h => h))) ?_; clear S; rintro _ a w ⟨ga, rfl, hga, hown2⟩ hS -
    have S := hS hown2 (fun ad h => by cases h; exact hga)
    clear hS
    refine de S ?_
    refine dq S ?_; clear S; intro a S
    refine dn ?_
    refine xtn ?_
    refine c_seq ?_
    refine c_region ?_
    iterate 4 (refine sq S ?_; clear S; intro a S)
    rw [wu16 (bs.length : Int) (by omega) (by omega)] at S
    refine srn S (put16b_c (some ⟨ga, 0, none⟩) (0 + 4 + 4) (0 + 4 + 4) (be 4 turn ++ be 4 number) (bs.length : Int) _ (by simp [be_len]) (by omega) (by omega) (by omega) ((own_sl (S.row (some ⟨ga, 0, none⟩) (0 + 4 + 4))).stable (fun _ _ h => h))) ?_; clear S; rintro _ a w ⟨gb, rfl, hgb, hown3⟩ hS -
    have S := hS hown3 (fun ad h => by cases h; exact hgb)
    clear hS
    iterate 3 (refine sq S ?_; clear S; intro a S)
    rw [wu16 (left.length : Int) (by omega) (by omega)] at S
    refine srn S (put16b_c (some ⟨gb, 0, none⟩) (0 + 4 + 4 + 2) (0 + 4 + 4 + 2) (be 4 turn ++ be 4 number ++ be 2 (bs.length : Int)) (left.length : Int) _ (by simp [be_len]) (by omega) (by omega) (by omega) ((own_sl (S.row (some ⟨gb, 0, none⟩) (0 + 4 + 4 + 2))).stable (fun _ _ h => h))) ?_; clear S; rintro _ a w ⟨gc, rfl, hgc, hown4⟩ hS -
    have S := hS hown4 (fun ad h => by cases h; exact hgc)
    clear hS
    refine sq S ?_; clear S; intro a S
    refine wl_nil ?_
    refine xtn ?_
    refine c_seq ?_
    refine c_region ?_
    refine sa S ?_; clear S; intro b7 a w S
    refine wl_nil ?_
    refine xtn ?_
    refine c_seq ?_
    refine c_region ?_
    iterate 2 (refine sq S ?_; clear S; intro a S)
    refine scpB b7 48 left.length left S ((S.fact (Φ := GlF q left) (by simp)).now.1) rfl (by rw [encL_len, List.length_replicate]; rfl) ?_; clear S; intro a w S
    rw [show (encL left).take 48 = encL (left.take 48) from encL_take left 48, encZ_drop, ← encL_append, show left.take 48 ++ List.replicate (48 - left.length) 0 = pad48 left from rfl] at S
    have hp48 : LenIs (encL (pad48 left)) 48 := ⟨by rw [encL_len, pad48_len]; rfl⟩
    refine wl_nil ?_
    refine xtn ?_
    refine c_seq ?_
    refine c_region ?_
    iterate 3 (refine sq S ?_; clear S; intro a S)
    rw [show (Value.slice (some (if (48 : Nat) = 0 then (⟨b7, 0, none⟩ : Addr) else ⟨b7, 0 * 1, none⟩)) (48 - 0) (48 - 0)) = .slice (some ⟨b7, 0, none⟩) 48 48 from rfl] at S
    refine sap S (by simp only [maxLen]; simp) (by simp) ?_; clear S; rintro p3 c3 a w - S
    rw [← encL_append] at S
    refine sr S (sealed_c (leafB turn number bs.length left) p3 c3 _ (leafB_len _ _ _ _) ((own_sl (S.row p3 60)).stable (fun _ _ h => h))) ?_; clear S; rintro _ a w rfl S
    refine sy S (M := M) (wI := w0) (fs0 := [GlF q left, BoxF g0 25 [.slice p bs.length c], BoxF g1 130 [.int .u32 turn], BoxF g2 130 [.int .u32 number]]) hF2 (hy _ _ _ w1 _ hx hJk S.wd.agree rfl) ?_; clear S; intro ok N' a w2 hT hX S
    iterate 2 (refine sq S ?_; clear S; intro a S)
    iterate 3 (refine gQ S ?_; clear S; intro a S)
    refine sq S ?_; clear S; intro a S
    refine wl_nil ?_
    refine xtn ?_
    refine c_cond S (fun h6 => ?_) (fun h6 => ?_)
    · refine c_ret ?_
      refine xbr ?_
      iterate 2 (refine xtr ?_)
      refine xbr ?_
      refine endI S ⟨w2, S.wd.agree, ?_⟩
      cases ok with
      | false => exact .inr (hX rfl)
      | true =>
        have h48 : left.length ≤ 48 := by have := h6; simp at this; omega
        have e1 : k + 1 = (leavesF turn number bs).length := by rw [leavesF_len]; unfold secN at hk ⊢; split at hk <;> split <;> omega
        rw [← e1]; exact .inl (hT rfl)
    · refine c_skip ?_
      refine xbn ?_
      refine xtn ?_
      obtain ⟨rfl, h48⟩ : ok = true ∧ 48 < left.length := by
        cases ok with
        | false => exact absurd h6 (by simp)
        | true => exact ⟨rfl, by have := h6; simp at this; omega⟩
      have hLa : LeC 48 left.length := ⟨by omega⟩
      have hLb : LeC left.length e := ⟨hqe⟩
      have hLc : LeC 48 e := ⟨by omega⟩
      refine c_region ?_
      iterate 3 (refine sq S ?_; clear S; intro a S)
      refine wl_nil ?_
      refine xtn ?_
      have edd : left.drop 48 = bs.drop (48 * (k + 1)) := by rw [hleft, List.drop_drop]; congr 1
      obtain ⟨q', hq'⟩ : ∃ q', q' = (if e = 48 then q else q.map (·.add (48 * 1))) := ⟨_, rfl⟩
      rw [← hq'] at S
      have hdr : ∀ w, GlF q left w → GlF q' (bs.drop (48 * (k + 1))) w := fun w h => by rw [← edd, hq']; exact h.drop 48 hqe
      replace S := S.add (Φ := GlF q' (bs.drop (48 * (k + 1)))) ((S.mem.fact (GlF q left)).imp hdr)
      rw [show left.length - 48 = (bs.drop (48 * (k + 1))).length from by rw [← edd, List.length_drop]] at S
      exact ⟨(k + 1, q', e - 48), ⟨⟨by unfold secN at hk ⊢; split at hk <;> split <;> omega, by rw [← edd, List.length_drop]; omega, hq.imp hdr⟩, N', w2, hT rfl, S.uu, S.sub _ _⟩, by show secN bs.length - (k + 1) < secN bs.length - k; omega⟩
end Go.Proofs.YtdakncgafdnjfaaGreat
namespace Go.Proofs.YtdakncgafdnjfaaGreat
open Go Go.Wk
set_option synthInstance.maxSize 100000
set_option synthInstance.maxHeartbeats 400000
set_option maxRecDepth 100000
def onlyV (g0 g1 : Nat) : Value := .func (.func 173) #[] ⟨[.pointer (some ⟨g0, 0, none⟩), .pointer (some ⟨g1, 0, none⟩)]⟩
theorem only_f (x : Blk) (n : Nat) (w0 : World) : Ret Tryz.prog 75 [vBlk x, .int .i64 (n : Int)] w0 (fun _ => False) fun v w' => ∃ g0 g1, v = onlyV g0 g1 ∧ (w0.heap.size ≤ g0 ∧ w0.heap.size ≤ g1) ∧ BoxF g0 3 [.int .i64 (n : Int)] w' ∧ BoxF g1 129 (encL x.l) w' := by
  refine enter Tryz.func75 rfl rfl (Wd.start w0) (fun a S => ?_)
  simp only [Tryz.ntmps75, List.length_cons, List.length_nil, Nat.reduceAdd, Nat.reduceSub, List.replicate_succ, List.replicate_zero, List.cons_append, List.nil_append] at S
  refine c_seq ?_
  refine c_region ?_
  refine sa S ?_; clear S; intro b2 a w S
  refine sa S ?_; clear S; intro b3 a w S
  refine sq S ?_; clear S; intro a S
  refine wl_nil ?_
  refine xtn ?_
  refine c_seq ?_
  refine c_region ?_
  iterate 2 (refine sq S ?_; clear S; intro a S)
  refine wl_nil ?_
  refine xtn ?_
  refine c_ret ?_
  have h2 := (S.boxNew b2).elim (fun h => h.elim) id
  have h3 := (S.boxNew b3).elim (fun h => h.elim) id
  have e2 := S.boxF b2
  have e3 := S.boxF b3
  exact end1 S (fun _ => ⟨b3, b2, rfl, ⟨h3, h2⟩, e3, e2⟩)
theorem only_it (g0 g1 : Nat) (x : Blk) (n : Nat) (hn : n ≤ 1000000) (w0 : World) (M : Nat → Prop) (hM : ∀ k, M k → k < w0.heap.size) (f0 : Stable M w0 (BoxF g0 3 [.int .i64 (n : Int)])) (f1 : Stable M w0 (BoxF g1 129 (encL x.l))) :
    IterRet Tryz.prog 173 [.pointer (some ⟨g0, 0, none⟩), .pointer (some ⟨g1, 0, none⟩)] w0 M (fun (x : Blk) vs _ _ => vs = [vBlk x]) (List.replicate n x) := by
  intro L J Jx hy hJ
  have hF : ∀ Φ ∈ [BoxF g0 3 [.int .i64 (n : Int)], BoxF g1 129 (encL x.l)], Stable M w0 Φ := by simp; exact ⟨f0, f1⟩
  refine (callsIn_wide (n := 0)).2 ?_
  refine enter Tryz.func173 rfl rfl (Wd.beginM (M := M) (fs := [BoxF g0 3 [.int .i64 (n : Int)], BoxF g1 129 (encL x.l)]) hM hF) (fun a S => ?_)
  simp only [Tryz.ntmps173, List.length_cons, List.length_nil, Nat.reduceAdd, Nat.reduceSub, List.replicate_succ, List.replicate_zero, List.cons_append, List.nil_append] at S
  refine c_seq ?_
  refine c_region ?_
  iterate 2 (refine sq S ?_; clear S; intro a S)
  refine wl_nil ?_
  refine xtn ?_
  refine c_block ?_
  refine c_loop (ι := Nat) (fun k a w => k ≤ n ∧ ∃ N w1, J k w1 ∧ ∃ uu : Nat → Value,  St w1 (fun _ => False) [] a w ((.func (.yield L) #[] #[]) :: (.pointer (some ⟨g0, 0, none⟩)) :: (.pointer (some ⟨g1, 0, none⟩)) :: uu 3 :: (.int .i64 (n : Nat)) :: (.int .i64 (k : Nat)) :: uu 6 :: uu 7 :: uu 8 :: uu 9 :: uu 10 :: uu 11 :: []) [ext N] [BoxF g0 3 [.int .i64 (n : Int)], BoxF g1 129 (encL x.l)]) (fun k => n - k) 0 ?_ ?_
  · exact ⟨Nat.zero_le _, M, w0, hJ, S.uu, S⟩
  · clear S
    rintro k a w ⟨hk, N, w1, hJk, uu, S⟩
    refine c_seq ?_
    refine c_region ?_
    refine sq S ?_; clear S; intro a S
    refine wl_nil ?_
    refine xtn ?_
    refine c_seq ?_
    refine c_cond S (fun h1 => ?_) (fun h1 => ?_)
    · refine c_skip ?_
      refine xtn ?_
      refine c_seq ?_
      refine c_block ?_
      refine c_seq ?_
      have hkn : k < n := by have := of_decide_eq_true h1; omega
      have hx : (List.replicate n x)[k]? = some x := by rw [List.getElem?_replicate, if_pos hkn]
      refine c_region ?_
      iterate 2 (refine sq S ?_; clear S; intro a S)
      refine sy S (M := M) (wI := w0) (fs0 := [BoxF g0 3 [.int .i64 (n : Int)], BoxF g1 129 (encL x.l)]) hF (hy _ _ _ w1 _ hx hJk S.wd.agree rfl) ?_; clear S; intro ok N' a w2 hT hX S
      refine sq S ?_; clear S; intro a S
      refine wl_nil ?_
      refine xtn ?_
      refine c_cond S (fun h2 => ?_) (fun h2 => ?_)
      · refine c_ret ?_
        refine xbr ?_
        iterate 2 (refine xtr ?_)
        refine xbr ?_
        exact endI S ⟨w2, S.wd.agree, .inr (hX (by simpa using h2))⟩
      · refine c_skip ?_
        refine xbn ?_
        refine xtn ?_
        refine c_region ?_
        iterate 2 (refine sq S ?_; clear S; intro a S)
        refine wl_nil ?_
        refine xtn ?_
        rw [w64 ((k : Int) + 1) (by omega) (by omega)] at S
        exact ⟨k + 1, ⟨by omega, N', w2, hT (by simpa using h2), S.uu, S⟩, by omega⟩
    · refine c_exit ?_
      iterate 2 (refine xte ?_)
      refine xbe ?_
      have hkn : k = n := by have := of_decide_eq_false h1; omega
      refine endI S ⟨w1, S.wd.agree, .inl ?_⟩
      rw [List.length_replicate, ← hkn]; exact hJk
def layW (s : DS) (k : Int) : List Blk → DS × Int
  | [] => (s, 0)
  | x :: xs => if askE s k true = 0 then layW (wrD s k x) (k + 1) xs else (wrD s k x, askE s k true)
def layF (s : DS) (k : Int) (xs : List Blk) : DS × Int := if (layW s k xs).2 = 0 then (syD (layW s k xs).1, askE (layW s k xs).1 0 true) else layW s k xs
theorem wrD_loose (s : DS) (k : Int) (x : Blk) : (wrD s k x).loose.length ≤ s.loose.length + 1 := by
  have h : (askD s k true).loose = s.loose := by
    unfold askD; split
    · rfl
    · split
      · rfl
      · split
        · rfl
        · split <;> (try split) <;> rfl
  unfold wrD askedD
  split
  · simp [opD, writeD, h]
  · rw [h]; omega
theorem lay_c (G : Nat) [EntF Tryz.prog G] (lb : List Value) (xs : List Blk) (b m : Nat) (p : Option Addr) (c : Nat) (s : DS) (at_ : Nat) (fs : List (World → Prop)) (w0 : World) (hl : s.loose.length + xs.length ≤ 1000000) (ha : at_ + xs.length ≤ 1000000) (hd : (dkI b m p c s).holds w0) (hf : ∀ Φ ∈ fs, Stable (dkI b m p c s).foot w0 Φ)
    (hit : ∀ (M : Nat → Prop) (w1 : World), (∀ k, M k → k < w1.heap.size) → (∀ Φ ∈ fs, Stable M w1 Φ) → IterRet Tryz.prog G lb w1 M (fun (x : Blk) vs _ _ => vs = [vBlk x]) xs) :
    Ret Tryz.prog 74 [.pointer (some ⟨b, 0, none⟩), .int .i64 (at_ : Int), .func (.func G) #[] ⟨lb⟩] w0 (dkI b m p c s).foot fun v w' => v = .int .i64 (layF s at_ xs).2 ∧ ∃ p' c', (dkI b m p' c' (layF s at_ xs).1).holds w' ∧ ∀ i, (dkI b m p' c' (layF s at_ xs).1).foot i → (dkI b m p c s).foot i ∨ w0.heap.size ≤ i := by
  have hxl : ∀ i x, xs[i]? = some x → i < xs.length := fun i x h => (List.getElem?_eq_some_iff.1 h).1
  refine enterM Tryz.func74 rfl rfl (Wd.itLent (x := dkI b m p c s) (fs := fs) hd hf) (fun a S => ?_)
  simp only [Tryz.ntmps74, List.length_cons, List.length_nil, Nat.reduceAdd, Nat.reduceSub, List.replicate_succ, List.replicate_zero, List.cons_append, List.nil_append] at S
  refine c_seq ?_
  refine c_region ?_
  refine sa S ?_; clear S; intro b3 a w S
  refine sa S ?_; clear S; intro b4 a w S
  refine sa S ?_; clear S; intro b6 a w S
  refine wl_nil ?_
  refine xtn ?_
  iterate 2 (refine c_seq ?_)
  refine c_region ?_
  refine sq S ?_; clear S; intro a S
  refine wl_nil ?_
  refine xtn ?_
  refine c_block ?_
  replace S := S.boxToF b3
  refine c_range (κ := DS × Option Addr × Nat) (κx := DS × Option Addr × Nat × Int) (Ds := []) xs
    (fun i k => [Wk.box b6 26 [.int .i64 0], Wk.box b4 3 [.int .i64 ((at_ + i : Nat) : Int)], marks [], dkI b m k.2.1 k.2.2 k.1])
    (fun _ _ => BoxF b3 34 [.pointer (some ⟨b, 0, none⟩)] :: fs)
    (fun i k => layW s at_ xs = layW k.1 ((at_ + i : Nat) : Int) (xs.drop i) ∧ k.1.loose.length ≤ s.loose.length + i)
    (fun k => [Wk.box b6 26 [.int .i64 k.2.2.2], marks [], dkI b m k.2.1 k.2.2.1 k.1])
    (fun _ => BoxF b3 34 [.pointer (some ⟨b, 0, none⟩)] :: fs)
    (fun cd k => cd = .ret ∧ k.2.2.2 ≠ 0 ∧ layW s at_ xs = (k.1, k.2.2.2)) (s, p, c) S
    (fun M w1 hM hF _ => hit M w1 hM (fun Φ h => hF Φ (by simp [h]))) ⟨⟨by simp, by simp⟩, rfl, rfl⟩ ?_ ?_ ?_ ?_
  · clear S
    rintro L D bL M' w1 i x vs ⟨s1, p1, c1⟩ W0 w hx ⟨hlw, hll⟩ hW0 hgr rfl
    have hi := hxl i x hx
    simp only [] at hlw hll
    have hdr : xs.drop i = x :: xs.drop (i + 1) := by rw [List.drop_eq_getElem_cons hi, (List.getElem?_eq_some_iff.1 hx).2]
    rw [hdr, layW] at hlw
    refine ⟨_, inferInstance, fun a S => ?_⟩
    simp only [] at S
    refine c_region ?_
    refine sa S ?_; clear S; intro b7 a w S
    refine sw S ?_; clear S; intro a w S
    refine wl_nil ?_
    refine xtn ?_
    refine rbegin (D := D) (b := bL) S ?_; clear S; intro a w S
    refine c_block ?_
    iterate 2 (refine c_seq ?_)
    refine c_region ?_
    iterate 3 (refine sq S ?_; clear S; intro a S)
    refine sit (dkI b m p1 c1 s1) S (dwrite_c b m p1 c1 s1 ((at_ + i : Nat) : Int) x _ (by omega) (S.it (dkI b m p1 c1 s1))) rfl ?_; clear S; rintro _ a w ⟨rfl, p2, c2, hh, hn⟩ hS
    have S := hS (dkI b m p2 c2 (wrD s1 ((at_ + i : Nat) : Int) x)) hh hn
    clear hS
    refine sq S ?_; clear S; intro a S
    refine wl_nil ?_
    refine xtn ?_
    refine c_seq ?_
    refine c_region ?_
    iterate 2 (refine sq S ?_; clear S; intro a S)
    refine wl_nil ?_
    refine xtn ?_
    refine c_cond S (fun h4 => ?_) (fun h4 => ?_)
    · refine c_seq ?_
      refine c_region ?_
      refine sq S ?_; clear S; intro a S
      refine sw S ?_; clear S; intro a w S
      refine wl_nil ?_
      refine xtn ?_
      refine c_ret ?_
      refine xtr ?_
      refine xbr ?_
      have he : askE s1 ((at_ + i : Nat) : Int) true ≠ 0 := by simpa using h4
      rw [if_neg he] at hlw
      replace S := S.sub [lpI L D (lpR bL .busy none), Wk.box b6 26 [.int .i64 (askE s1 ((at_ + i : Nat) : Int) true)], marks [], dkI b m p2 c2 (wrD s1 ((at_ + i : Nat) : Int) x)] (BoxF b3 34 [.pointer (some ⟨b, 0, none⟩)] :: fs)
      refine rret (D := D) (b := bL) S fun W hW => ⟨.inl rfl, (wrD s1 ((at_ + i : Nat) : Int) x, p2, c2, askE s1 ((at_ + i : Nat) : Int) true), ⟨rfl, he, hlw⟩, hW⟩
    · refine c_skip ?_
      refine xtn ?_
      refine c_region ?_
      iterate 2 (refine sq S ?_; clear S; intro a S)
      rw [show IntKind.i64.wrap (((at_ + i : Nat) : Int) + 1) = ((at_ + (i + 1) : Nat) : Int) from by rw [w64 _ (by omega) (by omega)]; rfl] at S
      refine sw S ?_; clear S; intro a w S
      refine wl_nil ?_
      refine xbn ?_
      have he : askE s1 ((at_ + i : Nat) : Int) true = 0 := by simpa using h4
      rw [if_pos he] at hlw
      replace S := S.sub [lpI L D (lpR bL .busy none), Wk.box b6 26 [.int .i64 0], Wk.box b4 3 [.int .i64 ((at_ + (i + 1) : Nat) : Int)], marks [], dkI b m p2 c2 (wrD s1 ((at_ + i : Nat) : Int) x)] (BoxF b3 34 [.pointer (some ⟨b, 0, none⟩)] :: fs)
      have := wrD_loose s1 ((at_ + i : Nat) : Int) x
      refine rnext (D := D) (b := bL) S fun W hW => ⟨(wrD s1 ((at_ + i : Nat) : Int) x, p2, c2), ⟨by rw [hlw]; congr 1, by show (wrD s1 ((at_ + i : Nat) : Int) x).loose.length ≤ _; omega⟩, hW⟩
  · clear S
    rintro D ⟨s1, p1, c1⟩ a w ⟨hlw, hll⟩ S
    simp only [List.drop_length, layW] at hlw hll S
    replace S := S.join (Ds := [])
    refine xbn ?_
    refine xtn ?_
    refine c_seq ?_
    refine c_region ?_
    refine sq S ?_; clear S; intro a S
    refine sit (dkI b m p1 c1 s1) S (dsync_c b m p1 c1 s1 _ (by omega) (S.it (dkI b m p1 c1 s1))) rfl ?_; clear S; rintro _ a w ⟨rfl, p2, c2, hh, hn⟩ hS
    have S := hS (dkI b m p2 c2 (syD s1)) hh hn
    clear hS
    refine sw S ?_; clear S; intro a w S
    refine wl_nil ?_
    refine xtn ?_
    refine c_ret ?_
    refine endM1 S (fun w hw => ?_)
    have e2 : layF s at_ xs = (syD s1, askE s1 0 true) := by rw [layF, hlw, if_pos rfl]
    rw [e2]
    exact ⟨rfl, p2, c2, hw.held (dkI b m p2 c2 (syD s1)) (by simp), hw.own (dkI b m p2 c2 (syD s1)) (by simp) rfl⟩
  · rintro D ⟨s1, p1, c1, e1⟩ a w ⟨-, he, hlw⟩ S
    simp only [] at S he hlw
    replace S := S.join (Ds := [])
    repeat (first | refine xbr ?_ | refine xtr ?_)
    refine endM1 S (fun w hw => ?_)
    have e2 : layF s at_ xs = (s1, e1) := by rw [layF, hlw, if_neg he]
    rw [e2]
    exact ⟨rfl, p1, c1, hw.held (dkI b m p1 c1 s1) (by simp), hw.own (dkI b m p1 c1 s1) (by simp) rfl⟩
  · rintro id D _ a w ⟨h, -⟩; cases h
end Go.Proofs.YtdakncgafdnjfaaGreat
namespace Go.Proofs.YtdakncgafdnjfaaGreat
open Go Go.Wk
set_option synthInstance.maxSize 100000
set_option synthInstance.maxHeartbeats 400000
set_option maxRecDepth 100000
def secF (n : Int) : Int := if n < 0 ∨ 40000 < n then 0 else (secN n.toNat : Int)
theorem sectors_c (n : Int) (w0 : World) : Ret Tryz.prog 78 [.int .i64 n] w0 (fun _ => False) fun v _ => v = .int .i64 (secF n) := by
  refine enter Tryz.func78 rfl rfl (Wd.start w0) (fun a S => ?_)
  simp only [Tryz.ntmps78, List.length_cons, List.length_nil, Nat.reduceAdd, Nat.reduceSub, List.replicate_succ, List.replicate_zero, List.cons_append, List.nil_append] at S
  refine c_seq ?_
  refine c_region ?_
  refine sq S ?_; clear S; intro a S
  refine wl_nil ?_
  refine xtn ?_
  refine c_seq ?_
  refine c_block ?_
  refine c_seq ?_
  refine c_region ?_
  iterate 3 (refine sq S ?_; clear S; intro a S)
  iterate 2 (refine gQ S ?_; clear S; intro a S)
  iterate 2 (refine sq S ?_; clear S; intro a S)
  refine wl_nil ?_
  refine xtn ?_
  refine c_cond S (fun h1 => ?_) (fun h1 => ?_)
  · refine c_seq ?_
    refine c_region ?_
    refine sq S ?_; clear S; intro a S
    refine wl_nil ?_
    refine xtn ?_
    refine c_ret ?_
    refine xbr ?_
    refine xtr ?_
    have h : n < 0 ∨ 40000 < n := by simpa using h1
    refine end1 S (fun _ => ?_)
    rw [secF, if_pos h]
  · refine c_seq ?_
    refine c_region ?_
    iterate 3 (refine sq S ?_; clear S; intro a S)
    refine wl_nil ?_
    refine xtn ?_
    refine c_cond S (fun h3 => ?_) (fun h3 => ?_)
    · refine c_seq ?_
      refine c_region ?_
      refine sq S ?_; clear S; intro a S
      refine wl_nil ?_
      refine xtn ?_
      refine c_ret ?_
      refine xbr ?_
      refine xtr ?_
      have h : n = 0 := by simpa using h3
      subst h
      refine end1 S (fun _ => ?_)
      rfl
    · refine c_skip ?_
      refine xbn ?_
      refine xtn ?_
      refine c_seq ?_
      refine c_region ?_
      iterate 5 (refine sq S ?_; clear S; intro a S)
      refine wl_nil ?_
      refine xtn ?_
      refine c_ret ?_
      have hn : ¬ (n < 0 ∨ 40000 < n) := by simpa using h1
      have h0 : n ≠ 0 := by simpa using h3
      refine end1 S (fun _ => ?_)
      rw [w64 (n + 48) (by omega) (by omega), w64 (n + 48 - 1) (by omega) (by omega), Int.tdiv_eq_ediv_of_nonneg (by omega), w64 _ (by omega) (by omega)]
      rw [secF, if_neg hn, secN, if_neg (by omega)]
      congr 1; omega
def mayF (s : DS) (n : Int) : Bool := decide (4 ≤ n ∧ n ≤ 1000 ∧ 2 * n + 2 ≤ s.size)
theorem may_no (b m : Nat) (p : Option Addr) (c k : Nat) (s : DS) (n : Int) (hn : ¬ (4 ≤ n ∧ n ≤ 1000)) (w0 : World) (hb : Stable (fun _ => False) w0 (BoxF b 170 (cDisk m p k c s))) : Ret Tryz.prog 73 [.pointer (some ⟨b, 0, none⟩), .int .i64 n] w0 (fun _ => False) fun v _ => v = .bool (mayF s n) := by
  refine enter Tryz.func73 rfl rfl (Wd.begin (fs := [BoxF b 170 (cDisk m p k c s)]) (by simpa using hb)) (fun a S => ?_)
  simp only [Tryz.ntmps73, List.length_cons, List.length_nil, Nat.reduceAdd, Nat.reduceSub, List.replicate_succ, List.replicate_zero, List.cons_append, List.nil_append] at S
  refine c_seq ?_
  refine c_region ?_
  refine sq S ?_; clear S; intro a S
  refine wl_nil ?_
  refine xtn ?_
  refine c_seq ?_
  refine c_region ?_
  iterate 3 (refine sq S ?_; clear S; intro a S)
  iterate 2 (refine gQ S ?_; clear S; intro a S)
  refine sq S ?_; clear S; intro a S
  rw [show (decide (4 ≤ n) && decide (n ≤ 1000)) = false from by simp; omega] at S
  refine sq S ?_; clear S; intro a S
  iterate 6 (refine gF S ?_; clear S; intro a S)
  iterate 2 (refine sq S ?_; clear S; intro a S)
  refine wl_nil ?_
  refine xtn ?_
  refine c_ret ?_
  refine end1 S (fun _ => ?_)
  rw [show mayF s n = false from by simp [mayF]; omega]
theorem may_yes (b m : Nat) (p : Option Addr) (c k : Nat) (s : DS) (n : Int) (hn : 4 ≤ n ∧ n ≤ 1000) (w0 : World) (hb : Stable (fun _ => False) w0 (BoxF b 170 (cDisk m p k c s))) : Ret Tryz.prog 73 [.pointer (some ⟨b, 0, none⟩), .int .i64 n] w0 (fun _ => False) fun v _ => v = .bool (mayF s n) := by
  refine enter Tryz.func73 rfl rfl (Wd.begin (fs := [BoxF b 170 (cDisk m p k c s)]) (by simpa using hb)) (fun a S => ?_)
  simp only [Tryz.ntmps73, List.length_cons, List.length_nil, Nat.reduceAdd, Nat.reduceSub, List.replicate_succ, List.replicate_zero, List.cons_append, List.nil_append] at S
  refine c_seq ?_
  refine c_region ?_
  refine sq S ?_; clear S; intro a S
  refine wl_nil ?_
  refine xtn ?_
  refine c_seq ?_
  refine c_region ?_
  iterate 3 (refine sq S ?_; clear S; intro a S)
  iterate 2 (refine gQ S ?_; clear S; intro a S)
  refine sq S ?_; clear S; intro a S
  rw [show (decide (4 ≤ n) && decide (n ≤ 1000)) = true from by simp; omega] at S
  refine sq S ?_; clear S; intro a S
  refine gT S ?_
  refine sq S ?_; clear S; intro a S
  refine gT S ?_
  refine sr S (len_c b m p k c s _ ((S.fact (Φ := BoxF b 170 (cDisk m p k c s)) (by simp)).less fun _ _ h => h.elim)) ?_; clear S; rintro _ a w rfl S
  refine gT S ?_
  refine sq S ?_; clear S; intro a S
  refine gT S ?_
  refine sq S ?_; clear S; intro a S
  refine gT S ?_
  refine sq S ?_; clear S; intro a S
  refine gT S ?_
  iterate 3 (refine sq S ?_; clear S; intro a S)
  refine wl_nil ?_
  refine xtn ?_
  refine c_ret ?_
  refine end1 S (fun _ => ?_)
  rw [w64 (2 * n) (by omega) (by omega), w64 (2 * n + 2) (by omega) (by omega)]
  rw [mayF, decide_eq_decide.2 (show (4 ≤ n ∧ n ≤ 1000 ∧ 2 * n + 2 ≤ s.size) ↔ 2 * n + 2 ≤ s.size from ⟨fun h => h.2.2, fun h => ⟨hn.1, hn.2, h⟩⟩)]
theorem may_c (b m : Nat) (p : Option Addr) (c k : Nat) (s : DS) (n : Int) (w0 : World) (hb : Stable (fun _ => False) w0 (BoxF b 170 (cDisk m p k c s))) : Ret Tryz.prog 73 [.pointer (some ⟨b, 0, none⟩), .int .i64 n] w0 (fun _ => False) fun v _ => v = .bool (mayF s n) := by
  by_cases h : 4 ≤ n ∧ n ≤ 1000
  · exact may_yes b m p c k s n h w0 hb
  · exact may_no b m p c k s n h w0 hb
abbrev cBook (b : Nat) (n turn : Int) : List Value := [.pointer (some ⟨b, 0, none⟩), .int .i64 n, .int .u32 turn]
def fromN (n : Nat) (turn : Int) : Nat := 2 + (turn % 2).toNat * n
theorem from_c (b n : Nat) (turn : Int) (hn : n ≤ 1000) (ht : 0 ≤ turn ∧ turn ≤ 4294967295) (w0 : World) : Ret Tryz.prog 81 [.agg ⟨cBook b n turn⟩] w0 (fun _ => False) fun v _ => v = .int .i64 ((fromN n turn : Nat) : Int) := by
  refine enter Tryz.func81 rfl rfl (Wd.start w0) (fun a S => ?_)
  simp only [Tryz.ntmps81, List.length_cons, List.length_nil, Nat.reduceAdd, Nat.reduceSub, List.replicate_succ, List.replicate_zero, List.cons_append, List.nil_append] at S
  refine c_seq ?_
  refine c_region ?_
  refine sa S ?_; clear S; intro b1 a w S
  refine sq S ?_; clear S; intro a S
  refine wl_nil ?_
  refine xtn ?_
  refine c_seq ?_
  refine c_region ?_
  iterate 9 (refine sq S ?_; clear S; intro a S)
  refine wl_nil ?_
  refine xtn ?_
  refine c_ret ?_
  refine end1 S (fun _ => ?_)
  have h0 : turn.tmod 2 = turn % 2 := Int.tmod_eq_emod_of_nonneg ht.1
  rw [h0]
  rcases (show turn % 2 = 0 ∨ turn % 2 = 1 by omega) with h | h
  · rw [fromN, h]; simp [w64]
  · rw [fromN, h, show IntKind.i64.wrap 1 = 1 from rfl, Int.one_mul, w64 (n : Int) (by omega) (by omega), w64 _ (by omega) (by omega)]; simp
def upT (turn : Int) : Int := IntKind.u32.wrap (turn + 1)
theorem next_c (b n : Nat) (turn : Int) (w0 : World) : Ret Tryz.prog 80 [.agg ⟨cBook b n turn⟩] w0 (fun _ => False) fun v _ => v = .agg ⟨cBook b n (upT turn)⟩ := by
  refine enter Tryz.func80 rfl rfl (Wd.start w0) (fun a S => ?_)
  simp only [Tryz.ntmps80, List.length_cons, List.length_nil, Nat.reduceAdd, Nat.reduceSub, List.replicate_succ, List.replicate_zero, List.cons_append, List.nil_append] at S
  refine c_seq ?_
  refine c_region ?_
  refine sa S ?_; clear S; intro b1 a w S
  refine sa S ?_; clear S; intro b2 a w S
  refine wl_nil ?_
  refine xtn ?_
  refine c_seq ?_
  refine c_region ?_
  iterate 8 (refine sq S ?_; clear S; intro a S)
  refine sw S ?_; clear S; intro a w S
  refine wl_nil ?_
  refine xtn ?_
  refine c_ret ?_
  refine end1 S (fun _ => ?_)
  rfl
end Go.Proofs.YtdakncgafdnjfaaGreat
namespace Go.Proofs.YtdakncgafdnjfaaGreat
open Go Go.Wk
set_option synthInstance.maxSize 100000
set_option synthInstance.maxHeartbeats 400000
set_option maxRecDepth 100000
theorem begin2_c (g0 b m n : Nat) (p : Option Addr) (c : Nat) (s : DS) (turn : Int) (w0 : World) (hn : n ≤ 1000) (ht : 0 ≤ turn ∧ turn ≤ 4294967295) (hl : s.loose.length ≤ 999000) (hd : (dkI b m p c s).holds w0) (f0 : Stable (dkI b m p c s).foot w0 (BoxF g0 132 (cBook b n turn))) :
    Ret Tryz.prog 175 [.pointer (some ⟨g0, 0, none⟩)] w0 (dkI b m p c s).foot fun v w' => v = .int .i64 (layF s ((turn % 2).toNat : Nat) [titleF turn n]).2 ∧ ∃ p' c', (dkI b m p' c' (layF s ((turn % 2).toNat : Nat) [titleF turn n]).1).holds w' ∧ ∀ i, (dkI b m p' c' (layF s ((turn % 2).toNat : Nat) [titleF turn n]).1).foot i → (dkI b m p c s).foot i ∨ w0.heap.size ≤ i := by
  refine enter Tryz.func175 rfl rfl (Wd.itLent (x := dkI b m p c s) (fs := [BoxF g0 132 (cBook b n turn)]) hd (by intro Φ hΦ; obtain rfl := List.mem_singleton.1 hΦ; exact f0)) (fun a S => ?_)
  simp only [Tryz.ntmps175, List.length_cons, List.length_nil, Nat.reduceAdd, Nat.reduceSub, List.replicate_succ, List.replicate_zero, List.cons_append, List.nil_append] at S
  refine c_seq ?_
  refine c_region ?_
  refine sq S ?_; clear S; intro a S
  refine wl_nil ?_
  refine xtn ?_
  refine c_seq ?_
  refine c_drawE [(0, true), (1, true), (2, true), (3, true), (4, true), (5, true), (6, true), (7, true), (8, true), (9, true), (10, false), (11, false), (12, false), (13, true)] [] S ?_; clear S; intro w S
  iterate 6 (refine dq S ?_; clear S; intro a S)
  rw [show IntKind.i64.wrap (turn.tmod 2) = ((turn % 2).toNat : Int) from by rw [Int.tmod_eq_emod_of_nonneg ht.1, w64 _ (by omega) (by omega)]; omega] at S
  iterate 4 (refine dq S ?_; clear S; intro a S)
  refine dl ?_
  refine sr S (title_c turn n ht (by omega) _) ?_; clear S; rintro _ a w rfl S
  refine de S ?_
  refine dl ?_
  have hlt := foots_lt S
  refine sr S (only_f (titleF turn n) 1 _) ?_; clear S; rintro _ a w ⟨h0, h1, rfl, ⟨n0, n1⟩, e0, e1⟩ S
  replace S := S.add (Φ := BoxF h0 3 [.int .i64 ((1 : Nat) : Int)]) (BoxF.stable e0 (fun hm => by have := hlt _ hm; omega))
  replace S := S.add (Φ := BoxF h1 129 (encL (titleF turn n).l)) (BoxF.stable e1 (fun hm => by have := hlt _ hm; omega))
  refine de S ?_
  refine dl ?_
  refine sit (dkI b m p c s) S (lay_c 173 [.pointer (some ⟨h0, 0, none⟩), .pointer (some ⟨h1, 0, none⟩)] [titleF turn n] b m p c s (turn % 2).toNat [BoxF h1 129 (encL (titleF turn n).l), BoxF h0 3 [.int .i64 ((1 : Nat) : Int)]] _ (by simp; omega) (by simp; omega) (S.it (dkI b m p c s)) (fun Φ hΦ => S.lend (dkI b m p c s) (S.wd.facts Φ (List.mem_append_left _ hΦ))) (fun M w1 hM hF => only_it h0 h1 (titleF turn n) 1 (by omega) w1 M hM (hF _ (by simp)) (hF _ (by simp)))) rfl ?_; clear S; rintro _ a w ⟨rfl, p2, c2, hh, hn2⟩ hS
  have S := hS (dkI b m p2 c2 (layF s ((turn % 2).toNat : Nat) [titleF turn n]).1) hh hn2
  clear hS
  refine de S ?_
  refine dq S ?_; clear S; intro a S
  refine dn ?_
  refine xtn ?_
  refine c_ret ?_
  have h1 := S.itNew (dkI b m p2 c2 (layF s ((turn % 2).toNat : Nat) [titleF turn n]).1) rfl
  refine end1 S (fun _ => ⟨rfl, p2, c2, hh, h1⟩)
theorem begin1_c (g0 g1 b m n : Nat) (p : Option Addr) (c : Nat) (s : DS) (turn : Int) (bs : List UInt8) (q : Option Addr) (e : Nat) (w0 : World) (hn : n ≤ 1000) (ht : 0 ≤ turn ∧ turn ≤ 4294967295) (hbs : bs.length ≤ 40000) (hqe : bs.length ≤ e) (hl : s.loose.length ≤ 998000) (hd : (dkI b m p c s).holds w0) (f0 : Stable (dkI b m p c s).foot w0 (BoxF g0 132 (cBook b n turn))) (f1 : Stable (dkI b m p c s).foot w0 (BoxF g1 25 [.slice q bs.length e])) (f2 : Stable (dkI b m p c s).foot w0 (GlF q bs)) :
    Ret Tryz.prog 174 [.pointer (some ⟨g0, 0, none⟩), .pointer (some ⟨g1, 0, none⟩)] w0 (dkI b m p c s).foot fun v w' => v = .int .i64 (layF s (fromN n turn : Nat) (leavesF turn 0 bs)).2 ∧ ∃ p' c', (dkI b m p' c' (layF s (fromN n turn : Nat) (leavesF turn 0 bs)).1).holds w' ∧ ∀ i, (dkI b m p' c' (layF s (fromN n turn : Nat) (leavesF turn 0 bs)).1).foot i → (dkI b m p c s).foot i ∨ w0.heap.size ≤ i := by
  have hll : (leavesF turn 0 bs).length ≤ 840 := by rw [leavesF_len]; unfold secN; split <;> omega
  have hfr : fromN n turn ≤ 1002 := by
    unfold fromN
    rcases (show (turn % 2).toNat = 0 ∨ (turn % 2).toNat = 1 by omega) with h | h <;> rw [h] <;> omega
  refine enter Tryz.func174 rfl rfl (Wd.itLent (x := dkI b m p c s) (fs := [BoxF g0 132 (cBook b n turn), BoxF g1 25 [.slice q bs.length e], GlF q bs]) hd (by simp; exact ⟨f0, f1, f2⟩)) (fun a S => ?_)
  simp only [Tryz.ntmps174, List.length_cons, List.length_nil, Nat.reduceAdd, Nat.reduceSub, List.replicate_succ, List.replicate_zero, List.cons_append, List.nil_append] at S
  refine c_seq ?_
  refine c_region ?_
  refine sq S ?_; clear S; intro a S
  refine wl_nil ?_
  refine xtn ?_
  refine c_seq ?_
  refine c_drawE [(0, true), (1, true), (2, true), (4, true), (5, true), (6, true), (3, false), (7, false), (8, false), (9, true)] [] S ?_; clear S; intro w S
  iterate 6 (refine dq S ?_; clear S; intro a S)
  refine dl ?_
  refine sr S (from_c b n turn hn ht _) ?_; clear S; rintro _ a w rfl S
  refine de S ?_
  refine dl ?_
  have hlt := foots_lt S
  refine sr S (leaves_f turn 0 q bs.length e _) ?_; clear S; rintro _ a w ⟨h0, h1, h2, rfl, ⟨n0, n1, n2⟩, e0, e1, e2⟩ S
  replace S := S.add (Φ := BoxF h0 25 [.slice q bs.length e]) (BoxF.stable e0 (fun hm => by have := hlt _ hm; omega))
  replace S := S.add (Φ := BoxF h1 130 [.int .u32 turn]) (BoxF.stable e1 (fun hm => by have := hlt _ hm; omega))
  replace S := S.add (Φ := BoxF h2 130 [.int .u32 0]) (BoxF.stable e2 (fun hm => by have := hlt _ hm; omega))
  refine de S ?_
  refine dl ?_
  refine sit (dkI b m p c s) S (lay_c 177 [.pointer (some ⟨h0, 0, none⟩), .pointer (some ⟨h1, 0, none⟩), .pointer (some ⟨h2, 0, none⟩)] (leavesF turn 0 bs) b m p c s (fromN n turn) [BoxF h2 130 [.int .u32 0], BoxF h1 130 [.int .u32 turn], BoxF h0 25 [.slice q bs.length e], BoxF g0 132 (cBook b n turn), BoxF g1 25 [.slice q bs.length e], GlF q bs] _ (by omega) (by omega) (S.it (dkI b m p c s)) (fun Φ hΦ => S.lend (dkI b m p c s) (S.wd.facts Φ hΦ)) (fun M w1 hM hF => leaves_it turn 0 ht (by omega) h0 h1 h2 bs q e hbs hqe w1 M hM (hF _ (by simp)) (hF _ (by simp)) (hF _ (by simp)) (hF _ (by simp)))) rfl ?_; clear S; rintro _ a w ⟨rfl, p3, c3, hh, hn2⟩ hS
  have S := hS (dkI b m p3 c3 (layF s (fromN n turn : Nat) (leavesF turn 0 bs)).1) hh hn2
  clear hS
  refine de S ?_
  refine dq S ?_; clear S; intro a S
  refine dn ?_
  refine xtn ?_
  refine c_ret ?_
  have h1 := S.itNew (dkI b m p3 c3 (layF s (fromN n turn : Nat) (leavesF turn 0 bs)).1) rfl
  have hh := S.it (dkI b m p3 c3 (layF s (fromN n turn : Nat) (leavesF turn 0 bs)).1)
  refine end1 S (fun _ => ⟨rfl, p3, c3, hh, h1⟩)
end Go.Proofs.YtdakncgafdnjfaaGreat
namespace Go.Proofs.YtdakncgafdnjfaaGreat
open Go Go.Wk
set_option synthInstance.maxSize 100000
set_option synthInstance.maxHeartbeats 400000
set_option maxRecDepth 100000
theorem askD_loose (s : DS) (k : Int) (b : Bool) : (askD s k b).loose = s.loose := by
  unfold askD; split
  · rfl
  · split
    · rfl
    · split
      · rfl
      · split <;> (try split) <;> rfl
theorem syD_loose (s : DS) : (syD s).loose.length ≤ s.loose.length := by
  unfold syD askedD
  split
  · simp [opD, settleD]
  · rw [askD_loose]; exact Nat.le_refl _
theorem layW_loose (xs : List Blk) : ∀ (s : DS) (k : Int), (layW s k xs).1.loose.length ≤ s.loose.length + xs.length := by
  induction xs with
  | nil => intro s k; exact Nat.le_refl _
  | cons x xs ih =>
    intro s k
    have h1 := wrD_loose s k x
    have h2 := ih (wrD s k x) (k + 1)
    rw [layW]
    split
    · rw [List.length_cons]; omega
    · rw [List.length_cons]; show (wrD s k x).loose.length ≤ _; omega
theorem layF_loose (s : DS) (k : Int) (xs : List Blk) : (layF s k xs).1.loose.length ≤ s.loose.length + xs.length := by
  have h1 := layW_loose xs s k
  have h2 := syD_loose (layW s k xs).1
  unfold layF
  split
  · show (syD (layW s k xs).1).loose.length ≤ _; omega
  · exact h1
def wstepF (n : Nat) (turn : Int) (bs : List UInt8) (i : Nat) (s : DS) : DS × Int := if i = 0 then layF s (fromN n turn : Nat) (leavesF turn 0 bs) else layF s ((turn % 2).toNat : Nat) [titleF turn n]
def restF (n : Nat) (turn : Int) (bs : List UInt8) : Nat → DS → DS × Int
  | 0, s => if (wstepF n turn bs 0 s).2 = 0 then wstepF n turn bs 1 (wstepF n turn bs 0 s).1 else wstepF n turn bs 0 s
  | 1, s => wstepF n turn bs 1 s
  | _, s => (s, 0)
def begF (n : Nat) (turn : Int) (bs : List UInt8) (s : DS) : DS × Int := restF n turn bs 0 s
theorem restF_step (n : Nat) (turn : Int) (bs : List UInt8) (i : Nat) (hi : i < 2) (s : DS) : restF n turn bs i s = if (wstepF n turn bs i s).2 = 0 then restF n turn bs (i + 1) (wstepF n turn bs i s).1 else wstepF n turn bs i s := by
  rcases (show i = 0 ∨ i = 1 by omega) with rfl | rfl
  · rfl
  · show wstepF n turn bs 1 s = if (wstepF n turn bs 1 s).2 = 0 then ((wstepF n turn bs 1 s).1, 0) else wstepF n turn bs 1 s
    split
    · rename_i h; rw [← h]
    · rfl
def stepFn (i : Nat) : Nat := if i = 0 then 174 else 175
def stepLb (g0 g1 i : Nat) : List Value := if i = 0 then [.pointer (some ⟨g0, 0, none⟩), .pointer (some ⟨g1, 0, none⟩)] else [.pointer (some ⟨g0, 0, none⟩)]
instance entStep {i : Nat} : EntF Tryz.prog (stepFn i) := by
  unfold stepFn
  split <;> infer_instance
theorem wstep_c (g0 g1 b m n : Nat) (p : Option Addr) (c : Nat) (s : DS) (turn : Int) (bs : List UInt8) (q : Option Addr) (e i : Nat) (w0 : World) (hn : n ≤ 1000) (ht : 0 ≤ turn ∧ turn ≤ 4294967295) (hbs : bs.length ≤ 40000) (hqe : bs.length ≤ e) (hl : s.loose.length ≤ 998000) (hd : (dkI b m p c s).holds w0) (f0 : Stable (dkI b m p c s).foot w0 (BoxF g0 132 (cBook b n turn))) (f1 : Stable (dkI b m p c s).foot w0 (BoxF g1 25 [.slice q bs.length e])) (f2 : Stable (dkI b m p c s).foot w0 (GlF q bs)) :
    Ret Tryz.prog (stepFn i) (stepLb g0 g1 i) w0 (dkI b m p c s).foot fun v w' => v = .int .i64 (wstepF n turn bs i s).2 ∧ ∃ p' c', (dkI b m p' c' (wstepF n turn bs i s).1).holds w' ∧ ∀ k, (dkI b m p' c' (wstepF n turn bs i s).1).foot k → (dkI b m p c s).foot k ∨ w0.heap.size ≤ k := by
  unfold stepFn stepLb wstepF
  split
  · exact begin1_c g0 g1 b m n p c s turn bs q e w0 hn ht hbs hqe hl hd f0 f1 f2
  · exact begin2_c g0 b m n p c s turn w0 hn ht (by omega) hd f0
theorem begin_c (b m n : Nat) (p : Option Addr) (c : Nat) (s : DS) (turn : Int) (bs : List UInt8) (q : Option Addr) (e : Nat) (w0 : World) (hn : n ≤ 1000) (ht : 0 ≤ turn ∧ turn ≤ 4294967295) (hbs : bs.length ≤ 40000) (hqe : bs.length ≤ e) (hl : s.loose.length ≤ 990000) (hd : (dkI b m p c s).holds w0) (f2 : Stable (dkI b m p c s).foot w0 (GlF q bs)) :
    Ret Tryz.prog 76 [.agg ⟨cBook b n turn⟩, .slice q bs.length e] w0 (dkI b m p c s).foot fun v w' => v = .int .i64 (begF n turn bs s).2 ∧ ∃ p' c', (dkI b m p' c' (begF n turn bs s).1).holds w' ∧ ∀ k, (dkI b m p' c' (begF n turn bs s).1).foot k → (dkI b m p c s).foot k ∨ w0.heap.size ≤ k := by
  have hll : (leavesF turn 0 bs).length ≤ 840 := by rw [leavesF_len]; unfold secN; split <;> omega
  have hst : ∀ i s, (wstepF n turn bs i s).1.loose.length ≤ s.loose.length + 840 := fun i s => by
    unfold wstepF
    split
    · have := layF_loose s (fromN n turn : Nat) (leavesF turn 0 bs); omega
    · have := layF_loose s ((turn % 2).toNat : Nat) [titleF turn n]; simp only [List.length_cons, List.length_nil] at this; omega
  refine enter Tryz.func76 rfl rfl (Wd.itLent (x := dkI b m p c s) (fs := [GlF q bs]) hd (by intro Φ hΦ; obtain rfl := List.mem_singleton.1 hΦ; exact f2)) (fun a S => ?_)
  simp only [Tryz.ntmps76, List.length_cons, List.length_nil, Nat.reduceAdd, Nat.reduceSub, List.replicate_succ, List.replicate_zero, List.cons_append, List.nil_append] at S
  refine c_seq ?_
  refine c_region ?_
  refine sa S ?_; clear S; intro b2 a w S
  refine sa S ?_; clear S; intro b3 a w S
  refine sq S ?_; clear S; intro a S
  refine wl_nil ?_
  refine xtn ?_
  refine c_seq ?_
  refine c_region ?_
  iterate 3 (refine sq S ?_; clear S; intro a S)
  refine sa S ?_; clear S; intro b5 a w S
  refine sw S ?_; clear S; intro a w S
  refine wl_nil ?_
  refine xtn ?_
  iterate 2 (refine c_seq ?_)
  refine c_region ?_
  iterate 2 (refine sq S ?_; clear S; intro a S)
  refine wl_nil ?_
  refine xtn ?_
  refine c_block ?_
  replace S := S.boxToF b3
  replace S := S.boxToF b2
  refine c_fore4 S (fun (i : Nat) (s' : DS) (p' : Option Addr) (c' : Nat) uu => [(4, uu 4), (2, uu 7), (0, uu 8), (4, .int .i64 (i : Nat)), (0, uu 14), (0, uu 15), (0, uu 16), (0, uu 17), (0, uu 18), (0, uu 19), (0, uu 20), (0, uu 21)]) (fun (i : Nat) (s' : DS) (p' : Option Addr) (c' : Nat) => [Wk.box b5 252 [.func (.func (stepFn 0)) #[] ⟨stepLb b2 b3 0⟩, .func (.func (stepFn 1)) #[] ⟨stepLb b2 b3 1⟩], dkI b m p' c' s']) (fun (i : Nat) (s' : DS) (p' : Option Addr) (c' : Nat) => [BoxF b2 132 (cBook b n turn), BoxF b3 25 [.slice q bs.length e], GlF q bs]) (fun (i : Nat) (s' : DS) (p' : Option Addr) (c' : Nat) => i ≤ 2 ∧ begF n turn bs s = restF n turn bs i s' ∧ s'.loose.length ≤ 990000 + 840 * i) (fun (i : Nat) (s' : DS) (p' : Option Addr) (c' : Nat) => 2 - i) (0) (s) (p) (c) ?_ S.uu ?_ ?_
  · exact ⟨by omega, rfl, by omega⟩
  · first | exact S | exact S.sub _ _
  · clear S; rintro i s' p' c' uu a w ⟨hi, hre, hsl⟩ S
    refine c_seq ?_
    refine c_region ?_
    refine sq S ?_; clear S; intro a S
    refine wl_nil ?_
    refine xtn ?_
    refine c_seq ?_
    refine c_cond S (fun h3 => ?_) (fun h3 => ?_)
    · refine c_skip ?_
      refine xtn ?_
      refine c_seq ?_
      refine c_block ?_
      refine c_seq ?_
      have hi2 : i < 2 := by have := of_decide_eq_true h3; omega
      rw [restF_step n turn bs i hi2] at hre
      refine c_region ?_
      refine sv (.func (.func (stepFn i)) #[] ⟨stepLb b2 b3 i⟩) S (fun hf => ?_) ?_
      · rcases (show i = 0 ∨ i = 1 by omega) with rfl | rfl
        · exact run_idx [.func (.func (stepFn 0)) #[] ⟨stepLb b2 b3 0⟩, .func (.func (stepFn 1)) #[] ⟨stepLb b2 b3 1⟩] 0 _ rfl rfl hf _
        · exact run_idx [.func (.func (stepFn 0)) #[] ⟨stepLb b2 b3 0⟩, .func (.func (stepFn 1)) #[] ⟨stepLb b2 b3 1⟩] 1 _ rfl rfl hf _
      clear S; intro a S
      refine sq S ?_; clear S; intro a S
      refine wl_nil ?_
      refine xtn ?_
      refine c_seq ?_
      refine c_region ?_
      refine sq S ?_; clear S; intro a S
      have hfs := fun Φ hΦ => S.lend (dkI b m p' c' s') (S.wd.facts Φ hΦ)
      refine sit (dkI b m p' c' s') S (wstep_c b2 b3 b m n p' c' s' turn bs q e i _ hn ht hbs hqe (by omega) (S.it (dkI b m p' c' s')) (hfs _ (by simp)) (hfs _ (by simp)) (hfs _ (by simp))) rfl ?_; clear S hfs; rintro _ a w ⟨rfl, p2, c2, hh, hn2⟩ hS
      have S := hS (dkI b m p2 c2 (wstepF n turn bs i s').1) hh hn2
      clear hS
      refine sq S ?_; clear S; intro a S
      refine wl_nil ?_
      refine xtn ?_
      refine c_seq ?_
      refine c_region ?_
      iterate 2 (refine sq S ?_; clear S; intro a S)
      refine wl_nil ?_
      refine xtn ?_
      refine c_cond S (fun h6 => ?_) (fun h6 => ?_)
      · refine c_seq ?_
        refine c_region ?_
        iterate 2 (refine sq S ?_; clear S; intro a S)
        refine wl_nil ?_
        refine xtn ?_
        refine c_ret ?_
        refine xbr ?_
        iterate 2 (refine xtr ?_)
        refine xbr ?_
        refine xtr ?_
        have he : (wstepF n turn bs i s').2 ≠ 0 := by simpa using h6
        rw [if_neg he] at hre
        have h1 := S.itNew (dkI b m p2 c2 (wstepF n turn bs i s').1) rfl
        refine end1 S (fun _ => ?_)
        rw [hre]
        exact ⟨rfl, p2, c2, hh, h1⟩
      · refine c_skip ?_
        refine xbn ?_
        refine xtn ?_
        refine c_region ?_
        iterate 2 (refine sq S ?_; clear S; intro a S)
        refine wl_nil ?_
        refine xtn ?_
        rw [show IntKind.i64.wrap ((i : Int) + 1) = ((i + 1 : Nat) : Int) from by rw [w64 _ (by omega) (by omega)]; rfl] at S
        have he : (wstepF n turn bs i s').2 = 0 := by simpa using h6
        rw [if_pos he] at hre
        have := hst i s'
        exact ⟨i + 1, (wstepF n turn bs i s').1, p2, c2, S.uu, ⟨by omega, hre, by omega⟩, S.sub _ _, by omega⟩
    · refine c_exit ?_
      iterate 2 (refine xte ?_)
      refine xbe ?_
      refine xtn ?_
      refine c_seq ?_
      refine c_region ?_
      refine sq S ?_; clear S; intro a S
      refine wl_nil ?_
      refine xtn ?_
      refine c_ret ?_
      have hi2 : i = 2 := by have := of_decide_eq_false h3; omega
      subst hi2
      have h1 := S.itNew (dkI b m p' c' s') rfl
      have hh := S.it (dkI b m p' c' s')
      refine end1 S (fun _ => ?_)
      rw [hre]
      exact ⟨rfl, p', c', hh, h1⟩
end Go.Proofs.YtdakncgafdnjfaaGreat