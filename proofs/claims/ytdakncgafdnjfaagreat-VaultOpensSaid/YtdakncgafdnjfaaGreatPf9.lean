/- 9: a part of this claim's texts, joined: VaultK VaultL VaultN PlainVaultE PlainVaultF PlainVaultG PlainVaultH PlainVaultK VaultO VaultP VaultS VaultT VaultU. -/
import Derived.Test.YtdakncgafdnjfaaGreatPf8
namespace Go.Proofs.YtdakncgafdnjfaaGreat
open Go Go.Wk
set_option synthInstance.maxSize 100000
set_option synthInstance.maxHeartbeats 400000
set_option maxRecDepth 100000
def preR (l : List PRow) (g : Bool) (X : List PRow × Bool × RB) : List PRow × Bool × RB := (l ++ X.1, g && X.2.1, X.2.2)
theorem preR_nil (X : List PRow × Bool × RB) : preR [] true X = X := by obtain ⟨a, b, c⟩ := X; simp [preR]
theorem rowsD_step (l : List PRow) (g : Bool) (j : Nat) (x : RB) : preR l g (rowsD (j + 1) x) = preR (l ++ [(rowD x).1]) (g && (rowD x).2.1) (rowsD j (rowD x).2.2) := by
  rw [rowsD, preR, preR]; simp [Bool.and_assoc]
theorem rowD_tk {r ra rb rc rd : RS} {nm raw : List UInt8} {a c : Nat} (ha : ra = takeR r 1) (ea : a = numN (tookR r 1) 0) (hb : rb = takeR ra a) (eb : nm = tookR ra a) (hc : rc = takeR rb 2) (ec : c = numN (tookR rb 2) 0) (hd : rd = takeR rc c) (ed : raw = tookR rc c) :
    rowD r.ab = (⟨nm, (termD raw).1⟩, (termD raw).2, rd.ab) := by
  have h1 := tk_ab r 1
  have h2 := tk_ab ra a
  have h3 := tk_ab rb 2
  have h4 := tk_ab rc c
  rw [← ha] at h1; rw [← hb, ← eb] at h2; rw [← hc] at h3; rw [← hd, ← ed] at h4
  rw [rowD, ← h1.1, ← h1.2, ← ea, ← h2.1, ← h2.2, ← h3.1, ← h3.2, ← ec, ← h4.1, ← h4.2]
theorem rsP_lenK (xs : List LRow) : (rsP xs).length = xs.length := List.length_map _
class NamesOk (xs : List LRow) : Prop where
  all : ∀ x ∈ xs, x.name.length ≤ 9223372036854775807
instance {xs : List LRow} {p : Option Addr} {n c : Nat} {bs fs} [hg : HasG fs p LRow layRow xs] [hn : LenN xs n] [hk : LeC n c] [hl : LeC n 9223372036854775807] [ho : NamesOk xs] : CallV Tryz.prog 63 [.slice p n c] bs fs (.bool (batchP (rsP xs))) := ⟨fun w m => batch_c xs p n c w hn.eq hk.le ho.all hl.le ((hg.of _ _ m.facts).less fun _ _ h => h.elim)⟩
def VDecR (M : Nat → Prop) (bs : List UInt8) (v : Value) (w : World) : Prop := ∃ (xs : List LRow) (p : Option Addr) (c : Nat) (e : Int), v = .tuple ⟨[.slice p xs.length c, .int .i64 e]⟩ ∧ rsP xs = (decV bs).1 ∧ e = (decV bs).2 ∧ Stable M w (GlF p xs) ∧ xs.length ≤ c ∧ ∀ x ∈ xs, x.name.length ≤ 255
theorem vdec_c (bs : List UInt8) (p : Option Addr) (n c : Nat) (M : Nat → Prop) (w0 : World) (hn : bs.length = n) (hl : n ≤ 10000000) (hM : ∀ k, M k → k < w0.heap.size) (hf : Stable M w0 (GlF p bs)) :
    Ret Tryz.prog 15 [.slice p n c] w0 (fun _ => False) fun v w' => VDecR M bs v w' := by
  subst hn
  refine enter Tryz.func15 rfl rfl (Wd.beginM (M := M) (fs := [GlF p bs]) hM (by simpa using hf)) (fun a S => ?_)
  simp only [Tryz.ntmps15, List.length_cons, List.length_nil, Nat.reduceAdd, Nat.reduceSub, List.replicate_succ, List.replicate_zero, List.cons_append, List.nil_append] at S
  refine c_seq ?_; refine c_region ?_; (iterate 2 (refine sq S ?_; clear S; intro a S)); refine wl_nil ?_; refine xtn ?_; refine c_seq ?_; refine c_region ?_; refine sq S ?_; clear S; intro a S
  refine snew S (readR_c bs p bs.length c _ rfl hl (S.gl0 p)) ?_; clear S; rintro _ a w - ⟨rd, p1, c1, rfl, hh, hnw⟩ hS -
  have S := hS (both (rdI rd ⟨p1, c1, bs, 0⟩) (Wk.row 5 1 p1 bs.length c1 (encL bs))) hh hnw
  clear hS
  replace S := S.ofBoth
  have hc1 := own_le (S.row p1 bs.length)
  replace S := (S.front (Wk.row 5 1 p1 bs.length c1 (encL bs))).rowToGl p1 bs (e := 5) (sz := 1) (n := bs.length) (c := c1) (fun _ _ _ _ => trivial)
  obtain ⟨r0, hr0⟩ : ∃ r0 : RS, r0 = ⟨p1, c1, bs, 0⟩ := ⟨_, rfl⟩
  rw [← hr0, show GlF p1 bs = GlF r0.p r0.bs from by rw [hr0]] at S
  have hc0 : r0.bs.length ≤ r0.c := by rw [hr0]; exact hc1
  have hl0 : r0.bs.length ≤ 10000000 := by rw [hr0]; exact hl
  have hab : r0.ab = (bs, false) := by rw [hr0]; rfl
  refine sq S ?_; clear S; intro a S; refine wl_nil ?_; refine xtn ?_; refine c_seq ?_; refine c_region ?_; refine sq S ?_; clear S; intro a S; refine wl_nil ?_; refine xtn ?_; refine c_seq ?_; refine c_region ?_; refine sq S ?_; clear S; intro a S; refine wl_nil ?_; refine xtn ?_; (iterate 2 (refine c_seq ?_)); refine c_region ?_; refine sq S ?_; clear S; intro a S
  refine sit (rdI rd r0) S (u8R_c rd r0 _ hc0 hl0 (S.it (rdI rd r0)) (S.lend (rdI rd r0) (S.mem.fact (GlF r0.p r0.bs)))) rfl ?_; clear S; rintro _ a w ⟨rfl, hh⟩ hS
  have S := hS (rdI rd (takeR r0 1)) hh (fun k h => .inl h)
  clear hS
  obtain ⟨N, hN⟩ : ∃ N, N = numN (tookR r0 1) 0 := ⟨_, rfl⟩
  rw [← hN] at S
  have hNl : N < 256 := by rw [hN]; exact (took_num r0 1 (by decide)).2
  replace S := S.add (Φ := GlF (takeR r0 1).p (takeR r0 1).bs) (takeR_gl hc0 (S.mem.fact (GlF r0.p r0.bs)))
  have hall : allD bs = rowsD N (takeR r0 1).ab := by
    have h1 := tk_ab r0 1
    rw [hab] at h1
    rw [allD, ← h1.1, ← h1.2, hN]
  have hc2 := takeR_cap (k := 1) hc0
  have hl2 := takeR_len r0 1
  refine sq S ?_; clear S; intro a S
  rw [w64 (N : Int) (by omega) (by omega)] at S
  refine sq S ?_; clear S; intro a S; refine wl_nil ?_; refine xtn ?_; refine c_block ?_
  refine c_fore6 S (fun (k : Nat) (xs : List LRow) (r : RS) (good : Bool) (p' : Option Addr) (c' : Nat) uu => [(5, .slice p' k c'), (0, .bool good), (0, uu 7), (0, uu 8), (0, uu 9), (0, uu 10), (0, uu 11), (0, uu 12), (5, .int .i64 (k : Nat)), (0, uu 19), (0, uu 20), (0, uu 21), (0, uu 22), (0, uu 23), (0, uu 24), (0, uu 25), (0, uu 26), (0, uu 27), (0, uu 28), (0, uu 29), (0, uu 30), (0, uu 31), (0, uu 32), (0, uu 33), (0, uu 34), (0, uu 35), (0, uu 36), (0, uu 37), (0, uu 38), (0, uu 39), (0, uu 40), (0, uu 41), (0, uu 42), (0, uu 43), (0, uu 44), (0, uu 45), (0, uu 46), (0, uu 47), (0, uu 48), (0, uu 49), (0, uu 50), (0, uu 51), (0, uu 52), (0, uu 53), (0, uu 54), (0, uu 55), (0, uu 56), (0, uu 57), (0, uu 58), (0, uu 59)]) (fun (k : Nat) (xs : List LRow) (r : RS) (good : Bool) (p' : Option Addr) (c' : Nat) => [Wk.row 45 6 p' k c' (encL xs), rdI rd r, ext M]) (fun (k : Nat) (xs : List LRow) (r : RS) (good : Bool) (p' : Option Addr) (c' : Nat) => [AllI xs, GlF r.p r.bs]) (fun (k : Nat) (xs : List LRow) (r : RS) (good : Bool) (p' : Option Addr) (c' : Nat) => k = xs.length ∧ k ≤ N ∧ SubR (takeR r0 1) r ∧ allD bs = preR (rsP xs) good (rowsD (N - k) r.ab) ∧ ∀ x ∈ xs, x.name.length ≤ 255) (fun (k : Nat) (xs : List LRow) (r : RS) (good : Bool) (p' : Option Addr) (c' : Nat) => N - k) (0) ([]) (takeR r0 1) (true) (none) (0) ?_ S.uu ?_ ?_
  · exact ⟨rfl, Nat.zero_le _, SubR.refl _, by rw [hall]; exact (preR_nil _).symm, nofun⟩
  · replace S := S.addNil 45 6
    replace S := S.add (Φ := AllI ([] : List LRow)) (fun _ _ _ hx => by cases hx)
    rw [show Wk.row 45 6 none 0 0 [] = Wk.row 45 6 none 0 0 (encL ([] : List LRow)) from rfl] at S
    exact S.sub _ _
  · clear S; rintro k xs r good p' c' uu a w ⟨hkx, hk, hsub, hrel, hnm⟩ S
    refine c_seq ?_; refine c_region ?_; refine sq S ?_; clear S; intro a S; refine wl_nil ?_; refine xtn ?_; refine c_seq ?_
    refine c_cond S (fun h5 => ?_) (fun h5 => ?_)
    · refine c_skip ?_; refine xtn ?_; refine c_seq ?_; refine c_block ?_; refine c_seq ?_
      have hkl : k < N := by simp at h5; omega
      have hcr := hsub.cap hc2
      have hlr := hsub.len
      have hNk : N - k = (N - (k + 1)) + 1 := by omega
      refine c_region ?_; (iterate 2 (refine sq S ?_; clear S; intro a S))
      refine sit (rdI rd r) S (u8R_c rd r _ hcr (by omega) (S.it (rdI rd r)) (S.lend (rdI rd r) (S.mem.fact (GlF r.p r.bs)))) rfl ?_; clear S; rintro _ a w ⟨rfl, hh⟩ hS
      have S := hS (rdI rd (takeR r 1)) hh (fun k h => .inl h)
      clear hS
      obtain ⟨na, hna⟩ : ∃ na, na = numN (tookR r 1) 0 := ⟨_, rfl⟩
      rw [← hna] at S
      have hnal : na < 256 := by rw [hna]; exact (took_num r 1 (by decide)).2
      replace S := S.add (Φ := GlF (takeR r 1).p (takeR r 1).bs) (takeR_gl hcr (S.mem.fact (GlF r.p r.bs)))
      obtain ⟨ra, hra⟩ : ∃ ra, ra = takeR r 1 := ⟨_, rfl⟩
      have hsa : SubR r ra := hra ▸ SubR.take r 1
      rw [← hra] at S
      have hca := hsa.cap hcr
      have hla := hsa.len
      refine sq S ?_; clear S; intro a S
      rw [w64 (na : Int) (by omega) (by omega)] at S
      refine sit (rdI rd ra) S (rawR_c rd ra na _ (by omega) hca (by omega) (S.it (rdI rd ra)) (S.lend (rdI rd ra) (S.mem.fact (GlF ra.p ra.bs)))) rfl ?_; clear S; rintro _ a w ⟨p6, c6, rfl, hh, hf6⟩ hS
      have S := hS (both (Wk.row 5 1 p6 (tookR ra na).length c6 (encL (tookR ra na))) (rdI rd (takeR ra na))) hh hf6
      clear hS
      replace S := S.front (both (Wk.row 5 1 p6 (tookR ra na).length c6 (encL (tookR ra na))) (rdI rd (takeR ra na)))
      replace S := S.ofBoth
      replace S := S.add (Φ := GlF (takeR ra na).p (takeR ra na).bs) (takeR_gl hca (S.mem.fact (GlF ra.p ra.bs)))
      obtain ⟨rb, hrb⟩ : ∃ rb, rb = takeR ra na := ⟨_, rfl⟩
      have hsb : SubR ra rb := hrb ▸ SubR.take ra na
      rw [← hrb] at S
      have hcb := hsb.cap hca
      have hlb := hsb.len
      obtain ⟨nm, hnmm⟩ : ∃ nm, nm = tookR ra na := ⟨_, rfl⟩
      have hnml : nm.length ≤ 255 := by have := (tookR_len ra na).1; rw [← hnmm] at this; omega
      rw [← hnmm] at S
      (iterate 2 (refine sq S ?_; clear S; intro a S)); refine wl_nil ?_; refine xtn ?_; refine c_seq ?_; refine c_region ?_; (iterate 2 (refine sq S ?_; clear S; intro a S))
      refine sit (rdI rd rb) S (u16R_c rd rb _ hcb (by omega) (S.it (rdI rd rb)) (S.lend (rdI rd rb) (S.mem.fact (GlF rb.p rb.bs)))) rfl ?_; clear S; rintro _ a w ⟨rfl, hh⟩ hS
      have S := hS (rdI rd (takeR rb 2)) hh (fun k h => .inl h)
      clear hS
      obtain ⟨nc, hnc⟩ : ∃ nc, nc = numN (tookR rb 2) 0 := ⟨_, rfl⟩
      rw [← hnc] at S
      have hncl : nc < 65536 := by rw [hnc]; exact (took_num rb 2 (by decide)).2
      replace S := S.add (Φ := GlF (takeR rb 2).p (takeR rb 2).bs) (takeR_gl hcb (S.mem.fact (GlF rb.p rb.bs)))
      obtain ⟨rc, hrc⟩ : ∃ rc, rc = takeR rb 2 := ⟨_, rfl⟩
      have hsc : SubR rb rc := hrc ▸ SubR.take rb 2
      rw [← hrc] at S
      have hcc := hsc.cap hcb
      have hlc := hsc.len
      refine sq S ?_; clear S; intro a S
      rw [w64 (nc : Int) (by omega) (by omega)] at S
      refine sit (rdI rd rc) S (rawR_c rd rc nc _ (by omega) hcc (by omega) (S.it (rdI rd rc)) (S.lend (rdI rd rc) (S.mem.fact (GlF rc.p rc.bs)))) rfl ?_; clear S; rintro _ a w ⟨p7, c7, rfl, hh, hf7⟩ hS
      have S := hS (both (Wk.row 5 1 p7 (tookR rc nc).length c7 (encL (tookR rc nc))) (rdI rd (takeR rc nc))) hh hf7
      clear hS
      replace S := S.front (both (Wk.row 5 1 p7 (tookR rc nc).length c7 (encL (tookR rc nc))) (rdI rd (takeR rc nc)))
      replace S := S.ofBoth
      replace S := S.add (Φ := GlF (takeR rc nc).p (takeR rc nc).bs) (takeR_gl hcc (S.mem.fact (GlF rc.p rc.bs)))
      obtain ⟨re, hre⟩ : ∃ re, re = takeR rc nc := ⟨_, rfl⟩
      have hse : SubR rc re := hre ▸ SubR.take rc nc
      rw [← hre] at S
      obtain ⟨raw, hraw⟩ : ∃ raw, raw = tookR rc nc := ⟨_, rfl⟩
      have hrawl : raw.length ≤ 65535 := by have := (tookR_len rc nc).1; rw [← hraw] at this; omega
      rw [← hraw] at S
      replace S := (S.front (Wk.row 5 1 p7 raw.length c7 (encL raw))).rowToGl p7 raw (e := 5) (sz := 1) (n := raw.length) (c := c7) (fun _ _ _ _ => trivial)
      have hrow := rowD_tk hra hna hrb hnmm hrc hnc hre hraw
      refine sq S ?_; clear S; intro a S; refine wl_nil ?_; refine xtn ?_; refine c_seq ?_; refine c_region ?_; (iterate 2 (refine sq S ?_; clear S; intro a S))
      refine sa S ?_; clear S; intro b9 a w S
      refine sw S ?_; clear S; intro a w S; refine wl_nil ?_; refine xtn ?_
      refine c_mrge2 S (fun (z : LTerm) (g : Bool) uu => [(6, .bool g), (3, uu 10), (0, uu 11), (0, uu 12), (20, uu 33), (0, uu 34), (0, uu 35), (0, uu 36), (0, uu 37), (0, uu 38), (0, uu 39), (0, uu 40), (0, uu 41), (0, uu 42), (0, uu 43), (0, uu 44), (0, uu 45), (0, uu 46), (0, uu 47), (0, uu 48), (0, uu 49), (0, uu 50), (0, uu 51), (0, uu 52), (0, uu 53), (0, uu 54)]) (fun (z : LTerm) (g : Bool) => [Wk.box b9 45 [str nm, .int .i64 z.kind, .int .i64 z.user, .int .i64 z.num, str z.text, .slice z.p z.kids.length z.cap], Wk.row 45 6 p' k c' (encL xs), rdI rd re, ext M]) (fun (z : LTerm) (g : Bool) => [LtF z, GlF re.p re.bs, AllI xs]) (fun (z : LTerm) (g : Bool) => z.t = (termD raw).1 ∧ g = (good && (termD raw).2)) ?_ ?_
      · refine c_seq ?_; refine c_region ?_; (iterate 3 (refine sq S ?_; clear S; intro a S)); refine wl_nil ?_; refine xtn ?_
        refine c_cond S (fun h9 => ?_) (fun h9 => ?_)
        · refine c_seq ?_; refine c_region ?_; refine sq S ?_; clear S; intro a S
          refine sr S (tdec_c raw p7 raw.length c7 _ w rfl (by omega) (foots_lt S) (S.mem.fact (GlF p7 raw))) ?_; clear S; rintro _ a w ⟨z, nn, e, rfl, hzf, hcase⟩ S
          replace S := S.add hzf
          have hraw0 : raw ≠ [] := fun h => by rw [h] at h9; simp at h9
          have htd : z.t = (termD raw).1 ∧ (decide (e = 0) && decide (nn = (raw.length : Int))) = (termD raw).2 := by
            rw [termD, if_neg hraw0]
            rcases hcase with ⟨left, rest, hd, hnn, he⟩ | ⟨hd, hz, he⟩
            · rw [hd]
              refine ⟨rfl, ?_⟩
              rw [he, hnn]
              cases rest with
              | nil => simp
              | cons x rest => simp; omega
            · rw [hd, hz]
              refine ⟨rfl, ?_⟩
              simp [he]
          (iterate 4 (refine sq S ?_; clear S; intro a S))
          refine sa S ?_; clear S; intro b10 a w S
          refine sw S ?_; clear S; intro a w S; (iterate 2 (refine sq S ?_; clear S; intro a S)); refine wl_nil ?_; refine xtn ?_; refine c_seq ?_; refine c_region ?_; (iterate 2 (refine sq S ?_; clear S; intro a S)); (iterate 2 (refine gQ S ?_; clear S; intro a S)); (iterate 2 (refine sq S ?_; clear S; intro a S)); (iterate 4 (refine gQ S ?_; clear S; intro a S)); (iterate 2 (refine sq S ?_; clear S; intro a S))
          refine wl_nil ?_; refine xtn ?_; refine c_region ?_; (iterate 2 (refine sq S ?_; clear S; intro a S)); refine sw S ?_; clear S; intro a w S; refine wl_nil ?_; refine xtn ?_
          rw [show (Value.string ⟨nm.toArray⟩) = str nm from rfl] at S
          replace S := (((S.front (ext M)).front (rdI rd re)).front (Wk.row 45 6 p' k c' (encL xs))).front (Wk.box b9 45 [str nm, .int .i64 z.kind, .int .i64 z.user, .int .i64 z.num, str z.text, .slice z.p z.kids.length z.cap])
          exact ⟨z, _, S.uu, ⟨htd.1, by rw [← htd.2, Bool.and_assoc]⟩, S.sub _ _⟩
        · refine c_skip ?_; refine xtn ?_
          have hraw0 : raw = [] := by
            cases hr : raw with
            | nil => rfl
            | cons x l => rw [hr] at h9; simp at h9
          have htd : termD raw = (zeroT, true) := by rw [termD, if_pos hraw0]
          rw [show ([.string ⟨nm.toArray⟩, .int .i64 0, .int .i64 0, .int .i64 0, .string ⟨#[]⟩, .slice none 0 0] : List Value) = [str nm, .int .i64 Wk.zeroL.kind, .int .i64 Wk.zeroL.user, .int .i64 Wk.zeroL.num, str Wk.zeroL.text, .slice Wk.zeroL.p Wk.zeroL.kids.length Wk.zeroL.cap] from rfl] at S
          replace S := S.add (Φ := LtF Wk.zeroL) (fun _ _ => zeroL_in _)
          replace S := (((S.front (ext M)).front (rdI rd re)).front (Wk.row 45 6 p' k c' (encL xs))).front (Wk.box b9 45 [str nm, .int .i64 Wk.zeroL.kind, .int .i64 Wk.zeroL.user, .int .i64 Wk.zeroL.num, str Wk.zeroL.text, .slice Wk.zeroL.p Wk.zeroL.kids.length Wk.zeroL.cap])
          exact ⟨Wk.zeroL, good, S.uu, ⟨by rw [htd]; rfl, by rw [htd, Bool.and_true]⟩, S.sub _ _⟩
      · clear S; rintro z g uu a w ⟨hzt, hg⟩ S
        refine c_region ?_; (iterate 2 (refine sq S ?_; clear S; intro a S))
        refine sn S ?_; clear S; intro b57 a w S
        have hke : (encL xs).length = k * 6 := by rw [encL_len, hkx]; rfl
        refine sap S (by simp [maxLen]; omega) (by omega) ?_; clear S; rintro p13 c13 a w - S
        rw [show encL xs ++ [str nm, .int .i64 z.kind, .int .i64 z.user, .int .i64 z.num, str z.text, .slice z.p z.kids.length z.cap] = encL (xs ++ [⟨nm, z⟩]) from by rw [encL_append]; rfl] at S
        have hA1 : Stable _ _ (AllI xs) := S.wd.facts (AllI xs) (by simp)
        have hA2 := S.t z
        replace S := S.add (Φ := AllI (xs ++ [(⟨nm, z⟩ : LRow)])) (fun w' hw' x hx => by
          rcases List.mem_append.1 hx with h | h
          · exact hA1 w' hw' x h
          · rw [List.mem_singleton.1 h]; exact hA2 w' hw')
        refine sq S ?_; clear S; intro a S; refine wl_nil ?_; refine xbn ?_; refine xtn ?_; refine c_region ?_; (iterate 2 (refine sq S ?_; clear S; intro a S)); refine wl_nil ?_; refine xtn ?_
        have hkl : k < N := by simp at h5; omega
        have hNk : N - k = (N - (k + 1)) + 1 := by omega
        have hst : SubR (takeR r0 1) re := ((((hsub.trans hsa).trans hsb).trans hsc).trans hse)
        rw [w64 ((k : Int) + 1) (by omega) (by omega)] at S
        refine ⟨k + 1, xs ++ [(⟨nm, z⟩ : LRow)], re, g, p13, c13, S.uu, ⟨by simp [hkx], hkl, hst, ?_, fun x hx => ?_⟩, S.sub [Wk.row 45 6 p13 (k + 1) c13 (encL (xs ++ [(⟨nm, z⟩ : LRow)])), rdI rd re, ext M] _, by omega⟩
        · rw [hrel, hNk, rowsD_step, hrow, hg, rsP, rsP, List.map_append]
          show preR (xs.map LRow.r ++ [⟨nm, (termD raw).1⟩]) _ _ = preR (xs.map LRow.r ++ [⟨nm, z.t⟩]) _ _
          rw [hzt]
        · rcases List.mem_append.1 hx with h | h
          · exact hnm x h
          · rw [List.mem_singleton.1 h]; exact hnml
    · refine c_exit ?_; (iterate 2 (refine xte ?_)); refine xbe ?_; refine xtn ?_; refine c_seq ?_; refine c_block ?_; refine c_seq ?_
      have hkN : N - k = 0 := by simp at h5; omega
      rw [hkN] at hrel
      have hkle : k ≤ c' := own_le (S.row p' k)
      have hI1 : LenN xs k := ⟨hkx.symm⟩
      have hI2 : LeC k c' := ⟨hkle⟩
      have hI3 : LeC k 9223372036854775807 := ⟨by omega⟩
      have hI4 : NamesOk xs := ⟨fun x hx => by have := hnm x hx; omega⟩
      replace S := S.rowToGl p' xs (e := 45) (sz := 6) (n := k) (c := c') (S.wd.facts (AllI xs) (by simp))
      have hA : allD bs = (rsP xs, good, r.ab) := by rw [hrel]; simp [preR, rowsD]
      refine c_region ?_; refine sq S ?_; clear S; intro a S
      refine sr S (errR_c rd r _ (BoxF.stable (S.box rd) (fun h => h))) ?_; clear S; rintro _ a w rfl S
      (iterate 2 (refine sq S ?_; clear S; intro a S)); refine wl_nil ?_; refine xtn ?_
      refine c_cond S (fun h15 => ?_) (fun h15 => ?_)
      · refine c_seq ?_; refine c_region ?_; (iterate 2 (refine sq S ?_; clear S; intro a S)); refine wl_nil ?_; refine xtn ?_; refine c_ret ?_; refine xbr ?_; refine xtr ?_
        have hv : decV bs = ([], 7) := by rw [decV, hA, if_pos (show r.ab.2 = true from h15)]
        exact end2 S (fun _ => ⟨[], none, 0, 7, rfl, by rw [hv]; rfl, by rw [hv], fun _ _ => gl_nil, Nat.le_refl _, nofun⟩)
      · refine c_seq ?_; refine c_region ?_; (iterate 3 (refine sq S ?_; clear S; intro a S)); refine gQ S ?_; clear S; intro a S; refine gC S ?_; clear S; intro a w S; refine gQ S ?_; clear S; intro a S; (iterate 2 (refine sq S ?_; clear S; intro a S)); (iterate 3 (refine gQ S ?_; clear S; intro a S)); (iterate 2 (refine sq S ?_; clear S; intro a S)); refine gQ S ?_; clear S; intro a S; refine gC S ?_; clear S; intro a w S
        refine gQ S ?_; clear S; intro a S; (iterate 2 (refine sq S ?_; clear S; intro a S)); refine wl_nil ?_; refine xtn ?_
        refine c_cond S (fun h17 => ?_) (fun h17 => ?_)
        · refine c_seq ?_; refine c_region ?_; (iterate 2 (refine sq S ?_; clear S; intro a S)); refine wl_nil ?_; refine xtn ?_; refine c_ret ?_; refine xbr ?_; refine xtr ?_
          have h15' : ¬ r.ab.2 = true := by show ¬ (!decide (r.why = 0)) = true; rw [h15]; simp
          have hv : decV bs = ([], 2) := by
            rw [decV, hA, if_neg h15', if_pos]
            simp only [Bool.or_eq_true, Bool.not_eq_true', decide_eq_true_eq] at h17
            simp only [rsP_lenK]
            show good = false ∨ 0 < r.bs.length ∨ 64 < xs.length ∨ batchP (rsP xs) = false
            rcases h17 with ((h | h) | h) | h
            · exact .inl h
            · exact .inr (.inl (by omega))
            · exact .inr (.inr (.inl (by omega)))
            · exact .inr (.inr (.inr h))
          exact end2 S (fun _ => ⟨[], none, 0, 2, rfl, by rw [hv]; rfl, by rw [hv], fun _ _ => gl_nil, Nat.le_refl _, nofun⟩)
        · refine c_skip ?_; refine xbn ?_; refine xtn ?_; refine c_seq ?_; refine c_region ?_; (iterate 3 (refine sq S ?_; clear S; intro a S)); refine wl_nil ?_; refine xtn ?_; refine c_ret ?_
          have h15' : ¬ r.ab.2 = true := by show ¬ (!decide (r.why = 0)) = true; rw [h15]; simp
          have hv : decV bs = (rsP xs, 0) := by
            rw [decV, hA, if_neg h15', if_neg]
            simp only [Bool.or_eq_false_iff, Bool.not_eq_false', decide_eq_false_iff_not] at h17
            simp only [rsP_lenK]
            show ¬ (good = false ∨ 0 < r.bs.length ∨ 64 < xs.length ∨ batchP (rsP xs) = false)
            rintro (h | h | h | h)
            · rw [h] at h17; simp at h17
            · omega
            · omega
            · rw [h] at h17; simp at h17
          have hgl : Stable M _ (GlF p' xs) := S.laterFact (M := M) (by simp)
          refine end2 S (fun _ => ?_)
          subst hkx
          exact ⟨xs, p', c', 0, rfl, by rw [hv], by rw [hv], hgl, hkle, hnm⟩
theorem vopen1_c (x y : LRow) (w0 : World) : Ret Tryz.prog 88 [vRow x, vRow y] w0 (fun _ => False) fun v _ => v = .int .i64 (Lib.compareBytes x.name y.name) := by
  refine enter Tryz.func88 rfl rfl (Wd.start w0) (fun a S => ?_)
  simp only [Tryz.ntmps88, List.length_cons, List.length_nil, Nat.reduceAdd, Nat.reduceSub, List.replicate_succ, List.replicate_zero, List.cons_append, List.nil_append] at S
  refine c_seq ?_; refine c_region ?_
  refine sa S ?_; clear S; intro b2 a w S
  refine sa S ?_; clear S; intro b3 a w S
  refine sq S ?_; clear S; intro a S; refine wl_nil ?_; refine xtn ?_; refine c_seq ?_; refine c_region ?_; (iterate 4 (refine sq S ?_; clear S; intro a S)); refine sc S ?_; clear S; intro a w S; refine sq S ?_; clear S; intro a S; refine wl_nil ?_; refine xtn ?_; refine c_ret ?_
  exact end1 S (fun _ => rfl)
instance {x y : LRow} {bs fs} : CallV Tryz.prog 88 [vRow x, vRow y] bs fs (.int .i64 (Lib.compareBytes x.name y.name)) := ⟨fun w _ => vopen1_c x y w⟩
theorem vopen2_c (x : LRow) (w0 : World) (hf : Stable (fun _ => False) w0 (LtF x.term)) : Ret Tryz.prog 91 [vRow x] w0 (fun _ => False) fun v _ => v = .bool (goneP x.r) := by
  refine enter Tryz.func91 rfl rfl (Wd.begin (fs := [LtF x.term]) (by simpa using hf)) (fun a S => ?_)
  simp only [Tryz.ntmps91, List.length_cons, List.length_nil, Nat.reduceAdd, Nat.reduceSub, List.replicate_succ, List.replicate_zero, List.cons_append, List.nil_append] at S
  refine c_seq ?_; refine c_region ?_
  refine sa S ?_; clear S; intro b1 a w S
  refine sq S ?_; clear S; intro a S; refine wl_nil ?_; refine xtn ?_; refine c_seq ?_; refine c_region ?_; refine sq S ?_; clear S; intro a S; refine sc S ?_; clear S; intro a w S; refine sq S ?_; clear S; intro a S; refine wl_nil ?_; refine xtn ?_; refine c_ret ?_
  exact end1 S (fun _ => rfl)
def upTo (l : List PRow) : Nat → Bool
  | 0 => true
  | k + 1 => (match l[k]?, l[k + 1]? with | some x, some y => !Op.bytesLess y.name x.name | _, _ => true) && upTo l k
def risesP (l : List PRow) : Bool := upTo l (l.length - 1)
theorem upTo_get {l : List PRow} {k : Nat} {x y : PRow} (hx : l[k]? = some x) (hy : l[k + 1]? = some y) : upTo l (k + 1) = (!Op.bytesLess y.name x.name && upTo l k) := by
  rw [upTo, hx, hy]
theorem issorted_c (xs : List LRow) (p : Option Addr) (n c : Nat) (w0 : World) (hn : xs.length = n) (hl : n ≤ 1000000) (hx : Stable (fun _ => False) w0 (GlF p xs)) :
    Ret Tryz.prog 87 [.slice p n c, .func (.func 88) #[] #[]] w0 (fun _ => False) fun v _ => v = .bool (risesP (rsP xs)) := by
  subst hn
  have hg : ∀ i, i < xs.length → (rsP xs)[i]? = some (nthG xs i).r := fun i hi => by rw [rsP, List.getElem?_map, nthG_get hi]; rfl
  refine enter Tryz.func87 rfl rfl (Wd.begin (fs := [GlF p xs]) (by simpa using hx)) (fun a S => ?_)
  simp only [Tryz.ntmps87, List.length_cons, List.length_nil, Nat.reduceAdd, Nat.reduceSub, List.replicate_succ, List.replicate_zero, List.cons_append, List.nil_append] at S
  refine c_seq ?_; refine c_region ?_; refine sq S ?_; clear S; intro a S; refine wl_nil ?_; refine xtn ?_; (iterate 2 (refine c_seq ?_)); refine c_region ?_; (iterate 3 (refine sq S ?_; clear S; intro a S))
  rw [w64 ((xs.length : Int) - 1) (by omega) (by omega)] at S
  refine sq S ?_; clear S; intro a S; refine wl_nil ?_; refine xtn ?_; refine c_block ?_
  refine c_forb1 S (fun (k : Int) uu => [(4, uu 4), (0, .int .i64 k), (3, uu 9), (0, uu 10), (0, uu 11), (0, uu 12), (0, uu 13), (0, uu 14), (0, uu 15), (0, uu 16), (0, uu 17), (0, uu 18), (0, uu 19), (0, uu 20), (0, uu 21), (0, uu 22), (0, uu 23), (0, uu 24)]) (fun (k : Int) => k ≤ (xs.length : Int) - 1 ∧ -1 ≤ k ∧ upTo (rsP xs) k.toNat = risesP (rsP xs)) (fun (k : Int) => (k + 1).toNat) ((xs.length : Int) - 1) ?_ S.uu ?_ ?_
  · exact ⟨Int.le_refl _, by omega, by rw [risesP, rsP_lenK, show ((xs.length : Int) - 1).toNat = xs.length - 1 from by omega]⟩
  · first | exact S | exact S.sub _ _
  · clear S; rintro k uu a w ⟨hk1, hk2, hrel⟩ S
    (iterate 2 (refine c_seq ?_)); refine c_region ?_; (iterate 2 (refine sq S ?_; clear S; intro a S)); refine wl_nil ?_; refine xtn ?_
    refine c_cond S (fun h2 => ?_) (fun h2 => ?_)
    · refine c_skip ?_; refine xtn ?_; refine c_seq ?_; refine c_block ?_; refine c_seq ?_
      have hk0 : 0 < k := by simpa using h2
      obtain ⟨j, rfl⟩ : ∃ j : Nat, k = ((j + 1 : Nat) : Int) := ⟨(k - 1).toNat, by omega⟩
      have hK1 : KLt (j + 1) xs.length := ⟨by omega⟩
      have hK2 : KLt j xs.length := ⟨by omega⟩
      refine c_drawD [(0, true), (1, true), (2, true), (3, true), (4, true), (5, true), (6, true), (7, true), (8, true), (9, true), (10, false), (11, true)] [] S ?_; clear S; intro w S
      (iterate 8 (refine dq S ?_; clear S; intro a S))
      rw [w64 _ (by omega) (by omega), show ((j + 1 : Nat) : Int) - 1 = (j : Int) from by omega] at S
      (iterate 2 (refine dq S ?_; clear S; intro a S)); refine dl ?_; refine sc S ?_; clear S; intro a w S; refine de S ?_; refine dq S ?_; clear S; intro a S
      rw [cmp_lessV] at S
      refine dn ?_; refine xtn ?_
      refine c_cond S (fun h4 => ?_) (fun h4 => ?_)
      · refine c_seq ?_; refine c_region ?_; refine sq S ?_; clear S; intro a S; refine wl_nil ?_; refine xtn ?_; refine c_ret ?_; refine xbr ?_; (iterate 2 (refine xtr ?_)); refine xbr ?_; refine xtr ?_
        refine end1 S (fun _ => ?_)
        rw [show ((j + 1 : Nat) : Int).toNat = j + 1 from rfl, upTo_get (hg j (by omega)) (hg (j + 1) (by omega)), show (nthG xs (j + 1)).r.name = (nthG xs (j + 1)).name from rfl, show (nthG xs j).r.name = (nthG xs j).name from rfl, h4] at hrel
        rw [← hrel]; rfl
      · refine c_skip ?_; refine xbn ?_; refine xtn ?_; refine c_region ?_; (iterate 2 (refine sq S ?_; clear S; intro a S))
        rw [w64 _ (by omega) (by omega), show ((j + 1 : Nat) : Int) - 1 = (j : Int) from by omega] at S
        refine sq S ?_; clear S; intro a S; refine wl_nil ?_; refine xtn ?_
        rw [show ((j + 1 : Nat) : Int).toNat = j + 1 from rfl, upTo_get (hg j (by omega)) (hg (j + 1) (by omega)), show (nthG xs (j + 1)).r.name = (nthG xs (j + 1)).name from rfl, show (nthG xs j).r.name = (nthG xs j).name from rfl, h4] at hrel
        exact ⟨(j : Int), S.uu, ⟨by omega, by omega, hrel⟩, S.sub _ _, by omega⟩
    · refine c_exit ?_; (iterate 2 (refine xte ?_)); refine xbe ?_; refine xtn ?_; refine c_seq ?_; refine c_region ?_; refine sq S ?_; clear S; intro a S; refine wl_nil ?_; refine xtn ?_; refine c_ret ?_
      have hk0 : ¬ 0 < k := by simpa using h2
      rw [show k.toNat = 0 from by omega] at hrel
      refine end1 S (fun _ => ?_)
      rw [← hrel]; rfl
def entO : List PRow → List (List UInt8) → Option (List PRow)
  | rows, [] => some rows
  | rows, b :: bs => if (decV b).2 ≠ 0 ∨ 64 < (behP rows (decV b).1).length then none else entO (behP rows (decV b).1) bs
def snapO (b : List UInt8) : Option (List PRow) := if b = [] then some [] else if (decV b).2 ≠ 0 ∨ risesP (decV b).1 = false ∨ (decV b).1.any goneP = true then none else some (behP [] (decV b).1)
def openP : List (List UInt8) → Option (List PRow)
  | [] => none
  | b :: bs => match snapO b with
    | none => none
    | some rows => entO rows bs
theorem decV_batch {b : List UInt8} (h : (decV b).2 = 0) : batchP (decV b).1 = true ∧ (decV b).1.length ≤ 64 := by
  unfold decV at h ⊢
  split at h
  · cases h
  · split at h
    · cases h
    · rename_i h1 h2
      rw [if_neg h1, if_neg h2]
      have h3 : ¬ batchP (allD b).1 = false := fun h => h2 (.inr (.inr (.inr h)))
      have h4 : ¬ 64 < (allD b).1.length := fun h => h2 (.inr (.inr (.inl h)))
      exact ⟨by simpa using h3, by simpa using h4⟩
theorem decV_len (b : List UInt8) : (decV b).1.length ≤ 64 := by
  by_cases h : (decV b).2 = 0
  · exact (decV_batch h).2
  · unfold decV at h ⊢
    split
    · simp
    · split
      · simp
      · rename_i h1 h2
        rw [if_neg h1, if_neg h2] at h
        exact absurd rfl h
theorem sorted_get {l : List PRow} (h : SortedP l) {i j : Nat} {x y : PRow} (hij : i < j) (hx : l[i]? = some x) (hy : l[j]? = some y) : Op.bytesLess x.name y.name = true := by
  have e1 : (l.map PRow.name)[i]? = some x.name := by rw [List.getElem?_map, hx]; rfl
  have e2 : (l.map PRow.name)[j]? = some y.name := by rw [List.getElem?_map, hy]; rfl
  obtain ⟨q1, q2⟩ := List.getElem?_eq_some_iff.1 e1
  obtain ⟨q3, q4⟩ := List.getElem?_eq_some_iff.1 e2
  have := List.pairwise_iff_getElem.1 h i j q1 q3 hij
  rw [q2, q4] at this; exact this
theorem sorted_upTo {l : List PRow} (h : SortedP l) : ∀ k, upTo l k = true
  | 0 => rfl
  | k + 1 => by
    rw [upTo, sorted_upTo h k, Bool.and_true]
    split
    · rename_i x y hx hy
      rw [bl_asymm _ _ (sorted_get h (Nat.lt_succ_self k) hx hy)]; rfl
    · rfl
theorem putP_end : ∀ (l : List PRow) (r : PRow), (∀ x ∈ l, Op.bytesLess x.name r.name = true) → goneP r = false → putP l r = l ++ [r]
  | [], r, _, hg => by rw [putP, if_neg (by rw [hg]; simp)]; rfl
  | x :: l, r, h, hg => by
    have h1 := h x (.head _)
    rw [putP, if_neg (fun e => by rw [e, bl_irrefl] at h1; cases h1), if_neg (by rw [bl_asymm _ _ h1]; simp), putP_end l r (fun y hy => h y (.tail _ hy)) hg]
    rfl
theorem behP_sorted_self : ∀ (l acc : List PRow), SortedP (acc ++ l) → (∀ r ∈ l, goneP r = false) → behP acc l = acc ++ l
  | [], acc, _, _ => by rw [behP_nil, List.append_nil]
  | r :: l, acc, h, hg => by
    have h1 : ∀ x ∈ acc, Op.bytesLess x.name r.name = true := fun x hx => by
      unfold SortedP at h
      rw [List.map_append, List.pairwise_append] at h
      exact h.2.2 x.name (List.mem_map_of_mem hx) r.name (by simp)
    rw [behP_cons, putP_end acc r h1 (hg r (.head _)), behP_sorted_self l (acc ++ [r]) (by simpa using h) (fun x hx => hg x (.tail _ hx))]
    simp
theorem up_turnV {t : Int} (h0 : 0 ≤ t) (h1 : t + 1 ≤ 4294967295) : upT t = t + 1 := by rw [upT, wu32 _ (by omega) (by omega)]
theorem roomC_lv {V : LV} {n : Nat} {t : Int} {said : List (List UInt8)} (h : LvOk V n t said) (ht : t + 1 ≤ 4294967295) (bs : List UInt8) : roomC V.x bs = if 40000 < bs.length then 3 else if n < secN bs.length then 6 else 0 := by
  obtain ⟨q1, q2, q3, q4, q5, q6⟩ := h
  obtain ⟨s, n', turn, said', fin, broken⟩ := V
  simp only at q1 q2 q3 q4 q5 q6
  subst q1 q2 q3 q4 q5
  obtain ⟨s', hs, tail, hL, -⟩ := q6
  have hup := up_turnV hL.ht.1 ht
  have ht0 := hL.ht.1
  by_cases hb : 40000 < bs.length
  · have e1 : refF (LV.x ⟨s, n', turn, said', endF turn said', false⟩) bs = 3 := by rw [refF, if_pos hb]
    rw [if_pos hb, roomC, if_neg (by rw [e1]; decide), e1]
  · have e1 : refF (LV.x ⟨s, n', turn, said', endF turn said', false⟩) bs = 0 := by rw [refF, if_neg hb]; rfl
    rw [if_neg hb, roomC, if_pos e1]
    show (if n' < secN bs.length ∨ upT turn = 0 then (6 : Int) else 0) = _
    by_cases h6 : n' < secN bs.length
    · rw [if_pos (.inl h6), if_pos h6]
    · rw [if_neg (by rintro (h | h); exact h6 h; omega), if_neg h6]
theorem chk_off {V : LV} {n : Nat} {t : Int} {said : List (List UInt8)} (h : LvOff V n t said) (ht : t + 1 ≤ 4294967295) (bs : List UInt8) (hb : bs.length ≤ 40000) (hr : secN bs.length ≤ n) :
    (chkV V bs).2 = 0 ∧ LvOff (chkV V bs).1 n (t + 1) [bs] := by
  have hroom := roomC_lv h.ok ht bs
  rw [if_neg (by omega), if_neg (by omega)] at hroom
  obtain ⟨⟨q1, q2, q3, q4, q5, q6⟩, hl, ho⟩ := h
  obtain ⟨s, n', turn, said', fin, broken⟩ := V
  simp only at q1 q2 q3 q4 q5 q6 hl ho hroom
  subst q1 q2 q3 q4 q5
  obtain ⟨s', hsim, tail, hL, hfr⟩ := id q6
  have hup := up_turnV hL.ht.1 ht
  obtain ⟨a1, a2, a3⟩ := (chk_live hl bs hb hr ht).resolve_right (fun h => by rw [ho] at h; cases h.1)
  unfold chkV
  rw [if_neg (fun h => h hroom)]
  show ((if (begF n' (upT turn) _ s).2 = 0 then _ else _) : LV × Int).2 = 0 ∧ _
  rw [hup, if_pos a1]
  refine ⟨rfl, ⟨⟨rfl, rfl, rfl, ?_, rfl, a2.liveF (fun h => by rw [a3 ho] at h; cases h)⟩, a2, a3 ho⟩⟩
  show secN bs.length = _
  rw [endF_sum]; simp
structure Went (V : LV × Int) (n : Nat) (t t' : Int) (said said' : List (List UInt8)) : Prop where
  yes : V.2 = 0 → LvOk V.1 n t' said'
  no : V.2 ≠ 0 → V.1.broken = true ∧ ∀ keep, Able (crashD keep V.1.s) n t said ∨ Able (crashD keep V.1.s) n t' said'
structure TwinP (V U : LV) (rows : List PRow) (t : Int) (said : List (List UInt8)) : Prop where
  v : LvOk V 300 t said
  u : LvOff U 300 t said
  kept : KeptP rows
  few : rows.length ≤ 64
  opens : openP said = some rows
theorem goodP_apart : ∀ (l pre : List PRow), goodP pre l = true → (∀ r ∈ l, ∀ x ∈ pre, x.name ≠ r.name) ∧ (l.map PRow.name).Pairwise (fun a b => a ≠ b)
  | [], _, _ => ⟨nofun, .nil⟩
  | r :: l, pre, h => by
    rw [goodP, Bool.and_eq_true, Bool.and_eq_true] at h
    obtain ⟨⟨h1, h2⟩, h3⟩ := h
    obtain ⟨i1, i2⟩ := goodP_apart l (pre ++ [r]) h3
    have h4 : ∀ x ∈ pre, x.name ≠ r.name := fun x hx he => by
      have h5 : (pre.any fun x => decide (x.name = r.name)) = true := List.any_eq_true.2 ⟨x, hx, by simpa using he⟩
      rw [h5] at h2; cases h2
    refine ⟨fun y hy x hx => ?_, ?_⟩
    · rcases List.mem_cons.1 hy with rfl | hy
      · exact h4 x hx
      · exact i1 y hy x (List.mem_append.2 (.inl hx))
    · rw [List.map_cons, List.pairwise_cons]
      refine ⟨fun s hs => ?_, i2⟩
      obtain ⟨y, hy, rfl⟩ := List.mem_map.1 hs
      exact i1 y hy r (by simp)
theorem batch_apart {l : List PRow} (h : batchP l = true) {i j : Nat} {x y : PRow} (hij : i < j) (hx : l[i]? = some x) (hy : l[j]? = some y) : x.name ≠ y.name := by
  rw [batchP, Bool.and_eq_true] at h
  have e1 : (l.map PRow.name)[i]? = some x.name := by rw [List.getElem?_map, hx]; rfl
  have e2 : (l.map PRow.name)[j]? = some y.name := by rw [List.getElem?_map, hy]; rfl
  obtain ⟨q1, q2⟩ := List.getElem?_eq_some_iff.1 e1
  obtain ⟨q3, q4⟩ := List.getElem?_eq_some_iff.1 e2
  have := List.pairwise_iff_getElem.1 (goodP_apart l [] h.1).2 i j q1 q3 hij
  rw [q2, q4] at this; exact this
theorem sorted_of_steps : ∀ (l : List PRow), (∀ i x y, l[i]? = some x → l[i + 1]? = some y → Op.bytesLess x.name y.name = true) → SortedP l
  | [], _ => .nil
  | [x], _ => sorted_cons.2 ⟨nofun, .nil⟩
  | x :: y :: l, h => by
    have ih := sorted_of_steps (y :: l) fun i a b ha hb => h (i + 1) a b (by simpa using ha) (by simpa using hb)
    refine sorted_cons.2 ⟨fun z hz => ?_, ih⟩
    have h1 : Op.bytesLess x.name y.name = true := h 0 x y rfl rfl
    rcases List.mem_cons.1 hz with rfl | hz
    · exact h1
    · exact bl_trans _ _ _ h1 ((sorted_cons.1 ih).1 z hz)
theorem upTo_step {l : List PRow} {i : Nat} {x y : PRow} (hx : l[i]? = some x) (hy : l[i + 1]? = some y) : ∀ k, i + 1 ≤ k → upTo l k = true → Op.bytesLess y.name x.name = false
  | 0, h, _ => by omega
  | k + 1, h, hu => by
    rcases Nat.lt_or_ge i k with h1 | h1
    · rw [upTo, Bool.and_eq_true] at hu
      exact upTo_step hx hy k h1 hu.2
    · obtain rfl : i = k := by omega
      rw [upTo_get hx hy, Bool.and_eq_true] at hu
      simpa using hu.1
def SnapOk (l : List PRow) (e : Int) (k : Nat) : Prop := e = 0 ∧ ∀ i x, i < k → l[i]? = some x → goneP x = false ∧ (0 < i → ∀ y, l[i - 1]? = some y → Op.bytesLess y.name x.name = true)
theorem snapOk_zero {l : List PRow} {e : Int} : SnapOk l e 0 ↔ e = 0 := ⟨fun h => h.1, fun h => ⟨h, fun i x hi => absurd hi (Nat.not_lt_zero i)⟩⟩
theorem snapOk_succ {l : List PRow} {e : Int} {k : Nat} {x : PRow} (hx : l[k]? = some x) : SnapOk l e (k + 1) ↔ SnapOk l e k ∧ goneP x = false ∧ (0 < k → ∀ y, l[k - 1]? = some y → Op.bytesLess y.name x.name = true) := by
  constructor
  · rintro ⟨h1, h2⟩
    exact ⟨⟨h1, fun i y hi hy => h2 i y (by omega) hy⟩, h2 k x (Nat.lt_succ_self k) hx⟩
  · rintro ⟨⟨h1, h2⟩, h3⟩
    refine ⟨h1, fun i y hi hy => ?_⟩
    rcases Nat.lt_succ_iff_lt_or_eq.1 hi with h | rfl
    · exact h2 i y h hy
    · rw [hx] at hy; cases hy; exact h3
theorem snap_doc {s : List UInt8} (hs : s ≠ []) : (SnapOk (decV s).1 (decV s).2 (decV s).1.length → snapO s = some (decV s).1 ∧ SortedP (decV s).1) ∧ (¬ SnapOk (decV s).1 (decV s).2 (decV s).1.length → snapO s = none) := by
  obtain ⟨l, hl⟩ : ∃ l, l = (decV s).1 := ⟨_, rfl⟩
  obtain ⟨e, he⟩ : ∃ e, e = (decV s).2 := ⟨_, rfl⟩
  have hlt : ∀ {i : Nat} {x : PRow}, l[i]? = some x → i < l.length := fun h => (List.getElem?_eq_some_iff.1 h).1
  rw [snapO, if_neg hs, ← hl, ← he]
  constructor
  · rintro ⟨h1, h2⟩
    have hso : SortedP l := sorted_of_steps l fun i x y hx hy => (h2 (i + 1) y (hlt hy) hy).2 (Nat.succ_pos i) x (by simpa using hx)
    have hno : ∀ r ∈ l, goneP r = false := fun r hr => by
      obtain ⟨i, hi, hr⟩ := List.mem_iff_getElem.1 hr
      exact (h2 i r hi (by rw [List.getElem?_eq_getElem hi, hr])).1
    refine ⟨?_, hso⟩
    rw [if_neg, behP_sorted_self l [] hso hno]; rfl
    rintro (h | h | h)
    · exact h h1
    · rw [risesP, sorted_upTo hso] at h; cases h
    · rw [List.any_eq_true] at h
      obtain ⟨r, hr, hg⟩ := h
      rw [hno r hr] at hg; cases hg
  · intro hn
    refine if_pos (Classical.byContradiction fun hc => hn ?_)
    have c1 : e = 0 := Classical.byContradiction fun h => hc (.inl h)
    have c2 : risesP l = true := by
      cases h : risesP l with
      | true => rfl
      | false => exact absurd (.inr (.inl h)) hc
    have c3 : l.any goneP = false := by
      cases h : l.any goneP with
      | false => rfl
      | true => exact absurd (.inr (.inr h)) hc
    have hB : batchP l = true := by rw [hl]; exact (decV_batch (by rw [← he]; exact c1)).1
    refine ⟨c1, fun i x hi hx => ⟨?_, fun h0 y hy => ?_⟩⟩
    · rw [List.any_eq_false] at c3
      have := c3 x (List.mem_of_getElem? hx)
      simpa using this
    · have hx' : l[i - 1 + 1]? = some x := by rw [show i - 1 + 1 = i from by omega]; exact hx
      have h1 := upTo_step hy hx' (l.length - 1) (by omega) c2
      have h2 := batch_apart hB (show i - 1 < i by omega) hy hx
      rcases bl_tri y.name x.name with h | h | h
      · exact h
      · exact absurd h h2
      · rw [h1] at h; cases h
theorem entO_step {rows : List PRow} {b : List UInt8} {bs : List (List UInt8)} (h1 : (decV b).2 = 0) (h2 : (behP rows (decV b).1).length ≤ 64) : entO rows (b :: bs) = entO (behP rows (decV b).1) bs := by
  rw [entO, if_neg]
  rintro (h | h)
  · exact h h1
  · omega
theorem entO_no {rows : List PRow} {b : List UInt8} {bs : List (List UInt8)} (h : (decV b).2 ≠ 0 ∨ 64 < (behP rows (decV b).1).length) : entO rows (b :: bs) = none := by rw [entO, if_pos h]
theorem lgI_stab {M : Nat → Prop} {w : World} {b g : Nat} {L : LG} (h : Stable M w (lgI b g L).holds) : Stable M w (BoxF g 134 (cWal b L.q L.e L.x)) ∧ Stable M w (GlF L.q L.x.said) ∧ Stable M w (AllBy L.x.said) :=
  ⟨h.imp fun _ h => (BoxF.stable (M := fun _ => False) h.2.1.1 (fun h => h)).now, h.imp fun _ h => (gl_own (M := fun _ => False) h.2.1.2.1.1 (fun _ _ _ _ => trivial) (fun _ _ h => h)).now, h.imp fun _ h y hy => (h.2.1.2.1.2.1 y hy).2⟩
def VOpenR (Mr : Nat → Prop) (b m : Nat) (p : Option Addr) (c : Nat) (s : DS) (v : Value) (w0 w : World) : Prop :=
  (openP (opnV s).said = none ∧ v = .tuple ⟨[.pointer none, .int .i64 290]⟩ ∧ ∃ p' c', (dkI b m p' c' (openF s).1).holds w ∧ ∀ k, (dkI b m p' c' (openF s).1).foot k → (dkI b m p c s).foot k ∨ w0.heap.size ≤ k) ∨
  (∃ h g V, openP (opnV s).said = some (rsP V.xs) ∧ v = .tuple ⟨[.pointer (some ⟨h, 0, none⟩), .int .i64 0]⟩ ∧ V.L.m = m ∧ V.L.v = opnV s ∧ (vtI h b g V).holds w ∧ (∀ k, (vtI h b g V).foot k → (dkI b m p c s).foot k ∨ w0.heap.size ≤ k) ∧ Stable (fun k => (vtI h b g V).foot k ∨ Mr k) w (AllI V.xs))
theorem vopen_ok (b m : Nat) (p : Option Addr) (c : Nat) (s : DS) (Mr : Nat → Prop) (hl : s.loose.length ≤ 980000) (h0 : (openF s).2.1 = 0) (w0 : World) (hMr : ∀ k, Mr k → k < w0.heap.size ∧ ¬ (dkI b m p c s).foot k) (hd : (dkI b m p c s).holds w0) :
    Ret Tryz.prog 24 [.pointer (some ⟨b, 0, none⟩)] w0 (dkI b m p c s).foot fun v w' => VOpenR Mr b m p c s v w0 w' := by
  refine enterM Tryz.func24 rfl rfl (Wd.itLentM (x := dkI b m p c s) (Mr := Mr) (fs := []) hd hMr (by simp)) (fun a S => ?_)
  simp only [Tryz.ntmps24, List.length_cons, List.length_nil, Nat.reduceAdd, Nat.reduceSub, List.replicate_succ, List.replicate_zero, List.cons_append, List.nil_append] at S
  refine c_seq ?_; refine c_region ?_
  refine sa S ?_; clear S; intro b2 a w S
  refine sa S ?_; clear S; intro b3 a w S
  refine wl_nil ?_; refine xtn ?_; refine c_seq ?_; refine c_region ?_; refine sq S ?_; clear S; intro a S
  refine sit (dkI b m p c s) S (openV_c b m p c s hl _ (S.it (dkI b m p c s))) rfl ?_; clear S; rintro _ a w (⟨h, -⟩ | ⟨-, g, L, rfl, hLm, hLv, hh, hf⟩) hS
  · exact absurd h0 h
  have S := hS (lgI b g L) hh hf
  clear hS
  (iterate 5 (refine sq S ?_; clear S; intro a S)); refine wl_nil ?_; refine xtn ?_; (iterate 2 (refine c_seq ?_)); refine c_region ?_; (iterate 2 (refine sq S ?_; clear S; intro a S)); refine wl_nil ?_; refine xtn ?_; refine c_condF S ?_; refine c_skip ?_; refine xtn ?_; refine c_seq ?_
  have hwf := opnV_wf h0
  rw [← hLv] at hwf
  have hown := S.itNew (lgI b g L) rfl
  have hcap := lg_cap (S.it (lgI b g L))
  obtain ⟨bs, r, hr⟩ : ∃ bs r, L.v.said = bs :: r := by
    have h4 := hwf.some_
    cases h : L.v.said with
    | nil => rw [h] at h4; simp at h4
    | cons b0 r => exact ⟨b0, r, rfl⟩
  have hbsl : bs.length ≤ 40000 := hwf.short bs (by rw [hr]; exact .head _)
  have hop : openP (opnV s).said = (match snapO bs with | none => none | some rows => entO rows r) := by rw [← hLv, hr]; rfl
  refine c_region ?_; (iterate 2 (refine sq S ?_; clear S; intro a S))
  refine sa S ?_; clear S; intro b25 a w S
  refine sa S ?_; clear S; intro b6 a w S
  refine sw S ?_; clear S; intro a w S; refine wl_nil ?_; refine xtn ?_
  refine c_mrge3 S (fun (xs : List LRow) (p' : Option Addr) (c' : Nat) uu => [(7, uu 7), (0, uu 8), (0, uu 9), (0, uu 10), (15, uu 26), (0, uu 27), (0, uu 28), (0, uu 29), (0, uu 30), (0, uu 31), (0, uu 32), (0, uu 33), (0, uu 34), (0, uu 35), (0, uu 36), (0, uu 37), (0, uu 38), (0, uu 39), (0, uu 40), (0, uu 41), (0, uu 42), (0, uu 43), (0, uu 44), (0, uu 45), (0, uu 46), (0, uu 47), (0, uu 48), (0, uu 49), (0, uu 50), (0, uu 51), (0, uu 52)]) (fun (xs : List LRow) (p' : Option Addr) (c' : Nat) => [Wk.box b25 144 [.pointer (some ⟨g, 0, none⟩), .slice p' xs.length c'], Wk.row 150 6 p' xs.length c' (encL xs), Wk.box b6 47 [.pointer (some ⟨b25, 0, none⟩)], Wk.box b3 26 [.int .i64 0], Wk.box b2 47 [.pointer none], marks [], lgI b g L, ext Mr]) (fun (xs : List LRow) (p' : Option Addr) (c' : Nat) => [AllI xs]) (fun (xs : List LRow) (p' : Option Addr) (c' : Nat) => snapO bs = some (rsP xs) ∧ xs.length ≤ 64 ∧ SortedP (rsP xs)) ?_ ?_
  · refine c_seq ?_; refine c_region ?_; refine sq S ?_; clear S; intro a S
    refine srn S (snap_v b g L _ hwf _ (S.it (lgI b g L))) ?_; clear S; rintro _ a w ⟨bs', p1, c1, hb0, rfl, hrow, hnew⟩ hS -
    have S := hS hrow hnew
    clear hS
    obtain rfl : bs = bs' := by rw [hr] at hb0; simpa using hb0
    replace S := S.rowToGl p1 bs (e := 5) (sz := 1) (n := bs.length) (c := c1) (fun _ _ _ _ => trivial)
    refine sq S ?_; clear S; intro a S; refine wl_nil ?_; refine xtn ?_; refine c_seq ?_; refine c_region ?_; (iterate 3 (refine sq S ?_; clear S; intro a S)); refine wl_nil ?_; refine xtn ?_
    refine c_cond S (fun h6 => ?_) (fun h6 => ?_)
    · refine c_seq ?_; refine c_region ?_; refine sq S ?_; clear S; intro a S
      have hbs0 : bs ≠ [] := fun h => by rw [h] at h6; simp at h6
      refine sr S (vdec_c bs p1 bs.length c1 _ w rfl (by omega) (foots_lt S) (S.mem.fact (GlF p1 bs))) ?_; clear S; rintro _ a w ⟨ys, p7, c7, e7, rfl, hy1, hy2, hyf, hyc, hyn⟩ S
      replace S := S.add hyf
      have hyl : ys.length ≤ 64 := by have := decV_len bs; rw [← hy1, rsP_lenK] at this; exact this
      (iterate 5 (refine sq S ?_; clear S; intro a S)); refine wl_nil ?_; refine xtn ?_; refine c_seq ?_; refine c_region ?_; refine sq S ?_; clear S; intro a S
      refine sr S (issorted_c ys p7 ys.length c7 _ rfl (by omega) (S.gl0 p7)) ?_; clear S; rintro _ a w rfl S
      refine sq S ?_; clear S; intro a S; refine wl_nil ?_; refine xtn ?_; (iterate 2 (refine c_seq ?_)); refine c_region ?_; (iterate 3 (refine sq S ?_; clear S; intro a S)); (iterate 2 (refine gQ S ?_; clear S; intro a S)); (iterate 2 (refine sq S ?_; clear S; intro a S))
      refine gS S (fun hs9 S => ?_) (fun hs9 S => ?_)
      · refine gF' S ?_; clear S; intro a S; refine gF' S ?_; clear S; intro a S; refine sq S ?_; clear S; intro a S; refine wl_nil ?_; refine xtn ?_; refine c_condT S ?_; refine c_seq ?_; refine c_region ?_; (iterate 2 (refine sw S ?_; clear S; intro a w S)); refine wl_nil ?_; refine xtn ?_; refine c_ret ?_; (iterate 2 (refine xtr ?_))
        have hno : snapO bs = none := by
          rw [snapO, if_neg hbs0, if_pos]
          rw [← hy1, ← hy2]
          by_cases h1 : e7 = 0
          · refine .inr (.inl ?_)
            rw [h1] at hs9
            simpa using hs9
          · exact .inl h1
        have hs : L.s = (openF s).1 := congrArg LV.s hLv
        subst hLm
        refine endM2 S (fun w hw => .inl ⟨by rw [hop, hno], rfl, L.p, L.c, ?_⟩)
        have hd := (hw.held (lgI b g L) (by simp)).1
        rw [← hs]
        exact ⟨hd, fun k hk => hown k (.inl hk)⟩
      · refine gT' S ?_; refine sq S ?_; clear S; intro a S; refine gT' S ?_
        refine sr S (containsRow_c 91 [] (fun x => goneP x.r) ys p7 ys.length c7 _ rfl (by omega) (S.gl0 p7) fun x hx w' hw' => vopen2_c x w' (((S.mem.fact (GlF p7 ys)).less (fun _ _ h => h.elim)).later hw' |>.imp fun _ h => h.2 x hx)) ?_; clear S; rintro _ a w rfl S
        refine sq S ?_; clear S; intro a S; refine wl_nil ?_; refine xtn ?_
        refine c_cond S (fun h9 => ?_) (fun h9 => ?_)
        · refine c_seq ?_; refine c_region ?_; (iterate 2 (refine sw S ?_; clear S; intro a w S)); refine wl_nil ?_; refine xtn ?_; refine c_ret ?_; (iterate 2 (refine xtr ?_))
          have hno : snapO bs = none := by
            rw [snapO, if_neg hbs0, if_pos]
            rw [← hy1, ← hy2]
            refine .inr (.inr ?_)
            rw [rsP, List.any_map]; exact h9
          have hs : L.s = (openF s).1 := congrArg LV.s hLv
          subst hLm
          refine endM2 S (fun w hw => .inl ⟨by rw [hop, hno], rfl, L.p, L.c, ?_⟩)
          have hd := (hw.held (lgI b g L) (by simp)).1
          rw [← hs]
          exact ⟨hd, fun k hk => hown k (.inl hk)⟩
        · refine c_skip ?_; refine xtn ?_
          refine c_drawL 5 [(0, true), (1, true), (2, false), (3, false), (4, true), (5, false)] [Wk.box b6 47 [.pointer (some ⟨b25, 0, none⟩)]] S ?_; clear S; intro w S
          (iterate 2 (refine dqL S ?_; clear S; intro a S)); refine dlL ?_
          refine srn S (vbehind_c [] none 0 ys p7 c7 _ (by simp) (by omega) (fun _ _ => gl_nil) (S.gl0 p7) .nil) ?_; clear S; rintro _ a w ⟨zs, p8, c8, rfl, hown8, hnew8, hzs, hmem⟩ hS -
          have S := hS hown8 hnew8
          clear hS
          replace S := S.add (Φ := AllI zs) (fun w' hw' y hy => (hmem y hy).elim (fun h => by cases h) (fun h => (S.wd.facts (GlF p7 ys) (by simp) w' hw').2 y h))
          refine deL S ?_; refine dlL ?_; refine sq S ?_; clear S; intro a S; refine deL S ?_; refine dqL S ?_; clear S; intro a S; refine dlL ?_; refine sw S ?_; clear S; intro a w S; refine dzL ?_; refine xtn ?_
          have hcond : e7 = 0 ∧ risesP (rsP ys) = true ∧ (rsP ys).any goneP = false := by
            refine ⟨?_, ?_, by rw [rsP, List.any_map]; exact h9⟩
            · by_cases h1 : e7 = 0
              · exact h1
              · rw [decide_eq_false h1] at hs9; simp at hs9
            · cases h2 : risesP (rsP ys) with
              | true => rfl
              | false => rw [h2] at hs9; simp at hs9
          replace S := ((((((S.front (ext Mr)).front (lgI b g L)).front (marks [])).front (Wk.box b2 47 [.pointer none])).front (Wk.box b3 26 [.int .i64 0])).front (Wk.box b6 47 [.pointer (some ⟨b25, 0, none⟩)]))
          replace S := (S.front (Wk.row 150 6 p8 zs.length c8 (encL zs))).front (Wk.box b25 144 [.pointer (some ⟨g, 0, none⟩), .slice p8 zs.length c8])
          refine ⟨zs, p8, c8, S.uu, ⟨?_, ?_, ?_⟩, S.sub _ _⟩
          · rw [snapO, if_neg hbs0, if_neg, hzs, hy1]; rfl
            rw [← hy1, ← hy2]
            rintro (h | h | h)
            · exact h hcond.1
            · rw [hcond.2.1] at h; cases h
            · rw [hcond.2.2] at h; cases h
          · have h1 := behP_len (rsP []) (rsP ys)
            rw [← hzs, rsP_lenK, rsP_lenK, rsP_lenK] at h1
            simp at h1; omega
          · rw [hzs]; exact behP_sorted _ _ .nil
    · refine c_skip ?_; refine xtn ?_
      have hbs0 : bs = [] := by
        cases hb : bs with
        | nil => rfl
        | cons x l => rw [hb] at h6; simp at h6
      replace S := S.addNil 150 6
      replace S := S.add (Φ := AllI ([] : List LRow)) (fun _ _ _ hx => by cases hx)
      rw [show Wk.row 150 6 none 0 0 [] = Wk.row 150 6 none 0 0 (encL ([] : List LRow)) from rfl] at S
      replace S := ((((((S.front (ext Mr)).front (lgI b g L)).front (marks [])).front (Wk.box b2 47 [.pointer none])).front (Wk.box b3 26 [.int .i64 0])).front (Wk.box b6 47 [.pointer (some ⟨b25, 0, none⟩)]))
      replace S := (S.front (Wk.row 150 6 none 0 0 (encL ([] : List LRow)))).front (Wk.box b25 144 [.pointer (some ⟨g, 0, none⟩), .slice none 0 0])
      exact ⟨[], none, 0, S.uu, ⟨by rw [snapO, if_pos hbs0]; rfl, by simp, .nil⟩, S.sub _ _⟩
  · clear S; rintro xs p' c' uu a w ⟨hsn, hx64, hup⟩ S
    (iterate 2 (refine c_seq ?_)); refine c_region ?_; refine sq S ?_; clear S; intro a S
    have hL0 : 0 < L.x.said.length := by have := hwf.some_; rwa [v_len] at this
    have hL1 : L.x.said.length ≤ 1000000 := by have h1 := hwf.few; have h2 := hwf.fin; have h3 := hwf.n; rw [v_len] at h1; omega
    obtain ⟨came, hcame⟩ : ∃ came, came = L.x.said.drop 1 := ⟨_, rfl⟩
    have hcl : came.length = L.x.said.length - 1 := by rw [hcame, List.length_drop]
    have hcb : ∀ y ∈ came, y.bs.length ≤ 1000000 := fun y hy => by have := hwf.short y.bs (List.mem_map_of_mem (List.mem_of_mem_drop (hcame ▸ hy))); omega
    have hcr : bsL came = r := by
      have : L.v.said = bsL L.x.said := rfl
      rw [hcame, bsL, List.map_drop, ← bsL, ← this, hr]; rfl
    have hlt := foots_lt S
    refine sr S (all_c g b L.q L.e L.x hL0 hcap _ (BoxF.stable (S.it (lgI b g L)).2.1.1 (fun h => h))) ?_; clear S; rintro _ a w ⟨h2, rfl, n0, e0⟩ S
    replace S := S.add (Φ := BoxF h2 33 [.slice (if L.e = 1 then L.q else L.q.map (·.add (1 * 1))) (L.x.said.length - 1) (L.e - 1)]) (BoxF.stable e0 (fun hm => by have := hlt _ hm; omega))
    rw [← hcl] at S
    obtain ⟨q2, hq2⟩ : ∃ q2, q2 = (if L.e = 1 then L.q else L.q.map (·.add (1 * 1))) := ⟨_, rfl⟩
    rw [← hq2] at S
    refine wl_nil ?_; refine xtn ?_; refine c_block ?_
    replace S := S.toRo (x := lgI b g L)
    replace S := S.sub [Wk.box b25 144 [.pointer (some ⟨g, 0, none⟩), .slice p' xs.length c'], Wk.row 150 6 p' xs.length c' (encL xs), Wk.box b6 47 [.pointer (some ⟨b25, 0, none⟩)], Wk.box b3 26 [.int .i64 0], Wk.box b2 47 [.pointer none], marks [], (lgI b g L).ro, ext Mr] [BoxF h2 33 [.slice q2 came.length (L.e - 1)], AllI xs]
    replace S := (S.add (Φ := AllI xs) (S.wd.facts (AllI xs) (by simp))).sub [Wk.box b25 144 [.pointer (some ⟨g, 0, none⟩), .slice p' xs.length c'], Wk.row 150 6 p' xs.length c' (encL xs), Wk.box b6 47 [.pointer (some ⟨b25, 0, none⟩)], Wk.box b3 26 [.int .i64 0], Wk.box b2 47 [.pointer none], marks [], (lgI b g L).ro, ext Mr] [AllI xs, BoxF h2 33 [.slice q2 came.length (L.e - 1)]]
    refine c_range (κ := Option Addr × Nat × List LRow) (κx := Unit) (Ds := []) (toldL came)
      (fun _ k => [Wk.box b25 144 [.pointer (some ⟨g, 0, none⟩), .slice k.1 k.2.2.length k.2.1], Wk.row 150 6 k.1 k.2.2.length k.2.1 (encL k.2.2), Wk.box b6 47 [.pointer (some ⟨b25, 0, none⟩)], Wk.box b3 26 [.int .i64 0], Wk.box b2 47 [.pointer none], marks [], (lgI b g L).ro, ext Mr])
      (fun _ k => [AllI k.2.2, BoxF h2 33 [.slice q2 came.length (L.e - 1)]])
      (fun i k => entO (rsP xs) r = entO (rsP k.2.2) (r.drop i) ∧ k.2.2.length ≤ 64 ∧ SortedP (rsP k.2.2))
      (fun _ => [Wk.box b3 26 [.int .i64 290], Wk.box b2 47 [.pointer none], marks [], (lgI b g L).ro, ext Mr])
      (fun _ => []) (fun cd _ => cd = .ret ∧ entO (rsP xs) r = none) (p', c', xs) S
      (fun M w1 hM hF hro => by
        obtain ⟨z1, z2, z3⟩ := lgI_stab (b := b) (g := g) (L := L) (hro (lgI b g L).ro (by simp) rfl)
        exact all_it h2 came q2 (L.e - 1) (by omega) hcb w1 M hM (hF _ (by simp)) (z2.imp fun _ h => by rw [hq2, hcame]; exact h.drop 1 hcap) (z3.imp fun _ h y hy => h y (by rw [hcame] at hy; exact List.mem_of_mem_drop hy))) ⟨⟨rfl, hx64, hup⟩, rfl, rfl⟩ ?_ ?_ ?_ ?_
    · clear S
      rintro L2 D bL M' w1 i z vs ⟨pk, ck, xk⟩ W0 w hz ⟨hrel, hxk, hupk⟩ hW0 hgr ⟨p2, c2, rfl, hown2, hnew2⟩
      obtain ⟨hi, rfl⟩ := told_get hz
      obtain ⟨y2, hy2e⟩ : ∃ y2 : LBy, y2 = ⟨p2, c2, (nthG came i).bs⟩ := ⟨_, rfl⟩
      have hent : (entI [y2]).holds w := by rw [hy2e]; exact ent_row (y := ⟨p2, c2, (nthG came i).bs⟩) hown2
      have hwd := hW0.addItem hgr hent (fun k ⟨u, hu, ad, hp, hk⟩ => by
        obtain rfl := List.mem_singleton.1 hu
        rw [hy2e] at hp
        exact hk ▸ hnew2 ad hp) (ItOk.lt w hent) ItOk.loc
      have hx : r[i]? = some (nthG came i).bs := by rw [← hcr, bsL, List.getElem?_map, nthG_get hi]; rfl
      have hil := (List.getElem?_eq_some_iff.1 hx).1
      have hdr : r.drop i = (nthG came i).bs :: r.drop (i + 1) := by rw [List.drop_eq_getElem_cons hil, (List.getElem?_eq_some_iff.1 hx).2]
      have hbl2 : (nthG came i).bs.length ≤ 1000000 := hcb _ (nthG_mem hi)
      obtain ⟨bs2, hbs2⟩ : ∃ bs2, bs2 = (nthG came i).bs := ⟨_, rfl⟩
      rw [← hbs2] at hdr hy2e hbl2
      rw [hdr, entO] at hrel
      refine ⟨_, inferInstance, fun a S => ?_⟩
      replace S : St w1 M' [] a w _ (entI [y2] :: lpI L2 D (lpR bL .ready none) :: _) _ := ⟨S.slots, S.defers, hwd⟩
      replace S := St.entFact S [y2]
      replace S := S.add (Φ := GlF p2 bs2) ((S.mem.fact (AllBy [y2])).imp fun _ h => by have := h y2 (by simp); rw [hy2e] at this; exact this)
      rw [← hbs2] at S
      dsimp only at S hrel hxk hupk
      refine c_region ?_; refine sq S ?_; clear S; intro a S; refine wl_nil ?_; refine xtn ?_
      refine rbegin (D := D) (b := bL) S ?_; clear S; intro a w S
      refine c_block ?_; refine c_seq ?_; refine c_region ?_; refine sq S ?_; clear S; intro a S
      refine sr S (vdec_c bs2 p2 bs2.length c2 _ _ rfl (by omega) (foots_lt S) (S.mem.fact (GlF p2 bs2))) ?_; clear S; rintro _ a w ⟨ys, p14, c14, e14, rfl, hy1, hy2, hyf, hyc, hyn⟩ S
      replace S := S.add hyf
      have hyl : ys.length ≤ 64 := by have := decV_len bs2; rw [← hy1, rsP_lenK] at this; exact this
      rw [← hy1, ← hy2] at hrel
      (iterate 5 (refine sq S ?_; clear S; intro a S)); refine wl_nil ?_; refine xtn ?_; refine c_seq ?_
      refine c_drawL 9 [(0, true), (1, true), (2, true), (3, true), (4, true), (5, true), (6, false), (7, false), (8, true), (9, false)] [Wk.box b25 144 [.pointer (some ⟨g, 0, none⟩), .slice pk xk.length ck], Wk.box b6 47 [.pointer (some ⟨b25, 0, none⟩)]] S ?_; clear S; intro w S
      (iterate 6 (refine dqL S ?_; clear S; intro a S)); refine dlL ?_
      refine srn S (vbehind_c xk pk ck ys p14 c14 _ (by omega) (by omega) (gl_own (S.row pk xk.length) ((S.mem.fact (AllI xk)).less fun _ _ h => h.elim) (fun _ _ h => h)) (S.gl0 p14) hupk) ?_; clear S; rintro _ a w ⟨zs, p15, c15, rfl, hown15, hnew15, hzs, hmem⟩ hS -
      have S := hS hown15 hnew15
      clear hS
      replace S := S.add (Φ := AllI zs) (fun w' hw' y hy => (hmem y hy).elim (fun h => S.wd.facts (AllI xk) (by simp) w' hw' y h) (fun h => (S.wd.facts (GlF p14 ys) (by simp) w' hw').2 y h))
      refine deL S ?_; refine dlL ?_; refine sq S ?_; clear S; intro a S; refine deL S ?_; refine dqL S ?_; clear S; intro a S; refine dlL ?_; refine sw S ?_; clear S; intro a w S; refine dzL ?_; refine xtn ?_; refine c_seq ?_; refine c_region ?_; (iterate 3 (refine sq S ?_; clear S; intro a S)); (iterate 6 (refine gQ S ?_; clear S; intro a S)); refine sq S ?_; clear S; intro a S; refine wl_nil ?_
      refine xtn ?_
      refine c_cond S (fun h16 => ?_) (fun h16 => ?_)
      · refine c_seq ?_; refine c_region ?_; (iterate 2 (refine sw S ?_; clear S; intro a w S)); refine wl_nil ?_; refine xtn ?_; refine c_ret ?_; refine xbr ?_
        have hno : entO (rsP xs) r = none := by
          rw [hrel, if_pos]
          rw [← hzs, rsP_lenK]
          by_cases h1 : e14 = 0
          · refine .inr ?_
            rw [h1] at h16
            simp at h16; omega
          · exact .inl h1
        exact rret (D := D) (b := bL) (S.sub [lpI L2 D (lpR bL .busy none), Wk.box b3 26 [.int .i64 290], Wk.box b2 47 [.pointer none], marks [], (lgI b g L).ro, ext Mr] []) fun W hW => ⟨.inl rfl, (), ⟨rfl, hno⟩, hW⟩
      · refine c_skip ?_; refine xbn ?_
        have hok : e14 = 0 ∧ zs.length ≤ 64 := by
          by_cases h1 : e14 = 0
          · refine ⟨h1, ?_⟩
            rw [h1] at h16
            simp at h16; omega
          · rw [decide_eq_false h1] at h16; simp at h16
        have hrel2 : entO (rsP xs) r = entO (rsP zs) (r.drop (i + 1)) := by
          rw [hrel, if_neg, hzs]
          rw [← hzs, rsP_lenK]
          rintro (h | h)
          · exact h hok.1
          · omega
        replace S := (((((((((S.front (ext Mr)).front ((lgI b g L).ro)).front (marks [])).front (Wk.box b2 47 [.pointer none])).front (Wk.box b3 26 [.int .i64 0])).front (Wk.box b6 47 [.pointer (some ⟨b25, 0, none⟩)])).front (Wk.row 150 6 p15 zs.length c15 (encL zs))).front (Wk.box b25 144 [.pointer (some ⟨g, 0, none⟩), .slice p15 zs.length c15])).front (lpI L2 D (lpR bL .busy none)))
        exact rnext (D := D) (b := bL) (S.sub [lpI L2 D (lpR bL .busy none), Wk.box b25 144 [.pointer (some ⟨g, 0, none⟩), .slice p15 zs.length c15], Wk.row 150 6 p15 zs.length c15 (encL zs), Wk.box b6 47 [.pointer (some ⟨b25, 0, none⟩)], Wk.box b3 26 [.int .i64 0], Wk.box b2 47 [.pointer none], marks [], (lgI b g L).ro, ext Mr] [AllI zs, BoxF h2 33 [.slice q2 came.length (L.e - 1)]]) fun W hW => ⟨(p15, c15, zs), ⟨hrel2, hok.2, by rw [hzs]; exact behP_sorted _ _ hupk⟩, hW⟩
    · clear S
      rintro D ⟨pk, ck, xk⟩ a w ⟨hrel, hxk, hupk⟩ S
      have hlen : (toldL came).length = r.length := by rw [← hcr]; simp [toldL, bsL]
      rw [hlen] at hrel
      simp only [List.drop_length, entO] at hrel
      dsimp only at S hrel hxk hupk
      replace S := S.join (Ds := [])
      replace S := S.unRo (x := lgI b g L) hown
      refine xbn ?_; refine xtn ?_; refine c_seq ?_; refine c_region ?_; refine sq S ?_; clear S; intro a S; (iterate 2 (refine sw S ?_; clear S; intro a w S)); refine wl_nil ?_; refine xtn ?_; refine c_ret ?_
      subst hLm
      replace S := (((S.front (rwI ⟨L, pk, ck, xk⟩)).front (lgI b g L)).toBoth.front (Wk.box b25 144 (cVt g ⟨L, pk, ck, xk⟩))).toBoth
      refine endM2 S (fun w hw => .inr ⟨b25, g, ⟨L, pk, ck, xk⟩, by rw [hop, hsn]; exact hrel, rfl, rfl, hLv, hw.held (vtI b25 b g ⟨L, pk, ck, xk⟩) (by simp), hw.own (vtI b25 b g ⟨L, pk, ck, xk⟩) (by simp) rfl, ?_⟩)
      exact (hw.facts (AllI xk) (by simp)).less fun k _ hk => hk.elim (fun h => ⟨vtI b25 b g ⟨L, pk, ck, xk⟩, by simp, h⟩) (fun h => ⟨ext Mr, by simp, h⟩)
    · rintro D _ a w ⟨-, hno⟩ S
      replace S := S.join (Ds := [])
      replace S := S.unRo (x := lgI b g L) hown
      repeat (first | refine xbr ?_ | refine xtr ?_)
      have hs : L.s = (openF s).1 := congrArg LV.s hLv
      subst hLm
      refine endM2 S (fun w hw => .inl ⟨by rw [hop, hsn]; exact hno, rfl, L.p, L.c, ?_⟩)
      have hd := (hw.held (lgI b g L) (by simp)).1
      rw [← hs]
      exact ⟨hd, fun k hk => hown k (.inl hk)⟩
    · rintro id D _ a w ⟨h, -⟩; cases h
structure TW where
  V : VT
  U : VT
  ws : List LRow
  pw : Option Addr
  cw : Nat
  ns : List LRow
  pn : Option Addr
  cn : Nat
theorem vt_facts {h b g : Nat} {V : VT} {w : World} (hd : (vtI h b g V).holds w) (hA : Stable (fun _ => False) w (AllI V.xs)) : Stable (fun _ => False) w (BoxF h 144 (cVt g V)) ∧ Stable (fun _ => False) w (GlF V.p V.xs) :=
  ⟨BoxF.stable hd.1 (fun h => h), gl_own hd.2.1.2.1 hA (fun _ _ h => h)⟩
theorem right_bytes {t : Term} (h : rightF t = true) : (bytesF t).length ≤ 84000 ∧ nameF t = bytesF t ∧ checkF t = 0 := by
  have hs := size_ref t
  rw [h, if_pos rfl] at hs
  have h1 := rSize_le t 1200 60 h
  have hz : sizeF t ≠ 0 := by omega
  exact ⟨bytes_small hz, by rw [nameF, if_neg hz], check_zero.2 h⟩
theorem goodP_snoc : ∀ (l pre : List PRow) (r : PRow), goodP pre (r :: l) = (rightP r && !(pre.any fun x => decide (x.name = r.name)) && goodP (pre ++ [r]) l) := fun _ _ _ => rfl
theorem fitP_not {r : PRow} (hg : goneP r = false) : fitP r = (decide (1 ≤ r.name.length) && decide (r.name.length ≤ 32) && (rightF r.term && decide ((bytesF r.term).length ≤ 65535))) := by
  rw [fitP, hg, Bool.false_or]
  congr 1
  cases h : rightF r.term with
  | true =>
    obtain ⟨-, h2, h3⟩ := right_bytes h
    rw [h2, decide_eq_true h3]
  | false =>
    have h3 : checkF r.term ≠ 0 := fun h2 => by rw [check_zero.1 h2] at h; cases h
    rw [decide_eq_false h3]; rfl
theorem rs_take_mem {xs : List LRow} {k : Nat} {x : PRow} (hk : k ≤ xs.length) (h : x ∈ (rsP xs).take k) : ∃ a, a < k ∧ x = (nthG xs a).r := by
  obtain ⟨a, ha, he⟩ := List.mem_iff_getElem.1 h
  rw [List.length_take] at ha
  refine ⟨a, by omega, ?_⟩
  have h1 : (rsP xs)[a]? = some (nthG xs a).r := by rw [rsP, List.getElem?_map, nthG_get (by omega)]; rfl
  rw [List.getElem_take] at he
  rw [List.getElem?_eq_getElem (by rw [rsP_lenK]; omega)] at h1
  rw [← he]; exact Option.some.inj h1
theorem rs_drop {xs : List LRow} {k : Nat} (hk : k < xs.length) : (rsP xs).drop k = (nthG xs k).r :: (rsP xs).drop (k + 1) := by
  rw [rsP, ← List.map_drop, nthG_drop hk, List.map_cons, List.map_drop]
theorem rs_take {xs : List LRow} {k : Nat} (hk : k < xs.length) : (rsP xs).take (k + 1) = (rsP xs).take k ++ [(nthG xs k).r] := by
  rw [rsP, ← List.map_take, take_snocG hk, List.map_append, List.map_take]; rfl
set_option maxHeartbeats 2000000 in
theorem rright19_c (xs : List LRow) (p : Option Addr) (n c : Nat) (w0 : World) (hn : xs.length = n) (hl : n ≤ 1000000) (hnm : ∀ x ∈ xs, x.name.length ≤ 1000000) (hx : Stable (fun _ => False) w0 (GlF p xs)) :
    Ret Tryz.prog 84 [.slice p n c] w0 (fun _ => False) fun v _ => v = .bool (batchP (rsP xs)) := by
  subst hn
  refine enter Tryz.func84 rfl rfl (Wd.begin (fs := [GlF p xs]) (by simpa using hx)) (fun a S => ?_)
  simp only [Tryz.ntmps84, List.length_cons, List.length_nil, Nat.reduceAdd, Nat.reduceSub, List.replicate_succ, List.replicate_zero, List.cons_append, List.nil_append] at S
  refine c_seq ?_; refine c_region ?_; refine sq S ?_; clear S; intro a S; refine wl_nil ?_; refine xtn ?_; (iterate 2 (refine c_seq ?_)); refine c_region ?_; refine sq S ?_; clear S; intro a S; refine wl_nil ?_; refine xtn ?_; refine c_block ?_
  refine c_fore1 S (fun (i : Nat) uu => [(2, uu 2), (0, .int .i64 (i : Nat)), (0, uu 4), (0, uu 5), (0, uu 6), (0, uu 7), (0, uu 8), (0, uu 9), (0, uu 10), (0, uu 11), (0, uu 12), (0, uu 13), (0, uu 14), (0, uu 15), (0, uu 16), (0, uu 17), (0, uu 18), (0, uu 19), (0, uu 20), (0, uu 21), (0, uu 22), (0, uu 23), (0, uu 24), (0, uu 25), (0, uu 26), (0, uu 27), (0, uu 28), (0, uu 29), (0, uu 30), (0, uu 31), (0, uu 32), (0, uu 33), (0, uu 34), (0, uu 35), (0, uu 36), (0, uu 37), (0, uu 38), (0, uu 39), (0, uu 40), (0, uu 41), (0, uu 42), (0, uu 43), (0, uu 44), (0, uu 45), (0, uu 46), (0, uu 47), (0, uu 48), (0, uu 49), (0, uu 50), (0, uu 51), (0, uu 52), (0, uu 53), (0, uu 54), (0, uu 55), (0, uu 56), (0, uu 57), (0, uu 58), (0, uu 59), (0, uu 60), (0, uu 61), (0, uu 62), (0, uu 63), (0, uu 64), (0, uu 65), (0, uu 66), (0, uu 67), (0, uu 68), (0, uu 69), (0, uu 70), (0, uu 71), (0, uu 72), (0, uu 73), (0, uu 74), (0, uu 75), (0, uu 76), (0, uu 77), (0, uu 78), (0, uu 79), (0, uu 80), (0, uu 81), (0, uu 82), (0, uu 83), (0, uu 84), (0, uu 85), (0, uu 86), (0, uu 87), (0, uu 88), (0, uu 89), (0, uu 90), (0, uu 91), (0, uu 92), (0, uu 93), (0, uu 94), (0, uu 95), (0, uu 96), (0, uu 97), (0, uu 98), (0, uu 99), (0, uu 100)]) (fun (i : Nat) => []) (fun (i : Nat) => [GlF p xs]) (fun (i : Nat) => i ≤ xs.length ∧ i ≤ 64 ∧ goodP ((rsP xs).take i) ((rsP xs).drop i) = goodP [] (rsP xs)) (fun (i : Nat) => xs.length - i) (0) ?_ S.uu ?_ ?_
  · exact ⟨Nat.zero_le _, by omega, by rw [List.take_zero, List.drop_zero]⟩
  · first | exact S | exact S.sub _ _
  · clear S; rintro i uu a w ⟨hi, hi64, hrel⟩ S
    (iterate 2 (refine c_seq ?_)); refine c_region ?_; (iterate 4 (refine sq S ?_; clear S; intro a S)); refine wl_nil ?_; refine xtn ?_
    refine c_cond S (fun h2 => ?_) (fun h2 => ?_)
    · refine c_skip ?_; refine xtn ?_; refine c_seq ?_; refine c_block ?_; (iterate 2 (refine c_seq ?_))
      have hil : i < xs.length := by simp at h2; omega
      have hK : KLt i xs.length := ⟨hil⟩
      have hnl := hnm _ (nthG_mem hil)
      rw [rs_drop hil, goodP_snoc] at hrel
      have hbf : goodP [] (rsP xs) = false → batchP (rsP xs) = false := fun h => by rw [batchP, h]; rfl
      refine c_region ?_; (iterate 3 (refine sq S ?_; clear S; intro a S)); (iterate 7 (refine gQ S ?_; clear S; intro a S)); (iterate 2 (refine sq S ?_; clear S; intro a S)); (iterate 7 (refine gQ S ?_; clear S; intro a S)); refine sq S ?_; clear S; intro a S; refine wl_nil ?_; refine xtn ?_
      refine c_cond S (fun h4 => ?_) (fun h4 => ?_)
      · refine c_seq ?_; refine c_region ?_; refine sq S ?_; clear S; intro a S; refine wl_nil ?_; refine xtn ?_; refine c_ret ?_; refine xtr ?_; refine xbr ?_; (iterate 2 (refine xtr ?_)); refine xbr ?_; refine xtr ?_
        refine end1 S (fun _ => ?_)
        congr 1
        simp only [Bool.or_eq_true, decide_eq_true_eq] at h4
        rcases h4 with (h | h) | h
        · rw [batchP, rsP_lenK, decide_eq_false (show ¬ xs.length ≤ 64 by omega), Bool.and_false]
        · refine (hbf ?_).symm
          rw [← hrel, rightP, fitP, show (nthG xs i).r.name = (nthG xs i).name from rfl, decide_eq_false (show ¬ 1 ≤ (nthG xs i).name.length by omega)]
          simp
        · refine (hbf ?_).symm
          rw [← hrel, rightP, fitP, show (nthG xs i).r.name = (nthG xs i).name from rfl, decide_eq_false (show ¬ (nthG xs i).name.length ≤ 32 by omega)]
          simp
      · refine c_skip ?_; refine xtn ?_; (iterate 2 (refine c_seq ?_))
        simp only [Bool.or_eq_false_iff, decide_eq_false_iff_not] at h4
        refine c_region ?_; refine sq S ?_; clear S; intro a S; refine wl_nil ?_; refine xtn ?_; refine c_block ?_
        refine c_fore1 S (fun (k : Nat) uu => [(2, uu 2), (1, .int .i64 (k : Nat)), (27, uu 32), (0, uu 33), (0, uu 34), (0, uu 35), (0, uu 36), (0, uu 37), (0, uu 38), (0, uu 39), (0, uu 40), (0, uu 41), (0, uu 42), (0, uu 43), (0, uu 44), (0, uu 45), (0, uu 46), (0, uu 47), (0, uu 48), (0, uu 49), (0, uu 50), (0, uu 51), (0, uu 52), (0, uu 53), (0, uu 54), (0, uu 55), (0, uu 56), (0, uu 57), (0, uu 58), (0, uu 59)]) (fun (k : Nat) => []) (fun (k : Nat) => [GlF p xs]) (fun (k : Nat) => k ≤ (nthG xs i).name.length ∧ charsP ((nthG xs i).name.drop k) = charsP (nthG xs i).name) (fun (k : Nat) => (nthG xs i).name.length - k) (0) ?_ S.uu ?_ ?_
        · exact ⟨Nat.zero_le _, rfl⟩
        · first | exact S | exact S.sub _ _
        · clear S; rintro k uu a w ⟨hk, hrelk⟩ S
          (iterate 2 (refine c_seq ?_)); refine c_region ?_; (iterate 8 (refine sq S ?_; clear S; intro a S)); refine wl_nil ?_; refine xtn ?_
          refine c_cond S (fun h7 => ?_) (fun h7 => ?_)
          · refine c_skip ?_; refine xtn ?_; refine c_seq ?_; refine c_block ?_; refine c_seq ?_
            have hkl : k < (nthG xs i).name.length := by simp at h7; omega
            have hKk : KLt k (nthG xs i).name.length := ⟨hkl⟩
            rw [nthG_drop hkl, charsP_cons] at hrelk
            refine c_region ?_; (iterate 9 (refine sq S ?_; clear S; intro a S)); (iterate 8 (refine gQ S ?_; clear S; intro a S)); refine sq S ?_; clear S; intro a S; refine wl_nil ?_; refine xtn ?_
            refine c_cond S (fun h9 => ?_) (fun h9 => ?_)
            · refine c_seq ?_; refine c_region ?_; refine sq S ?_; clear S; intro a S; refine wl_nil ?_; refine xtn ?_; refine c_ret ?_; refine xbr ?_; (iterate 2 (refine xtr ?_)); refine xbr ?_; refine xtr ?_; refine xbr ?_; (iterate 2 (refine xtr ?_)); refine xbr ?_; refine xtr ?_
              refine end1 S (fun _ => ?_)
              congr 1
              rw [h9] at hrelk
              refine (hbf ?_).symm
              rw [← hrel, rightP, show (nthG xs i).r.name = (nthG xs i).name from rfl, ← hrelk]
              simp
            · refine c_skip ?_; refine xbn ?_; refine xtn ?_; refine c_region ?_; (iterate 2 (refine sq S ?_; clear S; intro a S))
              rw [w64 ((k : Int) + 1) (by omega) (by omega), show (k : Int) + 1 = ((k + 1 : Nat) : Int) from rfl] at S
              refine sq S ?_; clear S; intro a S; refine wl_nil ?_; refine xtn ?_
              rw [h9] at hrelk
              exact ⟨k + 1, S.uu, ⟨hkl, hrelk⟩, S.sub _ _, by omega⟩
          · refine c_exit ?_; (iterate 2 (refine xte ?_)); refine xbe ?_; refine xtn ?_
            refine c_mrge0 S (fun  uu => [(2, uu 2), (57, uu 60), (0, uu 61), (0, uu 62), (0, uu 63), (0, uu 64), (0, uu 65), (0, uu 66), (0, uu 67), (0, uu 68), (0, uu 69), (0, uu 70), (0, uu 71), (0, uu 72), (0, uu 73), (0, uu 74), (0, uu 75), (0, uu 76), (0, uu 77), (0, uu 78), (0, uu 79), (0, uu 80), (0, uu 81), (0, uu 82), (0, uu 83), (0, uu 84)]) ([]) ([GlF p xs]) (rightP (nthG xs i).r = true) ?_ ?_
            · refine c_seq ?_
              have hch : charsP (nthG xs i).name = true := by
                have hkl : (nthG xs i).name.length ≤ k := by simp at h7; omega
                rw [List.drop_of_length_le hkl] at hrelk
                rw [← hrelk]; rfl
              have hrr : rightP (nthG xs i).r = fitP (nthG xs i).r := by rw [rightP, show (nthG xs i).r.name = (nthG xs i).name from rfl, hch, Bool.true_and]
              have hfl : fitP (nthG xs i).r = (goneP (nthG xs i).r || (rightF (nthG xs i).term.t && decide ((bytesF (nthG xs i).term.t).length ≤ 65535))) := by
                cases hg : goneP (nthG xs i).r with
                | true => rw [fitP, hg, show (nthG xs i).r.name = (nthG xs i).name from rfl, decide_eq_true (show 1 ≤ (nthG xs i).name.length by omega), decide_eq_true (show (nthG xs i).name.length ≤ 32 by omega)]; rfl
                | false => rw [fitP_not hg, show (nthG xs i).r.name = (nthG xs i).name from rfl, decide_eq_true (show 1 ≤ (nthG xs i).name.length by omega), decide_eq_true (show (nthG xs i).name.length ≤ 32 by omega)]; rfl
              refine c_region ?_; (iterate 4 (refine sq S ?_; clear S; intro a S)); refine sc S ?_; clear S; intro a w S; (iterate 2 (refine sq S ?_; clear S; intro a S))
              refine gS S (fun hg6 S => ?_) (fun hg6 S => ?_)
              · refine gT S ?_; refine sq S ?_; clear S; intro a S; refine gT S ?_; refine sq S ?_; clear S; intro a S; refine gT S ?_; refine sq S ?_; clear S; intro a S; refine gT S ?_; refine sq S ?_; clear S; intro a S; refine gT S ?_; refine sq S ?_; clear S; intro a S; refine gT S ?_; refine sc S ?_; clear S; intro a w S; refine gT S ?_; refine sq S ?_; clear S; intro a S; refine gT S ?_; refine sq S ?_; clear S; intro a S
                refine gS S (fun hg14 S => ?_) (fun hg14 S => ?_)
                · refine gF' S ?_; clear S; intro a S; (iterate 7 (refine gF' S ?_; clear S; intro a S)); refine gT S ?_; (iterate 2 (refine sq S ?_; clear S; intro a S)); refine wl_nil ?_; refine xtn ?_; refine c_condT S ?_; refine c_seq ?_; refine c_region ?_; refine sq S ?_; clear S; intro a S; refine wl_nil ?_; refine xtn ?_; refine c_ret ?_; refine xtr ?_; refine xbr ?_; (iterate 2 (refine xtr ?_))
                  refine xbr ?_; refine xtr ?_
                  refine end1 S (fun _ => ?_)
                  congr 1
                  refine (hbf ?_).symm
                  rw [← hrel, hrr, hfl, show goneP (nthG xs i).r = false from by simpa using hg6, show rightF (nthG xs i).term.t = false from by simpa using hg14]
                  rfl
                · refine gT' S ?_; refine sq S ?_; clear S; intro a S; refine gT' S ?_; refine sq S ?_; clear S; intro a S; refine gT' S ?_; refine sq S ?_; clear S; intro a S; refine gT' S ?_; refine sq S ?_; clear S; intro a S; refine gT' S ?_; refine sq S ?_; clear S; intro a S; refine gT' S ?_
                  have hR : rightF (nthG xs i).term.t = true := by simpa using hg14
                  have hrb := right_bytes hR
                  refine srn S (rbytes_c _ (nthG xs i).term _ (Nat.le_refl _) (by omega) (S.t0 _)) ?_; clear S; rintro _ a w ⟨p20, c20, rfl, hown, hnew⟩ hS -
                  have S := hS hown hnew
                  clear hS
                  refine gT' S ?_; refine sq S ?_; clear S; intro a S; refine gT' S ?_; refine sq S ?_; clear S; intro a S; refine gT S ?_; (iterate 2 (refine sq S ?_; clear S; intro a S)); refine wl_nil ?_; refine xtn ?_
                  refine c_cond S (fun h11 => ?_) (fun h11 => ?_)
                  · refine c_seq ?_; refine c_region ?_; refine sq S ?_; clear S; intro a S; refine wl_nil ?_; refine xtn ?_; refine c_ret ?_; refine xtr ?_; refine xbr ?_; (iterate 2 (refine xtr ?_)); refine xbr ?_; refine xtr ?_
                    refine end1 S (fun _ => ?_)
                    congr 1
                    refine (hbf ?_).symm
                    have h65 : ¬ (bytesF (nthG xs i).term.t).length ≤ 65535 := by have := of_decide_eq_true h11; omega
                    rw [← hrel, hrr, hfl, show goneP (nthG xs i).r = false from by simpa using hg6, decide_eq_false h65, Bool.and_false]
                    rfl
                  · refine c_skip ?_; refine xtn ?_
                    have h65 : (bytesF (nthG xs i).term.t).length ≤ 65535 := by have := of_decide_eq_false h11; omega
                    exact ⟨S.uu, by rw [hrr, hfl, hR, decide_eq_true h65, Bool.true_and, Bool.or_true], S.sub _ _⟩
              · refine gF S ?_; clear S; intro a S; (iterate 7 (refine gF S ?_; clear S; intro a S)); (iterate 8 (refine gU S ?_; clear S; intro a S)); refine gF S ?_; clear S; intro a S; refine sq S ?_; clear S; intro a S; refine wl_nil ?_; refine xtn ?_; refine c_condF S ?_; refine c_skip ?_; refine xtn ?_
                exact ⟨S.uu, by rw [hrr, hfl, show goneP (nthG xs i).r = true from by simpa using hg6]; rfl, S.sub _ _⟩
            · clear S; rintro  uu a w hR S
              refine c_seq ?_; refine c_region ?_; refine sq S ?_; clear S; intro a S; refine wl_nil ?_; refine xtn ?_; refine c_block ?_
              refine c_fore1 S (fun (j : Nat) uu => [(2, uu 2), (2, .int .i64 (j : Nat)), (79, uu 85), (0, uu 86), (0, uu 87), (0, uu 88), (0, uu 89), (0, uu 90), (0, uu 91), (0, uu 92), (0, uu 93), (0, uu 94), (0, uu 95), (0, uu 96), (0, uu 97), (0, uu 98), (0, uu 99), (0, uu 100)]) (fun (j : Nat) => []) (fun (j : Nat) => [GlF p xs]) (fun (j : Nat) => j ≤ i ∧ ∀ a, a < j → (nthG xs a).name ≠ (nthG xs i).name) (fun (j : Nat) => i - j) (0) ?_ S.uu ?_ ?_
              · exact ⟨Nat.zero_le _, fun a h => absurd h (Nat.not_lt_zero _)⟩
              · first | exact S | exact S.sub _ _
              · clear S; rintro j uu a w ⟨hj, hap⟩ S
                (iterate 2 (refine c_seq ?_)); refine c_region ?_; (iterate 3 (refine sq S ?_; clear S; intro a S)); refine wl_nil ?_; refine xtn ?_
                refine c_cond S (fun h14 => ?_) (fun h14 => ?_)
                · refine c_skip ?_; refine xtn ?_; refine c_seq ?_; refine c_block ?_; refine c_seq ?_
                  have hji : j < i := by simp at h14; omega
                  have hKj : KLt j xs.length := ⟨by omega⟩
                  refine c_drawD [(0, true), (1, true), (2, true), (3, true), (4, true), (5, true), (6, true), (7, true), (8, true), (9, true), (10, true)] [] S ?_; clear S; intro w S
                  (iterate 11 (refine dq S ?_; clear S; intro a S)); refine dn ?_; refine xtn ?_
                  refine c_cond S (fun h16 => ?_) (fun h16 => ?_)
                  · refine c_seq ?_; refine c_region ?_; refine sq S ?_; clear S; intro a S; refine wl_nil ?_; refine xtn ?_; refine c_ret ?_; refine xbr ?_; (iterate 2 (refine xtr ?_)); (iterate 2 (refine xbr ?_)); (iterate 2 (refine xtr ?_)); refine xbr ?_; refine xtr ?_
                    refine end1 S (fun _ => ?_)
                    congr 1
                    refine (hbf ?_).symm
                    have hany : (((rsP xs).take i).any fun x => decide (x.name = (nthG xs i).r.name)) = true := by
                      refine List.any_eq_true.2 ⟨(nthG xs j).r, ?_, ?_⟩
                      · have h1 : ((rsP xs).take i)[j]? = some (nthG xs j).r := by rw [List.getElem?_take, if_pos hji, rsP, List.getElem?_map, nthG_get (by omega)]; rfl
                        exact List.mem_of_getElem? h1
                      · exact h16
                    rw [← hrel, hany]; simp
                  · refine c_skip ?_; refine xbn ?_; refine xtn ?_; refine c_region ?_; (iterate 2 (refine sq S ?_; clear S; intro a S))
                    rw [w64 ((j : Int) + 1) (by omega) (by omega), show (j : Int) + 1 = ((j + 1 : Nat) : Int) from rfl] at S
                    refine sq S ?_; clear S; intro a S; refine wl_nil ?_; refine xtn ?_
                    refine ⟨j + 1, S.uu, ⟨hji, fun b hb => ?_⟩, S.sub _ _, by omega⟩
                    rcases Nat.lt_succ_iff_lt_or_eq.1 hb with h | rfl
                    · exact hap b h
                    · simpa using h16
                · refine c_exit ?_; (iterate 2 (refine xte ?_)); refine xbe ?_; refine xbn ?_; refine xtn ?_; refine c_region ?_; (iterate 2 (refine sq S ?_; clear S; intro a S))
                  rw [w64 ((i : Int) + 1) (by omega) (by omega), show (i : Int) + 1 = ((i + 1 : Nat) : Int) from rfl] at S
                  refine sq S ?_; clear S; intro a S; refine wl_nil ?_; refine xtn ?_
                  have hji : ¬ j < i := by simp at h14; omega
                  have hno : (((rsP xs).take i).any fun x => decide (x.name = (nthG xs i).r.name)) = false := any_false fun x hx => by
                    obtain ⟨b, hb, rfl⟩ := rs_take_mem hi hx
                    exact hap b (by omega)
                  rw [hR, hno, Bool.not_false, Bool.and_self, Bool.true_and, ← rs_take hil] at hrel
                  exact ⟨i + 1, S.uu, ⟨hil, by omega, hrel⟩, S.sub _ _, by omega⟩
    · refine c_exit ?_; (iterate 2 (refine xte ?_)); refine xbe ?_; refine xtn ?_; refine c_seq ?_; refine c_region ?_; refine sq S ?_; clear S; intro a S; refine wl_nil ?_; refine xtn ?_; refine c_ret ?_
      have hie : i = xs.length := by simp at h2; omega
      rw [List.drop_of_length_le (by rw [rsP_lenK]; omega)] at hrel
      refine end1 S (fun _ => ?_)
      rw [batchP, ← hrel, rsP_lenK, decide_eq_true (show xs.length ≤ 64 by omega)]; rfl
set_option maxHeartbeats 4000000 in
theorem rdec19_c (bs : List UInt8) (p : Option Addr) (n c : Nat) (M : Nat → Prop) (w0 : World) (hn : bs.length = n) (hl : n ≤ 10000000) (hc : n ≤ c) (hM : ∀ k, M k → k < w0.heap.size) (hf : Stable M w0 (GlF p bs)) :
    Ret Tryz.prog 21 [.slice p n c] w0 (fun _ => False) fun v w' => VDecR M bs v w' := by
  subst hn
  obtain ⟨N, hN⟩ : ∃ N, N = (nthG bs 0).toNat := ⟨_, rfl⟩
  have hNl : N < 256 := by rw [hN]; exact UInt8.toNat_lt _
  refine enter Tryz.func21 rfl rfl (Wd.beginM (M := M) (fs := [GlF p bs]) hM (by simpa using hf)) (fun a S => ?_)
  simp only [Tryz.ntmps21, List.length_cons, List.length_nil, Nat.reduceAdd, Nat.reduceSub, List.replicate_succ, List.replicate_zero, List.cons_append, List.nil_append] at S
  refine c_seq ?_; refine c_region ?_; (iterate 2 (refine sq S ?_; clear S; intro a S)); refine wl_nil ?_; refine xtn ?_; (iterate 2 (refine c_seq ?_)); refine c_region ?_; (iterate 3 (refine sq S ?_; clear S; intro a S)); refine wl_nil ?_; refine xtn ?_
  refine c_cond S (fun h1 => ?_) (fun h1 => ?_)
  · refine c_seq ?_; refine c_region ?_; (iterate 2 (refine sq S ?_; clear S; intro a S)); refine wl_nil ?_; refine xtn ?_; refine c_ret ?_; refine xtr ?_
    have h0 : bs = [] := List.eq_nil_of_length_eq_zero (by have := of_decide_eq_true h1; omega)
    exact end2 S (fun _ => ⟨[], none, 0, 7, rfl, by rw [h0, decV_nil]; rfl, by rw [h0, decV_nil], fun _ _ => gl_nil, Nat.le_refl _, nofun⟩)
  · refine c_skip ?_; refine xtn ?_; refine c_seq ?_
    have h0 : 0 < bs.length := by have := of_decide_eq_false h1; omega
    have hK0 : KLt 0 bs.length := ⟨h0⟩
    have hfirst := allD_first h0
    rw [← hN] at hfirst
    refine c_region ?_; refine sq S ?_; clear S; intro a S; refine wl_nil ?_; refine xtn ?_; refine c_seq ?_; refine c_region ?_; refine sq S ?_; clear S; intro a S; refine wl_nil ?_; refine xtn ?_; refine c_seq ?_; refine c_region ?_; refine sq S ?_; clear S; intro a S; refine wl_nil ?_; refine xtn ?_; (iterate 2 (refine c_seq ?_)); refine c_region ?_; refine sq S ?_; clear S; intro a S; refine wl_nil ?_
    refine xtn ?_; refine c_block ?_
    refine c_fore6 S (fun (k : Nat) (xs : List LRow) (i : Nat) (g : Bool) (p' : Option Addr) (c' : Nat) uu => [(2, uu 2), (0, uu 3), (0, .slice p' k c'), (0, .int .i64 (i : Nat)), (0, .bool g), (0, .int .i64 (k : Nat)), (0, uu 8), (0, uu 9), (0, uu 10), (0, uu 11), (0, uu 12), (0, uu 13), (0, uu 14), (3, uu 18), (0, uu 19), (0, uu 20), (0, uu 21), (0, uu 22), (0, uu 23), (0, uu 24), (0, uu 25), (0, uu 26), (0, uu 27), (0, uu 28), (0, uu 29), (0, uu 30), (0, uu 31), (0, uu 32), (0, uu 33), (0, uu 34), (0, uu 35), (0, uu 36), (0, uu 37), (0, uu 38), (0, uu 39), (0, uu 40), (0, uu 41), (0, uu 42), (0, uu 43), (0, uu 44), (0, uu 45), (0, uu 46), (0, uu 47), (0, uu 48), (0, uu 49), (0, uu 50), (0, uu 51), (0, uu 52), (0, uu 53), (0, uu 54), (0, uu 55), (0, uu 56), (0, uu 57), (0, uu 58), (0, uu 59), (0, uu 60), (0, uu 61), (0, uu 62), (0, uu 63), (0, uu 64), (0, uu 65), (0, uu 66), (0, uu 67), (0, uu 68), (0, uu 69), (0, uu 70), (0, uu 71), (0, uu 72), (0, uu 73), (0, uu 74), (0, uu 75), (0, uu 76), (0, uu 77), (0, uu 78), (0, uu 79), (0, uu 80), (0, uu 81), (0, uu 82), (0, uu 83), (0, uu 84), (0, uu 85), (0, uu 86), (0, uu 87), (0, uu 88), (0, uu 89), (0, uu 90), (0, uu 91), (0, uu 92), (0, uu 93), (0, uu 94), (0, uu 95), (0, uu 96), (0, uu 97), (0, uu 98), (0, uu 99), (0, uu 100), (0, uu 101), (0, uu 102), (0, uu 103), (0, uu 104), (0, uu 105), (0, uu 106), (0, uu 107), (0, uu 108), (0, uu 109), (0, uu 110), (0, uu 111), (0, uu 112), (0, uu 113), (0, uu 114), (0, uu 115), (0, uu 116), (0, uu 117), (0, uu 118)]) (fun (k : Nat) (xs : List LRow) (i : Nat) (g : Bool) (p' : Option Addr) (c' : Nat) => [Wk.row 45 6 p' k c' (encL xs), ext M]) (fun (k : Nat) (xs : List LRow) (i : Nat) (g : Bool) (p' : Option Addr) (c' : Nat) => [AllI xs, GlF p bs]) (fun (k : Nat) (xs : List LRow) (i : Nat) (g : Bool) (p' : Option Addr) (c' : Nat) => k = xs.length ∧ k ≤ N ∧ i ≤ bs.length ∧ allD bs = preR (rsP xs) g (rowsD (N - k) (bs.drop i, false)) ∧ ∀ x ∈ xs, x.name.length ≤ 255) (fun (k : Nat) (xs : List LRow) (i : Nat) (g : Bool) (p' : Option Addr) (c' : Nat) => N - k) (0) ([]) (1) (true) (none) (0) ?_ S.uu ?_ ?_
    · exact ⟨rfl, Nat.zero_le _, by omega, by rw [hfirst]; exact (preR_nil _).symm, nofun⟩
    · replace S := S.addNil 45 6
      replace S := S.add (Φ := AllI ([] : List LRow)) (fun _ _ _ hx => by cases hx)
      rw [show Wk.row 45 6 none 0 0 [] = Wk.row 45 6 none 0 0 (encL ([] : List LRow)) from rfl] at S
      exact S.sub _ _
    · clear S; rintro k xs i g p' c' uu a w ⟨hkx, hk, hi, hrel, hnm⟩ S
      (iterate 2 (refine c_seq ?_)); refine c_region ?_; (iterate 5 (refine sq S ?_; clear S; intro a S))
      rw [← hN, w64 (N : Int) (by omega) (by omega)] at S
      refine sq S ?_; clear S; intro a S; refine wl_nil ?_; refine xtn ?_
      refine c_cond S (fun h7 => ?_) (fun h7 => ?_)
      · refine c_skip ?_; refine xtn ?_; refine c_seq ?_; refine c_block ?_; (iterate 2 (refine c_seq ?_))
        have hkl : k < N := by have := of_decide_eq_true h7; omega
        have hNk : N - k = (N - (k + 1)) + 1 := by omega
        have hbad : (rowD (bs.drop i, false)).2.2.2 = true → decV bs = ([], 7) := fun h => decV_short (by rw [hrel, hNk]; exact rowsD_flag h)
        refine c_region ?_; (iterate 5 (refine sq S ?_; clear S; intro a S))
        refine gS S (fun hg9 S => ?_) (fun hg9 S => ?_)
        · refine gF' S ?_; clear S; intro a S; (iterate 11 (refine gF' S ?_; clear S; intro a S)); refine sq S ?_; clear S; intro a S; refine wl_nil ?_; refine xtn ?_; refine c_condT S ?_; refine c_seq ?_; refine c_region ?_; (iterate 2 (refine sq S ?_; clear S; intro a S)); refine wl_nil ?_; refine xtn ?_; refine c_ret ?_; refine xtr ?_; refine xbr ?_; (iterate 2 (refine xtr ?_)); refine xbr ?_; refine xtr ?_
          have hv := hbad (rowD_short0 (by have := of_decide_eq_true hg9; omega))
          exact end2 S (fun _ => ⟨[], none, 0, 7, rfl, by rw [hv]; rfl, by rw [hv], fun _ _ => gl_nil, Nat.le_refl _, nofun⟩)
        · refine gT' S ?_; refine sq S ?_; clear S; intro a S; refine gT' S ?_; refine sq S ?_; clear S; intro a S; refine gT' S ?_; refine sq S ?_; clear S; intro a S; refine gT' S ?_
          have hil : i < bs.length := by have := of_decide_eq_false hg9; omega
          have hK : KLt i bs.length := ⟨hil⟩
          obtain ⟨nn, hnn⟩ : ∃ nn, nn = (nthG bs i).toNat := ⟨_, rfl⟩
          have hnl : nn < 256 := by rw [hnn]; exact UInt8.toNat_lt _
          refine sq S ?_; clear S; intro a S
          rw [w64 ((bs.length : Int) - (i : Nat)) (by omega) (by omega)] at S
          refine gT' S ?_; refine sq S ?_; clear S; intro a S
          rw [w64 ((bs.length : Int) - (i : Nat) - 1) (by omega) (by omega)] at S
          refine gT' S ?_; refine sq S ?_; clear S; intro a S; refine gT' S ?_; refine sq S ?_; clear S; intro a S; refine gT' S ?_; refine sq S ?_; clear S; intro a S; refine gT' S ?_; refine sq S ?_; clear S; intro a S; refine gT' S ?_; refine sq S ?_; clear S; intro a S
          rw [← hnn, w64 (nn : Int) (by omega) (by omega)] at S
          refine gT' S ?_; refine sq S ?_; clear S; intro a S
          rw [w64 ((nn : Int) + 2) (by omega) (by omega)] at S
          refine gT' S ?_; (iterate 2 (refine sq S ?_; clear S; intro a S)); refine wl_nil ?_; refine xtn ?_
          refine c_cond S (fun h9 => ?_) (fun h9 => ?_)
          · refine c_seq ?_; refine c_region ?_; (iterate 2 (refine sq S ?_; clear S; intro a S)); refine wl_nil ?_; refine xtn ?_; refine c_ret ?_; refine xtr ?_; refine xbr ?_; (iterate 2 (refine xtr ?_)); refine xbr ?_; refine xtr ?_
            have hv := hbad (rowD_short1 hil hnn (by have := of_decide_eq_true h9; omega))
            exact end2 S (fun _ => ⟨[], none, 0, 7, rfl, by rw [hv]; rfl, by rw [hv], fun _ _ => gl_nil, Nat.le_refl _, nofun⟩)
          · refine c_skip ?_; refine xtn ?_; refine c_seq ?_; refine c_region ?_; (iterate 4 (refine sq S ?_; clear S; intro a S))
            have hin : i + 1 + nn + 2 ≤ bs.length := by have := of_decide_eq_false h9; omega
            refine sq S ?_; clear S; intro a S
            rw [← hnn, w64 (nn : Int) (by omega) (by omega)] at S
            have hL1 : LeC (i + 1 + nn) c := ⟨by omega⟩
            have hL2 : LeC (i + 1) (i + 1 + nn) := ⟨by omega⟩
            obtain ⟨nm, hnme⟩ : ∃ nm, nm = (bs.drop (i + 1)).take nn := ⟨_, rfl⟩
            have hnml : nm.length = nn := by rw [hnme, List.length_take, List.length_drop]; omega
            have hLN : LenN nm (i + 1 + nn - (i + 1)) := ⟨by omega⟩
            refine sq S ?_; clear S; intro a S; refine wl_nil ?_; refine xtn ?_; refine c_seq ?_; refine c_region ?_; (iterate 3 (refine sq S ?_; clear S; intro a S))
            rw [w64 ((i : Int) + 1) (by omega) (by omega), show (i : Int) + 1 = ((i + 1 : Nat) : Int) from rfl] at S
            (iterate 2 (refine sq S ?_; clear S; intro a S))
            rw [w64 ((i : Int) + 1) (by omega) (by omega), show (i : Int) + 1 = ((i + 1 : Nat) : Int) from rfl] at S
            (iterate 2 (refine sq S ?_; clear S; intro a S))
            rw [w64 (((i + 1 : Nat) : Int) + (nn : Int)) (by omega) (by omega), show ((i + 1 : Nat) : Int) + (nn : Int) = ((i + 1 + nn : Nat) : Int) from by omega] at S
            refine sq S ?_; clear S; intro a S
            replace S := S.add (Φ := SlF (if c = i + 1 then p else p.map (·.add ((i + 1) * 1))) (encL nm)) ((S.mem.fact (GlF p bs)).imp fun _ h => by rw [hnme]; exact (gl_cut h hc).1)
            (iterate 2 (refine sq S ?_; clear S; intro a S))
            refine sa S ?_; clear S; intro b9 a w S
            refine sw S ?_; clear S; intro a w S; refine wl_nil ?_; refine xtn ?_; refine c_seq ?_; refine c_region ?_; (iterate 2 (refine sq S ?_; clear S; intro a S))
            rw [w64 ((i : Int) + 1) (by omega) (by omega), show (i : Int) + 1 = ((i + 1 : Nat) : Int) from rfl] at S
            (iterate 2 (refine sq S ?_; clear S; intro a S))
            rw [w64 (((i + 1 : Nat) : Int) + (nn : Int)) (by omega) (by omega), show ((i + 1 : Nat) : Int) + (nn : Int) = ((i + 1 + nn : Nat) : Int) from by omega] at S
            refine sq S ?_; clear S; intro a S; refine wl_nil ?_; refine xtn ?_; refine c_seq ?_
            obtain ⟨j, hj⟩ : ∃ j, j = i + 1 + nn := ⟨_, rfl⟩
            rw [← hj] at S
            have hK4 : KLt j bs.length := ⟨by omega⟩
            have hK5 : KLt (j + 1) bs.length := ⟨by omega⟩
            obtain ⟨a1, ha1⟩ : ∃ a1, a1 = (nthG bs j).toNat := ⟨_, rfl⟩
            obtain ⟨a2, ha2⟩ : ∃ a2, a2 = (nthG bs (j + 1)).toNat := ⟨_, rfl⟩
            have ha1l : a1 < 256 := by rw [ha1]; exact UInt8.toNat_lt _
            have ha2l : a2 < 256 := by rw [ha2]; exact UInt8.toNat_lt _
            obtain ⟨sz, hsz⟩ : ∃ sz, sz = a1 * 256 + a2 := ⟨_, rfl⟩
            have hsz2 : sz = (nthG bs (i + 1 + nn)).toNat * 256 + (nthG bs (i + 1 + nn + 1)).toNat := by rw [hsz, ha1, ha2, hj]
            refine c_drawD [(0, true), (1, true), (2, true), (3, true), (4, true), (5, true), (6, true), (7, true), (8, true), (9, true), (10, true), (11, true), (12, true), (13, true)] [] S ?_; clear S; intro w S
            (iterate 5 (refine dq S ?_; clear S; intro a S))
            rw [← ha1, w64 (a1 : Int) (by omega) (by omega)] at S
            refine dq S ?_; clear S; intro a S
            rw [w64 ((a1 : Int) * 256) (by omega) (by omega)] at S
            (iterate 3 (refine dq S ?_; clear S; intro a S))
            rw [w64 ((j : Int) + 1) (by omega) (by omega), show (j : Int) + 1 = ((j + 1 : Nat) : Int) from rfl] at S
            (iterate 3 (refine dq S ?_; clear S; intro a S))
            rw [← ha2, w64 (a2 : Int) (by omega) (by omega)] at S
            refine dq S ?_; clear S; intro a S
            rw [w64 ((a1 : Int) * 256 + (a2 : Int)) (by omega) (by omega), show (a1 : Int) * 256 + (a2 : Int) = ((sz : Nat) : Int) from by rw [hsz]; push_cast; rfl] at S
            refine dq S ?_; clear S; intro a S; refine dn ?_; refine xtn ?_; (iterate 2 (refine c_seq ?_)); refine c_region ?_; (iterate 4 (refine sq S ?_; clear S; intro a S))
            rw [w64 ((bs.length : Int) - (j : Nat)) (by omega) (by omega)] at S
            refine sq S ?_; clear S; intro a S
            rw [w64 ((bs.length : Int) - (j : Nat) - 2) (by omega) (by omega)] at S
            (iterate 2 (refine sq S ?_; clear S; intro a S)); refine wl_nil ?_; refine xtn ?_
            refine c_cond S (fun h15 => ?_) (fun h15 => ?_)
            · refine c_seq ?_; refine c_region ?_; (iterate 2 (refine sq S ?_; clear S; intro a S)); refine wl_nil ?_; refine xtn ?_; refine c_ret ?_; refine xtr ?_; refine xbr ?_; (iterate 2 (refine xtr ?_)); refine xbr ?_; refine xtr ?_
              have hv := hbad (rowD_short2 hil hnn hin hsz2 (by have := of_decide_eq_true h15; omega))
              exact end2 S (fun _ => ⟨[], none, 0, 7, rfl, by rw [hv]; rfl, by rw [hv], fun _ _ => gl_nil, Nat.le_refl _, nofun⟩)
            · refine c_skip ?_; refine xtn ?_
              have hin2 : j + 2 + sz ≤ bs.length := by have := of_decide_eq_false h15; omega
              refine c_mrge2 S (fun (z : LTerm) (g1 : Bool) uu => [(6, .bool g1), (4, uu 11), (0, uu 12), (0, uu 13), (0, uu 14), (68, uu 83), (0, uu 84), (0, uu 85), (0, uu 86), (0, uu 87), (0, uu 88), (0, uu 89), (0, uu 90), (0, uu 91), (0, uu 92), (0, uu 93), (0, uu 94), (0, uu 95), (0, uu 96), (0, uu 97), (0, uu 98), (0, uu 99), (0, uu 100), (0, uu 101), (0, uu 102), (0, uu 103), (0, uu 104), (0, uu 105), (0, uu 106), (0, uu 107), (0, uu 108), (0, uu 109), (0, uu 110)]) (fun (z : LTerm) (g1 : Bool) => [Wk.box b9 45 [str nm, .int .i64 z.kind, .int .i64 z.user, .int .i64 z.num, str z.text, .slice z.p z.kids.length z.cap], Wk.row 45 6 p' k c' (encL xs), ext M]) (fun (z : LTerm) (g1 : Bool) => [LtF z, AllI xs, GlF p bs]) (fun (z : LTerm) (g1 : Bool) => z.t = (termD ((bs.drop (j + 2)).take sz)).1 ∧ g1 = (g && (termD ((bs.drop (j + 2)).take sz)).2)) ?_ ?_
              · refine c_seq ?_; refine c_region ?_; (iterate 2 (refine sq S ?_; clear S; intro a S)); refine wl_nil ?_; refine xtn ?_
                refine c_cond S (fun h17 => ?_) (fun h17 => ?_)
                · refine c_seq ?_; refine c_region ?_; (iterate 3 (refine sq S ?_; clear S; intro a S))
                  rw [w64 ((j : Int) + 2) (by omega) (by omega), show (j : Int) + 2 = ((j + 2 : Nat) : Int) from rfl] at S
                  refine sq S ?_; clear S; intro a S
                  have hsz0 : 0 < sz := by have := of_decide_eq_true h17; omega
                  have hL3 : LeC (j + 2 + sz) c := ⟨by omega⟩
                  refine sq S ?_; clear S; intro a S
                  rw [w64 (((j + 2 : Nat) : Int) + (sz : Int)) (by omega) (by omega), show ((j + 2 : Nat) : Int) + (sz : Int) = ((j + 2 + sz : Nat) : Int) from by omega] at S
                  (iterate 3 (refine sq S ?_; clear S; intro a S))
                  rw [w64 ((j : Int) + 2) (by omega) (by omega), show (j : Int) + 2 = ((j + 2 : Nat) : Int) from rfl] at S
                  refine sr S (rdec_c 61 60 1200 (j + 2) (bs.take (j + 2 + sz)) p (j + 2 + sz) c _ w (by decide) (by decide) (by decide) (by rw [List.length_take]; omega) (by omega) (by omega) (by omega) (foots_lt S) ((S.mem.fact (GlF p bs)).imp fun _ h => h.take _)) ?_; clear S; rintro _ a w ⟨z, je, ke, e, rfl, hda, hzf⟩ S
                  replace S := S.add hzf
                  obtain ⟨hz1, hz2⟩ := dec_termD hsz0 hin2 hda
                  (iterate 5 (refine sq S ?_; clear S; intro a S))
                  refine sa S ?_; clear S; intro b11 a w S
                  refine sw S ?_; clear S; intro a w S; (iterate 3 (refine sq S ?_; clear S; intro a S)); refine wl_nil ?_; refine xtn ?_
                  refine c_mrge1 S (fun (g2 : Bool) uu => [(6, .bool g2), (92, uu 99), (0, uu 100), (0, uu 101), (0, uu 102), (0, uu 103), (0, uu 104), (0, uu 105), (0, uu 106), (0, uu 107), (0, uu 108)]) (fun (g2 : Bool) => [Wk.box b11 43 [.int .i64 z.kind, .int .i64 z.user, .int .i64 z.num, str z.text, .slice z.p z.kids.length z.cap], Wk.box b9 45 [str nm, .int .i64 0, .int .i64 0, .int .i64 0, .string ⟨#[]⟩, .slice none 0 0], Wk.row 45 6 p' k c' (encL xs), ext M]) (fun (g2 : Bool) => [LtF z, AllI xs, GlF p bs]) (fun (g2 : Bool) => g2 = (g && (termD ((bs.drop (j + 2)).take sz)).2)) ?_ ?_
                  · refine c_seq ?_; refine c_region ?_; (iterate 3 (refine sq S ?_; clear S; intro a S)); (iterate 3 (refine gQ S ?_; clear S; intro a S))
                    rw [w64 ((j : Int) + 2) (by omega) (by omega), show (j : Int) + 2 = ((j + 2 : Nat) : Int) from rfl] at S
                    (iterate 2 (refine gQ S ?_; clear S; intro a S))
                    rw [w64 (((j + 2 : Nat) : Int) + (sz : Int)) (by omega) (by omega), show ((j + 2 : Nat) : Int) + (sz : Int) = ((j + 2 + sz : Nat) : Int) from by omega] at S
                    refine gQ S ?_; clear S; intro a S; refine sq S ?_; clear S; intro a S; refine wl_nil ?_; refine xtn ?_
                    refine c_cond S (fun h19 => ?_) (fun h19 => ?_)
                    · refine c_region ?_; refine sq S ?_; clear S; intro a S; refine wl_nil ?_; refine xtn ?_
                      have hb : (decide (e = 0) && decide (je = j + 2 + sz)) = false := by
                        simp only [Bool.or_eq_true, Bool.not_eq_true', decide_eq_false_iff_not] at h19
                        rw [Bool.and_eq_false_iff]
                        rcases h19 with h | h
                        · exact .inl (decide_eq_false h)
                        · exact .inr (decide_eq_false (by omega))
                      exact ⟨false, S.uu, by rw [← hz2, hb, Bool.and_false], S.sub _ _⟩
                    · refine c_skip ?_; refine xtn ?_
                      have hb : (decide (e = 0) && decide (je = j + 2 + sz)) = true := by
                        simp only [Bool.or_eq_false_iff, Bool.not_eq_false', decide_eq_true_eq] at h19
                        rw [decide_eq_true h19.1, decide_eq_true (by omega)]; rfl
                      exact ⟨g, S.uu, by rw [← hz2, hb, Bool.and_true], S.sub _ _⟩
                  · clear S; rintro g2 uu a w hg2 S
                    refine c_region ?_; (iterate 2 (refine sq S ?_; clear S; intro a S)); refine sw S ?_; clear S; intro a w S; refine wl_nil ?_; refine xtn ?_
                    exact ⟨z, g2, S.uu, ⟨hz1, hg2⟩, S.sub [Wk.box b9 45 [str nm, .int .i64 z.kind, .int .i64 z.user, .int .i64 z.num, str z.text, .slice z.p z.kids.length z.cap], Wk.row 45 6 p' k c' (encL xs), ext M] _⟩
                · refine c_skip ?_; refine xtn ?_
                  have hsz0 : sz = 0 := by have := of_decide_eq_false h17; omega
                  have htd : termD ((bs.drop (j + 2)).take sz) = (zeroT, true) := by rw [hsz0, List.take_zero, termD, if_pos rfl]
                  rw [show (Value.string ⟨nm.toArray⟩) = str nm from rfl] at S
                  rw [show ([str nm, .int .i64 0, .int .i64 0, .int .i64 0, .string ⟨#[]⟩, .slice none 0 0] : List Value) = [str nm, .int .i64 Wk.zeroL.kind, .int .i64 Wk.zeroL.user, .int .i64 Wk.zeroL.num, str Wk.zeroL.text, .slice Wk.zeroL.p Wk.zeroL.kids.length Wk.zeroL.cap] from rfl] at S
                  replace S := S.add (Φ := LtF Wk.zeroL) (fun _ _ => zeroL_in _)
                  replace S := ((S.front (ext M)).front (Wk.row 45 6 p' k c' (encL xs))).front (Wk.box b9 45 [str nm, .int .i64 Wk.zeroL.kind, .int .i64 Wk.zeroL.user, .int .i64 Wk.zeroL.num, str Wk.zeroL.text, .slice Wk.zeroL.p Wk.zeroL.kids.length Wk.zeroL.cap])
                  exact ⟨Wk.zeroL, g, S.uu, ⟨by rw [htd]; rfl, by rw [htd, Bool.and_true]⟩, S.sub _ _⟩
              · clear S; rintro z g1 uu a w ⟨hzt, hg1⟩ S
                refine c_seq ?_; refine c_region ?_; (iterate 2 (refine sq S ?_; clear S; intro a S))
                rw [w64 ((j : Int) + 2) (by omega) (by omega), show (j : Int) + 2 = ((j + 2 : Nat) : Int) from rfl] at S
                (iterate 2 (refine sq S ?_; clear S; intro a S))
                rw [w64 (((j + 2 : Nat) : Int) + (sz : Int)) (by omega) (by omega), show ((j + 2 : Nat) : Int) + (sz : Int) = ((j + 2 + sz : Nat) : Int) from by omega] at S
                refine sq S ?_; clear S; intro a S; refine wl_nil ?_; refine xtn ?_; refine c_region ?_; (iterate 2 (refine sq S ?_; clear S; intro a S))
                refine sn S ?_; clear S; intro b117 a w S
                refine sap S (by simp [maxLen]; omega) (by omega) ?_; clear S; rintro p13 c13 a w - S
                rw [show encL xs ++ [str nm, .int .i64 z.kind, .int .i64 z.user, .int .i64 z.num, str z.text, .slice z.p z.kids.length z.cap] = encL (xs ++ [⟨nm, z⟩]) from by rw [encL_append]; rfl] at S
                have hA1 : Stable _ _ (AllI xs) := S.wd.facts (AllI xs) (by simp)
                have hA2 := S.t z
                replace S := S.add (Φ := AllI (xs ++ [(⟨nm, z⟩ : LRow)])) (fun w' hw' x hx => by
                  rcases List.mem_append.1 hx with h | h
                  · exact hA1 w' hw' x h
                  · rw [List.mem_singleton.1 h]; exact hA2 w' hw')
                refine sq S ?_; clear S; intro a S; refine wl_nil ?_; refine xbn ?_; refine xtn ?_; refine c_region ?_; (iterate 2 (refine sq S ?_; clear S; intro a S))
                rw [w64 ((k : Int) + 1) (by omega) (by omega), show (k : Int) + 1 = ((k + 1 : Nat) : Int) from rfl] at S
                refine sq S ?_; clear S; intro a S; refine wl_nil ?_; refine xtn ?_
                have hrow := rowD_ok hil hnn hin hsz2 (by omega)
                rw [← hj, ← hnme] at hrow
                refine ⟨k + 1, xs ++ [(⟨nm, z⟩ : LRow)], j + 2 + sz, g1, p13, c13, S.uu, ⟨by simp [hkx], hkl, by omega, ?_, fun x hx => ?_⟩, S.sub [Wk.row 45 6 p13 (k + 1) c13 (encL (xs ++ [(⟨nm, z⟩ : LRow)])), ext M] _, by omega⟩
                · rw [hrel, hNk, rowsD_step, hrow, hg1, rsP, rsP, List.map_append]
                  show preR (xs.map LRow.r ++ [⟨nm, (termD ((bs.drop (j + 2)).take sz)).1⟩]) _ _ = preR (xs.map LRow.r ++ [⟨nm, z.t⟩]) _ _
                  rw [hzt]
                · rcases List.mem_append.1 hx with h | h
                  · exact hnm x h
                  · rw [List.mem_singleton.1 h]; show nm.length ≤ 255; omega
      · refine c_exit ?_; (iterate 2 (refine xte ?_)); refine xbe ?_; refine xtn ?_; (iterate 2 (refine c_seq ?_))
        have hkN : N - k = 0 := by have := of_decide_eq_false h7; omega
        rw [hkN] at hrel
        have hkle : k ≤ c' := own_le (S.row p' k)
        replace S := S.rowToGl p' xs (e := 45) (sz := 6) (n := k) (c := c') (S.wd.facts (AllI xs) (by simp))
        have hA : allD bs = (rsP xs, g, (bs.drop i, false)) := by rw [hrel]; simp [preR, rowsD]
        have hend := decV_end hA hi
        refine c_region ?_; (iterate 3 (refine sq S ?_; clear S; intro a S))
        refine gS S (fun hg24 S => ?_) (fun hg24 S => ?_)
        · refine gF' S ?_; clear S; intro a S; (iterate 3 (refine gF' S ?_; clear S; intro a S)); (iterate 2 (refine sq S ?_; clear S; intro a S))
          refine gS S (fun hg25 S => ?_) (fun hg25 S => ?_)
          · refine gF' S ?_; clear S; intro a S; (iterate 2 (refine gF' S ?_; clear S; intro a S)); refine sq S ?_; clear S; intro a S; refine wl_nil ?_; refine xtn ?_; refine c_condT S ?_; refine c_seq ?_; refine c_region ?_; (iterate 2 (refine sq S ?_; clear S; intro a S)); refine wl_nil ?_; refine xtn ?_; refine c_ret ?_; refine xtr ?_
            have hv : decV bs = ([], 2) := by rw [hend, if_pos]; exact .inl (by simpa using hg24)
            exact end2 S (fun _ => ⟨[], none, 0, 2, rfl, by rw [hv]; rfl, by rw [hv], fun _ _ => gl_nil, Nat.le_refl _, nofun⟩)
          · refine gT' S ?_; refine sq S ?_; clear S; intro a S; refine gT' S ?_
            refine sr S (rright19_c xs p' k c' _ hkx.symm (by omega) (fun x hx => by have := hnm x hx; omega) (S.gl0 p')) ?_; clear S; rintro _ a w rfl S
            refine gT' S ?_; (iterate 2 (refine sq S ?_; clear S; intro a S)); refine wl_nil ?_; refine xtn ?_
            refine c_cond S (fun h24 => ?_) (fun h24 => ?_)
            · refine c_seq ?_; refine c_region ?_; (iterate 2 (refine sq S ?_; clear S; intro a S)); refine wl_nil ?_; refine xtn ?_; refine c_ret ?_; refine xtr ?_
              cases hg25
            · refine c_skip ?_; refine xtn ?_; refine c_seq ?_; refine c_region ?_; (iterate 3 (refine sq S ?_; clear S; intro a S)); refine wl_nil ?_; refine xtn ?_; refine c_ret ?_
              cases hg25
        · refine gT' S ?_; refine sq S ?_; clear S; intro a S; refine gT' S ?_; refine sq S ?_; clear S; intro a S; refine gT' S ?_; refine sq S ?_; clear S; intro a S; refine gT' S ?_; (iterate 3 (refine sq S ?_; clear S; intro a S))
          refine gS S (fun hg25 S => ?_) (fun hg25 S => ?_)
          · refine gF' S ?_; clear S; intro a S; (iterate 2 (refine gF' S ?_; clear S; intro a S)); refine sq S ?_; clear S; intro a S; refine wl_nil ?_; refine xtn ?_; refine c_condT S ?_; refine c_seq ?_; refine c_region ?_; (iterate 2 (refine sq S ?_; clear S; intro a S)); refine wl_nil ?_; refine xtn ?_; refine c_ret ?_; refine xtr ?_
            have hv : decV bs = ([], 2) := by rw [hend, if_pos]; exact .inr (.inl (by simp at hg25; omega))
            exact end2 S (fun _ => ⟨[], none, 0, 2, rfl, by rw [hv]; rfl, by rw [hv], fun _ _ => gl_nil, Nat.le_refl _, nofun⟩)
          · refine gT' S ?_; refine sq S ?_; clear S; intro a S; refine gT' S ?_
            refine sr S (rright19_c xs p' k c' _ hkx.symm (by omega) (fun x hx => by have := hnm x hx; omega) (S.gl0 p')) ?_; clear S; rintro _ a w rfl S
            refine gT' S ?_; (iterate 2 (refine sq S ?_; clear S; intro a S)); refine wl_nil ?_; refine xtn ?_
            refine c_cond S (fun h24 => ?_) (fun h24 => ?_)
            · refine c_seq ?_; refine c_region ?_; (iterate 2 (refine sq S ?_; clear S; intro a S)); refine wl_nil ?_; refine xtn ?_; refine c_ret ?_; refine xtr ?_
              have hv : decV bs = ([], 2) := by rw [hend, if_pos]; exact .inr (.inr (by simpa using h24))
              exact end2 S (fun _ => ⟨[], none, 0, 2, rfl, by rw [hv]; rfl, by rw [hv], fun _ _ => gl_nil, Nat.le_refl _, nofun⟩)
            · refine c_skip ?_; refine xtn ?_; refine c_seq ?_; refine c_region ?_; (iterate 3 (refine sq S ?_; clear S; intro a S)); refine wl_nil ?_; refine xtn ?_; refine c_ret ?_
              have hv : decV bs = (rsP xs, 0) := by
                rw [hend, if_neg]
                rintro (h | h | h)
                · rw [h] at hg24; cases hg24
                · simp at hg25; omega
                · rw [h] at h24; cases h24
              have hgl : Stable M _ (GlF p' xs) := S.laterFact (M := M) (by simp)
              refine end2 S (fun _ => ?_)
              subst hkx
              exact ⟨xs, p', c', 0, rfl, by rw [hv], by rw [hv], hgl, hkle, hnm⟩
theorem gif_pred2 {c b : Bool} {k : Nat} (hb : b = true → 1 ≤ k) (hk : k ≤ 1000000) : gif c (gif b (.int .i64 (IntKind.i64.wrap ((k : Int) - 1)))) = gif c (gif b (.int .i64 ((k - 1 : Nat) : Int))) := by
  cases b with
  | false => rfl
  | true => rw [w64 _ (by omega) (by omega), show (k : Int) - 1 = ((k - 1 : Nat) : Int) from by have := hb rfl; omega]
theorem app_off0 {V : LV} {n : Nat} {t : Int} {said : List (List UInt8)} (h : LvOff V n t said) (bs : List UInt8) (hb : bs.length ≤ 40000) (he : (appV V bs).2 = 0) : LvOff (appV V bs).1 n t (said ++ [bs]) := by
  by_cases hr : endF t said + secN bs.length ≤ n
  · exact (app_off h bs hb hr).2
  · have hroom := room_lv h.ok bs hb
    rw [if_pos (by omega)] at hroom
    rw [appV, if_pos (by rw [hroom]; decide), hroom] at he
    cases he
abbrev VO := Option (Nat × Nat × VT)
def voI (b m : Nat) (s : DS) (pc : Option Addr × Nat) : VO → Wk.Item
  | some (h, g, V) => vtI h b g V
  | none => dkI b m pc.1 pc.2 s
def voF : VO → World → Prop
  | some (_, _, V) => AllI V.xs
  | none => fun _ => True
def voP : VO → Option Addr
  | some (h, _, _) => some ⟨h, 0, none⟩
  | none => none
def voE : VO → Int
  | some _ => 0
  | none => 290
instance itVo {b m : Nat} {s : DS} {pc : Option Addr × Nat} {o : VO} : ItOk (voI b m s pc o) := by
  match o with
  | some (h, g, V) => exact (inferInstance : ItOk (vtI h b g V))
  | none => exact (inferInstance : ItOk (dkI b m pc.1 pc.2 s))
theorem vopen_u (b m : Nat) (p : Option Addr) (c : Nat) (s : DS) (Mr : Nat → Prop) (hl : s.loose.length ≤ 980000) (h0 : (openF s).2.1 = 0) (w0 : World) (hMr : ∀ k, Mr k → k < w0.heap.size ∧ ¬ (dkI b m p c s).foot k) (hd : (dkI b m p c s).holds w0) :
    Ret Tryz.prog 24 [.pointer (some ⟨b, 0, none⟩)] w0 (dkI b m p c s).foot fun v w' => ∃ (o : VO) (pc : Option Addr × Nat), v = .tuple ⟨[.pointer (voP o), .int .i64 (voE o)]⟩ ∧ (o.map fun x => rsP x.2.2.xs) = openP (opnV s).said ∧
      (voI b m (openF s).1 pc o).holds w' ∧ (∀ k, (voI b m (openF s).1 pc o).foot k → (dkI b m p c s).foot k ∨ w0.heap.size ≤ k) ∧ Stable (fun k => (voI b m (openF s).1 pc o).foot k ∨ Mr k) w' (voF o) := by
  refine (vopen_ok b m p c s Mr hl h0 w0 hMr hd).mono fun v w' hv => ?_
  rcases hv with ⟨hno, rfl, p', c', hh, hf⟩ | ⟨q, gq, V, hsome, rfl, -, -, hh, hf, hA⟩
  · exact ⟨none, (p', c'), rfl, hno.symm, hh, hf, fun _ _ => trivial⟩
  · exact ⟨some (q, gq, V), (none, 0), rfl, hsome.symm, hh, hf, hA⟩
set_option maxHeartbeats 4000000 in
theorem vopens_c (sq0 : List UInt8) (ps : Option Addr) (cs : Nat) (l : List (Sl UInt8)) (pl : Option Addr) (cl : Nat) (w0 : World) (hcs : sq0.length ≤ cs) (hls : sq0.length ≤ 9223372036854775807) (hll : l.length ≤ 9223372036854775807) (f0 : Stable (fun _ => False) w0 (GlF ps sq0)) (f1 : Stable (fun _ => False) w0 (GlF pl l)) :
    Ret Tryz.prog 4 [.slice ps sq0.length cs, .slice pl l.length cl] w0 (fun _ => False) fun v _ => v = .bool true := by
  have h300 := (format_live 300 (by omega)).1
  have hoff0 := fmt_lv 300 (by omega)
  refine enter Tryz.func4 rfl rfl (Wd.begin (fs := [GlF ps sq0, GlF pl l]) (by simp; exact ⟨f0, f1⟩)) (fun a S => ?_)
  simp only [Tryz.ntmps4, List.length_cons, List.length_nil, Nat.reduceAdd, Nat.reduceSub, List.replicate_succ, List.replicate_zero, List.cons_append, List.nil_append] at S
  refine c_seq ?_; refine c_region ?_; refine sq S ?_; clear S; intro a S; refine wl_nil ?_; refine xtn ?_; (iterate 2 (refine c_seq ?_)); refine c_region ?_
  refine sr S (vwakes_c _) ?_; clear S; rintro _ a w rfl S
  refine sq S ?_; clear S; intro a S; refine wl_nil ?_; refine xtn ?_; refine c_condF S ?_; refine c_skip ?_; refine xtn ?_; (iterate 2 (refine c_seq ?_)); refine c_region ?_; (iterate 4 (refine sq S ?_; clear S; intro a S)); (iterate 3 (refine gQ S ?_; clear S; intro a S)); refine sq S ?_; clear S; intro a S; refine wl_nil ?_; refine xtn ?_
  refine c_cond S (fun h3 => ?_) (fun h3 => ?_)
  · refine c_seq ?_; refine c_region ?_; refine sq S ?_; clear S; intro a S; refine wl_nil ?_; refine xtn ?_; refine c_ret ?_; refine xtr ?_
    exact end1 S (fun _ => rfl)
  · refine c_skip ?_; refine xtn ?_; refine c_seq ?_; refine c_region ?_
    simp only [Bool.or_eq_false_iff, decide_eq_false_iff_not] at h3
    have hs3 : sq0.length ≤ 3000 := by omega
    have hl6 : l.length ≤ 6 := by omega
    refine snew S (lfresh_c _) ?_; clear S; rintro _ a w - ⟨b, m, rfl, hh, hnw⟩ hS -
    have S := hS (dkI b m none 0 (newD 602)) hh hnw
    clear hS
    refine sq S ?_; clear S; intro a S; refine wl_nil ?_; refine xtn ?_; refine c_seq ?_; refine c_region ?_; refine sq S ?_; clear S; intro a S
    refine sit (dkI b m none 0 (newD 602)) S (format_v b m 300 none 0 (newD 602) (by simp [mayF, newD]) (by simp [newD]) _ (S.it (dkI b m none 0 (newD 602)))) rfl ?_; clear S; rintro _ a w (⟨h0, -⟩ | ⟨-, g, L, rfl, hLm, hLv, hh, hf⟩) hS
    · exact absurd h300 h0
    have S := hS (lgI b g L) hh hf
    clear hS
    replace hoff0 : LvOff L.v 300 0 [[]] := by rw [hLv]; exact hoff0
    (iterate 5 (refine sq S ?_; clear S; intro a S)); refine wl_nil ?_; refine xtn ?_; (iterate 2 (refine c_seq ?_)); refine c_region ?_; (iterate 2 (refine sq S ?_; clear S; intro a S))
    rw [show (!decide ((0 : Int) = 0)) = false from rfl] at S
    refine sq S ?_; clear S; intro a S; refine gT' S ?_; refine sq S ?_; clear S; intro a S; refine gT' S ?_; refine sq S ?_; clear S; intro a S; refine gT' S ?_
    have hr := chk_v b g L 0 ⟨ps, cs, sq0⟩ hoff0.ok.wf (by omega) (by show sq0.length ≤ _; omega) w (S.it (lgI b g L)) (S.lend (lgI b g L) (S.mem.fact (GlF ps sq0)))
    obtain ⟨hc0, hoff1⟩ := chk_off hoff0 (by decide) sq0 (by omega) (by unfold secN; split <;> omega)
    refine sit (lgI b g L) S hr rfl ?_; clear S hr; rintro _ a w ⟨L3, rfl, hh3, hf3, hm3, hv3⟩ hS
    have S := hS (lgI b g L3) hh3 hf3
    clear hS
    rw [show (chkV L.v (LBy.bs ⟨ps, cs, sq0⟩)).2 = 0 from hc0] at S
    replace hoff1 : LvOff L3.v 300 1 [sq0] := by rw [hv3]; exact hoff1
    refine gT' S ?_; refine sq S ?_; clear S; intro a S
    rw [show (!decide ((0 : Int) = 0)) = false from rfl] at S
    refine sq S ?_; clear S; intro a S; refine wl_nil ?_; refine xtn ?_; refine c_condF S ?_; refine c_skip ?_; refine xtn ?_; (iterate 2 (refine c_seq ?_)); refine c_region ?_; (iterate 3 (refine sq S ?_; clear S; intro a S)); refine wl_nil ?_; refine xtn ?_; refine c_block ?_
    refine c_fore2 S (fun (j : Nat) (L4 : LG) uu => [(4, uu 4), (4, uu 9), (36, .int .i64 (j : Nat)), (0, uu 47), (0, uu 48), (0, uu 49), (0, uu 50), (0, uu 51), (0, uu 52), (0, uu 53), (0, uu 54), (0, uu 55), (0, uu 56), (0, uu 57), (0, uu 58), (0, uu 59)]) (fun (j : Nat) (L4 : LG) => [lgI b g L4]) (fun (j : Nat) (L4 : LG) => [GlF ps sq0, GlF pl l]) (fun (j : Nat) (L4 : LG) => j ≤ l.length ∧ L4.m = m ∧ LvOff L4.v 300 1 (sq0 :: (l.take j).map Sl.xs) ∧ ∀ i, i < j → (nthG l i).xs.length ≤ 1000) (fun (j : Nat) (L4 : LG) => l.length - j) (0) (L3) ?_ S.uu ?_ ?_
    · exact ⟨Nat.zero_le _, hm3.trans hLm, hoff1, fun i h => absurd h (Nat.not_lt_zero i)⟩
    · first | exact S | exact S.sub _ _
    · clear S; rintro j L4 uu a w ⟨hj, hm4, hoff4, hsh⟩ S
      refine c_seq ?_; refine c_region ?_; refine sq S ?_; clear S; intro a S; refine wl_nil ?_; refine xtn ?_; refine c_seq ?_
      refine c_cond S (fun h10 => ?_) (fun h10 => ?_)
      · refine c_skip ?_; refine xtn ?_; refine c_seq ?_; refine c_block ?_; refine c_seq ?_
        have hjl : j < l.length := by have := of_decide_eq_true h10; omega
        have hK : KLt j l.length := ⟨hjl⟩
        obtain ⟨y, hy⟩ : ∃ y, y = nthG l j := ⟨_, rfl⟩
        have hym : y ∈ l := hy ▸ nthG_mem hjl
        refine c_region ?_; (iterate 2 (refine sq S ?_; clear S; intro a S))
        rw [← hy] at S
        refine sq S ?_; clear S; intro a S; refine wl_nil ?_; refine xtn ?_; refine c_seq ?_
        obtain ⟨hyc, hyc2, -⟩ := (S.mem.fact (GlF pl l)).now.2 y hym
        replace S := S.add (Φ := GlF y.p y.xs) ((S.mem.fact (GlF pl l)).imp fun _ h => (h.2 y hym).2.2)
        refine c_region ?_; (iterate 4 (refine sq S ?_; clear S; intro a S))
        refine gS S (fun hs12 S => ?_) (fun hs12 S => ?_)
        · refine gF' S ?_; clear S; intro a S; (iterate 3 (refine gF' S ?_; clear S; intro a S)); refine sq S ?_; clear S; intro a S; refine wl_nil ?_; refine xtn ?_; refine c_condT S ?_; refine c_seq ?_; refine c_region ?_; refine sq S ?_; clear S; intro a S; refine wl_nil ?_; refine xtn ?_; refine c_ret ?_; refine xbr ?_; (iterate 2 (refine xtr ?_)); refine xbr ?_; refine xtr ?_
          exact end1 S (fun _ => rfl)
        · refine gT' S ?_; refine sq S ?_; clear S; intro a S; refine gT' S ?_; refine sq S ?_; clear S; intro a S; refine gT' S ?_
          have hy1000 : y.xs.length ≤ 1000 := by have := of_decide_eq_false hs12; omega
          have hr := append_v b g L4 0 ⟨y.p, y.cap, y.xs⟩ hoff4.ok.wf (by omega) (by show y.xs.length ≤ _; omega) w (S.it (lgI b g L4)) (S.lend (lgI b g L4) (S.mem.fact (GlF y.p y.xs)))
          refine sit (lgI b g L4) S hr rfl ?_; clear S hr; rintro _ a w ⟨L5, rfl, hh5, hf5, hm5, hv5⟩ hS
          have S := hS (lgI b g L5) hh5 hf5
          clear hS
          refine gT' S ?_; (iterate 2 (refine sq S ?_; clear S; intro a S)); refine wl_nil ?_; refine xtn ?_
          refine c_cond S (fun h12 => ?_) (fun h12 => ?_)
          · refine c_seq ?_; refine c_region ?_; refine sq S ?_; clear S; intro a S; refine wl_nil ?_; refine xtn ?_; refine c_ret ?_; refine xbr ?_; (iterate 2 (refine xtr ?_)); refine xbr ?_; refine xtr ?_
            exact end1 S (fun _ => rfl)
          · refine c_skip ?_; refine xbn ?_; refine xtn ?_; refine c_region ?_; (iterate 2 (refine sq S ?_; clear S; intro a S)); refine wl_nil ?_; refine xtn ?_
            have he : (appV L4.v y.xs).2 = 0 := by simpa using h12
            have hoff5 := app_off0 hoff4 y.xs (by omega) he
            rw [w64 ((j : Int) + 1) (by omega) (by omega), show (j : Int) + 1 = ((j + 1 : Nat) : Int) from rfl] at S
            refine ⟨j + 1, L5, S.uu, ⟨hjl, hm5.trans hm4, ?_, fun i hi => ?_⟩, (S.front (lgI b g L5)).sub _ _, by omega⟩
            · rw [hv5, take_snocG hjl, List.map_append, ← hy]
              exact hoff5
            · rcases Nat.lt_succ_iff_lt_or_eq.1 hi with h | rfl
              · exact hsh i h
              · rw [← hy]; exact hy1000
      · refine c_exit ?_; (iterate 2 (refine xte ?_)); refine xbe ?_; refine xtn ?_; refine c_seq ?_
        have hje : j = l.length := by have := of_decide_eq_false h10; omega
        rw [List.take_of_length_le (by omega)] at hoff4
        obtain ⟨bss, hbss⟩ : ∃ bss, bss = l.map Sl.xs := ⟨_, rfl⟩
        rw [← hbss] at hoff4
        refine c_region ?_; refine sq S ?_; clear S; intro a S; refine wl_nil ?_; refine xtn ?_; refine c_seq ?_; refine c_region ?_; refine sq S ?_; clear S; intro a S; refine wl_nil ?_; refine xtn ?_
        refine c_mrge4 S (fun (xs0 : List LRow) (p0 : Option Addr) (c0 : Nat) (ok0 : Bool) uu => [(10, .slice p0 xs0.length c0), (0, .bool ok0), (0, uu 12), (0, uu 13), (0, uu 14), (45, uu 60), (0, uu 61), (0, uu 62), (0, uu 63), (0, uu 64), (0, uu 65), (0, uu 66), (0, uu 67), (0, uu 68), (0, uu 69), (0, uu 70), (0, uu 71), (0, uu 72), (0, uu 73), (0, uu 74), (0, uu 75), (0, uu 76), (0, uu 77), (0, uu 78), (0, uu 79), (0, uu 80), (0, uu 81), (0, uu 82), (0, uu 83), (0, uu 84), (0, uu 85), (0, uu 86), (0, uu 87), (0, uu 88), (0, uu 89), (0, uu 90), (0, uu 91), (0, uu 92), (0, uu 93), (0, uu 94), (0, uu 95), (0, uu 96), (0, uu 97), (0, uu 98), (0, uu 99)]) (fun (xs0 : List LRow) (p0 : Option Addr) (c0 : Nat) (ok0 : Bool) => [lgI b g L4]) (fun (xs0 : List LRow) (p0 : Option Addr) (c0 : Nat) (ok0 : Bool) => [GlF p0 xs0, GlF pl l]) (fun (xs0 : List LRow) (p0 : Option Addr) (c0 : Nat) (ok0 : Bool) => xs0.length ≤ 64 ∧ (ok0 = true → snapO sq0 = some (rsP xs0) ∧ SortedP (rsP xs0)) ∧ (ok0 = false → snapO sq0 = none)) ?_ ?_
        · refine c_seq ?_; refine c_region ?_; (iterate 3 (refine sq S ?_; clear S; intro a S)); refine wl_nil ?_; refine xtn ?_
          refine c_cond S (fun h17 => ?_) (fun h17 => ?_)
          · refine c_seq ?_; refine c_region ?_; refine sq S ?_; clear S; intro a S
            have hsq0 : sq0 ≠ [] := fun h => by rw [h] at h17; simp at h17
            refine sr S (rdec19_c sq0 ps sq0.length cs _ w rfl (by omega) hcs (foots_lt S) (S.mem.fact (GlF ps sq0))) ?_; clear S; rintro _ a w ⟨xs, p7, c7, e7, rfl, hy1, hy2, hyf, hyc, hyn⟩ S
            replace S := S.add hyf
            have hyl : xs.length ≤ 64 := by have := decV_len sq0; rw [← hy1, rsP_lenK] at this; exact this
            have hdoc := snap_doc hsq0
            rw [← hy1, ← hy2, rsP_lenK] at hdoc
            (iterate 5 (refine sq S ?_; clear S; intro a S)); refine wl_nil ?_; refine xtn ?_; refine c_seq ?_; refine c_region ?_; (iterate 3 (refine sq S ?_; clear S; intro a S)); refine wl_nil ?_; refine xtn ?_; (iterate 2 (refine c_seq ?_)); refine c_region ?_; (iterate 3 (refine sq S ?_; clear S; intro a S)); refine wl_nil ?_; refine xtn ?_; refine c_block ?_
            refine c_fore2 S (fun (i : Nat) (okx : Bool) uu => [(11, .bool okx), (2, uu 14), (57, .int .i64 (i : Nat)), (0, uu 73), (0, uu 74), (0, uu 75), (0, uu 76), (0, uu 77), (0, uu 78), (0, uu 79), (0, uu 80), (0, uu 81), (0, uu 82), (0, uu 83), (0, uu 84), (0, uu 85), (0, uu 86), (0, uu 87), (0, uu 88), (0, uu 89), (0, uu 90), (0, uu 91), (0, uu 92), (0, uu 93), (0, uu 94), (0, uu 95), (0, uu 96), (0, uu 97), (0, uu 98)]) (fun (i : Nat) (okx : Bool) => [lgI b g L4]) (fun (i : Nat) (okx : Bool) => [GlF p7 xs, GlF pl l]) (fun (i : Nat) (okx : Bool) => i ≤ xs.length ∧ (okx = true ↔ SnapOk (rsP xs) e7 i)) (fun (i : Nat) (okx : Bool) => xs.length - i) (0) (decide (e7 = 0)) ?_ S.uu ?_ ?_
            · exact ⟨Nat.zero_le _, by rw [snapOk_zero]; simp⟩
            · first | exact S | exact S.sub _ _
            · clear S; rintro i okx uu a w ⟨hi, hokx⟩ S
              refine c_seq ?_; refine c_region ?_; refine sq S ?_; clear S; intro a S; refine wl_nil ?_; refine xtn ?_; refine c_seq ?_
              refine c_cond S (fun h21 => ?_) (fun h21 => ?_)
              · refine c_skip ?_; refine xtn ?_; refine c_seq ?_; refine c_block ?_; refine c_seq ?_
                have hil : i < xs.length := by have := of_decide_eq_true h21; omega
                have hK : KLt i xs.length := ⟨hil⟩
                have hgi : (rsP xs)[i]? = some (nthG xs i).r := by rw [rsP, List.getElem?_map, nthG_get hil]; rfl
                refine c_region ?_; (iterate 2 (refine sq S ?_; clear S; intro a S)); refine wl_nil ?_; refine xtn ?_; refine c_seq ?_
                have hC : CLt [!goneP (nthG xs i).r, decide (0 < (i : Int))] (i - 1) xs.length := ⟨fun _ => by omega⟩
                have hiff : SnapOk (rsP xs) e7 (i + 1) ↔ SnapOk (rsP xs) e7 i ∧ (goneP (nthG xs i).r || (decide (0 < (i : Int)) && !Op.bytesLess (nthG xs (i - 1)).name (nthG xs i).name)) = false := by
                  rw [snapOk_succ hgi]
                  refine and_congr Iff.rfl ?_
                  rw [Bool.or_eq_false_iff]
                  refine and_congr Iff.rfl ?_
                  rcases Nat.eq_zero_or_pos i with h0 | h0
                  · rw [decide_eq_false (show ¬ 0 < (i : Int) by omega)]
                    exact ⟨fun _ => rfl, fun _ h => absurd h (by omega)⟩
                  · have hgp : (rsP xs)[i - 1]? = some (nthG xs (i - 1)).r := by rw [rsP, List.getElem?_map, nthG_get (by omega)]; rfl
                    rw [decide_eq_true (show 0 < (i : Int) by omega), Bool.true_and]
                    constructor
                    · intro h; have := h h0 _ hgp; rw [show (nthG xs (i - 1)).r.name = (nthG xs (i - 1)).name from rfl, show (nthG xs i).r.name = (nthG xs i).name from rfl] at this; rw [this]; rfl
                    · intro h _ y hy
                      rw [hgp] at hy; cases hy
                      have h2 : Op.bytesLess (nthG xs (i - 1)).name (nthG xs i).name = true := by simpa using h
                      exact h2
                refine c_drawD [(0, true), (1, true), (2, true), (3, true), (4, false), (5, true), (6, true), (7, true), (8, true), (9, true), (10, true), (11, true), (12, true), (13, true), (14, true), (15, true), (16, true), (17, true), (18, true), (19, true), (20, true), (21, true), (22, true)] [] S ?_; clear S; intro w S
                (iterate 4 (refine dq S ?_; clear S; intro a S)); refine dl ?_; refine sc S ?_; clear S; intro a w S; refine de S ?_; refine dq S ?_; clear S; intro a S; (iterate 6 (refine dqG S ?_; clear S; intro a S))
                rw [gif_pred2 (by simp; omega) (by omega)] at S
                (iterate 10 (refine dqG S ?_; clear S; intro a S)); refine dq S ?_; clear S; intro a S; refine dn ?_; refine xtn ?_
                refine c_cond S (fun h23 => ?_) (fun h23 => ?_)
                · refine c_region ?_; refine sq S ?_; clear S; intro a S; refine wl_nil ?_; refine xbn ?_; refine xtn ?_; refine c_region ?_; refine sq S ?_; clear S; intro a S
                  rw [w64 ((i : Int) + 1) (by omega) (by omega), show (i : Int) + 1 = ((i + 1 : Nat) : Int) from rfl] at S
                  refine sq S ?_; clear S; intro a S; refine wl_nil ?_; refine xtn ?_
                  exact ⟨i + 1, false, S.uu, ⟨hil, ⟨nofun, fun h => by rw [hiff, h23] at h; cases h.2⟩⟩, S.sub _ _, by omega⟩
                · refine c_skip ?_; refine xbn ?_; refine xtn ?_; refine c_region ?_; refine sq S ?_; clear S; intro a S
                  rw [w64 ((i : Int) + 1) (by omega) (by omega), show (i : Int) + 1 = ((i + 1 : Nat) : Int) from rfl] at S
                  refine sq S ?_; clear S; intro a S; refine wl_nil ?_; refine xtn ?_
                  exact ⟨i + 1, okx, S.uu, ⟨hil, by rw [hiff, h23, hokx]; simp⟩, S.sub _ _, by omega⟩
              · refine c_exit ?_; (iterate 2 (refine xte ?_)); refine xbe ?_; refine xtn ?_; refine c_region ?_; (iterate 2 (refine sq S ?_; clear S; intro a S)); refine wl_nil ?_; refine xtn ?_
                have hie : i = xs.length := by have := of_decide_eq_false h21; omega
                subst hie
                refine ⟨xs, p7, c7, okx, S.uu, ⟨hyl, fun h => ?_, fun h => ?_⟩, S.sub _ _⟩
                · exact hdoc.1 (hokx.1 h)
                · exact hdoc.2 (fun h2 => by rw [hokx.2 h2] at h; cases h)
          · refine c_skip ?_; refine xtn ?_
            have hsq0 : sq0 = [] := List.eq_nil_of_length_eq_zero (by have := of_decide_eq_false h17; omega)
            replace S := S.add (Φ := GlF none ([] : List LRow)) (fun _ _ => gl_nil)
            exact ⟨[], none, 0, true, S.uu, ⟨by simp, fun _ => ⟨by rw [snapO, if_pos hsq0]; rfl, .nil⟩, nofun⟩, S.sub _ _⟩
        · clear S; rintro xs0 p0 c0 ok0 uu a w ⟨hx0, hok1, hok2⟩ S
          refine c_mrge4 S (fun (xs1 : List LRow) (p1 : Option Addr) (c1 : Nat) (ok1 : Bool) uu => [(10, .slice p1 xs1.length c1), (0, .bool ok1), (4, uu 16), (0, uu 17), (0, uu 18), (81, uu 100), (0, uu 101), (0, uu 102), (0, uu 103), (0, uu 104), (0, uu 105), (0, uu 106), (0, uu 107), (0, uu 108), (0, uu 109), (0, uu 110), (0, uu 111), (0, uu 112), (0, uu 113), (0, uu 114), (0, uu 115), (0, uu 116), (0, uu 117), (0, uu 118), (0, uu 119), (0, uu 120), (0, uu 121), (0, uu 122), (0, uu 123)]) (fun (xs1 : List LRow) (p1 : Option Addr) (c1 : Nat) (ok1 : Bool) => [lgI b g L4]) (fun (xs1 : List LRow) (p1 : Option Addr) (c1 : Nat) (ok1 : Bool) => [GlF p1 xs1]) (fun (xs1 : List LRow) (p1 : Option Addr) (c1 : Nat) (ok1 : Bool) => (ok1 = true → xs1.length ≤ 64 ∧ openP (sq0 :: bss) = some (rsP xs1)) ∧ (ok1 = false → openP (sq0 :: bss) = none)) ?_ ?_
          · refine c_seq ?_; refine c_region ?_; (iterate 3 (refine sq S ?_; clear S; intro a S)); refine wl_nil ?_; refine xtn ?_; refine c_block ?_
            refine c_fore5 S (fun (j3 : Nat) (ys : List LRow) (py : Option Addr) (cy : Nat) (oky : Bool) uu => [(10, .slice py ys.length cy), (0, .bool oky), (4, uu 16), (0, uu 17), (0, uu 18), (83, .int .i64 (j3 : Nat)), (0, uu 103), (0, uu 104), (0, uu 105), (0, uu 106), (0, uu 107), (0, uu 108), (0, uu 109), (0, uu 110), (0, uu 111), (0, uu 112), (0, uu 113), (0, uu 114), (0, uu 115), (0, uu 116), (0, uu 117), (0, uu 118), (0, uu 119), (0, uu 120), (0, uu 121), (0, uu 122), (0, uu 123)]) (fun (j3 : Nat) (ys : List LRow) (py : Option Addr) (cy : Nat) (oky : Bool) => [lgI b g L4]) (fun (j3 : Nat) (ys : List LRow) (py : Option Addr) (cy : Nat) (oky : Bool) => [GlF py ys, GlF pl l]) (fun (j3 : Nat) (ys : List LRow) (py : Option Addr) (cy : Nat) (oky : Bool) => j3 ≤ l.length ∧ ys.length ≤ 64 ∧ (oky = true → SortedP (rsP ys) ∧ openP (sq0 :: bss) = entO (rsP ys) (bss.drop j3)) ∧ (oky = false → openP (sq0 :: bss) = none)) (fun (j3 : Nat) (ys : List LRow) (py : Option Addr) (cy : Nat) (oky : Bool) => l.length - j3) (0) (xs0) (p0) (c0) (ok0) ?_ S.uu ?_ ?_
            · exact ⟨Nat.zero_le _, hx0, fun h => ⟨(hok1 h).2, by rw [openP, (hok1 h).1]; rfl⟩, fun h => by rw [openP, hok2 h]⟩
            · first | exact S | exact S.sub _ _
            · clear S; rintro j3 ys py cy oky uu a w ⟨hj3, hyl, hoy1, hoy2⟩ S
              refine c_seq ?_; refine c_region ?_; refine sq S ?_; clear S; intro a S; refine wl_nil ?_; refine xtn ?_; refine c_seq ?_
              refine c_cond S (fun h28 => ?_) (fun h28 => ?_)
              · refine c_skip ?_; refine xtn ?_; refine c_seq ?_; refine c_block ?_; refine c_seq ?_
                have hjl : j3 < l.length := by have := of_decide_eq_true h28; omega
                have hK : KLt j3 l.length := ⟨hjl⟩
                obtain ⟨y, hy⟩ : ∃ y, y = nthG l j3 := ⟨_, rfl⟩
                have hym : y ∈ l := hy ▸ nthG_mem hjl
                have hy1000 : y.xs.length ≤ 1000 := by rw [hy]; exact hsh j3 (by omega)
                have hgy : bss[j3]? = some y.xs := by rw [hbss, List.getElem?_map, nthG_get hjl, hy]; rfl
                have hjr := (List.getElem?_eq_some_iff.1 hgy).1
                have hdr : bss.drop j3 = y.xs :: bss.drop (j3 + 1) := by rw [List.drop_eq_getElem_cons hjr, (List.getElem?_eq_some_iff.1 hgy).2]
                refine c_region ?_; (iterate 2 (refine sq S ?_; clear S; intro a S))
                rw [← hy] at S
                refine sq S ?_; clear S; intro a S; refine wl_nil ?_; refine xtn ?_; refine c_seq ?_
                obtain ⟨hyc, hyc2, -⟩ := (S.mem.fact (GlF pl l)).now.2 y hym
                replace S := S.add (Φ := GlF y.p y.xs) ((S.mem.fact (GlF pl l)).imp fun _ h => (h.2 y hym).2.2)
                refine c_region ?_; refine sq S ?_; clear S; intro a S
                refine sr S (rdec19_c y.xs y.p y.xs.length y.cap _ w rfl (by omega) (by omega) (foots_lt S) (S.mem.fact (GlF y.p y.xs))) ?_; clear S; rintro _ a w ⟨zs, p9, c9, e9, rfl, hz1, hz2, hzf, hzc, -⟩ S
                replace S := S.add hzf
                have hzl : zs.length ≤ 64 := by have := decV_len y.xs; rw [← hz1, rsP_lenK] at this; exact this
                (iterate 5 (refine sq S ?_; clear S; intro a S)); refine wl_nil ?_; refine xtn ?_; (iterate 2 (refine c_seq ?_)); refine c_region ?_; (iterate 3 (refine sq S ?_; clear S; intro a S)); (iterate 2 (refine gQ S ?_; clear S; intro a S)); refine sq S ?_; clear S; intro a S; refine wl_nil ?_; refine xtn ?_
                refine c_cond S (fun h31 => ?_) (fun h31 => ?_)
                · refine c_seq ?_; refine c_region ?_; refine sq S ?_; clear S; intro a S; refine wl_nil ?_; refine xtn ?_; refine c_exit ?_; refine xte ?_; refine xbx ?_; (iterate 2 (refine xte ?_)); refine xbe ?_; refine xtn ?_
                  refine ⟨ys, py, cy, false, S.uu, ⟨nofun, fun _ => ?_⟩, S.sub _ _⟩
                  simp only [Bool.or_eq_true, Bool.not_eq_true', decide_eq_false_iff_not] at h31
                  cases ho : oky with
                  | false => exact hoy2 ho
                  | true =>
                    have he9 : e9 ≠ 0 := h31.resolve_left (by rw [ho]; decide)
                    rw [(hoy1 ho).2, hdr, entO_no (.inl (by rw [← hz2]; exact he9))]
                · refine c_skip ?_; refine xtn ?_; refine c_seq ?_; refine c_region ?_; (iterate 2 (refine sq S ?_; clear S; intro a S))
                  simp only [Bool.or_eq_false_iff, Bool.not_eq_false', decide_eq_true_eq] at h31
                  obtain ⟨hsrt, hope⟩ := hoy1 h31.1
                  refine sr S (rbehind_c ys py cy zs p9 c9 _ w (by omega) (by omega) (foots_lt S) (S.mem.fact (GlF py ys)) (S.mem.fact (GlF p9 zs)) hsrt) ?_; clear S; rintro _ a w ⟨us, p10, c10, rfl, huf, hus⟩ S
                  replace S := S.add huf
                  refine sq S ?_; clear S; intro a S; refine wl_nil ?_; refine xtn ?_; refine c_seq ?_; refine c_region ?_; (iterate 3 (refine sq S ?_; clear S; intro a S)); refine wl_nil ?_; refine xtn ?_
                  refine c_cond S (fun h34 => ?_) (fun h34 => ?_)
                  · refine c_seq ?_; refine c_region ?_; refine sq S ?_; clear S; intro a S; refine wl_nil ?_; refine xtn ?_; refine c_exit ?_; refine xbx ?_; (iterate 2 (refine xte ?_)); refine xbe ?_; refine xtn ?_
                    refine ⟨us, p10, c10, false, S.uu, ⟨nofun, fun _ => ?_⟩, S.sub _ _⟩
                    have hlong : 64 < us.length := by have := of_decide_eq_true h34; omega
                    rw [hope, hdr, entO_no (.inr (by rw [← hz1, ← hus, rsP_lenK]; exact hlong))]
                  · refine c_skip ?_; refine xbn ?_; refine xtn ?_; refine c_region ?_; (iterate 2 (refine sq S ?_; clear S; intro a S)); refine wl_nil ?_; refine xtn ?_
                    have hshort : us.length ≤ 64 := by have := of_decide_eq_false h34; omega
                    rw [w64 ((j3 : Int) + 1) (by omega) (by omega), show (j3 : Int) + 1 = ((j3 + 1 : Nat) : Int) from rfl] at S
                    refine ⟨j3 + 1, us, p10, c10, oky, S.uu, ⟨hjl, hshort, fun _ => ⟨?_, ?_⟩, fun h => ?_⟩, S.sub _ _, by omega⟩
                    · rw [hus]; exact behP_sorted _ _ hsrt
                    · rw [hope, hdr, entO_step (by rw [← hz2]; exact h31.2) (by rw [← hz1, ← hus, rsP_lenK]; exact hshort), ← hz1, hus]
                    · rw [h31.1] at h; cases h
              · refine c_exit ?_; (iterate 2 (refine xte ?_)); refine xbe ?_; refine xtn ?_
                have hje : j3 = l.length := by have := of_decide_eq_false h28; omega
                refine ⟨ys, py, cy, oky, S.uu, ⟨fun h => ⟨hyl, ?_⟩, hoy2⟩, S.sub _ _⟩
                rw [(hoy1 h).2, List.drop_of_length_le (by rw [hbss, List.length_map]; omega), entO]
          · clear S; rintro xs1 p1 c1 ok1 uu a w ⟨hop1, hop2⟩ S
            refine c_seq ?_
            have hlv : Live L4.v.s 300 1 (sq0 :: bss) := hoff4.live
            obtain ⟨o1, o2, o3, o4⟩ := (open_able hlv.able).resolve_right (fun h => by have h1 := h.1; rw [hoff4.off] at h1; cases h1)
            have hsaid : (opnV L4.s).said = sq0 :: bss := by rw [opnV]; show (openF L4.v.s).2.2.said = _; rw [o3]
            have hlo0 : L4.s.loose = [] := by obtain ⟨tail, hL, -⟩ := id hlv; exact hL.loose
            replace S := (S.front (lgI b g L4)).ofBoth
            refine c_region ?_; refine sq S ?_; clear S; intro a S
            refine sitM (dkI b L4.m L4.p L4.c L4.s) S (vopen_u b L4.m L4.p L4.c L4.s (restOf _ (dkI b L4.m L4.p L4.c L4.s)) (by rw [hlo0]; simp) o1 _ (S.restOk _) (S.it (dkI b L4.m L4.p L4.c L4.s))) rfl ?_; clear S; rintro _ a w ⟨o, pc, rfl, hoe, hh4, hf4, hA4⟩ hS
            have S := hS (voI b L4.m (openF L4.s).1 pc o) [voF o] hh4 hf4 (by simp only [List.mem_cons, List.not_mem_nil, or_false]; rintro Φ rfl; exact hA4)
            clear hS
            rw [hsaid] at hoe
            (iterate 5 (refine sq S ?_; clear S; intro a S)); refine wl_nil ?_; refine xtn ?_; (iterate 2 (refine c_seq ?_)); refine c_region ?_; (iterate 2 (refine sq S ?_; clear S; intro a S)); refine wl_nil ?_; refine xtn ?_
            refine c_cond S (fun h38 => ?_) (fun h38 => ?_)
            · refine c_seq ?_
              have ho : o = none := by
                rw [hop2 (by simpa using h38)] at hoe
                cases o with
                | none => rfl
                | some x => cases hoe
              subst ho
              rw [show voP none = none from rfl, show voE none = 290 from rfl] at S
              refine c_region ?_; (iterate 3 (refine sq S ?_; clear S; intro a S)); (iterate 2 (refine gQ S ?_; clear S; intro a S)); (iterate 2 (refine sq S ?_; clear S; intro a S)); refine wl_nil ?_; refine xtn ?_; refine c_ret ?_; refine xtr ?_
              exact end1 S (fun _ => rfl)
            · refine c_skip ?_; refine xtn ?_; refine c_seq ?_
              obtain ⟨hx1, hop⟩ := hop1 (by simpa using h38)
              obtain ⟨q, gq, V4, rfl⟩ : ∃ q gq V4, o = some (q, gq, V4) := by
                cases o with
                | none => rw [hop] at hoe; cases hoe
                | some x => exact ⟨x.1, x.2.1, x.2.2, rfl⟩
              rw [hop] at hoe
              have heq : rsP V4.xs = rsP xs1 := Option.some.inj hoe
              have hV4l : V4.xs.length ≤ 64 := by have := congrArg List.length heq; rw [rsP_lenK, rsP_lenK] at this; omega
              rw [show voI b L4.m (openF L4.s).1 pc (some (q, gq, V4)) = vtI q b gq V4 from rfl, show voF (some (q, gq, V4)) = AllI V4.xs from rfl, show voP (some (q, gq, V4)) = some ⟨q, 0, none⟩ from rfl, show voE (some (q, gq, V4)) = 0 from rfl] at S
              refine c_region ?_; (iterate 2 (refine sq S ?_; clear S; intro a S))
              rw [show decide ((0 : Int) = 0) = true from rfl] at S
              refine sq S ?_; clear S; intro a S; refine gT S ?_; refine sq S ?_; clear S; intro a S; refine gT S ?_
              obtain ⟨z1, z2⟩ := vt_facts (S.it (vtI q b gq V4)) ((S.mem.fact (AllI V4.xs)).less fun _ _ h => h.elim)
              refine srn S (vrows_c q gq V4 _ (by omega) z1 z2) ?_; clear S z1 z2; rintro _ a w ⟨pz, cz, rfl, hown, hnew⟩ hS -
              have S := hS hown hnew
              clear hS
              replace S := S.rowToGl pz V4.xs (e := 45) (sz := 6) (n := V4.xs.length) (c := cz) (S.wd.facts (AllI V4.xs) (by simp))
              refine gT S ?_; refine sq S ?_; clear S; intro a S; refine gT S ?_
              refine sr S (rsame19_c V4.xs xs1 pz p1 V4.xs.length xs1.length cz c1 _ rfl rfl (by omega) heq (S.gl0 pz) (S.gl0 p1)) ?_; clear S; rintro _ a w rfl S
              (iterate 2 (refine sq S ?_; clear S; intro a S)); refine wl_nil ?_; refine xtn ?_; refine c_ret ?_
              exact end1 S (fun _ => rfl)
end Go.Proofs.YtdakncgafdnjfaaGreat