/- 7: a part of this claim's texts, joined: WalV PlainFail SignC SignD SignE SignF SignG SignH SignI SignJ SignK SignL SignM SignN SignO W11 RowSign W12 DiskI. -/
import Derived.Test.YtlphkccfcodmcaaGreatPc6
import Derived.SizedLaws
import Derived.OpenShut
/- Logs as they are seen: what each call tells and leaves, as functions of the disk and of what was told, whatever fails. -/
namespace Go.Proofs.YtlphkccfcodmcaaGreat
open Go Go.Wk
set_option synthInstance.maxSize 100000
set_option synthInstance.maxHeartbeats 400000
set_option maxRecDepth 100000

/-- a log and its disk, without where they lie. -/
structure LV where
  s : DS
  n : Nat
  turn : Int
  said : List (List UInt8)
  fin : Nat
  broken : Bool
def LG.v (L : LG) : LV := ⟨L.s, L.x.n, L.x.turn, bsL L.x.said, L.x.fin, L.x.broken⟩
def LV.x (V : LV) : WS := ⟨V.n, V.turn, [], V.fin, V.broken⟩
structure LV.Wf (V : LV) (k : Nat) : Prop where
  n : V.n ≤ 1000
  fin : V.fin ≤ V.n
  some_ : 0 < V.said.length
  few : V.said.length ≤ V.fin
  short : ∀ b ∈ V.said, b.length ≤ 40000
  turn : 0 ≤ V.turn ∧ V.turn ≤ 4294967295
  loose : V.s.loose.length ≤ k
theorem LV.Wf.more {V : LV} {k k' : Nat} (h : V.Wf k) (hk : k ≤ k') : V.Wf k' := ⟨h.n, h.fin, h.some_, h.few, h.short, h.turn, Nat.le_trans h.loose hk⟩
def appV (V : LV) (bs : List UInt8) : LV × Int :=
  if roomF V.x bs ≠ 0 then (V, roomF V.x bs) else
  if (layF V.s ((fromN V.n V.turn + V.fin : Nat) : Int) (leavesF V.turn (V.said.length : Int) bs)).2 = 0 then
    ({ V with s := (layF V.s ((fromN V.n V.turn + V.fin : Nat) : Int) (leavesF V.turn (V.said.length : Int) bs)).1, said := V.said ++ [bs], fin := V.fin + secN bs.length }, 0)
  else ({ V with s := (layF V.s ((fromN V.n V.turn + V.fin : Nat) : Int) (leavesF V.turn (V.said.length : Int) bs)).1, broken := true }, (layF V.s ((fromN V.n V.turn + V.fin : Nat) : Int) (leavesF V.turn (V.said.length : Int) bs)).2)
def chkV (V : LV) (bs : List UInt8) : LV × Int :=
  if roomC V.x bs ≠ 0 then (V, roomC V.x bs) else
  if (begF V.n (upT V.turn) bs V.s).2 = 0 then ({ V with s := (begF V.n (upT V.turn) bs V.s).1, turn := upT V.turn, said := [bs], fin := secN bs.length }, 0)
  else ({ V with s := (begF V.n (upT V.turn) bs V.s).1, broken := true }, (begF V.n (upT V.turn) bs V.s).2)
theorem room_le {x : WS} {bs : List UInt8} (h : roomF x bs = 0) : bs.length ≤ 40000 ∧ (x.fin ≤ x.n → x.fin + secN bs.length ≤ x.n) := by
  unfold roomF at h
  by_cases h1 : refF x bs = 0
  · rw [if_pos h1] at h
    refine ⟨(refF_zero h1).1, fun _ => ?_⟩
    by_cases h2 : x.n - x.fin < secN bs.length
    · rw [if_pos h2] at h; cases h
    · omega
  · rw [if_neg h1] at h; exact absurd h h1
theorem roomC_le {x : WS} {bs : List UInt8} (h : roomC x bs = 0) : bs.length ≤ 40000 ∧ secN bs.length ≤ x.n := by
  unfold roomC at h
  by_cases h1 : refF x bs = 0
  · rw [if_pos h1] at h
    refine ⟨(refF_zero h1).1, ?_⟩
    by_cases h2 : x.n < secN bs.length ∨ upT x.turn = 0
    · rw [if_pos h2] at h; cases h
    · omega
  · rw [if_neg h1] at h; exact absurd h h1
theorem appV_wf {V : LV} {k : Nat} (h : V.Wf k) (bs : List UInt8) : (appV V bs).1.Wf (k + 840) := by
  unfold appV
  by_cases h1 : roomF V.x bs ≠ 0
  · rw [if_pos h1]; exact h.more (by omega)
  · rw [if_neg h1]
    have h1 : roomF V.x bs = 0 := Decidable.not_not.1 h1
    obtain ⟨hb, hr⟩ := room_le h1
    have hr : V.fin + secN bs.length ≤ V.n := hr h.fin
    have hlo := layF_loose V.s ((fromN V.n V.turn + V.fin : Nat) : Int) (leavesF V.turn (V.said.length : Int) bs)
    have hse := secN_le _ hb
    have hsp := secN_pos bs.length
    have hl := h.loose
    have hf := h.few
    rw [leavesF_len] at hlo
    by_cases h2 : (layF V.s ((fromN V.n V.turn + V.fin : Nat) : Int) (leavesF V.turn (V.said.length : Int) bs)).2 = 0
    · rw [if_pos h2]
      refine ⟨h.n, hr, ?_, ?_, ?_, h.turn, ?_⟩
      · simp only [List.length_append, List.length_singleton]; omega
      · simp only [List.length_append, List.length_singleton]; omega
      · intro b hb'
        rcases List.mem_append.1 hb' with h3 | h3
        · exact h.short b h3
        · obtain rfl := List.mem_singleton.1 h3; exact hb
      · show (layF _ _ _).1.loose.length ≤ _; omega
    · rw [if_neg h2]
      exact ⟨h.n, h.fin, h.some_, h.few, h.short, h.turn, by show (layF _ _ _).1.loose.length ≤ _; omega⟩
theorem chkV_wf {V : LV} {k : Nat} (h : V.Wf k) (bs : List UInt8) : (chkV V bs).1.Wf (k + 840) := by
  unfold chkV
  by_cases h1 : roomC V.x bs ≠ 0
  · rw [if_pos h1]; exact h.more (by omega)
  · rw [if_neg h1]
    have h1 : roomC V.x bs = 0 := Decidable.not_not.1 h1
    obtain ⟨hb, hr⟩ := roomC_le h1
    have hr : secN bs.length ≤ V.n := hr
    have hlo := begF_loose V.n (upT V.turn) bs hb V.s
    have hsp := secN_pos bs.length
    have hl := h.loose
    by_cases h2 : (begF V.n (upT V.turn) bs V.s).2 = 0
    · rw [if_pos h2]
      refine ⟨h.n, hr, Nat.zero_lt_one, hsp, ?_, ?_, ?_⟩
      · intro b hb'
        obtain rfl := List.mem_singleton.1 hb'; exact hb
      · have := upT_range V.turn; exact this
      · show (begF _ _ _ _).1.loose.length ≤ _; omega
    · rw [if_neg h2]
      exact ⟨h.n, h.fin, h.some_, h.few, h.short, h.turn, by show (begF _ _ _ _).1.loose.length ≤ _; omega⟩
theorem v_len (L : LG) : L.v.said.length = L.x.said.length := List.length_map _
theorem append_v (b g : Nat) (L : LG) (k : Nat) (y : LBy) (h : L.v.Wf k) (hk : k ≤ 980000) (hyl : y.bs.length ≤ 1000000) (w0 : World) (hd : (lgI b g L).holds w0) (f0 : Stable (lgI b g L).foot w0 (GlF y.p y.bs)) :
    Ret Tryz.prog 25 [.pointer (some ⟨g, 0, none⟩), .slice y.p y.bs.length y.c] w0 (lgI b g L).foot fun v w' => ∃ L', v = .int .i64 (appV L.v y.bs).2 ∧ (lgI b g L').holds w' ∧ (∀ k, (lgI b g L').foot k → (lgI b g L).foot k ∨ w0.heap.size ≤ k) ∧ L'.m = L.m ∧ L'.v = (appV L.v y.bs).1 := by
  have hvl := v_len L
  have hcap := lg_cap hd
  obtain ⟨m, p, c, s, q, e, x⟩ := L
  have hn : x.n ≤ 1000 := h.n
  have hfi : x.fin ≤ x.n := h.fin
  have hs0 := h.some_
  have hsf : (LG.v ⟨m, p, c, s, q, e, x⟩).said.length ≤ x.fin := h.few
  have ht : 0 ≤ x.turn ∧ x.turn ≤ 4294967295 := h.turn
  have hl : s.loose.length ≤ k := h.loose
  have hvl : (LG.v ⟨m, p, c, s, q, e, x⟩).said.length = x.said.length := hvl
  rw [hvl] at hs0 hsf
  have hcap : x.said.length ≤ e := hcap
  refine (append_c g b m p c s q e x y w0 hn hfi ⟨by omega, hcap⟩ hs0 ht hyl (by omega) hd f0).mono fun v w' => ?_
  have hrm : roomF (LG.v ⟨m, p, c, s, q, e, x⟩).x y.bs = roomF x y.bs := rfl
  unfold appV
  rw [hrm, hvl]
  rintro (⟨ha, rfl, hb⟩ | ⟨ha, rfl, p', c', q', e', y', hy', he', hh, hf⟩)
  · rw [if_pos ha]
    exact ⟨⟨m, p, c, s, q, e, x⟩, rfl, hb, fun k hk => .inl hk, rfl, rfl⟩
  · rw [if_neg (fun h => h ha)]
    have hR : layF (LG.v ⟨m, p, c, s, q, e, x⟩).s ((fromN (LG.v ⟨m, p, c, s, q, e, x⟩).n (LG.v ⟨m, p, c, s, q, e, x⟩).turn + (LG.v ⟨m, p, c, s, q, e, x⟩).fin : Nat) : Int) (leavesF (LG.v ⟨m, p, c, s, q, e, x⟩).turn (x.said.length : Int) y.bs) = layF s ((fromN x.n x.turn + x.fin : Nat) : Int) (leavesF x.turn (x.said.length : Int) y.bs) := rfl
    rw [hR]
    obtain ⟨R, hR⟩ : ∃ R, R = layF s ((fromN x.n x.turn + x.fin : Nat) : Int) (leavesF x.turn (x.said.length : Int) y.bs) := ⟨_, rfl⟩
    rw [← hR] at hh hf ⊢
    refine ⟨⟨m, p', c', R.1, q', e', appS x y' R.2⟩, ?_, hh, hf, rfl, ?_⟩
    · by_cases h2 : R.2 = 0
      · rw [if_pos h2, h2]
      · rw [if_neg h2]
    · by_cases h2 : R.2 = 0
      · rw [if_pos h2]
        show LG.v _ = _
        unfold LG.v appS
        rw [if_pos h2]
        simp only [bsL, List.map_append, List.map_cons, List.map_nil, hy']
      · rw [if_neg h2]
        show LG.v _ = _
        unfold LG.v appS
        rw [if_neg h2]
theorem chk_v (b g : Nat) (L : LG) (k : Nat) (y : LBy) (h : L.v.Wf k) (hk : k ≤ 980000) (hyl : y.bs.length ≤ 1000000) (w0 : World) (hd : (lgI b g L).holds w0) (f0 : Stable (lgI b g L).foot w0 (GlF y.p y.bs)) :
    Ret Tryz.prog 24 [.pointer (some ⟨g, 0, none⟩), .slice y.p y.bs.length y.c] w0 (lgI b g L).foot fun v w' => ∃ L', v = .int .i64 (chkV L.v y.bs).2 ∧ (lgI b g L').holds w' ∧ (∀ k, (lgI b g L').foot k → (lgI b g L).foot k ∨ w0.heap.size ≤ k) ∧ L'.m = L.m ∧ L'.v = (chkV L.v y.bs).1 := by
  obtain ⟨m, p, c, s, q, e, x⟩ := L
  have hn : x.n ≤ 1000 := h.n
  have ht : 0 ≤ x.turn ∧ x.turn ≤ 4294967295 := h.turn
  have hl : s.loose.length ≤ k := h.loose
  refine (chk_c g b m p c s q e x y w0 hn ht hyl (by omega) hd f0).mono fun v w' => ?_
  have hrm : roomC (LG.v ⟨m, p, c, s, q, e, x⟩).x y.bs = roomC x y.bs := rfl
  unfold chkV
  rw [hrm]
  rintro (⟨ha, rfl, hb⟩ | ⟨ha, rfl, p', c', q', e', y', hy', -, -, hh, hf⟩)
  · rw [if_pos ha]
    exact ⟨⟨m, p, c, s, q, e, x⟩, rfl, hb, fun k hk => .inl hk, rfl, rfl⟩
  · rw [if_neg (fun h => h ha)]
    have hR : begF (LG.v ⟨m, p, c, s, q, e, x⟩).n (upT (LG.v ⟨m, p, c, s, q, e, x⟩).turn) y.bs (LG.v ⟨m, p, c, s, q, e, x⟩).s = begF x.n (upT x.turn) y.bs s := rfl
    rw [hR]
    obtain ⟨R, hR⟩ : ∃ R, R = begF x.n (upT x.turn) y.bs s := ⟨_, rfl⟩
    rw [← hR] at hh hf ⊢
    refine ⟨⟨m, p', c', R.1, q', e', chkS x y' R.2⟩, ?_, hh, hf, rfl, ?_⟩
    · by_cases h2 : R.2 = 0
      · rw [if_pos h2, h2]
      · rw [if_neg h2]
    · by_cases h2 : R.2 = 0
      · rw [if_pos h2]
        show LG.v _ = _
        unfold LG.v chkS
        rw [if_pos h2]
        simp only [bsL, List.map_cons, List.map_nil, hy']
      · rw [if_neg h2]
        show LG.v _ = _
        unfold LG.v chkS
        rw [if_neg h2]
/-! a log is opened, and laid -/
def opnV (s : DS) : LV := ⟨(openF s).1, (openF s).2.2.n, (openF s).2.2.turn, (openF s).2.2.said, (openF s).2.2.fin, false⟩
theorem readF_ok (t : Int) (field : List Blk) : ∀ (f at_ j : Nat), at_ ≤ field.length → (readF t field f at_ j).1.length + at_ ≤ (readF t field f at_ j).2 ∧ (readF t field f at_ j).2 ≤ field.length ∧ ∀ b ∈ (readF t field f at_ j).1, b.length ≤ 40000
  | 0, at_, j, h => ⟨by simp [readF], h, fun b hb => by simp [readF] at hb⟩
  | f + 1, at_, j, h => by
    rw [readF]
    cases hs : standF t field at_ (j : Int) with
    | none => exact ⟨by simp, h, fun b hb => by simp at hb⟩
    | some bs =>
      have h1 := stand_len hs
      have h2 := stand_get hs
      have h3 := secN_pos bs.length
      obtain ⟨r1, r2, r3⟩ := readF_ok t field f (at_ + secN bs.length) (j + 1) h1
      refine ⟨?_, r2, fun b hb => ?_⟩
      · simp only [List.length_cons]; omega
      · rcases List.mem_cons.1 hb with rfl | hb
        · exact h2.1
        · exact r3 b hb
theorem opnV_wf {s : DS} (h : (openF s).2.1 = 0) : (opnV s).Wf (s.loose.length + 1000) := by
  have hlo := openF_loose s
  have hcok := cntF_ok s
  by_cases h1 : (cntF s).2.1 = 0
  · obtain ⟨hz, hn, ht⟩ := hcok.2 h1
    have e1 : openF s = openB (cntF s).2.2.n.toNat (cntF s).2.2.t (cntF s).1 := by rw [openF, if_pos h1]
    obtain ⟨n, hn'⟩ : ∃ n, n = (cntF s).2.2.n.toNat := ⟨_, rfl⟩
    have hn1 : n ≤ 1000 := by omega
    rw [← hn'] at e1
    by_cases h2 : (fieldW (fromN n (cntF s).2.2.t) n 0 (cntF s).1).2.1 = 0
    · have e2 := e1
      rw [openB, if_pos h2] at e2
      have hfl := (fieldW_same (fromN n (cntF s).2.2.t) n 0 (cntF s).1).2
      obtain ⟨F, hF⟩ : ∃ F, F = fieldW (fromN n (cntF s).2.2.t) n 0 (cntF s).1 := ⟨_, rfl⟩
      rw [← hF] at e2 hfl
      have hrd := readF_ok (cntF s).2.2.t F.2.2 F.2.2.length 0 0 (Nat.zero_le _)
      rw [openC] at e2
      by_cases h3 : (readF (cntF s).2.2.t F.2.2 F.2.2.length 0 0).1 = []
      · rw [if_pos h3] at e2; rw [e2] at h; cases h
      · rw [if_neg h3] at e2
        by_cases h4 : (clrF (fromN n (cntF s).2.2.t) (readF (cntF s).2.2.t F.2.2 F.2.2.length 0 0).2 F.2.2 F.1).2 = 0
        · rw [if_pos h4] at e2
          have h5 := List.length_pos_iff.2 h3
          unfold opnV
          refine ⟨?_, ?_, ?_, ?_, ?_, ?_, hlo⟩ <;> rw [e2]
          · exact hn1
          · show (readF _ _ _ _ _).2 ≤ n; omega
          · exact h5
          · show (readF _ _ _ _ _).1.length ≤ (readF _ _ _ _ _).2; omega
          · exact hrd.2.2
          · exact ht
        · rw [if_neg h4] at e2; rw [e2] at h; exact absurd h h4
    · rw [openB, if_neg h2] at e1; rw [e1] at h; exact absurd h h2
  · rw [openF, if_neg h1] at h; exact absurd h h1
theorem openV_c (b m : Nat) (p : Option Addr) (c : Nat) (s : DS) (hl : s.loose.length ≤ 980000) (w0 : World) (hd : (dkI b m p c s).holds w0) :
    Ret Tryz.prog 23 [.pointer (some ⟨b, 0, none⟩)] w0 (dkI b m p c s).foot fun v w' =>
      ((openF s).2.1 ≠ 0 ∧ v = .tuple ⟨[.pointer none, .int .i64 (openF s).2.1]⟩ ∧ ∃ p' c', (dkI b m p' c' (openF s).1).holds w' ∧ ∀ k, (dkI b m p' c' (openF s).1).foot k → (dkI b m p c s).foot k ∨ w0.heap.size ≤ k) ∨
      ((openF s).2.1 = 0 ∧ ∃ g L, v = .tuple ⟨[.pointer (some ⟨g, 0, none⟩), .int .i64 0]⟩ ∧ L.m = m ∧ L.v = opnV s ∧ (lgI b g L).holds w' ∧ ∀ k, (lgI b g L).foot k → (dkI b m p c s).foot k ∨ w0.heap.size ≤ k) := by
  refine (open_c b m p c s w0 hl hd).mono fun v w' => ?_
  rintro (h | ⟨h0, g, p', c', q, e, x, hv, ⟨x1, x2, x3, x4, x5⟩, hh, hf⟩)
  · exact .inl h
  · refine .inr ⟨h0, g, ⟨m, p', c', (openF s).1, q, e, x⟩, hv, rfl, ?_, hh, hf⟩
    unfold LG.v opnV
    simp only [x1, x2, x4, x5, bsL, x3]
def fmtV (n : Nat) (s : DS) : LV := ⟨(fmtF n s).1, n, 0, [[]], 1, false⟩
theorem format_v (b m n : Nat) (p : Option Addr) (c : Nat) (s : DS) (hm : mayF s n = true) (hl : s.loose.length ≤ 980000) (w0 : World) (hd : (dkI b m p c s).holds w0) :
    Ret Tryz.prog 27 [.pointer (some ⟨b, 0, none⟩), .int .i64 (n : Int)] w0 (dkI b m p c s).foot fun v w' =>
      ((fmtF n s).2 ≠ 0 ∧ v = .tuple ⟨[.pointer none, .int .i64 (fmtF n s).2]⟩ ∧ ∃ p' c', (dkI b m p' c' (fmtF n s).1).holds w' ∧ ∀ k, (dkI b m p' c' (fmtF n s).1).foot k → (dkI b m p c s).foot k ∨ w0.heap.size ≤ k) ∨
      ((fmtF n s).2 = 0 ∧ ∃ g L, v = .tuple ⟨[.pointer (some ⟨g, 0, none⟩), .int .i64 0]⟩ ∧ L.m = m ∧ L.v = fmtV n s ∧ (lgI b g L).holds w' ∧ ∀ k, (lgI b g L).foot k → (dkI b m p c s).foot k ∨ w0.heap.size ≤ k) := by
  refine (format_c b m n p c s w0 hm hl hd).mono fun v w' => ?_
  rintro (h | ⟨h0, g, p', c', q, e, hv, hh, hf⟩)
  · exact .inl h
  · exact .inr ⟨h0, g, ⟨m, p', c', (fmtF n s).1, q, e, newW n⟩, hv, rfl, rfl, hh, hf⟩
/-! what a log tells -/
theorem left_v (b g : Nat) (L : LG) (k : Nat) (h : L.v.Wf k) (w0 : World) (hd : (lgI b g L).holds w0) : Ret Tryz.prog 70 [.pointer (some ⟨g, 0, none⟩)] w0 (fun _ => False) fun v _ => v = .int .i64 ((L.v.n : Int) - L.v.fin) := by
  have h1 := h.n
  have h2 := h.fin
  have h3 := h.few
  have h4 := h.some_
  rw [v_len] at h3 h4
  exact wleft_c g b L.q L.e L.x ⟨by omega, h4⟩ (show L.v.fin ≤ _ by omega) h1 w0 (BoxF.stable hd.2.1.1 (fun h => h))
theorem broken_v (b g : Nat) (L : LG) (w0 : World) (hd : (lgI b g L).holds w0) : Ret Tryz.prog 30 [.pointer (some ⟨g, 0, none⟩)] w0 (fun _ => False) fun v _ => v = .bool L.v.broken :=
  wbroken_c g b L.q L.e L.x w0 (BoxF.stable hd.2.1.1 (fun h => h))
theorem snap_v (b g : Nat) (L : LG) (k : Nat) (h : L.v.Wf k) (w0 : World) (hd : (lgI b g L).holds w0) :
    Ret Tryz.prog 39 [.pointer (some ⟨g, 0, none⟩)] w0 (fun _ => False) fun v w' => ∃ bs p' c', L.v.said[0]? = some bs ∧ v = .slice p' bs.length c' ∧ w'.ownsRow 0 5 1 (.slice p' bs.length c') bs.length (encL bs) ∧ ∀ ad, p' = some ad → w0.heap.size ≤ ad.block := by
  have h4 := h.some_
  rw [v_len] at h4
  have hg := nthG_get h4
  have e0 : L.v.said[0]? = some (nthG L.x.said 0).bs := by
    show (bsL L.x.said)[0]? = _
    rw [bsL, List.getElem?_map, hg]; rfl
  have hs := h.short _ (List.mem_of_getElem? e0)
  have hent := (allBy_ent hd.2.1.2.1.2.1).imp fun _ h => h (nthG L.x.said 0) (List.mem_of_getElem? hg)
  refine (snap_c g b L.q L.e L.x (nthG L.x.said 0) h4 rfl (by omega) w0 (BoxF.stable hd.2.1.1 (fun h => h)) (gl_own hd.2.1.2.1.1 (fun _ _ _ _ => trivial) (fun _ _ h => h)) hent).mono fun v w' => ?_
  rintro ⟨p', c', h1, h2, h3⟩
  exact ⟨_, p', c', e0, h1, h2, h3⟩
end Go.Proofs.YtlphkccfcodmcaaGreat

/- Logs on disks where something is to fail: as if the power were to go then. -/
namespace Go.Proofs.YtlphkccfcodmcaaGreat
open Go Go.Wk
set_option maxRecDepth 100000

def Cnt.ok (c : Cnt) : Prop := c.on = true → 0 ≤ c.left ∧ c.left ≤ 9223372036854775807
/-- the one of two counters that is met first. -/
def bothC (f a : Cnt) : Cnt := if f.on then (if a.on then (if f.left ≤ a.left then f else a) else f) else a
/-- the same writes on the same sectors. -/
structure Same3 (r r' : DS) : Prop where
  loose : r.loose = r'.loose
  firm : r.firm = r'.firm
  size : r.size = r'.size
/-- a disk, and one whose power goes where that one fails. -/
structure Sim (s s' : DS) : Prop where
  same : Same3 s s'
  on : s.out = false
  up : Up s'
  arms : s'.arms = bothC s.fails s.arms
  okf : s.fails.ok
  oka : s.arms.ok
theorem askD_same (s : DS) (k : Int) (b : Bool) : Same3 (askD s k b) s := by
  unfold askD
  split
  · exact ⟨rfl, rfl, rfl⟩
  · split
    · exact ⟨rfl, rfl, rfl⟩
    · split
      · exact ⟨rfl, rfl, rfl⟩
      · split
        · split <;> exact ⟨rfl, rfl, rfl⟩
        · exact ⟨rfl, rfl, rfl⟩
/-! what lasts -/
/-- a log's disk, where something may be to fail. -/
def LiveF (s : DS) (n : Nat) (t : Int) (said : List (List UInt8)) : Prop := ∃ s', Sim s s' ∧ Live s' n t said
theorem Live.liveF {s : DS} {n : Nat} {t : Int} {said : List (List UInt8)} (h : Live s n t said) (ha : s.arms.ok) : LiveF s n t said := by
  obtain ⟨tail, hL, _⟩ := id h
  refine ⟨s, ⟨⟨rfl, rfl, rfl⟩, hL.up.on, hL.up, ?_, ?_, ha⟩, h⟩
  · rw [bothC, if_neg (by rw [hL.up.fit]; exact Bool.false_ne_true)]
  · intro h1; rw [hL.up.fit] at h1; cases h1
end Go.Proofs.YtlphkccfcodmcaaGreat

/- Package signer: a new signer. -/
namespace Go.Proofs.YtlphkccfcodmcaaGreat
open Go Go.Wk
set_option synthInstance.maxSize 100000
set_option synthInstance.maxHeartbeats 400000
set_option maxRecDepth 100000

instance sfLit {d : Dg} {cs : List Value} {v : Value} [hl : LenIs cs 33] [hn : Nth cs 32 v] : SetFront cs (encL d.l) (encL d.l ++ [v]) := ⟨by rw [d.len, hl.eq]; omega, by
  have h := hl.eq
  rw [d.len, List.drop_eq_getElem_cons (by omega), List.drop_of_length_le (by omega)]
  have h2 := hn.eq
  rw [List.getElem?_eq_getElem (by omega)] at h2
  rw [Option.some.inj h2]⟩
abbrev sgI (h b g : Nat) (seed : Dg) (next : Int) (L : LG) : Wk.Item := both (Wk.box h 79 (cSg g seed next)) (lgI b g L)
theorem fmtV_wf {n : Nat} {s : DS} (hm : mayF s n = true) : (fmtV n s).Wf (s.loose.length + 3000) := by
  have hn : 4 ≤ n ∧ n ≤ 1000 := by simp [mayF] at hm; omega
  refine ⟨hn.2, show 1 ≤ n by omega, Nat.zero_lt_one, Nat.le_refl 1, ?_, ⟨Int.le_refl _, by show (0 : Int) ≤ 4294967295; decide⟩, ?_⟩
  · intro b hb
    obtain rfl := List.mem_singleton.1 hb; simp
  · have h1 := layF_loose s 0 (List.replicate (2 * n + 2) zB)
    rw [List.length_replicate] at h1
    have h2 := begF_loose n 0 [] (by simp) (layF s 0 (List.replicate (2 * n + 2) zB)).1
    show (fmtF n s).1.loose.length ≤ _
    unfold fmtF
    split <;> omega
theorem sformat_c (b m n : Nat) (p : Option Addr) (c : Nat) (s : DS) (seed : Dg) (w0 : World) (hm : mayF s n = true) (hl : s.loose.length ≤ 900000) (he : (fmtF n s).2 = 0) (hc : (chkV (fmtV n s) (laidD seed 0)).2 = 0) (hd : (dkI b m p c s).holds w0) :
    Ret Tryz.prog 8 [.pointer (some ⟨b, 0, none⟩), .int .i64 (n : Int), vDg seed] w0 (dkI b m p c s).foot fun v w' =>
      ∃ h g L, v = .tuple ⟨[.pointer (some ⟨h, 0, none⟩), .int .i64 0]⟩ ∧ (sgI h b g seed 0 L).holds w' ∧ (∀ k, (sgI h b g seed 0 L).foot k → (dkI b m p c s).foot k ∨ w0.heap.size ≤ k) ∧ L.m = m ∧ L.v = (chkV (fmtV n s) (laidD seed 0)).1 := by
  refine enter Tryz.func8 rfl rfl (Wd.itLent (x := dkI b m p c s) (fs := []) hd (by simp)) (fun a S => ?_)
  simp only [Tryz.ntmps8, List.length_cons, List.length_nil, Nat.reduceAdd, Nat.reduceSub, List.replicate_succ, List.replicate_zero, List.cons_append, List.nil_append] at S
  refine c_seq ?_
  refine c_region ?_
  refine sa S ?_; clear S; intro b5 a w S
  iterate 2 (refine sq S ?_; clear S; intro a S)
  refine wl_nil ?_
  refine xtn ?_
  refine c_seq ?_
  refine c_region ?_
  iterate 2 (refine sq S ?_; clear S; intro a S)
  refine sit (dkI b m p c s) S (format_v b m n p c s hm (by omega) _ (S.it (dkI b m p c s))) rfl ?_; clear S; rintro _ a w (⟨h0, -⟩ | ⟨-, g, L, rfl, hLm, hLv, hh, hf⟩) hS
  · exact absurd he h0
  have S := hS (lgI b g L) hh hf
  clear hS
  iterate 5 (refine sq S ?_; clear S; intro a S)
  refine wl_nil ?_
  refine xtn ?_
  iterate 2 (refine c_seq ?_)
  refine c_region ?_
  iterate 2 (refine sq S ?_; clear S; intro a S)
  refine wl_nil ?_
  refine xtn ?_
  refine c_condT S ?_
  refine c_region ?_
  iterate 2 (refine sq S ?_; clear S; intro a S)
  refine srn S (laid_c seed 0 _) ?_; clear S; rintro _ a w ⟨g2, c2, rfl, hown, hnew⟩ hS -
  have S := hS hown (fun ad h => by cases h; exact hnew)
  clear hS
  replace S := S.rowToGl (some ⟨g2, 0, none⟩) (laidD seed 0) (e := 5) (sz := 1) (n := 33) (c := c2) (fun _ _ _ _ => trivial)
  have hdl := laidD_len seed 0
  have hwf : L.v.Wf (s.loose.length + 3000) := by rw [hLv]; exact fmtV_wf hm
  have hr := chk_v b g L (s.loose.length + 3000) ⟨some ⟨g2, 0, none⟩, c2, laidD seed 0⟩ hwf (by omega) (by show (laidD seed 0).length ≤ _; omega) w (S.it (lgI b g L)) ((Stable.split (lgI b g L) (S.mem.fact (GlF (some ⟨g2, 0, none⟩) (laidD seed 0)))).less fun _ _ h => .inl h)
  rw [show (LBy.bs ⟨some ⟨g2, 0, none⟩, c2, laidD seed 0⟩).length = 33 from hdl, hLv] at hr
  refine sit (lgI b g L) S hr rfl ?_; clear S; rintro _ a w ⟨L2, rfl, hh2, hf2, hm2, hv2⟩ hS
  have S := hS (lgI b g L2) hh2 hf2
  clear hS
  rw [show (chkV (fmtV n s) (LBy.bs ⟨some ⟨g2, 0, none⟩, c2, laidD seed 0⟩)).2 = 0 from hc] at S
  refine sq S ?_; clear S; intro a S
  refine wl_nil ?_
  refine xtn ?_
  iterate 2 (refine c_seq ?_)
  refine c_region ?_
  iterate 2 (refine sq S ?_; clear S; intro a S)
  refine wl_nil ?_
  refine xtn ?_
  refine c_condF S ?_
  refine c_skip ?_
  refine xtn ?_
  refine c_seq ?_
  refine c_region ?_
  iterate 4 (refine sq S ?_; clear S; intro a S)
  refine sa S ?_; clear S; intro b29 a w S
  iterate 2 (refine sq S ?_; clear S; intro a S)
  refine wl_nil ?_
  refine xtn ?_
  refine c_ret ?_
  replace S := S.sub [Wk.box b29 79 (cSg g seed 0), lgI b g L2] []
  replace S := S.toBoth
  have h1 := S.it (sgI b29 b g seed 0 L2)
  have h2 := S.itNew (sgI b29 b g seed 0 L2) rfl
  exact end2 S (fun _ => ⟨b29, g, L2, rfl, h1, h2, hm2.trans hLm, hv2⟩)
end Go.Proofs.YtlphkccfcodmcaaGreat

/- Package signer: whether the log is broken. -/
namespace Go.Proofs.YtlphkccfcodmcaaGreat
open Go Go.Wk
set_option synthInstance.maxSize 100000
set_option synthInstance.maxHeartbeats 400000
set_option maxRecDepth 100000

theorem sbroken_c (h b g : Nat) (seed : Dg) (next : Int) (q : Option Addr) (e : Nat) (x : WS) (w0 : World) (f1 : Stable (fun _ => False) w0 (BoxF h 79 (cSg g seed next))) (f2 : Stable (fun _ => False) w0 (BoxF g 116 (cWal b q e x))) : Ret Tryz.prog 42 [.pointer (some ⟨h, 0, none⟩)] w0 (fun _ => False) fun v _ => v = .bool x.broken := by
  refine enter Tryz.func42 rfl rfl (Wd.begin (fs := [BoxF h 79 (cSg g seed next), BoxF g 116 (cWal b q e x)]) (by simp; exact ⟨f1, f2⟩)) (fun a S => ?_)
  simp only [Tryz.ntmps42, List.length_cons, List.length_nil, Nat.reduceAdd, Nat.reduceSub, List.replicate_succ, List.replicate_zero, List.cons_append, List.nil_append] at S
  refine c_seq ?_
  refine c_region ?_
  refine sq S ?_; clear S; intro a S
  refine wl_nil ?_
  refine xtn ?_
  refine c_seq ?_
  refine c_region ?_
  iterate 3 (refine sq S ?_; clear S; intro a S)
  refine gT S ?_
  refine sq S ?_; clear S; intro a S
  refine gT S ?_
  refine sq S ?_; clear S; intro a S
  refine gT S ?_
  refine sq S ?_; clear S; intro a S
  refine gT S ?_
  refine sq S ?_; clear S; intro a S
  refine gT S ?_
  refine sq S ?_; clear S; intro a S
  refine gT S ?_
  refine sr S (wbroken_c g b q e x _ ((S.mem.fact (BoxF g 116 (cWal b q e x))).less fun _ _ h => h.elim)) ?_; clear S; rintro _ a w rfl S
  iterate 2 (refine sq S ?_; clear S; intro a S)
  refine wl_nil ?_
  refine xtn ?_
  refine c_ret ?_
  exact end1 S (fun _ => rfl)
theorem sg_next (h b g : Nat) (seed : Dg) (next : Int) (L : LG) (w0 : World) (hd : (sgI h b g seed next L).holds w0) : Ret Tryz.prog 18 [.pointer (some ⟨h, 0, none⟩)] w0 (fun _ => False) fun v _ => v = .int .i64 next :=
  snext_c h g seed next w0 (BoxF.stable hd.1 (fun h => h))
theorem sg_root (h b g : Nat) (seed : Dg) (next : Int) (L : LG) (w0 : World) (hd : (sgI h b g seed next L).holds w0) : Ret Tryz.prog 17 [.pointer (some ⟨h, 0, none⟩)] w0 (fun _ => False) fun v _ => v = vDg (rootD seed) :=
  sroot_c h g seed next w0 (BoxF.stable hd.1 (fun h => h))
end Go.Proofs.YtlphkccfcodmcaaGreat

/- The document's signer: its bytes. -/
namespace Go.Proofs.YtlphkccfcodmcaaGreat
open Go Go.Wk
set_option synthInstance.maxSize 100000
set_option synthInstance.maxHeartbeats 400000
set_option maxRecDepth 100000

/-- an array inside a variable as a slice. -/
instance (priority := 1150) opSliceArrO {P : Program} {t ty e : TypeId} {lc : Cx} {bs : List Wk.Item} {fs : List (World → Prop)} {x : Operand} {b off n sz by_ : Nat} {z : Value} [Ev lc x (.pointer (some ⟨b, off, none⟩))] [ht : Und P t (.array n e)] [TI P e z sz by_] :
    OpQ P (.slice t x none none none) ty lc bs fs (.slice (some (if n = 0 then ⟨b, off, none⟩ else (⟨b, off, none⟩ : Addr).add (0 * sz))) (n - 0) (n - 0)) := ⟨fun ρ w hf _ => by
  have hb : (Instr.sliceBounds false n n none none none).run P w = .ok (0, n, n) w := by simp [Instr.sliceBounds]
  have eX : ρ x = .pointer (some ⟨b, off, none⟩) := hf.ev
  simp [xop, execOp, Instr.sliceAt, eX, Sem.run_bind, run_und, Instr.sureAddr, hb, run_size]⟩
theorem sl32o (b off : Nat) : (Value.slice (some (if 32 = 0 then (⟨b, off, none⟩ : Addr) else (⟨b, off, none⟩ : Addr).add (0 * 1))) (32 - 0) (32 - 0)) = .slice (some ⟨b, off, none⟩) 32 32 := rfl
instance (priority := 1040) srcBoxFO {P : Program} {tx e : TypeId} {b off m c n : Nat} {t : TypeId} {cs vs : List Value} {bs : List Wk.Item} {fs : List (World → Prop)} [h : Und P tx (.slice e)] [hb : HasBoxF fs b t cs] [hm : MulN m 1 n] [hs : Seg cs off n vs] [hf : Flat vs] :
    SrcV P tx (.slice (some ⟨b, off, none⟩) m c) bs fs 1 m vs := ⟨fun w mm => Src.ofSlice w h.eq _ _ _ _ (by rw [hs.eq.1, hm.eq]) (fun j u hj => by
      have hj' : j < n := by rw [← hs.eq.1]; exact (List.getElem?_eq_some_iff.1 hj).1
      have e : (⟨b, off, none⟩ : Addr).add j = ⟨b, off + j, none⟩ := by unfold Addr.add; split <;> simp_all
      rw [e, cell_of_row w b (off + j) cs.toArray t (0, 0) ((mm.facts _ hb.mem).now)]
      have := (hs.eq.2 j hj').trans hj
      simpa using this) hf.all⟩
end Go.Proofs.YtlphkccfcodmcaaGreat

/- Package signer: the leaves that a log tells. -/
namespace Go.Proofs.YtlphkccfcodmcaaGreat
open Go Go.Wk
set_option synthInstance.maxSize 100000
set_option synthInstance.maxHeartbeats 400000
set_option maxRecDepth 100000

/-- a log as a signer has it. -/
def takenV (h : Nat) : Value := .func (.func 77) #[] ⟨[.pointer (some ⟨h, 0, none⟩)]⟩
theorem taken_f (g : Nat) (w0 : World) : Ret Tryz.prog 40 [.agg ⟨[.pointer (some ⟨g, 0, none⟩)]⟩] w0 (fun _ => False) fun v w' => ∃ h, v = takenV h ∧ w0.heap.size ≤ h ∧ BoxF h 77 [.pointer (some ⟨g, 0, none⟩)] w' := by
  refine enter Tryz.func40 rfl rfl (Wd.start w0) (fun a S => ?_)
  simp only [Tryz.ntmps40, List.length_cons, List.length_nil, Nat.reduceAdd, Nat.reduceSub, List.replicate_succ, List.replicate_zero, List.cons_append, List.nil_append] at S
  refine c_seq ?_
  refine c_region ?_
  refine sa S ?_; clear S; intro b1 a w S
  refine sq S ?_; clear S; intro a S
  refine wl_nil ?_
  refine xtn ?_
  refine c_seq ?_
  refine c_region ?_
  iterate 2 (refine sq S ?_; clear S; intro a S)
  refine wl_nil ?_
  refine xtn ?_
  refine c_ret ?_
  have hn := (S.boxNew b1).elim (fun h => h.elim) id
  have hh := S.boxF b1
  exact end1 S (fun _ => ⟨b1, rfl, hn, hh⟩)
/-- the leaf that an entry names; -1: it names none. -/
def tk1 (b : List UInt8) : Int := if b.length = 1 then ((nthG b 0).toNat : Int) else -1
theorem taken_it (h g b : Nat) (q : Option Addr) (e : Nat) (x : WS) (h0 : 0 < x.said.length) (hc : x.said.length ≤ e) (hl : x.said.length ≤ 1000000) (hby : ∀ y ∈ x.said, y.bs.length ≤ 1000000) (w0 : World) (M : Nat → Prop)
    (f0 : Stable M w0 (BoxF h 77 [.pointer (some ⟨g, 0, none⟩)])) (f1 : Stable M w0 (BoxF g 116 (cWal b q e x))) (f2 : Stable M w0 (GlF q x.said)) (f3 : Stable M w0 (AllBy x.said)) :
    IterRetI Tryz.prog 77 [.pointer (some ⟨h, 0, none⟩)] w0 M (fun (n : Int) vs => vs = [.int .i64 n]) ((bsL (x.said.drop 1)).map tk1) := by
  obtain ⟨came, hcame⟩ : ∃ came, came = x.said.drop 1 := ⟨_, rfl⟩
  have hcl : came.length = x.said.length - 1 := by rw [hcame, List.length_drop]
  have hcb : ∀ y ∈ came, y.bs.length ≤ 1000000 := fun y hy => hby y (by rw [hcame] at hy; exact List.mem_of_mem_drop hy)
  rw [← hcame]
  intro L J Jx hy C0 hC0 hJ0
  have key : Ret Tryz.prog 77 [.func (.yield L) #[] #[], .pointer (some ⟨h, 0, none⟩)] w0 M fun _ w' => ∃ C W0, (∀ k, C k → w'.heap[k]? = W0.heap[k]?) ∧ (J ((bsL came).map tk1).length C W0 ∨ Jx C W0) := by
    refine enterM Tryz.func77 rfl rfl (Wd.startJ (J := J 0) (fs := [BoxF h 77 [.pointer (some ⟨g, 0, none⟩)], BoxF g 116 (cWal b q e x), GlF q x.said, AllBy x.said]) hC0 hJ0 (by simp; exact ⟨f0, f1, f2, f3⟩)) (fun a S => ?_)
    simp only [Tryz.ntmps77, List.length_cons, List.length_nil, Nat.reduceAdd, Nat.reduceSub, List.replicate_succ, List.replicate_zero, List.cons_append, List.nil_append] at S
    refine c_seq ?_
    refine c_region ?_
    refine sa S ?_; clear S; intro b2 a w S
    refine wl_nil ?_
    refine xtn ?_
    refine c_seq ?_
    refine c_region ?_
    iterate 2 (refine sq S ?_; clear S; intro a S)
    have hlt := foots_lt S
    refine sr S (all_c g b q e x h0 hc _ ((S.mem.fact (BoxF g 116 (cWal b q e x))).less fun _ _ h => h.elim)) ?_; clear S; rintro _ a w ⟨h2, rfl, n0, e0⟩ S
    replace S := S.add (Φ := BoxF h2 59 [.slice (if e = 1 then q else q.map (·.add (1 * 1))) (x.said.length - 1) (e - 1)]) (BoxF.stable e0 (fun hm => by have := hlt _ hm; omega))
    rw [← hcl] at S
    obtain ⟨q2, hq2⟩ : ∃ q2, q2 = (if e = 1 then q else q.map (·.add (1 * 1))) := ⟨_, rfl⟩
    rw [← hq2] at S
    replace S := S.add (Φ := GlF q2 came) ((S.mem.fact (GlF q x.said)).imp fun _ h => by rw [hq2, hcame]; exact h.drop 1 hc)
    replace S := S.add (Φ := AllBy came) ((S.mem.fact (AllBy x.said)).imp fun _ h y hy => h y (by rw [hcame] at hy; exact List.mem_of_mem_drop hy))
    refine wl_nil ?_
    refine xtn ?_
    refine c_block ?_
    replace S := S.sub [Wk.box b2 92 [.func (.yield L) #[] #[]], marks [], jI (J 0) C0] [AllBy came, GlF q2 came, BoxF h2 59 [.slice q2 came.length (e - 1)], Agree M w0]
    refine c_range (κ := Nat → Prop) (κx := Nat → Prop) (Ds := []) (toldL came)
      (fun i C => [Wk.box b2 92 [.func (.yield L) #[] #[]], marks [], jI (J i) C])
      (fun _ _ => [AllBy came, GlF q2 came, BoxF h2 59 [.slice q2 came.length (e - 1)], Agree M w0])
      (fun i _ => i ≤ came.length)
      (fun C => [Wk.box b2 92 [.func (.yield L) #[] #[]], marks [], jI Jx C])
      (fun _ => [AllBy came, GlF q2 came, BoxF h2 59 [.slice q2 came.length (e - 1)], Agree M w0])
      (fun cd _ => cd = .ret) C0 S
      (fun M w1 hM hF _ => all_it h2 came q2 (e - 1) (by omega) hcb w1 M hM (hF _ (by simp)) (hF _ (by simp)) (hF _ (by simp))) ⟨Nat.zero_le _, rfl, rfl⟩ ?_ ?_ ?_ ?_
    · clear S
      rintro L2 D bL M' w1 i z vs C W0 w hz - hW0 hgr ⟨p2, c2, rfl, hown, hnew⟩
      obtain ⟨hi, rfl⟩ := told_get hz
      obtain ⟨y2, hy2⟩ : ∃ y2 : LBy, y2 = ⟨p2, c2, (nthG came i).bs⟩ := ⟨_, rfl⟩
      have hent : (entI [y2]).holds w := by rw [hy2]; exact ent_row (y := ⟨p2, c2, (nthG came i).bs⟩) hown
      have hwd := hW0.addItem hgr hent (fun k ⟨u, hu, ad, hp, hk⟩ => by
        obtain rfl := List.mem_singleton.1 hu
        rw [hy2] at hp
        exact hk ▸ hnew ad hp) (ItOk.lt w hent) ItOk.loc
      have hx : ((bsL came).map tk1)[i]? = some (tk1 (nthG came i).bs) := by rw [List.getElem?_map, bsL, List.getElem?_map, nthG_get hi]; rfl
      obtain ⟨bs2, hbs2⟩ : ∃ bs2, bs2 = (nthG came i).bs := ⟨_, rfl⟩
      rw [← hbs2] at hx hy2
      refine ⟨_, inferInstance, fun a S => ?_⟩
      replace S : St w1 M' [] a w _ (entI [y2] :: lpI L2 D (lpR bL .ready none) :: _) _ := ⟨S.slots, S.defers, hwd⟩
      replace S := St.entFact S [y2]
      replace S := S.add (Φ := GlF p2 bs2) ((S.mem.fact (AllBy [y2])).imp fun _ h => by have := h y2 (by simp); rw [hy2] at this; exact this)
      rw [← hbs2] at S
      refine c_region ?_
      refine sq S ?_; clear S; intro a S
      refine wl_nil ?_
      refine xtn ?_
      refine rbegin (D := D) (b := bL) S ?_; clear S; intro a w S
      refine c_block ?_
      refine c_seq ?_
      refine c_region ?_
      refine sq S ?_; clear S; intro a S
      refine wl_nil ?_
      refine xtn ?_
      refine c_mrgb1 S (fun (v : Int) uu => [(5, .int .i64 v), (5, uu 11), (0, uu 12), (0, uu 13), (0, uu 14), (0, uu 15), (0, uu 16), (0, uu 17)]) (fun (v : Int) => v = tk1 bs2) ?_ ?_
      · refine c_seq ?_
        refine c_region ?_
        iterate 3 (refine sq S ?_; clear S; intro a S)
        refine wl_nil ?_
        refine xtn ?_
        refine c_cond S (fun h4 => ?_) (fun h4 => ?_)
        · have hone : bs2.length = 1 := by have := of_decide_eq_true h4; omega
          have hK : KLt 0 bs2.length := ⟨by omega⟩
          refine c_region ?_
          iterate 5 (refine sq S ?_; clear S; intro a S)
          refine wl_nil ?_
          refine xtn ?_
          refine ⟨_, S.uu, ?_, S⟩
          have := (nthG bs2 0).toNat_lt
          rw [tk1, if_pos hone, w64 _ (by omega) (by omega)]
        · refine c_skip ?_
          refine xtn ?_
          refine ⟨-1, S.uu, ?_, S⟩
          have hone : bs2.length ≠ 1 := by have := of_decide_eq_false h4; omega
          rw [tk1, if_neg hone]
      · clear S; rintro v uu a w hv S
        refine c_seq ?_
        refine c_region ?_
        iterate 2 (refine sq S ?_; clear S; intro a S)
        refine syR S (M := M) (wI := w0) (C := C) (J := J i) (J1 := J (i + 1)) (Jx := Jx) (fun W0 hJ hs => hy i _ _ C W0 _ hx hJ hs ((S.mem.fact (Agree M w0)).now) (by rw [hv])) ?_; clear S; intro ok C' a w S
        refine sq S ?_; clear S; intro a S
        refine wl_nil ?_
        refine xtn ?_
        refine c_cond S (fun h6 => ?_) (fun h6 => ?_)
        · refine c_ret ?_
          refine xbr ?_
          obtain rfl : ok = false := by simpa using h6
          simp only [cond_false] at S
          exact rret (D := D) (b := bL) (S.sub [lpI L2 D (lpR bL .busy none), Wk.box b2 92 [.func (.yield L) #[] #[]], marks [], jI Jx C'] [AllBy came, GlF q2 came, BoxF h2 59 [.slice q2 came.length (e - 1)], Agree M w0]) fun W hW => ⟨.inl rfl, C', rfl, hW⟩
        · refine c_skip ?_
          refine xbn ?_
          obtain rfl : ok = true := by simpa using h6
          simp only [cond_true] at S
          exact rnext (D := D) (b := bL) (S.sub [lpI L2 D (lpR bL .busy none), Wk.box b2 92 [.func (.yield L) #[] #[]], marks [], jI (J (i + 1)) C'] [AllBy came, GlF q2 came, BoxF h2 59 [.slice q2 came.length (e - 1)], Agree M w0]) fun W hW => ⟨C', hi, hW⟩
    · clear S
      rintro D C a w - S
      have hlen : (toldL came).length = ((bsL came).map tk1).length := by simp [toldL, bsL]
      rw [hlen] at S
      replace S := S.join (Ds := [])
      refine xbn ?_
      refine endM0 S (fun w hw => ?_)
      obtain ⟨W0, h1, h2⟩ := hw.held (jI (J ((bsL came).map tk1).length) C) (by simp)
      exact ⟨C, W0, h2, .inl h1⟩
    · rintro D C a w - S
      replace S := S.join (Ds := [])
      repeat (first | refine xbr ?_ | refine xtr ?_)
      refine endM0 S (fun w hw => ?_)
      obtain ⟨W0, h1, h2⟩ := hw.held (jI Jx C) (by simp)
      exact ⟨C, W0, h2, .inr h1⟩
    · rintro id D C a w h; cases h
  refine CallsIn.mono ((callsIn_wide (n := 0)).2 key) ?_
  rintro e W ⟨v, rfl, hag, h⟩
  exact ⟨⟨v, rfl⟩, hag, h⟩
end Go.Proofs.YtlphkccfcodmcaaGreat

/- Package signer: Open. -/
namespace Go.Proofs.YtlphkccfcodmcaaGreat
open Go Go.Wk
set_option synthInstance.maxSize 100000
set_option synthInstance.maxHeartbeats 400000
set_option maxRecDepth 100000

/-- a digest that stands somewhere. -/
def DgF (ad : Addr) (d : Dg) : World → Prop := fun w => ∀ j v, (encL d.l)[j]? = some v → w.cell? (ad.add j) = some v
class HasDgF (fs : List (World → Prop)) (ad : Addr) (d : outParam Dg) : Prop where mem : DgF ad d ∈ fs
instance hdgf0 {ad : Addr} {d : Dg} {fs : List (World → Prop)} : HasDgF (DgF ad d :: fs) ad d := ⟨List.mem_cons_self ..⟩
instance (priority := 810) opLoadDgF {P : Program} {ty t : TypeId} {lc : Cx} {bs : List Wk.Item} {fs : List (World → Prop)} {x : Operand} {ad : Addr} {z : Value} {by_ : Nat} {d : Dg} [Ev lc x (.pointer (some ad))] [ha : AggT P t true] [TI P t z 32 by_] [hb : HasDgF fs ad d] : OpQ P (.load t x) ty lc bs fs (.agg ⟨encL d.l⟩) := ⟨fun ρ w h mm => by
  have hf : DgF ad d w := (mm.facts _ hb.mem).now
  have h1 := run_loadCells_list (P := P) w ad (encL d.l) hf
  simp only [d.len] at h1
  simp [xop, execOp, Instr.loadAt, h.ev (x := x) (v := .pointer (some ad)), Instr.sureAddr, loadVar, Sem.run_bind, ha.run, run_size, h1]⟩
def opnS : List Int → Bool → Nat → Bool × Nat
  | [], ok, n => (ok, n)
  | x :: xs, ok, n => opnS xs (ok && decide (x = (n : Int)) && decide (x < 8)) (n + 1)
def seedOf (b : List UInt8) : Dg := if h : b.length = 33 then ⟨b.take 32, by rw [List.length_take]; omega⟩ else z32
/-- the signer of what a log tells, if there is one. -/
def sgV : List (List UInt8) → Option (Dg × Nat)
  | [] => none
  | b :: rest => if b.length = 33 then (if (opnS (rest.map tk1) (decide ((nthG b 32).toNat ≤ 8)) (nthG b 32).toNat).1 then some (seedOf b, (opnS (rest.map tk1) (decide ((nthG b 32).toNat ≤ 8)) (nthG b 32).toNat).2) else none) else none
theorem dgF_of {ad : Addr} {b : List UInt8} {w : World} (hb : b.length = 33) (h : GlF (some ad) b w) : DgF ad (seedOf b) w := by
  intro j v hj
  rw [seedOf, dif_pos hb] at hj
  have hj32 : j < 32 := by
    have := (List.getElem?_eq_some_iff.1 hj).1
    rw [encL_len, List.length_take] at this
    have h3 : min 32 b.length * Enc.sz UInt8 = min 32 b.length := Nat.mul_one _
    omega
  have h2 : (encL b)[j]? = some v := by
    have := encL_take b 32
    rw [show encL (b.take 32) = (encL b).take (32 * Enc.sz UInt8) from this.symm] at hj
    rw [List.getElem?_take] at hj
    split at hj
    · exact hj
    · cases hj
  exact h.1.2 ad rfl j v h2
theorem lgI_stable {M : Nat → Prop} {w : World} {b g : Nat} {L : LG} (h : Stable M w (lgI b g L).holds) : Stable M w (BoxF g 116 (cWal b L.q L.e L.x)) ∧ Stable M w (GlF L.q L.x.said) ∧ Stable M w (AllBy L.x.said) :=
  ⟨h.imp fun _ h => (BoxF.stable (M := fun _ => False) h.2.1.1 (fun h => h)).now, h.imp fun _ h => (gl_own (M := fun _ => False) h.2.1.2.1.1 (fun _ _ _ _ => trivial) (fun _ _ h => h)).now, h.imp fun _ h y hy => (h.2.1.2.1.2.1 y hy).2⟩
theorem sopen_bad (b m : Nat) (p : Option Addr) (c : Nat) (s : DS) (hl : s.loose.length ≤ 980000) (h0 : (openF s).2.1 ≠ 0) (w0 : World) (hd : (dkI b m p c s).holds w0) :
    Ret Tryz.prog 16 [.pointer (some ⟨b, 0, none⟩)] w0 (dkI b m p c s).foot fun v w' =>
      v = .tuple ⟨[.pointer none, .int .i64 (openF s).2.1]⟩ ∧ ∃ p' c', (dkI b m p' c' (openF s).1).holds w' ∧ ∀ k, (dkI b m p' c' (openF s).1).foot k → (dkI b m p c s).foot k ∨ w0.heap.size ≤ k := by
  refine enterM Tryz.func16 rfl rfl (Wd.itLent (x := dkI b m p c s) (fs := []) hd (by simp)) (fun a S => ?_)
  simp only [Tryz.ntmps16, List.length_cons, List.length_nil, Nat.reduceAdd, Nat.reduceSub, List.replicate_succ, List.replicate_zero, List.cons_append, List.nil_append] at S
  refine c_seq ?_
  refine c_region ?_
  iterate 2 (refine sq S ?_; clear S; intro a S)
  refine wl_nil ?_
  refine xtn ?_
  refine c_seq ?_
  refine c_region ?_
  refine sq S ?_; clear S; intro a S
  refine sit (dkI b m p c s) S (openV_c b m p c s hl _ (S.it (dkI b m p c s))) rfl ?_; clear S; rintro _ a w (⟨-, rfl, p', c', hh, hf⟩ | ⟨h, -⟩) hS
  rotate_left 1
  · exact absurd h h0
  have S := hS (dkI b m p' c' (openF s).1) hh hf
  clear hS
  iterate 5 (refine sq S ?_; clear S; intro a S)
  refine wl_nil ?_
  refine xtn ?_
  iterate 2 (refine c_seq ?_)
  refine c_region ?_
  iterate 2 (refine sq S ?_; clear S; intro a S)
  rw [show (!decide ((openF s).2.1 = 0)) = true from by rw [decide_eq_false h0]; rfl] at S
  refine wl_nil ?_
  refine xtn ?_
  refine c_condT S ?_
  refine c_seq ?_
  refine c_region ?_
  iterate 3 (refine sq S ?_; clear S; intro a S)
  refine wl_nil ?_
  refine xtn ?_
  refine c_ret ?_
  refine xtr ?_
  refine endM2 S (fun w hw => ⟨rfl, p', c', ?_⟩)
  exact ⟨hw.held (dkI b m p' c' (openF s).1) (by simp), hw.own (dkI b m p' c' (openF s).1) (by simp) rfl⟩
theorem sopen_ok (b m : Nat) (p : Option Addr) (c : Nat) (s : DS) (hl : s.loose.length ≤ 980000) (h0 : (openF s).2.1 = 0) (w0 : World) (hd : (dkI b m p c s).holds w0) :
    Ret Tryz.prog 16 [.pointer (some ⟨b, 0, none⟩)] w0 (dkI b m p c s).foot fun v w' =>
      (sgV (opnV s).said = none ∧ v = .tuple ⟨[.pointer none, .int .i64 200]⟩ ∧ ∃ p' c', (dkI b m p' c' (openF s).1).holds w' ∧ ∀ k, (dkI b m p' c' (openF s).1).foot k → (dkI b m p c s).foot k ∨ w0.heap.size ≤ k) ∨
      (∃ h g L seed next, sgV (opnV s).said = some (seed, next) ∧ v = .tuple ⟨[.pointer (some ⟨h, 0, none⟩), .int .i64 0]⟩ ∧ L.m = m ∧ L.v = opnV s ∧ (sgI h b g seed (next : Nat) L).holds w' ∧ ∀ k, (sgI h b g seed (next : Nat) L).foot k → (dkI b m p c s).foot k ∨ w0.heap.size ≤ k) := by
  refine enterM Tryz.func16 rfl rfl (Wd.itLent (x := dkI b m p c s) (fs := []) hd (by simp)) (fun a S => ?_)
  simp only [Tryz.ntmps16, List.length_cons, List.length_nil, Nat.reduceAdd, Nat.reduceSub, List.replicate_succ, List.replicate_zero, List.cons_append, List.nil_append] at S
  refine c_seq ?_
  refine c_region ?_
  iterate 2 (refine sq S ?_; clear S; intro a S)
  refine wl_nil ?_
  refine xtn ?_
  refine c_seq ?_
  refine c_region ?_
  refine sq S ?_; clear S; intro a S
  refine sit (dkI b m p c s) S (openV_c b m p c s hl _ (S.it (dkI b m p c s))) rfl ?_; clear S; rintro _ a w (⟨h, -⟩ | ⟨-, g, L, rfl, hLm, hLv, hh, hf⟩) hS
  · exact absurd h0 h
  have S := hS (lgI b g L) hh hf
  clear hS
  iterate 5 (refine sq S ?_; clear S; intro a S)
  refine wl_nil ?_
  refine xtn ?_
  iterate 2 (refine c_seq ?_)
  refine c_region ?_
  iterate 2 (refine sq S ?_; clear S; intro a S)
  refine wl_nil ?_
  refine xtn ?_
  refine c_condF S ?_
  refine c_skip ?_
  refine xtn ?_
  refine c_seq ?_
  have hwf := opnV_wf h0
  rw [← hLv] at hwf
  have hown := S.itNew (lgI b g L) rfl
  have hcap := lg_cap (S.it (lgI b g L))
  refine c_region ?_
  refine sq S ?_; clear S; intro a S
  refine srn S (snap_v b g L _ hwf _ (S.it (lgI b g L))) ?_; clear S; rintro _ a w ⟨bs, p1, c1, hb0, rfl, hrow, hnew⟩ hS -
  have S := hS hrow hnew
  clear hS
  replace S := S.rowToGl p1 bs (e := 5) (sz := 1) (n := bs.length) (c := c1) (fun _ _ _ _ => trivial)
  refine sq S ?_; clear S; intro a S
  refine wl_nil ?_
  refine xtn ?_
  iterate 2 (refine c_seq ?_)
  refine c_region ?_
  iterate 3 (refine sq S ?_; clear S; intro a S)
  refine wl_nil ?_
  refine xtn ?_
  refine c_cond S (fun h5 => ?_) (fun h5 => ?_)
  · refine c_seq ?_
    refine c_region ?_
    iterate 2 (refine sq S ?_; clear S; intro a S)
    refine wl_nil ?_
    refine xtn ?_
    refine c_ret ?_
    refine xtr ?_
    have hv : sgV (opnV s).said = none := by
      rw [← hLv]
      obtain ⟨r, hr⟩ : ∃ r, L.v.said = bs :: r := by
        cases h : L.v.said with
        | nil => rw [h] at hb0; cases hb0
        | cons b0 r => rw [h] at hb0; cases hb0; exact ⟨r, rfl⟩
      rw [hr, sgV, if_neg]
      intro h; rw [h] at h5; simp at h5
    have hs : L.s = (openF s).1 := congrArg LV.s hLv
    subst hLm
    refine endM2 S (fun w hw => .inl ⟨hv, rfl, L.p, L.c, ?_⟩)
    have hd := (hw.held (lgI b g L) (by simp)).1
    rw [← hs]
    exact ⟨hd, fun k hk => hown k (.inl hk)⟩
  · refine c_skip ?_
    refine xtn ?_
    refine c_seq ?_
    have h33 : bs.length = 33 := by
      have : (bs.length : Int) = 33 := by simpa using h5
      omega
    have hK : KLt 32 bs.length := ⟨by omega⟩
    have hc1 := own_le hrow
    have hKc : LeC 32 c1 := ⟨by omega⟩
    obtain ⟨gq, cur, rfl, -⟩ := own_cells hrow (by omega)
    obtain ⟨ad, had⟩ : ∃ ad : Addr, ad = ⟨gq, 0, none⟩ := ⟨_, rfl⟩
    rw [← had] at S
    replace S := S.add (Φ := DgF ad (seedOf bs)) ((S.mem.fact (GlF (some ad) bs)).imp fun _ h => dgF_of h33 h)
    refine c_drwe2 (.q 0 (.q 1 (.q 2 (.q 3 (.q 4 (.q 5 (.q 6 (.q 7 (.q 8 (.q 9 (.q 10 (.b2 11 12 (.l 12 (.l 13 (.e))) (.l 11 (.l 13 (.e))))))))))))))) S (fun (v7 : Nat) (v34 : Nat) uu => [(7, .pointer (some ⟨v7, 0, none⟩)), (15, uu 23), (0, uu 24), (0, uu 25), (0, uu 26), (0, uu 27), (0, uu 28), (0, uu 29), (0, uu 30), (0, uu 31), (0, uu 32), (0, uu 33), (0, uu 34)]) [marks [], lgI b g L] (fun (v7 : Nat) (v34 : Nat) => [Wk.box v34 79 (cSg g (seedOf bs) ((nthG bs 32).toNat : Nat)), Wk.box v7 31 [.pointer (some ⟨v34, 0, none⟩)], marks [], lgI b g L]) (fun (v7 : Nat) (v34 : Nat) => [DgF ad (seedOf bs), GlF (some ad) bs]) (fun (v7 : Nat) (v34 : Nat) => True) ?_ ?_
    · intro w S
      iterate 10 (refine tq S ?_; clear S; intro a S)
      rw [show IntKind.i64.wrap ((nthG bs 32).toNat : Int) = ((nthG bs 32).toNat : Int) from by have := (nthG bs 32).toNat_lt; rw [w64 _ (by omega) (by omega)]] at S
      refine tq S ?_; clear S; intro a S
      refine tb2 ?_ ?_
      · refine sa S ?_; clear S; intro b34 a w S
        refine te S ?_
        refine tl ?_
        refine sa S ?_; clear S; intro b7 a w S
        refine te S ?_
        refine tl ?_
        refine sw S ?_; clear S; intro a w S
        refine te S ?_
        refine tn ?_
        exact ⟨b7, b34, S.uu, trivial, by first | exact S | exact S.sub _ _ | exact S.perm _ (.swap _ _ _)⟩
      · refine sa S ?_; clear S; intro b7 a w S
        refine te S ?_
        refine tl ?_
        refine sa S ?_; clear S; intro b34 a w S
        refine te S ?_
        refine tl ?_
        refine sw S ?_; clear S; intro a w S
        refine te S ?_
        refine tn ?_
        exact ⟨b7, b34, S.uu, trivial, by first | exact S | exact S.sub _ _ | exact S.perm _ (.swap _ _ _)⟩
    clear S; rintro v7 v34 uu a w - S
    refine xtn ?_
    refine c_seq ?_
    obtain ⟨nx, hnx⟩ : ∃ nx, nx = (nthG bs 32).toNat := ⟨_, rfl⟩
    have hnxl := (nthG bs 32).toNat_lt
    rw [← hnx] at S hnxl
    refine c_region ?_
    iterate 5 (refine sq S ?_; clear S; intro a S)
    refine sa S ?_; clear S; intro b8 a w S
    refine sw S ?_; clear S; intro a w S
    refine wl_nil ?_
    refine xtn ?_
    iterate 2 (refine c_seq ?_)
    refine c_region ?_
    iterate 4 (refine sq S ?_; clear S; intro a S)
    have hlt := foots_lt S
    refine sr S (taken_f g _) ?_; clear S; rintro _ a w ⟨ht, rfl, n0, e0⟩ S
    replace S := S.add (Φ := BoxF ht 77 [.pointer (some ⟨g, 0, none⟩)]) (BoxF.stable e0 (fun hm => by have := hlt _ hm; omega))
    refine wl_nil ?_
    refine xtn ?_
    refine c_block ?_
    obtain ⟨rest, hrest⟩ : ∃ rest, rest = (bsL (L.x.said.drop 1)).map tk1 := ⟨_, rfl⟩
    replace S := S.toRo (x := lgI b g L)
    have hL0 : 0 < L.x.said.length := by have := hwf.some_; rwa [v_len] at this
    have hL1 : L.x.said.length ≤ 1000000 := by have h1 := hwf.few; have h2 := hwf.fin; have h3 := hwf.n; rw [v_len] at h1; omega
    have hL2 : ∀ y ∈ L.x.said, y.bs.length ≤ 1000000 := fun y hy => by have := hwf.short y.bs (List.mem_map_of_mem hy); omega
    replace S := S.sub [Wk.box b8 4 [.bool (decide ((nx : Int) ≤ 8))], Wk.box v34 79 (cSg g (seedOf bs) (nx : Nat)), Wk.box v7 31 [.pointer (some ⟨v34, 0, none⟩)], marks [], (lgI b g L).ro] [BoxF ht 77 [.pointer (some ⟨g, 0, none⟩)]]
    refine c_rangeI (κ := Bool × Nat) (κx := Empty) (Ds := []) rest
      (fun i k => [Wk.box b8 4 [.bool k.1], Wk.box v34 79 (cSg g (seedOf bs) (k.2 : Nat)), Wk.box v7 31 [.pointer (some ⟨v34, 0, none⟩)], marks [], (lgI b g L).ro])
      (fun i k => opnS rest (decide ((nx : Int) ≤ 8)) nx = opnS (rest.drop i) k.1 k.2 ∧ k.2 = nx + i)
      (fun k => k.elim) (fun _ k => k.elim) (decide ((nx : Int) ≤ 8), nx) S
      (fun M w1 hM hF hro => by
        obtain ⟨z1, z2, z3⟩ := lgI_stable (b := b) (g := g) (L := L) (hro (lgI b g L).ro (by simp) rfl)
        rw [hrest]
        exact taken_it ht g b L.q L.e L.x hL0 hcap hL1 hL2 w1 M (hF _ (by simp)) z1 z2 z3)
      (fun i k _ it hi => by
        simp only [List.mem_cons, List.not_mem_nil, or_false] at hi
        rcases hi with rfl | rfl | rfl | rfl | rfl
        · exact .inl rfl
        · exact .inl rfl
        · exact .inl rfl
        · exact .inl rfl
        · exact .inr ⟨rfl, by simp⟩) (fun c k => k.elim) ⟨⟨by simp, by simp⟩, rfl⟩ ?_ ?_ ?_ ?_
    · clear S
      rintro L2 D bL M' w1 i x vs ⟨ok, n⟩ w hx ⟨hop, hn⟩ hwd rfl
      have hi := (List.getElem?_eq_some_iff.1 hx).1
      simp only [] at hop hn
      have hdr : rest.drop i = x :: rest.drop (i + 1) := by rw [List.drop_eq_getElem_cons hi, (List.getElem?_eq_some_iff.1 hx).2]
      rw [hdr, opnS] at hop
      have hil : i < 1000000 := by
        rw [hrest, List.length_map, bsL, List.length_map, List.length_drop] at hi; omega
      refine ⟨_, inferInstance, fun a S => ?_⟩
      simp only [] at S
      refine c_region ?_
      refine sq S ?_; clear S; intro a S
      refine wl_nil ?_
      refine xtn ?_
      refine rbegin (D := D) (b := bL) S ?_; clear S; intro a w S
      refine c_block ?_
      refine c_seq ?_
      refine c_region ?_
      iterate 2 (refine sq S ?_; clear S; intro a S)
      iterate 6 (refine gQ S ?_; clear S; intro a S)
      iterate 2 (refine sq S ?_; clear S; intro a S)
      iterate 2 (refine gQ S ?_; clear S; intro a S)
      refine sq S ?_; clear S; intro a S
      refine sw S ?_; clear S; intro a w S
      refine wl_nil ?_
      refine xtn ?_
      refine c_region ?_
      iterate 5 (refine sq S ?_; clear S; intro a S)
      rw [show IntKind.i64.wrap ((n : Int) + 1) = ((n + 1 : Nat) : Int) from by rw [w64 _ (by omega) (by omega)]; rfl] at S
      iterate 2 (refine sq S ?_; clear S; intro a S)
      refine sw S ?_; clear S; intro a w S
      refine wl_nil ?_
      refine xbn ?_
      exact rnext (D := D) (b := bL) (S.sub [lpI L2 D (lpR bL .busy none), Wk.box b8 4 [.bool (ok && decide (x = (n : Int)) && decide (x < 8))], Wk.box v34 79 (cSg g (seedOf bs) ((n + 1 : Nat) : Int)), Wk.box v7 31 [.pointer (some ⟨v34, 0, none⟩)], marks [], (lgI b g L).ro] [BoxF ht 77 [.pointer (some ⟨g, 0, none⟩)]]) fun W hW => ⟨(ok && decide (x = (n : Int)) && decide (x < 8), n + 1), ⟨hop, by show n + 1 = _; omega⟩, hW⟩
    · clear S
      rintro D ⟨ok, n⟩ a w ⟨hop, hn⟩ S
      simp only [List.drop_length, opnS] at hop hn S
      replace S := S.join (Ds := [])
      replace S := S.unRo (x := lgI b g L) hown
      refine xbn ?_
      refine xtn ?_
      iterate 2 (refine c_seq ?_)
      refine c_region ?_
      iterate 2 (refine sq S ?_; clear S; intro a S)
      refine wl_nil ?_
      refine xtn ?_
      have hsg : sgV (opnV s).said = if ok then some (seedOf bs, n) else none := by
        rw [← hLv]
        obtain ⟨r, hr⟩ : ∃ r, L.v.said = bs :: r := by
          cases h : L.v.said with
          | nil => rw [h] at hb0; cases hb0
          | cons b0 r => rw [h] at hb0; cases hb0; exact ⟨r, rfl⟩
        have hre : r.map tk1 = rest := by
          have h1 : bsL (L.x.said.drop 1) = r := by
            have : L.v.said = bsL L.x.said := rfl
            rw [bsL, List.map_drop, ← bsL, ← this, hr]; rfl
          rw [hrest, h1]
        rw [hr, sgV, if_pos h33, hre, ← hnx]
        have hdd : decide (nx ≤ 8) = decide ((nx : Int) ≤ 8) := by
          by_cases h : nx ≤ 8
          · rw [decide_eq_true h, decide_eq_true (by omega)]
          · rw [decide_eq_false h, decide_eq_false (by omega)]
        rw [hdd, hop]
      refine c_cond S (fun h13 => ?_) (fun h13 => ?_)
      · refine c_seq ?_
        refine c_region ?_
        iterate 2 (refine sq S ?_; clear S; intro a S)
        refine wl_nil ?_
        refine xtn ?_
        refine c_ret ?_
        refine xtr ?_
        have hok : ok = false := by simpa using h13
        rw [hok] at hsg
        have hs : L.s = (openF s).1 := congrArg LV.s hLv
        subst hLm
        refine endM2 S (fun w hw => .inl ⟨hsg, rfl, L.p, L.c, ?_⟩)
        have hd := (hw.held (lgI b g L) (by simp)).1
        rw [← hs]
        exact ⟨hd, fun k hk => hown k (.inl hk)⟩
      · refine c_skip ?_
        refine xtn ?_
        refine c_seq ?_
        refine c_region ?_
        iterate 3 (refine sq S ?_; clear S; intro a S)
        refine wl_nil ?_
        refine xtn ?_
        refine c_ret ?_
        have hok : ok = true := by simpa using h13
        rw [hok] at hsg
        subst hLm
        replace S := S.sub [Wk.box v34 79 (cSg g (seedOf bs) (n : Nat)), marks ([D] ++ []), lgI b g L] []
        replace S := S.front (lgI b g L)
        replace S := S.front (Wk.box v34 79 (cSg g (seedOf bs) (n : Nat)))
        replace S := S.toBoth
        refine endM2 S (fun w hw => .inr ⟨v34, g, L, seedOf bs, n, hsg, rfl, rfl, hLv, ?_⟩)
        exact ⟨hw.held (sgI v34 b g (seedOf bs) (n : Nat) L) (by simp), hw.own (sgI v34 b g (seedOf bs) (n : Nat) L) (by simp) rfl⟩
    · intro D k; exact k.elim
    · intro id D k; exact k.elim
theorem sopen_c (b m : Nat) (p : Option Addr) (c : Nat) (s : DS) (hl : s.loose.length ≤ 980000) (w0 : World) (hd : (dkI b m p c s).holds w0) :
    Ret Tryz.prog 16 [.pointer (some ⟨b, 0, none⟩)] w0 (dkI b m p c s).foot fun v w' =>
      ((openF s).2.1 ≠ 0 ∧ v = .tuple ⟨[.pointer none, .int .i64 (openF s).2.1]⟩ ∧ ∃ p' c', (dkI b m p' c' (openF s).1).holds w' ∧ ∀ k, (dkI b m p' c' (openF s).1).foot k → (dkI b m p c s).foot k ∨ w0.heap.size ≤ k) ∨
      ((openF s).2.1 = 0 ∧ sgV (opnV s).said = none ∧ v = .tuple ⟨[.pointer none, .int .i64 200]⟩ ∧ ∃ p' c', (dkI b m p' c' (openF s).1).holds w' ∧ ∀ k, (dkI b m p' c' (openF s).1).foot k → (dkI b m p c s).foot k ∨ w0.heap.size ≤ k) ∨
      ((openF s).2.1 = 0 ∧ ∃ h g L seed next, sgV (opnV s).said = some (seed, next) ∧ v = .tuple ⟨[.pointer (some ⟨h, 0, none⟩), .int .i64 0]⟩ ∧ L.m = m ∧ L.v = opnV s ∧ (sgI h b g seed (next : Nat) L).holds w' ∧ ∀ k, (sgI h b g seed (next : Nat) L).foot k → (dkI b m p c s).foot k ∨ w0.heap.size ≤ k) := by
  by_cases h0 : (openF s).2.1 = 0
  · refine (sopen_ok b m p c s hl h0 w0 hd).mono fun v w' => ?_
    rintro (⟨h1, h2, h3⟩ | h)
    · exact .inr (.inl ⟨h0, h1, h2, h3⟩)
    · exact .inr (.inr ⟨h0, h⟩)
  · refine (sopen_bad b m p c s hl h0 w0 hd).mono fun v w' => ?_
    rintro ⟨h2, h3⟩
    exact .inl ⟨h0, h2, h3⟩
end Go.Proofs.YtlphkccfcodmcaaGreat

/- Package signer: a leaf is taken. -/
namespace Go.Proofs.YtlphkccfcodmcaaGreat
open Go Go.Wk
set_option synthInstance.maxSize 100000
set_option synthInstance.maxHeartbeats 400000
set_option maxRecDepth 100000

section
variable {P : Program} {w0 : World} {M0 : Nat → Prop} {a : Act} {w : World} {l : List Value} {bs bs' : List Wk.Item} {fs : List (World → Prop)} {e : Exit} {fn : Func} {R : Value → World → Prop}
/-- the end of a function with two results, where one closure was deferred that may write what one item holds. -/
theorem endDef2 {g : Nat} {ca : List Value} (x y : Wk.Item) [hri : ReplI bs x y bs'] [oy : ItOk y] [he : EntF P g] {r1 r2 : ResultVar} {v1 v2 : Value} [hr : FnRes fn [r1, r2]] [h1 : ResV P l bs' r1 v1] [h2 : ResV P l bs' r2 v2]
    (S : St w0 M0 [{ target := .fn (.func g) ⟨ca⟩, args := #[] }] a w l bs fs) (hxo : x.own = true)
    (hc : CallsDIn (FW none) 0 P g ca.toArray .returning w fun e u' w' => u' = .returning ∧ ∃ v, e = .returned v ∧ Agree x.foot w w' ∧ y.holds w')
    (hf : ∀ k, y.foot k → x.foot k) (h : ∀ w', Wd w0 M0 w' bs' fs → R (.tuple ⟨[v1, v2]⟩) w') (hx : e = .ret ∨ e = .normal := by simp) :
    bodyPostDIn (FW none) 0 P fn (fun e w' => ∃ v, e = .returned v ∧ Agree M0 w0 w' ∧ R v w') e a w := by
  have key : LeavesIn (FW none) 0 P fn a.tmps (fun e w' => ∃ v, e = .returned v ∧ Agree M0 w0 w' ∧ R v w') a.defers .returning w := by
    rw [S.defers]
    refine leavesIn_cons (f := g) (args := ca.toArray) (by simp) (fun h => by cases h) ?_ (fun _ _ => trivial) (hc.mono ?_)
    · have := he.run ca.toArray w
      simpa [invoke] using this
    · rintro e u' w' ⟨rfl, v, rfl, hag, hy⟩
      have hwd : Wd w0 M0 w' bs' fs := by
        obtain ⟨pre, post, q1, q2⟩ := hri.ex
        have hwd := S.wd
        rw [q1] at hwd
        rw [q2]
        exact hwd.swap hxo hag hy (fun k hk => .inl (hf k hk)) (oy.lt w' hy) oy.loc
      refine ⟨.tuple ⟨[v1, v2]⟩, ?_, _, rfl, hwd.agree, h w' hwd⟩
      rw [S.slots, results_eq (rs := [r1, r2])]
      simp [run_res (P := P) (l := l) (bs := bs') (rv := r1) (v := v1) w' hwd.held, run_res (P := P) (l := l) (bs := bs') (rv := r2) (v := v2) w' hwd.held]
  rcases hx with rfl | rfl <;> exact key
end
theorem takes_d (h g r s1 : Nat) (seed : Dg) (next : Nat) (hn : next < 1000) (v : Int) (u : FrameMode) (w0 : World) (hb : (Wk.box h 79 (cSg g seed (next : Nat))).holds w0) (hr : Stable (fun k => k = h) w0 (BoxF r 28 [.int .i64 v])) (hs : Stable (fun k => k = h) w0 (BoxF s1 31 [.pointer (some ⟨h, 0, none⟩)])) :
    CallsDIn (FW none) 0 Tryz.prog 69 [.pointer (some ⟨r, 0, none⟩), .pointer (some ⟨s1, 0, none⟩)].toArray u w0 fun e' u' w' => u' = u ∧ ∃ v', e' = .returned v' ∧ Agree (fun k => k = h) w0 w' ∧ (Wk.box h 79 (cSg g seed ((if v = 0 then next + 1 else next : Nat) : Int))).holds w' := by
  refine enterDI Tryz.func69 rfl rfl (Wd.itLent (x := Wk.box h 79 (cSg g seed (next : Nat))) (fs := [BoxF r 28 [.int .i64 v], BoxF s1 31 [.pointer (some ⟨h, 0, none⟩)]]) hb (by simp only [List.mem_cons, List.not_mem_nil, or_false]; rintro Φ (rfl | rfl); exact hr; exact hs)) (fun a S => ?_)
  simp only [Tryz.ntmps69, List.length_cons, List.length_nil, Nat.reduceAdd, Nat.reduceSub, List.replicate_succ, List.replicate_zero, List.cons_append, List.nil_append] at S
  refine c_seq ?_
  refine c_region ?_
  iterate 2 (refine sq S ?_; clear S; intro a S)
  refine wl_nil ?_
  refine xtn ?_
  refine c_cond S (fun h0 => ?_) (fun h0 => ?_)
  · refine c_region ?_
    iterate 5 (refine sq S ?_; clear S; intro a S)
    rw [show IntKind.i64.wrap ((next : Int) + 1) = ((next + 1 : Nat) : Int) from by rw [w64 _ (by omega) (by omega)]; rfl] at S
    iterate 2 (refine sq S ?_; clear S; intro a S)
    refine sw S ?_; clear S; intro a w S
    refine wl_nil ?_
    have hv0 : v = 0 := by simpa using h0
    have hh := S.box h
    refine end0 (R := fun _ w' => (Wk.box h 79 (cSg g seed ((if v = 0 then next + 1 else next : Nat) : Int))).holds w') S (fun _ => ?_)
    rw [if_pos hv0]
    exact hh
  · refine c_skip ?_
    have hv0 : v ≠ 0 := by simpa using h0
    have hh := S.box h
    refine end0 (R := fun _ w' => (Wk.box h 79 (cSg g seed ((if v = 0 then next + 1 else next : Nat) : Int))).holds w') S (fun _ => ?_)
    rw [if_neg hv0]
    exact hh
def takV (V : LV) (seed : Dg) (n : Nat) : LV × Int := if secN 1 ≤ V.n - V.fin then appV V [Wk.u8 (n : Int)] else chkV V (laidD seed ((n + 1 : Nat) : Int))
theorem take_c (h b g : Nat) (seed : Dg) (next : Nat) (hn : next < 8) (L : LG) (k : Nat) (hwf : L.v.Wf k) (hk : k ≤ 970000) (w0 : World) (hd : (sgI h b g seed (next : Nat) L).holds w0) :
    Ret Tryz.prog 31 [.pointer (some ⟨h, 0, none⟩)] w0 (sgI h b g seed (next : Nat) L).foot fun v w' => ∃ L', v = .tuple ⟨[.int .i64 (next : Nat), .int .i64 (takV L.v seed next).2]⟩ ∧ (sgI h b g seed ((if (takV L.v seed next).2 = 0 then next + 1 else next : Nat) : Int) L').holds w' ∧
      (∀ k, (sgI h b g seed ((if (takV L.v seed next).2 = 0 then next + 1 else next : Nat) : Int) L').foot k → (sgI h b g seed (next : Nat) L).foot k ∨ w0.heap.size ≤ k) ∧ L'.m = L.m ∧ L'.v = (takV L.v seed next).1 := by
  refine enterD Tryz.func31 rfl rfl (Wd.it2Lent (x := Wk.box h 79 (cSg g seed (next : Nat))) (y := lgI b g L) (fs := []) hd rfl rfl (by simp)) (fun a S => ?_)
  simp only [Tryz.ntmps31, List.length_cons, List.length_nil, Nat.reduceAdd, Nat.reduceSub, List.replicate_succ, List.replicate_zero, List.cons_append, List.nil_append] at S
  have hn1 := hwf.n
  have hn2 := hwf.fin
  refine c_seq ?_
  refine c_region ?_
  refine sa S ?_; clear S; intro b1 a w S
  refine sq S ?_; clear S; intro a S
  refine sa S ?_; clear S; intro b3 a w S
  refine wl_nil ?_
  refine xtn ?_
  refine c_seq ?_
  refine c_region ?_
  refine sq S ?_; clear S; intro a S
  refine sdef S ?_; clear S; intro a S
  refine wl_nil ?_
  refine xtn ?_
  refine c_seq ?_
  refine c_region ?_
  iterate 5 (refine sq S ?_; clear S; intro a S)
  refine wl_nil ?_
  refine xtn ?_
  iterate 2 (refine c_seq ?_)
  refine c_drawD [(1, true), (2, true), (3, true), (4, true), (5, true), (0, false), (6, false), (7, true)] [] S ?_; clear S; intro w S
  iterate 5 (refine dq S ?_; clear S; intro a S)
  refine dl ?_
  refine sr S (sectors_c (1 : Int) _) ?_; clear S; rintro _ a w rfl S
  rw [show secF 1 = (secN 1 : Int) from secF_nat 1 (by decide)] at S
  refine de S ?_
  refine dl ?_
  refine sr S (left_v b g L k hwf _ (S.it (lgI b g L))) ?_; clear S; rintro _ a w rfl S
  refine de S ?_
  refine dq S ?_; clear S; intro a S
  refine dn ?_
  refine xtn ?_
  refine c_cond S (fun h3 => ?_) (fun h3 => ?_)
  · refine c_seq ?_
    have hdec : secN 1 ≤ L.v.n - L.v.fin := by have := of_decide_eq_true h3; omega
    have htk : takV L.v seed next = appV L.v [Wk.u8 (next : Int)] := by rw [takV, if_pos hdec]
    refine c_region ?_
    iterate 8 (refine sq S ?_; clear S; intro a S)
    refine sn S ?_; clear S; intro b25 a w S
    rw [show IntKind.u8.wrap (next : Int) = (((Wk.u8 (next : Int)).toNat : Nat) : Int) from (u8_wrap _)] at S
    rw [show [Value.int .u8 (((Wk.u8 (next : Int)).toNat : Nat) : Int)] = encL [Wk.u8 (next : Int)] from rfl] at S
    replace S := S.boxRow b25 1 1 rfl (by decide)
    replace S := S.rowToGl (some ⟨b25, 0, none⟩) [Wk.u8 (next : Int)] (e := 5) (sz := 1) (n := 1) (c := 1) (fun _ _ _ _ => trivial)
    refine sit (lgI b g L) S (append_v b g L k ⟨some ⟨b25, 0, none⟩, 1, [Wk.u8 (next : Int)]⟩ hwf (by omega) (by simp) _ (S.it (lgI b g L)) (S.lend (lgI b g L) (S.mem.fact (GlF (some ⟨b25, 0, none⟩) [Wk.u8 (next : Int)])))) rfl ?_; clear S; rintro _ a w ⟨L2, rfl, hh2, hf2, hm2, hv2⟩ hS
    have S := hS (lgI b g L2) hh2 hf2
    clear hS
    rw [← htk] at S hv2
    refine sq S ?_; clear S; intro a S
    refine sw S ?_; clear S; intro a w S
    refine wl_nil ?_
    refine xtn ?_
    refine c_ret ?_
    refine xtr ?_
    obtain ⟨R, hR⟩ : ∃ R, R = takV L.v seed next := ⟨_, rfl⟩
    have hne3 : ¬ b3 = h := St.apart2 S (Wk.box b3 28 [.int .i64 (takV L.v seed next).2]) (Wk.box h 79 (cSg g seed (next : Nat))) b3 rfl
    have hne1 : ¬ b1 = h := St.apart2 S (Wk.box b1 31 [.pointer (some ⟨h, 0, none⟩)]) (Wk.box h 79 (cSg g seed (next : Nat))) b1 rfl
    refine endDef2 (Wk.box h 79 (cSg g seed (next : Nat))) (Wk.box h 79 (cSg g seed ((if (takV L.v seed next).2 = 0 then next + 1 else next : Nat) : Int))) S rfl ((takes_d h g b3 b1 seed next (by omega) (takV L.v seed next).2 .returning w (S.box h) (BoxF.stable (S.boxF b3) hne3) (BoxF.stable (S.boxF b1) hne1)).mono fun _ _ _ h => h) (fun _ h => h) (fun w' hwd => ?_)
    have S2 := (St.ofWd hwd).sub [Wk.box h 79 (cSg g seed ((if (takV L.v seed next).2 = 0 then next + 1 else next : Nat) : Int)), lgI b g L2] []
    replace S2 := S2.toBoth
    exact ⟨L2, rfl, S2.it (sgI h b g seed ((if (takV L.v seed next).2 = 0 then next + 1 else next : Nat) : Int) L2), S2.itNew (sgI h b g seed ((if (takV L.v seed next).2 = 0 then next + 1 else next : Nat) : Int) L2) rfl, hm2, hv2⟩
  · refine c_skip ?_
    refine xtn ?_
    refine c_seq ?_
    have hdec : ¬ secN 1 ≤ L.v.n - L.v.fin := by have := of_decide_eq_false h3; omega
    have htk : takV L.v seed next = chkV L.v (laidD seed ((next + 1 : Nat) : Int)) := by rw [takV, if_neg hdec]
    refine c_drawL 15 [(0, true), (1, true), (2, true), (3, true), (4, true), (5, true), (6, true), (7, true), (8, true), (9, true), (10, true), (11, true), (12, false), (13, false), (14, true), (15, false)] [Wk.box b1 31 [.pointer (some ⟨h, 0, none⟩)], Wk.box h 79 (cSg g seed (next : Nat))] S ?_; clear S; intro w S
    iterate 12 (refine dqL S ?_; clear S; intro a S)
    refine dlL ?_
    rw [show IntKind.i64.wrap ((next : Int) + 1) = ((next + 1 : Nat) : Int) from by rw [w64 _ (by omega) (by omega)]; rfl] at S
    refine srn S (laid_c seed ((next + 1 : Nat) : Int) _) ?_; clear S; rintro _ a w ⟨g2, c2, rfl, hown, hnew⟩ hS -
    have S := hS hown (fun ad h => by cases h; exact hnew)
    clear hS
    replace S := S.rowToGl (some ⟨g2, 0, none⟩) (laidD seed ((next + 1 : Nat) : Int)) (e := 5) (sz := 1) (n := 33) (c := c2) (fun _ _ _ _ => trivial)
    have hdl := laidD_len seed ((next + 1 : Nat) : Int)
    refine deL S ?_
    refine dlL ?_
    have hr := chk_v b g L k ⟨some ⟨g2, 0, none⟩, c2, laidD seed ((next + 1 : Nat) : Int)⟩ hwf (by omega) (by show (laidD seed ((next + 1 : Nat) : Int)).length ≤ _; omega) w (S.it (lgI b g L)) (S.lend (lgI b g L) (S.mem.fact (GlF (some ⟨g2, 0, none⟩) (laidD seed ((next + 1 : Nat) : Int)))))
    rw [show (LBy.bs ⟨some ⟨g2, 0, none⟩, c2, laidD seed ((next + 1 : Nat) : Int)⟩).length = 33 from hdl] at hr
    refine sit (lgI b g L) S hr rfl ?_; clear S; rintro _ a w ⟨L2, rfl, hh2, hf2, hm2, hv2⟩ hS
    have S := hS (lgI b g L2) hh2 hf2
    clear hS
    rw [show chkV L.v (LBy.bs ⟨some ⟨g2, 0, none⟩, c2, laidD seed ((next + 1 : Nat) : Int)⟩) = takV L.v seed next from htk.symm] at S hv2
    refine deL S ?_
    refine dqL S ?_; clear S; intro a S
    refine dlL ?_
    refine sw S ?_; clear S; intro a w S
    refine dzL ?_
    refine xtn ?_
    refine c_ret ?_
    obtain ⟨R, hR⟩ : ∃ R, R = takV L.v seed next := ⟨_, rfl⟩
    have hne3 : ¬ b3 = h := St.apart2 S (Wk.box b3 28 [.int .i64 (takV L.v seed next).2]) (Wk.box h 79 (cSg g seed (next : Nat))) b3 rfl
    have hne1 : ¬ b1 = h := St.apart2 S (Wk.box b1 31 [.pointer (some ⟨h, 0, none⟩)]) (Wk.box h 79 (cSg g seed (next : Nat))) b1 rfl
    refine endDef2 (Wk.box h 79 (cSg g seed (next : Nat))) (Wk.box h 79 (cSg g seed ((if (takV L.v seed next).2 = 0 then next + 1 else next : Nat) : Int))) S rfl ((takes_d h g b3 b1 seed next (by omega) (takV L.v seed next).2 .returning w (S.box h) (BoxF.stable (S.boxF b3) hne3) (BoxF.stable (S.boxF b1) hne1)).mono fun _ _ _ h => h) (fun _ h => h) (fun w' hwd => ?_)
    have S2 := (St.ofWd hwd).sub [Wk.box h 79 (cSg g seed ((if (takV L.v seed next).2 = 0 then next + 1 else next : Nat) : Int)), lgI b g L2] []
    replace S2 := S2.toBoth
    exact ⟨L2, rfl, S2.it (sgI h b g seed ((if (takV L.v seed next).2 = 0 then next + 1 else next : Nat) : Int) L2), S2.itNew (sgI h b g seed ((if (takV L.v seed next).2 = 0 then next + 1 else next : Nat) : Int) L2) rfl, hm2, hv2⟩
end Go.Proofs.YtlphkccfcodmcaaGreat

/- Package signer: Sign. -/
namespace Go.Proofs.YtlphkccfcodmcaaGreat
open Go Go.Wk
set_option synthInstance.maxSize 100000
set_option synthInstance.maxHeartbeats 400000
set_option maxRecDepth 100000

def sgE (V : LV) (seed : Dg) (next : Nat) : Int := if V.broken then 8 else if next = 8 then 201 else (takV V seed next).2
def sgL (V : LV) (seed : Dg) (next : Nat) : LV := if V.broken then V else if next = 8 then V else (takV V seed next).1
def sgN (V : LV) (seed : Dg) (next : Nat) : Nat := if sgE V seed next = 0 then next + 1 else next
def vNoSig : Value := .agg ⟨[.int .i64 0, .slice none 0 0, .slice none 0 0]⟩
/-- what Sign tells. -/
def SgR (V : LV) (seed m : Dg) (next : Nat) (M : Nat → Prop) (v : Value) (w' : World) : Prop :=
  (sgE V seed next ≠ 0 ∧ v = .tuple ⟨[vNoSig, .int .i64 (sgE V seed next)]⟩) ∨
  (sgE V seed next = 0 ∧ next < 8 ∧ ∃ pc cc pp cp, v = .tuple ⟨[vSig next pc cc pp cp, .int .i64 0]⟩ ∧ Stable M w' (GlF pc (signD (seedD seed next) m)) ∧ Stable M w' (GlF pp (pathD seed next)))
theorem ssign_c (h b g : Nat) (seed m : Dg) (next : Nat) (hn : next ≤ 8) (L : LG) (k : Nat) (hwf : L.v.Wf k) (hk : k ≤ 970000) (Mr : Nat → Prop) (w0 : World) (hMr : ∀ k, Mr k → k < w0.heap.size ∧ ¬ (sgI h b g seed (next : Nat) L).foot k) (hd : (sgI h b g seed (next : Nat) L).holds w0) :
    Ret Tryz.prog 11 [.pointer (some ⟨h, 0, none⟩), vDg m] w0 (sgI h b g seed (next : Nat) L).foot fun v w' => ∃ L', (sgI h b g seed ((sgN L.v seed next : Nat) : Int) L').holds w' ∧
      (∀ k, (sgI h b g seed ((sgN L.v seed next : Nat) : Int) L').foot k → (sgI h b g seed (next : Nat) L).foot k ∨ w0.heap.size ≤ k) ∧ L'.m = L.m ∧ L'.v = sgL L.v seed next ∧ SgR L.v seed m next (fun k => (sgI h b g seed ((sgN L.v seed next : Nat) : Int) L').foot k ∨ Mr k) v w' := by
  refine enter Tryz.func11 rfl rfl (Wd.it2LentM (x := Wk.box h 79 (cSg g seed (next : Nat))) (y := lgI b g L) (Mr := Mr) (fs := []) hd rfl rfl hMr (by simp)) (fun a S => ?_)
  simp only [Tryz.ntmps11, List.length_cons, List.length_nil, Nat.reduceAdd, Nat.reduceSub, List.replicate_succ, List.replicate_zero, List.cons_append, List.nil_append] at S
  refine c_seq ?_
  refine c_region ?_
  refine sa S ?_; clear S; intro b3 a w S
  refine sa S ?_; clear S; intro b4 a w S
  refine sq S ?_; clear S; intro a S
  refine wl_nil ?_
  refine xtn ?_
  refine c_seq ?_
  refine c_block ?_
  refine c_seq ?_
  refine c_region ?_
  iterate 3 (refine sq S ?_; clear S; intro a S)
  refine wl_nil ?_
  refine xtn ?_
  refine c_condF S ?_
  refine c_seq ?_
  refine c_region ?_
  iterate 5 (refine sq S ?_; clear S; intro a S)
  refine sr S (broken_v b g L _ (S.it (lgI b g L))) ?_; clear S; rintro _ a w rfl S
  refine sq S ?_; clear S; intro a S
  refine wl_nil ?_
  refine xtn ?_
  refine c_cond S (fun h3 => ?_) (fun h3 => ?_)
  · refine c_seq ?_
    refine c_region ?_
    refine sq S ?_; clear S; intro a S
    refine sw S ?_; clear S; intro a w S
    refine sq S ?_; clear S; intro a S
    refine wl_nil ?_
    refine xtn ?_
    refine c_ret ?_
    refine xbr ?_
    refine xtr ?_
    have hE : sgE L.v seed next = 8 := by rw [sgE, if_pos h3]
    have hN : sgN L.v seed next = next := by rw [sgN, hE]; rfl
    replace S := S.sub [Wk.box b4 41 [.int .i64 0, .slice none 0 0, .slice none 0 0], Wk.box h 79 (cSg g seed (next : Nat)), lgI b g L, ext Mr] []
    replace S := S.front (lgI b g L)
    replace S := S.front (Wk.box h 79 (cSg g seed (next : Nat)))
    replace S := S.toBoth
    have h1 := S.it (sgI h b g seed (next : Nat) L)
    have h2 := S.itNew (sgI h b g seed (next : Nat) L) rfl
    refine end2 S (fun _ => ?_)
    rw [hN]
    exact ⟨L, h1, h2, rfl, by rw [sgL, if_pos h3], .inl ⟨by rw [hE]; decide, by rw [hE]; rfl⟩⟩
  · refine c_seq ?_
    refine c_region ?_
    iterate 6 (refine sq S ?_; clear S; intro a S)
    refine wl_nil ?_
    refine xtn ?_
    refine c_cond S (fun h5 => ?_) (fun h5 => ?_)
    · refine c_seq ?_
      refine c_region ?_
      refine sq S ?_; clear S; intro a S
      refine sw S ?_; clear S; intro a w S
      refine sq S ?_; clear S; intro a S
      refine wl_nil ?_
      refine xtn ?_
      refine c_ret ?_
      refine xbr ?_
      refine xtr ?_
      have hn8 : next = 8 := by have : (next : Int) = 8 := by simpa using h5
                                omega
      have hE : sgE L.v seed next = 201 := by rw [sgE, h3, if_neg Bool.false_ne_true, if_pos hn8]
      have hN : sgN L.v seed next = next := by rw [sgN, hE]; rfl
      replace S := S.sub [Wk.box b4 41 [.int .i64 0, .slice none 0 0, .slice none 0 0], Wk.box h 79 (cSg g seed (next : Nat)), lgI b g L, ext Mr] []
      replace S := S.front (lgI b g L)
      replace S := S.front (Wk.box h 79 (cSg g seed (next : Nat)))
      replace S := S.toBoth
      have h1 := S.it (sgI h b g seed (next : Nat) L)
      have h2 := S.itNew (sgI h b g seed (next : Nat) L) rfl
      refine end2 S (fun _ => ?_)
      rw [hN]
      exact ⟨L, h1, h2, rfl, by rw [sgL, h3, if_neg Bool.false_ne_true, if_pos hn8], .inl ⟨by rw [hE]; decide, by rw [hE]; rfl⟩⟩
    · refine c_skip ?_
      refine xbn ?_
      refine xtn ?_
      refine c_seq ?_
      have hn8 : next ≠ 8 := by
        intro h; rw [h] at h5; simp at h5
      have hE : sgE L.v seed next = (takV L.v seed next).2 := by rw [sgE, h3, if_neg Bool.false_ne_true, if_neg hn8]
      have hL : sgL L.v seed next = (takV L.v seed next).1 := by rw [sgL, h3, if_neg Bool.false_ne_true, if_neg hn8]
      replace S := S.front (lgI b g L)
      replace S := S.front (Wk.box h 79 (cSg g seed (next : Nat)))
      replace S := S.toBoth
      refine c_region ?_
      refine sq S ?_; clear S; intro a S
      refine sit (sgI h b g seed (next : Nat) L) S (take_c h b g seed next (by omega) L k hwf hk _ (S.it (sgI h b g seed (next : Nat) L))) rfl ?_; clear S; rintro _ a w ⟨L2, rfl, hh2, hf2, hm2, hv2⟩ hS
      rw [← hE] at hh2 hf2
      rw [← hL] at hv2
      have S := hS (sgI h b g seed ((if sgE L.v seed next = 0 then next + 1 else next : Nat) : Int) L2) hh2 hf2
      clear hS
      rw [← hE] at S
      iterate 5 (refine sq S ?_; clear S; intro a S)
      refine wl_nil ?_
      refine xtn ?_
      iterate 2 (refine c_seq ?_)
      refine c_region ?_
      iterate 2 (refine sq S ?_; clear S; intro a S)
      refine wl_nil ?_
      refine xtn ?_
      refine c_cond S (fun h8 => ?_) (fun h8 => ?_)
      · refine c_seq ?_
        refine c_region ?_
        iterate 2 (refine sq S ?_; clear S; intro a S)
        refine sw S ?_; clear S; intro a w S
        refine sq S ?_; clear S; intro a S
        refine wl_nil ?_
        refine xtn ?_
        refine c_ret ?_
        refine xtr ?_
        have hE0 : sgE L.v seed next ≠ 0 := by simpa using h8
        have hN : sgN L.v seed next = (if sgE L.v seed next = 0 then next + 1 else next) := rfl
        rw [← hN] at S
        have h1 := S.it (sgI h b g seed ((sgN L.v seed next : Nat) : Int) L2)
        have h2 := S.itNew (sgI h b g seed ((sgN L.v seed next : Nat) : Int) L2) rfl
        exact end2 S (fun _ => ⟨L2, h1, h2, hm2, hv2, .inl ⟨hE0, rfl⟩⟩)
      · refine c_skip ?_
        refine xtn ?_
        refine c_seq ?_
        have hE0 : sgE L.v seed next = 0 := by simpa using h8
        rw [if_pos hE0] at S
        replace S := S.ofBoth
        refine c_drawD [(0, true), (1, true), (2, true), (3, true), (4, true), (5, true), (6, false), (7, true), (8, true), (9, false), (10, true)] [b4] S ?_; clear S; intro w S
        iterate 6 (refine dq S ?_; clear S; intro a S)
        refine dl ?_
        refine sr S (msign_c seed m next (by omega) (foots _) w (foots_lt S)) ?_; clear S; rintro _ a w ⟨pc, cc, pp, cp, rfl, f1, f2⟩ S
        replace S := S.add f1
        replace S := S.add f2
        unfold vSig at S
        refine de S ?_
        iterate 2 (refine dq S ?_; clear S; intro a S)
        refine dl ?_
        refine sw S ?_; clear S; intro a w S
        refine de S ?_
        refine dq S ?_; clear S; intro a S
        refine dn ?_
        refine xtn ?_
        refine c_ret ?_
        have hN : sgN L.v seed next = next + 1 := by rw [sgN, if_pos hE0]
        rw [← hN] at S
        replace S := S.front (lgI b g L2)
        replace S := S.front (Wk.box h 79 (cSg g seed ((sgN L.v seed next : Nat) : Int)))
        replace S := S.toBoth
        have h1 := S.it (sgI h b g seed ((sgN L.v seed next : Nat) : Int) L2)
        have h2 := S.itNew (sgI h b g seed ((sgN L.v seed next : Nat) : Int) L2) rfl
        have g1 := St.lendM S (sgI h b g seed ((sgN L.v seed next : Nat) : Int) L2) Mr (S.mem.fact (GlF pc (signD (seedD seed next) m)))
        have g2 := St.lendM S (sgI h b g seed ((sgN L.v seed next : Nat) : Int) L2) Mr (S.mem.fact (GlF pp (pathD seed next)))
        exact end2 S (fun _ => ⟨L2, h1, h2, hm2, hv2, .inr ⟨hE0, by omega, pc, cc, pp, cp, rfl, g1, g2⟩⟩)
end Go.Proofs.YtlphkccfcodmcaaGreat

/- Signers in plain words: what a signer's log tells stays in order, whatever fails and whenever the power goes. -/
namespace Go.Proofs.YtlphkccfcodmcaaGreat
open Go Go.Wk
set_option maxRecDepth 100000

structure SgOk (V : LV) (n : Nat) (t : Int) (said : List (List UInt8)) : Prop where
  num : V.n = n
  turn : V.turn = t
  says : V.said = said
  fin : V.fin = endF t said
  whole : V.broken = false
  live : LiveF V.s n t said
theorem SgOk.wf {V : LV} {n : Nat} {t : Int} {said : List (List UInt8)} (h : SgOk V n t said) : V.Wf 0 := by
  obtain ⟨s', hs, tail, hL, -⟩ := h.live
  have hlen := hL.len
  have hfew := hL.few
  have hll := laid_len t said 0
  refine ⟨by rw [h.num]; exact hL.hn.2, by rw [h.num, h.fin]; omega, by rw [h.says]; exact hfew.2, by rw [h.says, h.fin]; exact hll, by rw [h.says]; exact hL.short, by rw [h.turn]; exact hL.ht, ?_⟩
  rw [hs.same.loose, hL.loose]; exact Nat.le_refl _
theorem opnS_app : ∀ (xs ys : List Int) (ok : Bool) (n : Nat), opnS (xs ++ ys) ok n = opnS ys (opnS xs ok n).1 (opnS xs ok n).2
  | [], _, _, _ => rfl
  | x :: xs, ys, ok, n => by rw [List.cons_append, opnS, opnS]; exact opnS_app xs ys _ _
theorem opnS_le : ∀ (xs : List Int) (ok : Bool) (n : Nat), (ok = true → n ≤ 8) → (opnS xs ok n).1 = true → (opnS xs ok n).2 ≤ 8
  | [], ok, n, h, h1 => h h1
  | x :: xs, ok, n, h, h1 => by
    rw [opnS] at h1 ⊢
    refine opnS_le xs _ _ (fun h2 => ?_) h1
    simp only [Bool.and_eq_true, decide_eq_true_eq] at h2
    omega
theorem sgV_le {said : List (List UInt8)} {seed : Dg} {n : Nat} (h : sgV said = some (seed, n)) : n ≤ 8 := by
  cases said with
  | nil => cases h
  | cons b rest =>
    rw [sgV] at h
    split at h
    · split at h
      · rename_i h1 h2
        cases h
        exact opnS_le _ _ _ (fun h => by simpa using h) h2
      · cases h
    · cases h
theorem u8_small {n : Nat} (hn : n ≤ 8) : (Wk.u8 (n : Int)).toNat = n := by
  have h : ∀ n : Nat, n < 9 → IntKind.u8.wrap (n : Int) = (n : Int) := by decide +kernel
  have h1 := u8_wrap (n : Int)
  have h2 := h n (by omega)
  omega
theorem sgV_snoc {said : List (List UInt8)} {seed : Dg} {n : Nat} (h : sgV said = some (seed, n)) (hn : n < 8) : sgV (said ++ [[Wk.u8 (n : Int)]]) = some (seed, n + 1) := by
  cases said with
  | nil => cases h
  | cons b rest =>
    rw [sgV] at h
    split at h
    · rename_i hb
      split at h
      · rename_i h2
        have h1 := Prod.mk.inj (Option.some.inj h)
        have hk : tk1 [Wk.u8 (n : Int)] = (n : Int) := by
          have h3 : tk1 [Wk.u8 (n : Int)] = ((Wk.u8 (n : Int)).toNat : Int) := rfl
          rw [h3, u8_small (by omega)]
        rw [List.cons_append, sgV, if_pos hb, List.map_append, opnS_app]
        show (if (opnS [tk1 [Wk.u8 (n : Int)]] _ _).1 = true then _ else _) = _
        rw [h2, h1.2, hk, opnS, opnS]
        simp only [Bool.true_and, decide_true, Bool.and_true]
        rw [if_pos (by simp; omega), h1.1, List.map_cons, List.map_nil, hk, opnS, opnS]
      · cases h
    · cases h
theorem sgV_snap (seed : Dg) {n : Nat} (hn : n ≤ 8) : sgV [laidD seed (n : Int)] = some (seed, n) := by
  have hl := laidD_len seed (n : Int)
  have h32 : nthG (laidD seed (n : Int)) 32 = Wk.u8 (n : Int) := by
    have h1 := nthG_get (xs := laidD seed (n : Int)) (k := 32) (by omega)
    rw [laidD, List.getElem?_append_right (by rw [seed.h]; exact Nat.le_refl _), seed.h] at h1
    exact (Option.some.inj h1).symm
  have hv : (Wk.u8 (n : Int)).toNat = n := u8_small hn
  have hs : seedOf (laidD seed (n : Int)) = seed := by
    rw [seedOf, dif_pos hl]
    obtain ⟨l, h⟩ := seed
    simp only [laidD, Dg.mk.injEq]
    rw [List.take_append_of_le_length (by omega), List.take_of_length_le (by omega)]
  rw [sgV, if_pos hl, hs, h32, hv]
  show (if decide (n ≤ 8) = true then _ else _) = _
  rw [if_pos (by simpa using hn)]
  rfl
/-- a signer's new log. -/
theorem fmt_sg (n : Nat) (hn : 4 ≤ n ∧ n ≤ 1000) (seed : Dg) : (chkV (fmtV n (newD ((2 * n + 2 : Nat) : Int))) (laidD seed 0)).2 = 0 ∧ SgOk (chkV (fmtV n (newD ((2 * n + 2 : Nat) : Int))) (laidD seed 0)).1 n 1 [laidD seed 0] ∧ (chkV (fmtV n (newD ((2 * n + 2 : Nat) : Int))) (laidD seed 0)).1.s.arms.on = false ∧ Live (chkV (fmtV n (newD ((2 * n + 2 : Nat) : Int))) (laidD seed 0)).1.s n 1 [laidD seed 0] := by
  obtain ⟨h1, h2, h3⟩ := format_live n hn
  have hl := laidD_len seed 0
  have hs33 : secN (laidD seed 0).length = 1 := by rw [hl]; rfl
  have hc := chk_live h2 (laidD seed 0) (by omega) (by omega) (by decide)
  have hr : roomC (fmtV n (newD ((2 * n + 2 : Nat) : Int))).x (laidD seed 0) = 0 := by
    have e1 : refF (fmtV n (newD ((2 * n + 2 : Nat) : Int))).x (laidD seed 0) = 0 := by
      rw [refF, if_neg (by omega)]; rfl
    rw [roomC, e1, if_pos rfl, if_neg]
    rw [hs33]
    rintro (h | h)
    · exact absurd (show n < 1 from h) (by omega)
    · exact absurd (show upT 0 = 0 from h) (by decide)
  have hb : begF (fmtV n (newD ((2 * n + 2 : Nat) : Int))).n (upT (fmtV n (newD ((2 * n + 2 : Nat) : Int))).turn) (laidD seed 0) (fmtV n (newD ((2 * n + 2 : Nat) : Int))).s = begF n (0 + 1) (laidD seed 0) (fmtF n (newD ((2 * n + 2 : Nat) : Int))).1 := rfl
  obtain ⟨c1, c2, c3⟩ := hc.resolve_right (fun h => by rw [h3] at h; cases h.1)
  unfold chkV
  rw [if_neg (fun h => h hr), hb, if_pos c1]
  have hlv : Live (begF n (0 + 1) (laidD seed 0) (fmtF n (newD ((2 * n + 2 : Nat) : Int))).1).1 n 1 [laidD seed 0] := c2
  refine ⟨rfl, ⟨rfl, rfl, rfl, ?_, rfl, hlv.liveF (fun h => by rw [c3 h3] at h; cases h)⟩, c3 h3, hlv⟩
  show secN (laidD seed 0).length = _
  rw [endF_sum]; rfl
/-- a signer, whatever has been done with it: no leaf below `last` is told again. -/
def OnceI (V : LV) (seed : Dg) (next : Nat) (last T : Int) : Prop :=
  next ≤ 8 ∧ last < next ∧ -1 ≤ last ∧
  ((∃ n t said, SgOk V n t said ∧ sgV said = some (seed, next) ∧ t ≤ T) ∨
   (V.broken = true ∧ V.Wf 2000 ∧ ∀ keep, ∃ n t said nx, Able (crashD keep V.s) n t said ∧ sgV said = some (seed, nx) ∧ last < nx ∧ t ≤ T))
end Go.Proofs.YtlphkccfcodmcaaGreat

/- The laws of layer 10: does the layer do anything? -/
namespace Go.Proofs.YtlphkccfcodmcaaGreat
open Go Go.Wk
set_option synthInstance.maxSize 100000
set_option synthInstance.maxHeartbeats 400000
set_option maxRecDepth 100000

instance sfRep {n : Nat} {v : Value} : SetFront (encL (List.replicate (n + 1) (0 : UInt8))) [v] (v :: encL (List.replicate n (0 : UInt8))) := ⟨by rw [encL_len, List.length_replicate]; show 1 ≤ (n + 1) * 1; omega, by rw [List.replicate_succ, encL_cons]; rfl⟩
def d1 (x : UInt8) : Dg := ⟨x :: List.replicate 31 0, rfl⟩
/-- nothing is to fail: a leaf is taken down. -/
theorem tak_off {V : LV} {n : Nat} {t : Int} {said : List (List UInt8)} {seed : Dg} {next : Nat} (h : SgOk V n t said) (hl : Live V.s n t said) (ho : V.s.arms.on = false) (hr : endF t said + 1 ≤ n) :
    (takV V seed next).2 = 0 ∧ Live (takV V seed next).1.s n t (said ++ [[Wk.u8 (next : Int)]]) ∧ (takV V seed next).1.s.arms.on = false := by
  obtain ⟨q1, q2, q3, q4, q5, q6⟩ := h
  obtain ⟨s, n', turn, said', fin, broken⟩ := V
  simp only at q1 q2 q3 q4 q5 q6 hl ho
  subst q1 q2 q3 q4 q5
  unfold takV
  have s1 : secN 1 = 1 := rfl
  rw [if_pos (by show secN 1 ≤ n' - endF turn said'; omega)]
  have hroom : roomF (LV.x ⟨s, n', turn, said', endF turn said', false⟩) [Wk.u8 (next : Int)] = 0 := by
    have e1 : refF (LV.x ⟨s, n', turn, said', endF turn said', false⟩) [Wk.u8 (next : Int)] = 0 := rfl
    rw [roomF, if_pos e1, if_neg]
    show ¬ n' - endF turn said' < secN 1
    omega
  obtain ⟨a1, a2, a3⟩ := (append_live hl [Wk.u8 (next : Int)] (by simp) (by show endF turn said' + secN 1 ≤ n'; omega)).resolve_right (fun h => by rw [ho] at h; cases h.1)
  unfold appV
  rw [if_neg (fun h => h hroom), if_pos a1]
  exact ⟨rfl, a2, a3 ho⟩
theorem swakes_c (w0 : World) : Ret Tryz.prog 6 [] w0 (fun _ => False) fun v _ => v = .bool true := by
  obtain ⟨hc, hok, hoff, hlv⟩ := fmt_sg 20 (by omega) (d1 1)
  refine enter Tryz.func6 rfl rfl (Wd.start w0) (fun a S => ?_)
  simp only [Tryz.ntmps6, List.length_nil, Nat.reduceSub, List.replicate_succ, List.replicate_zero, List.nil_append] at S
  refine c_seq ?_
  refine c_region ?_
  refine sq S ?_; clear S; intro a S
  refine wl_nil ?_
  refine xtn ?_
  refine c_seq ?_
  refine c_region ?_
  refine snew S (dnew_dk 42 (by omega) _) ?_; clear S; rintro _ a w - ⟨b, m, rfl, hh, hnw⟩ hS -
  have S := hS (dkI b m none 0 (newD 42)) hh hnw
  clear hS
  iterate 5 (refine sq S ?_; clear S; intro a S)
  refine wl_nil ?_
  refine xtn ?_
  iterate 2 (refine c_seq ?_)
  refine c_region ?_
  iterate 2 (refine sq S ?_; clear S; intro a S)
  refine wl_nil ?_
  refine xtn ?_
  refine c_condF S ?_
  refine c_skip ?_
  refine xtn ?_
  refine c_seq ?_
  refine c_region ?_
  iterate 2 (refine sq S ?_; clear S; intro a S)
  rw [show (Value.agg ⟨.int .u8 1 :: encL (List.replicate 31 (0 : UInt8))⟩) = vDg (d1 1) from rfl] at S
  refine sit (dkI b m none 0 (newD 42)) S (sformat_c b m 20 none 0 (newD 42) (d1 1) _ (by simp [mayF, newD]) (by simp [newD]) (format_live 20 (by omega)).1 hc (S.it (dkI b m none 0 (newD 42)))) rfl ?_; clear S; rintro _ a w ⟨h, g, L, rfl, hh2, hf2, hm2, hv2⟩ hS
  have S := hS (sgI h b g (d1 1) ((0 : Nat) : Int) L) hh2 hf2
  clear hS
  replace hok : SgOk L.v 20 1 [laidD (d1 1) 0] := by rw [hv2]; exact hok
  have hT := tak_off (seed := d1 1) (next := 0) hok (by rw [hv2]; exact hlv) (by rw [hv2]; exact hoff) (by rw [endF_sum, List.map_cons, List.map_nil, laidD_len]; decide)
  iterate 5 (refine sq S ?_; clear S; intro a S)
  refine wl_nil ?_
  refine xtn ?_
  iterate 2 (refine c_seq ?_)
  refine c_region ?_
  iterate 3 (refine sq S ?_; clear S; intro a S)
  iterate 2 (refine gQ S ?_; clear S; intro a S)
  refine sq S ?_; clear S; intro a S
  refine wl_nil ?_
  refine xtn ?_
  refine c_condF S ?_
  refine c_skip ?_
  refine xtn ?_
  refine c_seq ?_
  refine c_region ?_
  iterate 2 (refine sq S ?_; clear S; intro a S)
  rw [show (Value.agg ⟨.int .u8 2 :: encL (List.replicate 31 (0 : UInt8))⟩) = vDg (d1 2) from rfl] at S
  have hsg := sgV_snap (d1 1) (n := 0) (by omega)
  have hE : sgE L.v (d1 1) 0 = 0 := by rw [sgE, hok.whole, if_neg Bool.false_ne_true, if_neg (by omega)]; exact hT.1
  have hL : sgL L.v (d1 1) 0 = (takV L.v (d1 1) 0).1 := by rw [sgL, hok.whole, if_neg Bool.false_ne_true, if_neg (by omega)]
  have hN : sgN L.v (d1 1) 0 = 1 := by rw [sgN, if_pos hE]
  refine sitM (sgI h b g (d1 1) ((0 : Nat) : Int) L) S (ssign_c h b g (d1 1) (d1 2) 0 (by omega) L 0 hok.wf (by omega) (restOf _ (sgI h b g (d1 1) ((0 : Nat) : Int) L)) _ (S.restOk _) (S.it (sgI h b g (d1 1) ((0 : Nat) : Int) L))) rfl ?_; clear S; rintro v a w ⟨L2, hh3, hf3, hm3, hv3, hR⟩ hS
  obtain ⟨-, -, pc, cc, pp, cp, rfl, g1, g2⟩ := hR.resolve_left (fun h => h.1 hE)
  rw [hN] at hh3 hf3 g1 g2
  have S := hS (sgI h b g (d1 1) ((1 : Nat) : Int) L2) [GlF pc (signD (seedD (d1 1) 0) (d1 2)), GlF pp (pathD (d1 1) 0)] hh3 hf3 (by simp only [List.mem_cons, List.not_mem_nil, or_false]; rintro Φ (rfl | rfl); exact g1; exact g2)
  clear hS
  unfold vSig at S
  obtain ⟨-, hlv2, hoff2⟩ := hT
  rw [← hL, ← hv3] at hlv2 hoff2
  iterate 3 (refine sq S ?_; clear S; intro a S)
  refine sa S ?_; clear S; intro b4 a w S
  refine sw S ?_; clear S; intro a w S
  refine sq S ?_; clear S; intro a S
  refine wl_nil ?_
  refine xtn ?_
  iterate 2 (refine c_seq ?_)
  refine c_drawD [(0, true), (1, true), (2, true), (3, true), (4, true), (5, true), (6, true), (7, true), (8, true), (10, true), (11, true), (9, false), (12, false), (13, true), (14, true)] [] S ?_; clear S; intro w S
  iterate 2 (refine dq S ?_; clear S; intro a S)
  rw [show (!decide ((0 : Int) = 0)) = false from rfl] at S
  refine dq S ?_; clear S; intro a S
  iterate 3 (refine dqG S ?_; clear S; intro a S)
  refine dq S ?_; clear S; intro a S
  rw [show (!decide (((0 : Nat) : Int) = 0)) = false from rfl] at S
  refine dq S ?_; clear S; intro a S
  iterate 2 (refine dqG S ?_; clear S; intro a S)
  rw [show (Value.agg ⟨.int .u8 2 :: encL (List.replicate 31 (0 : UInt8))⟩) = vDg (d1 2) from rfl] at S
  refine dqG S ?_; clear S; intro a S
  refine dl ?_
  refine gT' S ?_
  refine sr S (sg_root h b g (d1 1) ((1 : Nat) : Int) L2 _ (S.it (sgI h b g (d1 1) ((1 : Nat) : Int) L2))) ?_; clear S; rintro _ a w rfl S
  refine de S ?_
  refine dl ?_
  refine gT' S ?_
  have hvs := verify_sign (d1 1) (d1 2) (leaf := 0) (by omega)
  refine sr S (verify_c (rootD (d1 1)) (d1 2) 0 (signD (seedD (d1 1) 0) (d1 2)) (pathD (d1 1) 0) pc pp cc cp (by omega) (signD_len _ _) (path_len _ _) _ ((S.mem.fact (GlF pc (signD (seedD (d1 1) 0) (d1 2)))).less fun _ _ h => h.elim) ((S.mem.fact (GlF pp (pathD (d1 1) 0))).less fun _ _ h => h.elim)) ?_; clear S; rintro _ a w rfl S
  rw [decide_eq_true hvs] at S
  refine de S ?_
  refine dqG S ?_; clear S; intro a S
  refine dq S ?_; clear S; intro a S
  refine dn ?_
  refine xtn ?_
  refine c_condF S ?_
  refine c_skip ?_
  refine xtn ?_
  refine c_seq ?_
  replace S := S.front (sgI h b g (d1 1) ((1 : Nat) : Int) L2)
  replace S := S.ofBoth
  replace S := S.front (lgI b g L2)
  replace S := S.ofBoth
  replace hlv2 : Live L2.s 20 1 ([laidD (d1 1) 0] ++ [[Wk.u8 ((0 : Nat) : Int)]]) := hlv2
  replace hoff2 : L2.s.arms.on = false := hoff2
  obtain ⟨o1, o2, o3, o4⟩ := (open_able hlv2.able).resolve_right (fun h => by rw [hoff2] at h; cases h.1)
  have hl0 : L2.s.loose = [] := by obtain ⟨tail, hL, -⟩ := hlv2; exact hL.loose
  have hop : (opnV L2.s).said = [laidD (d1 1) 0] ++ [[Wk.u8 ((0 : Nat) : Int)]] := by rw [opnV]; show (openF L2.s).2.2.said = _; rw [o3]
  have hsv : sgV (opnV L2.s).said = some (d1 1, 1) := by rw [hop]; exact sgV_snoc hsg (by omega)
  refine c_region ?_
  refine sq S ?_; clear S; intro a S
  refine sit (dkI b L2.m L2.p L2.c L2.s) S (sopen_c b L2.m L2.p L2.c L2.s (by rw [hl0]; simp) _ (S.it (dkI b L2.m L2.p L2.c L2.s))) rfl ?_; clear S; rintro _ a w (⟨h, -⟩ | ⟨-, h, -⟩ | ⟨-, h2, g2, L3, seed, next, hs3, rfl, hm3, hv3, hh4, hf4⟩) hS
  · exact absurd o1 h
  · rw [hsv] at h; cases h
  obtain ⟨rfl, rfl⟩ : d1 1 = seed ∧ 1 = next := by rw [hsv] at hs3; cases hs3; exact ⟨rfl, rfl⟩
  have S := hS (sgI h2 b g2 (d1 1) ((1 : Nat) : Int) L3) hh4 hf4
  clear hS
  iterate 5 (refine sq S ?_; clear S; intro a S)
  refine wl_nil ?_
  refine xtn ?_
  refine c_seq ?_
  refine c_region ?_
  iterate 2 (refine sq S ?_; clear S; intro a S)
  rw [show decide ((0 : Int) = 0) = true from rfl] at S
  refine sq S ?_; clear S; intro a S
  refine gT S ?_
  refine sq S ?_; clear S; intro a S
  refine gT S ?_
  iterate 3 (refine sq S ?_; clear S; intro a S)
  refine gT S ?_
  refine sq S ?_; clear S; intro a S
  refine gT S ?_
  refine sr S (sg_next h2 b g2 (d1 1) ((1 : Nat) : Int) L3 _ (S.it (sgI h2 b g2 (d1 1) ((1 : Nat) : Int) L3))) ?_; clear S; rintro _ a w rfl S
  refine gT S ?_
  refine sq S ?_; clear S; intro a S
  rw [show decide (((1 : Nat) : Int) = 1) = true from rfl] at S
  iterate 2 (refine sq S ?_; clear S; intro a S)
  refine gT S ?_
  refine sq S ?_; clear S; intro a S
  refine gT S ?_
  refine sr S (sg_root h2 b g2 (d1 1) ((1 : Nat) : Int) L3 _ (S.it (sgI h2 b g2 (d1 1) ((1 : Nat) : Int) L3))) ?_; clear S; rintro _ a w rfl S
  refine gT S ?_
  refine sq S ?_; clear S; intro a S
  rw [show (Value.agg ⟨.int .u8 1 :: encL (List.replicate 31 (0 : UInt8))⟩) = vDg (d1 1) from rfl] at S
  refine gT S ?_
  refine sr S (mroot_c (d1 1) _) ?_; clear S; rintro _ a w rfl S
  refine gT S ?_
  iterate 3 (refine sq S ?_; clear S; intro a S)
  refine wl_nil ?_
  refine xtn ?_
  refine c_ret ?_
  refine end1 S (fun _ => ?_)
  simp
end Go.Proofs.YtlphkccfcodmcaaGreat

/- The laws of layer 10: what is done; no leaf is told twice. -/
namespace Go.Proofs.YtlphkccfcodmcaaGreat
open Go Go.Wk
set_option synthInstance.maxSize 100000
set_option synthInstance.maxHeartbeats 400000
set_option maxRecDepth 100000

instance nzS7 : NZ 7 := ⟨by decide⟩
instance nzS12 : NZ 12 := ⟨by decide⟩
instance opDgNeq {P : Program} {l : Cx} {bs : List Wk.Item} {fs : List (World → Prop)} {x y : Operand} {t t' ty e : TypeId} {u v : Dg} {z : Value} {by_ : Nat} [Ev l x (.agg ⟨encL u.l⟩)] [Ev l y (.agg ⟨encL v.l⟩)] [ht : Und P t (.array 32 e)] [he : Und P e (.int .u8)] [AggT P e false] [TI P e z 1 by_] [hg : EqG P t] :
    OpQ P (.binOp .neq t x y t') ty l bs fs (.bool (!decide (u.l = v.l))) := ⟨fun ρ w h _ => by
  simp [xop, execOp, h.ev (x := x) (v := .agg ⟨encL u.l⟩), h.ev (x := y) (v := .agg ⟨encL v.l⟩), Sem.run_bind, run_eqGuard_agg w .neq t x y _ _ hg.eq, run_neq_struct, run_eqB w u.l v.l ht.eq he.eq u.h v.h]⟩
/-- what is done. -/
structure LSop where
  kind : Int
  n : Int
  m : Dg
  p : Option Addr
  c : Nat
  keep : List Bool
abbrev cSop (x : LSop) : List Value := .int .i64 x.kind :: .int .i64 x.n :: (encL x.m.l ++ [.slice x.p x.keep.length x.c])
theorem cSop_len (x : LSop) : (cSop x).length = 35 := by
  rw [cSop, List.length_cons, List.length_cons, List.length_append, x.m.len]; rfl
instance encSop : Enc LSop := ⟨35, cSop, cSop_len, fun x u hu => by
  rcases List.mem_cons.1 hu with rfl | hu
  · rfl
  · rcases List.mem_cons.1 hu with rfl | hu
    · rfl
    · rcases List.mem_append.1 hu with h | h
      · exact encL_one _ u h
      · obtain rfl := List.mem_singleton.1 h; rfl⟩
instance laySop : Lay LSop := { encSop with
  dflt := ⟨0, 0, z32, none, 0, []⟩
  inn := fun w x => x.keep.length ≤ x.c ∧ x.c ≤ maxLen ∧ GlF x.p x.keep w
  mono := fun _w _w' _x h hx => ⟨hx.1, hx.2.1, hx.2.2.mono h⟩ }
instance : SzE LSop 35 := ⟨rfl, by decide⟩
instance cofSop {x : LSop} : CellsOf x (.int .i64 x.kind :: .int .i64 x.n :: (encL x.m.l ++ [.slice x.p x.keep.length x.c])) := ⟨rfl⟩
instance lenDgA {d : Dg} {l : List Value} {n : Nat} [h : LenIs l n] : LenIs (encL d.l ++ l) (n + 32) := ⟨by rw [List.length_append, d.len, h.eq]; omega⟩
instance flatDgA {d : Dg} {l : List Value} [h : Flat l] : Flat (encL d.l ++ l) := ⟨fun u hu => by
  rcases List.mem_append.1 hu with h1 | h1
  · exact encL_one _ u h1
  · exact h.all u h1⟩
instance (priority := 1200) segSop {a b c : Value} {d : Dg} : Seg (a :: b :: (encL d.l ++ [c])) 0 35 (a :: b :: (encL d.l ++ [c])) := ⟨by rw [List.length_cons, List.length_cons, List.length_append, d.len]; rfl, fun j _ => by rw [Nat.zero_add]⟩
instance (priority := 1200) sfSop {cs : List Value} {a b c : Value} {d : Dg} [hl : LenIs cs 35] : SetFront cs (a :: b :: (encL d.l ++ [c])) (a :: b :: (encL d.l ++ [c])) := ⟨by
    have h := hl.eq
    rw [List.length_cons, List.length_cons, List.length_append, d.len]; show 35 ≤ _; omega, by
    have h := hl.eq
    have h2 : (a :: b :: (encL d.l ++ [c])).length = 35 := by rw [List.length_cons, List.length_cons, List.length_append, d.len]; rfl
    rw [h2, List.drop_of_length_le (by omega), List.append_nil]⟩
theorem sfew_c (p : Option Addr) (c : Nat) (l : List LSop) (n : Nat) (hc : l.length ≤ c) (w0 : World) : Ret Tryz.prog 10 [.slice p l.length c, .int .i64 (n : Int)] w0 (fun _ => False) fun v _ => v = .slice p (min l.length n) c := by
  have hle : LeC (min l.length n) c := ⟨by omega⟩
  refine enter Tryz.func10 rfl rfl (Wd.start w0) (fun a S => ?_)
  simp only [Tryz.ntmps10, List.length_cons, List.length_nil, Nat.reduceAdd, Nat.reduceSub, List.replicate_succ, List.replicate_zero, List.cons_append, List.nil_append] at S
  refine c_seq ?_
  refine c_region ?_
  refine sq S ?_; clear S; intro a S
  refine wl_nil ?_
  refine xtn ?_
  refine c_seq ?_
  refine c_region ?_
  iterate 7 (refine sq S ?_; clear S; intro a S)
  refine wl_nil ?_
  refine xtn ?_
  refine c_ret ?_
  exact end1 S (fun _ => rfl)
theorem sop_keep {x : LSop} {M : Nat → Prop} {w : World} {pl : Option Addr} {l : List LSop} (hx : x ∈ l) (h : Stable M w (GlF pl l)) : (x.keep.length ≤ x.c ∧ x.c ≤ maxLen) ∧ Stable M w (GlF x.p x.keep) := ⟨⟨(h.now.2 x hx).1, (h.now.2 x hx).2.1⟩, h.imp fun _ h => (h.2 x hx).2.2⟩
abbrev LG.set (L : LG) (s : DS) : LG := { L with s := s }
def sAreaN (area : Int) : Nat := 4 + ((IntKind.u64.wrap area) % 6).toNat
theorem sArea_w (area : Int) : IntKind.i64.wrap (4 + IntKind.i64.wrap ((IntKind.u64.wrap area).tmod 6)) = (sAreaN area : Int) := by
  have h0 : 0 ≤ IntKind.u64.wrap area := by unfold IntKind.wrap; simp only [IntKind.bits, IntKind.signed, Bool.false_and]; simp; omega
  rw [Int.tmod_eq_emod_of_nonneg h0, w64 (IntKind.u64.wrap area % 6) (by omega) (by omega), w64 (4 + IntKind.u64.wrap area % 6) (by omega) (by omega), sAreaN]
  omega
end Go.Proofs.YtlphkccfcodmcaaGreat

/- The document's signer: its bytes; a new one. -/
namespace Go.Proofs.YtlphkccfcodmcaaGreat
open Go Go.Wk
set_option synthInstance.maxSize 100000
set_option synthInstance.maxHeartbeats 400000
set_option maxRecDepth 100000

/-- the document's signer. -/
abbrev mdI (h b g : Nat) (seed : Dg) (next : Int) (L : LG) : Wk.Item := both (Wk.box h 99 (cSg g seed next)) (lgI b g L)
theorem mbytes_c (h g : Nat) (seed : Dg) (next : Int) (w0 : World) (hb : Stable (fun _ => False) w0 (BoxF h 99 (cSg g seed next))) : Ret Tryz.prog 79 [.pointer (some ⟨h, 0, none⟩)] w0 (fun _ => False) fun v w' => ∃ p c, v = .slice p 33 c ∧ w'.ownsRow 0 5 1 (.slice p 33 c) 33 (encL (laidD seed next)) ∧ ∀ ad, p = some ad → w0.heap.size ≤ ad.block := by
  refine enter Tryz.func79 rfl rfl (Wd.begin (fs := [BoxF h 99 (cSg g seed next)]) (by simpa using hb)) (fun a S => ?_)
  simp only [Tryz.ntmps79, List.length_cons, List.length_nil, Nat.reduceAdd, Nat.reduceSub, List.replicate_succ, List.replicate_zero, List.cons_append, List.nil_append] at S
  refine c_seq ?_
  refine c_region ?_
  refine sq S ?_; clear S; intro a S
  refine wl_nil ?_
  refine xtn ?_
  refine c_seq ?_
  refine c_drwe2 (.q 1 (.q 2 (.q 3 (.q 4 (.q 6 (.q 7 (.q 8 (.q 9 (.q 10 (.b2 0 11 (.b2 5 11 (.l 11 (.l 12 (.q 13 (.e)))) (.l 5 (.l 12 (.q 13 (.e))))) (.l 0 (.l 5 (.l 12 (.q 13 (.e))))))))))))))) S (fun (p : Option Addr) (c : Nat) uu => [(2, .slice p 33 c), (0, uu 3), (0, uu 4), (0, uu 5), (0, uu 6), (0, uu 7), (0, uu 8), (0, uu 9), (0, uu 10), (0, uu 11), (0, uu 12), (0, uu 13), (0, uu 14), (0, .slice p 33 c)]) [] (fun (p : Option Addr) (c : Nat) => [Wk.row 5 1 p 33 c (encL (laidD seed next))]) (fun (p : Option Addr) (c : Nat) => [BoxF h 99 (cSg g seed next)]) (fun (p : Option Addr) (c : Nat) => True) ?_ ?_
  · intro w S
    iterate 4 (refine tq S ?_; clear S; intro a S)
    rw [sl32o] at S
    iterate 5 (refine tq S ?_; clear S; intro a S)
    refine tb2 ?_ ?_
    · refine sn S ?_; clear S; intro b3 a w S
      replace S := S.boxRow b3 1 0 rfl (by decide)
      refine te S ?_
      refine tb2 ?_ ?_
      · refine sap S (by simp only [maxLen]; omega) (by omega) ?_; clear S; rintro p5 c5 a w - S
        rw [List.nil_append, Nat.zero_add] at S
        refine te S ?_
        refine tl ?_
        refine sn S ?_; clear S; intro b14 a w S
        rw [show [Value.int .u8 (IntKind.u8.wrap next)] = encL [Wk.u8 next] from by rw [u8_wrap]; rfl] at S
        replace S := S.boxRow b14 1 1 rfl (by decide)
        refine te S ?_
        refine tl ?_
        refine sap S (by simp only [maxLen]; omega) (by omega) ?_; clear S; rintro p6 c6 a w - S
        rw [show encL seed.l ++ encL [Wk.u8 next] = encL (laidD seed next) from by rw [laidD, encL_append]] at S
        refine te S ?_
        refine tq S ?_; clear S; intro a S
        refine tn ?_
        exact ⟨p6, c6, S.uu, trivial, S.sub _ _⟩
      · refine sn S ?_; clear S; intro b14 a w S
        rw [show [Value.int .u8 (IntKind.u8.wrap next)] = encL [Wk.u8 next] from by rw [u8_wrap]; rfl] at S
        replace S := S.boxRow b14 1 1 rfl (by decide)
        refine te S ?_
        refine tl ?_
        refine sap S (by simp only [maxLen]; omega) (by omega) ?_; clear S; rintro p5 c5 a w - S
        rw [List.nil_append, Nat.zero_add] at S
        refine te S ?_
        refine tl ?_
        refine sap S (by simp only [maxLen]; omega) (by omega) ?_; clear S; rintro p6 c6 a w - S
        rw [show encL seed.l ++ encL [Wk.u8 next] = encL (laidD seed next) from by rw [laidD, encL_append]] at S
        refine te S ?_
        refine tq S ?_; clear S; intro a S
        refine tn ?_
        exact ⟨p6, c6, S.uu, trivial, S.sub _ _⟩
    · refine sn S ?_; clear S; intro b14 a w S
      rw [show [Value.int .u8 (IntKind.u8.wrap next)] = encL [Wk.u8 next] from by rw [u8_wrap]; rfl] at S
      replace S := S.boxRow b14 1 1 rfl (by decide)
      refine te S ?_
      refine tl ?_
      refine sn S ?_; clear S; intro b3 a w S
      replace S := S.boxRow b3 1 0 rfl (by decide)
      refine te S ?_
      refine tl ?_
      refine sap S (by simp only [maxLen]; omega) (by omega) ?_; clear S; rintro p5 c5 a w - S
      rw [List.nil_append, Nat.zero_add] at S
      refine te S ?_
      refine tl ?_
      refine sap S (by simp only [maxLen]; omega) (by omega) ?_; clear S; rintro p6 c6 a w - S
      rw [show encL seed.l ++ encL [Wk.u8 next] = encL (laidD seed next) from by rw [laidD, encL_append]] at S
      refine te S ?_
      refine tq S ?_; clear S; intro a S
      refine tn ?_
      exact ⟨p6, c6, S.uu, trivial, S.sub _ _⟩
  clear S; rintro p c uu a w - S
  refine xtn ?_
  refine c_ret ?_
  have hrow := S.row p 33
  have hnew := S.rowNew p 33
  exact end1 S (fun _ => ⟨p, c, rfl, hrow, fun ad hp => (hnew ad hp).elim (fun h => h.elim) id⟩)
theorem mformat_c (b m n : Nat) (p : Option Addr) (c : Nat) (s : DS) (seed : Dg) (w0 : World) (hm : mayF s n = true) (hl : s.loose.length ≤ 900000) (he : (fmtF n s).2 = 0) (hc : (chkV (fmtV n s) (laidD seed 0)).2 = 0) (hd : (dkI b m p c s).holds w0) :
    Ret Tryz.prog 41 [.pointer (some ⟨b, 0, none⟩), .int .i64 (n : Int), vDg seed] w0 (dkI b m p c s).foot fun v w' =>
      ∃ h g L, v = .tuple ⟨[.pointer (some ⟨h, 0, none⟩), .int .i64 0]⟩ ∧ (mdI h b g seed 0 L).holds w' ∧ (∀ k, (mdI h b g seed 0 L).foot k → (dkI b m p c s).foot k ∨ w0.heap.size ≤ k) ∧ L.m = m ∧ L.v = (chkV (fmtV n s) (laidD seed 0)).1 := by
  refine enter Tryz.func41 rfl rfl (Wd.itLent (x := dkI b m p c s) (fs := []) hd (by simp)) (fun a S => ?_)
  simp only [Tryz.ntmps41, List.length_cons, List.length_nil, Nat.reduceAdd, Nat.reduceSub, List.replicate_succ, List.replicate_zero, List.cons_append, List.nil_append] at S
  refine c_seq ?_
  refine c_region ?_
  refine sa S ?_; clear S; intro b5 a w S
  iterate 2 (refine sq S ?_; clear S; intro a S)
  refine wl_nil ?_
  refine xtn ?_
  refine c_seq ?_
  refine c_region ?_
  iterate 2 (refine sq S ?_; clear S; intro a S)
  refine sit (dkI b m p c s) S (format_v b m n p c s hm (by omega) _ (S.it (dkI b m p c s))) rfl ?_; clear S; rintro _ a w (⟨h0, -⟩ | ⟨-, g, L, rfl, hLm, hLv, hh, hf⟩) hS
  · exact absurd he h0
  have S := hS (lgI b g L) hh hf
  clear hS
  iterate 5 (refine sq S ?_; clear S; intro a S)
  refine wl_nil ?_
  refine xtn ?_
  iterate 2 (refine c_seq ?_)
  refine c_region ?_
  iterate 2 (refine sq S ?_; clear S; intro a S)
  refine wl_nil ?_
  refine xtn ?_
  refine c_condF S ?_
  refine c_skip ?_
  refine xtn ?_
  refine c_seq ?_
  refine c_region ?_
  iterate 3 (refine sq S ?_; clear S; intro a S)
  refine sa S ?_; clear S; intro b24 a w S
  refine sq S ?_; clear S; intro a S
  refine wl_nil ?_
  refine xtn ?_
  iterate 2 (refine c_seq ?_)
  refine c_region ?_
  iterate 2 (refine sq S ?_; clear S; intro a S)
  refine srn S (mbytes_c b24 g seed 0 _ (BoxF.stable (S.boxF b24) (fun h => h))) ?_; clear S; rintro _ a w ⟨p2, c2, rfl, hown, hnew⟩ hS -
  have S := hS hown hnew
  clear hS
  replace S := S.rowToGl p2 (laidD seed 0) (e := 5) (sz := 1) (n := 33) (c := c2) (fun _ _ _ _ => trivial)
  have hdl := laidD_len seed 0
  have hwf : L.v.Wf (s.loose.length + 3000) := by rw [hLv]; exact fmtV_wf hm
  have hr := chk_v b g L (s.loose.length + 3000) ⟨p2, c2, laidD seed 0⟩ hwf (by omega) (by show (laidD seed 0).length ≤ _; omega) w (S.it (lgI b g L)) ((Stable.split (lgI b g L) (S.mem.fact (GlF p2 (laidD seed 0)))).less fun _ _ h => .inl h)
  rw [show (LBy.bs ⟨p2, c2, laidD seed 0⟩).length = 33 from hdl, hLv] at hr
  refine sit (lgI b g L) S hr rfl ?_; clear S; rintro _ a w ⟨L2, rfl, hh2, hf2, hm2, hv2⟩ hS
  have S := hS (lgI b g L2) hh2 hf2
  clear hS
  rw [show (chkV (fmtV n s) (LBy.bs ⟨p2, c2, laidD seed 0⟩)).2 = 0 from hc] at S
  refine sq S ?_; clear S; intro a S
  refine wl_nil ?_
  refine xtn ?_
  refine c_seq ?_
  refine c_region ?_
  iterate 2 (refine sq S ?_; clear S; intro a S)
  refine wl_nil ?_
  refine xtn ?_
  refine c_condF S ?_
  refine c_skip ?_
  refine xtn ?_
  refine c_seq ?_
  refine c_region ?_
  iterate 3 (refine sq S ?_; clear S; intro a S)
  refine wl_nil ?_
  refine xtn ?_
  refine c_ret ?_
  replace S := S.sub [Wk.box b24 99 (cSg g seed 0), lgI b g L2] []
  replace S := S.toBoth
  have h1 := S.it (mdI b24 b g seed 0 L2)
  have h2 := S.itNew (mdI b24 b g seed 0 L2) rfl
  exact end2 S (fun _ => ⟨b24, g, L2, rfl, h1, h2, hm2.trans hLm, hv2⟩)
end Go.Proofs.YtlphkccfcodmcaaGreat

/- The document's signer: Sign. -/
namespace Go.Proofs.YtlphkccfcodmcaaGreat
open Go Go.Wk
set_option synthInstance.maxSize 100000
set_option synthInstance.maxHeartbeats 400000
set_option maxRecDepth 100000

theorem msignm_c (h b g : Nat) (seed m : Dg) (next : Nat) (hn : next ≤ 8) (L : LG) (k : Nat) (hwf : L.v.Wf k) (hk : k ≤ 970000) (Mr : Nat → Prop) (w0 : World) (hMr : ∀ k, Mr k → k < w0.heap.size ∧ ¬ (mdI h b g seed (next : Nat) L).foot k) (hd : (mdI h b g seed (next : Nat) L).holds w0) :
    Ret Tryz.prog 43 [.pointer (some ⟨h, 0, none⟩), vDg m] w0 (mdI h b g seed (next : Nat) L).foot fun v w' => ∃ L', (mdI h b g seed ((sgN L.v seed next : Nat) : Int) L').holds w' ∧
      (∀ k, (mdI h b g seed ((sgN L.v seed next : Nat) : Int) L').foot k → (mdI h b g seed (next : Nat) L).foot k ∨ w0.heap.size ≤ k) ∧ L'.m = L.m ∧ L'.v = sgL L.v seed next ∧ SgR L.v seed m next (fun k => (mdI h b g seed ((sgN L.v seed next : Nat) : Int) L').foot k ∨ Mr k) v w' := by
  have hn1 := hwf.n
  have hn2 := hwf.fin
  refine enter Tryz.func43 rfl rfl (Wd.it2LentM (x := Wk.box h 99 (cSg g seed (next : Nat))) (y := lgI b g L) (Mr := Mr) (fs := []) hd rfl rfl hMr (by simp)) (fun a S => ?_)
  simp only [Tryz.ntmps43, List.length_cons, List.length_nil, Nat.reduceAdd, Nat.reduceSub, List.replicate_succ, List.replicate_zero, List.cons_append, List.nil_append] at S
  refine c_seq ?_
  refine c_region ?_
  refine sa S ?_; clear S; intro b3 a w S
  refine sa S ?_; clear S; intro b4 a w S
  refine sq S ?_; clear S; intro a S
  refine wl_nil ?_
  refine xtn ?_
  iterate 2 (refine c_seq ?_)
  refine c_region ?_
  iterate 4 (refine sq S ?_; clear S; intro a S)
  refine sr S (broken_v b g L _ (S.it (lgI b g L))) ?_; clear S; rintro _ a w rfl S
  refine wl_nil ?_
  refine xtn ?_
  refine c_cond S (fun h1 => ?_) (fun h1 => ?_)
  · refine c_seq ?_
    refine c_region ?_
    refine sq S ?_; clear S; intro a S
    refine sw S ?_; clear S; intro a w S
    refine sq S ?_; clear S; intro a S
    refine wl_nil ?_
    refine xtn ?_
    refine c_ret ?_
    refine xtr ?_
    have hE : sgE L.v seed next = 8 := by rw [sgE, if_pos h1]
    have hN : sgN L.v seed next = next := by rw [sgN, hE]; rfl
    replace S := S.sub [Wk.box b4 41 [.int .i64 0, .slice none 0 0, .slice none 0 0], Wk.box h 99 (cSg g seed (next : Nat)), lgI b g L, ext Mr] []
    replace S := S.front (lgI b g L)
    replace S := S.front (Wk.box h 99 (cSg g seed (next : Nat)))
    replace S := S.toBoth
    have g1 := S.it (mdI h b g seed (next : Nat) L)
    have g2 := S.itNew (mdI h b g seed (next : Nat) L) rfl
    refine end2 S (fun _ => ?_)
    rw [hN]
    exact ⟨L, g1, g2, rfl, by rw [sgL, if_pos h1], .inl ⟨by rw [hE]; decide, by rw [hE]; rfl⟩⟩
  · refine c_skip ?_
    refine xtn ?_
    iterate 2 (refine c_seq ?_)
    refine c_region ?_
    iterate 5 (refine sq S ?_; clear S; intro a S)
    refine wl_nil ?_
    refine xtn ?_
    refine c_cond S (fun h3 => ?_) (fun h3 => ?_)
    · refine c_seq ?_
      refine c_region ?_
      refine sq S ?_; clear S; intro a S
      refine sw S ?_; clear S; intro a w S
      refine sq S ?_; clear S; intro a S
      refine wl_nil ?_
      refine xtn ?_
      refine c_ret ?_
      refine xtr ?_
      have hn8 : next = 8 := by have : (next : Int) = 8 := by simpa using h3
                                omega
      have hE : sgE L.v seed next = 201 := by rw [sgE, h1, if_neg Bool.false_ne_true, if_pos hn8]
      have hN : sgN L.v seed next = next := by rw [sgN, hE]; rfl
      replace S := S.sub [Wk.box b4 41 [.int .i64 0, .slice none 0 0, .slice none 0 0], Wk.box h 99 (cSg g seed (next : Nat)), lgI b g L, ext Mr] []
      replace S := S.front (lgI b g L)
      replace S := S.front (Wk.box h 99 (cSg g seed (next : Nat)))
      replace S := S.toBoth
      have g1 := S.it (mdI h b g seed (next : Nat) L)
      have g2 := S.itNew (mdI h b g seed (next : Nat) L) rfl
      refine end2 S (fun _ => ?_)
      rw [hN]
      exact ⟨L, g1, g2, rfl, by rw [sgL, h1, if_neg Bool.false_ne_true, if_pos hn8], .inl ⟨by rw [hE]; decide, by rw [hE]; rfl⟩⟩
    · refine c_skip ?_
      refine xtn ?_
      refine c_seq ?_
      have hn8 : next ≠ 8 := by
        intro h; rw [h] at h3; simp at h3
      have hE : sgE L.v seed next = (takV L.v seed next).2 := by rw [sgE, h1, if_neg Bool.false_ne_true, if_neg hn8]
      have hL : sgL L.v seed next = (takV L.v seed next).1 := by rw [sgL, h1, if_neg Bool.false_ne_true, if_neg hn8]
      refine c_drawD [(0, true), (1, true), (2, true), (3, true), (4, true), (5, true), (6, true), (7, true), (8, true), (9, true), (10, true), (11, true), (12, true), (13, true), (14, false), (15, true)] [] S ?_; clear S; intro w S
      iterate 13 (refine dq S ?_; clear S; intro a S)
      rw [show IntKind.i64.wrap ((next : Int) + 1) = ((next + 1 : Nat) : Int) from by rw [w64 _ (by omega) (by omega)]; rfl] at S
      refine dq S ?_; clear S; intro a S
      refine dl ?_
      refine sa S ?_; clear S; intro b35 a w S
      refine de S ?_
      refine dq S ?_; clear S; intro a S
      refine dn ?_
      refine xtn ?_
      refine c_seq ?_
      refine c_region ?_
      refine sq S ?_; clear S; intro a S
      refine wl_nil ?_
      refine xtn ?_
      refine c_mrge1 S (fun (L2 : LG) uu => [(7, .int .i64 (takV L.v seed next).2), (28, uu 36), (0, uu 37), (0, uu 38), (0, uu 39), (0, uu 40), (0, uu 41), (0, uu 42), (0, uu 43), (0, uu 44), (0, uu 45), (0, uu 46), (0, uu 47), (0, uu 48), (0, uu 49), (0, uu 50), (0, uu 51), (0, uu 52), (0, uu 53), (0, uu 54), (0, uu 55), (0, uu 56), (0, uu 57), (0, uu 58), (0, uu 59), (0, uu 60)]) (fun (L2 : LG) => [lgI b g L2, Wk.box b4 41 [.int .i64 0, .slice none 0 0, .slice none 0 0], Wk.box b3 23 (encL m.l), Wk.box h 99 (cSg g seed (next : Nat)), ext Mr]) (fun (L2 : LG) => []) (fun (L2 : LG) => L2.m = L.m ∧ L2.v = (takV L.v seed next).1) ?_ ?_
      · refine c_seq ?_
        refine c_drawD [(1, true), (2, true), (3, true), (4, true), (0, false), (5, false), (6, true)] [] S ?_; clear S; intro w S
        iterate 4 (refine dq S ?_; clear S; intro a S)
        refine dl ?_
        refine sr S (sectors_c (1 : Int) _) ?_; clear S; rintro _ a w rfl S
        rw [show secF 1 = (secN 1 : Int) from secF_nat 1 (by decide)] at S
        refine de S ?_
        refine dl ?_
        refine sr S (left_v b g L k hwf _ (S.it (lgI b g L))) ?_; clear S; rintro _ a w rfl S
        refine de S ?_
        refine dq S ?_; clear S; intro a S
        refine dn ?_
        refine xtn ?_
        refine c_cond S (fun h7 => ?_) (fun h7 => ?_)
        · refine c_drawE [(0, true), (1, true), (2, true), (3, true), (4, true), (5, true), (6, true), (7, true), (8, true), (9, false), (10, false), (11, true)] [Wk.box h 99 (cSg g seed (next : Nat))] S ?_; clear S; intro w S
          iterate 9 (refine dq S ?_; clear S; intro a S)
          refine dl ?_
          refine sn S ?_; clear S; intro b52 a w S
          rw [show [Value.int .u8 (IntKind.u8.wrap (next : Int))] = encL [Wk.u8 (next : Int)] from by rw [u8_wrap]; rfl] at S
          replace S := S.boxRow b52 1 1 rfl (by decide)
          replace S := S.rowToGl (some ⟨b52, 0, none⟩) [Wk.u8 (next : Int)] (e := 5) (sz := 1) (n := 1) (c := 1) (fun _ _ _ _ => trivial)
          refine de S ?_
          refine dl ?_
          have hdec : secN 1 ≤ L.v.n - L.v.fin := by have := of_decide_eq_true h7; omega
          have htk : takV L.v seed next = appV L.v [Wk.u8 (next : Int)] := by rw [takV, if_pos hdec]
          refine sit (lgI b g L) S (append_v b g L k ⟨some ⟨b52, 0, none⟩, 1, [Wk.u8 (next : Int)]⟩ hwf (by omega) (by simp) _ (S.it (lgI b g L)) (S.lend (lgI b g L) (S.mem.fact (GlF (some ⟨b52, 0, none⟩) [Wk.u8 (next : Int)])))) rfl ?_; clear S; rintro _ a w ⟨L2, rfl, hh2, hf2, hm2, hv2⟩ hS
          have S := hS (lgI b g L2) hh2 hf2
          clear hS
          rw [← htk] at S hv2
          refine de S ?_
          refine dq S ?_; clear S; intro a S
          refine dn ?_
          refine xtn ?_
          exact ⟨L2, S.uu, ⟨hm2, hv2⟩, (S.front (lgI b g L2)).sub _ _⟩
        · refine c_drawE [(0, true), (1, true), (2, true), (3, true), (4, true), (5, false), (6, false), (7, true)] [Wk.box h 99 (cSg g seed (next : Nat))] S ?_; clear S; intro w S
          iterate 5 (refine dq S ?_; clear S; intro a S)
          refine dl ?_
          refine srn S (mbytes_c b35 g seed ((next + 1 : Nat) : Int) _ (BoxF.stable (S.boxF b35) (fun h => h))) ?_; clear S; rintro _ a w ⟨p2, c2, rfl, hown, hnew⟩ hS -
          have S := hS hown hnew
          clear hS
          replace S := S.rowToGl p2 (laidD seed ((next + 1 : Nat) : Int)) (e := 5) (sz := 1) (n := 33) (c := c2) (fun _ _ _ _ => trivial)
          have hdl := laidD_len seed ((next + 1 : Nat) : Int)
          refine de S ?_
          refine dl ?_
          have hdec : ¬ secN 1 ≤ L.v.n - L.v.fin := by have := of_decide_eq_false h7; omega
          have htk : takV L.v seed next = chkV L.v (laidD seed ((next + 1 : Nat) : Int)) := by rw [takV, if_neg hdec]
          have hr := chk_v b g L k ⟨p2, c2, laidD seed ((next + 1 : Nat) : Int)⟩ hwf (by omega) (by show (laidD seed ((next + 1 : Nat) : Int)).length ≤ _; omega) w (S.it (lgI b g L)) (S.lend (lgI b g L) (S.mem.fact (GlF p2 (laidD seed ((next + 1 : Nat) : Int)))))
          rw [show (LBy.bs ⟨p2, c2, laidD seed ((next + 1 : Nat) : Int)⟩).length = 33 from hdl] at hr
          refine sit (lgI b g L) S hr rfl ?_; clear S; rintro _ a w ⟨L2, rfl, hh2, hf2, hm2, hv2⟩ hS
          have S := hS (lgI b g L2) hh2 hf2
          clear hS
          rw [show chkV L.v (LBy.bs ⟨p2, c2, laidD seed ((next + 1 : Nat) : Int)⟩) = takV L.v seed next from htk.symm] at S hv2
          refine de S ?_
          refine dq S ?_; clear S; intro a S
          refine dn ?_
          refine xtn ?_
          exact ⟨L2, S.uu, ⟨hm2, hv2⟩, (S.front (lgI b g L2)).sub _ _⟩
      · clear S; rintro L2 uu a w ⟨hm2, hv2⟩ S
        iterate 2 (refine c_seq ?_)
        refine c_region ?_
        refine sq S ?_; clear S; intro a S
        rw [← hE] at S
        rw [← hL] at hv2
        refine sq S ?_; clear S; intro a S
        refine wl_nil ?_
        refine xtn ?_
        refine c_cond S (fun h10 => ?_) (fun h10 => ?_)
        · refine c_seq ?_
          refine c_region ?_
          iterate 2 (refine sq S ?_; clear S; intro a S)
          refine sw S ?_; clear S; intro a w S
          refine sq S ?_; clear S; intro a S
          refine wl_nil ?_
          refine xtn ?_
          refine c_ret ?_
          refine xtr ?_
          have hE0 : sgE L.v seed next ≠ 0 := by simpa using h10
          have hN : sgN L.v seed next = next := by rw [sgN, if_neg hE0]
          replace S := S.front (lgI b g L2)
          replace S := S.front (Wk.box h 99 (cSg g seed (next : Nat)))
          replace S := S.toBoth
          have g1 := S.it (mdI h b g seed (next : Nat) L2)
          have g2 := S.itNew (mdI h b g seed (next : Nat) L2) rfl
          refine end2 S (fun _ => ?_)
          rw [hN]
          exact ⟨L2, g1, g2, hm2, hv2, .inl ⟨hE0, rfl⟩⟩
        · refine c_skip ?_
          refine xtn ?_
          refine c_seq ?_
          refine c_region ?_
          iterate 5 (refine sq S ?_; clear S; intro a S)
          refine wl_nil ?_
          refine xtn ?_
          refine c_seq ?_
          refine c_region ?_
          iterate 5 (refine sq S ?_; clear S; intro a S)
          rw [show IntKind.i64.wrap ((next : Int) + 1) = ((next + 1 : Nat) : Int) from by rw [w64 _ (by omega) (by omega)]; rfl] at S
          iterate 2 (refine sq S ?_; clear S; intro a S)
          refine sw S ?_; clear S; intro a w S
          refine wl_nil ?_
          refine xtn ?_
          refine c_seq ?_
          refine c_drawD [(0, true), (1, true), (2, true), (3, true), (4, true), (5, true), (6, false), (7, true), (8, true), (9, false), (10, true)] [b4] S ?_; clear S; intro w S
          iterate 6 (refine dq S ?_; clear S; intro a S)
          refine dl ?_
          have hE0 : sgE L.v seed next = 0 := by simpa using h10
          refine sr S (msign_c seed m next (by omega) (foots _) w (foots_lt S)) ?_; clear S; rintro _ a w ⟨pc, cc, pp, cp, rfl, f1, f2⟩ S
          replace S := S.add f1
          replace S := S.add f2
          unfold vSig at S
          refine de S ?_
          iterate 2 (refine dq S ?_; clear S; intro a S)
          refine dl ?_
          refine sw S ?_; clear S; intro a w S
          refine de S ?_
          refine dq S ?_; clear S; intro a S
          refine dn ?_
          refine xtn ?_
          refine c_ret ?_
          have hE0 : sgE L.v seed next = 0 := by simpa using h10
          have hN : sgN L.v seed next = next + 1 := by rw [sgN, if_pos hE0]
          rw [← hN] at S
          replace S := S.front (lgI b g L2)
          replace S := S.front (Wk.box h 99 (cSg g seed ((sgN L.v seed next : Nat) : Int)))
          replace S := S.toBoth
          have g1 := S.it (mdI h b g seed ((sgN L.v seed next : Nat) : Int) L2)
          have g2 := S.itNew (mdI h b g seed ((sgN L.v seed next : Nat) : Int) L2) rfl
          have k1 := St.lendM S (mdI h b g seed ((sgN L.v seed next : Nat) : Int) L2) Mr (S.mem.fact (GlF pc (signD (seedD seed next) m)))
          have k2 := St.lendM S (mdI h b g seed ((sgN L.v seed next : Nat) : Int) L2) Mr (S.mem.fact (GlF pp (pathD seed next)))
          exact end2 S (fun _ => ⟨L2, g1, g2, hm2, hv2, .inr ⟨hE0, by omega, pc, cc, pp, cp, rfl, k1, k2⟩⟩)
end Go.Proofs.YtlphkccfcodmcaaGreat

/- The document's signer: Open. -/
namespace Go.Proofs.YtlphkccfcodmcaaGreat
open Go Go.Wk
set_option synthInstance.maxSize 100000
set_option synthInstance.maxHeartbeats 400000
set_option maxRecDepth 100000

theorem opnS_false : ∀ (xs : List Int) (n : Nat), (opnS xs false n).1 = false
  | [], _ => rfl
  | x :: xs, n => by rw [opnS]; exact opnS_false xs _
theorem mopen_bad (b m : Nat) (p : Option Addr) (c : Nat) (s : DS) (hl : s.loose.length ≤ 980000) (h0 : (openF s).2.1 ≠ 0) (w0 : World) (hd : (dkI b m p c s).holds w0) :
    Ret Tryz.prog 62 [.pointer (some ⟨b, 0, none⟩)] w0 (dkI b m p c s).foot fun v w' =>
      v = .tuple ⟨[.pointer none, .int .i64 (openF s).2.1]⟩ ∧ ∃ p' c', (dkI b m p' c' (openF s).1).holds w' ∧ ∀ k, (dkI b m p' c' (openF s).1).foot k → (dkI b m p c s).foot k ∨ w0.heap.size ≤ k := by
  refine enterM Tryz.func62 rfl rfl (Wd.itLent (x := dkI b m p c s) (fs := []) hd (by simp)) (fun a S => ?_)
  simp only [Tryz.ntmps62, List.length_cons, List.length_nil, Nat.reduceAdd, Nat.reduceSub, List.replicate_succ, List.replicate_zero, List.cons_append, List.nil_append] at S
  refine c_seq ?_
  refine c_region ?_
  refine sa S ?_; clear S; intro b2 a w S
  refine sa S ?_; clear S; intro b3 a w S
  refine wl_nil ?_
  refine xtn ?_
  refine c_seq ?_
  refine c_region ?_
  refine sq S ?_; clear S; intro a S
  refine sit (dkI b m p c s) S (openV_c b m p c s hl _ (S.it (dkI b m p c s))) rfl ?_; clear S; rintro _ a w (⟨-, rfl, p', c', hh, hf⟩ | ⟨h, -⟩) hS
  rotate_left 1
  · exact absurd h h0
  have S := hS (dkI b m p' c' (openF s).1) hh hf
  clear hS
  iterate 5 (refine sq S ?_; clear S; intro a S)
  refine wl_nil ?_
  refine xtn ?_
  iterate 2 (refine c_seq ?_)
  refine c_region ?_
  iterate 2 (refine sq S ?_; clear S; intro a S)
  rw [show (!decide ((openF s).2.1 = 0)) = true from by rw [decide_eq_false h0]; rfl] at S
  refine wl_nil ?_
  refine xtn ?_
  refine c_condT S ?_
  refine c_seq ?_
  refine c_region ?_
  refine sq S ?_; clear S; intro a S
  iterate 2 (refine sw S ?_; clear S; intro a w S)
  refine wl_nil ?_
  refine xtn ?_
  refine c_ret ?_
  refine xtr ?_
  refine endM2 S (fun w hw => ⟨rfl, p', c', ?_⟩)
  exact ⟨hw.held (dkI b m p' c' (openF s).1) (by simp), hw.own (dkI b m p' c' (openF s).1) (by simp) rfl⟩
theorem mopen_ok (b m : Nat) (p : Option Addr) (c : Nat) (s : DS) (hl : s.loose.length ≤ 980000) (h0 : (openF s).2.1 = 0) (w0 : World) (hd : (dkI b m p c s).holds w0) :
    Ret Tryz.prog 62 [.pointer (some ⟨b, 0, none⟩)] w0 (dkI b m p c s).foot fun v w' =>
      (sgV (opnV s).said = none ∧ v = .tuple ⟨[.pointer none, .int .i64 200]⟩ ∧ ∃ p' c', (dkI b m p' c' (openF s).1).holds w' ∧ ∀ k, (dkI b m p' c' (openF s).1).foot k → (dkI b m p c s).foot k ∨ w0.heap.size ≤ k) ∨
      (∃ h g L seed next, sgV (opnV s).said = some (seed, next) ∧ v = .tuple ⟨[.pointer (some ⟨h, 0, none⟩), .int .i64 0]⟩ ∧ L.m = m ∧ L.v = opnV s ∧ (mdI h b g seed (next : Nat) L).holds w' ∧ ∀ k, (mdI h b g seed (next : Nat) L).foot k → (dkI b m p c s).foot k ∨ w0.heap.size ≤ k) := by
  refine enterM Tryz.func62 rfl rfl (Wd.itLent (x := dkI b m p c s) (fs := []) hd (by simp)) (fun a S => ?_)
  simp only [Tryz.ntmps62, List.length_cons, List.length_nil, Nat.reduceAdd, Nat.reduceSub, List.replicate_succ, List.replicate_zero, List.cons_append, List.nil_append] at S
  refine c_seq ?_
  refine c_region ?_
  refine sa S ?_; clear S; intro b2 a w S
  refine sa S ?_; clear S; intro b3 a w S
  refine wl_nil ?_
  refine xtn ?_
  refine c_seq ?_
  refine c_region ?_
  refine sq S ?_; clear S; intro a S
  refine sit (dkI b m p c s) S (openV_c b m p c s hl _ (S.it (dkI b m p c s))) rfl ?_; clear S; rintro _ a w (⟨h, -⟩ | ⟨-, g, L, rfl, hLm, hLv, hh, hf⟩) hS
  · exact absurd h0 h
  have S := hS (lgI b g L) hh hf
  clear hS
  iterate 5 (refine sq S ?_; clear S; intro a S)
  refine wl_nil ?_
  refine xtn ?_
  iterate 2 (refine c_seq ?_)
  refine c_region ?_
  iterate 2 (refine sq S ?_; clear S; intro a S)
  refine wl_nil ?_
  refine xtn ?_
  refine c_condF S ?_
  refine c_skip ?_
  refine xtn ?_
  refine c_seq ?_
  have hwf := opnV_wf h0
  rw [← hLv] at hwf
  have hown := S.itNew (lgI b g L) rfl
  have hcap := lg_cap (S.it (lgI b g L))
  refine c_region ?_
  refine sq S ?_; clear S; intro a S
  refine srn S (snap_v b g L _ hwf _ (S.it (lgI b g L))) ?_; clear S; rintro _ a w ⟨bs, p1, c1, hb0, rfl, hrow, hnew⟩ hS -
  have S := hS hrow hnew
  clear hS
  replace S := S.rowToGl p1 bs (e := 5) (sz := 1) (n := bs.length) (c := c1) (fun _ _ _ _ => trivial)
  obtain ⟨r, hr⟩ : ∃ r, L.v.said = bs :: r := by
    cases h : L.v.said with
    | nil => rw [h] at hb0; cases hb0
    | cons b0 r => rw [h] at hb0; cases hb0; exact ⟨r, rfl⟩
  have hc1 := own_le hrow
  have hC : CLt [!(!decide ((bs.length : Int) = 33))] 32 bs.length := ⟨fun h => by have := h _ (List.mem_cons_self ..); simp at this; omega⟩
  refine sq S ?_; clear S; intro a S
  refine wl_nil ?_
  refine xtn ?_
  iterate 2 (refine c_seq ?_)
  refine c_region ?_
  iterate 4 (refine sq S ?_; clear S; intro a S)
  iterate 4 (refine gQ S ?_; clear S; intro a S)
  refine sq S ?_; clear S; intro a S
  refine wl_nil ?_
  refine xtn ?_
  refine c_cond S (fun h5 => ?_) (fun h5 => ?_)
  · refine c_seq ?_
    refine c_region ?_
    iterate 2 (refine sw S ?_; clear S; intro a w S)
    refine wl_nil ?_
    refine xtn ?_
    refine c_ret ?_
    refine xtr ?_
    have hv : sgV (opnV s).said = none := by
      rw [← hLv, hr, sgV]
      by_cases h33 : bs.length = 33
      · rw [if_pos h33, if_neg]
        have h8 : ¬ (nthG bs 32).toNat ≤ 8 := by
          rw [h33] at h5
          have : (8 : Int) < ((nthG bs 32).toNat : Int) := by simpa using h5
          omega
        rw [decide_eq_false h8, opnS_false]; exact Bool.false_ne_true
      · rw [if_neg h33]
    have hs : L.s = (openF s).1 := congrArg LV.s hLv
    subst hLm
    refine endM2 S (fun w hw => .inl ⟨hv, rfl, L.p, L.c, ?_⟩)
    have hd := (hw.held (lgI b g L) (by simp)).1
    rw [← hs]
    exact ⟨hd, fun k hk => hown k (.inl hk)⟩
  · refine c_skip ?_
    refine xtn ?_
    refine c_seq ?_
    have h33 : bs.length = 33 ∧ (nthG bs 32).toNat ≤ 8 := by
      simp at h5
      omega
    obtain ⟨h33, h8⟩ := h33
    have hK : KLt 32 bs.length := ⟨by omega⟩
    have hKc : LeC 32 c1 := ⟨by omega⟩
    obtain ⟨gq, cur, rfl, -⟩ := own_cells hrow (by omega)
    obtain ⟨ad, had⟩ : ∃ ad : Addr, ad = ⟨gq, 0, none⟩ := ⟨_, rfl⟩
    rw [← had] at S
    replace S := S.add (Φ := DgF ad (seedOf bs)) ((S.mem.fact (GlF (some ad) bs)).imp fun _ h => dgF_of h33 h)
    refine c_drwe2 (.q 0 (.q 1 (.q 2 (.q 3 (.q 4 (.q 5 (.q 6 (.q 7 (.q 8 (.q 9 (.b2 10 11 (.l 11 (.l 12 (.e))) (.l 10 (.l 12 (.e)))))))))))))) S (fun (v7 : Nat) (v39 : Nat) uu => [(7, .pointer (some ⟨v7, 0, none⟩)), (21, uu 29), (0, uu 30), (0, uu 31), (0, uu 32), (0, uu 33), (0, uu 34), (0, uu 35), (0, uu 36), (0, uu 37), (0, uu 38), (0, uu 39)]) [marks [], lgI b g L] (fun (v7 : Nat) (v39 : Nat) => [Wk.box v39 99 (cSg g (seedOf bs) ((nthG bs 32).toNat : Nat)), Wk.box v7 53 [.pointer (some ⟨v39, 0, none⟩)], Wk.box b3 28 [.int .i64 0], Wk.box b2 53 [.pointer none], marks [], lgI b g L]) (fun (v7 : Nat) (v39 : Nat) => [DgF ad (seedOf bs), GlF (some ad) bs]) (fun (v7 : Nat) (v39 : Nat) => True) ?_ ?_
    · intro w S
      iterate 9 (refine tq S ?_; clear S; intro a S)
      rw [show IntKind.i64.wrap ((nthG bs 32).toNat : Int) = ((nthG bs 32).toNat : Int) from by have := (nthG bs 32).toNat_lt; rw [w64 _ (by omega) (by omega)]] at S
      refine tq S ?_; clear S; intro a S
      refine tb2 ?_ ?_
      · refine sa S ?_; clear S; intro b39 a w S
        refine te S ?_
        refine tl ?_
        refine sa S ?_; clear S; intro b7 a w S
        refine te S ?_
        refine tl ?_
        refine sw S ?_; clear S; intro a w S
        refine te S ?_
        refine tn ?_
        exact ⟨b7, b39, S.uu, trivial, by first | exact S | exact S.sub _ _ | exact S.perm _ (.swap _ _ _)⟩
      · refine sa S ?_; clear S; intro b7 a w S
        refine te S ?_
        refine tl ?_
        refine sa S ?_; clear S; intro b39 a w S
        refine te S ?_
        refine tl ?_
        refine sw S ?_; clear S; intro a w S
        refine te S ?_
        refine tn ?_
        exact ⟨b7, b39, S.uu, trivial, by first | exact S | exact S.sub _ _ | exact S.perm _ (.swap _ _ _)⟩
    clear S; rintro v7 v39 uu a w - S
    refine xtn ?_
    iterate 2 (refine c_seq ?_)
    obtain ⟨nx, hnx⟩ : ∃ nx, nx = (nthG bs 32).toNat := ⟨_, rfl⟩
    rw [← hnx] at S h8
    refine c_region ?_
    refine sq S ?_; clear S; intro a S
    have hL0 : 0 < L.x.said.length := by have := hwf.some_; rwa [v_len] at this
    have hL1 : L.x.said.length ≤ 1000000 := by have h1 := hwf.few; have h2 := hwf.fin; have h3 := hwf.n; rw [v_len] at h1; omega
    obtain ⟨came, hcame⟩ : ∃ came, came = L.x.said.drop 1 := ⟨_, rfl⟩
    have hcl : came.length = L.x.said.length - 1 := by rw [hcame, List.length_drop]
    have hcb : ∀ y ∈ came, y.bs.length ≤ 1000000 := fun y hy => by have := hwf.short y.bs (List.mem_map_of_mem (List.mem_of_mem_drop (hcame ▸ hy))); omega
    have hlt := foots_lt S
    refine sr S (all_c g b L.q L.e L.x hL0 hcap _ (BoxF.stable (S.it (lgI b g L)).2.1.1 (fun h => h))) ?_; clear S; rintro _ a w ⟨h2, rfl, n0, e0⟩ S
    replace S := S.add (Φ := BoxF h2 59 [.slice (if L.e = 1 then L.q else L.q.map (·.add (1 * 1))) (L.x.said.length - 1) (L.e - 1)]) (BoxF.stable e0 (fun hm => by have := hlt _ hm; omega))
    rw [← hcl] at S
    obtain ⟨q2, hq2⟩ : ∃ q2, q2 = (if L.e = 1 then L.q else L.q.map (·.add (1 * 1))) := ⟨_, rfl⟩
    rw [← hq2] at S
    obtain ⟨rest, hrest⟩ : ∃ rest, rest = (bsL came).map tk1 := ⟨_, rfl⟩
    have hsg : sgV (opnV s).said = if (opnS rest true nx).1 then some (seedOf bs, (opnS rest true nx).2) else none := by
      have hre : r.map tk1 = rest := by
        have h1 : bsL came = r := by
          have : L.v.said = bsL L.x.said := rfl
          rw [hcame, bsL, List.map_drop, ← bsL, ← this, hr]; rfl
        rw [hrest, h1]
      rw [← hLv, hr, sgV, if_pos h33, hre, ← hnx, decide_eq_true h8]
    refine wl_nil ?_
    refine xtn ?_
    refine c_block ?_
    replace S := S.toRo (x := lgI b g L)
    replace S := S.sub [Wk.box v39 99 (cSg g (seedOf bs) (nx : Nat)), Wk.box v7 53 [.pointer (some ⟨v39, 0, none⟩)], Wk.box b3 28 [.int .i64 0], Wk.box b2 53 [.pointer none], marks [], (lgI b g L).ro] [BoxF h2 59 [.slice q2 came.length (L.e - 1)]]
    refine c_range (κ := Nat) (κx := Unit) (Ds := []) (toldL came)
      (fun _ k => [Wk.box v39 99 (cSg g (seedOf bs) (k : Nat)), Wk.box v7 53 [.pointer (some ⟨v39, 0, none⟩)], Wk.box b3 28 [.int .i64 0], Wk.box b2 53 [.pointer none], marks [], (lgI b g L).ro])
      (fun _ _ => [BoxF h2 59 [.slice q2 came.length (L.e - 1)]])
      (fun i k => opnS rest true nx = opnS (rest.drop i) true k ∧ k = nx + i ∧ k ≤ 8)
      (fun _ => [Wk.box b3 28 [.int .i64 200], Wk.box b2 53 [.pointer none], marks [], (lgI b g L).ro])
      (fun _ => []) (fun cd _ => cd = .ret ∧ (opnS rest true nx).1 = false) nx S
      (fun M w1 hM hF hro => by
        obtain ⟨z1, z2, z3⟩ := lgI_stable (b := b) (g := g) (L := L) (hro (lgI b g L).ro (by simp) rfl)
        exact all_it h2 came q2 (L.e - 1) (by omega) hcb w1 M hM (hF _ (by simp)) (z2.imp fun _ h => by rw [hq2, hcame]; exact h.drop 1 hcap) (z3.imp fun _ h y hy => h y (by rw [hcame] at hy; exact List.mem_of_mem_drop hy))) ⟨⟨by simp, by simp, h8⟩, rfl, rfl⟩ ?_ ?_ ?_ ?_
    · clear S
      rintro L2 D bL M' w1 i z vs n W0 w hz ⟨hop, hn, hn8⟩ hW0 hgr ⟨p2, c2, rfl, hown2, hnew2⟩
      obtain ⟨hi, rfl⟩ := told_get hz
      obtain ⟨y2, hy2⟩ : ∃ y2 : LBy, y2 = ⟨p2, c2, (nthG came i).bs⟩ := ⟨_, rfl⟩
      have hent : (entI [y2]).holds w := by rw [hy2]; exact ent_row (y := ⟨p2, c2, (nthG came i).bs⟩) hown2
      have hwd := hW0.addItem hgr hent (fun k ⟨u, hu, ad, hp, hk⟩ => by
        obtain rfl := List.mem_singleton.1 hu
        rw [hy2] at hp
        exact hk ▸ hnew2 ad hp) (ItOk.lt w hent) ItOk.loc
      have hx : rest[i]? = some (tk1 (nthG came i).bs) := by rw [hrest, List.getElem?_map, bsL, List.getElem?_map, nthG_get hi]; rfl
      have hil := (List.getElem?_eq_some_iff.1 hx).1
      have hdr : rest.drop i = tk1 (nthG came i).bs :: rest.drop (i + 1) := by rw [List.drop_eq_getElem_cons hil, (List.getElem?_eq_some_iff.1 hx).2]
      obtain ⟨bs2, hbs2⟩ : ∃ bs2, bs2 = (nthG came i).bs := ⟨_, rfl⟩
      rw [← hbs2] at hdr hy2
      rw [hdr, opnS] at hop
      have hC : CLt [!(!decide ((bs2.length : Int) = 1))] 0 bs2.length := ⟨fun h => by have := h _ (List.mem_cons_self ..); simp at this; omega⟩
      refine ⟨_, inferInstance, fun a S => ?_⟩
      replace S : St w1 M' [] a w _ (entI [y2] :: lpI L2 D (lpR bL .ready none) :: _) _ := ⟨S.slots, S.defers, hwd⟩
      replace S := St.entFact S [y2]
      replace S := S.add (Φ := GlF p2 bs2) ((S.mem.fact (AllBy [y2])).imp fun _ h => by have := h y2 (by simp); rw [hy2] at this; exact this)
      rw [← hbs2] at S
      refine c_region ?_
      refine sq S ?_; clear S; intro a S
      refine wl_nil ?_
      refine xtn ?_
      refine rbegin (D := D) (b := bL) S ?_; clear S; intro a w S
      refine c_block ?_
      iterate 2 (refine c_seq ?_)
      refine c_drawD [(0, true), (1, true), (2, true), (3, true), (4, true), (5, true), (6, true), (7, true), (8, true), (9, true), (10, true), (11, true), (12, true), (13, true), (14, true), (15, true), (16, true), (17, true), (18, true), (19, true), (20, true)] [] S ?_; clear S; intro w S
      iterate 4 (refine dq S ?_; clear S; intro a S)
      iterate 9 (refine dqG S ?_; clear S; intro a S)
      iterate 2 (refine dq S ?_; clear S; intro a S)
      iterate 5 (refine dqG S ?_; clear S; intro a S)
      refine dq S ?_; clear S; intro a S
      refine dn ?_
      refine xtn ?_
      refine c_cond S (fun h10 => ?_) (fun h10 => ?_)
      · refine c_seq ?_
        refine c_region ?_
        iterate 2 (refine sw S ?_; clear S; intro a w S)
        refine wl_nil ?_
        refine xtn ?_
        refine c_ret ?_
        refine xtr ?_
        refine xbr ?_
        have hno : (opnS rest true nx).1 = false := by
          have hb := (nthG bs2 0).toNat_lt
          rw [hop]
          have hf : (true && decide (tk1 bs2 = (n : Int)) && decide (tk1 bs2 < 8)) = false := by
            by_cases h1 : bs2.length = 1
            · rw [w64 _ (by omega) (by omega)] at h10
              rw [tk1, if_pos h1]
              rw [h1] at h10
              simp at h10 ⊢ <;> omega
            · rw [tk1, if_neg h1]
              simp <;> omega
          rw [hf, opnS_false]
        exact rret (D := D) (b := bL) (S.sub [lpI L2 D (lpR bL .busy none), Wk.box b3 28 [.int .i64 200], Wk.box b2 53 [.pointer none], marks [], (lgI b g L).ro] []) fun W hW => ⟨.inl rfl, (), ⟨rfl, hno⟩, hW⟩
      · refine c_skip ?_
        refine xtn ?_
        refine c_region ?_
        iterate 5 (refine sq S ?_; clear S; intro a S)
        rw [show IntKind.i64.wrap ((n : Int) + 1) = ((n + 1 : Nat) : Int) from by rw [w64 _ (by omega) (by omega)]; rfl] at S
        iterate 2 (refine sq S ?_; clear S; intro a S)
        refine sw S ?_; clear S; intro a w S
        refine wl_nil ?_
        refine xbn ?_
        have hyes : (true && decide (tk1 bs2 = (n : Int)) && decide (tk1 bs2 < 8)) = true ∧ n + 1 ≤ 8 := by
          have hb := (nthG bs2 0).toNat_lt
          rw [w64 _ (by omega) (by omega)] at h10
          simp at h10
          obtain ⟨⟨h1, h2⟩, h3⟩ := h10
          have h4 : bs2.length = 1 := by omega
          rw [tk1, if_pos h4]
          refine ⟨?_, by omega⟩
          simp <;> omega
        rw [hyes.1] at hop
        exact rnext (D := D) (b := bL) (S.sub [lpI L2 D (lpR bL .busy none), Wk.box v39 99 (cSg g (seedOf bs) ((n + 1 : Nat) : Int)), Wk.box v7 53 [.pointer (some ⟨v39, 0, none⟩)], Wk.box b3 28 [.int .i64 0], Wk.box b2 53 [.pointer none], marks [], (lgI b g L).ro] [BoxF h2 59 [.slice q2 came.length (L.e - 1)]]) fun W hW => ⟨n + 1, ⟨hop, by omega, hyes.2⟩, hW⟩
    · clear S
      rintro D n a w ⟨hop, hn, hn8⟩ S
      have hlen : (toldL came).length = rest.length := by simp [toldL, hrest, bsL]
      rw [hlen] at hop hn
      simp only [List.drop_length, opnS] at hop
      rw [hop, if_pos rfl] at hsg
      replace S := S.join (Ds := [])
      replace S := S.unRo (x := lgI b g L) hown
      refine xbn ?_
      refine xtn ?_
      refine c_seq ?_
      refine c_region ?_
      refine sq S ?_; clear S; intro a S
      iterate 2 (refine sw S ?_; clear S; intro a w S)
      refine wl_nil ?_
      refine xtn ?_
      refine c_ret ?_
      subst hLm
      replace S := S.front (lgI b g L)
      replace S := S.front (Wk.box v39 99 (cSg g (seedOf bs) (n : Nat)))
      replace S := S.toBoth
      refine endM2 S (fun w hw => .inr ⟨v39, g, L, seedOf bs, n, hsg, rfl, rfl, hLv, ?_⟩)
      exact ⟨hw.held (mdI v39 b g (seedOf bs) (n : Nat) L) (by simp), hw.own (mdI v39 b g (seedOf bs) (n : Nat) L) (by simp) rfl⟩
    · rintro D _ a w ⟨-, hno⟩ S
      rw [hno, if_neg Bool.false_ne_true] at hsg
      replace S := S.join (Ds := [])
      replace S := S.unRo (x := lgI b g L) hown
      repeat (first | refine xbr ?_ | refine xtr ?_)
      have hs : L.s = (openF s).1 := congrArg LV.s hLv
      subst hLm
      refine endM2 S (fun w hw => .inl ⟨hsg, rfl, L.p, L.c, ?_⟩)
      have hd := (hw.held (lgI b g L) (by simp)).1
      rw [← hs]
      exact ⟨hd, fun k hk => hown k (.inl hk)⟩
    · rintro id D _ a w ⟨h, -⟩; cases h
theorem mopen_c (b m : Nat) (p : Option Addr) (c : Nat) (s : DS) (hl : s.loose.length ≤ 980000) (w0 : World) (hd : (dkI b m p c s).holds w0) :
    Ret Tryz.prog 62 [.pointer (some ⟨b, 0, none⟩)] w0 (dkI b m p c s).foot fun v w' =>
      ((openF s).2.1 ≠ 0 ∧ v = .tuple ⟨[.pointer none, .int .i64 (openF s).2.1]⟩ ∧ ∃ p' c', (dkI b m p' c' (openF s).1).holds w' ∧ ∀ k, (dkI b m p' c' (openF s).1).foot k → (dkI b m p c s).foot k ∨ w0.heap.size ≤ k) ∨
      ((openF s).2.1 = 0 ∧ sgV (opnV s).said = none ∧ v = .tuple ⟨[.pointer none, .int .i64 200]⟩ ∧ ∃ p' c', (dkI b m p' c' (openF s).1).holds w' ∧ ∀ k, (dkI b m p' c' (openF s).1).foot k → (dkI b m p c s).foot k ∨ w0.heap.size ≤ k) ∨
      ((openF s).2.1 = 0 ∧ ∃ h g L seed next, sgV (opnV s).said = some (seed, next) ∧ v = .tuple ⟨[.pointer (some ⟨h, 0, none⟩), .int .i64 0]⟩ ∧ L.m = m ∧ L.v = opnV s ∧ (mdI h b g seed (next : Nat) L).holds w' ∧ ∀ k, (mdI h b g seed (next : Nat) L).foot k → (dkI b m p c s).foot k ∨ w0.heap.size ≤ k) := by
  by_cases h0 : (openF s).2.1 = 0
  · refine (mopen_ok b m p c s hl h0 w0 hd).mono fun v w' => ?_
    rintro (⟨h1, h2, h3⟩ | h)
    · exact .inr (.inl ⟨h0, h1, h2, h3⟩)
    · exact .inr (.inr ⟨h0, h⟩)
  · refine (mopen_bad b m p c s hl h0 w0 hd).mono fun v w' => ?_
    rintro ⟨h2, h3⟩
    exact .inl ⟨h0, h2, h3⟩
end Go.Proofs.YtlphkccfcodmcaaGreat

namespace Go.Wk
open Go Go.Deep Go.ChangeShapes Go.WideShapes Go.ChangeAt Go.RowKit
/-! what comes in, and how large it may be -/
class TroZ (P : Program) (T : TypeId) (α : Type) [Lay α] (Z : outParam (α → Prop)) : Prop where
  of : ∀ {H : Type} (enc : TypeId × Value → H) (w : World) (base : Nat) (spare : Nat → Bool) (held : Bool) (fuel : Nat) (cs : List Value) (x : DataW H × List MemPlace), DataW.trod enc P w base spare held fuel T cs = some x → ∃ a : α, cs = Enc.cells a ∧ Lay.inn w a ∧ ((∀ n ∈ x.1.weights P T, n ≤ reachBytes) → Z a)
  size : P.cellsOf T = Enc.sz α
theorem troZ_of {P : Program} {T : TypeId} {α : Type} [Lay α] (h : Tro P T α) : TroZ P T α (fun _ => True) := ⟨fun enc w base spare held fuel cs x hx => by
  obtain ⟨a, h1, h2⟩ := h.of enc w base spare held fuel cs x hx
  exact ⟨a, h1, h2, fun _ => trivial⟩, h.size⟩
theorem weights_mem_all {H : Type} {P : Program} {e : TypeId} : ∀ {ds : List (DataW H)} {d : DataW H}, d ∈ ds → ∀ n ∈ d.weights P e, n ∈ DataW.weightsAll P e ds
  | d0 :: ds, d, hd, n, hn => by
    simp only [DataW.weightsAll, List.mem_append]
    rcases List.mem_cons.1 hd with rfl | hd
    · exact .inl hn
    · exact .inr (weights_mem_all hd n hn)
abbrev ZSl {α : Type} [Lay α] (P : Program) (T : TypeId) (Z : α → Prop) : Sl α → Prop := fun s => s.xs.length * P.bytesOf T ≤ reachBytes ∧ ∀ x ∈ s.xs, Z x
theorem troZ_Sl {P : Program} {T L : TypeId} {α : Type} {Z : α → Prop} [Lay α] [hT : TroZ P T α Z] (hu : P.underlying L = some (.slice T)) (hs : P.cellsOf L = 1) : TroZ P L (Sl α) (ZSl P T Z) := ⟨fun enc w base spare held fuel cs x h => by
  rcases DataW.trod_slice hu h with ⟨e4, e5⟩ | ⟨ad, len, cap, elems, rest, n', rfl, e4, e5, _, hlc, hcm, hel, hem, _, _⟩
  · exact ⟨⟨none, 0, []⟩, e4, ⟨Nat.le_refl _, Nat.zero_le _, gl_nil⟩, fun _ => ⟨by simp, fun _ h => by cases h⟩⟩
  · subst e4
    have : Inhabited α := ⟨Lay.dflt⟩
    obtain ⟨g, hg⟩ := choose_lt (α := α) (p := fun i t => (w.cells? base (ad.add (i * Enc.sz α)) (Enc.sz α) = some (Enc.cells t) ∧ Lay.inn w t) ∧ ((∀ n ∈ x.1.weights P L, n ≤ reachBytes) → Z t)) (n := len) (fun i hi => by
      have h1 := hem i hi
      rw [hT.size, List.getElem?_eq_getElem (by omega)] at h1
      obtain ⟨cs', h2, h3⟩ := Option.bind_eq_some_iff.1 h1
      obtain ⟨t, rfl, ht, hz⟩ := hT.of _ _ _ _ _ _ _ _ h3
      refine ⟨t, ⟨h2, ht⟩, fun hw => hz fun n hn => hw n ?_⟩
      rw [e5]
      simp only [DataW.weights, hu, List.mem_cons, List.mem_append]
      exact .inr (.inl (weights_mem_all (List.mem_map_of_mem (List.getElem_mem (by omega))) n hn)))
    refine ⟨⟨some ad, cap, (List.range len).map g⟩, by simp [Enc.cells, Sl.v], ⟨by simpa using hlc, hcm, ⟨fun h => (by cases h), fun ad' hp j u hj => ?_⟩, fun t ht => ?_⟩, fun hw => ⟨?_, fun t ht => ?_⟩⟩
    · obtain rfl : ad = ad' := by simpa using hp
      have hjl : j < len * Enc.sz α := by
        have := (List.getElem?_eq_some_iff.1 hj).1
        rw [encL_len] at this; simpa using this
      have hz : 0 < Enc.sz α := Nat.pos_of_ne_zero fun h0 => by rw [h0] at hjl; omega
      have hi : j / Enc.sz α < len := (Nat.div_lt_iff_lt_mul hz).2 hjl
      have hm : j % Enc.sz α < Enc.sz α := Nat.mod_lt _ hz
      have hdm : j / Enc.sz α * Enc.sz α + j % Enc.sz α = j := Nat.div_add_mod' j _
      obtain ⟨⟨hc, -⟩, -⟩ := hg _ hi
      obtain ⟨_, _, h5⟩ := World.cells?_some hc
      have h6 := h5 _ hm
      have h7 := encL_get ((List.range len).map g) (j / Enc.sz α) (g (j / Enc.sz α)) (by simp [hi]) _ hm
      rw [hdm, hj] at h7
      rw [Go.Deep.add_add, hdm] at h6
      rw [h6, ← h7]
    · obtain ⟨i, hi, rfl⟩ := List.mem_map.1 ht
      exact (hg i (List.mem_range.1 hi)).1.2
    · have h1 := hw ((elems.length + rest.length) * P.bytesOf T) (by rw [e5]; simp [DataW.weights, hu])
      rw [List.length_map, List.length_range]
      refine Nat.le_trans (Nat.mul_le_mul_right _ ?_) h1
      omega
    · obtain ⟨i, hi, rfl⟩ := List.mem_map.1 ht
      exact (hg i (List.mem_range.1 hi)).2 hw, hs⟩
theorem trodZ_flds {H : Type} {enc : TypeId × Value → H} {P : Program} {w : World} {base : Nat} {spare : Nat → Bool} {held : Bool} {T : TypeId} {fs : Array Field} (hu : P.underlying T = some (.struct fs)) {fuel : Nat} {cs : List Value} {x : DataW H × List MemPlace} (h : DataW.trod enc P w base spare held fuel T cs = some x) :
    cs.length = P.cellsOf T ∧ ∀ (i t o : Nat), (fs.toList.map (fun f => (f.type, f.offset)))[i]? = some (t, o) → ∃ n y, DataW.trod enc P w base spare held n t ((cs.drop o).take (P.cellsOf t)) = some y ∧ ∀ k ∈ y.1.weights P t, k ∈ x.1.weights P T := by
  obtain ⟨xs, n, rfl, rfl, hlen, hxl, hx⟩ := DataW.trod_struct hu h
  refine ⟨hlen, fun i t o hi => ?_⟩
  rw [List.getElem?_map] at hi
  obtain ⟨f, hf1, hf2⟩ := Option.map_eq_some_iff.1 hi
  simp only [Prod.mk.injEq] at hf2
  obtain ⟨rfl, rfl⟩ := hf2
  have hlt : i < fs.size := by simpa using (List.getElem?_eq_some_iff.1 hf1).1
  have h1 := hx i f (by simpa using hf1)
  rw [List.getElem?_eq_getElem (by omega)] at h1
  refine ⟨n, _, h1, fun k hk => ?_⟩
  simp only [DataW.weights, hu]
  refine DataW.weights_mem_each (j := i) (t := f.type) (d := (xs[i]'(by omega)).1) ?_ ?_ k hk
  · rw [List.getElem?_map, hf1]; rfl
  · rw [List.getElem?_map, List.getElem?_eq_getElem (by omega)]; rfl
theorem trodZ_fld {H : Type} {enc : TypeId × Value → H} {P : Program} {w : World} {base : Nat} {spare : Nat → Bool} {held : Bool} {T : TypeId} {α : Type} {Z : α → Prop} [Lay α] [hT : TroZ P T α Z] {n : Nat} {cs : List Value} {y : DataW H × List MemPlace} {o s : Nat} (h : DataW.trod enc P w base spare held n T ((cs.drop o).take s) = some y) (hs : s = P.cellsOf T) :
    ∃ a : α, (cs.drop o).take (Enc.sz α) = Enc.cells a ∧ Lay.inn w a ∧ ((∀ n ∈ y.1.weights P T, n ≤ reachBytes) → Z a) := by
  subst hs
  obtain ⟨a, h1, h2, h3⟩ := hT.of _ _ _ _ _ _ _ _ h
  exact ⟨a, by rw [← hT.size]; exact h1, h2, h3⟩
theorem slice_of_TrodZ {P : Program} {L T : TypeId} {α : Type} {Z : Sl α → Prop} [Lay α] [hT : TroZ P L (Sl α) Z] {H : Type} {enc : TypeId × Value → H} {w : World} {base : Nat} {spare : Nat → Bool} {held : Bool} (hu : P.underlying L = some (.slice T)) {v : Value} {d : DataW H} {p : List MemPlace} {r : Reach} {W : World} {base' : Nat} (h : DataW.Trod enc P w base spare held L v d p) (hv : Value.okWide P W r base' L v) :
    ∃ s : Sl α, v = s.v ∧ s.xs.length ≤ s.cap ∧ s.cap ≤ maxLen ∧ GlF s.p s.xs w ∧ ((∀ n ∈ d.weights P L, n ≤ reachBytes) → Z s) := by
  obtain ⟨a, len, cap, rfl⟩ := okWide_slice hu hv
  obtain ⟨fuel, hf⟩ := h
  obtain ⟨s, e, hs, hz⟩ := hT.of _ _ _ _ _ _ _ _ hf
  refine ⟨s, ?_, hs.1, hs.2.1, hs.2.2, hz⟩
  have : [Value.slice a len cap] = [s.v] := by simpa [Value.cells, Enc.cells] using e
  simpa using this
/-- arrays that come in. -/
theorem arr_of_Trod {P : Program} {T e : TypeId} {n : Nat} {α : Type} [Lay α] [hT : Tro P T α] {H : Type} {enc : TypeId × Value → H} {w : World} {base : Nat} {spare : Nat → Bool} {held : Bool} (hu : P.underlying T = some (.array n e)) {v : Value} {d : DataW H} {p : List MemPlace} {r : Reach} {W : World} {base' : Nat} (h : DataW.Trod enc P w base spare held T v d p) (hv : Value.okWide P W r base' T v) :
    ∃ a : α, v = .agg ⟨Enc.cells a⟩ ∧ Lay.inn w a := by
  obtain ⟨cs, rfl⟩ : ∃ cs, v = .agg cs := by
    simp only [Value.okWide, hu] at hv
    obtain ⟨cs, h1, _⟩ := hv
    exact ⟨cs, h1⟩
  obtain ⟨fuel, hf⟩ := h
  obtain ⟨a, e, ha⟩ := hT.of _ _ _ _ _ _ _ _ hf
  refine ⟨a, ?_, ha⟩
  have : cs.toList = Enc.cells a := by simpa [Value.cells] using e
  rw [← this]
/-- rows of bytes that come in as arrays. -/
theorem trod_bytes {P : Program} {T e : TypeId} {n : Nat} [hT : Tro P e UInt8] (hu : P.underlying T = some (.array n e)) (hs : P.cellsOf T = n) {H : Type} {enc : TypeId × Value → H} {w : World} {base : Nat} {spare : Nat → Bool} {held : Bool} {fuel : Nat} {cs : List Value} {x : DataW H × List MemPlace} (h : DataW.trod enc P w base spare held fuel T cs = some x) :
    ∃ l : List UInt8, l.length = n ∧ cs = encL l := by
  obtain ⟨xs, m, rfl, rfl, hlen, hxl, hx⟩ := DataW.trod_array hu h
  have h1 : P.cellsOf e = 1 := hT.size
  have : Inhabited UInt8 := ⟨0⟩
  obtain ⟨g, hg⟩ := choose_lt (α := UInt8) (p := fun i a => (cs.drop i).take 1 = Enc.cells a) (n := n) (fun i hi => by
    have h2 := hx i hi
    rw [List.getElem?_eq_getElem (by omega), h1, Nat.mul_one] at h2
    obtain ⟨a, ha, -⟩ := hT.of _ _ _ _ _ _ _ _ h2
    exact ⟨a, ha⟩)
  refine ⟨(List.range n).map g, by simp, ?_⟩
  have hz : Enc.sz UInt8 = 1 := rfl
  refine List.ext_getElem? fun j => ?_
  by_cases hj : j < n
  · have h3 := hg j hj
    have h4 := encL_get ((List.range n).map g) j (g j) (by simp [hj]) 0 (by decide)
    rw [hz, Nat.mul_one, Nat.add_zero] at h4
    rw [h4, ← h3, List.getElem?_take, if_pos (by decide), List.getElem?_drop, Nat.add_zero]
  · rw [List.getElem?_eq_none (by omega), List.getElem?_eq_none (by rw [encL_len, hz]; simp; omega)]
end Go.Wk

/- SignerOnce answers true at every input and leaves it as it was. No condition. -/
namespace Go.Proofs.YtlphkccfcodmcaaGreat
open Go Go.Wk
open Go.ChangeShapes Go.WideShapes Go.ChangeAt Go.RowKit
set_option maxRecDepth 100000

instance troByteS : Tro Tryz.prog 5 UInt8 := troB Tryz.underlying5 (by kernel_rfl)
instance troDg : Tro Tryz.prog 23 Dg := ⟨fun enc w base spare held fuel cs x h => by
  obtain ⟨l, h1, h2⟩ := trod_bytes Tryz.underlying23 (by kernel_rfl) h
  exact ⟨⟨l, h1⟩, h2, trivial⟩, by kernel_rfl⟩
instance troIntS : TroZ Tryz.prog 3 Int (fun _ => True) := troZ_of (troI Tryz.underlying3 (by kernel_rfl))
instance troBoolS : TroZ Tryz.prog 4 Bool (fun _ => True) := troZ_of (troBo Tryz.underlying4 (by kernel_rfl))
instance troBoolsS : TroZ Tryz.prog 36 (Sl Bool) (ZSl Tryz.prog 4 (fun _ => True)) := troZ_Sl Tryz.underlying36 (by kernel_rfl)
instance troDgS : TroZ Tryz.prog 23 Dg (fun _ => True) := troZ_of troDg
instance troSop : TroZ Tryz.prog 38 LSop (fun x => x.keep.length ≤ 140737488355328) := ⟨fun enc w base spare held fuel cs x h => by
  obtain ⟨hlen, hf⟩ := trodZ_flds Tryz.underlying38 h
  rw [show Tryz.prog.cellsOf 38 = 35 from by kernel_rfl] at hlen
  obtain ⟨n0, y0, g0, k0⟩ := hf 0 3 0 rfl
  obtain ⟨n1, y1, g1, k1⟩ := hf 1 3 1 rfl
  obtain ⟨n2, y2, g2, k2⟩ := hf 2 23 2 rfl
  obtain ⟨n3, y3, g3, k3⟩ := hf 3 36 34 rfl
  obtain ⟨u0, e0, i0, -⟩ := trodZ_fld (α := Int) g0 rfl
  obtain ⟨u1, e1, i1, -⟩ := trodZ_fld (α := Int) g1 rfl
  obtain ⟨u2, e2, i2, -⟩ := trodZ_fld (α := Dg) g2 rfl
  obtain ⟨u3, e3, i3, z3⟩ := trodZ_fld (α := Sl Bool) g3 rfl
  refine ⟨⟨u0, u1, u2, u3.p, u3.cap, u3.xs⟩, ?_, i3, fun hw => ?_⟩
  · have q0 : cs.take 1 = [.int .i64 u0] := by rw [← List.drop_zero (l := cs)]; exact e0
    have q1 : (cs.drop 1).take 1 = [.int .i64 u1] := e1
    have q2 : (cs.drop 2).take 32 = encL u2.l := e2
    have q3 : (cs.drop 34).take 1 = [u3.v] := e3
    have p3 : cs.drop 34 = [u3.v] := by rw [← q3, List.take_of_length_le (by rw [List.length_drop]; omega)]
    have p2 : cs.drop 2 = encL u2.l ++ [u3.v] := by rw [← q2, ← p3, show 34 = 2 + 32 from rfl, ← List.drop_drop, List.take_append_drop]
    have p1 : cs.drop 1 = .int .i64 u1 :: (encL u2.l ++ [u3.v]) := by rw [← p2, ← List.singleton_append, ← q1, show 2 = 1 + 1 from rfl, ← List.drop_drop, List.take_append_drop]
    show cs = .int .i64 u0 :: .int .i64 u1 :: (encL u2.l ++ [u3.v])
    rw [← p1, ← List.singleton_append, ← q0, List.take_append_drop]
  · have h1 := (z3 fun n hn => hw n (k3 n hn)).1
    rw [show Tryz.prog.bytesOf 4 = 1 from by kernel_rfl, Nat.mul_one] at h1
    have := reachBytes_lt
    show u3.xs.length ≤ _
    omega, by kernel_rfl⟩
instance troSops : TroZ Tryz.prog 24 (Sl LSop) (ZSl Tryz.prog 38 (fun x => x.keep.length ≤ 140737488355328)) := troZ_Sl Tryz.underlying24 (by kernel_rfl)
end Go.Proofs.YtlphkccfcodmcaaGreat

namespace Go.Wk
open Go
/-! going over a map -/
def kvI (x : Int × Value) : Value × Value := (.int .i64 x.1, x.2)
def kvIU (x : Value × Value) : Int × Value := (match x.1 with | .int _ n => n | _ => 0, x.2)
theorem kvIU_kvI (x : Int × Value) : kvIU (kvI x) = x := by simp [kvIU, kvI]
theorem map_kvIU (l : List (Int × Value)) : (l.map kvI).map kvIU = l := by
  rw [List.map_map]
  conv => rhs; rw [← List.map_id l]
  apply List.map_congr_left
  intro x _
  exact kvIU_kvI x
/-- a map, and the going over it: what has come out. -/
def mpin (b r : Nat) (kv done : List (Int × Value)) : Item where
  foot := fun k => k = b ∨ k = r
  holds := fun w => ∃ (es : Array MapEntry) (clock : Nat) (ds : List MapEntry), w.heap[b]? = some (.map es clock) ∧ es.toList.map enKV = kv.map kvI ∧ (∀ e ∈ es.toList, e.born < clock) ∧ (es.toList.map (·.born)).Nodup ∧
    w.heap[r]? = some (.mapIter (some b) clock (ds.map (·.born)).toArray clock) ∧ (∀ e ∈ ds, e ∈ es.toList) ∧ (ds.map (·.born)).Nodup ∧ ds.map enKV = done.map kvI
theorem mpin_loc (b r : Nat) (kv done : List (Int × Value)) (w1 w2 : World) (h : ∀ k, (mpin b r kv done).foot k → w2.heap[k]? = w1.heap[k]?) (h1 : (mpin b r kv done).holds w1) : (mpin b r kv done).holds w2 := by
  obtain ⟨es, clock, ds, q1, q2, q3, q4, q5, q6⟩ := h1
  exact ⟨es, clock, ds, (h b (.inl rfl)).trans q1, q2, q3, q4, (h r (.inr rfl)).trans q5, q6⟩
theorem mpin_mpn {b r : Nat} {kv done : List (Int × Value)} {w : World} (h : (mpin b r kv done).holds w) : (mpn b kv).holds w := by
  obtain ⟨es, clock, ds, q1, q2, q3, q4, _⟩ := h
  exact ⟨es, clock, q1, q2, q3, q4⟩
class HasMpin (bs : List Item) (r : Nat) (b : outParam Nat) (kv done : outParam (List (Int × Value))) : Prop where mem : mpin b r kv done ∈ bs
instance hmpin0 {b r : Nat} {kv done : List (Int × Value)} {bs : List Item} : HasMpin (mpin b r kv done :: bs) r b kv done := ⟨List.mem_cons_self ..⟩
/-- what 'next' hands out. -/
def nxN (more : Bool) (k : Int) (v : Value) : Value := bif more then .tuple ⟨[.bool true, (.int .i64 k : Value), v]⟩ else .tuple ⟨[.bool false]⟩
instance (priority := 1100) opExtNxN {P ty} {l : Cx} {bs fs x more k v} [Ev l x (nxN more k v)] : OpQ P (.extract x 0) ty l bs fs (.bool more) := ⟨fun ρ w h _ => by
  cases more <;> simp [xop, execOp, h.ev (x := x) (v := nxN _ k v), nxN, Instr.extract]⟩
class HasMpinnB (bs : List Item) (b : Nat) (kv : outParam (List (Int × Value))) : Prop where mem : ∃ r done, mpin b r kv done ∈ bs
section
variable {P : Program} {r0 : Option Nat} {ops : Array Oper} {Q : Exit → Act → World → Prop} {w0 : World} {M0 : Nat → Prop} {ds : List Deferred} {a : Act} {w : World} {l : List Value} {bs : List Item} {fs : List (World → Prop)}
  {d : Option Nat} {op : Op} {ty : TypeId} {pos : String} {af : Array Edge} {rest : List Oper} {t kt et : TypeId} {x : Operand} {b : Nat} {kv : List (Int × Value)}
/-- a range over a map is begun. -/
theorem srg0N {l' : Nat → List Value} {bs' : Nat → List Item} (S : St w0 M0 ds a w l bs fs) [Ev ⟨[], l⟩ x (.map (some b))] [ht : Und P t (.map kt et)] [hm : HasMpn bs b kv] [hrep : ∀ r, ReplI bs (mpn b kv) (mpin b r kv []) (bs' r)] [hp : ∀ r, PutO l d (.pointer (some ⟨r, 0, none⟩)) (l' r)]
    (K : ∀ r a w, St w0 M0 ds a w (l' r) (bs' r) fs → WL P r0 ops Q rest a w) : WL P r0 ops Q (⟨d, .range t x, ty, pos, af, none⟩ :: rest) a w := by
  refine wl_plain rfl ?_
  rw [semAt_nd rfl]
  obtain ⟨es, clock, hb, he, hbn, hnd⟩ : (mpn b kv).holds w := S.wd.held _ hm.mem
  have e1 : (xop a.eval (.range t x) ty).run P w = .ok (.value (.pointer (some ⟨w.heap.size, 0, none⟩))) (w.alloc (.mapIter (some b) clock #[] clock)) := by
    have h1 := MapKept.run_getObj_map (P := P) hb
    have h2 : (Instr.range t (.map (some b))).run P w = .ok (.pointer (some ⟨w.heap.size, 0, none⟩)) (w.alloc (.mapIter (some b) clock #[] clock)) := by
      simp [Instr.range, Sem.run_bind, run_und, h1, Result.andThen, newObj, Sem.run]
    simp [xop, execOp, S.fr.ev (x := x) (v := .map (some b)), h2]
  simp only [e1, Oper.uponIn]
  have := hp w.heap.size
  have S' := S.put (d := d) (v := .pointer (some ⟨w.heap.size, 0, none⟩))
  have hlt : b < w.heap.size := (Array.getElem?_eq_some_iff.1 hb).1
  have hag : Agree (mpn b kv).foot w (w.alloc (.mapIter (some b) clock #[] clock)) := Agree.alloc _ _ _
  refine K _ _ _ (S.reput (x := mpn b kv) (y := mpin b w.heap.size kv []) S'.slots S'.defers (hr := hrep _) rfl hag ⟨es, clock, [], ?_, he, hbn, hnd, heap_alloc_new w _, by simp, by simp, rfl⟩ (fun k hk => hk.imp id (fun h => by omega)) (fun k hk => by rcases hk with rfl | rfl <;> simp <;> omega) (mpin_loc _ _ _ _))
  exact (RowKit.Below.heap_alloc _ _ _ hlt).trans hb
/-- the next entry, whichever it is; or none is left. -/
theorem snxN {ri : Nat} {done : List (Int × Value)} {l' : Bool → Int → Value → List Value} {bs' : List (Int × Value) → List Item} (S : St w0 M0 ds a w l bs fs) [Ev ⟨[], l⟩ x (.pointer (some ⟨ri, 0, none⟩))] [hm : HasMpin bs ri b kv done] [hrep : ∀ dn, ReplI bs (mpin b ri kv done) (mpin b ri kv dn) (bs' dn)] [hp : ∀ m k v, PutO l d (nxN m k v) (l' m k v)]
    (K : ∀ (more : Bool) (k : Int) (v : Value) a w, (more = false → done.Perm kv) → (more = true → (k, v) ∈ kv ∧ done.length + 1 ≤ kv.length) → St w0 M0 ds a w (l' more k v) (bs' (bif more then done ++ [(k, v)] else done)) fs → WL P r0 ops Q rest a w) :
    WL P r0 ops Q (⟨d, .next x false, ty, pos, af, none⟩ :: rest) a w := by
  refine wl_plain rfl ?_
  rw [semAt_nd rfl]
  have hold := S.wd.held _ hm.mem
  obtain ⟨es, clock, dn, hb, he, hbn, hnd, hr, hsub, hdn, hdone⟩ := hold
  have hx : a.eval x = .pointer (some ⟨ri, 0, none⟩) := S.fr.ev
  have hrlt : ri < w.heap.size := (Array.getElem?_eq_some_iff.1 hr).1
  have hbr : b ≠ ri := fun e => by rw [e, hr] at hb; cases hb
  have hleft : ∀ e, e ∈ (leftOf es (dn.map (·.born)).toArray).toList ↔ e ∈ es.toList ∧ e.born ∉ dn.map (·.born) := fun e => by
    unfold leftOf
    simp
  rcases run_next_at (P := P) w ty ri b clock clock (dn.map (·.born)).toArray es clock hr hb hbn (Nat.le_refl _) with ⟨h0, hrun⟩ | ⟨e, hel, w1, hw1, hrun⟩
  · have e1 : (xop a.eval (.next x false) ty).run P w = .ok (.value (nxN false 0 undef)) w := by
      simp [xop, execOp, hx, hrun, nxN]
    simp only [e1, Oper.uponIn]
    have := hp false 0 undef
    have S' := S.put (d := d) (v := nxN false 0 undef)
    have hall : ∀ e ∈ es.toList, e ∈ dn := fun e hes => by
      have hnl : e ∉ (leftOf es (dn.map (·.born)).toArray).toList := by
        have h00 : (leftOf es (dn.map (·.born)).toArray).toList = [] := List.eq_nil_of_length_eq_zero (by rw [Array.length_toList]; exact h0)
        rw [h00]; simp
      rw [hleft] at hnl
      have hb2 : e.born ∈ dn.map (·.born) := Classical.not_not.1 fun hc => hnl ⟨hes, hc⟩
      obtain ⟨e2, he2, hee⟩ := List.mem_map.1 hb2
      rw [← born_inj hnd (hsub e2 he2) hes hee]; exact he2
    have hperm : dn.Perm es.toList := (List.perm_ext_iff_of_nodup (nodup_of_map hdn) (nodup_of_map hnd)).2 fun e => ⟨hsub e, hall e⟩
    have hperm2 : done.Perm kv := by
      have := (hperm.map enKV).map kvIU
      rw [hdone, he, map_kvIU, map_kvIU] at this
      exact this
    refine K false 0 undef _ _ (fun _ => hperm2) (fun h => by cases h) ⟨S'.slots, S'.defers, ?_⟩
    obtain ⟨pre, post, q1, q2⟩ := (hrep done).ex
    have hwd := S'.wd
    rw [q1] at hwd
    show Wd w0 M0 w (bs' done) fs
    rw [q2]; exact hwd
  · obtain ⟨hes, hnb⟩ := (hleft e).1 hel
    have hkv : enKV e ∈ kv.map kvI := by rw [← he]; exact List.mem_map.2 ⟨e, hes, rfl⟩
    obtain ⟨⟨k, v⟩, hkvm, hkve⟩ := List.mem_map.1 hkv
    have hk1 : e.key = (.int .i64 k : Value) := (congrArg Prod.fst hkve).symm
    have hv1 : e.val = v := (congrArg Prod.snd hkve).symm
    have e1 : (xop a.eval (.next x false) ty).run P w = .ok (.value (nxN true k v)) (ChangeMaps.setBlock w1 ri (.mapIter (some b) clock ((dn.map (·.born)).toArray.push e.born) clock)) := by
      rw [hk1, hv1] at hrun
      simp [xop, execOp, hx, hrun, nxN]
    simp only [e1, Oper.uponIn]
    have := hp true k v
    have S' := S.put (d := d) (v := nxN true k v)
    obtain ⟨hag, hrr, hsz⟩ := of_setBlock (M := (mpin b ri kv done).foot) (o := .mapIter (some b) clock ((dn.map (·.born)).toArray.push e.born) clock) hw1 (.inr rfl) hrlt
    have hag2 := (of_setBlock (M := fun k => k = ri) (o := .mapIter (some b) clock ((dn.map (·.born)).toArray.push e.born) clock) hw1 rfl hrlt).1
    have hblt : b < w.heap.size := (Array.getElem?_eq_some_iff.1 hb).1
    have hndn : ((dn ++ [e]).map (·.born)).Nodup := by
      rw [List.map_append, List.map_singleton]
      refine List.nodup_append.2 ⟨hdn, by simp, fun x hx y hy hxy => ?_⟩
      obtain rfl := List.mem_singleton.1 hy
      exact hnb (hxy ▸ hx)
    have hsub2 : ∀ e' ∈ dn ++ [e], e' ∈ es.toList := fun e' h' => by
      rcases List.mem_append.1 h' with h' | h'
      · exact hsub e' h'
      · obtain rfl := List.mem_singleton.1 h'; exact hes
    have hlen : done.length + 1 ≤ kv.length := by
      have h1 := List.Nodup.length_le_of_subset (nodup_of_map hndn) hsub2
      have h2 := congrArg List.length hdone
      have h3 := congrArg List.length he
      simp only [List.length_map, List.length_append, List.length_singleton] at h1 h2 h3
      omega
    refine K true k v _ _ (fun h => by cases h) (fun _ => ⟨hkvm, hlen⟩) (S.reput (x := mpin b ri kv done) (y := mpin b ri kv (done ++ [(k, v)])) S'.slots S'.defers (hr := hrep _) rfl hag
      ⟨es, clock, dn ++ [e], (hag2.blk hblt hbr).trans hb, he, hbn, hnd, by rw [hrr]; simp, hsub2, hndn, by rw [List.map_append, List.map_append, hdone, List.map_singleton, List.map_singleton]; congr 2; exact hkve.symm⟩
      (fun k hk => .inl hk) (fun k hk => by rw [hsz]; rcases hk with rfl | rfl <;> assumption) (mpin_loc _ _ _ _))
/-- the entry that came out last. -/
instance opEntryN {lc : Cx} {ri : Nat} {done : List (Int × Value)} {k : Int} {v : Value} [Ev lc x (.pointer (some ⟨ri, 0, none⟩))] [hm : HasMpin bs ri b kv (done ++ [(k, v)])] : OpQ P (.entry x) ty lc bs fs (.tuple ⟨[(.int .i64 k : Value), v]⟩) := ⟨fun ρ w h mm => by
  obtain ⟨es, clock, dn, hb, he, hbn, hnd, hr, hsub, hdn, hdone⟩ := mm.held _ hm.mem
  have hne : dn ≠ [] := by rintro rfl; simp at hdone
  obtain ⟨dn', e, rfl⟩ : ∃ dn' e, dn = dn' ++ [e] := ⟨dn.dropLast, dn.getLast hne, (List.dropLast_concat_getLast hne).symm⟩
  have hke : enKV e = kvI (k, v) := by
    rw [List.map_append, List.map_append] at hdone
    have := List.append_inj_right' hdone rfl
    simpa using this
  have hk1 : e.key = (.int .i64 k : Value) := congrArg Prod.fst hke
  have hv1 : e.val = v := congrArg Prod.snd hke
  have hr2 : w.heap[ri]? = some (.mapIter (some b) clock ((dn'.map (·.born)).toArray.push e.born) clock) := by rw [hr]; simp
  have hrun := run_entry_at (P := P) w ri b clock (dn'.map (·.born)).toArray es clock e hr2 hb (hsub e (by simp)) hnd
  rw [hk1, hv1] at hrun
  simp [xop, execOp, h.ev (x := x) (v := .pointer (some ⟨ri, 0, none⟩)), hrun]⟩
end
end Go.Wk

/- Package disk: Pending, Copy. -/
namespace Go.Proofs.YtlphkccfcodmcaaGreat
open Go Go.Wk
set_option synthInstance.maxSize 100000
set_option synthInstance.maxHeartbeats 400000
set_option maxRecDepth 100000

instance (priority := 1200) segWr {a : Value} {b : Blk} : Seg (a :: encL b.l) 0 65 (a :: encL b.l) := ⟨by rw [List.length_cons, b.len], fun j _ => by rw [Nat.zero_add]⟩
theorem pending_c (b m : Nat) (p : Option Addr) (c : Nat) (s : DS) (hl : s.loose.length ≤ 1000000) (w0 : World) (f0 : Stable (fun _ => False) w0 (BoxF b 73 (cDisk m p s.loose.length c s))) (f1 : Stable (fun _ => False) w0 (GlF p s.loose)) :
    Ret Tryz.prog 48 [.pointer (some ⟨b, 0, none⟩)] w0 (fun _ => False) fun v _ => ∃ q e, v = .slice q s.loose.length e := by
  refine enter Tryz.func48 rfl rfl (Wd.begin (fs := [BoxF b 73 (cDisk m p s.loose.length c s), GlF p s.loose]) (by simp; exact ⟨f0, f1⟩)) (fun a S => ?_)
  simp only [Tryz.ntmps48, List.length_cons, List.length_nil, Nat.reduceAdd, Nat.reduceSub, List.replicate_succ, List.replicate_zero, List.cons_append, List.nil_append] at S
  refine c_seq ?_
  refine c_region ?_
  refine sq S ?_; clear S; intro a S
  refine wl_nil ?_
  refine xtn ?_
  iterate 2 (refine c_seq ?_)
  refine c_region ?_
  iterate 2 (refine sq S ?_; clear S; intro a S)
  refine wl_nil ?_
  refine xtn ?_
  refine c_condF S ?_
  refine c_skip ?_
  refine xtn ?_
  refine c_seq ?_
  refine c_region ?_
  refine sq S ?_; clear S; intro a S
  refine wl_nil ?_
  refine xtn ?_
  iterate 2 (refine c_seq ?_)
  refine c_region ?_
  iterate 7 (refine sq S ?_; clear S; intro a S)
  refine wl_nil ?_
  refine xtn ?_
  refine c_block ?_
  replace S := S.addNil 3 1
  refine c_fore4 S (fun (i : Nat) (q : Option Addr) (e : Nat) (xs : List Int) uu => [(3, .slice q i e), (1, uu 5), (8, .int .i64 (i : Nat)), (0, uu 15), (0, uu 16), (0, uu 17), (0, uu 18), (0, uu 19), (0, uu 20), (0, uu 21), (0, uu 22), (0, uu 23)]) (fun (i : Nat) (q : Option Addr) (e : Nat) (xs : List Int) => [Wk.row 3 1 q i e (encL xs)]) (fun (i : Nat) (q : Option Addr) (e : Nat) (xs : List Int) => [BoxF b 73 (cDisk m p s.loose.length c s), GlF p s.loose]) (fun (i : Nat) (q : Option Addr) (e : Nat) (xs : List Int) => i ≤ s.loose.length ∧ xs.length = i) (fun (i : Nat) (q : Option Addr) (e : Nat) (xs : List Int) => s.loose.length - i) (0) (none) (0) ([]) ?_ S.uu ?_ ?_
  · exact ⟨Nat.zero_le _, rfl⟩
  · first | exact S | exact S.sub _ _
  · clear S; rintro i q e xs uu a w ⟨hi, hx⟩ S
    refine c_seq ?_
    refine c_region ?_
    refine sq S ?_; clear S; intro a S
    refine wl_nil ?_
    refine xtn ?_
    refine c_seq ?_
    refine c_cond S (fun h5 => ?_) (fun h5 => ?_)
    · refine c_skip ?_
      refine xtn ?_
      refine c_seq ?_
      refine c_block ?_
      refine c_seq ?_
      have hil : i < s.loose.length := by have := of_decide_eq_true h5; omega
      have hK : KLt i s.loose.length := ⟨hil⟩
      refine c_region ?_
      iterate 2 (refine sq S ?_; clear S; intro a S)
      refine sa S ?_; clear S; intro b5 a w S
      refine sw S ?_; clear S; intro a w S
      refine wl_nil ?_
      refine xtn ?_
      refine c_region ?_
      iterate 3 (refine sq S ?_; clear S; intro a S)
      refine sn S ?_; clear S; intro b21 a w S
      rw [show [Value.int .i64 (nthG s.loose i).at_] = encL [(nthG s.loose i).at_] from rfl] at S
      replace S := S.boxRow b21 1 1 rfl (by decide)
      refine sap S (by simp only [maxLen]; omega) (by omega) ?_; clear S; rintro p7 c7 a w - S
      rw [show encL xs ++ encL [(nthG s.loose i).at_] = encL (xs ++ [(nthG s.loose i).at_]) from by rw [encL_append]] at S
      refine sq S ?_; clear S; intro a S
      refine wl_nil ?_
      refine xbn ?_
      refine xtn ?_
      refine c_region ?_
      iterate 2 (refine sq S ?_; clear S; intro a S)
      refine wl_nil ?_
      refine xtn ?_
      rw [w64 ((i : Int) + 1) (by omega) (by omega)] at S
      exact ⟨i + 1, p7, c7, xs ++ [(nthG s.loose i).at_], S.uu, ⟨hil, by simp [hx]⟩, S.sub _ _, by omega⟩
    · refine c_exit ?_
      iterate 2 (refine xte ?_)
      refine xbe ?_
      refine xtn ?_
      refine c_seq ?_
      refine c_region ?_
      iterate 2 (refine sq S ?_; clear S; intro a S)
      refine wl_nil ?_
      refine xtn ?_
      refine c_ret ?_
      have hil : i = s.loose.length := by have := of_decide_eq_false h5; omega
      subst hil
      exact end1 S (fun _ => ⟨q, e, rfl⟩)
/-! a disk's sectors in another order -/
def putAll (l : List (Int × Blk)) (f : List (Int × Blk)) : List (Int × Blk) := l.foldl (fun f x => putB x.1 x.2 f) f
theorem get_putAll (k : Int) : ∀ (l f : List (Int × Blk)), (l.map Prod.fst).Nodup → getB k (putAll l f) = (getB k l).or (getB k f)
  | [], f, _ => by rw [getB, Option.none_or]; rfl
  | (u, x) :: l, f, h => by
    have h2 := List.nodup_cons.1 (show (u :: l.map Prod.fst).Nodup from h)
    show getB k (putAll l (putB u x f)) = _
    rw [get_putAll k l _ h2.2, getB_put, getB]
    by_cases hk : k = u
    · subst hk
      rw [if_pos rfl, if_pos rfl]
      have hn : getB k l = none := by
        cases hg : getB k l with
        | none => rfl
        | some y =>
          exfalso
          have : ∀ (l : List (Int × Blk)), getB k l = some y → k ∈ l.map Prod.fst := fun l => by
            induction l with
            | nil => intro h; cases h
            | cons z l ih =>
              obtain ⟨v, w⟩ := z
              intro h
              rw [getB] at h
              by_cases hv : k = v
              · subst hv; simp
              · rw [if_neg hv] at h; exact List.mem_cons_of_mem _ (ih h)
          exact h2.1 (this l hg)
      rw [hn]; rfl
    · rw [if_neg hk, if_neg hk]
theorem get_perm (k : Int) {l l' : List (Int × Blk)} (h : l.Perm l') : (l.map Prod.fst).Nodup → getB k l = getB k l' := by
  induction h with
  | nil => intro _; rfl
  | cons x _ ih =>
    intro hn
    obtain ⟨u, y⟩ := x
    rw [getB, getB, ih (List.nodup_cons.1 (show (u :: _).Nodup from hn)).2]
  | swap x y l =>
    intro hn
    obtain ⟨u, z⟩ := x
    obtain ⟨u2, z2⟩ := y
    have h1 := (List.nodup_cons.1 (show (u2 :: u :: l.map Prod.fst).Nodup from hn)).1
    simp only [getB]
    by_cases hk : k = u
    · by_cases hk2 : k = u2
      · exact absurd (List.mem_cons.2 (.inl (hk2.symm.trans hk))) h1
      · subst hk
        simp [hk2]
    · by_cases hk2 : k = u2
      · subst hk2
        simp [hk]
      · simp [hk, hk2]
  | trans h1 _ ih1 ih2 => intro hn; rw [ih1 hn, ih2 ((h1.map _).nodup_iff.1 hn)]
theorem kv_of_mem {k : Int} {v : Value} {f : List (Int × Blk)} (h : (k, v) ∈ kvB f) : ∃ x, (k, x) ∈ f ∧ v = vBlk x := by
  obtain ⟨⟨u, x⟩, h1, h2⟩ := List.mem_map.1 h
  cases h2
  exact ⟨x, h1, rfl⟩
theorem vBlk_inj {x y : Blk} (h : vBlk x = vBlk y) : x = y := by
  have h1 : (encL x.l) = encL y.l := by
    have := congrArg Value.cells h
    simpa [vBlk, Value.cells] using this
  exact Blk.ext' (encB_inj h1)
open Classical in
noncomputable def unB (x : Int × Value) : Int × Blk := (x.1, if h : ∃ y, x.2 = vBlk y then h.choose else zB)
open Classical in
theorem unB_kv (f : List (Int × Blk)) : (kvB f).map unB = f := by
  rw [kvB, List.map_map]
  conv => rhs; rw [← List.map_id f]
  refine List.map_congr_left fun x _ => ?_
  obtain ⟨u, x⟩ := x
  have h : ∃ y, vBlk x = vBlk y := ⟨x, rfl⟩
  show (u, if h : ∃ y, vBlk x = vBlk y then h.choose else zB) = (u, x)
  rw [dif_pos h, vBlk_inj h.choose_spec.symm]
theorem kvB_perm {f g : List (Int × Blk)} (h : (kvB f).Perm (kvB g)) : f.Perm g := by
  have := h.map unB
  rwa [unB_kv, unB_kv] at this
theorem enc_repW : ∀ n : Nat, encL (List.replicate n (⟨0, zB⟩ : LWr)) = (List.replicate n (.int .i64 0 :: encL (List.replicate 64 (0 : UInt8)))).flatten
  | 0 => rfl
  | n + 1 => by rw [List.replicate_succ, encL_cons, List.replicate_succ, List.flatten_cons, enc_repW n]; rfl
/-- a copy of a disk, with its sectors in some order. -/
abbrev copD (s : DS) (f : List (Int × Blk)) : DS := { s with firm := f }
theorem copy_c (b m : Nat) (p : Option Addr) (c : Nat) (s : DS) (hl : s.loose.length ≤ 1000000) (w0 : World) (hd : (dkI b m p c s).holds w0) :
    Ret Tryz.prog 81 [.pointer (some ⟨b, 0, none⟩)] w0 (dkI b m p c s).foot fun v w' => ∃ b' m' p' c' dn, v = .pointer (some ⟨b', 0, none⟩) ∧ dn.Perm s.firm ∧
      (both (dkI b m p c s) (dkI b' m' p' c' (copD s (putAll dn [])))).holds w' ∧ ∀ k, (both (dkI b m p c s) (dkI b' m' p' c' (copD s (putAll dn [])))).foot k → (dkI b m p c s).foot k ∨ w0.heap.size ≤ k := by
  refine enter Tryz.func81 rfl rfl (Wd.dkLent (fs := []) hd (by simp)) (fun a S => ?_)
  simp only [Tryz.ntmps81, List.length_cons, List.length_nil, Nat.reduceAdd, Nat.reduceSub, List.replicate_succ, List.replicate_zero, List.cons_append, List.nil_append] at S
  refine c_seq ?_
  refine c_region ?_
  refine sq S ?_; clear S; intro a S
  refine wl_nil ?_
  refine xtn ?_
  iterate 2 (refine c_seq ?_)
  refine c_region ?_
  iterate 2 (refine sq S ?_; clear S; intro a S)
  refine wl_nil ?_
  refine xtn ?_
  refine c_condF S ?_
  refine c_skip ?_
  refine xtn ?_
  refine c_seq ?_
  refine c_region ?_
  iterate 5 (refine sq S ?_; clear S; intro a S)
  refine sa S ?_; clear S; intro b13 a w S
  refine sq S ?_; clear S; intro a S
  refine wl_nil ?_
  refine xtn ?_
  refine c_seq ?_
  refine c_region ?_
  refine sq S ?_; clear S; intro a S
  refine smmi S ?_; clear S; intro mb a w S
  iterate 3 (refine sq S ?_; clear S; intro a S)
  refine sw S ?_; clear S; intro a w S
  refine wl_nil ?_
  refine xtn ?_
  iterate 2 (refine c_seq ?_)
  refine c_region ?_
  iterate 5 (refine sq S ?_; clear S; intro a S)
  refine srg0N S ?_; clear S; intro ri a w S
  refine wl_nil ?_
  refine xtn ?_
  refine c_block ?_
  refine c_fore1 S (fun (gone : List (Int × Blk)) uu => [(4, uu 4), (0, uu 5), (19, uu 25), (0, uu 26), (0, uu 27), (0, uu 28), (0, uu 29), (0, uu 30), (0, uu 31), (0, uu 32), (0, uu 33), (0, uu 34), (0, uu 35), (0, uu 36)]) (fun (gone : List (Int × Blk)) => [mpin m ri (kvB s.firm) (kvB gone), mpn mb (kvB (putAll gone [])), Wk.box b13 73 (cDisk mb p s.loose.length c s), Wk.box b 73 (cDisk m p s.loose.length c s), Wk.row 143 65 p s.loose.length c (encL s.loose)]) (fun (gone : List (Int × Blk)) => []) (fun (gone : List (Int × Blk)) => gone.length ≤ s.firm.length) (fun (gone : List (Int × Blk)) => s.firm.length - gone.length) ([]) ?_ S.uu ?_ ?_
  · exact Nat.zero_le _
  · replace S := S.front (mpin m ri (kvB s.firm) [])
    exact S.sub [mpin m ri (kvB s.firm) [], mpn mb [], Wk.box b13 73 (cDisk mb p s.loose.length c s), Wk.box b 73 (cDisk m p s.loose.length c s), Wk.row 143 65 p s.loose.length c (encL s.loose)] []
  · clear S; rintro gone uu a w hdl S
    refine c_seq ?_
    refine c_region ?_
    refine snxN S ?_; clear S; intro more k v a w hfin hmore S
    refine sq S ?_; clear S; intro a S
    refine wl_nil ?_
    refine xtn ?_
    refine c_seq ?_
    refine c_cond S (fun h6 => ?_) (fun h6 => ?_)
    · refine c_skip ?_
      refine xtn ?_
      refine c_block ?_
      refine c_seq ?_
      subst h6
      obtain ⟨hkv, hlen2⟩ := hmore rfl
      obtain ⟨x, hx, rfl⟩ := kv_of_mem hkv
      have hl2 : gone.length + 1 ≤ s.firm.length := by simpa [kvB] using hlen2
      rw [cond_true] at S
      refine c_region ?_
      iterate 3 (refine sq S ?_; clear S; intro a S)
      refine sa S ?_; clear S; intro b5 a w S
      refine sq S ?_; clear S; intro a S
      refine sw S ?_; clear S; intro a w S
      refine wl_nil ?_
      refine xtn ?_
      refine c_drawE [(0, true), (1, true), (2, true), (3, true), (4, true), (5, true), (6, true), (7, false)] [Wk.box b5 107 (encL x.l), Wk.box b13 73 (cDisk mb p s.loose.length c s)] S ?_; clear S; intro w S
      iterate 7 (refine dq S ?_; clear S; intro a S)
      refine dl ?_
      refine smui S ?_; clear S; intro a w S
      rw [show kiPut k (.agg ⟨encL x.l⟩) (kvB (putAll gone [])) = kvB (putAll (gone ++ [(k, x)]) []) from by rw [show (Value.agg ⟨encL x.l⟩) = vBlk x from rfl, kiPut_kvB]; unfold putAll; rw [List.foldl_append]; rfl] at S
      refine de S ?_
      refine dn ?_
      refine xbn ?_
      refine xtn ?_
      rw [show kvB gone ++ [(k, vBlk x)] = kvB (gone ++ [(k, x)]) from by rw [kvB, kvB, List.map_append]; rfl] at S
      exact ⟨gone ++ [(k, x)], S.uu, by simp; omega, (S.front (mpin m ri (kvB s.firm) (kvB (gone ++ [(k, x)])))).sub _ _, by simp; omega⟩
    · refine c_exit ?_
      iterate 2 (refine xte ?_)
      refine xbe ?_
      refine xtn ?_
      refine c_seq ?_
      subst h6
      rw [cond_false] at S
      have hperm := kvB_perm (hfin rfl)
      have hmm := mpin_mpn (S.it (mpin m ri (kvB s.firm) (kvB gone)))
      replace S := St.become S (mpin m ri (kvB s.firm) (kvB gone)) (mpn m (kvB s.firm)) (S.it (mpin m ri (kvB s.firm) (kvB gone))) mpin_mpn (fun k hk => .inl hk)
      refine c_region ?_
      iterate 7 (refine sq S ?_; clear S; intro a S)
      refine smk s.loose.length S rfl rfl (by omega) (by simp only [maxLen]; omega) ?_; clear S; intro g a w S
      rw [show (List.replicate s.loose.length (.int .i64 0 :: encL (List.replicate 64 (0 : UInt8)))).flatten = encL (List.replicate s.loose.length (⟨0, zB⟩ : LWr)) from (enc_repW _).symm] at S
      iterate 3 (refine sq S ?_; clear S; intro a S)
      refine sw S ?_; clear S; intro a w S
      refine wl_nil ?_
      refine xtn ?_
      refine c_seq ?_
      refine c_drawE [(0, true), (1, true), (2, true), (3, true), (4, true), (5, true), (6, true), (7, true), (8, true), (9, true), (10, false)] [Wk.box b13 73 (cDisk mb (some ⟨g, 0, none⟩) s.loose.length s.loose.length s), Wk.box b 73 (cDisk m p s.loose.length c s)] S ?_; clear S; intro w S
      iterate 10 (refine dq S ?_; clear S; intro a S)
      refine dl ?_
      refine scp S (Nat.le_refl _) ?_; clear S; intro a w S
      rw [List.drop_of_length_le (by rw [encL_len, List.length_replicate]; exact Nat.le_refl _), List.append_nil] at S
      refine de S ?_
      refine dn ?_
      refine xtn ?_
      refine c_seq ?_
      refine c_region ?_
      iterate 2 (refine sq S ?_; clear S; intro a S)
      refine wl_nil ?_
      refine xtn ?_
      refine c_ret ?_
      replace S := S.sub [Wk.row 143 65 (some ⟨g, 0, none⟩) s.loose.length s.loose.length (encL s.loose), mpn m (kvB s.firm), mpn mb (kvB (putAll gone [])), Wk.box b13 73 (cDisk mb (some ⟨g, 0, none⟩) s.loose.length s.loose.length s), Wk.box b 73 (cDisk m p s.loose.length c s), Wk.row 143 65 p s.loose.length c (encL s.loose)] []
      replace S := S.front (mpn mb (kvB (putAll gone [])))
      replace S := S.front (Wk.box b13 73 (cDisk mb (some ⟨g, 0, none⟩) s.loose.length s.loose.length s))
      replace S := S.front (Wk.row 143 65 p s.loose.length c (encL s.loose))
      replace S := S.front (mpn m (kvB s.firm))
      replace S := S.front (Wk.box b 73 (cDisk m p s.loose.length c s))
      replace S := St.close3 S
      replace S := S.front (Wk.row 143 65 (some ⟨g, 0, none⟩) s.loose.length s.loose.length (encL s.loose))
      replace S := S.front (mpn mb (kvB (putAll gone [])))
      replace S := S.front (Wk.box b13 73 (cDisk mb (some ⟨g, 0, none⟩) s.loose.length s.loose.length s))
      replace S := St.close3 S
      replace S : St w0 (dkI b m p c s).foot [] a w _ [dkI b13 mb (some ⟨g, 0, none⟩) s.loose.length (copD s (putAll gone [])), dkI b m p c s] [] := S
      replace S := S.front (dkI b m p c s)
      replace S := S.toBoth
      have h1 := S.it (both (dkI b m p c s) (dkI b13 mb (some ⟨g, 0, none⟩) s.loose.length (copD s (putAll gone []))))
      have h2 := S.itNew (both (dkI b m p c s) (dkI b13 mb (some ⟨g, 0, none⟩) s.loose.length (copD s (putAll gone [])))) rfl
      exact end1 S (fun _ => ⟨b13, mb, some ⟨g, 0, none⟩, s.loose.length, gone, rfl, hperm, h1, h2⟩)
end Go.Proofs.YtlphkccfcodmcaaGreat
