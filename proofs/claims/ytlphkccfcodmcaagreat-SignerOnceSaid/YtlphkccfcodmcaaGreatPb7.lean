/- 7: a part of this claim's texts, joined: WalV PlainFail SignC SignD SignE SignF SignG SignH SignI SignJ SignK SignL W11 RowSign. -/
import Derived.Test.YtlphkccfcodmcaaGreatPb6
import Derived.SizedLaws
import Derived.OpenShut
/- Logs as they are seen: what each call tells and leaves, as functions of the disk and of what was told, whatever fails. -/
namespace Go.Proofs.YtlphkccfcodmcaaGreat
open Go Go.Wk
set_option synthInstance.maxSize 100000
set_option synthInstance.maxHeartbeats 400000
set_option maxRecDepth 100000

/-- a log and its disk, without where they lie. -/
structure LV where
  s : DS
  n : Nat
  turn : Int
  said : List (List UInt8)
  fin : Nat
  broken : Bool
def LG.v (L : LG) : LV := ⟨L.s, L.x.n, L.x.turn, bsL L.x.said, L.x.fin, L.x.broken⟩
def LV.x (V : LV) : WS := ⟨V.n, V.turn, [], V.fin, V.broken⟩
structure LV.Wf (V : LV) (k : Nat) : Prop where
  n : V.n ≤ 1000
  fin : V.fin ≤ V.n
  some_ : 0 < V.said.length
  few : V.said.length ≤ V.fin
  short : ∀ b ∈ V.said, b.length ≤ 40000
  turn : 0 ≤ V.turn ∧ V.turn ≤ 4294967295
  loose : V.s.loose.length ≤ k
theorem LV.Wf.more {V : LV} {k k' : Nat} (h : V.Wf k) (hk : k ≤ k') : V.Wf k' := ⟨h.n, h.fin, h.some_, h.few, h.short, h.turn, Nat.le_trans h.loose hk⟩
def appV (V : LV) (bs : List UInt8) : LV × Int :=
  if roomF V.x bs ≠ 0 then (V, roomF V.x bs) else
  if (layF V.s ((fromN V.n V.turn + V.fin : Nat) : Int) (leavesF V.turn (V.said.length : Int) bs)).2 = 0 then
    ({ V with s := (layF V.s ((fromN V.n V.turn + V.fin : Nat) : Int) (leavesF V.turn (V.said.length : Int) bs)).1, said := V.said ++ [bs], fin := V.fin + secN bs.length }, 0)
  else ({ V with s := (layF V.s ((fromN V.n V.turn + V.fin : Nat) : Int) (leavesF V.turn (V.said.length : Int) bs)).1, broken := true }, (layF V.s ((fromN V.n V.turn + V.fin : Nat) : Int) (leavesF V.turn (V.said.length : Int) bs)).2)
def chkV (V : LV) (bs : List UInt8) : LV × Int :=
  if roomC V.x bs ≠ 0 then (V, roomC V.x bs) else
  if (begF V.n (upT V.turn) bs V.s).2 = 0 then ({ V with s := (begF V.n (upT V.turn) bs V.s).1, turn := upT V.turn, said := [bs], fin := secN bs.length }, 0)
  else ({ V with s := (begF V.n (upT V.turn) bs V.s).1, broken := true }, (begF V.n (upT V.turn) bs V.s).2)
theorem room_le {x : WS} {bs : List UInt8} (h : roomF x bs = 0) : bs.length ≤ 40000 ∧ (x.fin ≤ x.n → x.fin + secN bs.length ≤ x.n) := by
  unfold roomF at h
  by_cases h1 : refF x bs = 0
  · rw [if_pos h1] at h
    refine ⟨(refF_zero h1).1, fun _ => ?_⟩
    by_cases h2 : x.n - x.fin < secN bs.length
    · rw [if_pos h2] at h; cases h
    · omega
  · rw [if_neg h1] at h; exact absurd h h1
theorem roomC_le {x : WS} {bs : List UInt8} (h : roomC x bs = 0) : bs.length ≤ 40000 ∧ secN bs.length ≤ x.n := by
  unfold roomC at h
  by_cases h1 : refF x bs = 0
  · rw [if_pos h1] at h
    refine ⟨(refF_zero h1).1, ?_⟩
    by_cases h2 : x.n < secN bs.length ∨ upT x.turn = 0
    · rw [if_pos h2] at h; cases h
    · omega
  · rw [if_neg h1] at h; exact absurd h h1
theorem appV_wf {V : LV} {k : Nat} (h : V.Wf k) (bs : List UInt8) : (appV V bs).1.Wf (k + 840) := by
  unfold appV
  by_cases h1 : roomF V.x bs ≠ 0
  · rw [if_pos h1]; exact h.more (by omega)
  · rw [if_neg h1]
    have h1 : roomF V.x bs = 0 := Decidable.not_not.1 h1
    obtain ⟨hb, hr⟩ := room_le h1
    have hr : V.fin + secN bs.length ≤ V.n := hr h.fin
    have hlo := layF_loose V.s ((fromN V.n V.turn + V.fin : Nat) : Int) (leavesF V.turn (V.said.length : Int) bs)
    have hse := secN_le _ hb
    have hsp := secN_pos bs.length
    have hl := h.loose
    have hf := h.few
    rw [leavesF_len] at hlo
    by_cases h2 : (layF V.s ((fromN V.n V.turn + V.fin : Nat) : Int) (leavesF V.turn (V.said.length : Int) bs)).2 = 0
    · rw [if_pos h2]
      refine ⟨h.n, hr, ?_, ?_, ?_, h.turn, ?_⟩
      · simp only [List.length_append, List.length_singleton]; omega
      · simp only [List.length_append, List.length_singleton]; omega
      · intro b hb'
        rcases List.mem_append.1 hb' with h3 | h3
        · exact h.short b h3
        · obtain rfl := List.mem_singleton.1 h3; exact hb
      · show (layF _ _ _).1.loose.length ≤ _; omega
    · rw [if_neg h2]
      exact ⟨h.n, h.fin, h.some_, h.few, h.short, h.turn, by show (layF _ _ _).1.loose.length ≤ _; omega⟩
theorem chkV_wf {V : LV} {k : Nat} (h : V.Wf k) (bs : List UInt8) : (chkV V bs).1.Wf (k + 840) := by
  unfold chkV
  by_cases h1 : roomC V.x bs ≠ 0
  · rw [if_pos h1]; exact h.more (by omega)
  · rw [if_neg h1]
    have h1 : roomC V.x bs = 0 := Decidable.not_not.1 h1
    obtain ⟨hb, hr⟩ := roomC_le h1
    have hr : secN bs.length ≤ V.n := hr
    have hlo := begF_loose V.n (upT V.turn) bs hb V.s
    have hsp := secN_pos bs.length
    have hl := h.loose
    by_cases h2 : (begF V.n (upT V.turn) bs V.s).2 = 0
    · rw [if_pos h2]
      refine ⟨h.n, hr, Nat.zero_lt_one, hsp, ?_, ?_, ?_⟩
      · intro b hb'
        obtain rfl := List.mem_singleton.1 hb'; exact hb
      · have := upT_range V.turn; exact this
      · show (begF _ _ _ _).1.loose.length ≤ _; omega
    · rw [if_neg h2]
      exact ⟨h.n, h.fin, h.some_, h.few, h.short, h.turn, by show (begF _ _ _ _).1.loose.length ≤ _; omega⟩
theorem v_len (L : LG) : L.v.said.length = L.x.said.length := List.length_map _
theorem append_v (b g : Nat) (L : LG) (k : Nat) (y : LBy) (h : L.v.Wf k) (hk : k ≤ 980000) (hyl : y.bs.length ≤ 1000000) (w0 : World) (hd : (lgI b g L).holds w0) (f0 : Stable (lgI b g L).foot w0 (GlF y.p y.bs)) :
    Ret Tryz.prog 25 [.pointer (some ⟨g, 0, none⟩), .slice y.p y.bs.length y.c] w0 (lgI b g L).foot fun v w' => ∃ L', v = .int .i64 (appV L.v y.bs).2 ∧ (lgI b g L').holds w' ∧ (∀ k, (lgI b g L').foot k → (lgI b g L).foot k ∨ w0.heap.size ≤ k) ∧ L'.m = L.m ∧ L'.v = (appV L.v y.bs).1 := by
  have hvl := v_len L
  have hcap := lg_cap hd
  obtain ⟨m, p, c, s, q, e, x⟩ := L
  have hn : x.n ≤ 1000 := h.n
  have hfi : x.fin ≤ x.n := h.fin
  have hs0 := h.some_
  have hsf : (LG.v ⟨m, p, c, s, q, e, x⟩).said.length ≤ x.fin := h.few
  have ht : 0 ≤ x.turn ∧ x.turn ≤ 4294967295 := h.turn
  have hl : s.loose.length ≤ k := h.loose
  have hvl : (LG.v ⟨m, p, c, s, q, e, x⟩).said.length = x.said.length := hvl
  rw [hvl] at hs0 hsf
  have hcap : x.said.length ≤ e := hcap
  refine (append_c g b m p c s q e x y w0 hn hfi ⟨by omega, hcap⟩ hs0 ht hyl (by omega) hd f0).mono fun v w' => ?_
  have hrm : roomF (LG.v ⟨m, p, c, s, q, e, x⟩).x y.bs = roomF x y.bs := rfl
  unfold appV
  rw [hrm, hvl]
  rintro (⟨ha, rfl, hb⟩ | ⟨ha, rfl, p', c', q', e', y', hy', he', hh, hf⟩)
  · rw [if_pos ha]
    exact ⟨⟨m, p, c, s, q, e, x⟩, rfl, hb, fun k hk => .inl hk, rfl, rfl⟩
  · rw [if_neg (fun h => h ha)]
    have hR : layF (LG.v ⟨m, p, c, s, q, e, x⟩).s ((fromN (LG.v ⟨m, p, c, s, q, e, x⟩).n (LG.v ⟨m, p, c, s, q, e, x⟩).turn + (LG.v ⟨m, p, c, s, q, e, x⟩).fin : Nat) : Int) (leavesF (LG.v ⟨m, p, c, s, q, e, x⟩).turn (x.said.length : Int) y.bs) = layF s ((fromN x.n x.turn + x.fin : Nat) : Int) (leavesF x.turn (x.said.length : Int) y.bs) := rfl
    rw [hR]
    obtain ⟨R, hR⟩ : ∃ R, R = layF s ((fromN x.n x.turn + x.fin : Nat) : Int) (leavesF x.turn (x.said.length : Int) y.bs) := ⟨_, rfl⟩
    rw [← hR] at hh hf ⊢
    refine ⟨⟨m, p', c', R.1, q', e', appS x y' R.2⟩, ?_, hh, hf, rfl, ?_⟩
    · by_cases h2 : R.2 = 0
      · rw [if_pos h2, h2]
      · rw [if_neg h2]
    · by_cases h2 : R.2 = 0
      · rw [if_pos h2]
        show LG.v _ = _
        unfold LG.v appS
        rw [if_pos h2]
        simp only [bsL, List.map_append, List.map_cons, List.map_nil, hy']
      · rw [if_neg h2]
        show LG.v _ = _
        unfold LG.v appS
        rw [if_neg h2]
theorem chk_v (b g : Nat) (L : LG) (k : Nat) (y : LBy) (h : L.v.Wf k) (hk : k ≤ 980000) (hyl : y.bs.length ≤ 1000000) (w0 : World) (hd : (lgI b g L).holds w0) (f0 : Stable (lgI b g L).foot w0 (GlF y.p y.bs)) :
    Ret Tryz.prog 24 [.pointer (some ⟨g, 0, none⟩), .slice y.p y.bs.length y.c] w0 (lgI b g L).foot fun v w' => ∃ L', v = .int .i64 (chkV L.v y.bs).2 ∧ (lgI b g L').holds w' ∧ (∀ k, (lgI b g L').foot k → (lgI b g L).foot k ∨ w0.heap.size ≤ k) ∧ L'.m = L.m ∧ L'.v = (chkV L.v y.bs).1 := by
  obtain ⟨m, p, c, s, q, e, x⟩ := L
  have hn : x.n ≤ 1000 := h.n
  have ht : 0 ≤ x.turn ∧ x.turn ≤ 4294967295 := h.turn
  have hl : s.loose.length ≤ k := h.loose
  refine (chk_c g b m p c s q e x y w0 hn ht hyl (by omega) hd f0).mono fun v w' => ?_
  have hrm : roomC (LG.v ⟨m, p, c, s, q, e, x⟩).x y.bs = roomC x y.bs := rfl
  unfold chkV
  rw [hrm]
  rintro (⟨ha, rfl, hb⟩ | ⟨ha, rfl, p', c', q', e', y', hy', -, -, hh, hf⟩)
  · rw [if_pos ha]
    exact ⟨⟨m, p, c, s, q, e, x⟩, rfl, hb, fun k hk => .inl hk, rfl, rfl⟩
  · rw [if_neg (fun h => h ha)]
    have hR : begF (LG.v ⟨m, p, c, s, q, e, x⟩).n (upT (LG.v ⟨m, p, c, s, q, e, x⟩).turn) y.bs (LG.v ⟨m, p, c, s, q, e, x⟩).s = begF x.n (upT x.turn) y.bs s := rfl
    rw [hR]
    obtain ⟨R, hR⟩ : ∃ R, R = begF x.n (upT x.turn) y.bs s := ⟨_, rfl⟩
    rw [← hR] at hh hf ⊢
    refine ⟨⟨m, p', c', R.1, q', e', chkS x y' R.2⟩, ?_, hh, hf, rfl, ?_⟩
    · by_cases h2 : R.2 = 0
      · rw [if_pos h2, h2]
      · rw [if_neg h2]
    · by_cases h2 : R.2 = 0
      · rw [if_pos h2]
        show LG.v _ = _
        unfold LG.v chkS
        rw [if_pos h2]
        simp only [bsL, List.map_cons, List.map_nil, hy']
      · rw [if_neg h2]
        show LG.v _ = _
        unfold LG.v chkS
        rw [if_neg h2]
/-! a log is opened, and laid -/
def opnV (s : DS) : LV := ⟨(openF s).1, (openF s).2.2.n, (openF s).2.2.turn, (openF s).2.2.said, (openF s).2.2.fin, false⟩
theorem readF_ok (t : Int) (field : List Blk) : ∀ (f at_ j : Nat), at_ ≤ field.length → (readF t field f at_ j).1.length + at_ ≤ (readF t field f at_ j).2 ∧ (readF t field f at_ j).2 ≤ field.length ∧ ∀ b ∈ (readF t field f at_ j).1, b.length ≤ 40000
  | 0, at_, j, h => ⟨by simp [readF], h, fun b hb => by simp [readF] at hb⟩
  | f + 1, at_, j, h => by
    rw [readF]
    cases hs : standF t field at_ (j : Int) with
    | none => exact ⟨by simp, h, fun b hb => by simp at hb⟩
    | some bs =>
      have h1 := stand_len hs
      have h2 := stand_get hs
      have h3 := secN_pos bs.length
      obtain ⟨r1, r2, r3⟩ := readF_ok t field f (at_ + secN bs.length) (j + 1) h1
      refine ⟨?_, r2, fun b hb => ?_⟩
      · simp only [List.length_cons]; omega
      · rcases List.mem_cons.1 hb with rfl | hb
        · exact h2.1
        · exact r3 b hb
theorem opnV_wf {s : DS} (h : (openF s).2.1 = 0) : (opnV s).Wf (s.loose.length + 1000) := by
  have hlo := openF_loose s
  have hcok := cntF_ok s
  by_cases h1 : (cntF s).2.1 = 0
  · obtain ⟨hz, hn, ht⟩ := hcok.2 h1
    have e1 : openF s = openB (cntF s).2.2.n.toNat (cntF s).2.2.t (cntF s).1 := by rw [openF, if_pos h1]
    obtain ⟨n, hn'⟩ : ∃ n, n = (cntF s).2.2.n.toNat := ⟨_, rfl⟩
    have hn1 : n ≤ 1000 := by omega
    rw [← hn'] at e1
    by_cases h2 : (fieldW (fromN n (cntF s).2.2.t) n 0 (cntF s).1).2.1 = 0
    · have e2 := e1
      rw [openB, if_pos h2] at e2
      have hfl := (fieldW_same (fromN n (cntF s).2.2.t) n 0 (cntF s).1).2
      obtain ⟨F, hF⟩ : ∃ F, F = fieldW (fromN n (cntF s).2.2.t) n 0 (cntF s).1 := ⟨_, rfl⟩
      rw [← hF] at e2 hfl
      have hrd := readF_ok (cntF s).2.2.t F.2.2 F.2.2.length 0 0 (Nat.zero_le _)
      rw [openC] at e2
      by_cases h3 : (readF (cntF s).2.2.t F.2.2 F.2.2.length 0 0).1 = []
      · rw [if_pos h3] at e2; rw [e2] at h; cases h
      · rw [if_neg h3] at e2
        by_cases h4 : (clrF (fromN n (cntF s).2.2.t) (readF (cntF s).2.2.t F.2.2 F.2.2.length 0 0).2 F.2.2 F.1).2 = 0
        · rw [if_pos h4] at e2
          have h5 := List.length_pos_iff.2 h3
          unfold opnV
          refine ⟨?_, ?_, ?_, ?_, ?_, ?_, hlo⟩ <;> rw [e2]
          · exact hn1
          · show (readF _ _ _ _ _).2 ≤ n; omega
          · exact h5
          · show (readF _ _ _ _ _).1.length ≤ (readF _ _ _ _ _).2; omega
          · exact hrd.2.2
          · exact ht
        · rw [if_neg h4] at e2; rw [e2] at h; exact absurd h h4
    · rw [openB, if_neg h2] at e1; rw [e1] at h; exact absurd h h2
  · rw [openF, if_neg h1] at h; exact absurd h h1
theorem openV_c (b m : Nat) (p : Option Addr) (c : Nat) (s : DS) (hl : s.loose.length ≤ 980000) (w0 : World) (hd : (dkI b m p c s).holds w0) :
    Ret Tryz.prog 23 [.pointer (some ⟨b, 0, none⟩)] w0 (dkI b m p c s).foot fun v w' =>
      ((openF s).2.1 ≠ 0 ∧ v = .tuple ⟨[.pointer none, .int .i64 (openF s).2.1]⟩ ∧ ∃ p' c', (dkI b m p' c' (openF s).1).holds w' ∧ ∀ k, (dkI b m p' c' (openF s).1).foot k → (dkI b m p c s).foot k ∨ w0.heap.size ≤ k) ∨
      ((openF s).2.1 = 0 ∧ ∃ g L, v = .tuple ⟨[.pointer (some ⟨g, 0, none⟩), .int .i64 0]⟩ ∧ L.m = m ∧ L.v = opnV s ∧ (lgI b g L).holds w' ∧ ∀ k, (lgI b g L).foot k → (dkI b m p c s).foot k ∨ w0.heap.size ≤ k) := by
  refine (open_c b m p c s w0 hl hd).mono fun v w' => ?_
  rintro (h | ⟨h0, g, p', c', q, e, x, hv, ⟨x1, x2, x3, x4, x5⟩, hh, hf⟩)
  · exact .inl h
  · refine .inr ⟨h0, g, ⟨m, p', c', (openF s).1, q, e, x⟩, hv, rfl, ?_, hh, hf⟩
    unfold LG.v opnV
    simp only [x1, x2, x4, x5, bsL, x3]
def fmtV (n : Nat) (s : DS) : LV := ⟨(fmtF n s).1, n, 0, [[]], 1, false⟩
theorem format_v (b m n : Nat) (p : Option Addr) (c : Nat) (s : DS) (hm : mayF s n = true) (hl : s.loose.length ≤ 980000) (w0 : World) (hd : (dkI b m p c s).holds w0) :
    Ret Tryz.prog 27 [.pointer (some ⟨b, 0, none⟩), .int .i64 (n : Int)] w0 (dkI b m p c s).foot fun v w' =>
      ((fmtF n s).2 ≠ 0 ∧ v = .tuple ⟨[.pointer none, .int .i64 (fmtF n s).2]⟩ ∧ ∃ p' c', (dkI b m p' c' (fmtF n s).1).holds w' ∧ ∀ k, (dkI b m p' c' (fmtF n s).1).foot k → (dkI b m p c s).foot k ∨ w0.heap.size ≤ k) ∨
      ((fmtF n s).2 = 0 ∧ ∃ g L, v = .tuple ⟨[.pointer (some ⟨g, 0, none⟩), .int .i64 0]⟩ ∧ L.m = m ∧ L.v = fmtV n s ∧ (lgI b g L).holds w' ∧ ∀ k, (lgI b g L).foot k → (dkI b m p c s).foot k ∨ w0.heap.size ≤ k) := by
  refine (format_c b m n p c s w0 hm hl hd).mono fun v w' => ?_
  rintro (h | ⟨h0, g, p', c', q, e, hv, hh, hf⟩)
  · exact .inl h
  · exact .inr ⟨h0, g, ⟨m, p', c', (fmtF n s).1, q, e, newW n⟩, hv, rfl, rfl, hh, hf⟩
/-! what a log tells -/
theorem left_v (b g : Nat) (L : LG) (k : Nat) (h : L.v.Wf k) (w0 : World) (hd : (lgI b g L).holds w0) : Ret Tryz.prog 70 [.pointer (some ⟨g, 0, none⟩)] w0 (fun _ => False) fun v _ => v = .int .i64 ((L.v.n : Int) - L.v.fin) := by
  have h1 := h.n
  have h2 := h.fin
  have h3 := h.few
  have h4 := h.some_
  rw [v_len] at h3 h4
  exact wleft_c g b L.q L.e L.x ⟨by omega, h4⟩ (show L.v.fin ≤ _ by omega) h1 w0 (BoxF.stable hd.2.1.1 (fun h => h))
theorem broken_v (b g : Nat) (L : LG) (w0 : World) (hd : (lgI b g L).holds w0) : Ret Tryz.prog 30 [.pointer (some ⟨g, 0, none⟩)] w0 (fun _ => False) fun v _ => v = .bool L.v.broken :=
  wbroken_c g b L.q L.e L.x w0 (BoxF.stable hd.2.1.1 (fun h => h))
theorem snap_v (b g : Nat) (L : LG) (k : Nat) (h : L.v.Wf k) (w0 : World) (hd : (lgI b g L).holds w0) :
    Ret Tryz.prog 39 [.pointer (some ⟨g, 0, none⟩)] w0 (fun _ => False) fun v w' => ∃ bs p' c', L.v.said[0]? = some bs ∧ v = .slice p' bs.length c' ∧ w'.ownsRow 0 5 1 (.slice p' bs.length c') bs.length (encL bs) ∧ ∀ ad, p' = some ad → w0.heap.size ≤ ad.block := by
  have h4 := h.some_
  rw [v_len] at h4
  have hg := nthG_get h4
  have e0 : L.v.said[0]? = some (nthG L.x.said 0).bs := by
    show (bsL L.x.said)[0]? = _
    rw [bsL, List.getElem?_map, hg]; rfl
  have hs := h.short _ (List.mem_of_getElem? e0)
  have hent := (allBy_ent hd.2.1.2.1.2.1).imp fun _ h => h (nthG L.x.said 0) (List.mem_of_getElem? hg)
  refine (snap_c g b L.q L.e L.x (nthG L.x.said 0) h4 rfl (by omega) w0 (BoxF.stable hd.2.1.1 (fun h => h)) (gl_own hd.2.1.2.1.1 (fun _ _ _ _ => trivial) (fun _ _ h => h)) hent).mono fun v w' => ?_
  rintro ⟨p', c', h1, h2, h3⟩
  exact ⟨_, p', c', e0, h1, h2, h3⟩
end Go.Proofs.YtlphkccfcodmcaaGreat

/- Logs on disks where something is to fail: as if the power were to go then. -/
namespace Go.Proofs.YtlphkccfcodmcaaGreat
open Go Go.Wk
set_option maxRecDepth 100000

def Cnt.ok (c : Cnt) : Prop := c.on = true → 0 ≤ c.left ∧ c.left ≤ 9223372036854775807
/-- the one of two counters that is met first. -/
def bothC (f a : Cnt) : Cnt := if f.on then (if a.on then (if f.left ≤ a.left then f else a) else f) else a
theorem met_ok {c : Cnt} (h : c.ok) : (metF c).2.ok := by
  obtain ⟨on, left⟩ := c
  cases on with
  | false => intro h1; exact absurd h1 (by rw [metF, if_neg Bool.false_ne_true]; exact Bool.false_ne_true)
  | true =>
    have h1 := h rfl
    simp only [] at h1
    by_cases h0 : left = 0
    · intro h2; rw [metF, if_pos rfl, if_pos h0] at h2; cases h2
    · intro _
      rw [metF, if_pos rfl, if_neg h0]
      show 0 ≤ IntKind.i64.wrap (left - 1) ∧ IntKind.i64.wrap (left - 1) ≤ _
      rw [w64 _ (by omega) (by omega)]; omega
theorem met_both {f a : Cnt} (hf : f.ok) (ha : a.ok) : (metF (bothC f a)).1 = ((metF f).1 || (metF a).1) ∧ ((metF f).1 = false → (metF a).1 = false → (metF (bothC f a)).2 = bothC (metF f).2 (metF a).2) := by
  obtain ⟨fo, fl⟩ := f
  obtain ⟨ao, al⟩ := a
  cases fo with
  | false =>
    have e : bothC ⟨false, fl⟩ ⟨ao, al⟩ = ⟨ao, al⟩ := rfl
    have e2 : metF ⟨false, fl⟩ = (false, ⟨false, fl⟩) := rfl
    rw [e, e2]
    exact ⟨(Bool.false_or _).symm, fun _ _ => rfl⟩
  | true =>
    have h1 := hf rfl
    simp only [] at h1
    cases ao with
    | false =>
      have e : bothC ⟨true, fl⟩ ⟨false, al⟩ = ⟨true, fl⟩ := rfl
      have e2 : metF ⟨false, al⟩ = (false, ⟨false, al⟩) := rfl
      rw [e, e2]
      refine ⟨(Bool.or_false _).symm, fun h2 _ => ?_⟩
      by_cases h0 : fl = 0
      · rw [metF, if_pos rfl, if_pos h0] at h2; cases h2
      · rw [metF, if_pos rfl, if_neg h0]; rfl
    | true =>
      have h2 := ha rfl
      simp only [] at h2
      by_cases hle : fl ≤ al
      · have e : bothC ⟨true, fl⟩ ⟨true, al⟩ = ⟨true, fl⟩ := by rw [bothC, if_pos rfl, if_pos rfl]; exact if_pos hle
        rw [e]
        by_cases h0 : fl = 0
        · have e1 : metF ⟨true, fl⟩ = (true, ⟨false, 0⟩) := by rw [metF, if_pos rfl]; exact if_pos h0
          rw [e1]; exact ⟨(Bool.true_or _).symm, fun h => by cases h⟩
        · have e1 : metF ⟨true, fl⟩ = (false, ⟨true, fl - 1⟩) := by rw [metF, if_pos rfl]; show (if fl = 0 then _ else (false, (⟨true, IntKind.i64.wrap (fl - 1)⟩ : Cnt))) = _; rw [if_neg h0, w64 _ (by omega) (by omega)]
          have e3 : metF ⟨true, al⟩ = (false, ⟨true, al - 1⟩) := by rw [metF, if_pos rfl]; show (if al = 0 then _ else (false, (⟨true, IntKind.i64.wrap (al - 1)⟩ : Cnt))) = _; rw [if_neg (by omega), w64 _ (by omega) (by omega)]
          rw [e1, e3]
          refine ⟨rfl, fun _ _ => ?_⟩
          show (⟨true, fl - 1⟩ : Cnt) = if fl - 1 ≤ al - 1 then _ else _
          rw [if_pos (by omega)]
      · have e : bothC ⟨true, fl⟩ ⟨true, al⟩ = ⟨true, al⟩ := by rw [bothC, if_pos rfl, if_pos rfl]; exact if_neg hle
        rw [e]
        by_cases h0 : al = 0
        · have e1 : metF ⟨true, al⟩ = (true, ⟨false, 0⟩) := by rw [metF, if_pos rfl]; exact if_pos h0
          rw [e1]; exact ⟨(Bool.or_true _).symm, fun _ h => by cases h⟩
        · have e1 : metF ⟨true, fl⟩ = (false, ⟨true, fl - 1⟩) := by rw [metF, if_pos rfl]; show (if fl = 0 then _ else (false, (⟨true, IntKind.i64.wrap (fl - 1)⟩ : Cnt))) = _; rw [if_neg (by omega), w64 _ (by omega) (by omega)]
          have e3 : metF ⟨true, al⟩ = (false, ⟨true, al - 1⟩) := by rw [metF, if_pos rfl]; show (if al = 0 then _ else (false, (⟨true, IntKind.i64.wrap (al - 1)⟩ : Cnt))) = _; rw [if_neg h0, w64 _ (by omega) (by omega)]
          rw [e1, e3]
          refine ⟨rfl, fun _ _ => ?_⟩
          show (⟨true, al - 1⟩ : Cnt) = if fl - 1 ≤ al - 1 then _ else _
          rw [if_neg (by omega)]
/-- the same writes on the same sectors. -/
structure Same3 (r r' : DS) : Prop where
  loose : r.loose = r'.loose
  firm : r.firm = r'.firm
  size : r.size = r'.size
/-- a disk, and one whose power goes where that one fails. -/
structure Sim (s s' : DS) : Prop where
  same : Same3 s s'
  on : s.out = false
  up : Up s'
  arms : s'.arms = bothC s.fails s.arms
  okf : s.fails.ok
  oka : s.arms.ok
theorem askD_same (s : DS) (k : Int) (b : Bool) : Same3 (askD s k b) s := by
  unfold askD
  split
  · exact ⟨rfl, rfl, rfl⟩
  · split
    · exact ⟨rfl, rfl, rfl⟩
    · split
      · exact ⟨rfl, rfl, rfl⟩
      · split
        · split <;> exact ⟨rfl, rfl, rfl⟩
        · exact ⟨rfl, rfl, rfl⟩
theorem Same3.tr {a b c d : DS} (h : Same3 b c) (h1 : Same3 a b) (h2 : Same3 d c) : Same3 a d := ⟨h1.loose.trans (h.loose.trans h2.loose.symm), h1.firm.trans (h.firm.trans h2.firm.symm), h1.size.trans (h.size.trans h2.size.symm)⟩
theorem ask_sim {s s' : DS} (h : Sim s s') {k : Int} (hk : 0 ≤ k ∧ k < s.size) :
    (askE s k true = 0 ∧ askE s' k true = 0 ∧ Sim (askD s k true) (askD s' k true)) ∨ (askE s k true ≠ 0 ∧ askE s' k true ≠ 0 ∧ Same3 (askD s k true) (askD s' k true)) := by
  have hs3 : Same3 (askD s k true) (askD s' k true) := h.same.tr (askD_same s k true) (askD_same s' k true)
  have hk' : 0 ≤ k ∧ k < s'.size := by rw [← h.same.size]; exact hk
  have e' := ask_up h.up hk' true
  have d' := askD_up h.up hk'
  obtain ⟨m1, m2⟩ := met_both h.okf h.oka
  rw [← h.arms] at m1 m2
  have hit' : hit s' = ((metF s.fails).1 || (metF s.arms).1) := m1
  have e : askE s k true = if (metF s.fails).1 then 8 else if (metF s.arms).1 then 9 else 0 := by
    rw [askE, if_neg (by rw [h.on]; exact Bool.false_ne_true), if_neg (by omega), Bool.true_and]
  have d : askD s k true = if (metF s.fails).1 then { s with fails := (metF s.fails).2 } else (if (metF s.arms).1 then { s with fails := (metF s.fails).2, arms := (metF s.arms).2, out := true } else { s with fails := (metF s.fails).2, arms := (metF s.arms).2 }) := by
    rw [askD, if_neg (by rw [h.on]; exact Bool.false_ne_true), if_neg (by omega), if_pos rfl]
  cases hf : (metF s.fails).1 with
  | true =>
    rw [hf] at e hit'
    rw [hit'] at e'
    exact .inr ⟨by rw [e]; simp, by rw [e']; simp, hs3⟩
  | false =>
    cases ha : (metF s.arms).1 with
    | true =>
      rw [hf, ha] at e hit'
      rw [hit'] at e'
      exact .inr ⟨by rw [e]; simp, by rw [e']; simp, hs3⟩
    | false =>
      rw [hf, ha] at e hit' d
      rw [hit'] at e' d'
      refine .inl ⟨e, e', hs3, ?_, ?_, ?_, ?_, ?_⟩
      · rw [d]; exact h.on
      · rw [d']; exact ⟨h.up.on, h.up.fit⟩
      · rw [d, d']; exact m2 hf ha
      · rw [d]; exact met_ok h.okf
      · rw [d]; exact met_ok h.oka
theorem wr_sim {s s' : DS} (h : Sim s s') {k : Int} (x : Blk) (hk : 0 ≤ k ∧ k < s.size) :
    (askE s k true = 0 ∧ askE s' k true = 0 ∧ Sim (wrD s k x) (wrD s' k x)) ∨ (askE s k true ≠ 0 ∧ askE s' k true ≠ 0 ∧ Same3 (wrD s k x) (wrD s' k x)) := by
  rcases ask_sim h hk with ⟨h1, h2, h3⟩ | ⟨h1, h2, h3⟩
  · refine .inl ⟨h1, h2, ?_⟩
    rw [wrD, askedD, if_pos h1, wrD, askedD, if_pos h2]
    exact ⟨⟨by show _ ++ _ = _ ++ _; rw [h3.same.loose], h3.same.firm, h3.same.size⟩, h3.on, ⟨h3.up.on, h3.up.fit⟩, h3.arms, h3.okf, h3.oka⟩
  · refine .inr ⟨h1, h2, ?_⟩
    rw [wrD, askedD, if_neg h1, wrD, askedD, if_neg h2]; exact h3
theorem sy_sim {s s' : DS} (h : Sim s s') (hk : 0 < s.size) :
    (askE s 0 true = 0 ∧ askE s' 0 true = 0 ∧ Sim (syD s) (syD s')) ∨ (askE s 0 true ≠ 0 ∧ askE s' 0 true ≠ 0 ∧ Same3 (syD s) (syD s')) := by
  rcases ask_sim h (k := 0) ⟨Int.le_refl _, hk⟩ with ⟨h1, h2, h3⟩ | ⟨h1, h2, h3⟩
  · refine .inl ⟨h1, h2, ?_⟩
    rw [syD, askedD, if_pos h1, syD, askedD, if_pos h2]
    refine ⟨⟨rfl, ?_, h3.same.size⟩, h3.on, ⟨h3.up.on, h3.up.fit⟩, h3.arms, h3.okf, h3.oka⟩
    show settleK _ _ _ _ = settleK _ _ _ _
    rw [h3.same.loose, h3.same.firm]
  · refine .inr ⟨h1, h2, ?_⟩
    rw [syD, askedD, if_neg h1, syD, askedD, if_neg h2]; exact h3
theorem layW_sim : ∀ (xs : List Blk) {s s' : DS} (k : Nat), Sim s s' → ((k + xs.length : Nat) : Int) ≤ s.size →
    ((layW s k xs).2 = 0 ∧ (layW s' k xs).2 = 0 ∧ Sim (layW s k xs).1 (layW s' k xs).1) ∨ ((layW s k xs).2 ≠ 0 ∧ (layW s' k xs).2 ≠ 0 ∧ Same3 (layW s k xs).1 (layW s' k xs).1)
  | [], _, _, _, h, _ => .inl ⟨rfl, rfl, h⟩
  | x :: xs, s, s', k, h, hk => by
    simp only [List.length_cons] at hk
    rw [layW, layW]
    rcases wr_sim h (k := (k : Int)) x (by omega) with ⟨h1, h2, h3⟩ | ⟨h1, h2, h3⟩
    · rw [if_pos h1, if_pos h2]
      have hsz : (wrD s k x).size = s.size := by
        have e : wrD s k x = opD (writeD (askD s k true) k x) := by rw [wrD, askedD, if_pos h1]
        rw [e]; exact (askD_same s k true).size
      exact layW_sim xs (k + 1) h3 (by rw [hsz]; omega)
    · rw [if_neg h1, if_neg h2]; exact .inr ⟨h1, h2, h3⟩
theorem layW_size : ∀ (xs : List Blk) (s : DS) (k : Int), (layW s k xs).1.size = s.size
  | [], _, _ => rfl
  | x :: xs, s, k => by
    have e : (wrD s k x).size = s.size := by
      rw [wrD, askedD]
      split
      · exact (askD_same s k true).size
      · exact (askD_same s k true).size
    rw [layW]
    split
    · rw [layW_size xs]; exact e
    · exact e
theorem layF_sim (xs : List Blk) {s s' : DS} (k : Nat) (h : Sim s s') (h0 : 0 < s.size) (hk : ((k + xs.length : Nat) : Int) ≤ s.size) :
    ((layF s k xs).2 = 0 ∧ (layF s' k xs).2 = 0 ∧ Sim (layF s k xs).1 (layF s' k xs).1) ∨ ((layF s k xs).2 ≠ 0 ∧ (layF s' k xs).2 ≠ 0 ∧ Same3 (layF s k xs).1 (layF s' k xs).1) := by
  rw [layF, layF]
  rcases layW_sim xs k h hk with ⟨h1, h2, h3⟩ | ⟨h1, h2, h3⟩
  · rw [if_pos h1, if_pos h2]
    exact sy_sim h3 (by rw [layW_size]; exact h0)
  · rw [if_neg h1, if_neg h2]; exact .inr ⟨h1, h2, h3⟩
theorem layF_size (s : DS) (k : Int) (xs : List Blk) : (layF s k xs).1.size = s.size := by
  rw [layF]
  split
  · show (syD _).size = _
    rw [← layW_size xs s k, syD, askedD]
    split
    · exact (askD_same _ _ _).size
    · exact (askD_same _ _ _).size
  · exact layW_size xs s k
theorem begF_sim (n : Nat) (t : Int) (bs : List UInt8) {s s' : DS} (h : Sim s s') (hn : n ≤ 1000) (hb : secN bs.length ≤ n) (hk : ((2 * n + 2 : Nat) : Int) ≤ s.size) :
    ((begF n t bs s).2 = 0 ∧ (begF n t bs s').2 = 0 ∧ Sim (begF n t bs s).1 (begF n t bs s').1) ∨ ((begF n t bs s).2 ≠ 0 ∧ (begF n t bs s').2 ≠ 0 ∧ Same3 (begF n t bs s).1 (begF n t bs s').1) := by
  have hfb := from_bound t hn
  have e : ∀ s, begF n t bs s = if (layF s (fromN n t : Nat) (leavesF t 0 bs)).2 = 0 then layF (layF s (fromN n t : Nat) (leavesF t 0 bs)).1 ((t % 2).toNat : Nat) [titleF t n] else layF s (fromN n t : Nat) (leavesF t 0 bs) := fun s => rfl
  rw [e s, e s']
  rcases layF_sim (leavesF t 0 bs) (fromN n t) h (by omega) (by rw [leavesF_len]; omega) with ⟨h1, h2, h3⟩ | ⟨h1, h2, h3⟩
  · rw [if_pos h1, if_pos h2]
    exact layF_sim [titleF t n] (t % 2).toNat h3 (by rw [layF_size]; omega) (by rw [layF_size]; simp only [List.length_singleton]; omega)
  · rw [if_neg h1, if_neg h2]; exact .inr ⟨h1, h2, h3⟩
/-! what lasts -/
theorem holds_same {r r' : DS} (h : Same3 r r') (j : Int) : holdsF r j = holdsF r' j := by rw [holdsF, holdsF, h.loose, h.firm]
theorem crash_same (l : List Bool) {r r' : DS} (h : Same3 r r') : Same3 (crashD l r) (crashD l r') := ⟨rfl, by show settleK _ _ _ _ = settleK _ _ _ _; rw [h.loose, h.firm], h.size⟩
theorem able_same {r r' : DS} {n : Nat} {t : Int} {said : List (List UInt8)} (h : Same3 r r') (hu : Up r) (ha : Able r' n t said) : Able r n t said := by
  obtain ⟨tail, hL, h1, h2⟩ := ha
  exact ⟨tail, hL.same hu (h.loose.trans hL.loose) h.size (holds_same h), h1, h2⟩
theorem able_crash (l : List Bool) {r r' : DS} {n : Nat} {t : Int} {said : List (List UInt8)} (h : Same3 r r') (ha : Able (crashD l r') n t said) : Able (crashD l r) n t said := able_same (crash_same l h) ⟨rfl, rfl⟩ ha
/-- a log's disk, where something may be to fail. -/
def LiveF (s : DS) (n : Nat) (t : Int) (said : List (List UInt8)) : Prop := ∃ s', Sim s s' ∧ Live s' n t said
theorem Live.liveF {s : DS} {n : Nat} {t : Int} {said : List (List UInt8)} (h : Live s n t said) (ha : s.arms.ok) : LiveF s n t said := by
  obtain ⟨tail, hL, _⟩ := id h
  refine ⟨s, ⟨⟨rfl, rfl, rfl⟩, hL.up.on, hL.up, ?_, ?_, ha⟩, h⟩
  · rw [bothC, if_neg (by rw [hL.up.fit]; exact Bool.false_ne_true)]
  · intro h1; rw [hL.up.fit] at h1; cases h1
/-- the counters are set anew. -/
theorem LiveF.set {s : DS} {n : Nat} {t : Int} {said : List (List UInt8)} (h : LiveF s n t said) (f a : Cnt) (hf : f.ok) (ha : a.ok) : LiveF { s with fails := f, arms := a } n t said := by
  obtain ⟨s', hs, tail, hL, hfr⟩ := h
  refine ⟨{ s' with arms := bothC f a }, ⟨⟨hs.same.loose, hs.same.firm, hs.same.size⟩, hs.on, ⟨hs.up.on, hs.up.fit⟩, rfl, hf, ha⟩, tail, hL.same ⟨hs.up.on, hs.up.fit⟩ hL.loose rfl (fun j => rfl), hfr⟩
theorem LiveF.crash {s : DS} {n : Nat} {t : Int} {said : List (List UInt8)} (h : LiveF s n t said) (keep : List Bool) : Able (crashD keep s) n t said := by
  obtain ⟨s', hs, hl⟩ := h
  refine able_crash keep hs.same ?_
  obtain ⟨tail, hL, hfr⟩ := hl
  exact Live.able ⟨tail, crash_live keep hL, hfr⟩
theorem append_liveF {s : DS} {n : Nat} {t : Int} {said : List (List UInt8)} (h : LiveF s n t said) (bs : List UInt8) (hb : bs.length ≤ 40000) (hr : endF t said + secN bs.length ≤ n) :
    ((layF s ((fromN n t + endF t said : Nat) : Int) (leavesF t (said.length : Nat) bs)).2 = 0 ∧ LiveF (layF s ((fromN n t + endF t said : Nat) : Int) (leavesF t (said.length : Nat) bs)).1 n t (said ++ [bs])) ∨
    ((layF s ((fromN n t + endF t said : Nat) : Int) (leavesF t (said.length : Nat) bs)).2 ≠ 0 ∧ ∀ keep, Able (crashD keep (layF s ((fromN n t + endF t said : Nat) : Int) (leavesF t (said.length : Nat) bs)).1) n t said ∨ Able (crashD keep (layF s ((fromN n t + endF t said : Nat) : Int) (leavesF t (said.length : Nat) bs)).1) n t (said ++ [bs])) := by
  obtain ⟨s', hs, hl⟩ := h
  obtain ⟨tail, hL, hfr0⟩ := id hl
  have hsz := hL.size
  have hfb := from_bound t hL.hn.2
  have hn := hL.hn
  have h1 := append_live hl bs hb hr
  have h2 := layF_sim (leavesF t (said.length : Nat) bs) (fromN n t + endF t said) hs (by rw [hs.same.size]; omega) (by rw [hs.same.size, leavesF_len]; omega)
  rcases h2 with ⟨e1, e2, e3⟩ | ⟨e1, e2, e3⟩
  · rcases h1 with ⟨a1, a2, _⟩ | ⟨_, a1, _, _⟩
    · exact .inl ⟨e1, _, e3, a2⟩
    · rw [e2] at a1; cases a1
  · rcases h1 with ⟨a1, _, _⟩ | ⟨_, _, _, a2⟩
    · exact absurd a1 e2
    · exact .inr ⟨e1, fun keep => (a2 keep).imp (able_crash keep e3) (able_crash keep e3)⟩
theorem chk_liveF {s : DS} {n : Nat} {t : Int} {said : List (List UInt8)} (h : LiveF s n t said) (bs : List UInt8) (hb : bs.length ≤ 40000) (hr : secN bs.length ≤ n) (ht : t + 1 ≤ 4294967295) :
    ((begF n (t + 1) bs s).2 = 0 ∧ LiveF (begF n (t + 1) bs s).1 n (t + 1) [bs]) ∨
    ((begF n (t + 1) bs s).2 ≠ 0 ∧ ∀ keep, Able (crashD keep (begF n (t + 1) bs s).1) n t said ∨ Able (crashD keep (begF n (t + 1) bs s).1) n (t + 1) [bs]) := by
  obtain ⟨s', hs, hl⟩ := h
  obtain ⟨tail, hL, hfr0⟩ := id hl
  have hsz := hL.size
  have hn := hL.hn
  have h1 := chk_live hl bs hb hr ht
  have h2 := begF_sim n (t + 1) bs hs hn.2 hr (by rw [hs.same.size]; exact hsz)
  rcases h2 with ⟨e1, e2, e3⟩ | ⟨e1, e2, e3⟩
  · rcases h1 with ⟨a1, a2, _⟩ | ⟨_, a1, _, _⟩
    · exact .inl ⟨e1, _, e3, a2⟩
    · rw [e2] at a1; cases a1
  · rcases h1 with ⟨a1, _, _⟩ | ⟨_, _, _, a2⟩
    · exact absurd a1 e2
    · exact .inr ⟨e1, fun keep => (a2 keep).imp (able_crash keep e3) (able_crash keep e3)⟩
end Go.Proofs.YtlphkccfcodmcaaGreat

/- Package signer: a new signer. -/
namespace Go.Proofs.YtlphkccfcodmcaaGreat
open Go Go.Wk
set_option synthInstance.maxSize 100000
set_option synthInstance.maxHeartbeats 400000
set_option maxRecDepth 100000

instance sfLit {d : Dg} {cs : List Value} {v : Value} [hl : LenIs cs 33] [hn : Nth cs 32 v] : SetFront cs (encL d.l) (encL d.l ++ [v]) := ⟨by rw [d.len, hl.eq]; omega, by
  have h := hl.eq
  rw [d.len, List.drop_eq_getElem_cons (by omega), List.drop_of_length_le (by omega)]
  have h2 := hn.eq
  rw [List.getElem?_eq_getElem (by omega)] at h2
  rw [Option.some.inj h2]⟩
abbrev sgI (h b g : Nat) (seed : Dg) (next : Int) (L : LG) : Wk.Item := both (Wk.box h 79 (cSg g seed next)) (lgI b g L)
theorem fmtV_wf {n : Nat} {s : DS} (hm : mayF s n = true) : (fmtV n s).Wf (s.loose.length + 3000) := by
  have hn : 4 ≤ n ∧ n ≤ 1000 := by simp [mayF] at hm; omega
  refine ⟨hn.2, show 1 ≤ n by omega, Nat.zero_lt_one, Nat.le_refl 1, ?_, ⟨Int.le_refl _, by show (0 : Int) ≤ 4294967295; decide⟩, ?_⟩
  · intro b hb
    obtain rfl := List.mem_singleton.1 hb; simp
  · have h1 := layF_loose s 0 (List.replicate (2 * n + 2) zB)
    rw [List.length_replicate] at h1
    have h2 := begF_loose n 0 [] (by simp) (layF s 0 (List.replicate (2 * n + 2) zB)).1
    show (fmtF n s).1.loose.length ≤ _
    unfold fmtF
    split <;> omega
theorem sformat_c (b m n : Nat) (p : Option Addr) (c : Nat) (s : DS) (seed : Dg) (w0 : World) (hm : mayF s n = true) (hl : s.loose.length ≤ 900000) (he : (fmtF n s).2 = 0) (hc : (chkV (fmtV n s) (laidD seed 0)).2 = 0) (hd : (dkI b m p c s).holds w0) :
    Ret Tryz.prog 8 [.pointer (some ⟨b, 0, none⟩), .int .i64 (n : Int), vDg seed] w0 (dkI b m p c s).foot fun v w' =>
      ∃ h g L, v = .tuple ⟨[.pointer (some ⟨h, 0, none⟩), .int .i64 0]⟩ ∧ (sgI h b g seed 0 L).holds w' ∧ (∀ k, (sgI h b g seed 0 L).foot k → (dkI b m p c s).foot k ∨ w0.heap.size ≤ k) ∧ L.m = m ∧ L.v = (chkV (fmtV n s) (laidD seed 0)).1 := by
  refine enter Tryz.func8 rfl rfl (Wd.itLent (x := dkI b m p c s) (fs := []) hd (by simp)) (fun a S => ?_)
  simp only [Tryz.ntmps8, List.length_cons, List.length_nil, Nat.reduceAdd, Nat.reduceSub, List.replicate_succ, List.replicate_zero, List.cons_append, List.nil_append] at S
  refine c_seq ?_
  refine c_region ?_
  refine sa S ?_; clear S; intro b5 a w S
  iterate 2 (refine sq S ?_; clear S; intro a S)
  refine wl_nil ?_
  refine xtn ?_
  refine c_seq ?_
  refine c_region ?_
  iterate 2 (refine sq S ?_; clear S; intro a S)
  refine sit (dkI b m p c s) S (format_v b m n p c s hm (by omega) _ (S.it (dkI b m p c s))) rfl ?_; clear S; rintro _ a w (⟨h0, -⟩ | ⟨-, g, L, rfl, hLm, hLv, hh, hf⟩) hS
  · exact absurd he h0
  have S := hS (lgI b g L) hh hf
  clear hS
  iterate 5 (refine sq S ?_; clear S; intro a S)
  refine wl_nil ?_
  refine xtn ?_
  iterate 2 (refine c_seq ?_)
  refine c_region ?_
  iterate 2 (refine sq S ?_; clear S; intro a S)
  refine wl_nil ?_
  refine xtn ?_
  refine c_condT S ?_
  refine c_region ?_
  iterate 2 (refine sq S ?_; clear S; intro a S)
  refine srn S (laid_c seed 0 _) ?_; clear S; rintro _ a w ⟨g2, c2, rfl, hown, hnew⟩ hS -
  have S := hS hown (fun ad h => by cases h; exact hnew)
  clear hS
  replace S := S.rowToGl (some ⟨g2, 0, none⟩) (laidD seed 0) (e := 5) (sz := 1) (n := 33) (c := c2) (fun _ _ _ _ => trivial)
  have hdl := laidD_len seed 0
  have hwf : L.v.Wf (s.loose.length + 3000) := by rw [hLv]; exact fmtV_wf hm
  have hr := chk_v b g L (s.loose.length + 3000) ⟨some ⟨g2, 0, none⟩, c2, laidD seed 0⟩ hwf (by omega) (by show (laidD seed 0).length ≤ _; omega) w (S.it (lgI b g L)) ((Stable.split (lgI b g L) (S.mem.fact (GlF (some ⟨g2, 0, none⟩) (laidD seed 0)))).less fun _ _ h => .inl h)
  rw [show (LBy.bs ⟨some ⟨g2, 0, none⟩, c2, laidD seed 0⟩).length = 33 from hdl, hLv] at hr
  refine sit (lgI b g L) S hr rfl ?_; clear S; rintro _ a w ⟨L2, rfl, hh2, hf2, hm2, hv2⟩ hS
  have S := hS (lgI b g L2) hh2 hf2
  clear hS
  rw [show (chkV (fmtV n s) (LBy.bs ⟨some ⟨g2, 0, none⟩, c2, laidD seed 0⟩)).2 = 0 from hc] at S
  refine sq S ?_; clear S; intro a S
  refine wl_nil ?_
  refine xtn ?_
  iterate 2 (refine c_seq ?_)
  refine c_region ?_
  iterate 2 (refine sq S ?_; clear S; intro a S)
  refine wl_nil ?_
  refine xtn ?_
  refine c_condF S ?_
  refine c_skip ?_
  refine xtn ?_
  refine c_seq ?_
  refine c_region ?_
  iterate 4 (refine sq S ?_; clear S; intro a S)
  refine sa S ?_; clear S; intro b29 a w S
  iterate 2 (refine sq S ?_; clear S; intro a S)
  refine wl_nil ?_
  refine xtn ?_
  refine c_ret ?_
  replace S := S.sub [Wk.box b29 79 (cSg g seed 0), lgI b g L2] []
  replace S := S.toBoth
  have h1 := S.it (sgI b29 b g seed 0 L2)
  have h2 := S.itNew (sgI b29 b g seed 0 L2) rfl
  exact end2 S (fun _ => ⟨b29, g, L2, rfl, h1, h2, hm2.trans hLm, hv2⟩)
end Go.Proofs.YtlphkccfcodmcaaGreat

/- Package signer: whether the log is broken. -/
namespace Go.Proofs.YtlphkccfcodmcaaGreat
open Go Go.Wk
set_option synthInstance.maxSize 100000
set_option synthInstance.maxHeartbeats 400000
set_option maxRecDepth 100000

theorem sg_next (h b g : Nat) (seed : Dg) (next : Int) (L : LG) (w0 : World) (hd : (sgI h b g seed next L).holds w0) : Ret Tryz.prog 18 [.pointer (some ⟨h, 0, none⟩)] w0 (fun _ => False) fun v _ => v = .int .i64 next :=
  snext_c h g seed next w0 (BoxF.stable hd.1 (fun h => h))
theorem sg_root (h b g : Nat) (seed : Dg) (next : Int) (L : LG) (w0 : World) (hd : (sgI h b g seed next L).holds w0) : Ret Tryz.prog 17 [.pointer (some ⟨h, 0, none⟩)] w0 (fun _ => False) fun v _ => v = vDg (rootD seed) :=
  sroot_c h g seed next w0 (BoxF.stable hd.1 (fun h => h))
end Go.Proofs.YtlphkccfcodmcaaGreat

/- The document's signer: its bytes. -/
namespace Go.Proofs.YtlphkccfcodmcaaGreat
open Go Go.Wk
set_option synthInstance.maxSize 100000
set_option synthInstance.maxHeartbeats 400000
set_option maxRecDepth 100000

end Go.Proofs.YtlphkccfcodmcaaGreat

/- Package signer: the leaves that a log tells. -/
namespace Go.Proofs.YtlphkccfcodmcaaGreat
open Go Go.Wk
set_option synthInstance.maxSize 100000
set_option synthInstance.maxHeartbeats 400000
set_option maxRecDepth 100000

/-- a log as a signer has it. -/
def takenV (h : Nat) : Value := .func (.func 77) #[] ⟨[.pointer (some ⟨h, 0, none⟩)]⟩
theorem taken_f (g : Nat) (w0 : World) : Ret Tryz.prog 40 [.agg ⟨[.pointer (some ⟨g, 0, none⟩)]⟩] w0 (fun _ => False) fun v w' => ∃ h, v = takenV h ∧ w0.heap.size ≤ h ∧ BoxF h 77 [.pointer (some ⟨g, 0, none⟩)] w' := by
  refine enter Tryz.func40 rfl rfl (Wd.start w0) (fun a S => ?_)
  simp only [Tryz.ntmps40, List.length_cons, List.length_nil, Nat.reduceAdd, Nat.reduceSub, List.replicate_succ, List.replicate_zero, List.cons_append, List.nil_append] at S
  refine c_seq ?_
  refine c_region ?_
  refine sa S ?_; clear S; intro b1 a w S
  refine sq S ?_; clear S; intro a S
  refine wl_nil ?_
  refine xtn ?_
  refine c_seq ?_
  refine c_region ?_
  iterate 2 (refine sq S ?_; clear S; intro a S)
  refine wl_nil ?_
  refine xtn ?_
  refine c_ret ?_
  have hn := (S.boxNew b1).elim (fun h => h.elim) id
  have hh := S.boxF b1
  exact end1 S (fun _ => ⟨b1, rfl, hn, hh⟩)
/-- the leaf that an entry names; -1: it names none. -/
def tk1 (b : List UInt8) : Int := if b.length = 1 then ((nthG b 0).toNat : Int) else -1
theorem taken_it (h g b : Nat) (q : Option Addr) (e : Nat) (x : WS) (h0 : 0 < x.said.length) (hc : x.said.length ≤ e) (hl : x.said.length ≤ 1000000) (hby : ∀ y ∈ x.said, y.bs.length ≤ 1000000) (w0 : World) (M : Nat → Prop)
    (f0 : Stable M w0 (BoxF h 77 [.pointer (some ⟨g, 0, none⟩)])) (f1 : Stable M w0 (BoxF g 116 (cWal b q e x))) (f2 : Stable M w0 (GlF q x.said)) (f3 : Stable M w0 (AllBy x.said)) :
    IterRetI Tryz.prog 77 [.pointer (some ⟨h, 0, none⟩)] w0 M (fun (n : Int) vs => vs = [.int .i64 n]) ((bsL (x.said.drop 1)).map tk1) := by
  obtain ⟨came, hcame⟩ : ∃ came, came = x.said.drop 1 := ⟨_, rfl⟩
  have hcl : came.length = x.said.length - 1 := by rw [hcame, List.length_drop]
  have hcb : ∀ y ∈ came, y.bs.length ≤ 1000000 := fun y hy => hby y (by rw [hcame] at hy; exact List.mem_of_mem_drop hy)
  rw [← hcame]
  intro L J Jx hy C0 hC0 hJ0
  have key : Ret Tryz.prog 77 [.func (.yield L) #[] #[], .pointer (some ⟨h, 0, none⟩)] w0 M fun _ w' => ∃ C W0, (∀ k, C k → w'.heap[k]? = W0.heap[k]?) ∧ (J ((bsL came).map tk1).length C W0 ∨ Jx C W0) := by
    refine enterM Tryz.func77 rfl rfl (Wd.startJ (J := J 0) (fs := [BoxF h 77 [.pointer (some ⟨g, 0, none⟩)], BoxF g 116 (cWal b q e x), GlF q x.said, AllBy x.said]) hC0 hJ0 (by simp; exact ⟨f0, f1, f2, f3⟩)) (fun a S => ?_)
    simp only [Tryz.ntmps77, List.length_cons, List.length_nil, Nat.reduceAdd, Nat.reduceSub, List.replicate_succ, List.replicate_zero, List.cons_append, List.nil_append] at S
    refine c_seq ?_
    refine c_region ?_
    refine sa S ?_; clear S; intro b2 a w S
    refine wl_nil ?_
    refine xtn ?_
    refine c_seq ?_
    refine c_region ?_
    iterate 2 (refine sq S ?_; clear S; intro a S)
    have hlt := foots_lt S
    refine sr S (all_c g b q e x h0 hc _ ((S.mem.fact (BoxF g 116 (cWal b q e x))).less fun _ _ h => h.elim)) ?_; clear S; rintro _ a w ⟨h2, rfl, n0, e0⟩ S
    replace S := S.add (Φ := BoxF h2 59 [.slice (if e = 1 then q else q.map (·.add (1 * 1))) (x.said.length - 1) (e - 1)]) (BoxF.stable e0 (fun hm => by have := hlt _ hm; omega))
    rw [← hcl] at S
    obtain ⟨q2, hq2⟩ : ∃ q2, q2 = (if e = 1 then q else q.map (·.add (1 * 1))) := ⟨_, rfl⟩
    rw [← hq2] at S
    replace S := S.add (Φ := GlF q2 came) ((S.mem.fact (GlF q x.said)).imp fun _ h => by rw [hq2, hcame]; exact h.drop 1 hc)
    replace S := S.add (Φ := AllBy came) ((S.mem.fact (AllBy x.said)).imp fun _ h y hy => h y (by rw [hcame] at hy; exact List.mem_of_mem_drop hy))
    refine wl_nil ?_
    refine xtn ?_
    refine c_block ?_
    replace S := S.sub [Wk.box b2 92 [.func (.yield L) #[] #[]], marks [], jI (J 0) C0] [AllBy came, GlF q2 came, BoxF h2 59 [.slice q2 came.length (e - 1)], Agree M w0]
    refine c_range (κ := Nat → Prop) (κx := Nat → Prop) (Ds := []) (toldL came)
      (fun i C => [Wk.box b2 92 [.func (.yield L) #[] #[]], marks [], jI (J i) C])
      (fun _ _ => [AllBy came, GlF q2 came, BoxF h2 59 [.slice q2 came.length (e - 1)], Agree M w0])
      (fun i _ => i ≤ came.length)
      (fun C => [Wk.box b2 92 [.func (.yield L) #[] #[]], marks [], jI Jx C])
      (fun _ => [AllBy came, GlF q2 came, BoxF h2 59 [.slice q2 came.length (e - 1)], Agree M w0])
      (fun cd _ => cd = .ret) C0 S
      (fun M w1 hM hF _ => all_it h2 came q2 (e - 1) (by omega) hcb w1 M hM (hF _ (by simp)) (hF _ (by simp)) (hF _ (by simp))) ⟨Nat.zero_le _, rfl, rfl⟩ ?_ ?_ ?_ ?_
    · clear S
      rintro L2 D bL M' w1 i z vs C W0 w hz - hW0 hgr ⟨p2, c2, rfl, hown, hnew⟩
      obtain ⟨hi, rfl⟩ := told_get hz
      obtain ⟨y2, hy2⟩ : ∃ y2 : LBy, y2 = ⟨p2, c2, (nthG came i).bs⟩ := ⟨_, rfl⟩
      have hent : (entI [y2]).holds w := by rw [hy2]; exact ent_row (y := ⟨p2, c2, (nthG came i).bs⟩) hown
      have hwd := hW0.addItem hgr hent (fun k ⟨u, hu, ad, hp, hk⟩ => by
        obtain rfl := List.mem_singleton.1 hu
        rw [hy2] at hp
        exact hk ▸ hnew ad hp) (ItOk.lt w hent) ItOk.loc
      have hx : ((bsL came).map tk1)[i]? = some (tk1 (nthG came i).bs) := by rw [List.getElem?_map, bsL, List.getElem?_map, nthG_get hi]; rfl
      obtain ⟨bs2, hbs2⟩ : ∃ bs2, bs2 = (nthG came i).bs := ⟨_, rfl⟩
      rw [← hbs2] at hx hy2
      refine ⟨_, inferInstance, fun a S => ?_⟩
      replace S : St w1 M' [] a w _ (entI [y2] :: lpI L2 D (lpR bL .ready none) :: _) _ := ⟨S.slots, S.defers, hwd⟩
      replace S := St.entFact S [y2]
      replace S := S.add (Φ := GlF p2 bs2) ((S.mem.fact (AllBy [y2])).imp fun _ h => by have := h y2 (by simp); rw [hy2] at this; exact this)
      rw [← hbs2] at S
      refine c_region ?_
      refine sq S ?_; clear S; intro a S
      refine wl_nil ?_
      refine xtn ?_
      refine rbegin (D := D) (b := bL) S ?_; clear S; intro a w S
      refine c_block ?_
      refine c_seq ?_
      refine c_region ?_
      refine sq S ?_; clear S; intro a S
      refine wl_nil ?_
      refine xtn ?_
      refine c_mrgb1 S (fun (v : Int) uu => [(5, .int .i64 v), (5, uu 11), (0, uu 12), (0, uu 13), (0, uu 14), (0, uu 15), (0, uu 16), (0, uu 17)]) (fun (v : Int) => v = tk1 bs2) ?_ ?_
      · refine c_seq ?_
        refine c_region ?_
        iterate 3 (refine sq S ?_; clear S; intro a S)
        refine wl_nil ?_
        refine xtn ?_
        refine c_cond S (fun h4 => ?_) (fun h4 => ?_)
        · have hone : bs2.length = 1 := by have := of_decide_eq_true h4; omega
          have hK : KLt 0 bs2.length := ⟨by omega⟩
          refine c_region ?_
          iterate 5 (refine sq S ?_; clear S; intro a S)
          refine wl_nil ?_
          refine xtn ?_
          refine ⟨_, S.uu, ?_, S⟩
          have := (nthG bs2 0).toNat_lt
          rw [tk1, if_pos hone, w64 _ (by omega) (by omega)]
        · refine c_skip ?_
          refine xtn ?_
          refine ⟨-1, S.uu, ?_, S⟩
          have hone : bs2.length ≠ 1 := by have := of_decide_eq_false h4; omega
          rw [tk1, if_neg hone]
      · clear S; rintro v uu a w hv S
        refine c_seq ?_
        refine c_region ?_
        iterate 2 (refine sq S ?_; clear S; intro a S)
        refine syR S (M := M) (wI := w0) (C := C) (J := J i) (J1 := J (i + 1)) (Jx := Jx) (fun W0 hJ hs => hy i _ _ C W0 _ hx hJ hs ((S.mem.fact (Agree M w0)).now) (by rw [hv])) ?_; clear S; intro ok C' a w S
        refine sq S ?_; clear S; intro a S
        refine wl_nil ?_
        refine xtn ?_
        refine c_cond S (fun h6 => ?_) (fun h6 => ?_)
        · refine c_ret ?_
          refine xbr ?_
          obtain rfl : ok = false := by simpa using h6
          simp only [cond_false] at S
          exact rret (D := D) (b := bL) (S.sub [lpI L2 D (lpR bL .busy none), Wk.box b2 92 [.func (.yield L) #[] #[]], marks [], jI Jx C'] [AllBy came, GlF q2 came, BoxF h2 59 [.slice q2 came.length (e - 1)], Agree M w0]) fun W hW => ⟨.inl rfl, C', rfl, hW⟩
        · refine c_skip ?_
          refine xbn ?_
          obtain rfl : ok = true := by simpa using h6
          simp only [cond_true] at S
          exact rnext (D := D) (b := bL) (S.sub [lpI L2 D (lpR bL .busy none), Wk.box b2 92 [.func (.yield L) #[] #[]], marks [], jI (J (i + 1)) C'] [AllBy came, GlF q2 came, BoxF h2 59 [.slice q2 came.length (e - 1)], Agree M w0]) fun W hW => ⟨C', hi, hW⟩
    · clear S
      rintro D C a w - S
      have hlen : (toldL came).length = ((bsL came).map tk1).length := by simp [toldL, bsL]
      rw [hlen] at S
      replace S := S.join (Ds := [])
      refine xbn ?_
      refine endM0 S (fun w hw => ?_)
      obtain ⟨W0, h1, h2⟩ := hw.held (jI (J ((bsL came).map tk1).length) C) (by simp)
      exact ⟨C, W0, h2, .inl h1⟩
    · rintro D C a w - S
      replace S := S.join (Ds := [])
      repeat (first | refine xbr ?_ | refine xtr ?_)
      refine endM0 S (fun w hw => ?_)
      obtain ⟨W0, h1, h2⟩ := hw.held (jI Jx C) (by simp)
      exact ⟨C, W0, h2, .inr h1⟩
    · rintro id D C a w h; cases h
  refine CallsIn.mono ((callsIn_wide (n := 0)).2 key) ?_
  rintro e W ⟨v, rfl, hag, h⟩
  exact ⟨⟨v, rfl⟩, hag, h⟩
end Go.Proofs.YtlphkccfcodmcaaGreat

/- Package signer: Open. -/
namespace Go.Proofs.YtlphkccfcodmcaaGreat
open Go Go.Wk
set_option synthInstance.maxSize 100000
set_option synthInstance.maxHeartbeats 400000
set_option maxRecDepth 100000

/-- a digest that stands somewhere. -/
def DgF (ad : Addr) (d : Dg) : World → Prop := fun w => ∀ j v, (encL d.l)[j]? = some v → w.cell? (ad.add j) = some v
class HasDgF (fs : List (World → Prop)) (ad : Addr) (d : outParam Dg) : Prop where mem : DgF ad d ∈ fs
instance hdgf0 {ad : Addr} {d : Dg} {fs : List (World → Prop)} : HasDgF (DgF ad d :: fs) ad d := ⟨List.mem_cons_self ..⟩
instance (priority := 810) opLoadDgF {P : Program} {ty t : TypeId} {lc : Cx} {bs : List Wk.Item} {fs : List (World → Prop)} {x : Operand} {ad : Addr} {z : Value} {by_ : Nat} {d : Dg} [Ev lc x (.pointer (some ad))] [ha : AggT P t true] [TI P t z 32 by_] [hb : HasDgF fs ad d] : OpQ P (.load t x) ty lc bs fs (.agg ⟨encL d.l⟩) := ⟨fun ρ w h mm => by
  have hf : DgF ad d w := (mm.facts _ hb.mem).now
  have h1 := run_loadCells_list (P := P) w ad (encL d.l) hf
  simp only [d.len] at h1
  simp [xop, execOp, Instr.loadAt, h.ev (x := x) (v := .pointer (some ad)), Instr.sureAddr, loadVar, Sem.run_bind, ha.run, run_size, h1]⟩
def opnS : List Int → Bool → Nat → Bool × Nat
  | [], ok, n => (ok, n)
  | x :: xs, ok, n => opnS xs (ok && decide (x = (n : Int)) && decide (x < 8)) (n + 1)
def seedOf (b : List UInt8) : Dg := if h : b.length = 33 then ⟨b.take 32, by rw [List.length_take]; omega⟩ else z32
/-- the signer of what a log tells, if there is one. -/
def sgV : List (List UInt8) → Option (Dg × Nat)
  | [] => none
  | b :: rest => if b.length = 33 then (if (opnS (rest.map tk1) (decide ((nthG b 32).toNat ≤ 8)) (nthG b 32).toNat).1 then some (seedOf b, (opnS (rest.map tk1) (decide ((nthG b 32).toNat ≤ 8)) (nthG b 32).toNat).2) else none) else none
theorem dgF_of {ad : Addr} {b : List UInt8} {w : World} (hb : b.length = 33) (h : GlF (some ad) b w) : DgF ad (seedOf b) w := by
  intro j v hj
  rw [seedOf, dif_pos hb] at hj
  have hj32 : j < 32 := by
    have := (List.getElem?_eq_some_iff.1 hj).1
    rw [encL_len, List.length_take] at this
    have h3 : min 32 b.length * Enc.sz UInt8 = min 32 b.length := Nat.mul_one _
    omega
  have h2 : (encL b)[j]? = some v := by
    have := encL_take b 32
    rw [show encL (b.take 32) = (encL b).take (32 * Enc.sz UInt8) from this.symm] at hj
    rw [List.getElem?_take] at hj
    split at hj
    · exact hj
    · cases hj
  exact h.1.2 ad rfl j v h2
theorem lgI_stable {M : Nat → Prop} {w : World} {b g : Nat} {L : LG} (h : Stable M w (lgI b g L).holds) : Stable M w (BoxF g 116 (cWal b L.q L.e L.x)) ∧ Stable M w (GlF L.q L.x.said) ∧ Stable M w (AllBy L.x.said) :=
  ⟨h.imp fun _ h => (BoxF.stable (M := fun _ => False) h.2.1.1 (fun h => h)).now, h.imp fun _ h => (gl_own (M := fun _ => False) h.2.1.2.1.1 (fun _ _ _ _ => trivial) (fun _ _ h => h)).now, h.imp fun _ h y hy => (h.2.1.2.1.2.1 y hy).2⟩
theorem sopen_bad (b m : Nat) (p : Option Addr) (c : Nat) (s : DS) (hl : s.loose.length ≤ 980000) (h0 : (openF s).2.1 ≠ 0) (w0 : World) (hd : (dkI b m p c s).holds w0) :
    Ret Tryz.prog 16 [.pointer (some ⟨b, 0, none⟩)] w0 (dkI b m p c s).foot fun v w' =>
      v = .tuple ⟨[.pointer none, .int .i64 (openF s).2.1]⟩ ∧ ∃ p' c', (dkI b m p' c' (openF s).1).holds w' ∧ ∀ k, (dkI b m p' c' (openF s).1).foot k → (dkI b m p c s).foot k ∨ w0.heap.size ≤ k := by
  refine enterM Tryz.func16 rfl rfl (Wd.itLent (x := dkI b m p c s) (fs := []) hd (by simp)) (fun a S => ?_)
  simp only [Tryz.ntmps16, List.length_cons, List.length_nil, Nat.reduceAdd, Nat.reduceSub, List.replicate_succ, List.replicate_zero, List.cons_append, List.nil_append] at S
  refine c_seq ?_
  refine c_region ?_
  iterate 2 (refine sq S ?_; clear S; intro a S)
  refine wl_nil ?_
  refine xtn ?_
  refine c_seq ?_
  refine c_region ?_
  refine sq S ?_; clear S; intro a S
  refine sit (dkI b m p c s) S (openV_c b m p c s hl _ (S.it (dkI b m p c s))) rfl ?_; clear S; rintro _ a w (⟨-, rfl, p', c', hh, hf⟩ | ⟨h, -⟩) hS
  rotate_left 1
  · exact absurd h h0
  have S := hS (dkI b m p' c' (openF s).1) hh hf
  clear hS
  iterate 5 (refine sq S ?_; clear S; intro a S)
  refine wl_nil ?_
  refine xtn ?_
  iterate 2 (refine c_seq ?_)
  refine c_region ?_
  iterate 2 (refine sq S ?_; clear S; intro a S)
  rw [show (!decide ((openF s).2.1 = 0)) = true from by rw [decide_eq_false h0]; rfl] at S
  refine wl_nil ?_
  refine xtn ?_
  refine c_condT S ?_
  refine c_seq ?_
  refine c_region ?_
  iterate 3 (refine sq S ?_; clear S; intro a S)
  refine wl_nil ?_
  refine xtn ?_
  refine c_ret ?_
  refine xtr ?_
  refine endM2 S (fun w hw => ⟨rfl, p', c', ?_⟩)
  exact ⟨hw.held (dkI b m p' c' (openF s).1) (by simp), hw.own (dkI b m p' c' (openF s).1) (by simp) rfl⟩
theorem sopen_ok (b m : Nat) (p : Option Addr) (c : Nat) (s : DS) (hl : s.loose.length ≤ 980000) (h0 : (openF s).2.1 = 0) (w0 : World) (hd : (dkI b m p c s).holds w0) :
    Ret Tryz.prog 16 [.pointer (some ⟨b, 0, none⟩)] w0 (dkI b m p c s).foot fun v w' =>
      (sgV (opnV s).said = none ∧ v = .tuple ⟨[.pointer none, .int .i64 200]⟩ ∧ ∃ p' c', (dkI b m p' c' (openF s).1).holds w' ∧ ∀ k, (dkI b m p' c' (openF s).1).foot k → (dkI b m p c s).foot k ∨ w0.heap.size ≤ k) ∨
      (∃ h g L seed next, sgV (opnV s).said = some (seed, next) ∧ v = .tuple ⟨[.pointer (some ⟨h, 0, none⟩), .int .i64 0]⟩ ∧ L.m = m ∧ L.v = opnV s ∧ (sgI h b g seed (next : Nat) L).holds w' ∧ ∀ k, (sgI h b g seed (next : Nat) L).foot k → (dkI b m p c s).foot k ∨ w0.heap.size ≤ k) := by
  refine enterM Tryz.func16 rfl rfl (Wd.itLent (x := dkI b m p c s) (fs := []) hd (by simp)) (fun a S => ?_)
  simp only [Tryz.ntmps16, List.length_cons, List.length_nil, Nat.reduceAdd, Nat.reduceSub, List.replicate_succ, List.replicate_zero, List.cons_append, List.nil_append] at S
  refine c_seq ?_
  refine c_region ?_
  iterate 2 (refine sq S ?_; clear S; intro a S)
  refine wl_nil ?_
  refine xtn ?_
  refine c_seq ?_
  refine c_region ?_
  refine sq S ?_; clear S; intro a S
  refine sit (dkI b m p c s) S (openV_c b m p c s hl _ (S.it (dkI b m p c s))) rfl ?_; clear S; rintro _ a w (⟨h, -⟩ | ⟨-, g, L, rfl, hLm, hLv, hh, hf⟩) hS
  · exact absurd h0 h
  have S := hS (lgI b g L) hh hf
  clear hS
  iterate 5 (refine sq S ?_; clear S; intro a S)
  refine wl_nil ?_
  refine xtn ?_
  iterate 2 (refine c_seq ?_)
  refine c_region ?_
  iterate 2 (refine sq S ?_; clear S; intro a S)
  refine wl_nil ?_
  refine xtn ?_
  refine c_condF S ?_
  refine c_skip ?_
  refine xtn ?_
  refine c_seq ?_
  have hwf := opnV_wf h0
  rw [← hLv] at hwf
  have hown := S.itNew (lgI b g L) rfl
  have hcap := lg_cap (S.it (lgI b g L))
  refine c_region ?_
  refine sq S ?_; clear S; intro a S
  refine srn S (snap_v b g L _ hwf _ (S.it (lgI b g L))) ?_; clear S; rintro _ a w ⟨bs, p1, c1, hb0, rfl, hrow, hnew⟩ hS -
  have S := hS hrow hnew
  clear hS
  replace S := S.rowToGl p1 bs (e := 5) (sz := 1) (n := bs.length) (c := c1) (fun _ _ _ _ => trivial)
  refine sq S ?_; clear S; intro a S
  refine wl_nil ?_
  refine xtn ?_
  iterate 2 (refine c_seq ?_)
  refine c_region ?_
  iterate 3 (refine sq S ?_; clear S; intro a S)
  refine wl_nil ?_
  refine xtn ?_
  refine c_cond S (fun h5 => ?_) (fun h5 => ?_)
  · refine c_seq ?_
    refine c_region ?_
    iterate 2 (refine sq S ?_; clear S; intro a S)
    refine wl_nil ?_
    refine xtn ?_
    refine c_ret ?_
    refine xtr ?_
    have hv : sgV (opnV s).said = none := by
      rw [← hLv]
      obtain ⟨r, hr⟩ : ∃ r, L.v.said = bs :: r := by
        cases h : L.v.said with
        | nil => rw [h] at hb0; cases hb0
        | cons b0 r => rw [h] at hb0; cases hb0; exact ⟨r, rfl⟩
      rw [hr, sgV, if_neg]
      intro h; rw [h] at h5; simp at h5
    have hs : L.s = (openF s).1 := congrArg LV.s hLv
    subst hLm
    refine endM2 S (fun w hw => .inl ⟨hv, rfl, L.p, L.c, ?_⟩)
    have hd := (hw.held (lgI b g L) (by simp)).1
    rw [← hs]
    exact ⟨hd, fun k hk => hown k (.inl hk)⟩
  · refine c_skip ?_
    refine xtn ?_
    refine c_seq ?_
    have h33 : bs.length = 33 := by
      have : (bs.length : Int) = 33 := by simpa using h5
      omega
    have hK : KLt 32 bs.length := ⟨by omega⟩
    have hc1 := own_le hrow
    have hKc : LeC 32 c1 := ⟨by omega⟩
    obtain ⟨gq, cur, rfl, -⟩ := own_cells hrow (by omega)
    obtain ⟨ad, had⟩ : ∃ ad : Addr, ad = ⟨gq, 0, none⟩ := ⟨_, rfl⟩
    rw [← had] at S
    replace S := S.add (Φ := DgF ad (seedOf bs)) ((S.mem.fact (GlF (some ad) bs)).imp fun _ h => dgF_of h33 h)
    refine c_drwe2 (.q 0 (.q 1 (.q 2 (.q 3 (.q 4 (.q 5 (.q 6 (.q 7 (.q 8 (.q 9 (.q 10 (.b2 11 12 (.l 12 (.l 13 (.e))) (.l 11 (.l 13 (.e))))))))))))))) S (fun (v7 : Nat) (v34 : Nat) uu => [(7, .pointer (some ⟨v7, 0, none⟩)), (15, uu 23), (0, uu 24), (0, uu 25), (0, uu 26), (0, uu 27), (0, uu 28), (0, uu 29), (0, uu 30), (0, uu 31), (0, uu 32), (0, uu 33), (0, uu 34)]) [marks [], lgI b g L] (fun (v7 : Nat) (v34 : Nat) => [Wk.box v34 79 (cSg g (seedOf bs) ((nthG bs 32).toNat : Nat)), Wk.box v7 31 [.pointer (some ⟨v34, 0, none⟩)], marks [], lgI b g L]) (fun (v7 : Nat) (v34 : Nat) => [DgF ad (seedOf bs), GlF (some ad) bs]) (fun (v7 : Nat) (v34 : Nat) => True) ?_ ?_
    · intro w S
      iterate 10 (refine tq S ?_; clear S; intro a S)
      rw [show IntKind.i64.wrap ((nthG bs 32).toNat : Int) = ((nthG bs 32).toNat : Int) from by have := (nthG bs 32).toNat_lt; rw [w64 _ (by omega) (by omega)]] at S
      refine tq S ?_; clear S; intro a S
      refine tb2 ?_ ?_
      · refine sa S ?_; clear S; intro b34 a w S
        refine te S ?_
        refine tl ?_
        refine sa S ?_; clear S; intro b7 a w S
        refine te S ?_
        refine tl ?_
        refine sw S ?_; clear S; intro a w S
        refine te S ?_
        refine tn ?_
        exact ⟨b7, b34, S.uu, trivial, by first | exact S | exact S.sub _ _ | exact S.perm _ (.swap _ _ _)⟩
      · refine sa S ?_; clear S; intro b7 a w S
        refine te S ?_
        refine tl ?_
        refine sa S ?_; clear S; intro b34 a w S
        refine te S ?_
        refine tl ?_
        refine sw S ?_; clear S; intro a w S
        refine te S ?_
        refine tn ?_
        exact ⟨b7, b34, S.uu, trivial, by first | exact S | exact S.sub _ _ | exact S.perm _ (.swap _ _ _)⟩
    clear S; rintro v7 v34 uu a w - S
    refine xtn ?_
    refine c_seq ?_
    obtain ⟨nx, hnx⟩ : ∃ nx, nx = (nthG bs 32).toNat := ⟨_, rfl⟩
    have hnxl := (nthG bs 32).toNat_lt
    rw [← hnx] at S hnxl
    refine c_region ?_
    iterate 5 (refine sq S ?_; clear S; intro a S)
    refine sa S ?_; clear S; intro b8 a w S
    refine sw S ?_; clear S; intro a w S
    refine wl_nil ?_
    refine xtn ?_
    iterate 2 (refine c_seq ?_)
    refine c_region ?_
    iterate 4 (refine sq S ?_; clear S; intro a S)
    have hlt := foots_lt S
    refine sr S (taken_f g _) ?_; clear S; rintro _ a w ⟨ht, rfl, n0, e0⟩ S
    replace S := S.add (Φ := BoxF ht 77 [.pointer (some ⟨g, 0, none⟩)]) (BoxF.stable e0 (fun hm => by have := hlt _ hm; omega))
    refine wl_nil ?_
    refine xtn ?_
    refine c_block ?_
    obtain ⟨rest, hrest⟩ : ∃ rest, rest = (bsL (L.x.said.drop 1)).map tk1 := ⟨_, rfl⟩
    replace S := S.toRo (x := lgI b g L)
    have hL0 : 0 < L.x.said.length := by have := hwf.some_; rwa [v_len] at this
    have hL1 : L.x.said.length ≤ 1000000 := by have h1 := hwf.few; have h2 := hwf.fin; have h3 := hwf.n; rw [v_len] at h1; omega
    have hL2 : ∀ y ∈ L.x.said, y.bs.length ≤ 1000000 := fun y hy => by have := hwf.short y.bs (List.mem_map_of_mem hy); omega
    replace S := S.sub [Wk.box b8 4 [.bool (decide ((nx : Int) ≤ 8))], Wk.box v34 79 (cSg g (seedOf bs) (nx : Nat)), Wk.box v7 31 [.pointer (some ⟨v34, 0, none⟩)], marks [], (lgI b g L).ro] [BoxF ht 77 [.pointer (some ⟨g, 0, none⟩)]]
    refine c_rangeI (κ := Bool × Nat) (κx := Empty) (Ds := []) rest
      (fun i k => [Wk.box b8 4 [.bool k.1], Wk.box v34 79 (cSg g (seedOf bs) (k.2 : Nat)), Wk.box v7 31 [.pointer (some ⟨v34, 0, none⟩)], marks [], (lgI b g L).ro])
      (fun i k => opnS rest (decide ((nx : Int) ≤ 8)) nx = opnS (rest.drop i) k.1 k.2 ∧ k.2 = nx + i)
      (fun k => k.elim) (fun _ k => k.elim) (decide ((nx : Int) ≤ 8), nx) S
      (fun M w1 hM hF hro => by
        obtain ⟨z1, z2, z3⟩ := lgI_stable (b := b) (g := g) (L := L) (hro (lgI b g L).ro (by simp) rfl)
        rw [hrest]
        exact taken_it ht g b L.q L.e L.x hL0 hcap hL1 hL2 w1 M (hF _ (by simp)) z1 z2 z3)
      (fun i k _ it hi => by
        simp only [List.mem_cons, List.not_mem_nil, or_false] at hi
        rcases hi with rfl | rfl | rfl | rfl | rfl
        · exact .inl rfl
        · exact .inl rfl
        · exact .inl rfl
        · exact .inl rfl
        · exact .inr ⟨rfl, by simp⟩) (fun c k => k.elim) ⟨⟨by simp, by simp⟩, rfl⟩ ?_ ?_ ?_ ?_
    · clear S
      rintro L2 D bL M' w1 i x vs ⟨ok, n⟩ w hx ⟨hop, hn⟩ hwd rfl
      have hi := (List.getElem?_eq_some_iff.1 hx).1
      simp only [] at hop hn
      have hdr : rest.drop i = x :: rest.drop (i + 1) := by rw [List.drop_eq_getElem_cons hi, (List.getElem?_eq_some_iff.1 hx).2]
      rw [hdr, opnS] at hop
      have hil : i < 1000000 := by
        rw [hrest, List.length_map, bsL, List.length_map, List.length_drop] at hi; omega
      refine ⟨_, inferInstance, fun a S => ?_⟩
      simp only [] at S
      refine c_region ?_
      refine sq S ?_; clear S; intro a S
      refine wl_nil ?_
      refine xtn ?_
      refine rbegin (D := D) (b := bL) S ?_; clear S; intro a w S
      refine c_block ?_
      refine c_seq ?_
      refine c_region ?_
      iterate 2 (refine sq S ?_; clear S; intro a S)
      iterate 6 (refine gQ S ?_; clear S; intro a S)
      iterate 2 (refine sq S ?_; clear S; intro a S)
      iterate 2 (refine gQ S ?_; clear S; intro a S)
      refine sq S ?_; clear S; intro a S
      refine sw S ?_; clear S; intro a w S
      refine wl_nil ?_
      refine xtn ?_
      refine c_region ?_
      iterate 5 (refine sq S ?_; clear S; intro a S)
      rw [show IntKind.i64.wrap ((n : Int) + 1) = ((n + 1 : Nat) : Int) from by rw [w64 _ (by omega) (by omega)]; rfl] at S
      iterate 2 (refine sq S ?_; clear S; intro a S)
      refine sw S ?_; clear S; intro a w S
      refine wl_nil ?_
      refine xbn ?_
      exact rnext (D := D) (b := bL) (S.sub [lpI L2 D (lpR bL .busy none), Wk.box b8 4 [.bool (ok && decide (x = (n : Int)) && decide (x < 8))], Wk.box v34 79 (cSg g (seedOf bs) ((n + 1 : Nat) : Int)), Wk.box v7 31 [.pointer (some ⟨v34, 0, none⟩)], marks [], (lgI b g L).ro] [BoxF ht 77 [.pointer (some ⟨g, 0, none⟩)]]) fun W hW => ⟨(ok && decide (x = (n : Int)) && decide (x < 8), n + 1), ⟨hop, by show n + 1 = _; omega⟩, hW⟩
    · clear S
      rintro D ⟨ok, n⟩ a w ⟨hop, hn⟩ S
      simp only [List.drop_length, opnS] at hop hn S
      replace S := S.join (Ds := [])
      replace S := S.unRo (x := lgI b g L) hown
      refine xbn ?_
      refine xtn ?_
      iterate 2 (refine c_seq ?_)
      refine c_region ?_
      iterate 2 (refine sq S ?_; clear S; intro a S)
      refine wl_nil ?_
      refine xtn ?_
      have hsg : sgV (opnV s).said = if ok then some (seedOf bs, n) else none := by
        rw [← hLv]
        obtain ⟨r, hr⟩ : ∃ r, L.v.said = bs :: r := by
          cases h : L.v.said with
          | nil => rw [h] at hb0; cases hb0
          | cons b0 r => rw [h] at hb0; cases hb0; exact ⟨r, rfl⟩
        have hre : r.map tk1 = rest := by
          have h1 : bsL (L.x.said.drop 1) = r := by
            have : L.v.said = bsL L.x.said := rfl
            rw [bsL, List.map_drop, ← bsL, ← this, hr]; rfl
          rw [hrest, h1]
        rw [hr, sgV, if_pos h33, hre, ← hnx]
        have hdd : decide (nx ≤ 8) = decide ((nx : Int) ≤ 8) := by
          by_cases h : nx ≤ 8
          · rw [decide_eq_true h, decide_eq_true (by omega)]
          · rw [decide_eq_false h, decide_eq_false (by omega)]
        rw [hdd, hop]
      refine c_cond S (fun h13 => ?_) (fun h13 => ?_)
      · refine c_seq ?_
        refine c_region ?_
        iterate 2 (refine sq S ?_; clear S; intro a S)
        refine wl_nil ?_
        refine xtn ?_
        refine c_ret ?_
        refine xtr ?_
        have hok : ok = false := by simpa using h13
        rw [hok] at hsg
        have hs : L.s = (openF s).1 := congrArg LV.s hLv
        subst hLm
        refine endM2 S (fun w hw => .inl ⟨hsg, rfl, L.p, L.c, ?_⟩)
        have hd := (hw.held (lgI b g L) (by simp)).1
        rw [← hs]
        exact ⟨hd, fun k hk => hown k (.inl hk)⟩
      · refine c_skip ?_
        refine xtn ?_
        refine c_seq ?_
        refine c_region ?_
        iterate 3 (refine sq S ?_; clear S; intro a S)
        refine wl_nil ?_
        refine xtn ?_
        refine c_ret ?_
        have hok : ok = true := by simpa using h13
        rw [hok] at hsg
        subst hLm
        replace S := S.sub [Wk.box v34 79 (cSg g (seedOf bs) (n : Nat)), marks ([D] ++ []), lgI b g L] []
        replace S := S.front (lgI b g L)
        replace S := S.front (Wk.box v34 79 (cSg g (seedOf bs) (n : Nat)))
        replace S := S.toBoth
        refine endM2 S (fun w hw => .inr ⟨v34, g, L, seedOf bs, n, hsg, rfl, rfl, hLv, ?_⟩)
        exact ⟨hw.held (sgI v34 b g (seedOf bs) (n : Nat) L) (by simp), hw.own (sgI v34 b g (seedOf bs) (n : Nat) L) (by simp) rfl⟩
    · intro D k; exact k.elim
    · intro id D k; exact k.elim
theorem sopen_c (b m : Nat) (p : Option Addr) (c : Nat) (s : DS) (hl : s.loose.length ≤ 980000) (w0 : World) (hd : (dkI b m p c s).holds w0) :
    Ret Tryz.prog 16 [.pointer (some ⟨b, 0, none⟩)] w0 (dkI b m p c s).foot fun v w' =>
      ((openF s).2.1 ≠ 0 ∧ v = .tuple ⟨[.pointer none, .int .i64 (openF s).2.1]⟩ ∧ ∃ p' c', (dkI b m p' c' (openF s).1).holds w' ∧ ∀ k, (dkI b m p' c' (openF s).1).foot k → (dkI b m p c s).foot k ∨ w0.heap.size ≤ k) ∨
      ((openF s).2.1 = 0 ∧ sgV (opnV s).said = none ∧ v = .tuple ⟨[.pointer none, .int .i64 200]⟩ ∧ ∃ p' c', (dkI b m p' c' (openF s).1).holds w' ∧ ∀ k, (dkI b m p' c' (openF s).1).foot k → (dkI b m p c s).foot k ∨ w0.heap.size ≤ k) ∨
      ((openF s).2.1 = 0 ∧ ∃ h g L seed next, sgV (opnV s).said = some (seed, next) ∧ v = .tuple ⟨[.pointer (some ⟨h, 0, none⟩), .int .i64 0]⟩ ∧ L.m = m ∧ L.v = opnV s ∧ (sgI h b g seed (next : Nat) L).holds w' ∧ ∀ k, (sgI h b g seed (next : Nat) L).foot k → (dkI b m p c s).foot k ∨ w0.heap.size ≤ k) := by
  by_cases h0 : (openF s).2.1 = 0
  · refine (sopen_ok b m p c s hl h0 w0 hd).mono fun v w' => ?_
    rintro (⟨h1, h2, h3⟩ | h)
    · exact .inr (.inl ⟨h0, h1, h2, h3⟩)
    · exact .inr (.inr ⟨h0, h⟩)
  · refine (sopen_bad b m p c s hl h0 w0 hd).mono fun v w' => ?_
    rintro ⟨h2, h3⟩
    exact .inl ⟨h0, h2, h3⟩
end Go.Proofs.YtlphkccfcodmcaaGreat

/- Package signer: a leaf is taken. -/
namespace Go.Proofs.YtlphkccfcodmcaaGreat
open Go Go.Wk
set_option synthInstance.maxSize 100000
set_option synthInstance.maxHeartbeats 400000
set_option maxRecDepth 100000

section
variable {P : Program} {w0 : World} {M0 : Nat → Prop} {a : Act} {w : World} {l : List Value} {bs bs' : List Wk.Item} {fs : List (World → Prop)} {e : Exit} {fn : Func} {R : Value → World → Prop}
/-- the end of a function with two results, where one closure was deferred that may write what one item holds. -/
theorem endDef2 {g : Nat} {ca : List Value} (x y : Wk.Item) [hri : ReplI bs x y bs'] [oy : ItOk y] [he : EntF P g] {r1 r2 : ResultVar} {v1 v2 : Value} [hr : FnRes fn [r1, r2]] [h1 : ResV P l bs' r1 v1] [h2 : ResV P l bs' r2 v2]
    (S : St w0 M0 [{ target := .fn (.func g) ⟨ca⟩, args := #[] }] a w l bs fs) (hxo : x.own = true)
    (hc : CallsDIn (FW none) 0 P g ca.toArray .returning w fun e u' w' => u' = .returning ∧ ∃ v, e = .returned v ∧ Agree x.foot w w' ∧ y.holds w')
    (hf : ∀ k, y.foot k → x.foot k) (h : ∀ w', Wd w0 M0 w' bs' fs → R (.tuple ⟨[v1, v2]⟩) w') (hx : e = .ret ∨ e = .normal := by simp) :
    bodyPostDIn (FW none) 0 P fn (fun e w' => ∃ v, e = .returned v ∧ Agree M0 w0 w' ∧ R v w') e a w := by
  have key : LeavesIn (FW none) 0 P fn a.tmps (fun e w' => ∃ v, e = .returned v ∧ Agree M0 w0 w' ∧ R v w') a.defers .returning w := by
    rw [S.defers]
    refine leavesIn_cons (f := g) (args := ca.toArray) (by simp) (fun h => by cases h) ?_ (fun _ _ => trivial) (hc.mono ?_)
    · have := he.run ca.toArray w
      simpa [invoke] using this
    · rintro e u' w' ⟨rfl, v, rfl, hag, hy⟩
      have hwd : Wd w0 M0 w' bs' fs := by
        obtain ⟨pre, post, q1, q2⟩ := hri.ex
        have hwd := S.wd
        rw [q1] at hwd
        rw [q2]
        exact hwd.swap hxo hag hy (fun k hk => .inl (hf k hk)) (oy.lt w' hy) oy.loc
      refine ⟨.tuple ⟨[v1, v2]⟩, ?_, _, rfl, hwd.agree, h w' hwd⟩
      rw [S.slots, results_eq (rs := [r1, r2])]
      simp [run_res (P := P) (l := l) (bs := bs') (rv := r1) (v := v1) w' hwd.held, run_res (P := P) (l := l) (bs := bs') (rv := r2) (v := v2) w' hwd.held]
  rcases hx with rfl | rfl <;> exact key
end
theorem takes_d (h g r s1 : Nat) (seed : Dg) (next : Nat) (hn : next < 1000) (v : Int) (u : FrameMode) (w0 : World) (hb : (Wk.box h 79 (cSg g seed (next : Nat))).holds w0) (hr : Stable (fun k => k = h) w0 (BoxF r 28 [.int .i64 v])) (hs : Stable (fun k => k = h) w0 (BoxF s1 31 [.pointer (some ⟨h, 0, none⟩)])) :
    CallsDIn (FW none) 0 Tryz.prog 69 [.pointer (some ⟨r, 0, none⟩), .pointer (some ⟨s1, 0, none⟩)].toArray u w0 fun e' u' w' => u' = u ∧ ∃ v', e' = .returned v' ∧ Agree (fun k => k = h) w0 w' ∧ (Wk.box h 79 (cSg g seed ((if v = 0 then next + 1 else next : Nat) : Int))).holds w' := by
  refine enterDI Tryz.func69 rfl rfl (Wd.itLent (x := Wk.box h 79 (cSg g seed (next : Nat))) (fs := [BoxF r 28 [.int .i64 v], BoxF s1 31 [.pointer (some ⟨h, 0, none⟩)]]) hb (by simp only [List.mem_cons, List.not_mem_nil, or_false]; rintro Φ (rfl | rfl); exact hr; exact hs)) (fun a S => ?_)
  simp only [Tryz.ntmps69, List.length_cons, List.length_nil, Nat.reduceAdd, Nat.reduceSub, List.replicate_succ, List.replicate_zero, List.cons_append, List.nil_append] at S
  refine c_seq ?_
  refine c_region ?_
  iterate 2 (refine sq S ?_; clear S; intro a S)
  refine wl_nil ?_
  refine xtn ?_
  refine c_cond S (fun h0 => ?_) (fun h0 => ?_)
  · refine c_region ?_
    iterate 5 (refine sq S ?_; clear S; intro a S)
    rw [show IntKind.i64.wrap ((next : Int) + 1) = ((next + 1 : Nat) : Int) from by rw [w64 _ (by omega) (by omega)]; rfl] at S
    iterate 2 (refine sq S ?_; clear S; intro a S)
    refine sw S ?_; clear S; intro a w S
    refine wl_nil ?_
    have hv0 : v = 0 := by simpa using h0
    have hh := S.box h
    refine end0 (R := fun _ w' => (Wk.box h 79 (cSg g seed ((if v = 0 then next + 1 else next : Nat) : Int))).holds w') S (fun _ => ?_)
    rw [if_pos hv0]
    exact hh
  · refine c_skip ?_
    have hv0 : v ≠ 0 := by simpa using h0
    have hh := S.box h
    refine end0 (R := fun _ w' => (Wk.box h 79 (cSg g seed ((if v = 0 then next + 1 else next : Nat) : Int))).holds w') S (fun _ => ?_)
    rw [if_neg hv0]
    exact hh
def takV (V : LV) (seed : Dg) (n : Nat) : LV × Int := if secN 1 ≤ V.n - V.fin then appV V [Wk.u8 (n : Int)] else chkV V (laidD seed ((n + 1 : Nat) : Int))
theorem take_c (h b g : Nat) (seed : Dg) (next : Nat) (hn : next < 8) (L : LG) (k : Nat) (hwf : L.v.Wf k) (hk : k ≤ 970000) (w0 : World) (hd : (sgI h b g seed (next : Nat) L).holds w0) :
    Ret Tryz.prog 31 [.pointer (some ⟨h, 0, none⟩)] w0 (sgI h b g seed (next : Nat) L).foot fun v w' => ∃ L', v = .tuple ⟨[.int .i64 (next : Nat), .int .i64 (takV L.v seed next).2]⟩ ∧ (sgI h b g seed ((if (takV L.v seed next).2 = 0 then next + 1 else next : Nat) : Int) L').holds w' ∧
      (∀ k, (sgI h b g seed ((if (takV L.v seed next).2 = 0 then next + 1 else next : Nat) : Int) L').foot k → (sgI h b g seed (next : Nat) L).foot k ∨ w0.heap.size ≤ k) ∧ L'.m = L.m ∧ L'.v = (takV L.v seed next).1 := by
  refine enterD Tryz.func31 rfl rfl (Wd.it2Lent (x := Wk.box h 79 (cSg g seed (next : Nat))) (y := lgI b g L) (fs := []) hd rfl rfl (by simp)) (fun a S => ?_)
  simp only [Tryz.ntmps31, List.length_cons, List.length_nil, Nat.reduceAdd, Nat.reduceSub, List.replicate_succ, List.replicate_zero, List.cons_append, List.nil_append] at S
  have hn1 := hwf.n
  have hn2 := hwf.fin
  refine c_seq ?_
  refine c_region ?_
  refine sa S ?_; clear S; intro b1 a w S
  refine sq S ?_; clear S; intro a S
  refine sa S ?_; clear S; intro b3 a w S
  refine wl_nil ?_
  refine xtn ?_
  refine c_seq ?_
  refine c_region ?_
  refine sq S ?_; clear S; intro a S
  refine sdef S ?_; clear S; intro a S
  refine wl_nil ?_
  refine xtn ?_
  refine c_seq ?_
  refine c_region ?_
  iterate 5 (refine sq S ?_; clear S; intro a S)
  refine wl_nil ?_
  refine xtn ?_
  iterate 2 (refine c_seq ?_)
  refine c_drawD [(1, true), (2, true), (3, true), (4, true), (5, true), (0, false), (6, false), (7, true)] [] S ?_; clear S; intro w S
  iterate 5 (refine dq S ?_; clear S; intro a S)
  refine dl ?_
  refine sr S (sectors_c (1 : Int) _) ?_; clear S; rintro _ a w rfl S
  rw [show secF 1 = (secN 1 : Int) from secF_nat 1 (by decide)] at S
  refine de S ?_
  refine dl ?_
  refine sr S (left_v b g L k hwf _ (S.it (lgI b g L))) ?_; clear S; rintro _ a w rfl S
  refine de S ?_
  refine dq S ?_; clear S; intro a S
  refine dn ?_
  refine xtn ?_
  refine c_cond S (fun h3 => ?_) (fun h3 => ?_)
  · refine c_seq ?_
    have hdec : secN 1 ≤ L.v.n - L.v.fin := by have := of_decide_eq_true h3; omega
    have htk : takV L.v seed next = appV L.v [Wk.u8 (next : Int)] := by rw [takV, if_pos hdec]
    refine c_region ?_
    iterate 8 (refine sq S ?_; clear S; intro a S)
    refine sn S ?_; clear S; intro b25 a w S
    rw [show IntKind.u8.wrap (next : Int) = (((Wk.u8 (next : Int)).toNat : Nat) : Int) from (u8_wrap _)] at S
    rw [show [Value.int .u8 (((Wk.u8 (next : Int)).toNat : Nat) : Int)] = encL [Wk.u8 (next : Int)] from rfl] at S
    replace S := S.boxRow b25 1 1 rfl (by decide)
    replace S := S.rowToGl (some ⟨b25, 0, none⟩) [Wk.u8 (next : Int)] (e := 5) (sz := 1) (n := 1) (c := 1) (fun _ _ _ _ => trivial)
    refine sit (lgI b g L) S (append_v b g L k ⟨some ⟨b25, 0, none⟩, 1, [Wk.u8 (next : Int)]⟩ hwf (by omega) (by simp) _ (S.it (lgI b g L)) (S.lend (lgI b g L) (S.mem.fact (GlF (some ⟨b25, 0, none⟩) [Wk.u8 (next : Int)])))) rfl ?_; clear S; rintro _ a w ⟨L2, rfl, hh2, hf2, hm2, hv2⟩ hS
    have S := hS (lgI b g L2) hh2 hf2
    clear hS
    rw [← htk] at S hv2
    refine sq S ?_; clear S; intro a S
    refine sw S ?_; clear S; intro a w S
    refine wl_nil ?_
    refine xtn ?_
    refine c_ret ?_
    refine xtr ?_
    obtain ⟨R, hR⟩ : ∃ R, R = takV L.v seed next := ⟨_, rfl⟩
    have hne3 : ¬ b3 = h := St.apart2 S (Wk.box b3 28 [.int .i64 (takV L.v seed next).2]) (Wk.box h 79 (cSg g seed (next : Nat))) b3 rfl
    have hne1 : ¬ b1 = h := St.apart2 S (Wk.box b1 31 [.pointer (some ⟨h, 0, none⟩)]) (Wk.box h 79 (cSg g seed (next : Nat))) b1 rfl
    refine endDef2 (Wk.box h 79 (cSg g seed (next : Nat))) (Wk.box h 79 (cSg g seed ((if (takV L.v seed next).2 = 0 then next + 1 else next : Nat) : Int))) S rfl ((takes_d h g b3 b1 seed next (by omega) (takV L.v seed next).2 .returning w (S.box h) (BoxF.stable (S.boxF b3) hne3) (BoxF.stable (S.boxF b1) hne1)).mono fun _ _ _ h => h) (fun _ h => h) (fun w' hwd => ?_)
    have S2 := (St.ofWd hwd).sub [Wk.box h 79 (cSg g seed ((if (takV L.v seed next).2 = 0 then next + 1 else next : Nat) : Int)), lgI b g L2] []
    replace S2 := S2.toBoth
    exact ⟨L2, rfl, S2.it (sgI h b g seed ((if (takV L.v seed next).2 = 0 then next + 1 else next : Nat) : Int) L2), S2.itNew (sgI h b g seed ((if (takV L.v seed next).2 = 0 then next + 1 else next : Nat) : Int) L2) rfl, hm2, hv2⟩
  · refine c_skip ?_
    refine xtn ?_
    refine c_seq ?_
    have hdec : ¬ secN 1 ≤ L.v.n - L.v.fin := by have := of_decide_eq_false h3; omega
    have htk : takV L.v seed next = chkV L.v (laidD seed ((next + 1 : Nat) : Int)) := by rw [takV, if_neg hdec]
    refine c_drawL 15 [(0, true), (1, true), (2, true), (3, true), (4, true), (5, true), (6, true), (7, true), (8, true), (9, true), (10, true), (11, true), (12, false), (13, false), (14, true), (15, false)] [Wk.box b1 31 [.pointer (some ⟨h, 0, none⟩)], Wk.box h 79 (cSg g seed (next : Nat))] S ?_; clear S; intro w S
    iterate 12 (refine dqL S ?_; clear S; intro a S)
    refine dlL ?_
    rw [show IntKind.i64.wrap ((next : Int) + 1) = ((next + 1 : Nat) : Int) from by rw [w64 _ (by omega) (by omega)]; rfl] at S
    refine srn S (laid_c seed ((next + 1 : Nat) : Int) _) ?_; clear S; rintro _ a w ⟨g2, c2, rfl, hown, hnew⟩ hS -
    have S := hS hown (fun ad h => by cases h; exact hnew)
    clear hS
    replace S := S.rowToGl (some ⟨g2, 0, none⟩) (laidD seed ((next + 1 : Nat) : Int)) (e := 5) (sz := 1) (n := 33) (c := c2) (fun _ _ _ _ => trivial)
    have hdl := laidD_len seed ((next + 1 : Nat) : Int)
    refine deL S ?_
    refine dlL ?_
    have hr := chk_v b g L k ⟨some ⟨g2, 0, none⟩, c2, laidD seed ((next + 1 : Nat) : Int)⟩ hwf (by omega) (by show (laidD seed ((next + 1 : Nat) : Int)).length ≤ _; omega) w (S.it (lgI b g L)) (S.lend (lgI b g L) (S.mem.fact (GlF (some ⟨g2, 0, none⟩) (laidD seed ((next + 1 : Nat) : Int)))))
    rw [show (LBy.bs ⟨some ⟨g2, 0, none⟩, c2, laidD seed ((next + 1 : Nat) : Int)⟩).length = 33 from hdl] at hr
    refine sit (lgI b g L) S hr rfl ?_; clear S; rintro _ a w ⟨L2, rfl, hh2, hf2, hm2, hv2⟩ hS
    have S := hS (lgI b g L2) hh2 hf2
    clear hS
    rw [show chkV L.v (LBy.bs ⟨some ⟨g2, 0, none⟩, c2, laidD seed ((next + 1 : Nat) : Int)⟩) = takV L.v seed next from htk.symm] at S hv2
    refine deL S ?_
    refine dqL S ?_; clear S; intro a S
    refine dlL ?_
    refine sw S ?_; clear S; intro a w S
    refine dzL ?_
    refine xtn ?_
    refine c_ret ?_
    obtain ⟨R, hR⟩ : ∃ R, R = takV L.v seed next := ⟨_, rfl⟩
    have hne3 : ¬ b3 = h := St.apart2 S (Wk.box b3 28 [.int .i64 (takV L.v seed next).2]) (Wk.box h 79 (cSg g seed (next : Nat))) b3 rfl
    have hne1 : ¬ b1 = h := St.apart2 S (Wk.box b1 31 [.pointer (some ⟨h, 0, none⟩)]) (Wk.box h 79 (cSg g seed (next : Nat))) b1 rfl
    refine endDef2 (Wk.box h 79 (cSg g seed (next : Nat))) (Wk.box h 79 (cSg g seed ((if (takV L.v seed next).2 = 0 then next + 1 else next : Nat) : Int))) S rfl ((takes_d h g b3 b1 seed next (by omega) (takV L.v seed next).2 .returning w (S.box h) (BoxF.stable (S.boxF b3) hne3) (BoxF.stable (S.boxF b1) hne1)).mono fun _ _ _ h => h) (fun _ h => h) (fun w' hwd => ?_)
    have S2 := (St.ofWd hwd).sub [Wk.box h 79 (cSg g seed ((if (takV L.v seed next).2 = 0 then next + 1 else next : Nat) : Int)), lgI b g L2] []
    replace S2 := S2.toBoth
    exact ⟨L2, rfl, S2.it (sgI h b g seed ((if (takV L.v seed next).2 = 0 then next + 1 else next : Nat) : Int) L2), S2.itNew (sgI h b g seed ((if (takV L.v seed next).2 = 0 then next + 1 else next : Nat) : Int) L2) rfl, hm2, hv2⟩
end Go.Proofs.YtlphkccfcodmcaaGreat

/- Package signer: Sign. -/
namespace Go.Proofs.YtlphkccfcodmcaaGreat
open Go Go.Wk
set_option synthInstance.maxSize 100000
set_option synthInstance.maxHeartbeats 400000
set_option maxRecDepth 100000

def sgE (V : LV) (seed : Dg) (next : Nat) : Int := if V.broken then 8 else if next = 8 then 201 else (takV V seed next).2
def sgL (V : LV) (seed : Dg) (next : Nat) : LV := if V.broken then V else if next = 8 then V else (takV V seed next).1
def sgN (V : LV) (seed : Dg) (next : Nat) : Nat := if sgE V seed next = 0 then next + 1 else next
def vNoSig : Value := .agg ⟨[.int .i64 0, .slice none 0 0, .slice none 0 0]⟩
/-- what Sign tells. -/
def SgR (V : LV) (seed m : Dg) (next : Nat) (M : Nat → Prop) (v : Value) (w' : World) : Prop :=
  (sgE V seed next ≠ 0 ∧ v = .tuple ⟨[vNoSig, .int .i64 (sgE V seed next)]⟩) ∨
  (sgE V seed next = 0 ∧ next < 8 ∧ ∃ pc cc pp cp, v = .tuple ⟨[vSig next pc cc pp cp, .int .i64 0]⟩ ∧ Stable M w' (GlF pc (signD (seedD seed next) m)) ∧ Stable M w' (GlF pp (pathD seed next)))
theorem ssign_c (h b g : Nat) (seed m : Dg) (next : Nat) (hn : next ≤ 8) (L : LG) (k : Nat) (hwf : L.v.Wf k) (hk : k ≤ 970000) (Mr : Nat → Prop) (w0 : World) (hMr : ∀ k, Mr k → k < w0.heap.size ∧ ¬ (sgI h b g seed (next : Nat) L).foot k) (hd : (sgI h b g seed (next : Nat) L).holds w0) :
    Ret Tryz.prog 11 [.pointer (some ⟨h, 0, none⟩), vDg m] w0 (sgI h b g seed (next : Nat) L).foot fun v w' => ∃ L', (sgI h b g seed ((sgN L.v seed next : Nat) : Int) L').holds w' ∧
      (∀ k, (sgI h b g seed ((sgN L.v seed next : Nat) : Int) L').foot k → (sgI h b g seed (next : Nat) L).foot k ∨ w0.heap.size ≤ k) ∧ L'.m = L.m ∧ L'.v = sgL L.v seed next ∧ SgR L.v seed m next (fun k => (sgI h b g seed ((sgN L.v seed next : Nat) : Int) L').foot k ∨ Mr k) v w' := by
  refine enter Tryz.func11 rfl rfl (Wd.it2LentM (x := Wk.box h 79 (cSg g seed (next : Nat))) (y := lgI b g L) (Mr := Mr) (fs := []) hd rfl rfl hMr (by simp)) (fun a S => ?_)
  simp only [Tryz.ntmps11, List.length_cons, List.length_nil, Nat.reduceAdd, Nat.reduceSub, List.replicate_succ, List.replicate_zero, List.cons_append, List.nil_append] at S
  refine c_seq ?_
  refine c_region ?_
  refine sa S ?_; clear S; intro b3 a w S
  refine sa S ?_; clear S; intro b4 a w S
  refine sq S ?_; clear S; intro a S
  refine wl_nil ?_
  refine xtn ?_
  refine c_seq ?_
  refine c_block ?_
  refine c_seq ?_
  refine c_region ?_
  iterate 3 (refine sq S ?_; clear S; intro a S)
  refine wl_nil ?_
  refine xtn ?_
  refine c_condF S ?_
  refine c_seq ?_
  refine c_region ?_
  iterate 5 (refine sq S ?_; clear S; intro a S)
  refine sr S (broken_v b g L _ (S.it (lgI b g L))) ?_; clear S; rintro _ a w rfl S
  refine sq S ?_; clear S; intro a S
  refine wl_nil ?_
  refine xtn ?_
  refine c_cond S (fun h3 => ?_) (fun h3 => ?_)
  · refine c_seq ?_
    refine c_region ?_
    refine sq S ?_; clear S; intro a S
    refine sw S ?_; clear S; intro a w S
    refine sq S ?_; clear S; intro a S
    refine wl_nil ?_
    refine xtn ?_
    refine c_ret ?_
    refine xbr ?_
    refine xtr ?_
    have hE : sgE L.v seed next = 8 := by rw [sgE, if_pos h3]
    have hN : sgN L.v seed next = next := by rw [sgN, hE]; rfl
    replace S := S.sub [Wk.box b4 41 [.int .i64 0, .slice none 0 0, .slice none 0 0], Wk.box h 79 (cSg g seed (next : Nat)), lgI b g L, ext Mr] []
    replace S := S.front (lgI b g L)
    replace S := S.front (Wk.box h 79 (cSg g seed (next : Nat)))
    replace S := S.toBoth
    have h1 := S.it (sgI h b g seed (next : Nat) L)
    have h2 := S.itNew (sgI h b g seed (next : Nat) L) rfl
    refine end2 S (fun _ => ?_)
    rw [hN]
    exact ⟨L, h1, h2, rfl, by rw [sgL, if_pos h3], .inl ⟨by rw [hE]; decide, by rw [hE]; rfl⟩⟩
  · refine c_seq ?_
    refine c_region ?_
    iterate 6 (refine sq S ?_; clear S; intro a S)
    refine wl_nil ?_
    refine xtn ?_
    refine c_cond S (fun h5 => ?_) (fun h5 => ?_)
    · refine c_seq ?_
      refine c_region ?_
      refine sq S ?_; clear S; intro a S
      refine sw S ?_; clear S; intro a w S
      refine sq S ?_; clear S; intro a S
      refine wl_nil ?_
      refine xtn ?_
      refine c_ret ?_
      refine xbr ?_
      refine xtr ?_
      have hn8 : next = 8 := by have : (next : Int) = 8 := by simpa using h5
                                omega
      have hE : sgE L.v seed next = 201 := by rw [sgE, h3, if_neg Bool.false_ne_true, if_pos hn8]
      have hN : sgN L.v seed next = next := by rw [sgN, hE]; rfl
      replace S := S.sub [Wk.box b4 41 [.int .i64 0, .slice none 0 0, .slice none 0 0], Wk.box h 79 (cSg g seed (next : Nat)), lgI b g L, ext Mr] []
      replace S := S.front (lgI b g L)
      replace S := S.front (Wk.box h 79 (cSg g seed (next : Nat)))
      replace S := S.toBoth
      have h1 := S.it (sgI h b g seed (next : Nat) L)
      have h2 := S.itNew (sgI h b g seed (next : Nat) L) rfl
      refine end2 S (fun _ => ?_)
      rw [hN]
      exact ⟨L, h1, h2, rfl, by rw [sgL, h3, if_neg Bool.false_ne_true, if_pos hn8], .inl ⟨by rw [hE]; decide, by rw [hE]; rfl⟩⟩
    · refine c_skip ?_
      refine xbn ?_
      refine xtn ?_
      refine c_seq ?_
      have hn8 : next ≠ 8 := by
        intro h; rw [h] at h5; simp at h5
      have hE : sgE L.v seed next = (takV L.v seed next).2 := by rw [sgE, h3, if_neg Bool.false_ne_true, if_neg hn8]
      have hL : sgL L.v seed next = (takV L.v seed next).1 := by rw [sgL, h3, if_neg Bool.false_ne_true, if_neg hn8]
      replace S := S.front (lgI b g L)
      replace S := S.front (Wk.box h 79 (cSg g seed (next : Nat)))
      replace S := S.toBoth
      refine c_region ?_
      refine sq S ?_; clear S; intro a S
      refine sit (sgI h b g seed (next : Nat) L) S (take_c h b g seed next (by omega) L k hwf hk _ (S.it (sgI h b g seed (next : Nat) L))) rfl ?_; clear S; rintro _ a w ⟨L2, rfl, hh2, hf2, hm2, hv2⟩ hS
      rw [← hE] at hh2 hf2
      rw [← hL] at hv2
      have S := hS (sgI h b g seed ((if sgE L.v seed next = 0 then next + 1 else next : Nat) : Int) L2) hh2 hf2
      clear hS
      rw [← hE] at S
      iterate 5 (refine sq S ?_; clear S; intro a S)
      refine wl_nil ?_
      refine xtn ?_
      iterate 2 (refine c_seq ?_)
      refine c_region ?_
      iterate 2 (refine sq S ?_; clear S; intro a S)
      refine wl_nil ?_
      refine xtn ?_
      refine c_cond S (fun h8 => ?_) (fun h8 => ?_)
      · refine c_seq ?_
        refine c_region ?_
        iterate 2 (refine sq S ?_; clear S; intro a S)
        refine sw S ?_; clear S; intro a w S
        refine sq S ?_; clear S; intro a S
        refine wl_nil ?_
        refine xtn ?_
        refine c_ret ?_
        refine xtr ?_
        have hE0 : sgE L.v seed next ≠ 0 := by simpa using h8
        have hN : sgN L.v seed next = (if sgE L.v seed next = 0 then next + 1 else next) := rfl
        rw [← hN] at S
        have h1 := S.it (sgI h b g seed ((sgN L.v seed next : Nat) : Int) L2)
        have h2 := S.itNew (sgI h b g seed ((sgN L.v seed next : Nat) : Int) L2) rfl
        exact end2 S (fun _ => ⟨L2, h1, h2, hm2, hv2, .inl ⟨hE0, rfl⟩⟩)
      · refine c_skip ?_
        refine xtn ?_
        refine c_seq ?_
        have hE0 : sgE L.v seed next = 0 := by simpa using h8
        rw [if_pos hE0] at S
        replace S := S.ofBoth
        refine c_drawD [(0, true), (1, true), (2, true), (3, true), (4, true), (5, true), (6, false), (7, true), (8, true), (9, false), (10, true)] [b4] S ?_; clear S; intro w S
        iterate 6 (refine dq S ?_; clear S; intro a S)
        refine dl ?_
        refine sr S (msign_c seed m next (by omega) (foots _) w (foots_lt S)) ?_; clear S; rintro _ a w ⟨pc, cc, pp, cp, rfl, f1, f2⟩ S
        replace S := S.add f1
        replace S := S.add f2
        unfold vSig at S
        refine de S ?_
        iterate 2 (refine dq S ?_; clear S; intro a S)
        refine dl ?_
        refine sw S ?_; clear S; intro a w S
        refine de S ?_
        refine dq S ?_; clear S; intro a S
        refine dn ?_
        refine xtn ?_
        refine c_ret ?_
        have hN : sgN L.v seed next = next + 1 := by rw [sgN, if_pos hE0]
        rw [← hN] at S
        replace S := S.front (lgI b g L2)
        replace S := S.front (Wk.box h 79 (cSg g seed ((sgN L.v seed next : Nat) : Int)))
        replace S := S.toBoth
        have h1 := S.it (sgI h b g seed ((sgN L.v seed next : Nat) : Int) L2)
        have h2 := S.itNew (sgI h b g seed ((sgN L.v seed next : Nat) : Int) L2) rfl
        have g1 := St.lendM S (sgI h b g seed ((sgN L.v seed next : Nat) : Int) L2) Mr (S.mem.fact (GlF pc (signD (seedD seed next) m)))
        have g2 := St.lendM S (sgI h b g seed ((sgN L.v seed next : Nat) : Int) L2) Mr (S.mem.fact (GlF pp (pathD seed next)))
        exact end2 S (fun _ => ⟨L2, h1, h2, hm2, hv2, .inr ⟨hE0, by omega, pc, cc, pp, cp, rfl, g1, g2⟩⟩)
end Go.Proofs.YtlphkccfcodmcaaGreat

/- Signers in plain words: what a signer's log tells stays in order, whatever fails and whenever the power goes. -/
namespace Go.Proofs.YtlphkccfcodmcaaGreat
open Go Go.Wk
set_option maxRecDepth 100000

structure SgOk (V : LV) (n : Nat) (t : Int) (said : List (List UInt8)) : Prop where
  num : V.n = n
  turn : V.turn = t
  says : V.said = said
  fin : V.fin = endF t said
  whole : V.broken = false
  live : LiveF V.s n t said
theorem SgOk.wf {V : LV} {n : Nat} {t : Int} {said : List (List UInt8)} (h : SgOk V n t said) : V.Wf 0 := by
  obtain ⟨s', hs, tail, hL, -⟩ := h.live
  have hlen := hL.len
  have hfew := hL.few
  have hll := laid_len t said 0
  refine ⟨by rw [h.num]; exact hL.hn.2, by rw [h.num, h.fin]; omega, by rw [h.says]; exact hfew.2, by rw [h.says, h.fin]; exact hll, by rw [h.says]; exact hL.short, by rw [h.turn]; exact hL.ht, ?_⟩
  rw [hs.same.loose, hL.loose]; exact Nat.le_refl _
theorem opnS_app : ∀ (xs ys : List Int) (ok : Bool) (n : Nat), opnS (xs ++ ys) ok n = opnS ys (opnS xs ok n).1 (opnS xs ok n).2
  | [], _, _, _ => rfl
  | x :: xs, ys, ok, n => by rw [List.cons_append, opnS, opnS]; exact opnS_app xs ys _ _
theorem opnS_le : ∀ (xs : List Int) (ok : Bool) (n : Nat), (ok = true → n ≤ 8) → (opnS xs ok n).1 = true → (opnS xs ok n).2 ≤ 8
  | [], ok, n, h, h1 => h h1
  | x :: xs, ok, n, h, h1 => by
    rw [opnS] at h1 ⊢
    refine opnS_le xs _ _ (fun h2 => ?_) h1
    simp only [Bool.and_eq_true, decide_eq_true_eq] at h2
    omega
theorem sgV_le {said : List (List UInt8)} {seed : Dg} {n : Nat} (h : sgV said = some (seed, n)) : n ≤ 8 := by
  cases said with
  | nil => cases h
  | cons b rest =>
    rw [sgV] at h
    split at h
    · split at h
      · rename_i h1 h2
        cases h
        exact opnS_le _ _ _ (fun h => by simpa using h) h2
      · cases h
    · cases h
theorem u8_small {n : Nat} (hn : n ≤ 8) : (Wk.u8 (n : Int)).toNat = n := by
  have h : ∀ n : Nat, n < 9 → IntKind.u8.wrap (n : Int) = (n : Int) := by decide +kernel
  have h1 := u8_wrap (n : Int)
  have h2 := h n (by omega)
  omega
theorem sgV_snoc {said : List (List UInt8)} {seed : Dg} {n : Nat} (h : sgV said = some (seed, n)) (hn : n < 8) : sgV (said ++ [[Wk.u8 (n : Int)]]) = some (seed, n + 1) := by
  cases said with
  | nil => cases h
  | cons b rest =>
    rw [sgV] at h
    split at h
    · rename_i hb
      split at h
      · rename_i h2
        have h1 := Prod.mk.inj (Option.some.inj h)
        have hk : tk1 [Wk.u8 (n : Int)] = (n : Int) := by
          have h3 : tk1 [Wk.u8 (n : Int)] = ((Wk.u8 (n : Int)).toNat : Int) := rfl
          rw [h3, u8_small (by omega)]
        rw [List.cons_append, sgV, if_pos hb, List.map_append, opnS_app]
        show (if (opnS [tk1 [Wk.u8 (n : Int)]] _ _).1 = true then _ else _) = _
        rw [h2, h1.2, hk, opnS, opnS]
        simp only [Bool.true_and, decide_true, Bool.and_true]
        rw [if_pos (by simp; omega), h1.1, List.map_cons, List.map_nil, hk, opnS, opnS]
      · cases h
    · cases h
theorem sgV_snap (seed : Dg) {n : Nat} (hn : n ≤ 8) : sgV [laidD seed (n : Int)] = some (seed, n) := by
  have hl := laidD_len seed (n : Int)
  have h32 : nthG (laidD seed (n : Int)) 32 = Wk.u8 (n : Int) := by
    have h1 := nthG_get (xs := laidD seed (n : Int)) (k := 32) (by omega)
    rw [laidD, List.getElem?_append_right (by rw [seed.h]; exact Nat.le_refl _), seed.h] at h1
    exact (Option.some.inj h1).symm
  have hv : (Wk.u8 (n : Int)).toNat = n := u8_small hn
  have hs : seedOf (laidD seed (n : Int)) = seed := by
    rw [seedOf, dif_pos hl]
    obtain ⟨l, h⟩ := seed
    simp only [laidD, Dg.mk.injEq]
    rw [List.take_append_of_le_length (by omega), List.take_of_length_le (by omega)]
  rw [sgV, if_pos hl, hs, h32, hv]
  show (if decide (n ≤ 8) = true then _ else _) = _
  rw [if_pos (by simpa using hn)]
  rfl
theorem up_turn {t : Int} (h0 : 0 ≤ t) (h1 : t + 1 ≤ 4294967295) : upT t = t + 1 := by rw [upT, wu32 _ (by omega) (by omega)]
/-- a signer's new log. -/
theorem fmt_sg (n : Nat) (hn : 4 ≤ n ∧ n ≤ 1000) (seed : Dg) : (chkV (fmtV n (newD ((2 * n + 2 : Nat) : Int))) (laidD seed 0)).2 = 0 ∧ SgOk (chkV (fmtV n (newD ((2 * n + 2 : Nat) : Int))) (laidD seed 0)).1 n 1 [laidD seed 0] ∧ (chkV (fmtV n (newD ((2 * n + 2 : Nat) : Int))) (laidD seed 0)).1.s.arms.on = false ∧ Live (chkV (fmtV n (newD ((2 * n + 2 : Nat) : Int))) (laidD seed 0)).1.s n 1 [laidD seed 0] := by
  obtain ⟨h1, h2, h3⟩ := format_live n hn
  have hl := laidD_len seed 0
  have hs33 : secN (laidD seed 0).length = 1 := by rw [hl]; rfl
  have hc := chk_live h2 (laidD seed 0) (by omega) (by omega) (by decide)
  have hr : roomC (fmtV n (newD ((2 * n + 2 : Nat) : Int))).x (laidD seed 0) = 0 := by
    have e1 : refF (fmtV n (newD ((2 * n + 2 : Nat) : Int))).x (laidD seed 0) = 0 := by
      rw [refF, if_neg (by omega)]; rfl
    rw [roomC, e1, if_pos rfl, if_neg]
    rw [hs33]
    rintro (h | h)
    · exact absurd (show n < 1 from h) (by omega)
    · exact absurd (show upT 0 = 0 from h) (by decide)
  have hb : begF (fmtV n (newD ((2 * n + 2 : Nat) : Int))).n (upT (fmtV n (newD ((2 * n + 2 : Nat) : Int))).turn) (laidD seed 0) (fmtV n (newD ((2 * n + 2 : Nat) : Int))).s = begF n (0 + 1) (laidD seed 0) (fmtF n (newD ((2 * n + 2 : Nat) : Int))).1 := rfl
  obtain ⟨c1, c2, c3⟩ := hc.resolve_right (fun h => by rw [h3] at h; cases h.1)
  unfold chkV
  rw [if_neg (fun h => h hr), hb, if_pos c1]
  have hlv : Live (begF n (0 + 1) (laidD seed 0) (fmtF n (newD ((2 * n + 2 : Nat) : Int))).1).1 n 1 [laidD seed 0] := c2
  refine ⟨rfl, ⟨rfl, rfl, rfl, ?_, rfl, hlv.liveF (fun h => by rw [c3 h3] at h; cases h)⟩, c3 h3, hlv⟩
  show secN (laidD seed 0).length = _
  rw [endF_sum]; rfl
/-- a leaf is taken. -/
theorem tak_ok {V : LV} {n : Nat} {t : Int} {said : List (List UInt8)} {seed : Dg} {next : Nat} (h : SgOk V n t said) (hs : sgV said = some (seed, next)) (hn8 : next < 8) (ht : t + 1 ≤ 4294967295) :
    ((takV V seed next).2 = 0 ∧ ∃ t' said', SgOk (takV V seed next).1 n t' said' ∧ sgV said' = some (seed, next + 1) ∧ t' ≤ t + 1) ∨
    ((takV V seed next).2 ≠ 0 ∧ (takV V seed next).1.broken = true ∧ ∀ keep, ∃ t' said' nx, Able (crashD keep (takV V seed next).1.s) n t' said' ∧ sgV said' = some (seed, nx) ∧ next ≤ nx ∧ t' ≤ t + 1) := by
  have hwf := h.wf
  obtain ⟨q1, q2, q3, q4, q5, q6⟩ := h
  obtain ⟨s, n', turn, said', fin, broken⟩ := V
  simp only at q1 q2 q3 q4 q5 q6
  subst q1 q2 q3 q4 q5
  obtain ⟨s', hsim, tail, hL, hfr⟩ := id q6
  have hlen := hL.len
  have hn := hL.hn
  unfold takV
  by_cases hr : secN 1 ≤ n' - endF turn said'
  · rw [if_pos hr]
    have hroom : roomF (LV.x ⟨s, n', turn, said', endF turn said', false⟩) [Wk.u8 (next : Int)] = 0 := by
      have e1 : refF (LV.x ⟨s, n', turn, said', endF turn said', false⟩) [Wk.u8 (next : Int)] = 0 := rfl
      rw [roomF, if_pos e1, if_neg]
      show ¬ n' - endF turn said' < secN 1
      omega
    have ha := append_liveF q6 [Wk.u8 (next : Int)] (by simp) (by show endF turn said' + secN 1 ≤ n'; omega)
    have he : endF turn (said' ++ [[Wk.u8 (next : Int)]]) = endF turn said' + secN 1 := by
      rw [endF_sum, endF_sum, List.map_append, List.sum_append]; rfl
    unfold appV
    rw [if_neg (fun h => h hroom)]
    rcases ha with ⟨a1, a2⟩ | ⟨a1, a2⟩
    · refine .inl ?_
      rw [if_pos a1]
      exact ⟨rfl, turn, said' ++ [[Wk.u8 (next : Int)]], ⟨rfl, rfl, rfl, he.symm, rfl, a2⟩, sgV_snoc hs hn8, by omega⟩
    · refine .inr ?_
      rw [if_neg a1]
      refine ⟨a1, rfl, fun keep => ?_⟩
      rcases a2 keep with h | h
      · exact ⟨turn, said', next, h, hs, Nat.le_refl _, by omega⟩
      · exact ⟨turn, _, next + 1, h, sgV_snoc hs hn8, by omega, by omega⟩
  · rw [if_neg hr]
    have hl := laidD_len seed ((next + 1 : Nat) : Int)
    have hs33 : secN (laidD seed ((next + 1 : Nat) : Int)).length = 1 := by rw [hl]; rfl
    have hup := up_turn hL.ht.1 ht
    have hroom : roomC (LV.x ⟨s, n', turn, said', endF turn said', false⟩) (laidD seed ((next + 1 : Nat) : Int)) = 0 := by
      have e1 : refF (LV.x ⟨s, n', turn, said', endF turn said', false⟩) (laidD seed ((next + 1 : Nat) : Int)) = 0 := by
        rw [refF, if_neg (by omega)]; rfl
      rw [roomC, if_pos e1, if_neg]
      rw [hs33]
      rintro (h | h)
      · exact absurd (show n' < 1 from h) (by omega)
      · have : upT turn = 0 := h
        have := hL.ht.1
        omega
    have ha := chk_liveF q6 (laidD seed ((next + 1 : Nat) : Int)) (by omega) (by omega) ht
    unfold chkV
    rw [if_neg (fun h => h hroom)]
    show ((if (begF n' (upT turn) _ s).2 = 0 then _ else _) : LV × Int).2 = 0 ∧ _ ∨ _
    rw [hup]
    rcases ha with ⟨a1, a2⟩ | ⟨a1, a2⟩
    · refine .inl ?_
      rw [if_pos a1]
      refine ⟨rfl, turn + 1, [laidD seed ((next + 1 : Nat) : Int)], ⟨rfl, rfl, rfl, ?_, rfl, a2⟩, sgV_snap seed (by omega), by omega⟩
      show secN (laidD seed ((next + 1 : Nat) : Int)).length = _
      rw [endF_sum]; rfl
    · refine .inr ?_
      rw [if_neg a1]
      refine ⟨a1, rfl, fun keep => ?_⟩
      rcases a2 keep with h | h
      · exact ⟨turn, said', next, h, hs, Nat.le_refl _, by omega⟩
      · exact ⟨turn + 1, _, next + 1, h, sgV_snap seed (by omega), by omega, by omega⟩
/-- a signer, whatever has been done with it: no leaf below `last` is told again. -/
def OnceI (V : LV) (seed : Dg) (next : Nat) (last T : Int) : Prop :=
  next ≤ 8 ∧ last < next ∧ -1 ≤ last ∧
  ((∃ n t said, SgOk V n t said ∧ sgV said = some (seed, next) ∧ t ≤ T) ∨
   (V.broken = true ∧ V.Wf 2000 ∧ ∀ keep, ∃ n t said nx, Able (crashD keep V.s) n t said ∧ sgV said = some (seed, nx) ∧ last < nx ∧ t ≤ T))
theorem OnceI.wf {V : LV} {seed : Dg} {next : Nat} {last T : Int} (h : OnceI V seed next last T) : V.Wf 2000 := by
  rcases h.2.2.2 with ⟨n, t, said, h, -⟩ | ⟨-, h, -⟩
  · exact h.wf.more (by omega)
  · exact h
theorem OnceI.sign {V : LV} {seed : Dg} {next : Nat} {last T : Int} (h : OnceI V seed next last T) (hT : T ≤ 1000) :
    (sgE V seed next ≠ 0 → OnceI (sgL V seed next) seed (sgN V seed next) last (T + 1)) ∧ (sgE V seed next = 0 → OnceI (sgL V seed next) seed (sgN V seed next) (next : Int) (T + 1) ∧ last < next ∧ next < 8) := by
  obtain ⟨h1, h2, h3, h4⟩ := h
  by_cases hb : V.broken = true
  · have hE : sgE V seed next = 8 := by rw [sgE, if_pos hb]
    have hN : sgN V seed next = next := by rw [sgN, hE]; rfl
    have hL : sgL V seed next = V := by rw [sgL, if_pos hb]
    refine ⟨fun _ => ?_, fun h => by rw [hE] at h; cases h⟩
    rw [hL, hN]
    refine ⟨h1, h2, h3, ?_⟩
    rcases h4 with ⟨n, t, said, g1, g2, g3⟩ | ⟨g1, g2, g3⟩
    · exact .inl ⟨n, t, said, g1, g2, by omega⟩
    · exact .inr ⟨g1, g2, fun keep => by obtain ⟨n, t, said, nx, k1, k2, k3, k4⟩ := g3 keep; exact ⟨n, t, said, nx, k1, k2, k3, by omega⟩⟩
  · obtain ⟨n, t, said, g1, g2, g3⟩ := h4.resolve_right (fun h => hb h.1)
    by_cases hn8 : next = 8
    · have hE : sgE V seed next = 201 := by rw [sgE, if_neg hb, if_pos hn8]
      have hN : sgN V seed next = next := by rw [sgN, hE]; rfl
      have hL : sgL V seed next = V := by rw [sgL, if_neg hb, if_pos hn8]
      refine ⟨fun _ => ?_, fun h => by rw [hE] at h; cases h⟩
      rw [hL, hN]
      exact ⟨h1, h2, h3, .inl ⟨n, t, said, g1, g2, by omega⟩⟩
    · have hE : sgE V seed next = (takV V seed next).2 := by rw [sgE, if_neg hb, if_neg hn8]
      have hL : sgL V seed next = (takV V seed next).1 := by rw [sgL, if_neg hb, if_neg hn8]
      have hwf : (takV V seed next).1.Wf 2000 := by
        unfold takV
        split
        · exact (appV_wf g1.wf _).more (by omega)
        · exact (chkV_wf g1.wf _).more (by omega)
      rcases tak_ok g1 g2 (by omega) (by omega) with ⟨k1, t', said', k2, k3, k4⟩ | ⟨k1, k2, k3⟩
      · refine ⟨fun h => absurd (hE.trans k1) h, fun h => ?_⟩
        have hN : sgN V seed next = next + 1 := by rw [sgN, if_pos h]
        rw [hL, hN]
        exact ⟨⟨by omega, by omega, by omega, .inl ⟨n, t', said', k2, k3, by omega⟩⟩, h2, by omega⟩
      · refine ⟨fun h => ?_, fun h => absurd (hE.symm.trans h) k1⟩
        have hN : sgN V seed next = next := by rw [sgN, if_neg h]
        rw [hL, hN]
        refine ⟨h1, h2, h3, .inr ⟨k2, hwf, fun keep => ?_⟩⟩
        obtain ⟨t', said', nx, r1, r2, r3, r4⟩ := k3 keep
        exact ⟨n, t', said', nx, r1, r2, by omega, by omega⟩
/-- only counters are set. -/
theorem OnceI.same {V V' : LV} {seed : Dg} {next : Nat} {last T : Int} (h : OnceI V seed next last T) (hv : V' = { V with s := V'.s }) (hs : V'.s = { V.s with fails := V'.s.fails, arms := V'.s.arms }) (hc : V.s.out = false → V.s.fails.ok → V.s.arms.ok → V'.s.fails.ok ∧ V'.s.arms.ok) : OnceI V' seed next last T := by
  obtain ⟨h1, h2, h3, h4⟩ := h
  refine ⟨h1, h2, h3, ?_⟩
  obtain ⟨s, n', turn, said', fin, broken⟩ := V
  obtain ⟨s2, n2, turn2, said2, fin2, broken2⟩ := V'
  simp only [LV.mk.injEq, true_and] at hv
  obtain ⟨rfl, rfl, rfl, rfl, rfl⟩ := hv
  simp only at hs hc
  rcases h4 with ⟨n, t, said, g1, g2, g3⟩ | ⟨g1, g2, g3⟩
  · refine .inl ⟨n, t, said, ?_, g2, g3⟩
    obtain ⟨q1, q2, q3, q4, q5, q6⟩ := g1
    refine ⟨q1, q2, q3, q4, q5, ?_⟩
    obtain ⟨s', hsim, -⟩ := id q6
    obtain ⟨c1, c2⟩ := hc hsim.on hsim.okf hsim.oka
    show LiveF s2 n t said
    rw [hs]
    exact LiveF.set q6 _ _ c1 c2
  · have hsame : Same3 s2 s := by rw [hs]; exact ⟨rfl, rfl, rfl⟩
    refine .inr ⟨g1, ⟨g2.n, g2.fin, g2.some_, g2.few, g2.short, g2.turn, ?_⟩, fun keep => ?_⟩
    · show s2.loose.length ≤ _
      rw [hsame.loose]; exact g2.loose
    · obtain ⟨n, t, said, nx, r1, r2⟩ := g3 keep
      exact ⟨n, t, said, nx, able_crash keep hsame r1, r2⟩
/-- the power goes, and it is opened. -/
theorem OnceI.crash {V : LV} {seed : Dg} {next : Nat} {last T : Int} (h : OnceI V seed next last T) (keep : List Bool) : (openF (crashD keep V.s)).2.1 = 0 ∧ ∃ nx, sgV (opnV (crashD keep V.s)).said = some (seed, nx) ∧ last < nx ∧ OnceI (opnV (crashD keep V.s)) seed nx last T := by
  obtain ⟨h1, h2, h3, h4⟩ := h
  obtain ⟨n, t, said, nx, r1, r2, r3, r4⟩ : ∃ n t said nx, Able (crashD keep V.s) n t said ∧ sgV said = some (seed, nx) ∧ last < (nx : Nat) ∧ t ≤ T := by
    rcases h4 with ⟨n, t, said, g1, g2, g3⟩ | ⟨g1, g2, g3⟩
    · exact ⟨n, t, said, next, g1.live.crash keep, g2, h2, g3⟩
    · exact g3 keep
  obtain ⟨o1, o2, o3, o4⟩ := (open_able r1).resolve_right (fun h => by cases h.1)
  have hop : opnV (crashD keep V.s) = ⟨(openF (crashD keep V.s)).1, n, t, said, endF t said, false⟩ := by rw [opnV, o3]
  refine ⟨o1, nx, by rw [hop]; exact r2, r3, sgV_le r2, r3, h3, .inl ⟨n, t, said, ?_, r2, r4⟩⟩
  rw [hop]
  exact ⟨rfl, rfl, rfl, rfl, rfl, o2.live.liveF (fun h => by rw [o4 rfl] at h; cases h)⟩
end Go.Proofs.YtlphkccfcodmcaaGreat

/- The laws of layer 10: does the layer do anything? -/
namespace Go.Proofs.YtlphkccfcodmcaaGreat
open Go Go.Wk
set_option synthInstance.maxSize 100000
set_option synthInstance.maxHeartbeats 400000
set_option maxRecDepth 100000

instance sfRep {n : Nat} {v : Value} : SetFront (encL (List.replicate (n + 1) (0 : UInt8))) [v] (v :: encL (List.replicate n (0 : UInt8))) := ⟨by rw [encL_len, List.length_replicate]; show 1 ≤ (n + 1) * 1; omega, by rw [List.replicate_succ, encL_cons]; rfl⟩
def d1 (x : UInt8) : Dg := ⟨x :: List.replicate 31 0, rfl⟩
/-- nothing is to fail: a leaf is taken down. -/
theorem tak_off {V : LV} {n : Nat} {t : Int} {said : List (List UInt8)} {seed : Dg} {next : Nat} (h : SgOk V n t said) (hl : Live V.s n t said) (ho : V.s.arms.on = false) (hr : endF t said + 1 ≤ n) :
    (takV V seed next).2 = 0 ∧ Live (takV V seed next).1.s n t (said ++ [[Wk.u8 (next : Int)]]) ∧ (takV V seed next).1.s.arms.on = false := by
  obtain ⟨q1, q2, q3, q4, q5, q6⟩ := h
  obtain ⟨s, n', turn, said', fin, broken⟩ := V
  simp only at q1 q2 q3 q4 q5 q6 hl ho
  subst q1 q2 q3 q4 q5
  unfold takV
  have s1 : secN 1 = 1 := rfl
  rw [if_pos (by show secN 1 ≤ n' - endF turn said'; omega)]
  have hroom : roomF (LV.x ⟨s, n', turn, said', endF turn said', false⟩) [Wk.u8 (next : Int)] = 0 := by
    have e1 : refF (LV.x ⟨s, n', turn, said', endF turn said', false⟩) [Wk.u8 (next : Int)] = 0 := rfl
    rw [roomF, if_pos e1, if_neg]
    show ¬ n' - endF turn said' < secN 1
    omega
  obtain ⟨a1, a2, a3⟩ := (append_live hl [Wk.u8 (next : Int)] (by simp) (by show endF turn said' + secN 1 ≤ n'; omega)).resolve_right (fun h => by rw [ho] at h; cases h.1)
  unfold appV
  rw [if_neg (fun h => h hroom), if_pos a1]
  exact ⟨rfl, a2, a3 ho⟩
theorem swakes_c (w0 : World) : Ret Tryz.prog 6 [] w0 (fun _ => False) fun v _ => v = .bool true := by
  obtain ⟨hc, hok, hoff, hlv⟩ := fmt_sg 20 (by omega) (d1 1)
  refine enter Tryz.func6 rfl rfl (Wd.start w0) (fun a S => ?_)
  simp only [Tryz.ntmps6, List.length_cons, List.length_nil, Nat.reduceAdd, Nat.reduceSub, List.replicate_succ, List.replicate_zero, List.cons_append, List.nil_append] at S
  refine c_seq ?_
  refine c_region ?_
  refine sq S ?_; clear S; intro a S
  refine wl_nil ?_
  refine xtn ?_
  refine c_seq ?_
  refine c_region ?_
  refine snew S (dnew_dk 42 (by omega) _) ?_; clear S; rintro _ a w - ⟨b, m, rfl, hh, hnw⟩ hS -
  have S := hS (dkI b m none 0 (newD 42)) hh hnw
  clear hS
  iterate 5 (refine sq S ?_; clear S; intro a S)
  refine wl_nil ?_
  refine xtn ?_
  iterate 2 (refine c_seq ?_)
  refine c_region ?_
  iterate 2 (refine sq S ?_; clear S; intro a S)
  refine wl_nil ?_
  refine xtn ?_
  refine c_condF S ?_
  refine c_skip ?_
  refine xtn ?_
  refine c_seq ?_
  refine c_region ?_
  iterate 2 (refine sq S ?_; clear S; intro a S)
  rw [show (Value.agg ⟨.int .u8 1 :: encL (List.replicate 31 (0 : UInt8))⟩) = vDg (d1 1) from rfl] at S
  refine sit (dkI b m none 0 (newD 42)) S (sformat_c b m 20 none 0 (newD 42) (d1 1) _ (by simp [mayF, newD]) (by simp [newD]) (format_live 20 (by omega)).1 hc (S.it (dkI b m none 0 (newD 42)))) rfl ?_; clear S; rintro _ a w ⟨h, g, L, rfl, hh2, hf2, hm2, hv2⟩ hS
  have S := hS (sgI h b g (d1 1) ((0 : Nat) : Int) L) hh2 hf2
  clear hS
  replace hok : SgOk L.v 20 1 [laidD (d1 1) 0] := by rw [hv2]; exact hok
  have hT := tak_off (seed := d1 1) (next := 0) hok (by rw [hv2]; exact hlv) (by rw [hv2]; exact hoff) (by rw [endF_sum, List.map_cons, List.map_nil, laidD_len]; decide)
  iterate 5 (refine sq S ?_; clear S; intro a S)
  refine wl_nil ?_
  refine xtn ?_
  iterate 2 (refine c_seq ?_)
  refine c_region ?_
  iterate 3 (refine sq S ?_; clear S; intro a S)
  iterate 2 (refine gQ S ?_; clear S; intro a S)
  refine sq S ?_; clear S; intro a S
  refine wl_nil ?_
  refine xtn ?_
  refine c_condF S ?_
  refine c_skip ?_
  refine xtn ?_
  refine c_seq ?_
  refine c_region ?_
  iterate 2 (refine sq S ?_; clear S; intro a S)
  rw [show (Value.agg ⟨.int .u8 2 :: encL (List.replicate 31 (0 : UInt8))⟩) = vDg (d1 2) from rfl] at S
  have hsg := sgV_snap (d1 1) (n := 0) (by omega)
  have hE : sgE L.v (d1 1) 0 = 0 := by rw [sgE, hok.whole, if_neg Bool.false_ne_true, if_neg (by omega)]; exact hT.1
  have hL : sgL L.v (d1 1) 0 = (takV L.v (d1 1) 0).1 := by rw [sgL, hok.whole, if_neg Bool.false_ne_true, if_neg (by omega)]
  have hN : sgN L.v (d1 1) 0 = 1 := by rw [sgN, if_pos hE]
  refine sitM (sgI h b g (d1 1) ((0 : Nat) : Int) L) S (ssign_c h b g (d1 1) (d1 2) 0 (by omega) L 0 hok.wf (by omega) (restOf _ (sgI h b g (d1 1) ((0 : Nat) : Int) L)) _ (S.restOk _) (S.it (sgI h b g (d1 1) ((0 : Nat) : Int) L))) rfl ?_; clear S; rintro v a w ⟨L2, hh3, hf3, hm3, hv3, hR⟩ hS
  obtain ⟨-, -, pc, cc, pp, cp, rfl, g1, g2⟩ := hR.resolve_left (fun h => h.1 hE)
  rw [hN] at hh3 hf3 g1 g2
  have S := hS (sgI h b g (d1 1) ((1 : Nat) : Int) L2) [GlF pc (signD (seedD (d1 1) 0) (d1 2)), GlF pp (pathD (d1 1) 0)] hh3 hf3 (by simp only [List.mem_cons, List.not_mem_nil, or_false]; rintro Φ (rfl | rfl); exact g1; exact g2)
  clear hS
  unfold vSig at S
  obtain ⟨-, hlv2, hoff2⟩ := hT
  rw [← hL, ← hv3] at hlv2 hoff2
  iterate 3 (refine sq S ?_; clear S; intro a S)
  refine sa S ?_; clear S; intro b4 a w S
  refine sw S ?_; clear S; intro a w S
  refine sq S ?_; clear S; intro a S
  refine wl_nil ?_
  refine xtn ?_
  iterate 2 (refine c_seq ?_)
  refine c_drawD [(0, true), (1, true), (2, true), (3, true), (4, true), (5, true), (6, true), (7, true), (8, true), (10, true), (11, true), (9, false), (12, false), (13, true), (14, true)] [] S ?_; clear S; intro w S
  iterate 2 (refine dq S ?_; clear S; intro a S)
  rw [show (!decide ((0 : Int) = 0)) = false from rfl] at S
  refine dq S ?_; clear S; intro a S
  iterate 3 (refine dqG S ?_; clear S; intro a S)
  refine dq S ?_; clear S; intro a S
  rw [show (!decide (((0 : Nat) : Int) = 0)) = false from rfl] at S
  refine dq S ?_; clear S; intro a S
  iterate 2 (refine dqG S ?_; clear S; intro a S)
  rw [show (Value.agg ⟨.int .u8 2 :: encL (List.replicate 31 (0 : UInt8))⟩) = vDg (d1 2) from rfl] at S
  refine dqG S ?_; clear S; intro a S
  refine dl ?_
  refine gT' S ?_
  refine sr S (sg_root h b g (d1 1) ((1 : Nat) : Int) L2 _ (S.it (sgI h b g (d1 1) ((1 : Nat) : Int) L2))) ?_; clear S; rintro _ a w rfl S
  refine de S ?_
  refine dl ?_
  refine gT' S ?_
  have hvs := verify_sign (d1 1) (d1 2) (leaf := 0) (by omega)
  refine sr S (verify_c (rootD (d1 1)) (d1 2) 0 (signD (seedD (d1 1) 0) (d1 2)) (pathD (d1 1) 0) pc pp cc cp (by omega) (signD_len _ _) (path_len _ _) _ ((S.mem.fact (GlF pc (signD (seedD (d1 1) 0) (d1 2)))).less fun _ _ h => h.elim) ((S.mem.fact (GlF pp (pathD (d1 1) 0))).less fun _ _ h => h.elim)) ?_; clear S; rintro _ a w rfl S
  rw [decide_eq_true hvs] at S
  refine de S ?_
  refine dqG S ?_; clear S; intro a S
  refine dq S ?_; clear S; intro a S
  refine dn ?_
  refine xtn ?_
  refine c_condF S ?_
  refine c_skip ?_
  refine xtn ?_
  refine c_seq ?_
  replace S := S.front (sgI h b g (d1 1) ((1 : Nat) : Int) L2)
  replace S := S.ofBoth
  replace S := S.front (lgI b g L2)
  replace S := S.ofBoth
  replace hlv2 : Live L2.s 20 1 ([laidD (d1 1) 0] ++ [[Wk.u8 ((0 : Nat) : Int)]]) := hlv2
  replace hoff2 : L2.s.arms.on = false := hoff2
  obtain ⟨o1, o2, o3, o4⟩ := (open_able hlv2.able).resolve_right (fun h => by rw [hoff2] at h; cases h.1)
  have hl0 : L2.s.loose = [] := by obtain ⟨tail, hL, -⟩ := hlv2; exact hL.loose
  have hop : (opnV L2.s).said = [laidD (d1 1) 0] ++ [[Wk.u8 ((0 : Nat) : Int)]] := by rw [opnV]; show (openF L2.s).2.2.said = _; rw [o3]
  have hsv : sgV (opnV L2.s).said = some (d1 1, 1) := by rw [hop]; exact sgV_snoc hsg (by omega)
  refine c_region ?_
  refine sq S ?_; clear S; intro a S
  refine sit (dkI b L2.m L2.p L2.c L2.s) S (sopen_c b L2.m L2.p L2.c L2.s (by rw [hl0]; simp) _ (S.it (dkI b L2.m L2.p L2.c L2.s))) rfl ?_; clear S; rintro _ a w (⟨h, -⟩ | ⟨-, h, -⟩ | ⟨-, h2, g2, L3, seed, next, hs3, rfl, hm3, hv3, hh4, hf4⟩) hS
  · exact absurd o1 h
  · rw [hsv] at h; cases h
  obtain ⟨rfl, rfl⟩ : d1 1 = seed ∧ 1 = next := by rw [hsv] at hs3; cases hs3; exact ⟨rfl, rfl⟩
  have S := hS (sgI h2 b g2 (d1 1) ((1 : Nat) : Int) L3) hh4 hf4
  clear hS
  iterate 5 (refine sq S ?_; clear S; intro a S)
  refine wl_nil ?_
  refine xtn ?_
  refine c_seq ?_
  refine c_region ?_
  iterate 2 (refine sq S ?_; clear S; intro a S)
  rw [show decide ((0 : Int) = 0) = true from rfl] at S
  refine sq S ?_; clear S; intro a S
  refine gT S ?_
  refine sq S ?_; clear S; intro a S
  refine gT S ?_
  iterate 3 (refine sq S ?_; clear S; intro a S)
  refine gT S ?_
  refine sq S ?_; clear S; intro a S
  refine gT S ?_
  refine sr S (sg_next h2 b g2 (d1 1) ((1 : Nat) : Int) L3 _ (S.it (sgI h2 b g2 (d1 1) ((1 : Nat) : Int) L3))) ?_; clear S; rintro _ a w rfl S
  refine gT S ?_
  refine sq S ?_; clear S; intro a S
  rw [show decide (((1 : Nat) : Int) = 1) = true from rfl] at S
  iterate 2 (refine sq S ?_; clear S; intro a S)
  refine gT S ?_
  refine sq S ?_; clear S; intro a S
  refine gT S ?_
  refine sr S (sg_root h2 b g2 (d1 1) ((1 : Nat) : Int) L3 _ (S.it (sgI h2 b g2 (d1 1) ((1 : Nat) : Int) L3))) ?_; clear S; rintro _ a w rfl S
  refine gT S ?_
  refine sq S ?_; clear S; intro a S
  rw [show (Value.agg ⟨.int .u8 1 :: encL (List.replicate 31 (0 : UInt8))⟩) = vDg (d1 1) from rfl] at S
  refine gT S ?_
  refine sr S (mroot_c (d1 1) _) ?_; clear S; rintro _ a w rfl S
  refine gT S ?_
  iterate 3 (refine sq S ?_; clear S; intro a S)
  refine wl_nil ?_
  refine xtn ?_
  refine c_ret ?_
  refine end1 S (fun _ => ?_)
  simp
end Go.Proofs.YtlphkccfcodmcaaGreat

/- The laws of layer 10: what is done; no leaf is told twice. -/
namespace Go.Proofs.YtlphkccfcodmcaaGreat
open Go Go.Wk
set_option synthInstance.maxSize 100000
set_option synthInstance.maxHeartbeats 400000
set_option maxRecDepth 100000

instance nzS7 : NZ 7 := ⟨by decide⟩
instance nzS12 : NZ 12 := ⟨by decide⟩
instance opDgNeq {P : Program} {l : Cx} {bs : List Wk.Item} {fs : List (World → Prop)} {x y : Operand} {t t' ty e : TypeId} {u v : Dg} {z : Value} {by_ : Nat} [Ev l x (.agg ⟨encL u.l⟩)] [Ev l y (.agg ⟨encL v.l⟩)] [ht : Und P t (.array 32 e)] [he : Und P e (.int .u8)] [AggT P e false] [TI P e z 1 by_] [hg : EqG P t] :
    OpQ P (.binOp .neq t x y t') ty l bs fs (.bool (!decide (u.l = v.l))) := ⟨fun ρ w h _ => by
  simp [xop, execOp, h.ev (x := x) (v := .agg ⟨encL u.l⟩), h.ev (x := y) (v := .agg ⟨encL v.l⟩), Sem.run_bind, run_eqGuard_agg w .neq t x y _ _ hg.eq, run_neq_struct, run_eqB w u.l v.l ht.eq he.eq u.h v.h]⟩
/-- what is done. -/
structure LSop where
  kind : Int
  n : Int
  m : Dg
  p : Option Addr
  c : Nat
  keep : List Bool
abbrev cSop (x : LSop) : List Value := .int .i64 x.kind :: .int .i64 x.n :: (encL x.m.l ++ [.slice x.p x.keep.length x.c])
theorem cSop_len (x : LSop) : (cSop x).length = 35 := by
  rw [cSop, List.length_cons, List.length_cons, List.length_append, x.m.len]; rfl
instance encSop : Enc LSop := ⟨35, cSop, cSop_len, fun x u hu => by
  rcases List.mem_cons.1 hu with rfl | hu
  · rfl
  · rcases List.mem_cons.1 hu with rfl | hu
    · rfl
    · rcases List.mem_append.1 hu with h | h
      · exact encL_one _ u h
      · obtain rfl := List.mem_singleton.1 h; rfl⟩
instance laySop : Lay LSop := { encSop with
  dflt := ⟨0, 0, z32, none, 0, []⟩
  inn := fun w x => x.keep.length ≤ x.c ∧ x.c ≤ maxLen ∧ GlF x.p x.keep w
  mono := fun w w' x h hx => ⟨hx.1, hx.2.1, hx.2.2.mono h⟩ }
instance : SzE LSop 35 := ⟨rfl, by decide⟩
instance cofSop {x : LSop} : CellsOf x (.int .i64 x.kind :: .int .i64 x.n :: (encL x.m.l ++ [.slice x.p x.keep.length x.c])) := ⟨rfl⟩
instance lenDgA {d : Dg} {l : List Value} {n : Nat} [h : LenIs l n] : LenIs (encL d.l ++ l) (n + 32) := ⟨by rw [List.length_append, d.len, h.eq]; omega⟩
instance flatDgA {d : Dg} {l : List Value} [h : Flat l] : Flat (encL d.l ++ l) := ⟨fun u hu => by
  rcases List.mem_append.1 hu with h1 | h1
  · exact encL_one _ u h1
  · exact h.all u h1⟩
instance (priority := 1200) segSop {a b c : Value} {d : Dg} : Seg (a :: b :: (encL d.l ++ [c])) 0 35 (a :: b :: (encL d.l ++ [c])) := ⟨by rw [List.length_cons, List.length_cons, List.length_append, d.len]; rfl, fun j _ => by rw [Nat.zero_add]⟩
instance (priority := 1200) sfSop {cs : List Value} {a b c : Value} {d : Dg} [hl : LenIs cs 35] : SetFront cs (a :: b :: (encL d.l ++ [c])) (a :: b :: (encL d.l ++ [c])) := ⟨by
    have h := hl.eq
    rw [List.length_cons, List.length_cons, List.length_append, d.len]; show 35 ≤ _; omega, by
    have h := hl.eq
    have h2 : (a :: b :: (encL d.l ++ [c])).length = 35 := by rw [List.length_cons, List.length_cons, List.length_append, d.len]; rfl
    rw [h2, List.drop_of_length_le (by omega), List.append_nil]⟩
theorem sfew_c (p : Option Addr) (c : Nat) (l : List LSop) (n : Nat) (hc : l.length ≤ c) (w0 : World) : Ret Tryz.prog 10 [.slice p l.length c, .int .i64 (n : Int)] w0 (fun _ => False) fun v _ => v = .slice p (min l.length n) c := by
  have hle : LeC (min l.length n) c := ⟨by omega⟩
  refine enter Tryz.func10 rfl rfl (Wd.start w0) (fun a S => ?_)
  simp only [Tryz.ntmps10, List.length_cons, List.length_nil, Nat.reduceAdd, Nat.reduceSub, List.replicate_succ, List.replicate_zero, List.cons_append, List.nil_append] at S
  refine c_seq ?_
  refine c_region ?_
  refine sq S ?_; clear S; intro a S
  refine wl_nil ?_
  refine xtn ?_
  refine c_seq ?_
  refine c_region ?_
  iterate 7 (refine sq S ?_; clear S; intro a S)
  refine wl_nil ?_
  refine xtn ?_
  refine c_ret ?_
  exact end1 S (fun _ => rfl)
theorem sop_keep {x : LSop} {M : Nat → Prop} {w : World} {pl : Option Addr} {l : List LSop} (hx : x ∈ l) (h : Stable M w (GlF pl l)) : (x.keep.length ≤ x.c ∧ x.c ≤ maxLen) ∧ Stable M w (GlF x.p x.keep) := ⟨⟨(h.now.2 x hx).1, (h.now.2 x hx).2.1⟩, h.imp fun _ h => (h.2 x hx).2.2⟩
theorem OnceI.more {V : LV} {seed : Dg} {next : Nat} {last T T' : Int} (h : OnceI V seed next last T) (hT : T ≤ T') : OnceI V seed next last T' := by
  obtain ⟨h1, h2, h3, h4⟩ := h
  refine ⟨h1, h2, h3, ?_⟩
  rcases h4 with ⟨n, t, said, g1, g2, g3⟩ | ⟨g1, g2, g3⟩
  · exact .inl ⟨n, t, said, g1, g2, by omega⟩
  · exact .inr ⟨g1, g2, fun keep => by obtain ⟨n, t, said, nx, k1, k2, k3, k4⟩ := g3 keep; exact ⟨n, t, said, nx, k1, k2, k3, by omega⟩⟩
theorem i64_le (n : Int) : IntKind.i64.wrap n ≤ 9223372036854775807 := by
  unfold IntKind.wrap
  simp only [IntKind.bits, IntKind.signed, Bool.true_and]
  by_cases h : n % (2 ^ 64 : Int) ≥ (2 ^ (64 - 1) : Int)
  · rw [if_pos (by simpa using h)]; omega
  · rw [if_neg (by simpa using h)]; omega
theorem setC_ok (n : Int) : (setC (IntKind.i64.wrap n)).ok := fun h => ⟨of_decide_eq_true h, i64_le n⟩
abbrev LG.set (L : LG) (s : DS) : LG := { L with s := s }
theorem OnceI.fail {L : LG} {seed : Dg} {next : Nat} {last T : Int} (h : OnceI L.v seed next last T) (n : Int) : OnceI (L.set (failD L.s (IntKind.i64.wrap n))).v seed next last T := by
  refine h.same rfl ?_ ?_
  · show failD L.s _ = _
    unfold failD; split <;> rfl
  · intro h1 h2 h3
    show (failD L.s _).fails.ok ∧ (failD L.s _).arms.ok
    unfold failD
    rw [if_neg (by show ¬ L.s.out = true; rw [show L.s.out = false from h1]; exact Bool.false_ne_true)]
    exact ⟨setC_ok n, h3⟩
theorem OnceI.arm {L : LG} {seed : Dg} {next : Nat} {last T : Int} (h : OnceI L.v seed next last T) (n : Int) : OnceI (L.set (armD L.s (IntKind.i64.wrap n))).v seed next last T := by
  refine h.same rfl ?_ ?_
  · show armD L.s _ = _
    unfold armD; split <;> rfl
  · intro h1 h2 h3
    show (armD L.s _).fails.ok ∧ (armD L.s _).arms.ok
    unfold armD
    rw [if_neg (by show ¬ L.s.out = true; rw [show L.s.out = false from h1]; exact Bool.false_ne_true)]
    exact ⟨h2, setC_ok n⟩
def sAreaN (area : Int) : Nat := 4 + ((IntKind.u64.wrap area) % 6).toNat
theorem sArea_w (area : Int) : IntKind.i64.wrap (4 + IntKind.i64.wrap ((IntKind.u64.wrap area).tmod 6)) = (sAreaN area : Int) := by
  have h0 : 0 ≤ IntKind.u64.wrap area := by unfold IntKind.wrap; simp only [IntKind.bits, IntKind.signed, Bool.false_and]; simp; omega
  rw [Int.tmod_eq_emod_of_nonneg h0, w64 (IntKind.u64.wrap area % 6) (by omega) (by omega), w64 (4 + IntKind.u64.wrap area % 6) (by omega) (by omega), sAreaN]
  omega
set_option maxHeartbeats 1600000 in
theorem sonce_c (area : Int) (seed : Dg) (pl : Option Addr) (cl : Nat) (l : List LSop) (hcl : l.length ≤ cl) (hz : ∀ x ∈ l, x.keep.length ≤ 140737488355328) (w0 : World) (f0 : Stable (fun _ => False) w0 (GlF pl l)) :
    Ret Tryz.prog 3 [.int .i64 area, vDg seed, .slice pl l.length cl] w0 (fun _ => False) fun v _ => v = .bool true := by
  obtain ⟨n, hn⟩ : ∃ n, n = sAreaN area := ⟨_, rfl⟩
  have hn4 : 4 ≤ n ∧ n ≤ 9 := by rw [hn, sAreaN]; omega
  obtain ⟨hc, hok, hoff, hlv⟩ := fmt_sg n (by omega) seed
  refine enter Tryz.func3 rfl rfl (Wd.begin (fs := [GlF pl l]) (by simpa using f0)) (fun a S => ?_)
  simp only [Tryz.ntmps3, List.length_cons, List.length_nil, Nat.reduceAdd, Nat.reduceSub, List.replicate_succ, List.replicate_zero, List.cons_append, List.nil_append] at S
  refine c_seq ?_
  refine c_region ?_
  refine sa S ?_; clear S; intro b4 a w S
  refine sq S ?_; clear S; intro a S
  refine wl_nil ?_
  refine xtn ?_
  iterate 2 (refine c_seq ?_)
  refine c_region ?_
  refine sr S (swakes_c _) ?_; clear S; rintro _ a w rfl S
  refine sq S ?_; clear S; intro a S
  refine wl_nil ?_
  refine xtn ?_
  refine c_condF S ?_
  refine c_skip ?_
  refine xtn ?_
  refine c_seq ?_
  refine c_region ?_
  iterate 5 (refine sq S ?_; clear S; intro a S)
  rw [sArea_w, ← hn] at S
  refine sq S ?_; clear S; intro a S
  refine wl_nil ?_
  refine xtn ?_
  refine c_seq ?_
  refine c_region ?_
  iterate 2 (refine sq S ?_; clear S; intro a S)
  rw [w64 (2 * (n : Int)) (by omega) (by omega)] at S
  refine sq S ?_; clear S; intro a S
  rw [show IntKind.i64.wrap (2 + 2 * (n : Int)) = ((2 * n + 2 : Nat) : Int) from by rw [w64 _ (by omega) (by omega)]; omega] at S
  refine snew S (dnew_dk ((2 * n + 2 : Nat) : Int) (by omega) _) ?_; clear S; rintro _ a w - ⟨b, m, rfl, hh, hnw⟩ hS -
  have S := hS (dkI b m none 0 (newD ((2 * n + 2 : Nat) : Int))) hh hnw
  clear hS
  iterate 5 (refine sq S ?_; clear S; intro a S)
  refine wl_nil ?_
  refine xtn ?_
  refine c_seq ?_
  refine c_region ?_
  iterate 3 (refine sq S ?_; clear S; intro a S)
  refine sit (dkI b m none 0 (newD ((2 * n + 2 : Nat) : Int))) S (sformat_c b m n none 0 (newD ((2 * n + 2 : Nat) : Int)) seed _ (by simp [mayF, newD]; omega) (by simp [newD]) (format_live n (by omega)).1 hc (S.it (dkI b m none 0 (newD ((2 * n + 2 : Nat) : Int))))) rfl ?_; clear S; rintro _ a w ⟨h0, g0, L0, rfl, hh2, hf2, hm2, hv2⟩ hS
  have S := hS (sgI h0 b g0 seed ((0 : Nat) : Int) L0) hh2 hf2
  clear hS
  have hI0 : OnceI L0.v seed 0 (-1) 1 := ⟨by omega, by decide, by decide, .inl ⟨n, 1, [laidD seed 0], by rw [hv2]; exact hok, sgV_snap seed (n := 0) (by omega), by decide⟩⟩
  iterate 5 (refine sq S ?_; clear S; intro a S)
  refine wl_nil ?_
  refine xtn ?_
  iterate 2 (refine c_seq ?_)
  refine c_region ?_
  iterate 3 (refine sq S ?_; clear S; intro a S)
  iterate 2 (refine gQ S ?_; clear S; intro a S)
  refine sq S ?_; clear S; intro a S
  refine wl_nil ?_
  refine xtn ?_
  refine c_condF S ?_
  refine c_skip ?_
  refine xtn ?_
  refine c_seq ?_
  refine c_region ?_
  refine sq S ?_; clear S; intro a S
  refine sr S (mroot_c seed _) ?_; clear S; rintro _ a w rfl S
  refine sa S ?_; clear S; intro b12 a w S
  refine sw S ?_; clear S; intro a w S
  refine wl_nil ?_
  refine xtn ?_
  refine c_seq ?_
  refine c_region ?_
  refine sq S ?_; clear S; intro a S
  refine wl_nil ?_
  refine xtn ?_
  iterate 2 (refine c_seq ?_)
  refine c_region ?_
  refine sq S ?_; clear S; intro a S
  refine sr S (sfew_c pl cl l 24 hcl _) ?_; clear S; rintro _ a w rfl S
  obtain ⟨ops, hops⟩ : ∃ ops, ops = l.take 24 := ⟨_, rfl⟩
  have hopl : ops.length = min l.length 24 := by rw [hops, List.length_take]; omega
  rw [← hopl] at S
  replace S := S.add (Φ := GlF pl ops) ((S.mem.fact (GlF pl l)).imp fun _ h => by rw [hops]; exact h.take 24)
  iterate 2 (refine sq S ?_; clear S; intro a S)
  refine wl_nil ?_
  refine xtn ?_
  refine c_block ?_
  refine c_fore6 S (fun (k : Nat) (h : Nat) (g : Nat) (next : Nat) (L : LG) (last : Int) uu => [(6, uu 6), (3, .pointer (some ⟨h, 0, none⟩)), (2, .int .i64 last), (1, uu 15), (0, uu 16), (0, uu 17), (0, uu 18), (0, uu 19), (0, uu 20), (32, .int .i64 (k : Nat)), (0, uu 54), (0, uu 55), (0, uu 56), (0, uu 57), (0, uu 58), (0, uu 59), (0, uu 60), (0, uu 61), (0, uu 62), (0, uu 63), (0, uu 64), (0, uu 65), (0, uu 66), (0, uu 67), (0, uu 68), (0, uu 69), (0, uu 70), (0, uu 71), (0, uu 72), (0, uu 73), (0, uu 74), (0, uu 75), (0, uu 76), (0, uu 77), (0, uu 78), (0, uu 79), (0, uu 80), (0, uu 81), (0, uu 82), (0, uu 83), (0, uu 84), (0, uu 85), (0, uu 86), (0, uu 87), (0, uu 88), (0, uu 89), (0, uu 90), (0, uu 91), (0, uu 92), (0, uu 93), (0, uu 94), (0, uu 95), (0, uu 96), (0, uu 97), (0, uu 98), (0, uu 99), (0, uu 100), (0, uu 101), (0, uu 102), (0, uu 103), (0, uu 104), (0, uu 105), (0, uu 106), (0, uu 107), (0, uu 108), (0, uu 109), (0, uu 110), (0, uu 111), (0, uu 112), (0, uu 113), (0, uu 114), (0, uu 115), (0, uu 116), (0, uu 117), (0, uu 118), (0, uu 119), (0, uu 120), (0, uu 121), (0, uu 122), (0, uu 123), (0, uu 124), (0, uu 125), (0, uu 126), (0, uu 127), (0, uu 128), (0, uu 129), (0, uu 130), (0, uu 131), (0, uu 132), (0, uu 133), (0, uu 134), (0, uu 135), (0, uu 136), (0, uu 137), (0, uu 138), (0, uu 139), (0, uu 140), (0, uu 141), (0, uu 142), (0, uu 143), (0, uu 144), (0, uu 145), (0, uu 146), (0, uu 147), (0, uu 148), (0, uu 149)]) (fun (k : Nat) (h : Nat) (g : Nat) (next : Nat) (L : LG) (last : Int) => [sgI h b g seed (next : Nat) L, Wk.box b12 23 (encL (rootD seed).l)]) (fun (k : Nat) (h : Nat) (g : Nat) (next : Nat) (L : LG) (last : Int) => [GlF pl ops]) (fun (k : Nat) (h : Nat) (g : Nat) (next : Nat) (L : LG) (last : Int) => k ≤ ops.length ∧ OnceI L.v seed next last ((k : Int) + 1)) (fun (k : Nat) (h : Nat) (g : Nat) (next : Nat) (L : LG) (last : Int) => ops.length - k) (0) (h0) (g0) (0) (L0) (-1) ?_ S.uu ?_ ?_
  · exact ⟨Nat.zero_le _, hI0⟩
  · exact (S.front (sgI h0 b g0 seed ((0 : Nat) : Int) L0)).sub _ _
  · clear S; rintro k h g next L last uu a w ⟨hk, hI⟩ S
    refine c_seq ?_
    refine c_region ?_
    refine sq S ?_; clear S; intro a S
    refine wl_nil ?_
    refine xtn ?_
    refine c_seq ?_
    refine c_cond S (fun h11 => ?_) (fun h11 => ?_)
    · refine c_skip ?_
      refine xtn ?_
      refine c_seq ?_
      refine c_block ?_
      refine c_seq ?_
      have hk2 : k < ops.length := by have := of_decide_eq_true h11; omega
      have hK : KLt k ops.length := ⟨hk2⟩
      have hwf := hI.wf
      obtain ⟨x, hx⟩ : ∃ x, x = nthG ops k := ⟨_, rfl⟩
      have hxm : x ∈ ops := hx ▸ nthG_mem hk2
      obtain ⟨hkc, hkf⟩ := sop_keep hxm (S.mem.fact (GlF pl ops))
      replace S := S.add hkf
      refine c_region ?_
      iterate 2 (refine sq S ?_; clear S; intro a S)
      rw [← hx] at S
      refine sa S ?_; clear S; intro b15 a w S
      refine sw S ?_; clear S; intro a w S
      refine wl_nil ?_
      refine xtn ?_
      refine c_seq ?_
      refine c_region ?_
      iterate 5 (refine sq S ?_; clear S; intro a S)
      refine wl_nil ?_
      refine xtn ?_
      refine c_block ?_
      refine c_seq ?_
      refine c_region ?_
      iterate 3 (refine sq S ?_; clear S; intro a S)
      refine wl_nil ?_
      refine xtn ?_
      refine c_cond S (fun h27 => ?_) (fun h27 => ?_)
      · refine c_seq ?_
        refine c_region ?_
        iterate 3 (refine sq S ?_; clear S; intro a S)
        refine sitM (sgI h b g seed (next : Nat) L) S (ssign_c h b g seed x.m next hI.1 L 2000 hwf (by omega) (restOf _ (sgI h b g seed (next : Nat) L)) _ (S.restOk _) (S.it (sgI h b g seed (next : Nat) L))) rfl ?_; clear S; rintro v a w ⟨L2, hh3, hf3, hm3, hv3, hR⟩ hS
        obtain ⟨hI1, hI2⟩ := hI.sign (by omega)
        rw [← hv3] at hI1 hI2
        obtain ⟨lf, ss, ps, pc, cc, pp, cp, rfl, g1, g2, hcase⟩ : ∃ (lf : Nat) (ss ps : List Dg) (pc : Option Addr) (cc : Nat) (pp : Option Addr) (cp : Nat), v = .tuple ⟨[.agg ⟨[.int .i64 (lf : Int), .slice pc ss.length cc, .slice pp ps.length cp]⟩, .int .i64 (sgE L.v seed next)]⟩ ∧
            Stable (fun k => (sgI h b g seed ((sgN L.v seed next : Nat) : Int) L2).foot k ∨ restOf _ (sgI h b g seed (next : Nat) L) k) w (GlF pc ss) ∧ Stable (fun k => (sgI h b g seed ((sgN L.v seed next : Nat) : Int) L2).foot k ∨ restOf _ (sgI h b g seed (next : Nat) L) k) w (GlF pp ps) ∧
            (sgE L.v seed next = 0 → lf = next ∧ next < 8 ∧ ss = signD (seedD seed next) x.m ∧ ps = pathD seed next) := by
          rcases hR with ⟨hE, rfl⟩ | ⟨hE, hn8, pc, cc, pp, cp, rfl, g1, g2⟩
          · exact ⟨0, [], [], none, 0, none, 0, rfl, fun _ _ => gl_nil, fun _ _ => gl_nil, fun h => absurd h hE⟩
          · exact ⟨next, signD (seedD seed next) x.m, pathD seed next, pc, cc, pp, cp, by rw [hE, signD_len, path_len]; rfl, g1, g2, fun _ => ⟨rfl, hn8, rfl, rfl⟩⟩
        have S := hS (sgI h b g seed ((sgN L.v seed next : Nat) : Int) L2) [GlF pc ss, GlF pp ps] hh3 hf3 (by simp only [List.mem_cons, List.not_mem_nil, or_false]; rintro Φ (rfl | rfl); exact g1; exact g2)
        clear hS
        iterate 3 (refine sq S ?_; clear S; intro a S)
        refine sa S ?_; clear S; intro b17 a w S
        refine sw S ?_; clear S; intro a w S
        refine sq S ?_; clear S; intro a S
        refine wl_nil ?_
        refine xtn ?_
        iterate 2 (refine c_seq ?_)
        refine c_region ?_
        iterate 2 (refine sq S ?_; clear S; intro a S)
        refine wl_nil ?_
        refine xtn ?_
        refine c_cond S (fun h29 => ?_) (fun h29 => ?_)
        · refine c_exit ?_
          refine xte ?_
          refine xbx ?_
          refine xbe ?_
          refine xtn ?_
          refine c_region ?_
          iterate 2 (refine sq S ?_; clear S; intro a S)
          refine wl_nil ?_
          refine xtn ?_
          have hE : sgE L.v seed next ≠ 0 := by simpa using h29
          rw [w64 ((k : Int) + 1) (by omega) (by omega)] at S
          exact ⟨k + 1, h, g, sgN L.v seed next, L2, last, S.uu, ⟨hk2, (hI1 hE).more (by omega)⟩, (S.front (sgI h b g seed ((sgN L.v seed next : Nat) : Int) L2)).sub _ _, by omega⟩
        · refine c_skip ?_
          refine xtn ?_
          iterate 2 (refine c_seq ?_)
          have hE : sgE L.v seed next = 0 := by simpa using h29
          obtain ⟨hI3, hl8, hn8⟩ := hI2 hE
          obtain ⟨rfl, -, rfl, rfl⟩ := hcase hE
          refine c_region ?_
          iterate 4 (refine sq S ?_; clear S; intro a S)
          rw [show decide ((lf : Int) ≤ last) = false from decide_eq_false (by omega)] at S
          refine sq S ?_; clear S; intro a S
          refine gT' S ?_
          refine sq S ?_; clear S; intro a S
          refine gT' S ?_
          refine sq S ?_; clear S; intro a S
          refine gT' S ?_
          refine sq S ?_; clear S; intro a S
          rw [show decide ((8 : Int) ≤ (lf : Int)) = false from decide_eq_false (by omega)] at S
          iterate 2 (refine sq S ?_; clear S; intro a S)
          refine gT' S ?_
          refine sq S ?_; clear S; intro a S
          refine gT' S ?_
          refine sq S ?_; clear S; intro a S
          refine gT' S ?_
          refine sq S ?_; clear S; intro a S
          refine gT' S ?_
          refine sq S ?_; clear S; intro a S
          refine gT' S ?_
          have hvs := verify_sign seed x.m (leaf := lf) hn8
          rw [signD_len, path_len] at S
          refine sr S (verify_c (rootD seed) x.m lf (signD (seedD seed lf) x.m) (pathD seed lf) pc pp cc cp hn8 (signD_len _ _) (path_len _ _) _ ((S.mem.fact (GlF pc (signD (seedD seed lf) x.m))).less fun _ _ h => h.elim) ((S.mem.fact (GlF pp (pathD seed lf))).less fun _ _ h => h.elim)) ?_; clear S; rintro _ a w rfl S
          rw [decide_eq_true hvs] at S
          refine gT' S ?_
          refine sq S ?_; clear S; intro a S
          rw [show (!true) = false from rfl] at S
          refine sq S ?_; clear S; intro a S
          refine wl_nil ?_
          refine xtn ?_
          refine c_condF S ?_
          refine c_skip ?_
          refine xtn ?_
          refine c_region ?_
          iterate 3 (refine sq S ?_; clear S; intro a S)
          refine wl_nil ?_
          iterate 2 (refine xbn ?_)
          refine xtn ?_
          refine c_region ?_
          iterate 2 (refine sq S ?_; clear S; intro a S)
          refine wl_nil ?_
          refine xtn ?_
          rw [w64 ((k : Int) + 1) (by omega) (by omega)] at S
          exact ⟨k + 1, h, g, sgN L.v seed lf, L2, (lf : Int), S.uu, ⟨hk2, hI3.more (by omega)⟩, (S.front (sgI h b g seed ((sgN L.v seed lf : Nat) : Int) L2)).sub _ _, by omega⟩
      · refine c_seq ?_
        refine c_region ?_
        iterate 3 (refine sq S ?_; clear S; intro a S)
        refine wl_nil ?_
        refine xtn ?_
        refine c_cond S (fun h33 => ?_) (fun h33 => ?_)
        · replace S := S.front (sgI h b g seed (next : Nat) L)
          replace S := S.ofBoth
          replace S := S.front (lgI b g L)
          replace S := S.ofBoth
          refine c_region ?_
          iterate 6 (refine sq S ?_; clear S; intro a S)
          obtain ⟨k5, hk5⟩ : ∃ k5, k5 = (IntKind.u64.wrap x.n).tmod 12 := ⟨_, rfl⟩
          rw [← hk5] at S
          refine sit (dkI b L.m L.p L.c L.s) S (dfail_c b L.m L.p L.c L.s (IntKind.i64.wrap k5) _ (S.it (dkI b L.m L.p L.c L.s))) rfl ?_; clear S; rintro _ a w ⟨rfl, hh2⟩ hS
          have S := hS (dkI b L.m L.p L.c (failD L.s (IntKind.i64.wrap k5))) hh2 (fun k hk => .inl hk)
          clear hS
          refine wl_nil ?_
          iterate 2 (refine xbn ?_)
          refine xtn ?_
          refine c_region ?_
          iterate 2 (refine sq S ?_; clear S; intro a S)
          refine wl_nil ?_
          refine xtn ?_
          rw [w64 ((k : Int) + 1) (by omega) (by omega)] at S
          replace S := S.front (dkI b L.m L.p L.c (failD L.s (IntKind.i64.wrap k5)))
          replace S := S.toBoth
          replace S := S.front (Wk.box h 79 (cSg g seed (next : Nat)))
          replace S := S.toBoth
          exact ⟨k + 1, h, g, next, L.set (failD L.s (IntKind.i64.wrap k5)), last, S.uu, ⟨hk2, (hI.fail k5).more (by omega)⟩, S.sub _ _, by omega⟩
        · refine c_seq ?_
          refine c_region ?_
          iterate 3 (refine sq S ?_; clear S; intro a S)
          refine wl_nil ?_
          refine xtn ?_
          refine c_cond S (fun h35 => ?_) (fun h35 => ?_)
          · replace S := S.front (sgI h b g seed (next : Nat) L)
            replace S := S.ofBoth
            replace S := S.front (lgI b g L)
            replace S := S.ofBoth
            refine c_region ?_
            iterate 6 (refine sq S ?_; clear S; intro a S)
            obtain ⟨k5, hk5⟩ : ∃ k5, k5 = (IntKind.u64.wrap x.n).tmod 12 := ⟨_, rfl⟩
            rw [← hk5] at S
            refine sit (dkI b L.m L.p L.c L.s) S (darm_c b L.m L.p L.c L.s (IntKind.i64.wrap k5) _ (S.it (dkI b L.m L.p L.c L.s))) rfl ?_; clear S; rintro _ a w ⟨rfl, hh2⟩ hS
            have S := hS (dkI b L.m L.p L.c (armD L.s (IntKind.i64.wrap k5))) hh2 (fun k hk => .inl hk)
            clear hS
            refine wl_nil ?_
            iterate 2 (refine xbn ?_)
            refine xtn ?_
            refine c_region ?_
            iterate 2 (refine sq S ?_; clear S; intro a S)
            refine wl_nil ?_
            refine xtn ?_
            rw [w64 ((k : Int) + 1) (by omega) (by omega)] at S
            replace S := S.front (dkI b L.m L.p L.c (armD L.s (IntKind.i64.wrap k5)))
            replace S := S.toBoth
            replace S := S.front (Wk.box h 79 (cSg g seed (next : Nat)))
            replace S := S.toBoth
            exact ⟨k + 1, h, g, next, L.set (armD L.s (IntKind.i64.wrap k5)), last, S.uu, ⟨hk2, (hI.arm k5).more (by omega)⟩, S.sub _ _, by omega⟩
          · refine c_seq ?_
            refine c_seq ?_
            replace S := S.front (sgI h b g seed (next : Nat) L)
            replace S := S.ofBoth
            replace S := S.front (lgI b g L)
            replace S := S.ofBoth
            refine c_region ?_
            refine sq S ?_; clear S; intro a S
            refine sn S ?_; clear S; intro b62 a w S
            replace S := S.boxRow b62 1 0 rfl (by decide)
            iterate 2 (refine sq S ?_; clear S; intro a S)
            refine sap S (by omega) (by have := hz x (List.mem_of_mem_take (hops ▸ hxm)); omega) ?_; clear S; rintro p8 c8 a w - S
            rw [List.nil_append, Nat.zero_add] at S
            replace S := S.rowToGl p8 x.keep (e := 4) (sz := 1) (n := x.keep.length) (c := c8) (fun _ _ _ _ => trivial)
            have hl2 := hwf.loose
            refine sit (dkI b L.m L.p L.c L.s) S (dcrash_c b L.m L.p L.c L.s x.keep p8 c8 _ (by show L.v.s.loose.length ≤ _; omega) (S.it (dkI b L.m L.p L.c L.s)) (S.lend (dkI b L.m L.p L.c L.s) (S.mem.fact (GlF p8 x.keep)))) rfl ?_; clear S; rintro _ a w ⟨rfl, hh2⟩ hS
            have S := hS (dkI b L.m none 0 (crashD x.keep L.s)) hh2 (fun k hk => .inl (crash_foot k hk))
            clear hS
            refine sq S ?_; clear S; intro a S
            refine wl_nil ?_
            refine xtn ?_
            refine c_condF S ?_
            refine c_skip ?_
            refine xtn ?_
            refine c_seq ?_
            refine c_region ?_
            refine sq S ?_; clear S; intro a S
            obtain ⟨o1, nx, o2, o3, o4⟩ := hI.crash x.keep
            refine sit (dkI b L.m none 0 (crashD x.keep L.s)) S (sopen_c b L.m none 0 (crashD x.keep L.s) (by show (0 : Nat) ≤ _; omega) _ (S.it (dkI b L.m none 0 (crashD x.keep L.s)))) rfl ?_; clear S; rintro _ a w (⟨q, -⟩ | ⟨-, q, -⟩ | ⟨-, h2, g2, L3, seed2, next2, hs3, rfl, hm3, hv3, hh4, hf4⟩) hS
            · exact absurd o1 q
            · rw [show sgV (opnV (crashD x.keep L.s)).said = _ from o2] at q; cases q
            obtain ⟨rfl, rfl⟩ : seed = seed2 ∧ nx = next2 := by rw [show sgV (opnV (crashD x.keep L.s)).said = _ from o2] at hs3; cases hs3; exact ⟨rfl, rfl⟩
            have S := hS (sgI h2 b g2 seed (nx : Nat) L3) hh4 hf4
            clear hS
            rw [show opnV (crashD x.keep L.v.s) = L3.v from hv3.symm] at o4
            iterate 5 (refine sq S ?_; clear S; intro a S)
            refine wl_nil ?_
            refine xtn ?_
            iterate 2 (refine c_seq ?_)
            refine c_region ?_
            iterate 2 (refine sq S ?_; clear S; intro a S)
            refine wl_nil ?_
            refine xtn ?_
            refine c_condF S ?_
            refine c_skip ?_
            refine xtn ?_
            refine c_seq ?_
            refine c_region ?_
            iterate 2 (refine sq S ?_; clear S; intro a S)
            refine wl_nil ?_
            refine xtn ?_
            refine c_seq ?_
            refine c_drawD [(0, true), (2, true), (1, false), (3, true), (4, true), (5, true), (7, true), (6, false), (8, true), (9, true)] [] S ?_; clear S; intro w S
            iterate 2 (refine dq S ?_; clear S; intro a S)
            refine dl ?_
            refine sr S (sg_root h2 b g2 seed (nx : Nat) L3 _ (S.it (sgI h2 b g2 seed (nx : Nat) L3))) ?_; clear S; rintro _ a w rfl S
            refine de S ?_
            refine dq S ?_; clear S; intro a S
            rw [show (!decide ((rootD seed).l = (rootD seed).l)) = false from by simp] at S
            refine dq S ?_; clear S; intro a S
            iterate 2 (refine dqG S ?_; clear S; intro a S)
            refine dl ?_
            refine gT' S ?_
            refine sr S (sg_next h2 b g2 seed (nx : Nat) L3 _ (S.it (sgI h2 b g2 seed (nx : Nat) L3))) ?_; clear S; rintro _ a w rfl S
            refine de S ?_
            refine dqG S ?_; clear S; intro a S
            rw [show decide ((nx : Int) ≤ last) = false from decide_eq_false (by omega)] at S
            refine dq S ?_; clear S; intro a S
            refine dn ?_
            refine xtn ?_
            refine c_condF S ?_
            refine c_skip ?_
            iterate 2 (refine xbn ?_)
            refine xtn ?_
            refine c_region ?_
            iterate 2 (refine sq S ?_; clear S; intro a S)
            refine wl_nil ?_
            refine xtn ?_
            rw [w64 ((k : Int) + 1) (by omega) (by omega)] at S
            exact ⟨k + 1, h2, g2, nx, L3, last, S.uu, ⟨hk2, o4.more (by omega)⟩, (S.front (sgI h2 b g2 seed (nx : Nat) L3)).sub _ _, by omega⟩
    · refine c_exit ?_
      iterate 2 (refine xte ?_)
      refine xbe ?_
      refine xtn ?_
      refine c_seq ?_
      refine c_region ?_
      refine sq S ?_; clear S; intro a S
      refine wl_nil ?_
      refine xtn ?_
      refine c_ret ?_
      exact end1 S (fun _ => rfl)
end Go.Proofs.YtlphkccfcodmcaaGreat

namespace Go.Wk
open Go Go.Deep Go.ChangeShapes Go.WideShapes Go.ChangeAt Go.RowKit
/-! what comes in, and how large it may be -/
class TroZ (P : Program) (T : TypeId) (α : Type) [Lay α] (Z : outParam (α → Prop)) : Prop where
  of : ∀ {H : Type} (enc : TypeId × Value → H) (w : World) (base : Nat) (spare : Nat → Bool) (held : Bool) (fuel : Nat) (cs : List Value) (x : DataW H × List MemPlace), DataW.trod enc P w base spare held fuel T cs = some x → ∃ a : α, cs = Enc.cells a ∧ Lay.inn w a ∧ ((∀ n ∈ x.1.weights P T, n ≤ reachBytes) → Z a)
  size : P.cellsOf T = Enc.sz α
theorem troZ_of {P : Program} {T : TypeId} {α : Type} [Lay α] (h : Tro P T α) : TroZ P T α (fun _ => True) := ⟨fun enc w base spare held fuel cs x hx => by
  obtain ⟨a, h1, h2⟩ := h.of enc w base spare held fuel cs x hx
  exact ⟨a, h1, h2, fun _ => trivial⟩, h.size⟩
theorem weights_mem_all {H : Type} {P : Program} {e : TypeId} : ∀ {ds : List (DataW H)} {d : DataW H}, d ∈ ds → ∀ n ∈ d.weights P e, n ∈ DataW.weightsAll P e ds
  | d0 :: ds, d, hd, n, hn => by
    simp only [DataW.weightsAll, List.mem_append]
    rcases List.mem_cons.1 hd with rfl | hd
    · exact .inl hn
    · exact .inr (weights_mem_all hd n hn)
abbrev ZSl {α : Type} [Lay α] (P : Program) (T : TypeId) (Z : α → Prop) : Sl α → Prop := fun s => s.xs.length * P.bytesOf T ≤ reachBytes ∧ ∀ x ∈ s.xs, Z x
theorem troZ_Sl {P : Program} {T L : TypeId} {α : Type} {Z : α → Prop} [Lay α] [hT : TroZ P T α Z] (hu : P.underlying L = some (.slice T)) (hs : P.cellsOf L = 1) : TroZ P L (Sl α) (ZSl P T Z) := ⟨fun enc w base spare held fuel cs x h => by
  rcases DataW.trod_slice hu h with ⟨e4, e5⟩ | ⟨ad, len, cap, elems, rest, n', rfl, e4, e5, _, hlc, hcm, hel, hem, _, _⟩
  · exact ⟨⟨none, 0, []⟩, e4, ⟨Nat.le_refl _, Nat.zero_le _, gl_nil⟩, fun _ => ⟨by simp, fun _ h => by cases h⟩⟩
  · subst e4
    have : Inhabited α := ⟨Lay.dflt⟩
    obtain ⟨g, hg⟩ := choose_lt (α := α) (p := fun i t => (w.cells? base (ad.add (i * Enc.sz α)) (Enc.sz α) = some (Enc.cells t) ∧ Lay.inn w t) ∧ ((∀ n ∈ x.1.weights P L, n ≤ reachBytes) → Z t)) (n := len) (fun i hi => by
      have h1 := hem i hi
      rw [hT.size, List.getElem?_eq_getElem (by omega)] at h1
      obtain ⟨cs', h2, h3⟩ := Option.bind_eq_some_iff.1 h1
      obtain ⟨t, rfl, ht, hz⟩ := hT.of _ _ _ _ _ _ _ _ h3
      refine ⟨t, ⟨h2, ht⟩, fun hw => hz fun n hn => hw n ?_⟩
      rw [e5]
      simp only [DataW.weights, hu, List.mem_cons, List.mem_append]
      exact .inr (.inl (weights_mem_all (List.mem_map_of_mem (List.getElem_mem (by omega))) n hn)))
    refine ⟨⟨some ad, cap, (List.range len).map g⟩, by simp [Enc.cells, Sl.v], ⟨by simpa using hlc, hcm, ⟨fun h => (by cases h), fun ad' hp j u hj => ?_⟩, fun t ht => ?_⟩, fun hw => ⟨?_, fun t ht => ?_⟩⟩
    · obtain rfl : ad = ad' := by simpa using hp
      have hjl : j < len * Enc.sz α := by
        have := (List.getElem?_eq_some_iff.1 hj).1
        rw [encL_len] at this; simpa using this
      have hz : 0 < Enc.sz α := Nat.pos_of_ne_zero fun h0 => by rw [h0] at hjl; omega
      have hi : j / Enc.sz α < len := (Nat.div_lt_iff_lt_mul hz).2 hjl
      have hm : j % Enc.sz α < Enc.sz α := Nat.mod_lt _ hz
      have hdm : j / Enc.sz α * Enc.sz α + j % Enc.sz α = j := Nat.div_add_mod' j _
      obtain ⟨⟨hc, -⟩, -⟩ := hg _ hi
      obtain ⟨_, _, h5⟩ := World.cells?_some hc
      have h6 := h5 _ hm
      have h7 := encL_get ((List.range len).map g) (j / Enc.sz α) (g (j / Enc.sz α)) (by simp [hi]) _ hm
      rw [hdm, hj] at h7
      rw [Go.Deep.add_add, hdm] at h6
      rw [h6, ← h7]
    · obtain ⟨i, hi, rfl⟩ := List.mem_map.1 ht
      exact (hg i (List.mem_range.1 hi)).1.2
    · have h1 := hw ((elems.length + rest.length) * P.bytesOf T) (by rw [e5]; simp [DataW.weights, hu])
      rw [List.length_map, List.length_range]
      refine Nat.le_trans (Nat.mul_le_mul_right _ ?_) h1
      omega
    · obtain ⟨i, hi, rfl⟩ := List.mem_map.1 ht
      exact (hg i (List.mem_range.1 hi)).2 hw, hs⟩
theorem trodZ_flds {H : Type} {enc : TypeId × Value → H} {P : Program} {w : World} {base : Nat} {spare : Nat → Bool} {held : Bool} {T : TypeId} {fs : Array Field} (hu : P.underlying T = some (.struct fs)) {fuel : Nat} {cs : List Value} {x : DataW H × List MemPlace} (h : DataW.trod enc P w base spare held fuel T cs = some x) :
    cs.length = P.cellsOf T ∧ ∀ (i t o : Nat), (fs.toList.map (fun f => (f.type, f.offset)))[i]? = some (t, o) → ∃ n y, DataW.trod enc P w base spare held n t ((cs.drop o).take (P.cellsOf t)) = some y ∧ ∀ k ∈ y.1.weights P t, k ∈ x.1.weights P T := by
  obtain ⟨xs, n, rfl, rfl, hlen, hxl, hx⟩ := DataW.trod_struct hu h
  refine ⟨hlen, fun i t o hi => ?_⟩
  rw [List.getElem?_map] at hi
  obtain ⟨f, hf1, hf2⟩ := Option.map_eq_some_iff.1 hi
  simp only [Prod.mk.injEq] at hf2
  obtain ⟨rfl, rfl⟩ := hf2
  have hlt : i < fs.size := by simpa using (List.getElem?_eq_some_iff.1 hf1).1
  have h1 := hx i f (by simpa using hf1)
  rw [List.getElem?_eq_getElem (by omega)] at h1
  refine ⟨n, _, h1, fun k hk => ?_⟩
  simp only [DataW.weights, hu]
  refine DataW.weights_mem_each (j := i) (t := f.type) (d := (xs[i]'(by omega)).1) ?_ ?_ k hk
  · rw [List.getElem?_map, hf1]; rfl
  · rw [List.getElem?_map, List.getElem?_eq_getElem (by omega)]; rfl
theorem trodZ_fld {H : Type} {enc : TypeId × Value → H} {P : Program} {w : World} {base : Nat} {spare : Nat → Bool} {held : Bool} {T : TypeId} {α : Type} {Z : α → Prop} [Lay α] [hT : TroZ P T α Z] {n : Nat} {cs : List Value} {y : DataW H × List MemPlace} {o s : Nat} (h : DataW.trod enc P w base spare held n T ((cs.drop o).take s) = some y) (hs : s = P.cellsOf T) :
    ∃ a : α, (cs.drop o).take (Enc.sz α) = Enc.cells a ∧ Lay.inn w a ∧ ((∀ n ∈ y.1.weights P T, n ≤ reachBytes) → Z a) := by
  subst hs
  obtain ⟨a, h1, h2, h3⟩ := hT.of _ _ _ _ _ _ _ _ h
  exact ⟨a, by rw [← hT.size]; exact h1, h2, h3⟩
theorem slice_of_TrodZ {P : Program} {L T : TypeId} {α : Type} {Z : Sl α → Prop} [Lay α] [hT : TroZ P L (Sl α) Z] {H : Type} {enc : TypeId × Value → H} {w : World} {base : Nat} {spare : Nat → Bool} {held : Bool} (hu : P.underlying L = some (.slice T)) {v : Value} {d : DataW H} {p : List MemPlace} {r : Reach} {W : World} {base' : Nat} (h : DataW.Trod enc P w base spare held L v d p) (hv : Value.okWide P W r base' L v) :
    ∃ s : Sl α, v = s.v ∧ s.xs.length ≤ s.cap ∧ s.cap ≤ maxLen ∧ GlF s.p s.xs w ∧ ((∀ n ∈ d.weights P L, n ≤ reachBytes) → Z s) := by
  obtain ⟨a, len, cap, rfl⟩ := okWide_slice hu hv
  obtain ⟨fuel, hf⟩ := h
  obtain ⟨s, e, hs, hz⟩ := hT.of _ _ _ _ _ _ _ _ hf
  refine ⟨s, ?_, hs.1, hs.2.1, hs.2.2, hz⟩
  have : [Value.slice a len cap] = [s.v] := by simpa [Value.cells, Enc.cells] using e
  simpa using this
/-- arrays that come in. -/
theorem arr_of_Trod {P : Program} {T e : TypeId} {n : Nat} {α : Type} [Lay α] [hT : Tro P T α] {H : Type} {enc : TypeId × Value → H} {w : World} {base : Nat} {spare : Nat → Bool} {held : Bool} (hu : P.underlying T = some (.array n e)) {v : Value} {d : DataW H} {p : List MemPlace} {r : Reach} {W : World} {base' : Nat} (h : DataW.Trod enc P w base spare held T v d p) (hv : Value.okWide P W r base' T v) :
    ∃ a : α, v = .agg ⟨Enc.cells a⟩ ∧ Lay.inn w a := by
  obtain ⟨cs, rfl⟩ : ∃ cs, v = .agg cs := by
    simp only [Value.okWide, hu] at hv
    obtain ⟨cs, h1, _⟩ := hv
    exact ⟨cs, h1⟩
  obtain ⟨fuel, hf⟩ := h
  obtain ⟨a, e, ha⟩ := hT.of _ _ _ _ _ _ _ _ hf
  refine ⟨a, ?_, ha⟩
  have : cs.toList = Enc.cells a := by simpa [Value.cells] using e
  rw [← this]
/-- rows of bytes that come in as arrays. -/
theorem trod_bytes {P : Program} {T e : TypeId} {n : Nat} [hT : Tro P e UInt8] (hu : P.underlying T = some (.array n e)) (hs : P.cellsOf T = n) {H : Type} {enc : TypeId × Value → H} {w : World} {base : Nat} {spare : Nat → Bool} {held : Bool} {fuel : Nat} {cs : List Value} {x : DataW H × List MemPlace} (h : DataW.trod enc P w base spare held fuel T cs = some x) :
    ∃ l : List UInt8, l.length = n ∧ cs = encL l := by
  obtain ⟨xs, m, rfl, rfl, hlen, hxl, hx⟩ := DataW.trod_array hu h
  have h1 : P.cellsOf e = 1 := hT.size
  have : Inhabited UInt8 := ⟨0⟩
  obtain ⟨g, hg⟩ := choose_lt (α := UInt8) (p := fun i a => (cs.drop i).take 1 = Enc.cells a) (n := n) (fun i hi => by
    have h2 := hx i hi
    rw [List.getElem?_eq_getElem (by omega), h1, Nat.mul_one] at h2
    obtain ⟨a, ha, -⟩ := hT.of _ _ _ _ _ _ _ _ h2
    exact ⟨a, ha⟩)
  refine ⟨(List.range n).map g, by simp, ?_⟩
  have hz : Enc.sz UInt8 = 1 := rfl
  refine List.ext_getElem? fun j => ?_
  by_cases hj : j < n
  · have h3 := hg j hj
    have h4 := encL_get ((List.range n).map g) j (g j) (by simp [hj]) 0 (by decide)
    rw [hz, Nat.mul_one, Nat.add_zero] at h4
    rw [h4, ← h3, List.getElem?_take, if_pos (by decide), List.getElem?_drop, Nat.add_zero]
  · rw [List.getElem?_eq_none (by omega), List.getElem?_eq_none (by rw [encL_len, hz]; simp; omega)]
end Go.Wk

/- SignerOnce answers true at every input and leaves it as it was. No condition. -/
namespace Go.Proofs.YtlphkccfcodmcaaGreat
open Go Go.Wk
open Go.ChangeShapes Go.WideShapes Go.ChangeAt Go.RowKit
set_option maxRecDepth 100000

instance troByteS : Tro Tryz.prog 5 UInt8 := troB Tryz.underlying5 (by kernel_rfl)
instance troDg : Tro Tryz.prog 23 Dg := ⟨fun enc w base spare held fuel cs x h => by
  obtain ⟨l, h1, h2⟩ := trod_bytes Tryz.underlying23 (by kernel_rfl) h
  exact ⟨⟨l, h1⟩, h2, trivial⟩, by kernel_rfl⟩
instance troIntS : TroZ Tryz.prog 3 Int (fun _ => True) := troZ_of (troI Tryz.underlying3 (by kernel_rfl))
instance troBoolS : TroZ Tryz.prog 4 Bool (fun _ => True) := troZ_of (troBo Tryz.underlying4 (by kernel_rfl))
instance troBoolsS : TroZ Tryz.prog 36 (Sl Bool) (ZSl Tryz.prog 4 (fun _ => True)) := troZ_Sl Tryz.underlying36 (by kernel_rfl)
instance troDgS : TroZ Tryz.prog 23 Dg (fun _ => True) := troZ_of troDg
instance troSop : TroZ Tryz.prog 38 LSop (fun x => x.keep.length ≤ 140737488355328) := ⟨fun enc w base spare held fuel cs x h => by
  obtain ⟨hlen, hf⟩ := trodZ_flds Tryz.underlying38 h
  rw [show Tryz.prog.cellsOf 38 = 35 from by kernel_rfl] at hlen
  obtain ⟨n0, y0, g0, k0⟩ := hf 0 3 0 rfl
  obtain ⟨n1, y1, g1, k1⟩ := hf 1 3 1 rfl
  obtain ⟨n2, y2, g2, k2⟩ := hf 2 23 2 rfl
  obtain ⟨n3, y3, g3, k3⟩ := hf 3 36 34 rfl
  obtain ⟨u0, e0, i0, -⟩ := trodZ_fld (α := Int) g0 rfl
  obtain ⟨u1, e1, i1, -⟩ := trodZ_fld (α := Int) g1 rfl
  obtain ⟨u2, e2, i2, -⟩ := trodZ_fld (α := Dg) g2 rfl
  obtain ⟨u3, e3, i3, z3⟩ := trodZ_fld (α := Sl Bool) g3 rfl
  refine ⟨⟨u0, u1, u2, u3.p, u3.cap, u3.xs⟩, ?_, i3, fun hw => ?_⟩
  · have q0 : cs.take 1 = [.int .i64 u0] := by rw [← List.drop_zero (l := cs)]; exact e0
    have q1 : (cs.drop 1).take 1 = [.int .i64 u1] := e1
    have q2 : (cs.drop 2).take 32 = encL u2.l := e2
    have q3 : (cs.drop 34).take 1 = [u3.v] := e3
    have p3 : cs.drop 34 = [u3.v] := by rw [← q3, List.take_of_length_le (by rw [List.length_drop]; omega)]
    have p2 : cs.drop 2 = encL u2.l ++ [u3.v] := by rw [← q2, ← p3, show 34 = 2 + 32 from rfl, ← List.drop_drop, List.take_append_drop]
    have p1 : cs.drop 1 = .int .i64 u1 :: (encL u2.l ++ [u3.v]) := by rw [← p2, ← List.singleton_append, ← q1, show 2 = 1 + 1 from rfl, ← List.drop_drop, List.take_append_drop]
    show cs = .int .i64 u0 :: .int .i64 u1 :: (encL u2.l ++ [u3.v])
    rw [← p1, ← List.singleton_append, ← q0, List.take_append_drop]
  · have h1 := (z3 fun n hn => hw n (k3 n hn)).1
    rw [show Tryz.prog.bytesOf 4 = 1 from by kernel_rfl, Nat.mul_one] at h1
    have := reachBytes_lt
    show u3.xs.length ≤ _
    omega, by kernel_rfl⟩
instance troSops : TroZ Tryz.prog 24 (Sl LSop) (ZSl Tryz.prog 38 (fun x => x.keep.length ≤ 140737488355328)) := troZ_Sl Tryz.underlying24 (by kernel_rfl)
theorem signeronce_lifted (os : Os) (started : os.Started) (H : Type) (enc : TypeId × Value → H) :
    ReturnsInHanded {} Tryz.checked os 3 .any (Rows.signerOnceSpec.pre6 enc Tryz.prog Tryz.f3 Rows.signerOnceRow.domain false) (Rows.signerOnceSpec.post enc Tryz.prog Tryz.f3 false true false false) := by
  refine returnsInHanded_of_change_sized (C := Tryz.checked) own started (by kernel_rfl) Tryz.func3
    (ChangeSpec.witness6 (enc := enc) (C := Tryz.checked) false ⟨#[], #[.int .i64 0, .agg ⟨.int .u8 0 :: .int .u8 0 :: .int .u8 0 :: .int .u8 0 :: .int .u8 0 :: .int .u8 0 :: .int .u8 0 :: .int .u8 0 :: .int .u8 0 :: .int .u8 0 :: .int .u8 0 :: .int .u8 0 :: .int .u8 0 :: .int .u8 0 :: .int .u8 0 :: .int .u8 0 :: .int .u8 0 :: .int .u8 0 :: .int .u8 0 :: .int .u8 0 :: .int .u8 0 :: .int .u8 0 :: .int .u8 0 :: .int .u8 0 :: .int .u8 0 :: .int .u8 0 :: .int .u8 0 :: .int .u8 0 :: .int .u8 0 :: .int .u8 0 :: .int .u8 0 :: .int .u8 0 :: []⟩, .slice none 0 0], []⟩ 8 (by kernel_rfl) (by kernel_rfl) (by kernel_rfl) (by kernel_rfl)) ?_
  intro W base args ds gs before hval0 hW _ hz _
  have hval : ∀ (j : Nat) t v, Tryz.f3.params[j]? = some t → args[j]? = some v → Value.okWide Tryz.prog W .any base t v := hval0
  have hW2 := hW
  obtain ⟨p, q, hA0, hV, rfl, _, _⟩ := hW
  have hA : DataW.TrodAll enc Tryz.prog W 0 (fun _ => true) true Tryz.f3.params.toList args.toList ds p := hA0
  rw [Tryz.params3] at hA hval
  obtain ⟨v0, v1, v2, d0, d1, d2, p0, p1, p2, rfl, rfl, rfl, h0, h1, h2⟩ := trodAll_three hA
  obtain ⟨rfl, rfl⟩ := trodVars_none hV
  obtain ⟨n, rfl, rfl, rfl, wn⟩ := open_int Tryz.underlying3 (hval 0 3 v0 rfl rfl) h0
  obtain ⟨s, rfl, h_s⟩ := arr_of_Trod (α := Dg) Tryz.underlying23 h1 (hval 1 23 v1 rfl rfl)
  obtain ⟨x, rfl, l_x, m_x, h_x, z0_x⟩ := slice_of_TrodZ (α := LSop) Tryz.underlying24 h2 (hval 2 24 v2 rfl rfl)
  have z_x := z0_x (fun n hn => of_decide_eq_true (List.all_eq_true.1 hz n (DataW.weights_mem_each (j := 2) rfl rfl n hn)))
  refine Ret.law (sonce_c n s x.p x.cap x.xs (by omega) z_x.2 W h_x.stable) fun W1 hag => ?_
  exact ⟨_, rfl, law_post (B := 4) laidOut (by kernel_rfl) rfl rfl rfl hW2 rfl rfl rfl hag⟩
theorem signeronce_holds : Rows.SignerOnceSaid :=
  OpenClaim.holds_of_wide 3 Tryz.f3 rfl rfl rfl rfl rfl rfl rfl ⟨rfl, rfl, rfl, rfl, rfl⟩ rfl rfl rfl rfl rfl (by kernel_rfl) Tryz.func3 (by kernel_rfl)
    (of_decide_eq_true (by kernel_rfl)) (by unfold Func.isWrapper; rw [if_neg (of_decide_eq_false (by kernel_rfl))]; exact ⟨rfl, rfl⟩)
    (fun os started H enc _ => signeronce_lifted os started H enc)
end Go.Proofs.YtlphkccfcodmcaaGreat
