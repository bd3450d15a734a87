/- 10: a part of this claim's texts, joined: LawMemC RowMemA. -/
import Derived.Test.YtdakncgafdnjfaaGreatPi9
namespace Go.Proofs.YtdakncgafdnjfaaGreat
open Go Go.Wk
set_option synthInstance.maxSize 100000
set_option synthInstance.maxHeartbeats 400000
set_option maxRecDepth 100000
instance nzM8 : NZ 8 := ⟨by decide⟩
instance nzM40 : NZ 40 := ⟨by decide⟩
instance nzM120 : NZ 120 := ⟨by decide⟩
structure LKop where
 kind : Int
 n : Int
 m : LMem
 p : Option Addr
 c : Nat
 keep : List Bool
abbrev cKop (x : LKop) : List Value := [.int .i64 x.kind, .int .i64 x.n, .int .i64 x.m.user, .int .i64 x.m.leaf, .int .i64 x.m.counter, .int .i64 x.m.num, .slice x.m.sp x.m.seeds.length x.m.sc, .slice x.m.vp x.m.vers.length x.m.vc, .slice x.m.ep x.m.seen.length x.m.ec, .slice x.p x.keep.length x.c]
instance encKop : Enc LKop := ⟨10, cKop, fun _ => rfl, fun x u hu => by simp only [List.mem_cons, List.not_mem_nil, or_false] at hu; rcases hu with rfl | rfl | rfl | rfl | rfl | rfl | rfl | rfl | rfl | rfl <;> rfl⟩
instance layKop : Lay LKop := { encKop with
 dflt := ⟨0, 0, mem0 0, none, 0, []⟩
 inn := fun w x => Lay.inn w x.m ∧ x.keep.length ≤ x.c ∧ x.c ≤ maxLen ∧ GlF x.p x.keep w
 mono := fun w w' x h hx => ⟨Lay.mono w w' x.m h hx.1, hx.2.1, hx.2.2.1, hx.2.2.2.mono h⟩ }
instance : SzE LKop 10 := ⟨rfl, by decide⟩
instance {x : LKop} : CellsOf x (cKop x) := ⟨rfl⟩
theorem kfew_c (p : Option Addr) (c : Nat) (l : List LKop) (n : Nat) (hc : l.length ≤ c) (w0 : World) : Ret Tryz.prog 48 [.slice p l.length c, .int .i64 (n : Int)] w0 (fun _ => False) fun v _ => v = .slice p (min l.length n) c := by
 have hle : LeC (min l.length n) c := ⟨by omega⟩
 refine enter Tryz.func48 rfl rfl (Wd.start w0) (fun a S => ?_)
 simp only [Tryz.ntmps48, List.length_cons, List.length_nil, Nat.reduceAdd, Nat.reduceSub, List.replicate_succ, List.replicate_zero, List.cons_append, List.nil_append] at S
 refine kS (kR (sq S ?_));clear S;intro a S;refine kN (xtn (kS (kR ?_)));(iterate 7 (refine sq S ?_; clear S; intro a S));refine kN (xtn (kT ?_))
 exact end1 S (fun _ => rfl)
def kAreaN (area : Int) : Nat := 6 + ((IntKind.u64.wrap area) % 120).toNat
theorem kArea_w (area : Int) : IntKind.i64.wrap (6 + IntKind.i64.wrap ((IntKind.u64.wrap area).tmod 120)) = (kAreaN area : Int) := by
 have h0 : 0 ≤ IntKind.u64.wrap area := by unfold IntKind.wrap; simp only [IntKind.bits, IntKind.signed, Bool.false_and]; simp; omega
 rw [Int.tmod_eq_emod_of_nonneg h0, w64 (IntKind.u64.wrap area % 120) (by omega) (by omega), w64 (6 + IntKind.u64.wrap area % 120) (by omega) (by omega), kAreaN]
 omega
theorem kcrash_foot {b m m' : Nat} {s : DS} {keep : List Bool} {p : Option Addr} {c : Nat} (k : Nat) (hk : (dkI b m none 0 (crashD keep s)).foot k) : (dkI b m p c s).foot k := by
 rcases hk with h | h | h
 ·exact .inl h
 ·exact .inr (.inl h)
 ·obtain ⟨ad, h, -⟩ := h; cases h
structure KSt where
 h : Nat
 g : Nat
 L : LG
 x : LMem
 y : LMem
 z : LMem
 d : Bool
structure KOk (T : KSt) (t : Int) : Prop where
 same : T.x.m = T.y.m
 x : FitM T.x
 y : FitM T.y
 z : FitM T.z
 keep : KeepI T.L.v T.y.m T.z.m T.d t
theorem KOk.ok {T : KSt} {t : Int} (h : KOk T t) : memB T.x.m = true := by rw [h.same]; exact h.keep.1
set_option maxHeartbeats 8000000 in
theorem memkeeps_c (area : Int) (pl : Option Addr) (cl : Nat) (l : List LKop) (hcl : l.length ≤ cl) (hz : ∀ x ∈ l, x.keep.length ≤ 140737488355328) (w0 : World) (f0 : Stable (fun _ => False) w0 (GlF pl l)) :
    Ret Tryz.prog 10 [.int .i64 area, .slice pl l.length cl] w0 (fun _ => False) fun v _ => v = .bool true := by
  obtain ⟨n, hn⟩ : ∃ n, n = kAreaN area := ⟨_, rfl⟩
  have hn4 : 6 ≤ n ∧ n ≤ 125 := by rw [hn, kAreaN]; omega
  obtain ⟨e1, g1⟩ := chk_off (fmt_lv n (by omega)) (by decide) (encM (newM 1)) (by rw [newM_len]; omega) (by rw [newM_len]; show 1 ≤ n; omega)
  refine enter Tryz.func10 rfl rfl (Wd.begin (fs := [GlF pl l]) (by simpa using f0)) (fun a S => ?_)
  simp only [Tryz.ntmps10, List.length_cons, List.length_nil, Nat.reduceAdd, Nat.reduceSub, List.replicate_succ, List.replicate_zero, List.cons_append, List.nil_append] at S
  refine kS (kR (sq S ?_));clear S;intro a S;refine kN (xtn (kS (kS (kR ?_))));refine sr S (mwakes_c _) ?_;clear S;rintro _ a w rfl S;refine sq S ?_;clear S;intro a S;refine kN (xtn ?_);refine c_condF S ?_;refine kK (xtn (kS (kR ?_)));(iterate 5 (refine sq S ?_; clear S; intro a S))
  rw [kArea_w, ← hn] at S
  refine sq S ?_;clear S;intro a S;refine kN (xtn (kS (kR ?_)));(iterate 2 (refine sq S ?_; clear S; intro a S))
  rw [w64 (2 * (n : Int)) (by omega) (by omega)] at S
  refine sq S ?_;clear S;intro a S
  rw [show IntKind.i64.wrap (2 + 2 * (n : Int)) = ((2 * n + 2 : Nat) : Int) from by rw [w64 _ (by omega) (by omega)]; omega] at S
  refine snew S (dnew_dk ((2 * n + 2 : Nat) : Int) (by omega) _) ?_; clear S; rintro _ a w - ⟨b, m, rfl, hh, hnw⟩ hS -
  have S := hS (dkI b m none 0 (newD ((2 * n + 2 : Nat) : Int))) hh hnw
  clear hS
  (iterate 5 (refine sq S ?_; clear S; intro a S));refine kN (xtn (kS (kR ?_)));(iterate 2 (refine sq S ?_; clear S; intro a S))
  refine sit (dkI b m none 0 (newD ((2 * n + 2 : Nat) : Int))) S (mformat_ok b m n none 0 (newD ((2 * n + 2 : Nat) : Int)) 1 (by omega) (by simp [mayF, newD]; omega) (by simp [newD]) (format_live n (by omega)).1 e1 _ (S.it (dkI b m none 0 (newD ((2 * n + 2 : Nat) : Int))))) rfl ?_; clear S; rintro _ a w ⟨h0, g0, L0, rfl, hm2, hv2, hh2, hf2⟩ hS
  have S := hS (msI h0 b g0 L0 (mem0 1)) hh2 hf2
  clear hS
  replace S := S.add (Φ := MemF (mem0 1)) (mem0_st 1 _ _)
  have hok1 : memB (mem0 1).m = true := newM_ok (u := 1) (by omega)
  (iterate 5 (refine sq S ?_; clear S; intro a S));refine kN (xtn (kS (kS (kR ?_))));(iterate 3 (refine sq S ?_; clear S; intro a S));(iterate 2 (refine gQ S ?_; clear S; intro a S));refine sq S ?_;clear S;intro a S;refine kN (xtn ?_);refine c_condF S ?_;refine kK (xtn (kS (kR (sq S ?_))));clear S;intro a S
  refine sitM (msI h0 b g0 L0 (mem0 1)) S (mget_c h0 b g0 L0 (mem0 1) (mem0_fit 1) hok1 (restOf _ (msI h0 b g0 L0 (mem0 1))) _ (S.restOk _) (S.it (msI h0 b g0 L0 (mem0 1))) ((S.mem.fact (MemF (mem0 1))).split (msI h0 b g0 L0 (mem0 1)))) rfl ?_; clear S; rintro _ a w ⟨hhy0, y0, rfl, hy0, hfy0, hsty0⟩ hS
  have S := hS (msI h0 b g0 L0 (mem0 1)) [MemF y0] hhy0 (fun k h => .inl h) (by intro Φ hΦ; obtain rfl := List.mem_singleton.1 hΦ; exact hsty0)
  clear hS
  have hI0 : KOk ⟨h0, g0, L0, mem0 1, y0, y0, false⟩ 1 := ⟨hy0.symm, mem0_fit 1, hfy0, hfy0, by show KeepI L0.v y0.m y0.m false 1; rw [hy0, hv2]; exact ⟨hok1, .inl ⟨rfl, n, 1, _, g1.ok, openM_one hok1, Int.le_refl _⟩⟩⟩
  refine sa S ?_;clear S;intro b10 a w S;refine sw S ?_;clear S;intro a w S;refine kN (xtn (kS (kR (sq S ?_))));clear S;intro a S;refine sa S ?_;clear S;intro b11 a w S;refine sw S ?_;clear S;intro a w S;refine sq S ?_;clear S;intro a S;refine kN (xtn (kS (kS (kR (sq S ?_)))));clear S;intro a S;refine sr S (kfew_c pl cl l 20 hcl _) ?_;clear S;rintro _ a w rfl S
  obtain ⟨ops, hops⟩ : ∃ ops, ops = l.take 20 := ⟨_, rfl⟩
  have hopl : ops.length = min l.length 20 := by rw [hops, List.length_take]; omega
  rw [← hopl] at S
  replace S := S.add (Φ := GlF pl ops) ((S.mem.fact (GlF pl l)).imp fun _ h => by rw [hops]; exact h.take 20)
  (iterate 2 (refine sq S ?_; clear S; intro a S));refine kN (xtn (kB ?_))
  refine c_fore2 S (fun (k : Nat) (T : KSt) uu => [(4, uu 4), (3, .pointer (some ⟨T.h, 0, none⟩)), (0, uu 9), (2, .bool T.d), (1, uu 14), (0, uu 15), (0, uu 16), (0, uu 17), (32, .int .i64 (k : Nat)), (0, uu 51), (0, uu 52), (0, uu 53), (0, uu 54), (0, uu 55), (0, uu 56), (0, uu 57), (0, uu 58), (0, uu 59), (0, uu 60), (0, uu 61), (0, uu 62), (0, uu 63), (0, uu 64), (0, uu 65), (0, uu 66), (0, uu 67), (0, uu 68), (0, uu 69), (0, uu 70), (0, uu 71), (0, uu 72), (0, uu 73), (0, uu 74), (0, uu 75), (0, uu 76), (0, uu 77), (0, uu 78), (0, uu 79), (0, uu 80), (0, uu 81), (0, uu 82), (0, uu 83), (0, uu 84), (0, uu 85), (0, uu 86), (0, uu 87), (0, uu 88), (0, uu 89), (0, uu 90), (0, uu 91), (0, uu 92), (0, uu 93), (0, uu 94), (0, uu 95), (0, uu 96), (0, uu 97), (0, uu 98), (0, uu 99), (0, uu 100), (0, uu 101), (0, uu 102), (0, uu 103), (0, uu 104), (0, uu 105), (0, uu 106), (0, uu 107), (0, uu 108), (0, uu 109), (0, uu 110), (0, uu 111), (0, uu 112), (0, uu 113), (0, uu 114), (0, uu 115), (0, uu 116), (0, uu 117), (0, uu 118), (0, uu 119), (0, uu 120), (0, uu 121), (0, uu 122), (0, uu 123), (0, uu 124), (0, uu 125), (0, uu 126), (0, uu 127), (0, uu 128), (0, uu 129), (0, uu 130), (0, uu 131), (0, uu 132), (0, uu 133), (0, uu 134), (0, uu 135), (0, uu 136), (0, uu 137), (0, uu 138), (0, uu 139), (0, uu 140), (0, uu 141), (0, uu 142), (0, uu 143), (0, uu 144), (0, uu 145), (0, uu 146), (0, uu 147), (0, uu 148), (0, uu 149), (0, uu 150), (0, uu 151), (0, uu 152), (0, uu 153), (0, uu 154), (0, uu 155)]) (fun (k : Nat) (T : KSt) => [msI T.h b T.g T.L T.x, Wk.box b11 67 (cMem T.z), Wk.box b10 67 (cMem T.y)]) (fun (k : Nat) (T : KSt) => [MemF T.x, MemF T.y, MemF T.z, GlF pl ops]) (fun (k : Nat) (T : KSt) => k ≤ ops.length ∧ KOk T ((k : Int) + 1)) (fun (k : Nat) (T : KSt) => ops.length - k) (0) (⟨h0, g0, L0, mem0 1, y0, y0, false⟩) ?_ S.uu ?_ ?_
  · exact ⟨Nat.zero_le _, hI0⟩
  · replace S := ((S.add (Φ := MemF y0) (S.mem.fact (MemF y0))).add (Φ := MemF y0) (S.mem.fact (MemF y0))).add (Φ := MemF (mem0 1)) (mem0_st 1 _ _)
    replace S := S.add (Φ := GlF pl ops) (S.mem.fact (GlF pl ops))
    replace S := S.add (Φ := MemF y0) (S.mem.fact (MemF y0))
    replace S := S.add (Φ := MemF y0) (S.mem.fact (MemF y0))
    replace S := S.add (Φ := MemF (mem0 1)) (mem0_st 1 _ _)
    exact (S.front (msI h0 b g0 L0 (mem0 1))).sub _ _
  · clear S; rintro k T uu a w ⟨hk, hI⟩ S
    refine kS (kR (sq S ?_));clear S;intro a S;refine kN (xtn (kS ?_))
    refine kC S (fun h11 => ?_) (fun h11 => ?_)
    · refine kK (xtn (kS (kB (kS ?_))))
      have hk2 : k < ops.length := by have := of_decide_eq_true h11; omega
      have hK : KLt k ops.length := ⟨hk2⟩
      obtain ⟨hxy, hfx, hfy, hfz, hKI⟩ := id hI
      have hwf := hKI.wf
      have hokx := hI.ok
      obtain ⟨e, he⟩ : ∃ e, e = nthG ops k := ⟨_, rfl⟩
      have hem : e ∈ ops := he ▸ nthG_mem hk2
      have hin : Lay.inn w e := (S.mem.fact (GlF pl ops)).now.2 e hem
      have hbe := mem_big hin.1
      have hkc : e.keep.length ≤ e.c ∧ e.c ≤ maxLen := ⟨hin.2.1, hin.2.2.1⟩
      replace S := S.add (Φ := MemF e.m) ((S.mem.fact (GlF pl ops)).imp fun _ h => mem_in (h.2 e hem).1)
      replace S := S.add (Φ := GlF e.p e.keep) ((S.mem.fact (GlF pl ops)).imp fun _ h => (h.2 e hem).2.2.2)
      refine kR ?_;(iterate 2 (refine sq S ?_; clear S; intro a S))
      rw [← he] at S
      refine sa S ?_;clear S;intro b14 a w S;refine sw S ?_;clear S;intro a w S;refine kN (xtn (kS (kR ?_)));(iterate 4 (refine sq S ?_; clear S; intro a S))
      obtain ⟨v, hv⟩ : ∃ v, v = (IntKind.u64.wrap e.kind).tmod 8 := ⟨_, rfl⟩
      rw [← hv] at S
      refine sq S ?_;clear S;intro a S;refine kN (xtn (kB (kS (kR ?_))));(iterate 3 (refine sq S ?_; clear S; intro a S));refine kN (xtn ?_)
      refine kC S (fun h22 => ?_) (fun h22 => ?_)
      · refine kS (kR ?_);(iterate 2 (refine sq S ?_; clear S; intro a S))
        refine sr S (short_c e.m hbe _ w (foots_lt S) (S.mem.fact (MemF e.m))) ?_; clear S; rintro _ a w ⟨m1, rfl, hm1, hfm1, hstm1⟩ S
        replace S := S.add (Φ := MemF m1) hstm1
        refine sa S ?_;clear S;intro b16 a w S;refine sw S ?_;clear S;intro a w S;refine kN (xtn ?_)
        refine c_mrge1 S (fun (mm : LMem) uu => [(95, uu 95), (0, uu 96), (0, uu 97), (0, uu 98), (0, uu 99), (0, uu 100)]) (fun (mm : LMem) => [Wk.box b16 67 (cMem mm), Wk.box b14 90 (cKop e), msI T.h b T.g T.L T.x, Wk.box b11 67 (cMem T.z), Wk.box b10 67 (cMem T.y)]) (fun (mm : LMem) => [MemF mm, MemF T.x, MemF T.y, MemF T.z, GlF pl ops]) (fun (mm : LMem) => FitM mm ∧ ShortM mm.m) ?_ ?_
        · refine kS (kR ?_);(iterate 2 (refine sq S ?_; clear S; intro a S));refine kN (xtn ?_)
          refine kC S (fun h24 => ?_) (fun h24 => ?_)
          · refine kR ?_;(iterate 3 (refine sq S ?_; clear S; intro a S))
            refine sr S (over_c T.y e.m hfy.big hbe _ w (foots_lt S) (S.mem.fact (MemF T.y)) (S.mem.fact (MemF e.m))) ?_; clear S; rintro _ a w ⟨m2, rfl, hsm2, hfm2, hstm2⟩ S
            replace S := S.add (Φ := MemF m2) hstm2
            refine sw S ?_;clear S;intro a w S;refine kN (xtn ?_)
            exact ⟨m2, S.uu, ⟨hfm2, hsm2⟩, S.sub _ _⟩
          · refine kK (xtn ?_)
            exact ⟨m1, S.uu, ⟨hfm1, by rw [hm1]; exact shortP_short _⟩, S.sub _ _⟩
        · clear S; rintro mm uu a w ⟨hfmm, hshm⟩ S
          refine kS (kR ?_);(iterate 2 (refine sq S ?_; clear S; intro a S))
          refine sitM (msI T.h b T.g T.L T.x) S (msave_c T.h b T.g T.L T.x 2000 ⟨hwf, hfx, hokx⟩ (by omega) mm hfmm (restOf _ (msI T.h b T.g T.L T.x)) w (S.restOk _) (S.it (msI T.h b T.g T.L T.x)) ((S.mem.fact (MemF T.x)).split (msI T.h b T.g T.L T.x)) ((S.mem.fact (MemF mm)).split (msI T.h b T.g T.L T.x))) rfl ?_; clear S; rintro _ a w ⟨L2, x2, rfl, hh3, hf3, hm3, hv3, hx3, hfx3, hok3, hst3⟩ hS
          have S := hS (msI T.h b T.g L2 x2) [MemF x2] hh3 hf3 (by intro Φ hΦ; obtain rfl := List.mem_singleton.1 hΦ; exact hst3)
          clear hS
          obtain ⟨ks1, ks2, ks3⟩ := hKI.save (by omega) mm.m
          rw [hxy] at hv3 hx3 S
          obtain ⟨E, hE⟩ : ∃ E, E = (saveM T.L.v T.y.m mm.m).2.2 := ⟨_, rfl⟩
          rw [← hE] at S
          rw [← hE, ← hv3, ← hx3] at ks1 ks2 ks3
          refine sq S ?_;clear S;intro a S;refine kN (xtn (kS (kR (sq S ?_))));clear S;intro a S;refine kN (xtn (kB (kS (kR ?_))));(iterate 2 (refine sq S ?_; clear S; intro a S));refine kN (xtn ?_)
          refine kC S (fun h30 => ?_) (fun h30 => ?_)
          · refine kS (kS ?_)
            have hE0 : E = 0 := of_decide_eq_true h30
            obtain ⟨kx, kc, kk⟩ := ks1 hE0
            refine c_drawE [(0, true), (1, true), (2, false), (3, false), (4, true), (5, true), (6, true), (7, true), (8, false), (9, false), (10, true), (11, true)] [Wk.box b16 67 (cMem mm), Wk.box b10 67 (cMem T.y)] S ?_;clear S;intro w S;(iterate 2 (refine dq S ?_; clear S; intro a S));refine dl ?_
            refine sitM (msI T.h b T.g L2 x2) S (mget_c T.h b T.g L2 x2 hfx3 hok3 (restOf _ (msI T.h b T.g L2 x2)) _ (S.restOk _) (S.it (msI T.h b T.g L2 x2)) ((S.mem.fact (MemF x2)).split (msI T.h b T.g L2 x2))) rfl ?_; clear S; rintro _ a w ⟨hhy31, y31, rfl, hy31, hfy31, hsty31⟩ hS
            have S := hS (msI T.h b T.g L2 x2) [MemF y31] hhy31 (fun k h => .inl h) (by intro Φ hΦ; obtain rfl := List.mem_singleton.1 hΦ; exact hsty31)
            clear hS
            refine de S ?_;refine dl ?_
            refine sr S (mcovers_c T.y y31 hfy hfy31 _ ((S.mem.fact (MemF T.y)).less fun _ _ h => h.elim) ((S.mem.fact (MemF y31)).less fun _ _ h => h.elim)) ?_; clear S; rintro _ a w rfl S
            rw [show coversB T.y.m y31.m = true from by rw [hy31, kx]; exact kc] at S
            refine de S ?_;refine dq S ?_;clear S;intro a S
            rw [show (!true) = false from rfl] at S
            refine dq S ?_;clear S;intro a S;(iterate 2 (refine dqG S ?_; clear S; intro a S));refine dl (gT' S ?_)
            refine sitM (msI T.h b T.g L2 x2) S (mget_c T.h b T.g L2 x2 hfx3 hok3 (restOf _ (msI T.h b T.g L2 x2)) _ (S.restOk _) (S.it (msI T.h b T.g L2 x2)) ((S.mem.fact (MemF x2)).split (msI T.h b T.g L2 x2))) rfl ?_; clear S; rintro _ a w ⟨hhy32, y32, rfl, hy32, hfy32, hsty32⟩ hS
            have S := hS (msI T.h b T.g L2 x2) [MemF y32] hhy32 (fun k h => .inl h) (by intro Φ hΦ; obtain rfl := List.mem_singleton.1 hΦ; exact hsty32)
            clear hS
            refine de S ?_;refine dl (gT' S ?_)
            refine sr S (msame_c mm y32 hfmm hfy32 _ ((S.mem.fact (MemF mm)).less fun _ _ h => h.elim) ((S.mem.fact (MemF y32)).less fun _ _ h => h.elim)) ?_; clear S; rintro _ a w ⟨b31, rfl, hb31⟩ S
            obtain rfl : b31 = true := hb31.2 (by rw [hy32, kx])
            refine de S ?_;refine dqG S ?_;clear S;intro a S
            rw [show (!true) = false from rfl] at S
            refine dq S ?_;clear S;intro a S;refine dn (xtn ?_);refine c_condF S ?_;refine kK (xtn (kR (sq S ?_)));clear S;intro a S
            refine sitM (msI T.h b T.g L2 x2) S (mget_c T.h b T.g L2 x2 hfx3 hok3 (restOf _ (msI T.h b T.g L2 x2)) _ (S.restOk _) (S.it (msI T.h b T.g L2 x2)) ((S.mem.fact (MemF x2)).split (msI T.h b T.g L2 x2))) rfl ?_; clear S; rintro _ a w ⟨hhy33, y33, rfl, hy33, hfy33, hsty33⟩ hS
            have S := hS (msI T.h b T.g L2 x2) [MemF y33] hhy33 (fun k h => .inl h) (by intro Φ hΦ; obtain rfl := List.mem_singleton.1 hΦ; exact hsty33)
            clear hS
            refine sw S ?_;clear S;intro a w S;refine sq S ?_;clear S;intro a S;refine kN (xbn (xbn (xbn (xtn (kR ?_)))));(iterate 2 (refine sq S ?_; clear S; intro a S));refine kN (xtn ?_)
            replace S := S.add (Φ := MemF x2) (S.mem.fact (MemF x2))
            rw [w64 ((k : Int) + 1) (by omega) (by omega)] at S
            exact ⟨k + 1, ⟨T.h, T.g, L2, x2, y33, T.z, false⟩, S.uu, ⟨hk2, ⟨hy33.symm, hfx3, hfy33, hfz, by show KeepI L2.v y33.m T.z.m false _; rw [hy33, kx]; exact (kk _).more (by push_cast; omega)⟩⟩, S.sub _ _, by omega⟩
          · refine c_mrge1 S (fun (nb : Bool) uu => [(125, .bool nb), (0, uu 126), (0, uu 127), (0, uu 128), (0, uu 129)]) (fun (nb : Bool) => [msI T.h b T.g L2 x2, Wk.box b16 67 (cMem mm), Wk.box b11 67 (cMem T.z), Wk.box b10 67 (cMem T.y)]) (fun (nb : Bool) => [MemF x2, MemF mm, MemF T.y, MemF T.z, GlF pl ops]) (fun (nb : Bool) => (nb = true ↔ (E = 300 ∨ E = 301 ∨ E = 3 ∨ E = 6))) ?_ ?_
            · refine kS (kR ?_);(iterate 2 (refine sq S ?_; clear S; intro a S));refine kN (xtn ?_)
              refine kC S (fun h34 => ?_) (fun h34 => ?_)
              · refine kK (xtn ?_)
                replace S := S.front (msI T.h b T.g L2 x2)
                exact ⟨_, S.uu, ⟨fun h => by have := of_decide_eq_true h; omega, fun _ => h34⟩, S.sub _ _⟩
              · refine kS (kR ?_);(iterate 2 (refine sq S ?_; clear S; intro a S));refine kN (xtn ?_)
                refine kC S (fun h35 => ?_) (fun h35 => ?_)
                · refine kK (xtn ?_)
                  replace S := S.front (msI T.h b T.g L2 x2)
                  exact ⟨_, S.uu, ⟨fun h => by have := of_decide_eq_true h; omega, fun _ => h35⟩, S.sub _ _⟩
                · refine kS (kR ?_);(iterate 2 (refine sq S ?_; clear S; intro a S));refine kN (xtn ?_)
                  refine kC S (fun h36 => ?_) (fun h36 => ?_)
                  · refine kK (xtn ?_)
                    replace S := S.front (msI T.h b T.g L2 x2)
                    exact ⟨_, S.uu, ⟨fun h => by have := of_decide_eq_true h; omega, fun _ => h36⟩, S.sub _ _⟩
                  · refine kR ?_;(iterate 2 (refine sq S ?_; clear S; intro a S));refine kN (xtn ?_)
                    replace S := S.front (msI T.h b T.g L2 x2)
                    have q1 := of_decide_eq_false h34
                    have q2 := of_decide_eq_false h35
                    have q3 := of_decide_eq_false h36
                    exact ⟨_, S.uu, ⟨fun h => by have := of_decide_eq_true h; omega, fun h => decide_eq_true (by omega)⟩, S.sub _ _⟩
            · clear S; rintro nb uu a w hnb S
              refine kC S (fun h34 => ?_) (fun h34 => ?_)
              · refine kS ?_;refine c_drawE [(0, true), (2, true), (1, false), (3, false), (4, true)] [Wk.box b10 67 (cMem T.y)] S ?_;clear S;intro w S;(iterate 2 (refine dq S ?_; clear S; intro a S));refine dl ?_
                refine sitM (msI T.h b T.g L2 x2) S (mget_c T.h b T.g L2 x2 hfx3 hok3 (restOf _ (msI T.h b T.g L2 x2)) _ (S.restOk _) (S.it (msI T.h b T.g L2 x2)) ((S.mem.fact (MemF x2)).split (msI T.h b T.g L2 x2))) rfl ?_; clear S; rintro _ a w ⟨hhy38, y38, rfl, hy38, hfy38, hsty38⟩ hS
                have S := hS (msI T.h b T.g L2 x2) [MemF y38] hhy38 (fun k h => .inl h) (by intro Φ hΦ; obtain rfl := List.mem_singleton.1 hΦ; exact hsty38)
                clear hS
                refine de S ?_;refine dl ?_
                obtain ⟨kx, kk⟩ := ks2 (hnb.1 (by assumption))
                refine sr S (msame_c y38 T.y hfy38 hfy _ ((S.mem.fact (MemF y38)).less fun _ _ h => h.elim) ((S.mem.fact (MemF T.y)).less fun _ _ h => h.elim)) ?_; clear S; rintro _ a w ⟨b38, rfl, hb38⟩ S
                obtain rfl : b38 = true := hb38.2 (by rw [hy38, kx])
                refine de S ?_;refine dq S ?_;clear S;intro a S;refine dn (xtn ?_);refine c_condF S ?_;refine kK (xbn (xbn (xbn (xtn (kR ?_)))));(iterate 2 (refine sq S ?_; clear S; intro a S));refine kN (xtn ?_)
                rw [w64 ((k : Int) + 1) (by omega) (by omega)] at S
                replace S := S.add (Φ := MemF x2) (S.mem.fact (MemF x2))
                exact ⟨k + 1, ⟨T.h, T.g, L2, x2, T.y, T.z, T.d⟩, S.uu, ⟨hk2, ⟨kx, hfx3, hfy, hfz, kk.more (by push_cast; omega)⟩⟩, S.sub _ _, by omega⟩
              · refine kS ?_
                have hnd : ¬ (E = 300 ∨ E = 301 ∨ E = 3 ∨ E = 6) := fun h => by have := hnb.2 h; simp_all
                have hE0 : E ≠ 0 := of_decide_eq_false h30
                obtain ⟨kx, kt, kf⟩ := ks3 hE0 hnd
                refine kR ?_;(iterate 2 (refine sq S ?_; clear S; intro a S));refine kN (xtn ?_)
                refine kC S (fun h28 => ?_) (fun h28 => ?_)
                · refine kR (sq S ?_);clear S;intro a S
                  refine sr S (short_c mm hfmm.big _ w (foots_lt S) (S.mem.fact (MemF mm))) ?_; clear S; rintro _ a w ⟨z2, rfl, hz2, hfz2, hstz2⟩ S
                  replace S := S.add (Φ := MemF z2) hstz2
                  rw [hshm.eq] at hz2
                  refine sw S ?_;clear S;intro a w S;refine sq S ?_;clear S;intro a S;refine kN (xbn (xbn (xbn (xtn (kR ?_)))));(iterate 2 (refine sq S ?_; clear S; intro a S));refine kN (xtn ?_)
                  have hd0 : T.d = false := by simpa using h28
                  rw [w64 ((k : Int) + 1) (by omega) (by omega)] at S
                  replace S := ((S.add (Φ := MemF z2) (S.mem.fact (MemF z2))).add (Φ := MemF T.y) (S.mem.fact (MemF T.y))).add (Φ := MemF x2) (S.mem.fact (MemF x2))
                  exact ⟨k + 1, ⟨T.h, T.g, L2, x2, T.y, z2, true⟩, S.uu, ⟨hk2, ⟨kx, hfx3, hfy, hfz2, by show KeepI L2.v T.y.m z2.m true _; rw [hz2]; exact (kf hd0).2.more (by push_cast; omega)⟩⟩, S.sub _ _, by omega⟩
                · refine kK (xbn (xbn (xbn (xtn (kR ?_)))));(iterate 2 (refine sq S ?_; clear S; intro a S));refine kN (xtn ?_)
                  have hd1 : T.d = true := by simpa using h28
                  rw [w64 ((k : Int) + 1) (by omega) (by omega)] at S
                  replace S := S.add (Φ := MemF x2) (S.mem.fact (MemF x2))
                  exact ⟨k + 1, ⟨T.h, T.g, L2, x2, T.y, T.z, T.d⟩, S.uu, ⟨hk2, ⟨kx, hfx3, hfy, hfz, by show KeepI L2.v T.y.m T.z.m T.d _; rw [hd1]; exact (kt hd1).more (by push_cast; omega)⟩⟩, S.sub _ _, by omega⟩
      · refine kS (kR ?_);(iterate 3 (refine sq S ?_; clear S; intro a S));refine kN (xtn ?_)
        refine kC S (fun h40 => ?_) (fun h40 => ?_)
        · replace S := (S.front (msI T.h b T.g T.L T.x)).ofBoth
          replace S := (S.front (lgI b T.g T.L)).ofBoth
          refine kR ?_;(iterate 6 (refine sq S ?_; clear S; intro a S))
          obtain ⟨k5, hk5⟩ : ∃ k5, k5 = (IntKind.u64.wrap e.n).tmod 40 := ⟨_, rfl⟩
          rw [← hk5] at S
          refine sit (dkI b T.L.m T.L.p T.L.c T.L.s) S (dfail_c b T.L.m T.L.p T.L.c T.L.s (IntKind.i64.wrap k5) _ (S.it (dkI b T.L.m T.L.p T.L.c T.L.s))) rfl ?_; clear S; rintro _ a w ⟨rfl, hh2⟩ hS
          have S := hS (dkI b T.L.m T.L.p T.L.c (failD T.L.s (IntKind.i64.wrap k5))) hh2 (fun k hk => .inl hk)
          clear hS
          refine kN (xbn (xbn (xtn (kR ?_))));(iterate 2 (refine sq S ?_; clear S; intro a S));refine kN (xtn ?_)
          rw [w64 ((k : Int) + 1) (by omega) (by omega)] at S
          replace S := (S.front (dkI b T.L.m T.L.p T.L.c (failD T.L.s (IntKind.i64.wrap k5)))).toBoth
          replace S := (S.front (msX T.h T.g T.x)).toBoth
          exact ⟨k + 1, ⟨T.h, T.g, T.L.setK (failD T.L.s (IntKind.i64.wrap k5)), T.x, T.y, T.z, T.d⟩, S.uu, ⟨hk2, ⟨hxy, hfx, hfy, hfz, (hKI.fail k5).more (by push_cast; omega)⟩⟩, S.sub _ _, by omega⟩
        · refine kS (kR ?_);(iterate 3 (refine sq S ?_; clear S; intro a S));refine kN (xtn ?_)
          refine kC S (fun h42 => ?_) (fun h42 => ?_)
          · replace S := (S.front (msI T.h b T.g T.L T.x)).ofBoth
            replace S := (S.front (lgI b T.g T.L)).ofBoth
            refine kR ?_;(iterate 6 (refine sq S ?_; clear S; intro a S))
            obtain ⟨k5, hk5⟩ : ∃ k5, k5 = (IntKind.u64.wrap e.n).tmod 40 := ⟨_, rfl⟩
            rw [← hk5] at S
            refine sit (dkI b T.L.m T.L.p T.L.c T.L.s) S (darm_c b T.L.m T.L.p T.L.c T.L.s (IntKind.i64.wrap k5) _ (S.it (dkI b T.L.m T.L.p T.L.c T.L.s))) rfl ?_; clear S; rintro _ a w ⟨rfl, hh2⟩ hS
            have S := hS (dkI b T.L.m T.L.p T.L.c (armD T.L.s (IntKind.i64.wrap k5))) hh2 (fun k hk => .inl hk)
            clear hS
            refine kN (xbn (xbn (xtn (kR ?_))));(iterate 2 (refine sq S ?_; clear S; intro a S));refine kN (xtn ?_)
            rw [w64 ((k : Int) + 1) (by omega) (by omega)] at S
            replace S := (S.front (dkI b T.L.m T.L.p T.L.c (armD T.L.s (IntKind.i64.wrap k5)))).toBoth
            replace S := (S.front (msX T.h T.g T.x)).toBoth
            exact ⟨k + 1, ⟨T.h, T.g, T.L.setK (armD T.L.s (IntKind.i64.wrap k5)), T.x, T.y, T.z, T.d⟩, S.uu, ⟨hk2, ⟨hxy, hfx, hfy, hfz, (hKI.arm k5).more (by push_cast; omega)⟩⟩, S.sub _ _, by omega⟩
          · refine kS (kS ?_)
            replace S := (S.front (msI T.h b T.g T.L T.x)).ofBoth
            replace S := (S.front (lgI b T.g T.L)).ofBoth
            refine kR (sq S ?_);clear S;intro a S;refine sn S ?_;clear S;intro b59 a w S
            replace S := S.boxRow b59 1 0 rfl (by decide)
            (iterate 2 (refine sq S ?_; clear S; intro a S))
            refine sap S (by omega) (by have := hz e (List.mem_of_mem_take (hops ▸ hem)); omega) ?_; clear S; rintro p8 c8 a w - S
            rw [List.nil_append, Nat.zero_add] at S
            replace S := S.rowToGl p8 e.keep (e := 4) (sz := 1) (n := e.keep.length) (c := c8) (fun _ _ _ _ => trivial)
            have hl2 := hwf.loose
            refine sit (dkI b T.L.m T.L.p T.L.c T.L.s) S (dcrash_c b T.L.m T.L.p T.L.c T.L.s e.keep p8 c8 _ (by show T.L.v.s.loose.length ≤ _; omega) (S.it (dkI b T.L.m T.L.p T.L.c T.L.s)) (S.lend (dkI b T.L.m T.L.p T.L.c T.L.s) (S.mem.fact (GlF p8 e.keep)))) rfl ?_; clear S; rintro _ a w ⟨rfl, hh2⟩ hS
            have S := hS (dkI b T.L.m none 0 (crashD e.keep T.L.s)) hh2 (fun k hk => .inl (kcrash_foot (m' := 0) k hk))
            clear hS
            refine sq S ?_;clear S;intro a S;refine kN (xtn ?_);refine c_condF S ?_;refine kK (xtn (kS (kS (kR (sq S ?_)))));clear S;intro a S
            obtain ⟨o1, xm, o2, o3, o4⟩ := hKI.crash e.keep
            refine sitM (dkI b T.L.m none 0 (crashD e.keep T.L.s)) S (mopen_ok b T.L.m none 0 (crashD e.keep T.L.s) (restOf _ (dkI b T.L.m none 0 (crashD e.keep T.L.s))) (by show (0 : Nat) ≤ _; omega) o1 w (S.restOk _) (S.it (dkI b T.L.m none 0 (crashD e.keep T.L.s)))) rfl ?_; clear S; rintro _ a w (⟨hno, -⟩ | ⟨h5, g5, L5, x5, ho5, rfl, hm5, hv5, hfx5, hh5, hf5, hst5⟩) hS
            · rw [show openM (opnV (crashD e.keep T.L.s)).said = _ from o2] at hno; cases hno
            have S := hS (msI h5 b g5 L5 x5) [MemF x5] hh5 hf5 (by intro Φ hΦ; obtain rfl := List.mem_singleton.1 hΦ; exact hst5)
            clear hS
            have hx5 : x5.m = xm := by rw [show openM (opnV (crashD e.keep T.L.s)).said = _ from o2] at ho5; exact (Option.some.inj ho5).symm
            rw [show opnV (crashD e.keep T.L.v.s) = L5.v from hv5.symm, ← hx5] at o4
            rw [← hx5] at o3
            have hok5 : memB x5.m = true := (o4 x5.m).1
            (iterate 5 (refine sq S ?_; clear S; intro a S));refine kN (xtn (kS (kR ?_)));(iterate 2 (refine sq S ?_; clear S; intro a S));refine kN (xtn ?_);refine c_condF S ?_;refine kK (xtn (kS ?_))
            obtain ⟨bx, hbx, hdz⟩ : ∃ bx : Bool, (bx = true ↔ x5.m = T.y.m) ∧ (bx = false → T.d = true ∧ x5.m = T.z.m) := by
              rcases Classical.em (x5.m = T.y.m) with h | h
              · exact ⟨true, ⟨fun _ => h, fun _ => rfl⟩, nofun⟩
              · exact ⟨false, ⟨nofun, fun h2 => absurd h2 h⟩, fun _ => o3.resolve_left h⟩
            cases bx
            · refine kS ?_;refine c_drawE [(0, true), (2, true), (1, false), (3, false), (4, true), (5, true), (6, true), (7, true), (8, true), (10, true), (9, false), (11, false), (12, true), (13, true), (14, true)] [Wk.box b11 67 (cMem T.z), Wk.box b10 67 (cMem T.y)] S ?_;clear S;intro w S;(iterate 2 (refine dq S ?_; clear S; intro a S));refine dl ?_
              refine sitM (msI h5 b g5 L5 x5) S (mget_c h5 b g5 L5 x5 hfx5 hok5 (restOf _ (msI h5 b g5 L5 x5)) _ (S.restOk _) (S.it (msI h5 b g5 L5 x5)) ((S.mem.fact (MemF x5)).split (msI h5 b g5 L5 x5))) rfl ?_; clear S; rintro _ a w ⟨hhy19, y19, rfl, hy19, hfy19, hsty19⟩ hS
              have S := hS (msI h5 b g5 L5 x5) [MemF y19] hhy19 (fun k h => .inl h) (by intro Φ hΦ; obtain rfl := List.mem_singleton.1 hΦ; exact hsty19)
              clear hS
              refine de S ?_;refine dl ?_
              refine sr S (msame_c y19 T.y hfy19 hfy _ ((S.mem.fact (MemF y19)).less fun _ _ h => h.elim) ((S.mem.fact (MemF T.y)).less fun _ _ h => h.elim)) ?_; clear S; rintro _ a w ⟨b19, rfl, hb19⟩ S
              obtain rfl := Bool.eq_iff_iff.2 (hb19.trans ((show y19.m = T.y.m ↔ x5.m = T.y.m from by rw [hy19]).trans hbx.symm))
              first
                | rw [(hdz rfl).1] at S
                | skip
              refine de S ?_;refine dq S ?_;clear S;intro a S
              first
                | rw [show (!false) = true from rfl] at S
                | rw [show (!true) = false from rfl] at S
              refine dq S ?_;clear S;intro a S;(iterate 4 (refine dqG S ?_; clear S; intro a S));refine dl ?_
              first
                | (refine gU S ?_; clear S; intro a S)
                | (refine gT S ?_
                   refine sitM (msI h5 b g5 L5 x5) S (mget_c h5 b g5 L5 x5 hfx5 hok5 (restOf _ (msI h5 b g5 L5 x5)) _ (S.restOk _) (S.it (msI h5 b g5 L5 x5)) ((S.mem.fact (MemF x5)).split (msI h5 b g5 L5 x5))) rfl ?_; clear S; rintro _ a w ⟨hhy20, y20, rfl, hy20, hfy20, hsty20⟩ hS
                   have S := hS (msI h5 b g5 L5 x5) [MemF y20] hhy20 (fun k h => .inl h) (by intro Φ hΦ; obtain rfl := List.mem_singleton.1 hΦ; exact hsty20)
                   clear hS)
              refine de S ?_;refine dl ?_
              first
                | (refine gU S ?_; clear S; intro a S)
                | (refine gT S ?_
                   refine sr S (msame_c y20 T.z hfy20 hfz _ ((S.mem.fact (MemF y20)).less fun _ _ h => h.elim) ((S.mem.fact (MemF T.z)).less fun _ _ h => h.elim)) ?_; clear S; rintro _ a w ⟨b20, rfl, hb20⟩ S
                   obtain rfl : b20 = true := hb20.2 (hy20.trans (hdz rfl).2))
              refine de S ?_
              first
                | (refine dqG S ?_; clear S; intro a S)
                | (refine dqF S ?_; clear S; intro a S)
              first
                | (refine dqG S ?_; clear S; intro a S)
                | (refine dqF S ?_; clear S; intro a S)
              refine dq S ?_;clear S;intro a S;refine dn (xtn ?_);refine c_condF S ?_;refine kK (xtn (kR (sq S ?_)));clear S;intro a S
              refine sitM (msI h5 b g5 L5 x5) S (mget_c h5 b g5 L5 x5 hfx5 hok5 (restOf _ (msI h5 b g5 L5 x5)) _ (S.restOk _) (S.it (msI h5 b g5 L5 x5)) ((S.mem.fact (MemF x5)).split (msI h5 b g5 L5 x5))) rfl ?_; clear S; rintro _ a w ⟨hhy21, y21, rfl, hy21, hfy21, hsty21⟩ hS
              have S := hS (msI h5 b g5 L5 x5) [MemF y21] hhy21 (fun k h => .inl h) (by intro Φ hΦ; obtain rfl := List.mem_singleton.1 hΦ; exact hsty21)
              clear hS
              refine sw S ?_;clear S;intro a w S;refine sq S ?_;clear S;intro a S;refine kN (xbn (xbn (xtn (kR ?_))));(iterate 2 (refine sq S ?_; clear S; intro a S));refine kN (xtn ?_)
              rw [w64 ((k : Int) + 1) (by omega) (by omega)] at S
              replace S := S.add (Φ := MemF x5) (S.mem.fact (MemF x5))
              exact ⟨k + 1, ⟨h5, g5, L5, x5, y21, T.z, false⟩, S.uu, ⟨hk2, ⟨hy21.symm, hfx5, hfy21, hfz, by show KeepI L5.v y21.m T.z.m false _; rw [hy21]; exact (o4 _).more (by push_cast; omega)⟩⟩, (S.front (msI h5 b g5 L5 x5)).sub _ _, by omega⟩
            · refine kS ?_;refine c_drawE [(0, true), (2, true), (1, false), (3, false), (4, true), (5, true), (6, true), (7, true), (8, true), (10, true), (9, false), (11, false), (12, true), (13, true), (14, true)] [Wk.box b11 67 (cMem T.z), Wk.box b10 67 (cMem T.y)] S ?_;clear S;intro w S;(iterate 2 (refine dq S ?_; clear S; intro a S));refine dl ?_
              refine sitM (msI h5 b g5 L5 x5) S (mget_c h5 b g5 L5 x5 hfx5 hok5 (restOf _ (msI h5 b g5 L5 x5)) _ (S.restOk _) (S.it (msI h5 b g5 L5 x5)) ((S.mem.fact (MemF x5)).split (msI h5 b g5 L5 x5))) rfl ?_; clear S; rintro _ a w ⟨hhy19, y19, rfl, hy19, hfy19, hsty19⟩ hS
              have S := hS (msI h5 b g5 L5 x5) [MemF y19] hhy19 (fun k h => .inl h) (by intro Φ hΦ; obtain rfl := List.mem_singleton.1 hΦ; exact hsty19)
              clear hS
              refine de S ?_;refine dl ?_
              refine sr S (msame_c y19 T.y hfy19 hfy _ ((S.mem.fact (MemF y19)).less fun _ _ h => h.elim) ((S.mem.fact (MemF T.y)).less fun _ _ h => h.elim)) ?_; clear S; rintro _ a w ⟨b19, rfl, hb19⟩ S
              obtain rfl := Bool.eq_iff_iff.2 (hb19.trans ((show y19.m = T.y.m ↔ x5.m = T.y.m from by rw [hy19]).trans hbx.symm))
              first
                | rw [(hdz rfl).1] at S
                | skip
              refine de S ?_;refine dq S ?_;clear S;intro a S
              first
                | rw [show (!false) = true from rfl] at S
                | rw [show (!true) = false from rfl] at S
              refine dq S ?_;clear S;intro a S;(iterate 4 (refine dqG S ?_; clear S; intro a S));refine dl ?_
              first
                | (refine gU S ?_; clear S; intro a S)
                | (refine gT S ?_
                   refine sitM (msI h5 b g5 L5 x5) S (mget_c h5 b g5 L5 x5 hfx5 hok5 (restOf _ (msI h5 b g5 L5 x5)) _ (S.restOk _) (S.it (msI h5 b g5 L5 x5)) ((S.mem.fact (MemF x5)).split (msI h5 b g5 L5 x5))) rfl ?_; clear S; rintro _ a w ⟨hhy20, y20, rfl, hy20, hfy20, hsty20⟩ hS
                   have S := hS (msI h5 b g5 L5 x5) [MemF y20] hhy20 (fun k h => .inl h) (by intro Φ hΦ; obtain rfl := List.mem_singleton.1 hΦ; exact hsty20)
                   clear hS)
              refine de S ?_;refine dl ?_
              first
                | (refine gU S ?_; clear S; intro a S)
                | (refine gT S ?_
                   refine sr S (msame_c y20 T.z hfy20 hfz _ ((S.mem.fact (MemF y20)).less fun _ _ h => h.elim) ((S.mem.fact (MemF T.z)).less fun _ _ h => h.elim)) ?_; clear S; rintro _ a w ⟨b20, rfl, hb20⟩ S
                   obtain rfl : b20 = true := hb20.2 (hy20.trans (hdz rfl).2))
              refine de S ?_
              first
                | (refine dqG S ?_; clear S; intro a S)
                | (refine dqF S ?_; clear S; intro a S)
              first
                | (refine dqG S ?_; clear S; intro a S)
                | (refine dqF S ?_; clear S; intro a S)
              refine dq S ?_;clear S;intro a S;refine dn (xtn ?_);refine c_condF S ?_;refine kK (xtn (kR (sq S ?_)));clear S;intro a S
              refine sitM (msI h5 b g5 L5 x5) S (mget_c h5 b g5 L5 x5 hfx5 hok5 (restOf _ (msI h5 b g5 L5 x5)) _ (S.restOk _) (S.it (msI h5 b g5 L5 x5)) ((S.mem.fact (MemF x5)).split (msI h5 b g5 L5 x5))) rfl ?_; clear S; rintro _ a w ⟨hhy21, y21, rfl, hy21, hfy21, hsty21⟩ hS
              have S := hS (msI h5 b g5 L5 x5) [MemF y21] hhy21 (fun k h => .inl h) (by intro Φ hΦ; obtain rfl := List.mem_singleton.1 hΦ; exact hsty21)
              clear hS
              refine sw S ?_;clear S;intro a w S;refine sq S ?_;clear S;intro a S;refine kN (xbn (xbn (xtn (kR ?_))));(iterate 2 (refine sq S ?_; clear S; intro a S));refine kN (xtn ?_)
              rw [w64 ((k : Int) + 1) (by omega) (by omega)] at S
              replace S := S.add (Φ := MemF x5) (S.mem.fact (MemF x5))
              exact ⟨k + 1, ⟨h5, g5, L5, x5, y21, T.z, false⟩, S.uu, ⟨hk2, ⟨hy21.symm, hfx5, hfy21, hfz, by show KeepI L5.v y21.m T.z.m false _; rw [hy21]; exact (o4 _).more (by push_cast; omega)⟩⟩, (S.front (msI h5 b g5 L5 x5)).sub _ _, by omega⟩
    · refine kE (xte (xte (xbe (xtn (kS (kR (sq S ?_)))))));clear S;intro a S;refine kN (xtn (kT ?_))
      exact end1 S (fun _ => rfl)
open Go.ChangeShapes Go.WideShapes Go.ChangeAt Go.RowKit
instance troStrM : Tro Tryz.prog 9 (List UInt8) := troS Tryz.underlying9 (by kernel_rfl)
instance troMarkM : Tro Tryz.prog 177 LMark := ⟨fun enc w base spare held fuel cs x h => by
 obtain ⟨hlen, hf⟩ := trod_flds Tryz.underlying177 h
 rw [show Tryz.prog.cellsOf 177 = 2 from by kernel_rfl] at hlen
 obtain ⟨n0, y0, g0⟩ := hf 0 9 0 rfl
 obtain ⟨n1, y1, g1⟩ := hf 1 3 1 rfl
 obtain ⟨u0, e0, i0⟩ := trod_fld (α := List UInt8) g0 rfl
 obtain ⟨u1, e1, i1⟩ := trod_fld (α := Int) g1 rfl
 refine ⟨⟨u0, u1⟩, ?_, trivial⟩
 match cs, hlen with
 | [c0, c1], _ =>
  have q0 : [c0] = [str u0] := e0
  have q1 : [c1] = [.int .i64 u1] := e1
  simp only [List.cons.injEq, and_true] at q0 q1
  rw [q0, q1]; rfl, by kernel_rfl⟩
instance troSeedM : Tro Tryz.prog 175 LMark := ⟨fun enc w base spare held fuel cs x h => by
 obtain ⟨hlen, hf⟩ := trod_flds Tryz.underlying175 h
 rw [show Tryz.prog.cellsOf 175 = 2 from by kernel_rfl] at hlen
 obtain ⟨n0, y0, g0⟩ := hf 0 9 0 rfl
 obtain ⟨n1, y1, g1⟩ := hf 1 3 1 rfl
 obtain ⟨u0, e0, i0⟩ := trod_fld (α := List UInt8) g0 rfl
 obtain ⟨u1, e1, i1⟩ := trod_fld (α := Int) g1 rfl
 refine ⟨⟨u0, u1⟩, ?_, trivial⟩
 match cs, hlen with
 | [c0, c1], _ =>
  have q0 : [c0] = [str u0] := e0
  have q1 : [c1] = [.int .i64 u1] := e1
  simp only [List.cons.injEq, and_true] at q0 q1
  rw [q0, q1]; rfl, by kernel_rfl⟩
instance troSeenM : Tro Tryz.prog 179 LSeen := ⟨fun enc w base spare held fuel cs x h => by
 obtain ⟨hlen, hf⟩ := trod_flds Tryz.underlying179 h
 rw [show Tryz.prog.cellsOf 179 = 7 from by kernel_rfl] at hlen
 obtain ⟨n0, y0, g0⟩ := hf 0 3 0 rfl
 obtain ⟨n1, y1, g1⟩ := hf 1 3 1 rfl
 obtain ⟨n2, y2, g2⟩ := hf 2 43 2 rfl
 obtain ⟨u, e0, i0⟩ := trod_fld (α := Int) g0 rfl
 obtain ⟨k, e1, i1⟩ := trod_fld (α := Int) g1 rfl
 obtain ⟨t, e2, i2⟩ := trod_fld (α := LTerm) g2 rfl
 refine ⟨⟨u, k, t⟩, ?_, i2⟩
 match cs, hlen with
 | [c0, c1, d1, d2, d3, d4, d5], _ =>
  have q0 : [c0] = [.int .i64 u] := e0
  have q1 : [c1] = [.int .i64 k] := e1
  have q2 : [d1, d2, d3, d4, d5] = t.cells := e2
  simp only [List.cons.injEq, and_true] at q0 q1
  show [c0] ++ [c1] ++ [d1, d2, d3, d4, d5] = [.int .i64 u] ++ [.int .i64 k] ++ t.cells
  rw [q0, q1, q2], by kernel_rfl⟩
instance troMarksM : Tro Tryz.prog 64 (Sl LMark) := troSl Tryz.underlying64 (by kernel_rfl)
instance troSeedsM : Tro Tryz.prog 63 (Sl LMark) := troSl Tryz.underlying63 (by kernel_rfl)
instance troSeensM : Tro Tryz.prog 65 (Sl LSeen) := troSl Tryz.underlying65 (by kernel_rfl)
instance troMem : Tro Tryz.prog 67 LMem := ⟨fun enc w base spare held fuel cs x h => by
 obtain ⟨hlen, hf⟩ := trod_flds Tryz.underlying67 h
 rw [show Tryz.prog.cellsOf 67 = 7 from by kernel_rfl] at hlen
 obtain ⟨n0, y0, g0⟩ := hf 0 3 0 rfl
 obtain ⟨n1, y1, g1⟩ := hf 1 3 1 rfl
 obtain ⟨n2, y2, g2⟩ := hf 2 3 2 rfl
 obtain ⟨n3, y3, g3⟩ := hf 3 3 3 rfl
 obtain ⟨n4, y4, g4⟩ := hf 4 63 4 rfl
 obtain ⟨n5, y5, g5⟩ := hf 5 64 5 rfl
 obtain ⟨n6, y6, g6⟩ := hf 6 65 6 rfl
 obtain ⟨u0, e0, i0⟩ := trod_fld (α := Int) g0 rfl
 obtain ⟨u1, e1, i1⟩ := trod_fld (α := Int) g1 rfl
 obtain ⟨u2, e2, i2⟩ := trod_fld (α := Int) g2 rfl
 obtain ⟨u3, e3, i3⟩ := trod_fld (α := Int) g3 rfl
 obtain ⟨u4, e4, i4⟩ := trod_fld (α := Sl LMark) g4 rfl
 obtain ⟨u5, e5, i5⟩ := trod_fld (α := Sl LMark) g5 rfl
 obtain ⟨u6, e6, i6⟩ := trod_fld (α := Sl LSeen) g6 rfl
 refine ⟨⟨u0, u1, u2, u3, u4.p, u4.cap, u4.xs, u5.p, u5.cap, u5.xs, u6.p, u6.cap, u6.xs⟩, ?_, i4, i5, i6⟩
 match cs, hlen with
 | [c0, c1, c2, c3, c4, c5, c6], _ =>
  have q0 : [c0] = [.int .i64 u0] := e0
  have q1 : [c1] = [.int .i64 u1] := e1
  have q2 : [c2] = [.int .i64 u2] := e2
  have q3 : [c3] = [.int .i64 u3] := e3
  have q4 : [c4] = [u4.v] := e4
  have q5 : [c5] = [u5.v] := e5
  have q6 : [c6] = [u6.v] := e6
  simp only [List.cons.injEq, and_true] at q0 q1 q2 q3 q4 q5 q6
  rw [q0, q1, q2, q3, q4, q5, q6]; rfl, by kernel_rfl⟩
end Go.Proofs.YtdakncgafdnjfaaGreat