/- Package cap: Make. -/
import Derived.Test.YtgielmldblopeaaCapA
import Derived.Test.YtgielmldblopeaaSortI
import Derived.Test.YtgielmldblopeaaW6
namespace Go.Proofs.Ytgielmldblopeaa
open Go Go.Wk
set_option synthInstance.maxSize 100000
set_option synthInstance.maxHeartbeats 400000
set_option maxRecDepth 100000

theorem make1_c (k : LKey) (w0 : World) (hf : Stable (fun _ => False) w0 (InF k)) : Ret Try.prog 54 [vKey k] w0 (fun _ => False) fun v _ => v = .bool (!decide (checkF k.key.t = 0)) := by
  refine enter Try.func54 rfl rfl (Wd.begin (fs := [InF k]) (by simpa using hf)) (fun a S => ?_)
  simp only [Try.ntmps54, List.length_cons, List.length_nil, Nat.reduceAdd, Nat.reduceSub, List.replicate_succ, List.replicate_zero, List.cons_append, List.nil_append] at S
  refine c_seq ?_
  refine c_region ?_
  refine sa S ?_; clear S; intro b1 a w S
  refine sq S ?_; clear S; intro a S
  refine wl_nil ?_
  refine xtn ?_
  refine c_seq ?_
  refine c_region ?_
  iterate 2 (refine sq S ?_; clear S; intro a S)
  refine sc S ?_; clear S; intro a w S
  iterate 2 (refine sq S ?_; clear S; intro a S)
  refine wl_nil ?_
  refine xtn ?_
  refine c_ret ?_
  refine end1 S (fun _ => rfl)
theorem make3_c (b : Nat) (g : Int) (k : LKey) (w0 : World) (hb : Stable (fun _ => False) w0 (BoxF b 3 [.int .i64 g])) : Ret Try.prog 62 [vKey k, .pointer (some ⟨b, 0, none⟩)] w0 (fun _ => False) fun v _ => v = .bool (decide (k.group = g)) := by
  refine enter Try.func62 rfl rfl (Wd.begin (fs := [BoxF b 3 [.int .i64 g]]) (by simpa using hb)) (fun a S => ?_)
  simp only [Try.ntmps62, List.length_cons, List.length_nil, Nat.reduceAdd, Nat.reduceSub, List.replicate_succ, List.replicate_zero, List.cons_append, List.nil_append] at S
  refine c_seq ?_
  refine c_region ?_
  refine sa S ?_; clear S; intro b2 a w S
  refine sq S ?_; clear S; intro a S
  refine wl_nil ?_
  refine xtn ?_
  refine c_seq ?_
  refine c_region ?_
  iterate 5 (refine sq S ?_; clear S; intro a S)
  refine wl_nil ?_
  refine xtn ?_
  refine c_ret ?_
  refine end1 S (fun _ => rfl)
abbrev lsI (b : Nat) (p : Option Addr) (c : Nat) (os : List LTerm) : Wk.Item := both (Wk.box b 23 [.slice p os.length c]) (Wk.row 35 5 p os.length c (encL os))
def rowT (s : List UInt8) (t : Term) : Term := .pair (textT s) t
theorem make2_c (b9 : Nat) (os : List LTerm) (s : List UInt8) (t : LTerm) (p : Option Addr) (c : Nat) (Mr : Nat → Prop) (w0 : World) (hol : os.length ≤ 1000)
    (hout : (lsI b9 p c os).holds w0) (hMr : ∀ k, Mr k → k < w0.heap.size ∧ ¬ (lsI b9 p c os).foot k)
    (ht : Stable (fun k => (lsI b9 p c os).foot k ∨ Mr k) w0 (LtF t)) (ho : Stable (fun k => (lsI b9 p c os).foot k ∨ Mr k) w0 (AllI os)) :
    Ret Try.prog 55 [str s, vL t, .pointer (some ⟨b9, 0, none⟩)] w0 (lsI b9 p c os).foot fun v w' => v = .tuple #[] ∧ ∃ (p' : Option Addr) (c' : Nat) (r : LTerm), r.t = rowT s t.t ∧ (lsI b9 p' c' (os ++ [r])).holds w' ∧
      (∀ k, (lsI b9 p' c' (os ++ [r])).foot k → (lsI b9 p c os).foot k ∨ w0.heap.size ≤ k) ∧ Stable (fun k => (lsI b9 p' c' (os ++ [r])).foot k ∨ Mr k) w' (AllI (os ++ [r])) := by
  have hF : ∀ Φ ∈ [LtF t, AllI os], Stable (fun k => (lsI b9 p c os).foot k ∨ Mr k) w0 Φ := by simp; exact ⟨ht, ho⟩
  refine enter Try.func55 rfl rfl (Wd.it2LentM (fs := [LtF t, AllI os]) hout rfl rfl hMr hF) (fun a S => ?_)
  simp only [Try.ntmps55, List.length_cons, List.length_nil, Nat.reduceAdd, Nat.reduceSub, List.replicate_succ, List.replicate_zero, List.cons_append, List.nil_append] at S
  refine c_seq ?_
  refine c_region ?_
  refine sa S ?_; clear S; intro b4 a w S
  refine wl_nil ?_
  refine xtn ?_
  refine c_drwe3 (.q 1 (.q 3 (.b3 0 2 6 (.q 5 (.b2 2 6 (.b2 4 6 (.l 6 (.l 7 (.b2 8 10 (.b2 9 10 (.l 10 (.e)) (.l 9 (.e))) (.l 8 (.l 9 (.e)))))) (.l 4 (.l 7 (.b2 8 10 (.b2 9 10 (.l 10 (.e)) (.l 9 (.e))) (.l 8 (.l 9 (.e))))))) (.l 2 (.l 4 (.l 7 (.b2 8 10 (.b2 9 10 (.l 10 (.e)) (.l 9 (.e))) (.l 8 (.l 9 (.e))))))))) (.b3 0 4 6 (.q 5 (.b2 4 6 (.l 6 (.l 7 (.b2 8 10 (.b2 9 10 (.l 10 (.e)) (.l 9 (.e))) (.l 8 (.l 9 (.e)))))) (.l 4 (.l 7 (.b2 8 10 (.b2 9 10 (.l 10 (.e)) (.l 9 (.e))) (.l 8 (.l 9 (.e)))))))) (.b2 0 6 (.q 5 (.l 6 (.l 7 (.b2 8 10 (.b2 9 10 (.l 10 (.e)) (.l 9 (.e))) (.l 8 (.l 9 (.e))))))) (.l 0 (.q 5 (.l 7 (.b2 8 10 (.b2 9 10 (.l 10 (.e)) (.l 9 (.e))) (.l 8 (.l 9 (.e)))))))) (.b2 0 4 (.q 5 (.l 4 (.l 7 (.b2 8 10 (.b2 9 10 (.l 10 (.e)) (.l 9 (.e))) (.l 8 (.l 9 (.e))))))) (.l 0 (.q 5 (.l 7 (.b2 8 10 (.b2 9 10 (.l 10 (.e)) (.l 9 (.e))) (.l 8 (.l 9 (.e))))))))) (.b2 0 2 (.q 5 (.l 2 (.l 4 (.l 7 (.b2 8 10 (.b2 9 10 (.l 10 (.e)) (.l 9 (.e))) (.l 8 (.l 9 (.e)))))))) (.b2 0 4 (.q 5 (.l 4 (.l 7 (.b2 8 10 (.b2 9 10 (.l 10 (.e)) (.l 9 (.e))) (.l 8 (.l 9 (.e))))))) (.l 0 (.q 5 (.l 7 (.b2 8 10 (.b2 9 10 (.l 10 (.e)) (.l 9 (.e))) (.l 8 (.l 9 (.e)))))))))))) S (fun (p' : Option Addr) (c' : Nat) (r : LTerm) uu => [(5, uu 5), (0, uu 6), (0, uu 7), (0, uu 8), (0, uu 9), (0, uu 10), (0, uu 11), (0, uu 12), (0, uu 13)]) [Wk.box b4 35 t.cells, ext Mr] (fun (p' : Option Addr) (c' : Nat) (r : LTerm) => [Wk.box b9 23 [.slice p' (os.length + 1) c'], Wk.row 35 5 p' (os.length + 1) c' (encL (os ++ [r])), ext Mr]) (fun (p' : Option Addr) (c' : Nat) (r : LTerm) => [AllI (os ++ [r])]) (fun (p' : Option Addr) (c' : Nat) (r : LTerm) => r.t = rowT s t.t) ?_ ?_
  · intro w S
    iterate 2 (refine tq S ?_; clear S; intro a S)
    refine tb3 ?_ ?_ ?_
    · refine sq S ?_; clear S; intro a S
      refine te S ?_
      refine tq S ?_; clear S; intro a S
      refine tb2 ?_ ?_
      · refine sc S ?_; clear S; intro a w S
        refine te S ?_
        refine tb2 ?_ ?_
        · replace S := S.add (Φ := LtF (textL s)) (fun _ _ => by simp [LtIn, textL, LsIn, LtF])
          refine sr S (pair_c (textL s) t _ w (foots_lt S) (S.t _) (S.t t)) ?_; clear S; rintro _ a w ⟨r, rfl, hr, hrf⟩ S
          replace S := S.add hrf
          refine te S ?_
          refine tl ?_
          refine sn S ?_; clear S; intro b11 a w S
          refine te S ?_
          refine tl ?_
          refine sap S (by simp [maxLen]; omega) (by omega) ?_; clear S; rintro p3 c3 a w - S
          refine te S ?_
          refine tb2 ?_ ?_
          · have hKL : KLt os.length (os.length + 1) := ⟨by omega⟩
            refine sq S ?_; clear S; intro a S
            refine te S ?_
            refine tb2 ?_ ?_
            · refine sws S (os.length + 1) (by omega) (by omega) ?_; clear S; intro a w S
              refine te S ?_
              refine tl ?_
              refine sw S ?_; clear S; intro a w S
              refine te S ?_
              refine tn ?_
              have e := own_put (A := encL os) (Z := [.int .i64 0, .int .i64 0, .int .i64 0, .string ⟨#[]⟩, .slice none 0 0]) (vs := r.cells) _ _ (show (encL os).length = os.length * 5 from encL_len os) rfl rfl
              rw [e, ← encT_cells, ← encL_append] at S
              have h1 : Stable _ _ (AllI os) := S.wd.facts (AllI os) (by simp)
              have h2 : Stable _ _ (LtF r) := S.wd.facts (LtF r) (by simp)
              replace S := S.add (AllI.snoc h1 h2)
              exact ⟨p3, c3, r, S.uu, hr, S.sub _ _⟩
            · refine sw S ?_; clear S; intro a w S
              refine te S ?_
              refine tl ?_
              refine sws S (os.length + 1) (by omega) (by omega) ?_; clear S; intro a w S
              refine te S ?_
              refine tn ?_
              have e := own_put (A := encL os) (Z := [.int .i64 0, .int .i64 0, .int .i64 0, .string ⟨#[]⟩, .slice none 0 0]) (vs := r.cells) _ _ (show (encL os).length = os.length * 5 from encL_len os) rfl rfl
              rw [e, ← encT_cells, ← encL_append] at S
              have h1 : Stable _ _ (AllI os) := S.wd.facts (AllI os) (by simp)
              have h2 : Stable _ _ (LtF r) := S.wd.facts (LtF r) (by simp)
              replace S := S.add (AllI.snoc h1 h2)
              exact ⟨p3, c3, r, S.uu, hr, S.sub _ _⟩
          · refine sw S ?_; clear S; intro a w S
            refine te S ?_
            refine tl ?_
            have hKL : KLt os.length (os.length + 1) := ⟨by omega⟩
            refine sq S ?_; clear S; intro a S
            refine te S ?_
            refine tl ?_
            refine sws S (os.length + 1) (by omega) (by omega) ?_; clear S; intro a w S
            refine te S ?_
            refine tn ?_
            have e := own_put (A := encL os) (Z := [.int .i64 0, .int .i64 0, .int .i64 0, .string ⟨#[]⟩, .slice none 0 0]) (vs := r.cells) _ _ (show (encL os).length = os.length * 5 from encL_len os) rfl rfl
            rw [e, ← encT_cells, ← encL_append] at S
            have h1 : Stable _ _ (AllI os) := S.wd.facts (AllI os) (by simp)
            have h2 : Stable _ _ (LtF r) := S.wd.facts (LtF r) (by simp)
            replace S := S.add (AllI.snoc h1 h2)
            exact ⟨p3, c3, r, S.uu, hr, S.sub _ _⟩
        · refine sn S ?_; clear S; intro b11 a w S
          refine te S ?_
          refine tl ?_
          replace S := S.add (Φ := LtF (textL s)) (fun _ _ => by simp [LtIn, textL, LsIn, LtF])
          refine sr S (pair_c (textL s) t _ w (foots_lt S) (S.t _) (S.t t)) ?_; clear S; rintro _ a w ⟨r, rfl, hr, hrf⟩ S
          replace S := S.add hrf
          refine te S ?_
          refine tl ?_
          refine sap S (by simp [maxLen]; omega) (by omega) ?_; clear S; rintro p3 c3 a w - S
          refine te S ?_
          refine tb2 ?_ ?_
          · have hKL : KLt os.length (os.length + 1) := ⟨by omega⟩
            refine sq S ?_; clear S; intro a S
            refine te S ?_
            refine tb2 ?_ ?_
            · refine sws S (os.length + 1) (by omega) (by omega) ?_; clear S; intro a w S
              refine te S ?_
              refine tl ?_
              refine sw S ?_; clear S; intro a w S
              refine te S ?_
              refine tn ?_
              have e := own_put (A := encL os) (Z := [.int .i64 0, .int .i64 0, .int .i64 0, .string ⟨#[]⟩, .slice none 0 0]) (vs := r.cells) _ _ (show (encL os).length = os.length * 5 from encL_len os) rfl rfl
              rw [e, ← encT_cells, ← encL_append] at S
              have h1 : Stable _ _ (AllI os) := S.wd.facts (AllI os) (by simp)
              have h2 : Stable _ _ (LtF r) := S.wd.facts (LtF r) (by simp)
              replace S := S.add (AllI.snoc h1 h2)
              exact ⟨p3, c3, r, S.uu, hr, S.sub _ _⟩
            · refine sw S ?_; clear S; intro a w S
              refine te S ?_
              refine tl ?_
              refine sws S (os.length + 1) (by omega) (by omega) ?_; clear S; intro a w S
              refine te S ?_
              refine tn ?_
              have e := own_put (A := encL os) (Z := [.int .i64 0, .int .i64 0, .int .i64 0, .string ⟨#[]⟩, .slice none 0 0]) (vs := r.cells) _ _ (show (encL os).length = os.length * 5 from encL_len os) rfl rfl
              rw [e, ← encT_cells, ← encL_append] at S
              have h1 : Stable _ _ (AllI os) := S.wd.facts (AllI os) (by simp)
              have h2 : Stable _ _ (LtF r) := S.wd.facts (LtF r) (by simp)
              replace S := S.add (AllI.snoc h1 h2)
              exact ⟨p3, c3, r, S.uu, hr, S.sub _ _⟩
          · refine sw S ?_; clear S; intro a w S
            refine te S ?_
            refine tl ?_
            have hKL : KLt os.length (os.length + 1) := ⟨by omega⟩
            refine sq S ?_; clear S; intro a S
            refine te S ?_
            refine tl ?_
            refine sws S (os.length + 1) (by omega) (by omega) ?_; clear S; intro a w S
            refine te S ?_
            refine tn ?_
            have e := own_put (A := encL os) (Z := [.int .i64 0, .int .i64 0, .int .i64 0, .string ⟨#[]⟩, .slice none 0 0]) (vs := r.cells) _ _ (show (encL os).length = os.length * 5 from encL_len os) rfl rfl
            rw [e, ← encT_cells, ← encL_append] at S
            have h1 : Stable _ _ (AllI os) := S.wd.facts (AllI os) (by simp)
            have h2 : Stable _ _ (LtF r) := S.wd.facts (LtF r) (by simp)
            replace S := S.add (AllI.snoc h1 h2)
            exact ⟨p3, c3, r, S.uu, hr, S.sub _ _⟩
      · refine sn S ?_; clear S; intro b11 a w S
        refine te S ?_
        refine tl ?_
        refine sc S ?_; clear S; intro a w S
        refine te S ?_
        refine tl ?_
        replace S := S.add (Φ := LtF (textL s)) (fun _ _ => by simp [LtIn, textL, LsIn, LtF])
        refine sr S (pair_c (textL s) t _ w (foots_lt S) (S.t _) (S.t t)) ?_; clear S; rintro _ a w ⟨r, rfl, hr, hrf⟩ S
        replace S := S.add hrf
        refine te S ?_
        refine tl ?_
        refine sap S (by simp [maxLen]; omega) (by omega) ?_; clear S; rintro p3 c3 a w - S
        refine te S ?_
        refine tb2 ?_ ?_
        · have hKL : KLt os.length (os.length + 1) := ⟨by omega⟩
          refine sq S ?_; clear S; intro a S
          refine te S ?_
          refine tb2 ?_ ?_
          · refine sws S (os.length + 1) (by omega) (by omega) ?_; clear S; intro a w S
            refine te S ?_
            refine tl ?_
            refine sw S ?_; clear S; intro a w S
            refine te S ?_
            refine tn ?_
            have e := own_put (A := encL os) (Z := [.int .i64 0, .int .i64 0, .int .i64 0, .string ⟨#[]⟩, .slice none 0 0]) (vs := r.cells) _ _ (show (encL os).length = os.length * 5 from encL_len os) rfl rfl
            rw [e, ← encT_cells, ← encL_append] at S
            have h1 : Stable _ _ (AllI os) := S.wd.facts (AllI os) (by simp)
            have h2 : Stable _ _ (LtF r) := S.wd.facts (LtF r) (by simp)
            replace S := S.add (AllI.snoc h1 h2)
            exact ⟨p3, c3, r, S.uu, hr, S.sub _ _⟩
          · refine sw S ?_; clear S; intro a w S
            refine te S ?_
            refine tl ?_
            refine sws S (os.length + 1) (by omega) (by omega) ?_; clear S; intro a w S
            refine te S ?_
            refine tn ?_
            have e := own_put (A := encL os) (Z := [.int .i64 0, .int .i64 0, .int .i64 0, .string ⟨#[]⟩, .slice none 0 0]) (vs := r.cells) _ _ (show (encL os).length = os.length * 5 from encL_len os) rfl rfl
            rw [e, ← encT_cells, ← encL_append] at S
            have h1 : Stable _ _ (AllI os) := S.wd.facts (AllI os) (by simp)
            have h2 : Stable _ _ (LtF r) := S.wd.facts (LtF r) (by simp)
            replace S := S.add (AllI.snoc h1 h2)
            exact ⟨p3, c3, r, S.uu, hr, S.sub _ _⟩
        · refine sw S ?_; clear S; intro a w S
          refine te S ?_
          refine tl ?_
          have hKL : KLt os.length (os.length + 1) := ⟨by omega⟩
          refine sq S ?_; clear S; intro a S
          refine te S ?_
          refine tl ?_
          refine sws S (os.length + 1) (by omega) (by omega) ?_; clear S; intro a w S
          refine te S ?_
          refine tn ?_
          have e := own_put (A := encL os) (Z := [.int .i64 0, .int .i64 0, .int .i64 0, .string ⟨#[]⟩, .slice none 0 0]) (vs := r.cells) _ _ (show (encL os).length = os.length * 5 from encL_len os) rfl rfl
          rw [e, ← encT_cells, ← encL_append] at S
          have h1 : Stable _ _ (AllI os) := S.wd.facts (AllI os) (by simp)
          have h2 : Stable _ _ (LtF r) := S.wd.facts (LtF r) (by simp)
          replace S := S.add (AllI.snoc h1 h2)
          exact ⟨p3, c3, r, S.uu, hr, S.sub _ _⟩
    · refine sc S ?_; clear S; intro a w S
      refine te S ?_
      refine tb3 ?_ ?_ ?_
      · refine sq S ?_; clear S; intro a S
        refine te S ?_
        refine tq S ?_; clear S; intro a S
        refine tb2 ?_ ?_
        · replace S := S.add (Φ := LtF (textL s)) (fun _ _ => by simp [LtIn, textL, LsIn, LtF])
          refine sr S (pair_c (textL s) t _ w (foots_lt S) (S.t _) (S.t t)) ?_; clear S; rintro _ a w ⟨r, rfl, hr, hrf⟩ S
          replace S := S.add hrf
          refine te S ?_
          refine tl ?_
          refine sn S ?_; clear S; intro b11 a w S
          refine te S ?_
          refine tl ?_
          refine sap S (by simp [maxLen]; omega) (by omega) ?_; clear S; rintro p3 c3 a w - S
          refine te S ?_
          refine tb2 ?_ ?_
          · have hKL : KLt os.length (os.length + 1) := ⟨by omega⟩
            refine sq S ?_; clear S; intro a S
            refine te S ?_
            refine tb2 ?_ ?_
            · refine sws S (os.length + 1) (by omega) (by omega) ?_; clear S; intro a w S
              refine te S ?_
              refine tl ?_
              refine sw S ?_; clear S; intro a w S
              refine te S ?_
              refine tn ?_
              have e := own_put (A := encL os) (Z := [.int .i64 0, .int .i64 0, .int .i64 0, .string ⟨#[]⟩, .slice none 0 0]) (vs := r.cells) _ _ (show (encL os).length = os.length * 5 from encL_len os) rfl rfl
              rw [e, ← encT_cells, ← encL_append] at S
              have h1 : Stable _ _ (AllI os) := S.wd.facts (AllI os) (by simp)
              have h2 : Stable _ _ (LtF r) := S.wd.facts (LtF r) (by simp)
              replace S := S.add (AllI.snoc h1 h2)
              exact ⟨p3, c3, r, S.uu, hr, S.sub _ _⟩
            · refine sw S ?_; clear S; intro a w S
              refine te S ?_
              refine tl ?_
              refine sws S (os.length + 1) (by omega) (by omega) ?_; clear S; intro a w S
              refine te S ?_
              refine tn ?_
              have e := own_put (A := encL os) (Z := [.int .i64 0, .int .i64 0, .int .i64 0, .string ⟨#[]⟩, .slice none 0 0]) (vs := r.cells) _ _ (show (encL os).length = os.length * 5 from encL_len os) rfl rfl
              rw [e, ← encT_cells, ← encL_append] at S
              have h1 : Stable _ _ (AllI os) := S.wd.facts (AllI os) (by simp)
              have h2 : Stable _ _ (LtF r) := S.wd.facts (LtF r) (by simp)
              replace S := S.add (AllI.snoc h1 h2)
              exact ⟨p3, c3, r, S.uu, hr, S.sub _ _⟩
          · refine sw S ?_; clear S; intro a w S
            refine te S ?_
            refine tl ?_
            have hKL : KLt os.length (os.length + 1) := ⟨by omega⟩
            refine sq S ?_; clear S; intro a S
            refine te S ?_
            refine tl ?_
            refine sws S (os.length + 1) (by omega) (by omega) ?_; clear S; intro a w S
            refine te S ?_
            refine tn ?_
            have e := own_put (A := encL os) (Z := [.int .i64 0, .int .i64 0, .int .i64 0, .string ⟨#[]⟩, .slice none 0 0]) (vs := r.cells) _ _ (show (encL os).length = os.length * 5 from encL_len os) rfl rfl
            rw [e, ← encT_cells, ← encL_append] at S
            have h1 : Stable _ _ (AllI os) := S.wd.facts (AllI os) (by simp)
            have h2 : Stable _ _ (LtF r) := S.wd.facts (LtF r) (by simp)
            replace S := S.add (AllI.snoc h1 h2)
            exact ⟨p3, c3, r, S.uu, hr, S.sub _ _⟩
        · refine sn S ?_; clear S; intro b11 a w S
          refine te S ?_
          refine tl ?_
          replace S := S.add (Φ := LtF (textL s)) (fun _ _ => by simp [LtIn, textL, LsIn, LtF])
          refine sr S (pair_c (textL s) t _ w (foots_lt S) (S.t _) (S.t t)) ?_; clear S; rintro _ a w ⟨r, rfl, hr, hrf⟩ S
          replace S := S.add hrf
          refine te S ?_
          refine tl ?_
          refine sap S (by simp [maxLen]; omega) (by omega) ?_; clear S; rintro p3 c3 a w - S
          refine te S ?_
          refine tb2 ?_ ?_
          · have hKL : KLt os.length (os.length + 1) := ⟨by omega⟩
            refine sq S ?_; clear S; intro a S
            refine te S ?_
            refine tb2 ?_ ?_
            · refine sws S (os.length + 1) (by omega) (by omega) ?_; clear S; intro a w S
              refine te S ?_
              refine tl ?_
              refine sw S ?_; clear S; intro a w S
              refine te S ?_
              refine tn ?_
              have e := own_put (A := encL os) (Z := [.int .i64 0, .int .i64 0, .int .i64 0, .string ⟨#[]⟩, .slice none 0 0]) (vs := r.cells) _ _ (show (encL os).length = os.length * 5 from encL_len os) rfl rfl
              rw [e, ← encT_cells, ← encL_append] at S
              have h1 : Stable _ _ (AllI os) := S.wd.facts (AllI os) (by simp)
              have h2 : Stable _ _ (LtF r) := S.wd.facts (LtF r) (by simp)
              replace S := S.add (AllI.snoc h1 h2)
              exact ⟨p3, c3, r, S.uu, hr, S.sub _ _⟩
            · refine sw S ?_; clear S; intro a w S
              refine te S ?_
              refine tl ?_
              refine sws S (os.length + 1) (by omega) (by omega) ?_; clear S; intro a w S
              refine te S ?_
              refine tn ?_
              have e := own_put (A := encL os) (Z := [.int .i64 0, .int .i64 0, .int .i64 0, .string ⟨#[]⟩, .slice none 0 0]) (vs := r.cells) _ _ (show (encL os).length = os.length * 5 from encL_len os) rfl rfl
              rw [e, ← encT_cells, ← encL_append] at S
              have h1 : Stable _ _ (AllI os) := S.wd.facts (AllI os) (by simp)
              have h2 : Stable _ _ (LtF r) := S.wd.facts (LtF r) (by simp)
              replace S := S.add (AllI.snoc h1 h2)
              exact ⟨p3, c3, r, S.uu, hr, S.sub _ _⟩
          · refine sw S ?_; clear S; intro a w S
            refine te S ?_
            refine tl ?_
            have hKL : KLt os.length (os.length + 1) := ⟨by omega⟩
            refine sq S ?_; clear S; intro a S
            refine te S ?_
            refine tl ?_
            refine sws S (os.length + 1) (by omega) (by omega) ?_; clear S; intro a w S
            refine te S ?_
            refine tn ?_
            have e := own_put (A := encL os) (Z := [.int .i64 0, .int .i64 0, .int .i64 0, .string ⟨#[]⟩, .slice none 0 0]) (vs := r.cells) _ _ (show (encL os).length = os.length * 5 from encL_len os) rfl rfl
            rw [e, ← encT_cells, ← encL_append] at S
            have h1 : Stable _ _ (AllI os) := S.wd.facts (AllI os) (by simp)
            have h2 : Stable _ _ (LtF r) := S.wd.facts (LtF r) (by simp)
            replace S := S.add (AllI.snoc h1 h2)
            exact ⟨p3, c3, r, S.uu, hr, S.sub _ _⟩
      · replace S := S.add (Φ := LtF (textL s)) (fun _ _ => by simp [LtIn, textL, LsIn, LtF])
        refine sr S (pair_c (textL s) t _ w (foots_lt S) (S.t _) (S.t t)) ?_; clear S; rintro _ a w ⟨r, rfl, hr, hrf⟩ S
        replace S := S.add hrf
        refine te S ?_
        refine tb2 ?_ ?_
        · refine sq S ?_; clear S; intro a S
          refine te S ?_
          refine tq S ?_; clear S; intro a S
          refine tl ?_
          refine sn S ?_; clear S; intro b11 a w S
          refine te S ?_
          refine tl ?_
          refine sap S (by simp [maxLen]; omega) (by omega) ?_; clear S; rintro p3 c3 a w - S
          refine te S ?_
          refine tb2 ?_ ?_
          · have hKL : KLt os.length (os.length + 1) := ⟨by omega⟩
            refine sq S ?_; clear S; intro a S
            refine te S ?_
            refine tb2 ?_ ?_
            · refine sws S (os.length + 1) (by omega) (by omega) ?_; clear S; intro a w S
              refine te S ?_
              refine tl ?_
              refine sw S ?_; clear S; intro a w S
              refine te S ?_
              refine tn ?_
              have e := own_put (A := encL os) (Z := [.int .i64 0, .int .i64 0, .int .i64 0, .string ⟨#[]⟩, .slice none 0 0]) (vs := r.cells) _ _ (show (encL os).length = os.length * 5 from encL_len os) rfl rfl
              rw [e, ← encT_cells, ← encL_append] at S
              have h1 : Stable _ _ (AllI os) := S.wd.facts (AllI os) (by simp)
              have h2 : Stable _ _ (LtF r) := S.wd.facts (LtF r) (by simp)
              replace S := S.add (AllI.snoc h1 h2)
              exact ⟨p3, c3, r, S.uu, hr, S.sub _ _⟩
            · refine sw S ?_; clear S; intro a w S
              refine te S ?_
              refine tl ?_
              refine sws S (os.length + 1) (by omega) (by omega) ?_; clear S; intro a w S
              refine te S ?_
              refine tn ?_
              have e := own_put (A := encL os) (Z := [.int .i64 0, .int .i64 0, .int .i64 0, .string ⟨#[]⟩, .slice none 0 0]) (vs := r.cells) _ _ (show (encL os).length = os.length * 5 from encL_len os) rfl rfl
              rw [e, ← encT_cells, ← encL_append] at S
              have h1 : Stable _ _ (AllI os) := S.wd.facts (AllI os) (by simp)
              have h2 : Stable _ _ (LtF r) := S.wd.facts (LtF r) (by simp)
              replace S := S.add (AllI.snoc h1 h2)
              exact ⟨p3, c3, r, S.uu, hr, S.sub _ _⟩
          · refine sw S ?_; clear S; intro a w S
            refine te S ?_
            refine tl ?_
            have hKL : KLt os.length (os.length + 1) := ⟨by omega⟩
            refine sq S ?_; clear S; intro a S
            refine te S ?_
            refine tl ?_
            refine sws S (os.length + 1) (by omega) (by omega) ?_; clear S; intro a w S
            refine te S ?_
            refine tn ?_
            have e := own_put (A := encL os) (Z := [.int .i64 0, .int .i64 0, .int .i64 0, .string ⟨#[]⟩, .slice none 0 0]) (vs := r.cells) _ _ (show (encL os).length = os.length * 5 from encL_len os) rfl rfl
            rw [e, ← encT_cells, ← encL_append] at S
            have h1 : Stable _ _ (AllI os) := S.wd.facts (AllI os) (by simp)
            have h2 : Stable _ _ (LtF r) := S.wd.facts (LtF r) (by simp)
            replace S := S.add (AllI.snoc h1 h2)
            exact ⟨p3, c3, r, S.uu, hr, S.sub _ _⟩
        · refine sn S ?_; clear S; intro b11 a w S
          refine te S ?_
          refine tl ?_
          refine sq S ?_; clear S; intro a S
          refine te S ?_
          refine tq S ?_; clear S; intro a S
          refine tl ?_
          refine sap S (by simp [maxLen]; omega) (by omega) ?_; clear S; rintro p3 c3 a w - S
          refine te S ?_
          refine tb2 ?_ ?_
          · have hKL : KLt os.length (os.length + 1) := ⟨by omega⟩
            refine sq S ?_; clear S; intro a S
            refine te S ?_
            refine tb2 ?_ ?_
            · refine sws S (os.length + 1) (by omega) (by omega) ?_; clear S; intro a w S
              refine te S ?_
              refine tl ?_
              refine sw S ?_; clear S; intro a w S
              refine te S ?_
              refine tn ?_
              have e := own_put (A := encL os) (Z := [.int .i64 0, .int .i64 0, .int .i64 0, .string ⟨#[]⟩, .slice none 0 0]) (vs := r.cells) _ _ (show (encL os).length = os.length * 5 from encL_len os) rfl rfl
              rw [e, ← encT_cells, ← encL_append] at S
              have h1 : Stable _ _ (AllI os) := S.wd.facts (AllI os) (by simp)
              have h2 : Stable _ _ (LtF r) := S.wd.facts (LtF r) (by simp)
              replace S := S.add (AllI.snoc h1 h2)
              exact ⟨p3, c3, r, S.uu, hr, S.sub _ _⟩
            · refine sw S ?_; clear S; intro a w S
              refine te S ?_
              refine tl ?_
              refine sws S (os.length + 1) (by omega) (by omega) ?_; clear S; intro a w S
              refine te S ?_
              refine tn ?_
              have e := own_put (A := encL os) (Z := [.int .i64 0, .int .i64 0, .int .i64 0, .string ⟨#[]⟩, .slice none 0 0]) (vs := r.cells) _ _ (show (encL os).length = os.length * 5 from encL_len os) rfl rfl
              rw [e, ← encT_cells, ← encL_append] at S
              have h1 : Stable _ _ (AllI os) := S.wd.facts (AllI os) (by simp)
              have h2 : Stable _ _ (LtF r) := S.wd.facts (LtF r) (by simp)
              replace S := S.add (AllI.snoc h1 h2)
              exact ⟨p3, c3, r, S.uu, hr, S.sub _ _⟩
          · refine sw S ?_; clear S; intro a w S
            refine te S ?_
            refine tl ?_
            have hKL : KLt os.length (os.length + 1) := ⟨by omega⟩
            refine sq S ?_; clear S; intro a S
            refine te S ?_
            refine tl ?_
            refine sws S (os.length + 1) (by omega) (by omega) ?_; clear S; intro a w S
            refine te S ?_
            refine tn ?_
            have e := own_put (A := encL os) (Z := [.int .i64 0, .int .i64 0, .int .i64 0, .string ⟨#[]⟩, .slice none 0 0]) (vs := r.cells) _ _ (show (encL os).length = os.length * 5 from encL_len os) rfl rfl
            rw [e, ← encT_cells, ← encL_append] at S
            have h1 : Stable _ _ (AllI os) := S.wd.facts (AllI os) (by simp)
            have h2 : Stable _ _ (LtF r) := S.wd.facts (LtF r) (by simp)
            replace S := S.add (AllI.snoc h1 h2)
            exact ⟨p3, c3, r, S.uu, hr, S.sub _ _⟩
      · refine sn S ?_; clear S; intro b11 a w S
        refine te S ?_
        refine tb2 ?_ ?_
        · refine sq S ?_; clear S; intro a S
          refine te S ?_
          refine tq S ?_; clear S; intro a S
          refine tl ?_
          replace S := S.add (Φ := LtF (textL s)) (fun _ _ => by simp [LtIn, textL, LsIn, LtF])
          refine sr S (pair_c (textL s) t _ w (foots_lt S) (S.t _) (S.t t)) ?_; clear S; rintro _ a w ⟨r, rfl, hr, hrf⟩ S
          replace S := S.add hrf
          refine te S ?_
          refine tl ?_
          refine sap S (by simp [maxLen]; omega) (by omega) ?_; clear S; rintro p3 c3 a w - S
          refine te S ?_
          refine tb2 ?_ ?_
          · have hKL : KLt os.length (os.length + 1) := ⟨by omega⟩
            refine sq S ?_; clear S; intro a S
            refine te S ?_
            refine tb2 ?_ ?_
            · refine sws S (os.length + 1) (by omega) (by omega) ?_; clear S; intro a w S
              refine te S ?_
              refine tl ?_
              refine sw S ?_; clear S; intro a w S
              refine te S ?_
              refine tn ?_
              have e := own_put (A := encL os) (Z := [.int .i64 0, .int .i64 0, .int .i64 0, .string ⟨#[]⟩, .slice none 0 0]) (vs := r.cells) _ _ (show (encL os).length = os.length * 5 from encL_len os) rfl rfl
              rw [e, ← encT_cells, ← encL_append] at S
              have h1 : Stable _ _ (AllI os) := S.wd.facts (AllI os) (by simp)
              have h2 : Stable _ _ (LtF r) := S.wd.facts (LtF r) (by simp)
              replace S := S.add (AllI.snoc h1 h2)
              exact ⟨p3, c3, r, S.uu, hr, S.sub _ _⟩
            · refine sw S ?_; clear S; intro a w S
              refine te S ?_
              refine tl ?_
              refine sws S (os.length + 1) (by omega) (by omega) ?_; clear S; intro a w S
              refine te S ?_
              refine tn ?_
              have e := own_put (A := encL os) (Z := [.int .i64 0, .int .i64 0, .int .i64 0, .string ⟨#[]⟩, .slice none 0 0]) (vs := r.cells) _ _ (show (encL os).length = os.length * 5 from encL_len os) rfl rfl
              rw [e, ← encT_cells, ← encL_append] at S
              have h1 : Stable _ _ (AllI os) := S.wd.facts (AllI os) (by simp)
              have h2 : Stable _ _ (LtF r) := S.wd.facts (LtF r) (by simp)
              replace S := S.add (AllI.snoc h1 h2)
              exact ⟨p3, c3, r, S.uu, hr, S.sub _ _⟩
          · refine sw S ?_; clear S; intro a w S
            refine te S ?_
            refine tl ?_
            have hKL : KLt os.length (os.length + 1) := ⟨by omega⟩
            refine sq S ?_; clear S; intro a S
            refine te S ?_
            refine tl ?_
            refine sws S (os.length + 1) (by omega) (by omega) ?_; clear S; intro a w S
            refine te S ?_
            refine tn ?_
            have e := own_put (A := encL os) (Z := [.int .i64 0, .int .i64 0, .int .i64 0, .string ⟨#[]⟩, .slice none 0 0]) (vs := r.cells) _ _ (show (encL os).length = os.length * 5 from encL_len os) rfl rfl
            rw [e, ← encT_cells, ← encL_append] at S
            have h1 : Stable _ _ (AllI os) := S.wd.facts (AllI os) (by simp)
            have h2 : Stable _ _ (LtF r) := S.wd.facts (LtF r) (by simp)
            replace S := S.add (AllI.snoc h1 h2)
            exact ⟨p3, c3, r, S.uu, hr, S.sub _ _⟩
        · replace S := S.add (Φ := LtF (textL s)) (fun _ _ => by simp [LtIn, textL, LsIn, LtF])
          refine sr S (pair_c (textL s) t _ w (foots_lt S) (S.t _) (S.t t)) ?_; clear S; rintro _ a w ⟨r, rfl, hr, hrf⟩ S
          replace S := S.add hrf
          refine te S ?_
          refine tl ?_
          refine sq S ?_; clear S; intro a S
          refine te S ?_
          refine tq S ?_; clear S; intro a S
          refine tl ?_
          refine sap S (by simp [maxLen]; omega) (by omega) ?_; clear S; rintro p3 c3 a w - S
          refine te S ?_
          refine tb2 ?_ ?_
          · have hKL : KLt os.length (os.length + 1) := ⟨by omega⟩
            refine sq S ?_; clear S; intro a S
            refine te S ?_
            refine tb2 ?_ ?_
            · refine sws S (os.length + 1) (by omega) (by omega) ?_; clear S; intro a w S
              refine te S ?_
              refine tl ?_
              refine sw S ?_; clear S; intro a w S
              refine te S ?_
              refine tn ?_
              have e := own_put (A := encL os) (Z := [.int .i64 0, .int .i64 0, .int .i64 0, .string ⟨#[]⟩, .slice none 0 0]) (vs := r.cells) _ _ (show (encL os).length = os.length * 5 from encL_len os) rfl rfl
              rw [e, ← encT_cells, ← encL_append] at S
              have h1 : Stable _ _ (AllI os) := S.wd.facts (AllI os) (by simp)
              have h2 : Stable _ _ (LtF r) := S.wd.facts (LtF r) (by simp)
              replace S := S.add (AllI.snoc h1 h2)
              exact ⟨p3, c3, r, S.uu, hr, S.sub _ _⟩
            · refine sw S ?_; clear S; intro a w S
              refine te S ?_
              refine tl ?_
              refine sws S (os.length + 1) (by omega) (by omega) ?_; clear S; intro a w S
              refine te S ?_
              refine tn ?_
              have e := own_put (A := encL os) (Z := [.int .i64 0, .int .i64 0, .int .i64 0, .string ⟨#[]⟩, .slice none 0 0]) (vs := r.cells) _ _ (show (encL os).length = os.length * 5 from encL_len os) rfl rfl
              rw [e, ← encT_cells, ← encL_append] at S
              have h1 : Stable _ _ (AllI os) := S.wd.facts (AllI os) (by simp)
              have h2 : Stable _ _ (LtF r) := S.wd.facts (LtF r) (by simp)
              replace S := S.add (AllI.snoc h1 h2)
              exact ⟨p3, c3, r, S.uu, hr, S.sub _ _⟩
          · refine sw S ?_; clear S; intro a w S
            refine te S ?_
            refine tl ?_
            have hKL : KLt os.length (os.length + 1) := ⟨by omega⟩
            refine sq S ?_; clear S; intro a S
            refine te S ?_
            refine tl ?_
            refine sws S (os.length + 1) (by omega) (by omega) ?_; clear S; intro a w S
            refine te S ?_
            refine tn ?_
            have e := own_put (A := encL os) (Z := [.int .i64 0, .int .i64 0, .int .i64 0, .string ⟨#[]⟩, .slice none 0 0]) (vs := r.cells) _ _ (show (encL os).length = os.length * 5 from encL_len os) rfl rfl
            rw [e, ← encT_cells, ← encL_append] at S
            have h1 : Stable _ _ (AllI os) := S.wd.facts (AllI os) (by simp)
            have h2 : Stable _ _ (LtF r) := S.wd.facts (LtF r) (by simp)
            replace S := S.add (AllI.snoc h1 h2)
            exact ⟨p3, c3, r, S.uu, hr, S.sub _ _⟩
    · refine sn S ?_; clear S; intro b11 a w S
      refine te S ?_
      refine tb2 ?_ ?_
      · refine sq S ?_; clear S; intro a S
        refine te S ?_
        refine tq S ?_; clear S; intro a S
        refine tl ?_
        refine sc S ?_; clear S; intro a w S
        refine te S ?_
        refine tl ?_
        replace S := S.add (Φ := LtF (textL s)) (fun _ _ => by simp [LtIn, textL, LsIn, LtF])
        refine sr S (pair_c (textL s) t _ w (foots_lt S) (S.t _) (S.t t)) ?_; clear S; rintro _ a w ⟨r, rfl, hr, hrf⟩ S
        replace S := S.add hrf
        refine te S ?_
        refine tl ?_
        refine sap S (by simp [maxLen]; omega) (by omega) ?_; clear S; rintro p3 c3 a w - S
        refine te S ?_
        refine tb2 ?_ ?_
        · have hKL : KLt os.length (os.length + 1) := ⟨by omega⟩
          refine sq S ?_; clear S; intro a S
          refine te S ?_
          refine tb2 ?_ ?_
          · refine sws S (os.length + 1) (by omega) (by omega) ?_; clear S; intro a w S
            refine te S ?_
            refine tl ?_
            refine sw S ?_; clear S; intro a w S
            refine te S ?_
            refine tn ?_
            have e := own_put (A := encL os) (Z := [.int .i64 0, .int .i64 0, .int .i64 0, .string ⟨#[]⟩, .slice none 0 0]) (vs := r.cells) _ _ (show (encL os).length = os.length * 5 from encL_len os) rfl rfl
            rw [e, ← encT_cells, ← encL_append] at S
            have h1 : Stable _ _ (AllI os) := S.wd.facts (AllI os) (by simp)
            have h2 : Stable _ _ (LtF r) := S.wd.facts (LtF r) (by simp)
            replace S := S.add (AllI.snoc h1 h2)
            exact ⟨p3, c3, r, S.uu, hr, S.sub _ _⟩
          · refine sw S ?_; clear S; intro a w S
            refine te S ?_
            refine tl ?_
            refine sws S (os.length + 1) (by omega) (by omega) ?_; clear S; intro a w S
            refine te S ?_
            refine tn ?_
            have e := own_put (A := encL os) (Z := [.int .i64 0, .int .i64 0, .int .i64 0, .string ⟨#[]⟩, .slice none 0 0]) (vs := r.cells) _ _ (show (encL os).length = os.length * 5 from encL_len os) rfl rfl
            rw [e, ← encT_cells, ← encL_append] at S
            have h1 : Stable _ _ (AllI os) := S.wd.facts (AllI os) (by simp)
            have h2 : Stable _ _ (LtF r) := S.wd.facts (LtF r) (by simp)
            replace S := S.add (AllI.snoc h1 h2)
            exact ⟨p3, c3, r, S.uu, hr, S.sub _ _⟩
        · refine sw S ?_; clear S; intro a w S
          refine te S ?_
          refine tl ?_
          have hKL : KLt os.length (os.length + 1) := ⟨by omega⟩
          refine sq S ?_; clear S; intro a S
          refine te S ?_
          refine tl ?_
          refine sws S (os.length + 1) (by omega) (by omega) ?_; clear S; intro a w S
          refine te S ?_
          refine tn ?_
          have e := own_put (A := encL os) (Z := [.int .i64 0, .int .i64 0, .int .i64 0, .string ⟨#[]⟩, .slice none 0 0]) (vs := r.cells) _ _ (show (encL os).length = os.length * 5 from encL_len os) rfl rfl
          rw [e, ← encT_cells, ← encL_append] at S
          have h1 : Stable _ _ (AllI os) := S.wd.facts (AllI os) (by simp)
          have h2 : Stable _ _ (LtF r) := S.wd.facts (LtF r) (by simp)
          replace S := S.add (AllI.snoc h1 h2)
          exact ⟨p3, c3, r, S.uu, hr, S.sub _ _⟩
      · refine sc S ?_; clear S; intro a w S
        refine te S ?_
        refine tb2 ?_ ?_
        · refine sq S ?_; clear S; intro a S
          refine te S ?_
          refine tq S ?_; clear S; intro a S
          refine tl ?_
          replace S := S.add (Φ := LtF (textL s)) (fun _ _ => by simp [LtIn, textL, LsIn, LtF])
          refine sr S (pair_c (textL s) t _ w (foots_lt S) (S.t _) (S.t t)) ?_; clear S; rintro _ a w ⟨r, rfl, hr, hrf⟩ S
          replace S := S.add hrf
          refine te S ?_
          refine tl ?_
          refine sap S (by simp [maxLen]; omega) (by omega) ?_; clear S; rintro p3 c3 a w - S
          refine te S ?_
          refine tb2 ?_ ?_
          · have hKL : KLt os.length (os.length + 1) := ⟨by omega⟩
            refine sq S ?_; clear S; intro a S
            refine te S ?_
            refine tb2 ?_ ?_
            · refine sws S (os.length + 1) (by omega) (by omega) ?_; clear S; intro a w S
              refine te S ?_
              refine tl ?_
              refine sw S ?_; clear S; intro a w S
              refine te S ?_
              refine tn ?_
              have e := own_put (A := encL os) (Z := [.int .i64 0, .int .i64 0, .int .i64 0, .string ⟨#[]⟩, .slice none 0 0]) (vs := r.cells) _ _ (show (encL os).length = os.length * 5 from encL_len os) rfl rfl
              rw [e, ← encT_cells, ← encL_append] at S
              have h1 : Stable _ _ (AllI os) := S.wd.facts (AllI os) (by simp)
              have h2 : Stable _ _ (LtF r) := S.wd.facts (LtF r) (by simp)
              replace S := S.add (AllI.snoc h1 h2)
              exact ⟨p3, c3, r, S.uu, hr, S.sub _ _⟩
            · refine sw S ?_; clear S; intro a w S
              refine te S ?_
              refine tl ?_
              refine sws S (os.length + 1) (by omega) (by omega) ?_; clear S; intro a w S
              refine te S ?_
              refine tn ?_
              have e := own_put (A := encL os) (Z := [.int .i64 0, .int .i64 0, .int .i64 0, .string ⟨#[]⟩, .slice none 0 0]) (vs := r.cells) _ _ (show (encL os).length = os.length * 5 from encL_len os) rfl rfl
              rw [e, ← encT_cells, ← encL_append] at S
              have h1 : Stable _ _ (AllI os) := S.wd.facts (AllI os) (by simp)
              have h2 : Stable _ _ (LtF r) := S.wd.facts (LtF r) (by simp)
              replace S := S.add (AllI.snoc h1 h2)
              exact ⟨p3, c3, r, S.uu, hr, S.sub _ _⟩
          · refine sw S ?_; clear S; intro a w S
            refine te S ?_
            refine tl ?_
            have hKL : KLt os.length (os.length + 1) := ⟨by omega⟩
            refine sq S ?_; clear S; intro a S
            refine te S ?_
            refine tl ?_
            refine sws S (os.length + 1) (by omega) (by omega) ?_; clear S; intro a w S
            refine te S ?_
            refine tn ?_
            have e := own_put (A := encL os) (Z := [.int .i64 0, .int .i64 0, .int .i64 0, .string ⟨#[]⟩, .slice none 0 0]) (vs := r.cells) _ _ (show (encL os).length = os.length * 5 from encL_len os) rfl rfl
            rw [e, ← encT_cells, ← encL_append] at S
            have h1 : Stable _ _ (AllI os) := S.wd.facts (AllI os) (by simp)
            have h2 : Stable _ _ (LtF r) := S.wd.facts (LtF r) (by simp)
            replace S := S.add (AllI.snoc h1 h2)
            exact ⟨p3, c3, r, S.uu, hr, S.sub _ _⟩
        · replace S := S.add (Φ := LtF (textL s)) (fun _ _ => by simp [LtIn, textL, LsIn, LtF])
          refine sr S (pair_c (textL s) t _ w (foots_lt S) (S.t _) (S.t t)) ?_; clear S; rintro _ a w ⟨r, rfl, hr, hrf⟩ S
          replace S := S.add hrf
          refine te S ?_
          refine tl ?_
          refine sq S ?_; clear S; intro a S
          refine te S ?_
          refine tq S ?_; clear S; intro a S
          refine tl ?_
          refine sap S (by simp [maxLen]; omega) (by omega) ?_; clear S; rintro p3 c3 a w - S
          refine te S ?_
          refine tb2 ?_ ?_
          · have hKL : KLt os.length (os.length + 1) := ⟨by omega⟩
            refine sq S ?_; clear S; intro a S
            refine te S ?_
            refine tb2 ?_ ?_
            · refine sws S (os.length + 1) (by omega) (by omega) ?_; clear S; intro a w S
              refine te S ?_
              refine tl ?_
              refine sw S ?_; clear S; intro a w S
              refine te S ?_
              refine tn ?_
              have e := own_put (A := encL os) (Z := [.int .i64 0, .int .i64 0, .int .i64 0, .string ⟨#[]⟩, .slice none 0 0]) (vs := r.cells) _ _ (show (encL os).length = os.length * 5 from encL_len os) rfl rfl
              rw [e, ← encT_cells, ← encL_append] at S
              have h1 : Stable _ _ (AllI os) := S.wd.facts (AllI os) (by simp)
              have h2 : Stable _ _ (LtF r) := S.wd.facts (LtF r) (by simp)
              replace S := S.add (AllI.snoc h1 h2)
              exact ⟨p3, c3, r, S.uu, hr, S.sub _ _⟩
            · refine sw S ?_; clear S; intro a w S
              refine te S ?_
              refine tl ?_
              refine sws S (os.length + 1) (by omega) (by omega) ?_; clear S; intro a w S
              refine te S ?_
              refine tn ?_
              have e := own_put (A := encL os) (Z := [.int .i64 0, .int .i64 0, .int .i64 0, .string ⟨#[]⟩, .slice none 0 0]) (vs := r.cells) _ _ (show (encL os).length = os.length * 5 from encL_len os) rfl rfl
              rw [e, ← encT_cells, ← encL_append] at S
              have h1 : Stable _ _ (AllI os) := S.wd.facts (AllI os) (by simp)
              have h2 : Stable _ _ (LtF r) := S.wd.facts (LtF r) (by simp)
              replace S := S.add (AllI.snoc h1 h2)
              exact ⟨p3, c3, r, S.uu, hr, S.sub _ _⟩
          · refine sw S ?_; clear S; intro a w S
            refine te S ?_
            refine tl ?_
            have hKL : KLt os.length (os.length + 1) := ⟨by omega⟩
            refine sq S ?_; clear S; intro a S
            refine te S ?_
            refine tl ?_
            refine sws S (os.length + 1) (by omega) (by omega) ?_; clear S; intro a w S
            refine te S ?_
            refine tn ?_
            have e := own_put (A := encL os) (Z := [.int .i64 0, .int .i64 0, .int .i64 0, .string ⟨#[]⟩, .slice none 0 0]) (vs := r.cells) _ _ (show (encL os).length = os.length * 5 from encL_len os) rfl rfl
            rw [e, ← encT_cells, ← encL_append] at S
            have h1 : Stable _ _ (AllI os) := S.wd.facts (AllI os) (by simp)
            have h2 : Stable _ _ (LtF r) := S.wd.facts (LtF r) (by simp)
            replace S := S.add (AllI.snoc h1 h2)
            exact ⟨p3, c3, r, S.uu, hr, S.sub _ _⟩
  clear S; rintro p' c' r uu a w hr S
  have hf := S.wd.facts (AllI (os ++ [r])) (by simp)
  have hn8 := S.itNew (Wk.box b9 23 [.slice p' (os.length + 1) c'])
  have hnr := S.itNew (Wk.row 35 5 p' (os.length + 1) c' (encL (os ++ [r])))
  have hb := (S.toBoth).it (both (Wk.box b9 23 [.slice p' (os.length + 1) c']) (Wk.row 35 5 p' (os.length + 1) c' (encL (os ++ [r]))))
  rw [show os.length + 1 = (os ++ [r]).length from by simp] at hb hnr hn8 hf
  refine end0 S (fun _ => ⟨rfl, p', c', r, hr, hb, fun k hk => hk.elim (hn8 k) (hnr k), hf.less fun k _ hk => ?_⟩)
  rcases hk with (hk | hk) | hk
  · exact ⟨_, by simp, hk⟩
  · exact ⟨_, List.mem_cons_of_mem _ (List.mem_cons_self ..), hk⟩
  · exact ⟨ext Mr, by simp, hk⟩
end Go.Proofs.Ytgielmldblopeaa
