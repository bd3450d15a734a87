/- Package attack: Leaks, Own, Corrupt. -/
import Derived.Test.YtgielmldblopeaaAttackC
namespace Go.Proofs.Ytgielmldblopeaa
open Go Go.Wk
set_option synthInstance.maxSize 100000
set_option synthInstance.maxHeartbeats 400000
set_option maxRecDepth 100000

def AllO (B : Nat) (L : List LTerm) : World → Prop := fun w => ∀ x ∈ L, OwF B x w
theorem AllO.stable {M : Nat → Prop} {w : World} {B : Nat} {L : List LTerm} (h : ∀ x ∈ L, Stable M w (OwF B x)) : Stable M w (AllO B L) := fun w' hw x hx => h x hx w' hw
theorem AllO.snoc {M : Nat → Prop} {w : World} {B : Nat} {L : List LTerm} {r : LTerm} (h : Stable M w (AllO B L)) (hr : Stable M w (OwF B r)) : Stable M w (AllO B (L ++ [r])) := fun w' hw x hx => by
  rcases List.mem_append.1 hx with hx | hx
  · exact h w' hw x hx
  · rw [List.mem_singleton.1 hx]; exact hr w' hw
theorem OwF.mono {B B' : Nat} (h : B ≤ B') {x : LTerm} {w : World} (hx : OwF B' x w) : OwF B x w := ⟨hx.1, hx.2.1, fun ad ha => Nat.le_trans h (hx.2.2 ad ha)⟩
abbrev bA (b : Nat) (pu : Option Addr) (nu cu : Nat) (pk : Option Addr) (nk ck : Nat) : Wk.Item := Wk.box b 25 [.slice pu nu cu, .slice pk nk ck]
abbrev outI (b8 : Nat) (p : Option Addr) (c : Nat) (os : List LTerm) : Wk.Item := both (Wk.box b8 23 [.slice p os.length c]) (Wk.row 35 5 p os.length c (encL os))
theorem leaks1_c (B b2 b8 : Nat) (ks os : List LTerm) (t : LTerm) (pu pk p : Option Addr) (nu cu ck c : Nat) (Mr : Nat → Prop) (w0 : World) (hB : B ≤ w0.heap.size) (hol : os.length ≤ 1000) (hkl : ks.length ≤ 500) (hG : ∀ t ∈ ks.map LTerm.t, Good t) (hgt : Good t.t)
    (hout : (outI b8 p c os).holds w0) (hMr : ∀ k, Mr k → k < w0.heap.size ∧ ¬ (outI b8 p c os).foot k)
    (hA : Stable (fun k => (outI b8 p c os).foot k ∨ Mr k) w0 (BoxF b2 25 [.slice pu nu cu, .slice pk ks.length ck])) (hk : Stable (fun k => (outI b8 p c os).foot k ∨ Mr k) w0 (LsF pk 0 ks)) (ht : Stable (fun k => (outI b8 p c os).foot k ∨ Mr k) w0 (LtF t)) (ho : Stable (fun k => (outI b8 p c os).foot k ∨ Mr k) w0 (AllO B os)) :
    Ret Try.prog 46 [vL t, .pointer (some ⟨b2, 0, none⟩), .pointer (some ⟨b8, 0, none⟩)] w0 (outI b8 p c os).foot fun v w' => v = .tuple #[] ∧ ∃ (p' : Option Addr) (c' : Nat) (os' : List LTerm), os'.length ≤ os.length + 1 ∧ os'.map LTerm.t = os.map LTerm.t ++ (if derB (ks.map LTerm.t) t.t then [t.t] else []) ∧ (outI b8 p' c' os').holds w' ∧
      (∀ k, (outI b8 p' c' os').foot k → (outI b8 p c os).foot k ∨ w0.heap.size ≤ k) ∧ Stable (fun k => (outI b8 p' c' os').foot k ∨ Mr k) w' (AllO B os') := by
  have hz := can_der0 (K := ks.map LTerm.t) (t := t.t) (by simpa using hkl) hG hgt
  have hF : ∀ Φ ∈ [BoxF b2 25 [.slice pu nu cu, .slice pk ks.length ck], LsF pk 0 ks, LtF t, AllO B os], Stable (fun k => (outI b8 p c os).foot k ∨ Mr k) w0 Φ := by simp; exact ⟨hA, hk, ht, ho⟩
  refine enter Try.func46 rfl rfl (Wd.it2LentM (fs := [BoxF b2 25 [.slice pu nu cu, .slice pk ks.length ck], LsF pk 0 ks, LtF t, AllO B os]) hout rfl rfl hMr hF) (fun a S => ?_)
  simp only [Try.ntmps46, List.length_cons, List.length_nil, Nat.reduceAdd, Nat.reduceSub, List.replicate_succ, List.replicate_zero, List.cons_append, List.nil_append] at S
  refine c_seq ?_
  refine c_region ?_
  refine sa S ?_; clear S; intro b3 a w S
  refine wl_nil ?_
  refine xtn ?_
  refine c_seq ?_
  refine c_region ?_
  iterate 3 (refine sq S ?_; clear S; intro a S)
  refine sr S (can_cl ks t pk ck _ (S.mem.fact0 (LsF pk 0 ks)) (S.mem.t0 t)) ?_; clear S; rintro _ a w rfl S
  rw [hz.1, hz.2] at S
  iterate 5 (refine sq S ?_; clear S; intro a S)
  refine wl_nil ?_
  refine xtn ?_
  refine c_seq ?_
  refine c_region ?_
  iterate 3 (refine sq S ?_; clear S; intro a S)
  refine gQ S ?_; clear S; intro a S
  refine sq S ?_; clear S; intro a S
  refine wl_nil ?_
  refine xtn ?_
  refine c_cond S (fun h2 => ?_) (fun h2 => ?_)
  · refine c_drwe3 (.q 1 (.b3 0 2 4 (.q 3 (.b2 2 4 (.l 4 (.l 5 (.b2 6 8 (.b2 7 8 (.l 8 (.e)) (.l 7 (.e))) (.l 6 (.l 7 (.e)))))) (.l 2 (.l 5 (.b2 6 8 (.b2 7 8 (.l 8 (.e)) (.l 7 (.e))) (.l 6 (.l 7 (.e)))))))) (.b2 0 4 (.q 3 (.l 4 (.l 5 (.b2 6 8 (.b2 7 8 (.l 8 (.e)) (.l 7 (.e))) (.l 6 (.l 7 (.e))))))) (.l 0 (.q 3 (.l 5 (.b2 6 8 (.b2 7 8 (.l 8 (.e)) (.l 7 (.e))) (.l 6 (.l 7 (.e)))))))) (.b2 0 2 (.q 3 (.l 2 (.l 5 (.b2 6 8 (.b2 7 8 (.l 8 (.e)) (.l 7 (.e))) (.l 6 (.l 7 (.e))))))) (.l 0 (.q 3 (.l 5 (.b2 6 8 (.b2 7 8 (.l 8 (.e)) (.l 7 (.e))) (.l 6 (.l 7 (.e)))))))))) S (fun (p' : Option Addr) (c' : Nat) (r : LTerm) uu => [(18, uu 18), (0, uu 19), (0, uu 20), (0, uu 21), (0, uu 22), (0, uu 23), (0, uu 24)]) [Wk.box b3 35 t.cells, ext Mr] (fun (p' : Option Addr) (c' : Nat) (r : LTerm) => [Wk.box b8 23 [.slice p' (os.length + 1) c'], Wk.row 35 5 p' (os.length + 1) c' (encL (os ++ [r])), ext Mr]) (fun (p' : Option Addr) (c' : Nat) (r : LTerm) => [AllO B (os ++ [r])]) (fun (p' : Option Addr) (c' : Nat) (r : LTerm) => r.t = t.t) ?_ ?_
    · intro w S
      refine tq S ?_; clear S; intro a S
      refine tb3 ?_ ?_ ?_
      · refine sq S ?_; clear S; intro a S
        refine te S ?_
        refine tq S ?_; clear S; intro a S
        refine tb2 ?_ ?_
        · have hsz := S.wd.agree.size
          refine sr S (copiedo_c t _ w (good_le hgt) (foots_lt S) (S.t t)) ?_; clear S; rintro _ a w ⟨r, rfl, hr, hrf⟩ S
          replace S := S.add (Φ := OwF B r) (hrf.imp fun _ h => h.mono (B := B) (Nat.le_trans hB hsz))
          refine te S ?_
          refine tl ?_
          refine sn S ?_; clear S; intro b22 a w S
          refine te S ?_
          refine tl ?_
          refine sap S (by simp [maxLen]; omega) (by omega) ?_; clear S; rintro p3 c3 a w - S
          refine te S ?_
          refine tb2 ?_ ?_
          · have hKL : KLt os.length (os.length + 1) := ⟨by omega⟩
            refine sq S ?_; clear S; intro a S
            refine te S ?_
            refine tb2 ?_ ?_
            · refine sws S (os.length + 1) (by omega) (by omega) ?_; clear S; intro a w S
              refine te S ?_
              refine tl ?_
              refine sw S ?_; clear S; intro a w S
              refine te S ?_
              refine tn ?_
              have e := own_put (A := encL os) (Z := [.int .i64 0, .int .i64 0, .int .i64 0, .string ⟨#[]⟩, .slice none 0 0]) (vs := r.cells) _ _ (show (encL os).length = os.length * 5 from encL_len os) rfl rfl
              rw [e, ← encT_cells, ← encL_append] at S
              have h1 : Stable _ _ (AllO B os) := S.wd.facts (AllO B os) (by simp)
              have h2 : Stable _ _ (OwF B r) := S.wd.facts (OwF B r) (by simp)
              replace S := S.add (AllO.snoc h1 h2)
              exact ⟨p3, c3, r, S.uu, hr, S.sub _ _⟩
            · refine sw S ?_; clear S; intro a w S
              refine te S ?_
              refine tl ?_
              refine sws S (os.length + 1) (by omega) (by omega) ?_; clear S; intro a w S
              refine te S ?_
              refine tn ?_
              have e := own_put (A := encL os) (Z := [.int .i64 0, .int .i64 0, .int .i64 0, .string ⟨#[]⟩, .slice none 0 0]) (vs := r.cells) _ _ (show (encL os).length = os.length * 5 from encL_len os) rfl rfl
              rw [e, ← encT_cells, ← encL_append] at S
              have h1 : Stable _ _ (AllO B os) := S.wd.facts (AllO B os) (by simp)
              have h2 : Stable _ _ (OwF B r) := S.wd.facts (OwF B r) (by simp)
              replace S := S.add (AllO.snoc h1 h2)
              exact ⟨p3, c3, r, S.uu, hr, S.sub _ _⟩
          · refine sw S ?_; clear S; intro a w S
            refine te S ?_
            refine tl ?_
            have hKL : KLt os.length (os.length + 1) := ⟨by omega⟩
            refine sq S ?_; clear S; intro a S
            refine te S ?_
            refine tl ?_
            refine sws S (os.length + 1) (by omega) (by omega) ?_; clear S; intro a w S
            refine te S ?_
            refine tn ?_
            have e := own_put (A := encL os) (Z := [.int .i64 0, .int .i64 0, .int .i64 0, .string ⟨#[]⟩, .slice none 0 0]) (vs := r.cells) _ _ (show (encL os).length = os.length * 5 from encL_len os) rfl rfl
            rw [e, ← encT_cells, ← encL_append] at S
            have h1 : Stable _ _ (AllO B os) := S.wd.facts (AllO B os) (by simp)
            have h2 : Stable _ _ (OwF B r) := S.wd.facts (OwF B r) (by simp)
            replace S := S.add (AllO.snoc h1 h2)
            exact ⟨p3, c3, r, S.uu, hr, S.sub _ _⟩
        · refine sn S ?_; clear S; intro b22 a w S
          refine te S ?_
          refine tl ?_
          have hsz := S.wd.agree.size
          refine sr S (copiedo_c t _ w (good_le hgt) (foots_lt S) (S.t t)) ?_; clear S; rintro _ a w ⟨r, rfl, hr, hrf⟩ S
          replace S := S.add (Φ := OwF B r) (hrf.imp fun _ h => h.mono (B := B) (Nat.le_trans hB hsz))
          refine te S ?_
          refine tl ?_
          refine sap S (by simp [maxLen]; omega) (by omega) ?_; clear S; rintro p3 c3 a w - S
          refine te S ?_
          refine tb2 ?_ ?_
          · have hKL : KLt os.length (os.length + 1) := ⟨by omega⟩
            refine sq S ?_; clear S; intro a S
            refine te S ?_
            refine tb2 ?_ ?_
            · refine sws S (os.length + 1) (by omega) (by omega) ?_; clear S; intro a w S
              refine te S ?_
              refine tl ?_
              refine sw S ?_; clear S; intro a w S
              refine te S ?_
              refine tn ?_
              have e := own_put (A := encL os) (Z := [.int .i64 0, .int .i64 0, .int .i64 0, .string ⟨#[]⟩, .slice none 0 0]) (vs := r.cells) _ _ (show (encL os).length = os.length * 5 from encL_len os) rfl rfl
              rw [e, ← encT_cells, ← encL_append] at S
              have h1 : Stable _ _ (AllO B os) := S.wd.facts (AllO B os) (by simp)
              have h2 : Stable _ _ (OwF B r) := S.wd.facts (OwF B r) (by simp)
              replace S := S.add (AllO.snoc h1 h2)
              exact ⟨p3, c3, r, S.uu, hr, S.sub _ _⟩
            · refine sw S ?_; clear S; intro a w S
              refine te S ?_
              refine tl ?_
              refine sws S (os.length + 1) (by omega) (by omega) ?_; clear S; intro a w S
              refine te S ?_
              refine tn ?_
              have e := own_put (A := encL os) (Z := [.int .i64 0, .int .i64 0, .int .i64 0, .string ⟨#[]⟩, .slice none 0 0]) (vs := r.cells) _ _ (show (encL os).length = os.length * 5 from encL_len os) rfl rfl
              rw [e, ← encT_cells, ← encL_append] at S
              have h1 : Stable _ _ (AllO B os) := S.wd.facts (AllO B os) (by simp)
              have h2 : Stable _ _ (OwF B r) := S.wd.facts (OwF B r) (by simp)
              replace S := S.add (AllO.snoc h1 h2)
              exact ⟨p3, c3, r, S.uu, hr, S.sub _ _⟩
          · refine sw S ?_; clear S; intro a w S
            refine te S ?_
            refine tl ?_
            have hKL : KLt os.length (os.length + 1) := ⟨by omega⟩
            refine sq S ?_; clear S; intro a S
            refine te S ?_
            refine tl ?_
            refine sws S (os.length + 1) (by omega) (by omega) ?_; clear S; intro a w S
            refine te S ?_
            refine tn ?_
            have e := own_put (A := encL os) (Z := [.int .i64 0, .int .i64 0, .int .i64 0, .string ⟨#[]⟩, .slice none 0 0]) (vs := r.cells) _ _ (show (encL os).length = os.length * 5 from encL_len os) rfl rfl
            rw [e, ← encT_cells, ← encL_append] at S
            have h1 : Stable _ _ (AllO B os) := S.wd.facts (AllO B os) (by simp)
            have h2 : Stable _ _ (OwF B r) := S.wd.facts (OwF B r) (by simp)
            replace S := S.add (AllO.snoc h1 h2)
            exact ⟨p3, c3, r, S.uu, hr, S.sub _ _⟩
      · have hsz := S.wd.agree.size
        refine sr S (copiedo_c t _ w (good_le hgt) (foots_lt S) (S.t t)) ?_; clear S; rintro _ a w ⟨r, rfl, hr, hrf⟩ S
        replace S := S.add (Φ := OwF B r) (hrf.imp fun _ h => h.mono (B := B) (Nat.le_trans hB hsz))
        refine te S ?_
        refine tb2 ?_ ?_
        · refine sq S ?_; clear S; intro a S
          refine te S ?_
          refine tq S ?_; clear S; intro a S
          refine tl ?_
          refine sn S ?_; clear S; intro b22 a w S
          refine te S ?_
          refine tl ?_
          refine sap S (by simp [maxLen]; omega) (by omega) ?_; clear S; rintro p3 c3 a w - S
          refine te S ?_
          refine tb2 ?_ ?_
          · have hKL : KLt os.length (os.length + 1) := ⟨by omega⟩
            refine sq S ?_; clear S; intro a S
            refine te S ?_
            refine tb2 ?_ ?_
            · refine sws S (os.length + 1) (by omega) (by omega) ?_; clear S; intro a w S
              refine te S ?_
              refine tl ?_
              refine sw S ?_; clear S; intro a w S
              refine te S ?_
              refine tn ?_
              have e := own_put (A := encL os) (Z := [.int .i64 0, .int .i64 0, .int .i64 0, .string ⟨#[]⟩, .slice none 0 0]) (vs := r.cells) _ _ (show (encL os).length = os.length * 5 from encL_len os) rfl rfl
              rw [e, ← encT_cells, ← encL_append] at S
              have h1 : Stable _ _ (AllO B os) := S.wd.facts (AllO B os) (by simp)
              have h2 : Stable _ _ (OwF B r) := S.wd.facts (OwF B r) (by simp)
              replace S := S.add (AllO.snoc h1 h2)
              exact ⟨p3, c3, r, S.uu, hr, S.sub _ _⟩
            · refine sw S ?_; clear S; intro a w S
              refine te S ?_
              refine tl ?_
              refine sws S (os.length + 1) (by omega) (by omega) ?_; clear S; intro a w S
              refine te S ?_
              refine tn ?_
              have e := own_put (A := encL os) (Z := [.int .i64 0, .int .i64 0, .int .i64 0, .string ⟨#[]⟩, .slice none 0 0]) (vs := r.cells) _ _ (show (encL os).length = os.length * 5 from encL_len os) rfl rfl
              rw [e, ← encT_cells, ← encL_append] at S
              have h1 : Stable _ _ (AllO B os) := S.wd.facts (AllO B os) (by simp)
              have h2 : Stable _ _ (OwF B r) := S.wd.facts (OwF B r) (by simp)
              replace S := S.add (AllO.snoc h1 h2)
              exact ⟨p3, c3, r, S.uu, hr, S.sub _ _⟩
          · refine sw S ?_; clear S; intro a w S
            refine te S ?_
            refine tl ?_
            have hKL : KLt os.length (os.length + 1) := ⟨by omega⟩
            refine sq S ?_; clear S; intro a S
            refine te S ?_
            refine tl ?_
            refine sws S (os.length + 1) (by omega) (by omega) ?_; clear S; intro a w S
            refine te S ?_
            refine tn ?_
            have e := own_put (A := encL os) (Z := [.int .i64 0, .int .i64 0, .int .i64 0, .string ⟨#[]⟩, .slice none 0 0]) (vs := r.cells) _ _ (show (encL os).length = os.length * 5 from encL_len os) rfl rfl
            rw [e, ← encT_cells, ← encL_append] at S
            have h1 : Stable _ _ (AllO B os) := S.wd.facts (AllO B os) (by simp)
            have h2 : Stable _ _ (OwF B r) := S.wd.facts (OwF B r) (by simp)
            replace S := S.add (AllO.snoc h1 h2)
            exact ⟨p3, c3, r, S.uu, hr, S.sub _ _⟩
        · refine sn S ?_; clear S; intro b22 a w S
          refine te S ?_
          refine tl ?_
          refine sq S ?_; clear S; intro a S
          refine te S ?_
          refine tq S ?_; clear S; intro a S
          refine tl ?_
          refine sap S (by simp [maxLen]; omega) (by omega) ?_; clear S; rintro p3 c3 a w - S
          refine te S ?_
          refine tb2 ?_ ?_
          · have hKL : KLt os.length (os.length + 1) := ⟨by omega⟩
            refine sq S ?_; clear S; intro a S
            refine te S ?_
            refine tb2 ?_ ?_
            · refine sws S (os.length + 1) (by omega) (by omega) ?_; clear S; intro a w S
              refine te S ?_
              refine tl ?_
              refine sw S ?_; clear S; intro a w S
              refine te S ?_
              refine tn ?_
              have e := own_put (A := encL os) (Z := [.int .i64 0, .int .i64 0, .int .i64 0, .string ⟨#[]⟩, .slice none 0 0]) (vs := r.cells) _ _ (show (encL os).length = os.length * 5 from encL_len os) rfl rfl
              rw [e, ← encT_cells, ← encL_append] at S
              have h1 : Stable _ _ (AllO B os) := S.wd.facts (AllO B os) (by simp)
              have h2 : Stable _ _ (OwF B r) := S.wd.facts (OwF B r) (by simp)
              replace S := S.add (AllO.snoc h1 h2)
              exact ⟨p3, c3, r, S.uu, hr, S.sub _ _⟩
            · refine sw S ?_; clear S; intro a w S
              refine te S ?_
              refine tl ?_
              refine sws S (os.length + 1) (by omega) (by omega) ?_; clear S; intro a w S
              refine te S ?_
              refine tn ?_
              have e := own_put (A := encL os) (Z := [.int .i64 0, .int .i64 0, .int .i64 0, .string ⟨#[]⟩, .slice none 0 0]) (vs := r.cells) _ _ (show (encL os).length = os.length * 5 from encL_len os) rfl rfl
              rw [e, ← encT_cells, ← encL_append] at S
              have h1 : Stable _ _ (AllO B os) := S.wd.facts (AllO B os) (by simp)
              have h2 : Stable _ _ (OwF B r) := S.wd.facts (OwF B r) (by simp)
              replace S := S.add (AllO.snoc h1 h2)
              exact ⟨p3, c3, r, S.uu, hr, S.sub _ _⟩
          · refine sw S ?_; clear S; intro a w S
            refine te S ?_
            refine tl ?_
            have hKL : KLt os.length (os.length + 1) := ⟨by omega⟩
            refine sq S ?_; clear S; intro a S
            refine te S ?_
            refine tl ?_
            refine sws S (os.length + 1) (by omega) (by omega) ?_; clear S; intro a w S
            refine te S ?_
            refine tn ?_
            have e := own_put (A := encL os) (Z := [.int .i64 0, .int .i64 0, .int .i64 0, .string ⟨#[]⟩, .slice none 0 0]) (vs := r.cells) _ _ (show (encL os).length = os.length * 5 from encL_len os) rfl rfl
            rw [e, ← encT_cells, ← encL_append] at S
            have h1 : Stable _ _ (AllO B os) := S.wd.facts (AllO B os) (by simp)
            have h2 : Stable _ _ (OwF B r) := S.wd.facts (OwF B r) (by simp)
            replace S := S.add (AllO.snoc h1 h2)
            exact ⟨p3, c3, r, S.uu, hr, S.sub _ _⟩
      · refine sn S ?_; clear S; intro b22 a w S
        refine te S ?_
        refine tb2 ?_ ?_
        · refine sq S ?_; clear S; intro a S
          refine te S ?_
          refine tq S ?_; clear S; intro a S
          refine tl ?_
          have hsz := S.wd.agree.size
          refine sr S (copiedo_c t _ w (good_le hgt) (foots_lt S) (S.t t)) ?_; clear S; rintro _ a w ⟨r, rfl, hr, hrf⟩ S
          replace S := S.add (Φ := OwF B r) (hrf.imp fun _ h => h.mono (B := B) (Nat.le_trans hB hsz))
          refine te S ?_
          refine tl ?_
          refine sap S (by simp [maxLen]; omega) (by omega) ?_; clear S; rintro p3 c3 a w - S
          refine te S ?_
          refine tb2 ?_ ?_
          · have hKL : KLt os.length (os.length + 1) := ⟨by omega⟩
            refine sq S ?_; clear S; intro a S
            refine te S ?_
            refine tb2 ?_ ?_
            · refine sws S (os.length + 1) (by omega) (by omega) ?_; clear S; intro a w S
              refine te S ?_
              refine tl ?_
              refine sw S ?_; clear S; intro a w S
              refine te S ?_
              refine tn ?_
              have e := own_put (A := encL os) (Z := [.int .i64 0, .int .i64 0, .int .i64 0, .string ⟨#[]⟩, .slice none 0 0]) (vs := r.cells) _ _ (show (encL os).length = os.length * 5 from encL_len os) rfl rfl
              rw [e, ← encT_cells, ← encL_append] at S
              have h1 : Stable _ _ (AllO B os) := S.wd.facts (AllO B os) (by simp)
              have h2 : Stable _ _ (OwF B r) := S.wd.facts (OwF B r) (by simp)
              replace S := S.add (AllO.snoc h1 h2)
              exact ⟨p3, c3, r, S.uu, hr, S.sub _ _⟩
            · refine sw S ?_; clear S; intro a w S
              refine te S ?_
              refine tl ?_
              refine sws S (os.length + 1) (by omega) (by omega) ?_; clear S; intro a w S
              refine te S ?_
              refine tn ?_
              have e := own_put (A := encL os) (Z := [.int .i64 0, .int .i64 0, .int .i64 0, .string ⟨#[]⟩, .slice none 0 0]) (vs := r.cells) _ _ (show (encL os).length = os.length * 5 from encL_len os) rfl rfl
              rw [e, ← encT_cells, ← encL_append] at S
              have h1 : Stable _ _ (AllO B os) := S.wd.facts (AllO B os) (by simp)
              have h2 : Stable _ _ (OwF B r) := S.wd.facts (OwF B r) (by simp)
              replace S := S.add (AllO.snoc h1 h2)
              exact ⟨p3, c3, r, S.uu, hr, S.sub _ _⟩
          · refine sw S ?_; clear S; intro a w S
            refine te S ?_
            refine tl ?_
            have hKL : KLt os.length (os.length + 1) := ⟨by omega⟩
            refine sq S ?_; clear S; intro a S
            refine te S ?_
            refine tl ?_
            refine sws S (os.length + 1) (by omega) (by omega) ?_; clear S; intro a w S
            refine te S ?_
            refine tn ?_
            have e := own_put (A := encL os) (Z := [.int .i64 0, .int .i64 0, .int .i64 0, .string ⟨#[]⟩, .slice none 0 0]) (vs := r.cells) _ _ (show (encL os).length = os.length * 5 from encL_len os) rfl rfl
            rw [e, ← encT_cells, ← encL_append] at S
            have h1 : Stable _ _ (AllO B os) := S.wd.facts (AllO B os) (by simp)
            have h2 : Stable _ _ (OwF B r) := S.wd.facts (OwF B r) (by simp)
            replace S := S.add (AllO.snoc h1 h2)
            exact ⟨p3, c3, r, S.uu, hr, S.sub _ _⟩
        · have hsz := S.wd.agree.size
          refine sr S (copiedo_c t _ w (good_le hgt) (foots_lt S) (S.t t)) ?_; clear S; rintro _ a w ⟨r, rfl, hr, hrf⟩ S
          replace S := S.add (Φ := OwF B r) (hrf.imp fun _ h => h.mono (B := B) (Nat.le_trans hB hsz))
          refine te S ?_
          refine tl ?_
          refine sq S ?_; clear S; intro a S
          refine te S ?_
          refine tq S ?_; clear S; intro a S
          refine tl ?_
          refine sap S (by simp [maxLen]; omega) (by omega) ?_; clear S; rintro p3 c3 a w - S
          refine te S ?_
          refine tb2 ?_ ?_
          · have hKL : KLt os.length (os.length + 1) := ⟨by omega⟩
            refine sq S ?_; clear S; intro a S
            refine te S ?_
            refine tb2 ?_ ?_
            · refine sws S (os.length + 1) (by omega) (by omega) ?_; clear S; intro a w S
              refine te S ?_
              refine tl ?_
              refine sw S ?_; clear S; intro a w S
              refine te S ?_
              refine tn ?_
              have e := own_put (A := encL os) (Z := [.int .i64 0, .int .i64 0, .int .i64 0, .string ⟨#[]⟩, .slice none 0 0]) (vs := r.cells) _ _ (show (encL os).length = os.length * 5 from encL_len os) rfl rfl
              rw [e, ← encT_cells, ← encL_append] at S
              have h1 : Stable _ _ (AllO B os) := S.wd.facts (AllO B os) (by simp)
              have h2 : Stable _ _ (OwF B r) := S.wd.facts (OwF B r) (by simp)
              replace S := S.add (AllO.snoc h1 h2)
              exact ⟨p3, c3, r, S.uu, hr, S.sub _ _⟩
            · refine sw S ?_; clear S; intro a w S
              refine te S ?_
              refine tl ?_
              refine sws S (os.length + 1) (by omega) (by omega) ?_; clear S; intro a w S
              refine te S ?_
              refine tn ?_
              have e := own_put (A := encL os) (Z := [.int .i64 0, .int .i64 0, .int .i64 0, .string ⟨#[]⟩, .slice none 0 0]) (vs := r.cells) _ _ (show (encL os).length = os.length * 5 from encL_len os) rfl rfl
              rw [e, ← encT_cells, ← encL_append] at S
              have h1 : Stable _ _ (AllO B os) := S.wd.facts (AllO B os) (by simp)
              have h2 : Stable _ _ (OwF B r) := S.wd.facts (OwF B r) (by simp)
              replace S := S.add (AllO.snoc h1 h2)
              exact ⟨p3, c3, r, S.uu, hr, S.sub _ _⟩
          · refine sw S ?_; clear S; intro a w S
            refine te S ?_
            refine tl ?_
            have hKL : KLt os.length (os.length + 1) := ⟨by omega⟩
            refine sq S ?_; clear S; intro a S
            refine te S ?_
            refine tl ?_
            refine sws S (os.length + 1) (by omega) (by omega) ?_; clear S; intro a w S
            refine te S ?_
            refine tn ?_
            have e := own_put (A := encL os) (Z := [.int .i64 0, .int .i64 0, .int .i64 0, .string ⟨#[]⟩, .slice none 0 0]) (vs := r.cells) _ _ (show (encL os).length = os.length * 5 from encL_len os) rfl rfl
            rw [e, ← encT_cells, ← encL_append] at S
            have h1 : Stable _ _ (AllO B os) := S.wd.facts (AllO B os) (by simp)
            have h2 : Stable _ _ (OwF B r) := S.wd.facts (OwF B r) (by simp)
            replace S := S.add (AllO.snoc h1 h2)
            exact ⟨p3, c3, r, S.uu, hr, S.sub _ _⟩
    clear S; rintro p' c' r uu a w hr S
    have hd : derB (ks.map LTerm.t) t.t = true := by simpa using h2
    have hf := S.wd.facts (AllO B (os ++ [r])) (by simp)
    have hag := S.wd.agree
    have hn8 := S.itNew (Wk.box b8 23 [.slice p' (os.length + 1) c'])
    have hnr := S.itNew (Wk.row 35 5 p' (os.length + 1) c' (encL (os ++ [r])))
    have hb := (S.toBoth).it (both (Wk.box b8 23 [.slice p' (os.length + 1) c']) (Wk.row 35 5 p' (os.length + 1) c' (encL (os ++ [r]))))
    rw [show os.length + 1 = (os ++ [r]).length from by simp] at hb hnr hn8 hf
    refine end0 S (fun _ => ⟨rfl, p', c', os ++ [r], by simp, by rw [List.map_append, hd, List.map_singleton, hr]; rfl, hb, fun k hk => hk.elim (hn8 k) (hnr k), hf.less fun k _ hk => ?_⟩)
    rcases hk with (hk | hk) | hk
    · exact ⟨_, by simp, hk⟩
    · exact ⟨_, List.mem_cons_of_mem _ (List.mem_cons_self ..), hk⟩
    · exact ⟨ext Mr, by simp, hk⟩
  · refine c_skip ?_
    have hd : derB (ks.map LTerm.t) t.t = false := by simpa using h2
    have hf := S.wd.facts (AllO B os) (by simp)
    have hb := ((S.sub [Wk.box b8 23 [.slice p os.length c], Wk.row 35 5 p os.length c (encL os)] []).toBoth).it (outI b8 p c os)
    refine end0 S (fun _ => ⟨rfl, p, c, os, by omega, by rw [hd]; simp, hb, fun k hk => .inl hk, hf.less fun k _ hk => ?_⟩)
    rcases hk with (hk | hk) | hk
    · exact ⟨Wk.box b8 23 [.slice p os.length c], by simp, hk⟩
    · exact ⟨Wk.row 35 5 p os.length c (encL os), by simp, hk⟩
    · exact ⟨ext Mr, by simp, hk⟩
def LeaksR (B : Nat) (K L : List Term) (us : List Int) (w : World) (v : Value) : Prop := ∃ (e : Int) (p : Option Addr) (c : Nat) (os : List LTerm), v = .tuple ⟨[.slice p os.length c, .int .i64 e]⟩ ∧
  (¬ RightA K us → e = 320 ∧ os = []) ∧ (RightA K us → ¬ (∀ t ∈ L, Good t) → e = 150 ∧ os = []) ∧ (RightA K us → (∀ t ∈ L, Good t) → e = 0 ∧ os.map LTerm.t = L.filter (derB K)) ∧
  w.ownsRow 0 35 5 (.slice p os.length c) os.length (encL os) ∧ (∀ ad, p = some ad → B ≤ ad.block) ∧ AllO B os w
theorem leaks_c (us : List Int) (ks ls : List LTerm) (pu pk pl : Option Addr) (cu ck cl : Nat) (w0 : World) (hul : us.length ≤ 1000000) (hkl0 : ks.length ≤ 1000000) (hll : ls.length ≤ 900) (hu : Stable (fun _ => False) w0 (SlF pu (encL us))) (hk : Stable (fun _ => False) w0 (LsF pk 0 ks)) (hl : Stable (fun _ => False) w0 (LsF pl 0 ls)) :
    Ret Try.prog 16 [vA pu us.length cu pk ks.length ck, .slice pl ls.length cl] w0 (fun _ => False) fun v w' => LeaksR w0.heap.size (ks.map LTerm.t) (ls.map LTerm.t) us w' v := by
  refine enter Try.func16 rfl rfl (Wd.begin (fs := [SlF pu (encL us), LsF pk 0 ks, LsF pl 0 ls]) (by simp; exact ⟨hu, hk, hl⟩)) (fun a S => ?_)
  simp only [Try.ntmps16, List.length_cons, List.length_nil, Nat.reduceAdd, Nat.reduceSub, List.replicate_succ, List.replicate_zero, List.cons_append, List.nil_append] at S
  refine c_seq ?_
  refine c_region ?_
  refine sa S ?_; clear S; intro b2 a w S
  iterate 2 (refine sq S ?_; clear S; intro a S)
  refine wl_nil ?_
  refine xtn ?_
  iterate 2 (refine c_seq ?_)
  refine c_region ?_
  refine sq S ?_; clear S; intro a S
  refine sr S (acheck_c us ks pu pk cu ck _ hul (by omega) (S.mem.fact0 (SlF pu (encL us))) (S.mem.fact0 (LsF pk 0 ks))) ?_; clear S; rintro _ a w rfl S
  refine sq S ?_; clear S; intro a S
  refine wl_nil ?_
  refine xtn ?_
  refine c_seq ?_
  refine c_region ?_
  iterate 2 (refine sq S ?_; clear S; intro a S)
  refine wl_nil ?_
  refine xtn ?_
  refine c_cond S (fun h2 => ?_) (fun h2 => ?_)
  · refine c_seq ?_
    refine c_region ?_
    iterate 3 (refine sq S ?_; clear S; intro a S)
    refine wl_nil ?_
    refine xtn ?_
    refine c_ret ?_
    refine xtr ?_
    have hn : ¬ RightA (ks.map LTerm.t) us := fun h => by rw [chkA_pos h] at h2; simp at h2
    rw [chkA_neg hn] at S
    refine end2 S (fun _ => ?_)
    exact ⟨320, none, 0, [], rfl, fun _ => ⟨rfl, rfl⟩, fun h => absurd h hn, fun h => absurd h hn, World.ownsRow_nil _ _ _ _, nofun, fun x hx => by cases hx⟩
  · refine c_skip ?_
    refine xtn ?_
    iterate 2 (refine c_seq ?_)
    have hR : RightA (ks.map LTerm.t) us := chkA_zero.1 (by simpa using h2)
    refine c_region ?_
    refine sq S ?_; clear S; intro a S
    refine sr S (aright_c ls pl cl w (by omega) (S.mem.fact0 (LsF pl 0 ls))) ?_; clear S; rintro _ a w rfl S
    refine sq S ?_; clear S; intro a S
    refine wl_nil ?_
    refine xtn ?_
    refine c_seq ?_
    refine c_region ?_
    iterate 2 (refine sq S ?_; clear S; intro a S)
    refine wl_nil ?_
    refine xtn ?_
    refine c_cond S (fun h5 => ?_) (fun h5 => ?_)
    · refine c_seq ?_
      refine c_region ?_
      iterate 3 (refine sq S ?_; clear S; intro a S)
      refine wl_nil ?_
      refine xtn ?_
      refine c_ret ?_
      refine xtr ?_
      have hb : (ls.map LTerm.t).any badF = true := by
        cases hq : (ls.map LTerm.t).any badF with
        | true => rfl
        | false => rw [hq] at h5; simp at h5
      rw [if_pos hb] at S
      have hn : ¬ ∀ t ∈ ls.map LTerm.t, Good t := fun h => by rw [any_bad.2 h] at hb; cases hb
      refine end2 S (fun _ => ?_)
      exact ⟨150, none, 0, [], rfl, fun h => absurd hR h, fun _ _ => ⟨rfl, rfl⟩, fun _ h => absurd h hn, World.ownsRow_nil _ _ _ _, nofun, fun x hx => by cases hx⟩
    · refine c_skip ?_
      refine xtn ?_
      refine c_seq ?_
      have hb : (ls.map LTerm.t).any badF = false := by
        cases hq : (ls.map LTerm.t).any badF with
        | false => rfl
        | true => rw [hq] at h5; simp at h5
      have hG := any_bad.1 hb
      have hgK : ∀ t ∈ ks.map LTerm.t, Good t := hR.1.2.1
      have hk500 : ks.length ≤ 500 := by have := hR.1.1; simpa using this
      replace S := S.boxToF b2
      refine c_region ?_
      refine sa S ?_; clear S; intro b8 a w S
      refine wl_nil ?_
      refine xtn ?_
      refine c_seq ?_
      refine c_region ?_
      iterate 2 (refine sq S ?_; clear S; intro a S)
      refine wl_nil ?_
      refine xtn ?_
      iterate 2 (refine c_seq ?_)
      refine c_region ?_
      iterate 3 (refine sq S ?_; clear S; intro a S)
      refine wl_nil ?_
      refine xtn ?_
      refine c_block ?_
      replace S := (S.addNil 35 5).perm _ (List.Perm.swap _ _ _)
      replace S := S.toBoth
      refine c_fore4 S (fun (k : Nat) (os : List LTerm) (p' : Option Addr) (c' : Nat) uu => [(11, uu 11), (13, .int .i64 (k : Nat)), (0, uu 26), (0, uu 27), (0, uu 28), (0, uu 29), (0, uu 30), (0, uu 31), (0, uu 32)]) (fun (k : Nat) (os : List LTerm) (p' : Option Addr) (c' : Nat) => [outI b8 p' c' os]) (fun (k : Nat) (os : List LTerm) (p' : Option Addr) (c' : Nat) => [AllO w0.heap.size os, BoxF b2 25 [.slice pu us.length cu, .slice pk ks.length ck], SlF pu (encL us), LsF pk 0 ks, LsF pl 0 ls]) (fun (k : Nat) (os : List LTerm) (p' : Option Addr) (c' : Nat) => k ≤ ls.length ∧ os.length ≤ k ∧ os.map LTerm.t = ((ls.take k).map LTerm.t).filter (derB (ks.map LTerm.t))) (fun (k : Nat) (os : List LTerm) (p' : Option Addr) (c' : Nat) => ls.length - k) (0) ([]) (none) (0) ?_ S.uu ?_ ?_
      · exact ⟨Nat.zero_le _, Nat.le_refl _, rfl⟩
      · exact S.add (Φ := AllO w0.heap.size []) (fun _ _ x hx => by cases hx)
      · clear S; rintro k os p' c' uu a w ⟨hkk, hok, hrel⟩ S
        refine c_seq ?_
        refine c_region ?_
        refine sq S ?_; clear S; intro a S
        refine wl_nil ?_
        refine xtn ?_
        refine c_seq ?_
        refine c_cond S (fun h10 => ?_) (fun h10 => ?_)
        · refine c_skip ?_
          refine xtn ?_
          refine c_seq ?_
          refine c_block ?_
          refine c_seq ?_
          have hkl : k < ls.length := by simp at h10; omega
          have hK : KLt k ls.length := ⟨hkl⟩
          refine c_region ?_
          iterate 2 (refine sq S ?_; clear S; intro a S)
          refine sa S ?_; clear S; intro b11 a w S
          refine sw S ?_; clear S; intro a w S
          refine wl_nil ?_
          refine xtn ?_
          refine c_region ?_
          iterate 2 (refine sq S ?_; clear S; intro a S)
          have hgt : Good (nthL ls k).t := hG _ (List.mem_map.2 ⟨_, nth_mem hkl, rfl⟩)
          have h1 : Stable _ _ (BoxF b2 _ _) := S.wd.facts (BoxF b2 25 [.slice pu us.length cu, .slice pk ks.length ck]) (by simp)
          have h2' := S.wd.facts (LsF pk 0 ks) (by simp)
          have h3 := S.wd.facts (AllO w0.heap.size os) (by simp)
          refine sitM (outI b8 p' c' os) S (leaks1_c w0.heap.size b2 b8 ks os (nthL ls k) pu pk p' us.length cu ck c' (restOf _ (outI b8 p' c' os)) w S.wd.agree.size (by omega) hk500 hgK hgt (S.it (outI b8 p' c' os)) (S.restOk _) (h1.split (outI b8 p' c' os)) (h2'.split (outI b8 p' c' os)) ((S.t (nthL ls k)).split (outI b8 p' c' os)) (h3.split (outI b8 p' c' os))) rfl ?_
          clear S h1 h2' h3; rintro _ a w ⟨rfl, p2, c2, os', hol', hom', hh, hft, hfa⟩ hS
          have S := hS (outI b8 p2 c2 os') [AllO w0.heap.size os'] hh hft (by simpa using hfa)
          clear hS
          refine wl_nil ?_
          refine xbn ?_
          refine xtn ?_
          refine c_region ?_
          iterate 2 (refine sq S ?_; clear S; intro a S)
          refine wl_nil ?_
          refine xtn ?_
          rw [w64 ((k : Int) + 1) (by omega) (by omega)] at S
          refine ⟨k + 1, os', p2, c2, S.uu, ⟨hkl, by omega, ?_⟩, S.sub _ _, by omega⟩
          rw [hom', hrel, take_map_succ ls k hkl, List.filter_append]
          cases hd : derB (ks.map LTerm.t) (nthL ls k).t <;> simp [hd]
        · refine c_exit ?_
          iterate 2 (refine xte ?_)
          refine xbe ?_
          refine xtn ?_
          refine c_seq ?_
          replace S := S.ofBoth
          refine c_region ?_
          iterate 3 (refine sq S ?_; clear S; intro a S)
          refine wl_nil ?_
          refine xtn ?_
          refine c_ret ?_
          have hrow := S.row p' os.length
          have hnew := S.rowNew p' os.length
          have hall := (S.wd.facts (AllO w0.heap.size os) (by simp)).now
          rw [List.take_of_length_le (by simp at h10; omega)] at hrel
          refine end2 S (fun _ => ?_)
          exact ⟨0, p', c', os, rfl, fun h => absurd hR h, fun _ h => absurd hG h, fun _ _ => ⟨rfl, hrel⟩, hrow, fun ad h => (hnew ad h).elim (fun h => h.elim) id, hall⟩

/-! a user's own terms -/
def ownL (u : Int) (m : Nat) : List LTerm := secretL u :: (List.range (m + 1)).map fun n : Nat => freshL u n
def ownV (b2 b3 : Nat) : Value := .func (.func 148) #[] ⟨[.pointer (some ⟨b2, 0, none⟩), .pointer (some ⟨b3, 0, none⟩)]⟩
theorem own_f (u n : Int) (w0 : World) : Ret Try.prog 118 [.int .i64 u, .int .i64 n] w0 (fun _ => False) fun v w' => ∃ b2 b3, v = ownV b2 b3 ∧ w0.heap.size ≤ b2 ∧ w0.heap.size ≤ b3 ∧ BoxF b2 3 [.int .i64 u] w' ∧ BoxF b3 3 [.int .i64 n] w' := by
  refine enter Try.func118 rfl rfl (Wd.start w0) (fun a S => ?_)
  simp only [Try.ntmps118, List.length_cons, List.length_nil, Nat.reduceAdd, Nat.reduceSub, List.replicate_succ, List.replicate_zero, List.cons_append, List.nil_append] at S
  refine c_seq ?_
  refine c_region ?_
  refine sa S ?_; clear S; intro b2 a w S
  refine sa S ?_; clear S; intro b3 a w S
  refine sq S ?_; clear S; intro a S
  refine wl_nil ?_
  refine xtn ?_
  refine c_seq ?_
  refine c_region ?_
  iterate 2 (refine sq S ?_; clear S; intro a S)
  refine wl_nil ?_
  refine xtn ?_
  refine c_ret ?_
  have h1 := S.boxF b2
  have h2 := S.boxF b3
  have n1 := S.boxNew b2
  have n2 := S.boxNew b3
  refine end1 S (fun _ => ?_)
  exact ⟨b2, b3, rfl, n1.elim (fun h => h.elim) id, n2.elim (fun h => h.elim) id, h1, h2⟩
theorem own_it (b2 b3 : Nat) (u : Int) (m : Nat) (hu : 1 ≤ u ∧ u ≤ 6) (hm : m ≤ 200) (w0 : World) (M : Nat → Prop) (hM : ∀ k, M k → k < w0.heap.size) (f1 : Stable M w0 (BoxF b2 3 [.int .i64 u])) (f2 : Stable M w0 (BoxF b3 3 [.int .i64 (m : Int)])) :
    IterRet Try.prog 148 [.pointer (some ⟨b2, 0, none⟩), .pointer (some ⟨b3, 0, none⟩)] w0 M (fun (x : LTerm) vs _ _ => vs = [vL x]) (ownL u m) := by
  intro L J Jx hy hJ
  have hF : ∀ Φ ∈ [BoxF b2 3 [.int .i64 u], BoxF b3 3 [.int .i64 (m : Int)]], Stable M w0 Φ := by simp; exact ⟨f1, f2⟩
  have hlen : (ownL u m).length = m + 2 := by simp [ownL]
  have hget0 : (ownL u m)[0]? = some (secretL u) := rfl
  have hget : ∀ k, k < m + 1 → (ownL u m)[k + 1]? = some (freshL u k) := fun k hk => by simp [ownL, hk]
  refine (callsIn_wide (n := 0)).2 ?_
  refine enter Try.func148 rfl rfl (Wd.beginM (M := M) (fs := [BoxF b2 3 [.int .i64 u], BoxF b3 3 [.int .i64 (m : Int)]]) hM hF) (fun a S => ?_)
  simp only [Try.ntmps148, List.length_cons, List.length_nil, Nat.reduceAdd, Nat.reduceSub, List.replicate_succ, List.replicate_zero, List.cons_append, List.nil_append] at S
  iterate 2 (refine c_seq ?_)
  refine c_region ?_
  refine sq S ?_; clear S; intro a S
  refine sc S ?_; clear S; intro a w S
  rw [show isUser u = true from by simp [isUser, hu]] at S
  refine sq S ?_; clear S; intro a S
  rw [show (!true) = false from rfl] at S
  refine sq S ?_; clear S; intro a S
  refine gT' S ?_
  refine sq S ?_; clear S; intro a S
  refine gT' S ?_
  refine sq S ?_; clear S; intro a S
  rw [show decide ((m : Int) < 0) = false from by simp] at S
  iterate 2 (refine sq S ?_; clear S; intro a S)
  refine gT' S ?_
  refine sq S ?_; clear S; intro a S
  refine gT' S ?_
  refine sq S ?_; clear S; intro a S
  rw [show decide (200 < (m : Int)) = false from by simp; omega] at S
  iterate 2 (refine sq S ?_; clear S; intro a S)
  refine gT' S ?_
  refine sq S ?_; clear S; intro a S
  refine gT' S ?_
  refine sq S ?_; clear S; intro a S
  refine gT' S ?_
  refine sc S ?_; clear S; intro a w S
  refine gT' S ?_
  refine sy S (M := M) (wI := w0) (fs0 := [BoxF b2 3 [.int .i64 u], BoxF b3 3 [.int .i64 (m : Int)]]) hF (hy 0 _ _ w0 w hget0 hJ S.wd.agree rfl) ?_; clear S; intro ok N' a w2 hT hX S
  refine gT' S ?_
  iterate 2 (refine sq S ?_; clear S; intro a S)
  refine wl_nil ?_
  refine xtn ?_
  refine c_cond S (fun h0 => ?_) (fun h0 => ?_)
  · refine c_ret ?_
    refine xtr ?_
    exact endI S ⟨w2, S.wd.agree, .inr (hX (by simpa using h0))⟩
  · refine c_skip ?_
    refine xtn ?_
    refine c_seq ?_
    refine c_region ?_
    iterate 3 (refine sq S ?_; clear S; intro a S)
    refine wl_nil ?_
    refine xtn ?_
    refine c_block ?_
    rw [w64 ((m : Int) + 1) (by omega) (by omega)] at S
    have hJ1 : J 1 w2 := hT (by simpa using h0)
    refine c_loop (ι := Nat) (fun k a w => k ≤ m + 1 ∧ ∃ N w1, J (k + 1) w1 ∧ ∃ uu : Nat → Value,  St w1 (fun _ => False) [] a w ((.func (.yield L) #[] #[]) :: (.pointer (some ⟨b2, 0, none⟩)) :: (.pointer (some ⟨b3, 0, none⟩)) :: uu 3 :: uu 4 :: uu 5 :: uu 6 :: uu 7 :: uu 8 :: uu 9 :: uu 10 :: uu 11 :: uu 12 :: uu 13 :: uu 14 :: uu 15 :: uu 16 :: uu 17 :: uu 18 :: uu 19 :: uu 20 :: uu 21 :: uu 22 :: uu 23 :: (.int .i64 ((m : Int) + 1)) :: (.int .i64 (k : Nat)) :: uu 26 :: uu 27 :: uu 28 :: uu 29 :: uu 30 :: uu 31 :: uu 32 :: uu 33 :: uu 34 :: []) [ext N] [BoxF b2 3 [.int .i64 u], BoxF b3 3 [.int .i64 (m : Int)]]) (fun k => m + 1 - k) 0 ?_ ?_
    · exact ⟨Nat.zero_le _, N', w2, hJ1, S.uu, S⟩
    · clear S
      rintro k a w ⟨hk, N, w1, hJk, uu, S⟩
      refine c_seq ?_
      refine c_region ?_
      refine sq S ?_; clear S; intro a S
      refine wl_nil ?_
      refine xtn ?_
      refine c_seq ?_
      refine c_cond S (fun h2 => ?_) (fun h2 => ?_)
      · refine c_skip ?_
        refine xtn ?_
        refine c_seq ?_
        refine c_block ?_
        refine c_seq ?_
        refine c_region ?_
        iterate 2 (refine sq S ?_; clear S; intro a S)
        refine wl_nil ?_
        refine xtn ?_
        refine c_seq ?_
        refine c_region ?_
        iterate 3 (refine sq S ?_; clear S; intro a S)
        refine sc S ?_; clear S; intro a w S
        have hkl : k < m + 1 := by simp at h2; omega
        refine sy S (M := M) (wI := w0) (fs0 := [BoxF b2 3 [.int .i64 u], BoxF b3 3 [.int .i64 (m : Int)]]) hF (hy (k + 1) _ _ w1 w (hget k hkl) hJk S.wd.agree rfl) ?_; clear S; intro ok N' a w2 hT hX S
        refine sq S ?_; clear S; intro a S
        refine wl_nil ?_
        refine xtn ?_
        refine c_cond S (fun h4 => ?_) (fun h4 => ?_)
        · refine c_ret ?_
          refine xbr ?_
          iterate 2 (refine xtr ?_)
          refine xbr ?_
          exact endI S ⟨w2, S.wd.agree, .inr (hX (by simpa using h4))⟩
        · refine c_skip ?_
          refine xbn ?_
          refine xtn ?_
          refine c_region ?_
          iterate 2 (refine sq S ?_; clear S; intro a S)
          refine wl_nil ?_
          refine xtn ?_
          rw [w64 ((k : Int) + 1) (by omega) (by omega)] at S
          exact ⟨k + 1, ⟨hkl, N', w2, hT (by simpa using h4), S.uu, S⟩, by omega⟩
      · refine c_exit ?_
        iterate 2 (refine xte ?_)
        refine xbe ?_
        refine endI S ⟨w1, S.wd.agree, .inl ?_⟩
        have h6 : k = m + 1 := by simp at h2; omega
        rw [hlen, show m + 2 = k + 1 from by omega]; exact hJk
end Go.Proofs.Ytgielmldblopeaa
