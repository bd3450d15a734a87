/- 8: a part of this claim's texts, joined: FreshG LawFreshC RowFreshTwins. -/
import Derived.Test.YtieeoakdkbackaaDoorPq7
import Derived.Test.YtieeoakdkbackaaDoorTie
import Derived.Test.YtieeoakdkbackaaDoorCards
import Derived.SevenTiedAt
/- Package fresh: Accept with whatever was seen. -/
namespace Go.Proofs.YtieeoakdkbackaaDoor
open Go Go.Wk
set_option synthInstance.maxSize 100000
set_option synthInstance.maxHeartbeats 400000
set_option maxRecDepth 100000

def AccG (M : Nat → Prop) (u : Int) (S R : Term) (v : Value) (w : World) : Prop := ∃ (x : Value) (n : Int) (p : Option Addr) (c : Nat) (ms : List LMark) (e : Int), v = .tuple ⟨[x, .slice p ms.length c, .int .i64 e]⟩ ∧ Stable M w (GlF p ms) ∧ ms.length ≤ 16 ∧ (e = 0 → FreshOk u n ms S R)
theorem faccept_c (l : List LSeen) (pl : Option Addr) (cl : Nat) (u : Int) (s r : LTerm) (M : Nat → Prop) (w0 : World) (hl : l.length ≤ 100) (hM : ∀ k, M k → k < w0.heap.size) (ht : Stable M w0 LibF) (hx : Stable M w0 (GlF pl l)) (hs : Stable M w0 (LtF s)) (hr : Stable M w0 (LtF r)) :
    Ret Tryd.prog 23 [.slice pl l.length cl, .int .i64 u, vL s, vL r] w0 (fun _ => False) fun v w' => AccG M u s.t r.t v w' := by
  refine enter Tryd.func23 rfl rfl (Wd.beginM (M := M) (fs := [TabF, LibF, GlF pl l, LtF s, LtF r]) hM (by simp; exact ⟨ht.imp fun _ h => h.1, ht, hx, hs, hr⟩)) (fun a S => ?_)
  simp only [Tryd.ntmps23, List.length_cons, List.length_nil, Nat.reduceAdd, Nat.reduceSub, List.replicate_succ, List.replicate_zero, List.cons_append, List.nil_append] at S
  refine c_seq ?_
  refine c_region ?_
  refine sa S ?_; clear S; intro b6 a w S
  refine sa S ?_; clear S; intro b7 a w S
  iterate 3 (refine sq S ?_; clear S; intro a S)
  refine wl_nil ?_
  refine xtn ?_
  iterate 2 (refine c_seq ?_)
  refine c_region ?_
  refine sq S ?_; clear S; intro a S
  refine sr S (fcheck_c l pl cl _ (by omega) (S.gl0 pl)) ?_; clear S; rintro _ a w ⟨ec, rfl, hec⟩ S
  refine sq S ?_; clear S; intro a S
  refine wl_nil ?_
  refine xtn ?_
  refine c_seq ?_
  refine c_region ?_
  iterate 2 (refine sq S ?_; clear S; intro a S)
  refine wl_nil ?_
  refine xtn ?_
  refine c_cond S (fun h2 => ?_) (fun h2 => ?_)
  · refine c_seq ?_
    refine c_region ?_
    iterate 4 (refine sq S ?_; clear S; intro a S)
    refine wl_nil ?_
    refine xtn ?_
    refine c_ret ?_
    refine xtr ?_
    have hne : ec ≠ 0 := by simpa using h2
    refine end3 S (fun _ => ?_)
    exact ⟨_, 0, none, 0, [], ec, rfl, fun _ _ => gl_nil, by simp, fun h => absurd h hne⟩
  · refine c_skip ?_
    refine xtn ?_
    refine c_seq ?_
    refine c_region ?_
    iterate 3 (refine sq S ?_; clear S; intro a S)
    refine sr S (fread_c u s r _ w (foots_lt S) (S.mem.fact LibF) (S.t s) (S.t r)) ?_; clear S; rintro _ a w ⟨n, p, c, ms, e, rfl, hms, hc, he1, he2⟩ S
    replace S := S.add hms
    iterate 7 (refine sq S ?_; clear S; intro a S)
    refine wl_nil ?_
    refine xtn ?_
    iterate 2 (refine c_seq ?_)
    refine c_region ?_
    iterate 2 (refine sq S ?_; clear S; intro a S)
    refine wl_nil ?_
    refine xtn ?_
    refine c_cond S (fun h5 => ?_) (fun h5 => ?_)
    · refine c_seq ?_
      refine c_region ?_
      iterate 4 (refine sq S ?_; clear S; intro a S)
      refine wl_nil ?_
      refine xtn ?_
      refine c_ret ?_
      refine xtr ?_
      have hne : e ≠ 0 := by simpa using h5
      refine end3 S (fun _ => ?_)
      exact ⟨_, 0, none, 0, [], e, rfl, fun _ _ => gl_nil, by simp, fun h => absurd h hne⟩
    · refine c_skip ?_
      refine xtn ?_
      refine c_seq ?_
      have hec0 : ec = 0 := by simpa using h2
      have hgood := hec hec0
      have he0 : e = 0 := by simpa using h5
      have hok := he1 he0
      have hml := (okM_V hok.2.1).1
      refine c_region ?_
      refine sq S ?_; clear S; intro a S
      refine sr S (troot_c ms p c _ w hc (by omega) (foots_lt S) (S.mem.fact TabF) (S.mem.fact (GlF p ms))) ?_; clear S; rintro _ a w hR S
      obtain ⟨q, hq, hqt, hqf⟩ := hR.yes hok.2.1
      subst hq
      replace S := S.add hqf
      iterate 3 (refine sq S ?_; clear S; intro a S)
      refine sa S ?_; clear S; intro b15 a w S
      refine sw S ?_; clear S; intro a w S
      refine sq S ?_; clear S; intro a S
      refine wl_nil ?_
      refine xtn ?_
      refine c_seq ?_
      refine c_region ?_
      iterate 2 (refine sq S ?_; clear S; intro a S)
      refine sr S (ffind_c l pl cl u _ (by omega) (S.gl0 pl)) ?_; clear S; rintro _ a w ⟨i, there, rfl, hil, hth⟩ S
      iterate 5 (refine sq S ?_; clear S; intro a S)
      refine wl_nil ?_
      refine xtn ?_
      refine c_mrge0 S (fun  uu => [(8, uu 8), (0, uu 9), (0, uu 10), (37, uu 48), (0, uu 49), (0, uu 50), (0, uu 51), (0, uu 52), (0, uu 53), (0, uu 54), (0, uu 55), (0, uu 56), (0, uu 57), (0, uu 58), (0, uu 59), (0, uu 60), (0, uu 61), (0, uu 62), (0, uu 63), (0, uu 64), (0, uu 65), (0, uu 66), (0, uu 67), (0, uu 68), (0, uu 69), (0, uu 70), (0, uu 71), (0, uu 72), (0, uu 73), (0, uu 74), (0, uu 75), (0, uu 76)]) ([Wk.box b15 24 q.cells, ext M]) ([LtF q, GlF p ms, GlF pl l]) (True) ?_ ?_
      · refine c_block ?_
        refine c_seq ?_
        refine c_region ?_
        iterate 3 (refine sq S ?_; clear S; intro a S)
        refine wl_nil ?_
        refine xtn ?_
        refine c_cond S (fun h9 => ?_) (fun h9 => ?_)
        · refine c_skip ?_
          refine xbn ?_
          refine xtn ?_
          exact ⟨S.uu, trivial, S.sub _ _⟩
        · refine c_seq ?_
          have hthere : there = true := by simpa using h9
          have hK : KLt i l.length := ⟨hth hthere⟩
          replace S := S.add (Φ := LtF (nthG l i).root) ((S.mem.fact (GlF pl l)).imp fun _ h => h.2 _ (nthG_mem (hth hthere)))
          refine c_region ?_
          iterate 8 (refine sq S ?_; clear S; intro a S)
          refine wl_nil ?_
          refine xtn ?_
          refine c_cond S (fun h10 => ?_) (fun h10 => ?_)
          · refine c_seq ?_
            refine c_region ?_
            iterate 3 (refine sq S ?_; clear S; intro a S)
            refine wl_nil ?_
            refine xtn ?_
            refine c_ret ?_
            refine xbr ?_
            refine xtr ?_
            refine end3 S (fun _ => ?_)
            exact ⟨_, 0, none, 0, [], _, rfl, fun _ _ => gl_nil, by simp, fun h => by cases h⟩
          · refine c_seq ?_
            refine c_drawD [(0, true), (1, true), (2, true), (3, true), (4, true), (5, true), (6, true), (7, true), (8, true), (9, true), (10, true), (11, true), (12, true), (13, true), (14, false), (15, true), (16, true), (17, true)] [] S ?_; clear S; intro w S
            iterate 8 (refine dq S ?_; clear S; intro a S)
            iterate 6 (refine dqG S ?_; clear S; intro a S)
            refine dl ?_
            refine gC S ?_; clear S; intro a w S
            refine de S ?_
            refine dqG S ?_; clear S; intro a S
            iterate 2 (refine dq S ?_; clear S; intro a S)
            refine dn ?_
            refine xtn ?_
            refine c_cond S (fun h12 => ?_) (fun h12 => ?_)
            · refine c_seq ?_
              refine c_region ?_
              iterate 3 (refine sq S ?_; clear S; intro a S)
              refine wl_nil ?_
              refine xtn ?_
              refine c_ret ?_
              refine xbr ?_
              refine xtr ?_
              refine end3 S (fun _ => ?_)
              exact ⟨_, 0, none, 0, [], _, rfl, fun _ _ => gl_nil, by simp, fun h => by cases h⟩
            · refine c_skip ?_
              refine xbn ?_
              refine xtn ?_
              exact ⟨S.uu, trivial, S.sub _ _⟩
      · clear S; rintro  uu a w - S
        refine c_seq ?_
        refine c_region ?_
        refine sq S ?_; clear S; intro a S
        refine srn S (fclone_c l pl l.length cl _ rfl (by omega) (S.gl0 pl)) ?_; clear S; rintro _ a w ⟨p', c', rfl, hown, hnew⟩ hS -
        have S := hS hown hnew
        clear hS
        refine sq S ?_; clear S; intro a S
        refine wl_nil ?_
        refine xtn ?_
        iterate 2 (refine c_seq ?_)
        refine c_region ?_
        iterate 3 (refine sq S ?_; clear S; intro a S)
        refine wl_nil ?_
        refine xtn ?_
        refine c_block ?_
        refine c_fore2 S (fun (k : Nat) (zs : List LSeen) uu => [(20, uu 20), (60, .int .i64 (k : Nat)), (0, uu 82), (0, uu 83), (0, uu 84), (0, uu 85), (0, uu 86), (0, uu 87), (0, uu 88), (0, uu 89), (0, uu 90), (0, uu 91), (0, uu 92), (0, uu 93), (0, uu 94)]) (fun (k : Nat) (zs : List LSeen) => [Wk.row 92 7 p' l.length c' (encL zs), Wk.box b15 24 q.cells, ext M]) (fun (k : Nat) (zs : List LSeen) => [AllI zs, LtF q, GlF p ms, GlF pl l]) (fun (k : Nat) (zs : List LSeen) => k ≤ l.length ∧ zs.length = l.length ∧ zs.drop k = l.drop k) (fun (k : Nat) (zs : List LSeen) => l.length - k) (0) (l) ?_ S.uu ?_ ?_
        · exact ⟨Nat.zero_le _, rfl, rfl⟩
        · exact S.add (Φ := AllI l) ((S.mem.fact (GlF pl l)).imp fun _ h => h.2)
        · clear S; rintro k zs uu a w ⟨hk, hzl, hzd⟩ S
          refine c_seq ?_
          refine c_region ?_
          refine sq S ?_; clear S; intro a S
          refine wl_nil ?_
          refine xtn ?_
          refine c_seq ?_
          refine c_cond S (fun h16 => ?_) (fun h16 => ?_)
          · refine c_skip ?_
            refine xtn ?_
            refine c_seq ?_
            refine c_block ?_
            refine c_seq ?_
            have hkl : k < l.length := by simp at h16; omega
            have hK : KLt k l.length := ⟨hkl⟩
            have hzk : zs[k]? = some (nthG l k) := by
              have := congrArg (fun l => l[0]?) hzd
              simp only [List.getElem?_drop, Nat.add_zero] at this
              rw [this, nthG_get hkl]
            refine c_region ?_
            iterate 2 (refine sq S ?_; clear S; intro a S)
            refine wl_nil ?_
            refine xtn ?_
            refine c_region ?_
            iterate 6 (refine sq S ?_; clear S; intro a S)
            refine slrA (nthG l k).root.cells S l.length (fun j v hj => ?_) ?_
            · have hj5 : j < 5 := (List.getElem?_eq_some_iff.1 hj).1
              have := encL_get zs k _ hzk (2 + j) (by show _ < 7; omega)
              rw [show k * 7 + 2 + j = k * 7 + (2 + j) from by omega]
              refine this.trans ?_
              rw [← hj]
              show (cSeen (nthG l k))[2 + j]? = _
              match j, hj5 with
              | 0, _ => rfl
              | 1, _ => rfl
              | 2, _ => rfl
              | 3, _ => rfl
              | 4, _ => rfl
            clear S; intro a S
            refine sr S (fcopied_c (nthG l k).root _ w (good_le (hgood _ (nthG_mem hkl))) (foots_lt S) ((S.mem.fact (GlF pl l)).imp fun _ h => h.2 _ (nthG_mem hkl))) ?_; clear S; rintro _ a w ⟨z, rfl, hz, hzf⟩ S
            replace S := S.add hzf
            iterate 2 (refine sq S ?_; clear S; intro a S)
            refine sws S l.length (by omega) (by omega) ?_; clear S; intro a w S
            have e7 := encL_setS zs k (nthG l k) ⟨(nthG l k).user, (nthG l k).cnt, z⟩ hzk rfl rfl
            rw [show (k * 7 + 2 + ([.int .i64 z.kind, .int .i64 z.user, .int .i64 z.num, str z.text, .slice z.p z.kids.length z.cap] : List Value).length) = k * 7 + 2 + z.cells.length from rfl] at S
            rw [show ((encL zs).take (k * 7 + 2) ++ [.int .i64 z.kind, .int .i64 z.user, .int .i64 z.num, str z.text, .slice z.p z.kids.length z.cap] ++ (encL zs).drop (k * 7 + 2 + z.cells.length)) = encL (zs.set k ⟨(nthG l k).user, (nthG l k).cnt, z⟩) from e7] at S
            refine wl_nil ?_
            refine xbn ?_
            refine xtn ?_
            refine c_region ?_
            iterate 2 (refine sq S ?_; clear S; intro a S)
            refine wl_nil ?_
            refine xtn ?_
            have h1 : Stable _ _ (AllI zs) := S.wd.facts (AllI zs) (by simp)
            have h2 := S.t z
            replace S := S.add (Φ := AllI (zs.set k ⟨(nthG l k).user, (nthG l k).cnt, z⟩)) (fun w' hw' x hx => by
              rcases List.mem_or_eq_of_mem_set hx with h | rfl
              · exact h1 w' hw' x h
              · exact h2 w' hw')
            rw [w64 ((k : Int) + 1) (by omega) (by omega)] at S
            refine ⟨k + 1, zs.set k ⟨(nthG l k).user, (nthG l k).cnt, z⟩, S.uu, ⟨hkl, by rw [List.length_set]; exact hzl, ?_⟩, S.sub _ _, by omega⟩
            rw [List.drop_set_of_lt (by omega), ← List.drop_drop, hzd, List.drop_drop]
          · refine c_exit ?_
            iterate 2 (refine xte ?_)
            refine xbe ?_
            refine xtn ?_
            iterate 2 (refine c_seq ?_)
            refine c_region ?_
            iterate 2 (refine sq S ?_; clear S; intro a S)
            refine wl_nil ?_
            refine xtn ?_
            refine c_cond S (fun h20 => ?_) (fun h20 => ?_)
            · refine c_region ?_
              iterate 3 (refine sq S ?_; clear S; intro a S)
              refine sn S ?_; clear S; intro b100 a w S
              have hcap : l.length ≤ c' ∧ c' ≤ maxLen := ⟨own_le (S.row p' l.length), own_cap (S.row p' l.length)⟩
              have hap : ∀ ad, p' = some ad → b100 ≠ ad.block := fun ad had he => St.apart2 S (Wk.box b100 92 [.int .i64 0, .int .i64 0, .int .i64 0, .int .i64 0, .int .i64 0, .string ⟨#[]⟩, .slice none 0 0]) (Wk.row 92 7 p' l.length c' (encL zs)) b100 rfl ⟨ad, had, he⟩
              replace S := S.boxToF b100
              refine sit (Wk.row 92 7 p' l.length c' (encL zs)) S (finsert_c zs ⟨0, 0, zeroL⟩ i l.length c' b100 92 p' w (by omega) (by omega) hcap.1 hcap.2 hzl (S.row p' l.length) (S.rowFact p' l.length (Φ := BoxF b100 92 (cSeen ⟨0, 0, zeroL⟩)) (List.mem_cons_self ..)) hap) rfl ?_; clear S; rintro _ a w ⟨p2, c2, rfl, hown2, hnew2⟩ hS
              have S := hS (Wk.row 92 7 p2 (l.length + 1) c2 (encL (zs.take i ++ [(⟨0, 0, zeroL⟩ : LSeen)] ++ zs.drop i))) hown2 (fun k ⟨ad, h1, h2⟩ => (hnew2 ad h1).imp (fun ⟨ad', h3, h4⟩ => ⟨ad', h3, h2.trans h4⟩) (fun h => by rw [h2]; exact h))
              clear hS
              have hK2 : KLt i (l.length + 1) := ⟨by omega⟩
              refine sq S ?_; clear S; intro a S
              refine wl_nil ?_
              refine xtn ?_
              refine c_seq ?_
              try have hth3 : i < l.length := hth (by simpa using h20)
              try have hK3 : KLt i l.length := ⟨hth3⟩
              refine c_region ?_
              iterate 7 (refine sq S ?_; clear S; intro a S)
              first
                | refine sws S (l.length + 1) (by omega) (by omega) ?_
                | refine sws S l.length (by omega) (by omega) ?_
              clear S; intro a w S
              refine wl_nil ?_
              refine xtn ?_
              refine c_seq ?_
              refine c_region ?_
              iterate 5 (refine sq S ?_; clear S; intro a S)
              refine wl_nil ?_
              refine xtn ?_
              refine c_ret ?_
              have hm2 := S.laterFact (M := M) (Φ := GlF p ms) (by simp)
              refine end3 S (fun _ => ?_)
              exact ⟨_, n, p, c, ms, 0, rfl, hm2, hml, fun _ => hok⟩
            · refine c_skip ?_
              refine xtn ?_
              refine c_seq ?_
              try have hth3 : i < l.length := hth (by simpa using h20)
              try have hK3 : KLt i l.length := ⟨hth3⟩
              refine c_region ?_
              iterate 7 (refine sq S ?_; clear S; intro a S)
              first
                | refine sws S (l.length + 1) (by omega) (by omega) ?_
                | refine sws S l.length (by omega) (by omega) ?_
              clear S; intro a w S
              refine wl_nil ?_
              refine xtn ?_
              refine c_seq ?_
              refine c_region ?_
              iterate 5 (refine sq S ?_; clear S; intro a S)
              refine wl_nil ?_
              refine xtn ?_
              refine c_ret ?_
              have hm2 := S.laterFact (M := M) (Φ := GlF p ms) (by simp)
              refine end3 S (fun _ => ?_)
              exact ⟨_, n, p, c, ms, 0, rfl, hm2, hml, fun _ => hok⟩
end Go.Proofs.YtieeoakdkbackaaDoor

/- Layer 16: FreshTwins. -/
namespace Go.Proofs.YtieeoakdkbackaaDoor
open Go Go.Wk
set_option synthInstance.maxSize 100000
set_option synthInstance.maxHeartbeats 400000
set_option maxRecDepth 100000
set_option maxHeartbeats 4000000

theorem small16_c (d : Nat) : ∀ (t : LTerm) (M : Nat → Prop) (w0 : World), d ≤ 30 → (∀ k, M k → k < w0.heap.size) → Stable M w0 (LtF t) → Ret Tryd.prog 22 [vL t, .int .i64 (d : Int)] w0 (fun _ => False) fun v w' => IsT M w' v (small14 d t.t) := by
  induction d using Nat.strongRecOn with
  | _ d ih =>
  intro t M w0 hd hM hf
  have hlen := LTerm.len_le hf
  refine enter Tryd.func22 rfl rfl (Wd.beginM (M := M) (fs := [LtF t]) hM (by simpa using hf)) (fun a S => ?_)
  simp only [Tryd.ntmps22, List.length_cons, List.length_nil, Nat.reduceAdd, Nat.reduceSub, List.replicate_succ, List.replicate_zero, List.cons_append, List.nil_append] at S
  refine c_seq ?_
  refine c_region ?_
  refine sa S ?_; clear S; intro b2 a w S
  refine sa S ?_; clear S; intro b4 a w S
  refine wl_nil ?_
  refine xtn ?_
  refine c_seq ?_
  refine c_region ?_
  iterate 7 (refine sq S ?_; clear S; intro a S)
  rw [show (t.text.take (min t.text.length 65)).drop 0 = t.text.take 65 from by rw [List.drop_zero, List.take_eq_take_iff]; omega] at S
  refine sq S ?_; clear S; intro a S
  refine sw S ?_; clear S; intro a w S
  refine wl_nil ?_
  refine xtn ?_
  refine c_seq ?_
  refine c_region ?_
  refine sq S ?_; clear S; intro a S
  refine wl_nil ?_
  refine xtn ?_
  iterate 2 (refine c_seq ?_)
  refine c_region ?_
  iterate 4 (refine sq S ?_; clear S; intro a S)
  refine wl_nil ?_
  refine xtn ?_
  refine c_block ?_
  replace S := S.addNil 24 5
  refine c_fore4 S (fun (k : Nat) (os : List LTerm) (p' : Option Addr) (c' : Nat) uu => [(5, .slice p' os.length c'), (0, uu 6), (0, uu 7), (11, .int .i64 (k : Nat)), (0, uu 20), (0, uu 21), (0, uu 22), (0, uu 23), (0, uu 24), (0, uu 25), (0, uu 26), (0, uu 27), (0, uu 28), (0, uu 29), (0, uu 30), (0, uu 31), (0, uu 32), (0, uu 33), (0, uu 34), (0, uu 35), (0, uu 36), (0, uu 37)]) (fun (k : Nat) (os : List LTerm) (p' : Option Addr) (c' : Nat) => [Wk.row 24 5 p' os.length c' (encL os), Wk.box b4 24 zeroL.cells, Wk.box b2 24 [.int .i64 t.kind, .int .i64 t.user, .int .i64 t.num, str (t.text.take 65), .slice t.p t.kids.length t.cap], ext M]) (fun (k : Nat) (os : List LTerm) (p' : Option Addr) (c' : Nat) => [AllI os, LtF t]) (fun (k : Nat) (os : List LTerm) (p' : Option Addr) (c' : Nat) => k ≤ t.kids.length ∧ os.map LTerm.t = small14K d ((t.kids.take k).map LTerm.t)) (fun (k : Nat) (os : List LTerm) (p' : Option Addr) (c' : Nat) => t.kids.length - k) (0) ([]) (none) (0) ?_ S.uu ?_ ?_
  · refine ⟨Nat.zero_le _, ?_⟩
    cases d <;> rfl
  · exact S.add (Φ := AllI (α := LTerm) []) AllI.nil
  · clear S; rintro k os p' c' uu a w ⟨hk, hrel⟩ S
    refine c_seq ?_
    refine c_region ?_
    refine sq S ?_; clear S; intro a S
    refine wl_nil ?_
    refine xtn ?_
    refine c_seq ?_
    refine c_cond S (fun h4 => ?_) (fun h4 => ?_)
    · refine c_skip ?_
      refine xtn ?_
      refine c_seq ?_
      refine c_block ?_
      refine c_seq ?_
      have hkl : k < t.kids.length := by simpa using h4
      have hK : KLt k t.kids.length := ⟨hkl⟩
      have hol : os.length ≤ 3 := by have := congrArg List.length hrel; rw [List.length_map] at this; have h2 := small14K_len d ((t.kids.take k).map LTerm.t); omega
      refine c_region ?_
      iterate 3 (refine sq S ?_; clear S; intro a S)
      refine sa S ?_; clear S; intro b7 a w S
      refine sq S ?_; clear S; intro a S
      refine sw S ?_; clear S; intro a w S
      refine wl_nil ?_
      refine xtn ?_
      refine c_seq ?_
      refine c_region ?_
      iterate 3 (refine sq S ?_; clear S; intro a S)
      iterate 2 (refine gQ S ?_; clear S; intro a S)
      refine sq S ?_; clear S; intro a S
      refine wl_nil ?_
      refine xtn ?_
      refine c_cond S (fun h6 => ?_) (fun h6 => ?_)
      · have h6' : k < 3 ∧ 0 < d := by simp at h6; omega
        obtain ⟨d', rfl⟩ : ∃ d', d = d' + 1 := ⟨d - 1, by omega⟩
        refine c_region ?_
        iterate 4 (refine sq S ?_; clear S; intro a S)
        rw [show IntKind.i64.wrap ((((d' + 1 : Nat) : Int)) - 1) = (d' : Int) from by rw [w64 _ (by omega) (by omega)]; omega] at S
        refine sr S (ih d' (by omega) (nthL t.kids k) _ w (by omega) (foots_lt S) (S.t (nthL t.kids k))) ?_; clear S; rintro _ a w ⟨r, rfl, hr, hrf⟩ S
        replace S := S.add hrf
        refine sn S ?_; clear S; intro b35 a w S
        refine sap S (by simp [maxLen]; omega) (by omega) ?_; clear S; rintro p7 c7 a w - S
        rw [show encL os ++ r.cells = encL (os ++ [r]) from by rw [encL_append os [r], encT_cells], show os.length + 1 = (os ++ [r]).length from by simp] at S
        refine sq S ?_; clear S; intro a S
        refine wl_nil ?_
        refine xbn ?_
        refine xtn ?_
        refine c_region ?_
        iterate 2 (refine sq S ?_; clear S; intro a S)
        refine wl_nil ?_
        refine xtn ?_
        rw [w64 ((k : Int) + 1) (by omega) (by omega)] at S
        have h1 : Stable _ _ (AllI os) := S.wd.facts (AllI os) (by simp)
        have h2 := S.t r
        replace S := S.add (AllI.snoc h1 h2)
        exact ⟨k + 1, os ++ [r], p7, c7, S.uu, ⟨hkl, by rw [small14K_more hkl h6'.1, List.map_append, hrel, List.map_singleton, hr]⟩, S.sub _ _, by omega⟩
      · refine c_skip ?_
        refine xbn ?_
        refine xtn ?_
        refine c_region ?_
        iterate 2 (refine sq S ?_; clear S; intro a S)
        refine wl_nil ?_
        refine xtn ?_
        have h6' : ¬ (k < 3 ∧ 0 < d) := fun h => by simp [h] at h6; omega
        rw [w64 ((k : Int) + 1) (by omega) (by omega)] at S
        exact ⟨k + 1, os, p', c', S.uu, ⟨hkl, by rw [small14K_same hkl h6']; exact hrel⟩, S.sub _ _, by omega⟩
    · refine c_exit ?_
      iterate 2 (refine xte ?_)
      refine xbe ?_
      refine xtn ?_
      refine c_seq ?_
      refine c_region ?_
      iterate 2 (refine sq S ?_; clear S; intro a S)
      refine sw S ?_; clear S; intro a w S
      refine wl_nil ?_
      refine xtn ?_
      refine c_seq ?_
      refine c_region ?_
      refine sq S ?_; clear S; intro a S
      refine sw S ?_; clear S; intro a w S
      refine wl_nil ?_
      refine xtn ?_
      refine c_ret ?_
      have hrow := S.row p' os.length
      have hnew := S.rowNew p' os.length
      have hall := S.laterFact (Φ := AllI os) (by simp)
      rw [List.take_of_length_le (by simp at h4; omega)] at hrel
      refine end1 S (fun _ => ?_)
      refine ⟨.mk t.kind t.user t.num (t.text.take 65) p' c' os, rfl, ?_, fun w' hw' => ?_⟩
      · rw [small14_eq, ← hrel]; exact LTerm.t_eq _
      · have hls := (gl_own hrow hall (fun ad h hm => (hnew ad h).elim id (fun h2 => by have := hM _ hm; omega))).imp fun _ h => gl_ls h
        exact ⟨own_le hrow, own_cap14 hrow, hls w' hw'⟩
theorem seen16_c (l : List LSeen) (p : Option Addr) (c : Nat) (M : Nat → Prop) (w0 : World) (hl : l.length ≤ 9223372036854775807) (hM : ∀ k, M k → k < w0.heap.size) (hx : Stable M w0 (GlF p l)) :
    Ret Tryd.prog 21 [.slice p l.length c] w0 (fun _ => False) fun v w' => ∃ (q : Option Addr) (e : Nat) (os : List LSeen), v = .slice q os.length e ∧ os.length ≤ 8 ∧ Stable M w' (GlF q os) := by
  refine enter Tryd.func21 rfl rfl (Wd.beginM (M := M) (fs := [GlF p l]) hM (by simpa using hx)) (fun a S => ?_)
  simp only [Tryd.ntmps21, List.length_cons, List.length_nil, Nat.reduceAdd, Nat.reduceSub, List.replicate_succ, List.replicate_zero, List.cons_append, List.nil_append] at S
  refine c_seq ?_
  refine c_region ?_
  refine sq S ?_; clear S; intro a S
  refine wl_nil ?_
  refine xtn ?_
  refine c_seq ?_
  refine c_region ?_
  refine sq S ?_; clear S; intro a S
  refine wl_nil ?_
  refine xtn ?_
  iterate 2 (refine c_seq ?_)
  refine c_region ?_
  iterate 3 (refine sq S ?_; clear S; intro a S)
  refine wl_nil ?_
  refine xtn ?_
  refine c_block ?_
  replace S := S.addNil 92 7
  refine c_fore4 S (fun (k : Nat) (os : List LSeen) (q : Option Addr) (e : Nat) uu => [(3, .slice q os.length e), (0, uu 4), (0, uu 5), (2, .int .i64 (k : Nat)), (0, uu 9), (0, uu 10), (0, uu 11), (0, uu 12), (0, uu 13), (0, uu 14), (0, uu 15), (0, uu 16), (0, uu 17), (0, uu 18), (0, uu 19), (0, uu 20), (0, uu 21), (0, uu 22), (0, uu 23)]) (fun (k : Nat) (os : List LSeen) (q : Option Addr) (e : Nat) => [Wk.row 92 7 q os.length e (encL os), ext M]) (fun (k : Nat) (os : List LSeen) (q : Option Addr) (e : Nat) => [AllI os, GlF p l]) (fun (k : Nat) (os : List LSeen) (q : Option Addr) (e : Nat) => k ≤ l.length ∧ os.length = k ∧ k ≤ 8) (fun (k : Nat) (os : List LSeen) (q : Option Addr) (e : Nat) => l.length - k) (0) ([]) (none) (0) ?_ S.uu ?_ ?_
  · exact ⟨Nat.zero_le _, rfl, by omega⟩
  · exact S.add (Φ := AllI (α := LSeen) []) AllI.nil
  · clear S; rintro k os q e uu a w ⟨hk, hok, hk8⟩ S
    refine c_seq ?_
    refine c_region ?_
    refine sq S ?_; clear S; intro a S
    refine wl_nil ?_
    refine xtn ?_
    refine c_seq ?_
    refine c_cond S (fun h3 => ?_) (fun h3 => ?_)
    · refine c_skip ?_
      refine xtn ?_
      refine c_seq ?_
      refine c_block ?_
      refine c_seq ?_
      have hkl : k < l.length := by simp at h3; omega
      have hK : KLt k l.length := ⟨hkl⟩
      refine c_region ?_
      iterate 3 (refine sq S ?_; clear S; intro a S)
      refine sa S ?_; clear S; intro b5 a w S
      refine sq S ?_; clear S; intro a S
      refine sw S ?_; clear S; intro a w S
      refine wl_nil ?_
      refine xtn ?_
      iterate 2 (refine c_seq ?_)
      refine c_region ?_
      iterate 2 (refine sq S ?_; clear S; intro a S)
      refine wl_nil ?_
      refine xtn ?_
      refine c_cond S (fun h5 => ?_) (fun h5 => ?_)
      · refine c_exit ?_
        refine xte ?_
        refine xbx ?_
        iterate 2 (refine xte ?_)
        refine xbe ?_
        refine xtn ?_
        refine c_seq ?_
        refine c_region ?_
        iterate 2 (refine sq S ?_; clear S; intro a S)
        refine wl_nil ?_
        refine xtn ?_
        refine c_ret ?_
        have hrow := S.row q os.length
        have hnew := S.rowNew q os.length
        have hall := S.laterFact (M := M) (Φ := AllI os) (by simp)
        refine end1 S (fun _ => ?_)
        refine ⟨q, e, os, rfl, by omega, ?_⟩
        exact gl_own hrow hall (fun ad h hm => (hnew ad h).elim (fun h => h.elim) (fun h2 => by have := hM _ hm; omega))
      · refine c_skip ?_
        refine xtn ?_
        refine c_seq ?_
        refine c_region ?_
        iterate 2 (refine sq S ?_; clear S; intro a S)
        refine sr S (small16_c 12 (nthG l k).root _ w (by omega) (foots_lt S) ((S.mem.fact (GlF p l)).imp fun _ h => h.2 _ (nthG_mem hkl))) ?_; clear S; rintro _ a w ⟨z, rfl, hz, hzf⟩ S
        replace S := S.add hzf
        refine sq S ?_; clear S; intro a S
        refine sw S ?_; clear S; intro a w S
        refine wl_nil ?_
        refine xtn ?_
        have hk7 : k < 8 := by simp at h5; omega
        refine c_region ?_
        iterate 2 (refine sq S ?_; clear S; intro a S)
        refine sn S ?_; clear S; intro b21 a w S
        refine sap S (by simp [maxLen]; omega) (by omega) ?_; clear S; rintro p7 c7 a w - S
        rw [show encL os ++ [.int .i64 (nthG l k).user, .int .i64 (nthG l k).cnt, .int .i64 z.kind, .int .i64 z.user, .int .i64 z.num, str z.text, .slice z.p z.kids.length z.cap] = encL (os ++ [(⟨(nthG l k).user, (nthG l k).cnt, z⟩ : LSeen)]) from by rw [encL_append]; rfl, show os.length + 1 = (os ++ [(⟨(nthG l k).user, (nthG l k).cnt, z⟩ : LSeen)]).length from by simp] at S
        refine sq S ?_; clear S; intro a S
        refine wl_nil ?_
        refine xbn ?_
        refine xtn ?_
        refine c_region ?_
        iterate 2 (refine sq S ?_; clear S; intro a S)
        refine wl_nil ?_
        refine xtn ?_
        have h1 := S.wd.facts (AllI os) (by simp)
        have h2 := S.t z
        replace S := S.add (AllI.snoc (r := (⟨(nthG l k).user, (nthG l k).cnt, z⟩ : LSeen)) h1 h2)
        rw [w64 ((k : Int) + 1) (by omega) (by omega)] at S
        exact ⟨k + 1, os ++ [(⟨(nthG l k).user, (nthG l k).cnt, z⟩ : LSeen)], p7, c7, S.uu, ⟨hkl, by simp [hok], by omega⟩, S.sub _ _, by omega⟩
    · refine c_exit ?_
      iterate 2 (refine xte ?_)
      refine xbe ?_
      refine xtn ?_
      refine c_seq ?_
      refine c_region ?_
      iterate 2 (refine sq S ?_; clear S; intro a S)
      refine wl_nil ?_
      refine xtn ?_
      refine c_ret ?_
      have hrow := S.row q os.length
      have hnew := S.rowNew q os.length
      have hall := S.laterFact (M := M) (Φ := AllI os) (by simp)
      refine end1 S (fun _ => ?_)
      refine ⟨q, e, os, rfl, by omega, ?_⟩
      exact gl_own hrow hall (fun ad h hm => (hnew ad h).elim (fun h => h.elim) (fun h2 => by have := hM _ hm; omega))
/-- an item is taken to the front. -/
theorem St.pullT {w0 : World} {M0 : Nat → Prop} {ds : List Deferred} {a : Act} {w : World} {l : List Value} {bs bs' : List Wk.Item} {fs : List (World → Prop)} (x : Wk.Item) [hd : DropI bs x bs'] (S : St w0 M0 ds a w l bs fs) : St w0 M0 ds a w l (x :: bs') fs := S.perm _ hd.perm
theorem freshtwins_c (x y : List LSeen) (px py : Option Addr) (cx cy : Nat) (ta tb tc : LTerm) (w0 : World) (hxl : x.length ≤ 9223372036854775807) (hyl : y.length ≤ 9223372036854775807) (ht : Stable (fun _ => False) w0 LibF) (hx : Stable (fun _ => False) w0 (GlF px x)) (hy : Stable (fun _ => False) w0 (GlF py y)) (ha : Stable (fun _ => False) w0 (LtF ta)) (hb : Stable (fun _ => False) w0 (LtF tb)) (hc : Stable (fun _ => False) w0 (LtF tc)) :
    Ret Tryd.prog 5 [.slice px x.length cx, .slice py y.length cy, .agg ⟨[.int .i64 ta.kind, .int .i64 ta.user, .int .i64 ta.num, str ta.text, .slice ta.p ta.kids.length ta.cap, .int .i64 tb.kind, .int .i64 tb.user, .int .i64 tb.num, str tb.text, .slice tb.p tb.kids.length tb.cap, .int .i64 tc.kind, .int .i64 tc.user, .int .i64 tc.num, str tc.text, .slice tc.p tc.kids.length tc.cap]⟩] w0 (fun _ => False) fun v _ => v = .bool true := by
  refine enter Tryd.func5 rfl rfl (Wd.begin (fs := [TabF, LibF, GlF px x, GlF py y, LtF ta, LtF tb, LtF tc]) (by simp; exact ⟨ht.imp fun _ h => h.1, ht, hx, hy, ha, hb, hc⟩)) (fun a S => ?_)
  simp only [Tryd.ntmps5, List.length_cons, List.length_nil, Nat.reduceAdd, Nat.reduceSub, List.replicate_succ, List.replicate_zero, List.cons_append, List.nil_append] at S
  refine c_seq ?_
  refine c_region ?_
  refine sa S ?_; clear S; intro b5 a w S
  refine sq S ?_; clear S; intro a S
  refine wl_nil ?_
  refine xtn ?_
  iterate 2 (refine c_seq ?_)
  refine c_region ?_
  refine sr S (wakes16_c _ (S.mem.fact0 LibF)) ?_; clear S; rintro _ a w rfl S
  refine sq S ?_; clear S; intro a S
  rw [show (!true) = false from rfl] at S
  refine wl_nil ?_
  refine xtn ?_
  refine c_condF S ?_
  refine c_skip ?_
  refine xtn ?_
  refine c_seq ?_
  refine c_region ?_
  refine sq S ?_; clear S; intro a S
  refine sr S (seen16_c x px cx _ w hxl (foots_lt S) (S.mem.fact (GlF px x))) ?_; clear S; rintro _ a w ⟨p1, c1, l1, rfl, hl1, hf1⟩ S
  replace S := S.add hf1
  refine sq S ?_; clear S; intro a S
  refine sr S (seen16_c y py cy _ w hyl (foots_lt S) (S.mem.fact (GlF py y))) ?_; clear S; rintro _ a w ⟨p2, c2, l2, rfl, hl2, hf2⟩ S
  replace S := S.add hf2
  iterate 2 (refine sq S ?_; clear S; intro a S)
  refine wl_nil ?_
  refine xtn ?_
  refine c_seq ?_
  refine c_drwe6 (.q 0 (.q 1 (.q 3 (.q 4 (.q 6 (.q 7 (.b4 2 9 10 11 (.b4 5 9 10 11 (.b4 8 9 10 11 (.b3 9 10 11 (.b2 10 11 (.l 11 (.l 12 (.l 13 (.l 14 (.e))))) (.l 10 (.l 12 (.l 13 (.l 14 (.e)))))) (.b2 9 11 (.l 11 (.l 12 (.l 13 (.l 14 (.e))))) (.l 9 (.l 12 (.l 13 (.l 14 (.e)))))) (.b2 9 10 (.l 10 (.l 12 (.l 13 (.l 14 (.e))))) (.l 9 (.l 12 (.l 13 (.l 14 (.e))))))) (.b3 8 10 11 (.b2 10 11 (.l 11 (.l 12 (.l 13 (.l 14 (.e))))) (.l 10 (.l 12 (.l 13 (.l 14 (.e)))))) (.b2 8 11 (.l 11 (.l 12 (.l 13 (.l 14 (.e))))) (.l 8 (.l 12 (.l 13 (.l 14 (.e)))))) (.b2 8 10 (.l 10 (.l 12 (.l 13 (.l 14 (.e))))) (.l 8 (.l 12 (.l 13 (.l 14 (.e))))))) (.b3 8 9 11 (.b2 9 11 (.l 11 (.l 12 (.l 13 (.l 14 (.e))))) (.l 9 (.l 12 (.l 13 (.l 14 (.e)))))) (.b2 8 11 (.l 11 (.l 12 (.l 13 (.l 14 (.e))))) (.l 8 (.l 12 (.l 13 (.l 14 (.e)))))) (.b2 8 9 (.l 9 (.l 12 (.l 13 (.l 14 (.e))))) (.l 8 (.l 12 (.l 13 (.l 14 (.e))))))) (.b3 8 9 10 (.b2 9 10 (.l 10 (.l 12 (.l 13 (.l 14 (.e))))) (.l 9 (.l 12 (.l 13 (.l 14 (.e)))))) (.b2 8 10 (.l 10 (.l 12 (.l 13 (.l 14 (.e))))) (.l 8 (.l 12 (.l 13 (.l 14 (.e)))))) (.b2 8 9 (.l 9 (.l 12 (.l 13 (.l 14 (.e))))) (.l 8 (.l 12 (.l 13 (.l 14 (.e)))))))) (.b3 5 10 11 (.b3 8 10 11 (.b2 10 11 (.l 11 (.l 12 (.l 13 (.l 14 (.e))))) (.l 10 (.l 12 (.l 13 (.l 14 (.e)))))) (.b2 8 11 (.l 11 (.l 12 (.l 13 (.l 14 (.e))))) (.l 8 (.l 12 (.l 13 (.l 14 (.e)))))) (.b2 8 10 (.l 10 (.l 12 (.l 13 (.l 14 (.e))))) (.l 8 (.l 12 (.l 13 (.l 14 (.e))))))) (.b2 5 11 (.b2 8 11 (.l 11 (.l 12 (.l 13 (.l 14 (.e))))) (.l 8 (.l 12 (.l 13 (.l 14 (.e)))))) (.l 5 (.l 8 (.l 12 (.l 13 (.l 14 (.e))))))) (.b2 5 10 (.b2 8 10 (.l 10 (.l 12 (.l 13 (.l 14 (.e))))) (.l 8 (.l 12 (.l 13 (.l 14 (.e)))))) (.l 5 (.l 8 (.l 12 (.l 13 (.l 14 (.e)))))))) (.b3 5 9 11 (.b3 8 9 11 (.b2 9 11 (.l 11 (.l 12 (.l 13 (.l 14 (.e))))) (.l 9 (.l 12 (.l 13 (.l 14 (.e)))))) (.b2 8 11 (.l 11 (.l 12 (.l 13 (.l 14 (.e))))) (.l 8 (.l 12 (.l 13 (.l 14 (.e)))))) (.b2 8 9 (.l 9 (.l 12 (.l 13 (.l 14 (.e))))) (.l 8 (.l 12 (.l 13 (.l 14 (.e))))))) (.b2 5 11 (.b2 8 11 (.l 11 (.l 12 (.l 13 (.l 14 (.e))))) (.l 8 (.l 12 (.l 13 (.l 14 (.e)))))) (.l 5 (.l 8 (.l 12 (.l 13 (.l 14 (.e))))))) (.b2 5 9 (.b2 8 9 (.l 9 (.l 12 (.l 13 (.l 14 (.e))))) (.l 8 (.l 12 (.l 13 (.l 14 (.e)))))) (.l 5 (.l 8 (.l 12 (.l 13 (.l 14 (.e)))))))) (.b3 5 9 10 (.b3 8 9 10 (.b2 9 10 (.l 10 (.l 12 (.l 13 (.l 14 (.e))))) (.l 9 (.l 12 (.l 13 (.l 14 (.e)))))) (.b2 8 10 (.l 10 (.l 12 (.l 13 (.l 14 (.e))))) (.l 8 (.l 12 (.l 13 (.l 14 (.e)))))) (.b2 8 9 (.l 9 (.l 12 (.l 13 (.l 14 (.e))))) (.l 8 (.l 12 (.l 13 (.l 14 (.e))))))) (.b2 5 10 (.b2 8 10 (.l 10 (.l 12 (.l 13 (.l 14 (.e))))) (.l 8 (.l 12 (.l 13 (.l 14 (.e)))))) (.l 5 (.l 8 (.l 12 (.l 13 (.l 14 (.e))))))) (.b2 5 9 (.b2 8 9 (.l 9 (.l 12 (.l 13 (.l 14 (.e))))) (.l 8 (.l 12 (.l 13 (.l 14 (.e)))))) (.l 5 (.l 8 (.l 12 (.l 13 (.l 14 (.e))))))))) (.b3 2 10 11 (.b3 5 10 11 (.b3 8 10 11 (.b2 10 11 (.l 11 (.l 12 (.l 13 (.l 14 (.e))))) (.l 10 (.l 12 (.l 13 (.l 14 (.e)))))) (.b2 8 11 (.l 11 (.l 12 (.l 13 (.l 14 (.e))))) (.l 8 (.l 12 (.l 13 (.l 14 (.e)))))) (.b2 8 10 (.l 10 (.l 12 (.l 13 (.l 14 (.e))))) (.l 8 (.l 12 (.l 13 (.l 14 (.e))))))) (.b2 5 11 (.b2 8 11 (.l 11 (.l 12 (.l 13 (.l 14 (.e))))) (.l 8 (.l 12 (.l 13 (.l 14 (.e)))))) (.l 5 (.l 8 (.l 12 (.l 13 (.l 14 (.e))))))) (.b2 5 10 (.b2 8 10 (.l 10 (.l 12 (.l 13 (.l 14 (.e))))) (.l 8 (.l 12 (.l 13 (.l 14 (.e)))))) (.l 5 (.l 8 (.l 12 (.l 13 (.l 14 (.e)))))))) (.b2 2 11 (.b2 5 11 (.b2 8 11 (.l 11 (.l 12 (.l 13 (.l 14 (.e))))) (.l 8 (.l 12 (.l 13 (.l 14 (.e)))))) (.l 5 (.l 8 (.l 12 (.l 13 (.l 14 (.e))))))) (.l 2 (.l 5 (.l 8 (.l 12 (.l 13 (.l 14 (.e)))))))) (.b2 2 10 (.b2 5 10 (.b2 8 10 (.l 10 (.l 12 (.l 13 (.l 14 (.e))))) (.l 8 (.l 12 (.l 13 (.l 14 (.e)))))) (.l 5 (.l 8 (.l 12 (.l 13 (.l 14 (.e))))))) (.l 2 (.l 5 (.l 8 (.l 12 (.l 13 (.l 14 (.e))))))))) (.b3 2 9 11 (.b3 5 9 11 (.b3 8 9 11 (.b2 9 11 (.l 11 (.l 12 (.l 13 (.l 14 (.e))))) (.l 9 (.l 12 (.l 13 (.l 14 (.e)))))) (.b2 8 11 (.l 11 (.l 12 (.l 13 (.l 14 (.e))))) (.l 8 (.l 12 (.l 13 (.l 14 (.e)))))) (.b2 8 9 (.l 9 (.l 12 (.l 13 (.l 14 (.e))))) (.l 8 (.l 12 (.l 13 (.l 14 (.e))))))) (.b2 5 11 (.b2 8 11 (.l 11 (.l 12 (.l 13 (.l 14 (.e))))) (.l 8 (.l 12 (.l 13 (.l 14 (.e)))))) (.l 5 (.l 8 (.l 12 (.l 13 (.l 14 (.e))))))) (.b2 5 9 (.b2 8 9 (.l 9 (.l 12 (.l 13 (.l 14 (.e))))) (.l 8 (.l 12 (.l 13 (.l 14 (.e)))))) (.l 5 (.l 8 (.l 12 (.l 13 (.l 14 (.e)))))))) (.b2 2 11 (.b2 5 11 (.b2 8 11 (.l 11 (.l 12 (.l 13 (.l 14 (.e))))) (.l 8 (.l 12 (.l 13 (.l 14 (.e)))))) (.l 5 (.l 8 (.l 12 (.l 13 (.l 14 (.e))))))) (.l 2 (.l 5 (.l 8 (.l 12 (.l 13 (.l 14 (.e)))))))) (.b2 2 9 (.b2 5 9 (.b2 8 9 (.l 9 (.l 12 (.l 13 (.l 14 (.e))))) (.l 8 (.l 12 (.l 13 (.l 14 (.e)))))) (.l 5 (.l 8 (.l 12 (.l 13 (.l 14 (.e))))))) (.l 2 (.l 5 (.l 8 (.l 12 (.l 13 (.l 14 (.e))))))))) (.b3 2 9 10 (.b3 5 9 10 (.b3 8 9 10 (.b2 9 10 (.l 10 (.l 12 (.l 13 (.l 14 (.e))))) (.l 9 (.l 12 (.l 13 (.l 14 (.e)))))) (.b2 8 10 (.l 10 (.l 12 (.l 13 (.l 14 (.e))))) (.l 8 (.l 12 (.l 13 (.l 14 (.e)))))) (.b2 8 9 (.l 9 (.l 12 (.l 13 (.l 14 (.e))))) (.l 8 (.l 12 (.l 13 (.l 14 (.e))))))) (.b2 5 10 (.b2 8 10 (.l 10 (.l 12 (.l 13 (.l 14 (.e))))) (.l 8 (.l 12 (.l 13 (.l 14 (.e)))))) (.l 5 (.l 8 (.l 12 (.l 13 (.l 14 (.e))))))) (.b2 5 9 (.b2 8 9 (.l 9 (.l 12 (.l 13 (.l 14 (.e))))) (.l 8 (.l 12 (.l 13 (.l 14 (.e)))))) (.l 5 (.l 8 (.l 12 (.l 13 (.l 14 (.e)))))))) (.b2 2 10 (.b2 5 10 (.b2 8 10 (.l 10 (.l 12 (.l 13 (.l 14 (.e))))) (.l 8 (.l 12 (.l 13 (.l 14 (.e)))))) (.l 5 (.l 8 (.l 12 (.l 13 (.l 14 (.e))))))) (.l 2 (.l 5 (.l 8 (.l 12 (.l 13 (.l 14 (.e)))))))) (.b2 2 9 (.b2 5 9 (.b2 8 9 (.l 9 (.l 12 (.l 13 (.l 14 (.e))))) (.l 8 (.l 12 (.l 13 (.l 14 (.e)))))) (.l 5 (.l 8 (.l 12 (.l 13 (.l 14 (.e))))))) (.l 2 (.l 5 (.l 8 (.l 12 (.l 13 (.l 14 (.e)))))))))))))))) S (fun (b : Nat) (d : Nat) (g : Nat) (s : LTerm) (x1 : LTerm) (y1 : LTerm) uu => [(7, .pointer (some ⟨b, 0, none⟩)), (0, .pointer (some ⟨d, 0, none⟩)), (0, .pointer (some ⟨g, 0, none⟩)), (13, uu 23), (0, uu 24), (0, uu 25), (0, uu 26), (0, uu 27), (0, uu 28), (0, uu 29), (0, uu 30), (0, uu 31)]) [Wk.box b5 43 [.int .i64 ta.kind, .int .i64 ta.user, .int .i64 ta.num, str ta.text, .slice ta.p ta.kids.length ta.cap, .int .i64 tb.kind, .int .i64 tb.user, .int .i64 tb.num, str tb.text, .slice tb.p tb.kids.length tb.cap, .int .i64 tc.kind, .int .i64 tc.user, .int .i64 tc.num, str tc.text, .slice tc.p tc.kids.length tc.cap]] (fun (b : Nat) (d : Nat) (g : Nat) (s : LTerm) (x1 : LTerm) (y1 : LTerm) => [Wk.box b 24 s.cells, Wk.box d 24 x1.cells, Wk.box g 24 y1.cells]) (fun (b : Nat) (d : Nat) (g : Nat) (s : LTerm) (x1 : LTerm) (y1 : LTerm) => [LtF y1, LtF x1, LtF s, GlF p2 l2, GlF p1 l1, TabF, LibF]) (fun (b : Nat) (d : Nat) (g : Nat) (s : LTerm) (x1 : LTerm) (y1 : LTerm) => True) ?_ ?_
  · intro w S
    iterate 6 (refine tq S ?_; clear S; intro a S)
    refine tb4 ?_ ?_ ?_ ?_
    · refine sr S (small16_c 24 ta _ w (by omega) (foots_lt S) (S.t ta)) ?_; clear S; rintro _ _ w ⟨s, rfl, -, hsf⟩ S
      replace S := S.add hsf
      refine te S ?_
      refine tb4 ?_ ?_ ?_ ?_
      · refine sr S (small16_c 24 tb _ w (by omega) (foots_lt S) (S.t tb)) ?_; clear S; rintro _ _ w ⟨x1, rfl, -, hxf⟩ S
        replace S := S.add hxf
        refine te S ?_
        refine tb4 ?_ ?_ ?_ ?_
        · refine sr S (small16_c 24 tc _ w (by omega) (foots_lt S) (S.t tc)) ?_; clear S; rintro _ _ w ⟨y1, rfl, -, hyf⟩ S
          replace S := S.add hyf
          refine te S ?_
          refine tb3 ?_ ?_ ?_
          · refine sa S ?_; clear S; intro b7 a w S
            refine te S ?_
            refine tb2 ?_ ?_
            · refine sa S ?_; clear S; intro b8 a w S
              refine te S ?_
              refine tl ?_
              refine sa S ?_; clear S; intro b9 a w S
              refine te S ?_
              refine tl ?_
              refine sw S ?_; clear S; intro a w S
              refine te S ?_
              refine tl ?_
              refine sw S ?_; clear S; intro a w S
              refine te S ?_
              refine tl ?_
              refine sw S ?_; clear S; intro a w S
              refine te S ?_
              refine tn ?_
              exact ⟨b7, b8, b9, s, x1, y1, S.uu, trivial, (St.pullT (Wk.box b7 24 s.cells) (St.pullT (Wk.box b8 24 x1.cells) (St.pullT (Wk.box b9 24 y1.cells) S))).sub _ _⟩
            · refine sa S ?_; clear S; intro b9 a w S
              refine te S ?_
              refine tl ?_
              refine sa S ?_; clear S; intro b8 a w S
              refine te S ?_
              refine tl ?_
              refine sw S ?_; clear S; intro a w S
              refine te S ?_
              refine tl ?_
              refine sw S ?_; clear S; intro a w S
              refine te S ?_
              refine tl ?_
              refine sw S ?_; clear S; intro a w S
              refine te S ?_
              refine tn ?_
              exact ⟨b7, b8, b9, s, x1, y1, S.uu, trivial, (St.pullT (Wk.box b7 24 s.cells) (St.pullT (Wk.box b8 24 x1.cells) (St.pullT (Wk.box b9 24 y1.cells) S))).sub _ _⟩
          · refine sa S ?_; clear S; intro b8 a w S
            refine te S ?_
            refine tb2 ?_ ?_
            · refine sa S ?_; clear S; intro b7 a w S
              refine te S ?_
              refine tl ?_
              refine sa S ?_; clear S; intro b9 a w S
              refine te S ?_
              refine tl ?_
              refine sw S ?_; clear S; intro a w S
              refine te S ?_
              refine tl ?_
              refine sw S ?_; clear S; intro a w S
              refine te S ?_
              refine tl ?_
              refine sw S ?_; clear S; intro a w S
              refine te S ?_
              refine tn ?_
              exact ⟨b7, b8, b9, s, x1, y1, S.uu, trivial, (St.pullT (Wk.box b7 24 s.cells) (St.pullT (Wk.box b8 24 x1.cells) (St.pullT (Wk.box b9 24 y1.cells) S))).sub _ _⟩
            · refine sa S ?_; clear S; intro b9 a w S
              refine te S ?_
              refine tl ?_
              refine sa S ?_; clear S; intro b7 a w S
              refine te S ?_
              refine tl ?_
              refine sw S ?_; clear S; intro a w S
              refine te S ?_
              refine tl ?_
              refine sw S ?_; clear S; intro a w S
              refine te S ?_
              refine tl ?_
              refine sw S ?_; clear S; intro a w S
              refine te S ?_
              refine tn ?_
              exact ⟨b7, b8, b9, s, x1, y1, S.uu, trivial, (St.pullT (Wk.box b7 24 s.cells) (St.pullT (Wk.box b8 24 x1.cells) (St.pullT (Wk.box b9 24 y1.cells) S))).sub _ _⟩
          · refine sa S ?_; clear S; intro b9 a w S
            refine te S ?_
            refine tb2 ?_ ?_
            · refine sa S ?_; clear S; intro b7 a w S
              refine te S ?_
              refine tl ?_
              refine sa S ?_; clear S; intro b8 a w S
              refine te S ?_
              refine tl ?_
              refine sw S ?_; clear S; intro a w S
              refine te S ?_
              refine tl ?_
              refine sw S ?_; clear S; intro a w S
              refine te S ?_
              refine tl ?_
              refine sw S ?_; clear S; intro a w S
              refine te S ?_
              refine tn ?_
              exact ⟨b7, b8, b9, s, x1, y1, S.uu, trivial, (St.pullT (Wk.box b7 24 s.cells) (St.pullT (Wk.box b8 24 x1.cells) (St.pullT (Wk.box b9 24 y1.cells) S))).sub _ _⟩
            · refine sa S ?_; clear S; intro b8 a w S
              refine te S ?_
              refine tl ?_
              refine sa S ?_; clear S; intro b7 a w S
              refine te S ?_
              refine tl ?_
              refine sw S ?_; clear S; intro a w S
              refine te S ?_
              refine tl ?_
              refine sw S ?_; clear S; intro a w S
              refine te S ?_
              refine tl ?_
              refine sw S ?_; clear S; intro a w S
              refine te S ?_
              refine tn ?_
              exact ⟨b7, b8, b9, s, x1, y1, S.uu, trivial, (St.pullT (Wk.box b7 24 s.cells) (St.pullT (Wk.box b8 24 x1.cells) (St.pullT (Wk.box b9 24 y1.cells) S))).sub _ _⟩
        · refine sa S ?_; clear S; intro b7 a w S
          refine te S ?_
          refine tb3 ?_ ?_ ?_
          · refine sr S (small16_c 24 tc _ w (by omega) (foots_lt S) (S.t tc)) ?_; clear S; rintro _ _ w ⟨y1, rfl, -, hyf⟩ S
            replace S := S.add hyf
            refine te S ?_
            refine tb2 ?_ ?_
            · refine sa S ?_; clear S; intro b8 a w S
              refine te S ?_
              refine tl ?_
              refine sa S ?_; clear S; intro b9 a w S
              refine te S ?_
              refine tl ?_
              refine sw S ?_; clear S; intro a w S
              refine te S ?_
              refine tl ?_
              refine sw S ?_; clear S; intro a w S
              refine te S ?_
              refine tl ?_
              refine sw S ?_; clear S; intro a w S
              refine te S ?_
              refine tn ?_
              exact ⟨b7, b8, b9, s, x1, y1, S.uu, trivial, (St.pullT (Wk.box b7 24 s.cells) (St.pullT (Wk.box b8 24 x1.cells) (St.pullT (Wk.box b9 24 y1.cells) S))).sub _ _⟩
            · refine sa S ?_; clear S; intro b9 a w S
              refine te S ?_
              refine tl ?_
              refine sa S ?_; clear S; intro b8 a w S
              refine te S ?_
              refine tl ?_
              refine sw S ?_; clear S; intro a w S
              refine te S ?_
              refine tl ?_
              refine sw S ?_; clear S; intro a w S
              refine te S ?_
              refine tl ?_
              refine sw S ?_; clear S; intro a w S
              refine te S ?_
              refine tn ?_
              exact ⟨b7, b8, b9, s, x1, y1, S.uu, trivial, (St.pullT (Wk.box b7 24 s.cells) (St.pullT (Wk.box b8 24 x1.cells) (St.pullT (Wk.box b9 24 y1.cells) S))).sub _ _⟩
          · refine sa S ?_; clear S; intro b8 a w S
            refine te S ?_
            refine tb2 ?_ ?_
            · refine sr S (small16_c 24 tc _ w (by omega) (foots_lt S) (S.t tc)) ?_; clear S; rintro _ _ w ⟨y1, rfl, -, hyf⟩ S
              replace S := S.add hyf
              refine te S ?_
              refine tl ?_
              refine sa S ?_; clear S; intro b9 a w S
              refine te S ?_
              refine tl ?_
              refine sw S ?_; clear S; intro a w S
              refine te S ?_
              refine tl ?_
              refine sw S ?_; clear S; intro a w S
              refine te S ?_
              refine tl ?_
              refine sw S ?_; clear S; intro a w S
              refine te S ?_
              refine tn ?_
              exact ⟨b7, b8, b9, s, x1, y1, S.uu, trivial, (St.pullT (Wk.box b7 24 s.cells) (St.pullT (Wk.box b8 24 x1.cells) (St.pullT (Wk.box b9 24 y1.cells) S))).sub _ _⟩
            · refine sa S ?_; clear S; intro b9 a w S
              refine te S ?_
              refine tl ?_
              refine sr S (small16_c 24 tc _ w (by omega) (foots_lt S) (S.t tc)) ?_; clear S; rintro _ _ w ⟨y1, rfl, -, hyf⟩ S
              replace S := S.add hyf
              refine te S ?_
              refine tl ?_
              refine sw S ?_; clear S; intro a w S
              refine te S ?_
              refine tl ?_
              refine sw S ?_; clear S; intro a w S
              refine te S ?_
              refine tl ?_
              refine sw S ?_; clear S; intro a w S
              refine te S ?_
              refine tn ?_
              exact ⟨b7, b8, b9, s, x1, y1, S.uu, trivial, (St.pullT (Wk.box b7 24 s.cells) (St.pullT (Wk.box b8 24 x1.cells) (St.pullT (Wk.box b9 24 y1.cells) S))).sub _ _⟩
          · refine sa S ?_; clear S; intro b9 a w S
            refine te S ?_
            refine tb2 ?_ ?_
            · refine sr S (small16_c 24 tc _ w (by omega) (foots_lt S) (S.t tc)) ?_; clear S; rintro _ _ w ⟨y1, rfl, -, hyf⟩ S
              replace S := S.add hyf
              refine te S ?_
              refine tl ?_
              refine sa S ?_; clear S; intro b8 a w S
              refine te S ?_
              refine tl ?_
              refine sw S ?_; clear S; intro a w S
              refine te S ?_
              refine tl ?_
              refine sw S ?_; clear S; intro a w S
              refine te S ?_
              refine tl ?_
              refine sw S ?_; clear S; intro a w S
              refine te S ?_
              refine tn ?_
              exact ⟨b7, b8, b9, s, x1, y1, S.uu, trivial, (St.pullT (Wk.box b7 24 s.cells) (St.pullT (Wk.box b8 24 x1.cells) (St.pullT (Wk.box b9 24 y1.cells) S))).sub _ _⟩
            · refine sa S ?_; clear S; intro b8 a w S
              refine te S ?_
              refine tl ?_
              refine sr S (small16_c 24 tc _ w (by omega) (foots_lt S) (S.t tc)) ?_; clear S; rintro _ _ w ⟨y1, rfl, -, hyf⟩ S
              replace S := S.add hyf
              refine te S ?_
              refine tl ?_
              refine sw S ?_; clear S; intro a w S
              refine te S ?_
              refine tl ?_
              refine sw S ?_; clear S; intro a w S
              refine te S ?_
              refine tl ?_
              refine sw S ?_; clear S; intro a w S
              refine te S ?_
              refine tn ?_
              exact ⟨b7, b8, b9, s, x1, y1, S.uu, trivial, (St.pullT (Wk.box b7 24 s.cells) (St.pullT (Wk.box b8 24 x1.cells) (St.pullT (Wk.box b9 24 y1.cells) S))).sub _ _⟩
        · refine sa S ?_; clear S; intro b8 a w S
          refine te S ?_
          refine tb3 ?_ ?_ ?_
          · refine sr S (small16_c 24 tc _ w (by omega) (foots_lt S) (S.t tc)) ?_; clear S; rintro _ _ w ⟨y1, rfl, -, hyf⟩ S
            replace S := S.add hyf
            refine te S ?_
            refine tb2 ?_ ?_
            · refine sa S ?_; clear S; intro b7 a w S
              refine te S ?_
              refine tl ?_
              refine sa S ?_; clear S; intro b9 a w S
              refine te S ?_
              refine tl ?_
              refine sw S ?_; clear S; intro a w S
              refine te S ?_
              refine tl ?_
              refine sw S ?_; clear S; intro a w S
              refine te S ?_
              refine tl ?_
              refine sw S ?_; clear S; intro a w S
              refine te S ?_
              refine tn ?_
              exact ⟨b7, b8, b9, s, x1, y1, S.uu, trivial, (St.pullT (Wk.box b7 24 s.cells) (St.pullT (Wk.box b8 24 x1.cells) (St.pullT (Wk.box b9 24 y1.cells) S))).sub _ _⟩
            · refine sa S ?_; clear S; intro b9 a w S
              refine te S ?_
              refine tl ?_
              refine sa S ?_; clear S; intro b7 a w S
              refine te S ?_
              refine tl ?_
              refine sw S ?_; clear S; intro a w S
              refine te S ?_
              refine tl ?_
              refine sw S ?_; clear S; intro a w S
              refine te S ?_
              refine tl ?_
              refine sw S ?_; clear S; intro a w S
              refine te S ?_
              refine tn ?_
              exact ⟨b7, b8, b9, s, x1, y1, S.uu, trivial, (St.pullT (Wk.box b7 24 s.cells) (St.pullT (Wk.box b8 24 x1.cells) (St.pullT (Wk.box b9 24 y1.cells) S))).sub _ _⟩
          · refine sa S ?_; clear S; intro b7 a w S
            refine te S ?_
            refine tb2 ?_ ?_
            · refine sr S (small16_c 24 tc _ w (by omega) (foots_lt S) (S.t tc)) ?_; clear S; rintro _ _ w ⟨y1, rfl, -, hyf⟩ S
              replace S := S.add hyf
              refine te S ?_
              refine tl ?_
              refine sa S ?_; clear S; intro b9 a w S
              refine te S ?_
              refine tl ?_
              refine sw S ?_; clear S; intro a w S
              refine te S ?_
              refine tl ?_
              refine sw S ?_; clear S; intro a w S
              refine te S ?_
              refine tl ?_
              refine sw S ?_; clear S; intro a w S
              refine te S ?_
              refine tn ?_
              exact ⟨b7, b8, b9, s, x1, y1, S.uu, trivial, (St.pullT (Wk.box b7 24 s.cells) (St.pullT (Wk.box b8 24 x1.cells) (St.pullT (Wk.box b9 24 y1.cells) S))).sub _ _⟩
            · refine sa S ?_; clear S; intro b9 a w S
              refine te S ?_
              refine tl ?_
              refine sr S (small16_c 24 tc _ w (by omega) (foots_lt S) (S.t tc)) ?_; clear S; rintro _ _ w ⟨y1, rfl, -, hyf⟩ S
              replace S := S.add hyf
              refine te S ?_
              refine tl ?_
              refine sw S ?_; clear S; intro a w S
              refine te S ?_
              refine tl ?_
              refine sw S ?_; clear S; intro a w S
              refine te S ?_
              refine tl ?_
              refine sw S ?_; clear S; intro a w S
              refine te S ?_
              refine tn ?_
              exact ⟨b7, b8, b9, s, x1, y1, S.uu, trivial, (St.pullT (Wk.box b7 24 s.cells) (St.pullT (Wk.box b8 24 x1.cells) (St.pullT (Wk.box b9 24 y1.cells) S))).sub _ _⟩
          · refine sa S ?_; clear S; intro b9 a w S
            refine te S ?_
            refine tb2 ?_ ?_
            · refine sr S (small16_c 24 tc _ w (by omega) (foots_lt S) (S.t tc)) ?_; clear S; rintro _ _ w ⟨y1, rfl, -, hyf⟩ S
              replace S := S.add hyf
              refine te S ?_
              refine tl ?_
              refine sa S ?_; clear S; intro b7 a w S
              refine te S ?_
              refine tl ?_
              refine sw S ?_; clear S; intro a w S
              refine te S ?_
              refine tl ?_
              refine sw S ?_; clear S; intro a w S
              refine te S ?_
              refine tl ?_
              refine sw S ?_; clear S; intro a w S
              refine te S ?_
              refine tn ?_
              exact ⟨b7, b8, b9, s, x1, y1, S.uu, trivial, (St.pullT (Wk.box b7 24 s.cells) (St.pullT (Wk.box b8 24 x1.cells) (St.pullT (Wk.box b9 24 y1.cells) S))).sub _ _⟩
            · refine sa S ?_; clear S; intro b7 a w S
              refine te S ?_
              refine tl ?_
              refine sr S (small16_c 24 tc _ w (by omega) (foots_lt S) (S.t tc)) ?_; clear S; rintro _ _ w ⟨y1, rfl, -, hyf⟩ S
              replace S := S.add hyf
              refine te S ?_
              refine tl ?_
              refine sw S ?_; clear S; intro a w S
              refine te S ?_
              refine tl ?_
              refine sw S ?_; clear S; intro a w S
              refine te S ?_
              refine tl ?_
              refine sw S ?_; clear S; intro a w S
              refine te S ?_
              refine tn ?_
              exact ⟨b7, b8, b9, s, x1, y1, S.uu, trivial, (St.pullT (Wk.box b7 24 s.cells) (St.pullT (Wk.box b8 24 x1.cells) (St.pullT (Wk.box b9 24 y1.cells) S))).sub _ _⟩
        · refine sa S ?_; clear S; intro b9 a w S
          refine te S ?_
          refine tb3 ?_ ?_ ?_
          · refine sr S (small16_c 24 tc _ w (by omega) (foots_lt S) (S.t tc)) ?_; clear S; rintro _ _ w ⟨y1, rfl, -, hyf⟩ S
            replace S := S.add hyf
            refine te S ?_
            refine tb2 ?_ ?_
            · refine sa S ?_; clear S; intro b7 a w S
              refine te S ?_
              refine tl ?_
              refine sa S ?_; clear S; intro b8 a w S
              refine te S ?_
              refine tl ?_
              refine sw S ?_; clear S; intro a w S
              refine te S ?_
              refine tl ?_
              refine sw S ?_; clear S; intro a w S
              refine te S ?_
              refine tl ?_
              refine sw S ?_; clear S; intro a w S
              refine te S ?_
              refine tn ?_
              exact ⟨b7, b8, b9, s, x1, y1, S.uu, trivial, (St.pullT (Wk.box b7 24 s.cells) (St.pullT (Wk.box b8 24 x1.cells) (St.pullT (Wk.box b9 24 y1.cells) S))).sub _ _⟩
            · refine sa S ?_; clear S; intro b8 a w S
              refine te S ?_
              refine tl ?_
              refine sa S ?_; clear S; intro b7 a w S
              refine te S ?_
              refine tl ?_
              refine sw S ?_; clear S; intro a w S
              refine te S ?_
              refine tl ?_
              refine sw S ?_; clear S; intro a w S
              refine te S ?_
              refine tl ?_
              refine sw S ?_; clear S; intro a w S
              refine te S ?_
              refine tn ?_
              exact ⟨b7, b8, b9, s, x1, y1, S.uu, trivial, (St.pullT (Wk.box b7 24 s.cells) (St.pullT (Wk.box b8 24 x1.cells) (St.pullT (Wk.box b9 24 y1.cells) S))).sub _ _⟩
          · refine sa S ?_; clear S; intro b7 a w S
            refine te S ?_
            refine tb2 ?_ ?_
            · refine sr S (small16_c 24 tc _ w (by omega) (foots_lt S) (S.t tc)) ?_; clear S; rintro _ _ w ⟨y1, rfl, -, hyf⟩ S
              replace S := S.add hyf
              refine te S ?_
              refine tl ?_
              refine sa S ?_; clear S; intro b8 a w S
              refine te S ?_
              refine tl ?_
              refine sw S ?_; clear S; intro a w S
              refine te S ?_
              refine tl ?_
              refine sw S ?_; clear S; intro a w S
              refine te S ?_
              refine tl ?_
              refine sw S ?_; clear S; intro a w S
              refine te S ?_
              refine tn ?_
              exact ⟨b7, b8, b9, s, x1, y1, S.uu, trivial, (St.pullT (Wk.box b7 24 s.cells) (St.pullT (Wk.box b8 24 x1.cells) (St.pullT (Wk.box b9 24 y1.cells) S))).sub _ _⟩
            · refine sa S ?_; clear S; intro b8 a w S
              refine te S ?_
              refine tl ?_
              refine sr S (small16_c 24 tc _ w (by omega) (foots_lt S) (S.t tc)) ?_; clear S; rintro _ _ w ⟨y1, rfl, -, hyf⟩ S
              replace S := S.add hyf
              refine te S ?_
              refine tl ?_
              refine sw S ?_; clear S; intro a w S
              refine te S ?_
              refine tl ?_
              refine sw S ?_; clear S; intro a w S
              refine te S ?_
              refine tl ?_
              refine sw S ?_; clear S; intro a w S
              refine te S ?_
              refine tn ?_
              exact ⟨b7, b8, b9, s, x1, y1, S.uu, trivial, (St.pullT (Wk.box b7 24 s.cells) (St.pullT (Wk.box b8 24 x1.cells) (St.pullT (Wk.box b9 24 y1.cells) S))).sub _ _⟩
          · refine sa S ?_; clear S; intro b8 a w S
            refine te S ?_
            refine tb2 ?_ ?_
            · refine sr S (small16_c 24 tc _ w (by omega) (foots_lt S) (S.t tc)) ?_; clear S; rintro _ _ w ⟨y1, rfl, -, hyf⟩ S
              replace S := S.add hyf
              refine te S ?_
              refine tl ?_
              refine sa S ?_; clear S; intro b7 a w S
              refine te S ?_
              refine tl ?_
              refine sw S ?_; clear S; intro a w S
              refine te S ?_
              refine tl ?_
              refine sw S ?_; clear S; intro a w S
              refine te S ?_
              refine tl ?_
              refine sw S ?_; clear S; intro a w S
              refine te S ?_
              refine tn ?_
              exact ⟨b7, b8, b9, s, x1, y1, S.uu, trivial, (St.pullT (Wk.box b7 24 s.cells) (St.pullT (Wk.box b8 24 x1.cells) (St.pullT (Wk.box b9 24 y1.cells) S))).sub _ _⟩
            · refine sa S ?_; clear S; intro b7 a w S
              refine te S ?_
              refine tl ?_
              refine sr S (small16_c 24 tc _ w (by omega) (foots_lt S) (S.t tc)) ?_; clear S; rintro _ _ w ⟨y1, rfl, -, hyf⟩ S
              replace S := S.add hyf
              refine te S ?_
              refine tl ?_
              refine sw S ?_; clear S; intro a w S
              refine te S ?_
              refine tl ?_
              refine sw S ?_; clear S; intro a w S
              refine te S ?_
              refine tl ?_
              refine sw S ?_; clear S; intro a w S
              refine te S ?_
              refine tn ?_
              exact ⟨b7, b8, b9, s, x1, y1, S.uu, trivial, (St.pullT (Wk.box b7 24 s.cells) (St.pullT (Wk.box b8 24 x1.cells) (St.pullT (Wk.box b9 24 y1.cells) S))).sub _ _⟩
      · refine sa S ?_; clear S; intro b7 a w S
        refine te S ?_
        refine tb3 ?_ ?_ ?_
        · refine sr S (small16_c 24 tb _ w (by omega) (foots_lt S) (S.t tb)) ?_; clear S; rintro _ _ w ⟨x1, rfl, -, hxf⟩ S
          replace S := S.add hxf
          refine te S ?_
          refine tb3 ?_ ?_ ?_
          · refine sr S (small16_c 24 tc _ w (by omega) (foots_lt S) (S.t tc)) ?_; clear S; rintro _ _ w ⟨y1, rfl, -, hyf⟩ S
            replace S := S.add hyf
            refine te S ?_
            refine tb2 ?_ ?_
            · refine sa S ?_; clear S; intro b8 a w S
              refine te S ?_
              refine tl ?_
              refine sa S ?_; clear S; intro b9 a w S
              refine te S ?_
              refine tl ?_
              refine sw S ?_; clear S; intro a w S
              refine te S ?_
              refine tl ?_
              refine sw S ?_; clear S; intro a w S
              refine te S ?_
              refine tl ?_
              refine sw S ?_; clear S; intro a w S
              refine te S ?_
              refine tn ?_
              exact ⟨b7, b8, b9, s, x1, y1, S.uu, trivial, (St.pullT (Wk.box b7 24 s.cells) (St.pullT (Wk.box b8 24 x1.cells) (St.pullT (Wk.box b9 24 y1.cells) S))).sub _ _⟩
            · refine sa S ?_; clear S; intro b9 a w S
              refine te S ?_
              refine tl ?_
              refine sa S ?_; clear S; intro b8 a w S
              refine te S ?_
              refine tl ?_
              refine sw S ?_; clear S; intro a w S
              refine te S ?_
              refine tl ?_
              refine sw S ?_; clear S; intro a w S
              refine te S ?_
              refine tl ?_
              refine sw S ?_; clear S; intro a w S
              refine te S ?_
              refine tn ?_
              exact ⟨b7, b8, b9, s, x1, y1, S.uu, trivial, (St.pullT (Wk.box b7 24 s.cells) (St.pullT (Wk.box b8 24 x1.cells) (St.pullT (Wk.box b9 24 y1.cells) S))).sub _ _⟩
          · refine sa S ?_; clear S; intro b8 a w S
            refine te S ?_
            refine tb2 ?_ ?_
            · refine sr S (small16_c 24 tc _ w (by omega) (foots_lt S) (S.t tc)) ?_; clear S; rintro _ _ w ⟨y1, rfl, -, hyf⟩ S
              replace S := S.add hyf
              refine te S ?_
              refine tl ?_
              refine sa S ?_; clear S; intro b9 a w S
              refine te S ?_
              refine tl ?_
              refine sw S ?_; clear S; intro a w S
              refine te S ?_
              refine tl ?_
              refine sw S ?_; clear S; intro a w S
              refine te S ?_
              refine tl ?_
              refine sw S ?_; clear S; intro a w S
              refine te S ?_
              refine tn ?_
              exact ⟨b7, b8, b9, s, x1, y1, S.uu, trivial, (St.pullT (Wk.box b7 24 s.cells) (St.pullT (Wk.box b8 24 x1.cells) (St.pullT (Wk.box b9 24 y1.cells) S))).sub _ _⟩
            · refine sa S ?_; clear S; intro b9 a w S
              refine te S ?_
              refine tl ?_
              refine sr S (small16_c 24 tc _ w (by omega) (foots_lt S) (S.t tc)) ?_; clear S; rintro _ _ w ⟨y1, rfl, -, hyf⟩ S
              replace S := S.add hyf
              refine te S ?_
              refine tl ?_
              refine sw S ?_; clear S; intro a w S
              refine te S ?_
              refine tl ?_
              refine sw S ?_; clear S; intro a w S
              refine te S ?_
              refine tl ?_
              refine sw S ?_; clear S; intro a w S
              refine te S ?_
              refine tn ?_
              exact ⟨b7, b8, b9, s, x1, y1, S.uu, trivial, (St.pullT (Wk.box b7 24 s.cells) (St.pullT (Wk.box b8 24 x1.cells) (St.pullT (Wk.box b9 24 y1.cells) S))).sub _ _⟩
          · refine sa S ?_; clear S; intro b9 a w S
            refine te S ?_
            refine tb2 ?_ ?_
            · refine sr S (small16_c 24 tc _ w (by omega) (foots_lt S) (S.t tc)) ?_; clear S; rintro _ _ w ⟨y1, rfl, -, hyf⟩ S
              replace S := S.add hyf
              refine te S ?_
              refine tl ?_
              refine sa S ?_; clear S; intro b8 a w S
              refine te S ?_
              refine tl ?_
              refine sw S ?_; clear S; intro a w S
              refine te S ?_
              refine tl ?_
              refine sw S ?_; clear S; intro a w S
              refine te S ?_
              refine tl ?_
              refine sw S ?_; clear S; intro a w S
              refine te S ?_
              refine tn ?_
              exact ⟨b7, b8, b9, s, x1, y1, S.uu, trivial, (St.pullT (Wk.box b7 24 s.cells) (St.pullT (Wk.box b8 24 x1.cells) (St.pullT (Wk.box b9 24 y1.cells) S))).sub _ _⟩
            · refine sa S ?_; clear S; intro b8 a w S
              refine te S ?_
              refine tl ?_
              refine sr S (small16_c 24 tc _ w (by omega) (foots_lt S) (S.t tc)) ?_; clear S; rintro _ _ w ⟨y1, rfl, -, hyf⟩ S
              replace S := S.add hyf
              refine te S ?_
              refine tl ?_
              refine sw S ?_; clear S; intro a w S
              refine te S ?_
              refine tl ?_
              refine sw S ?_; clear S; intro a w S
              refine te S ?_
              refine tl ?_
              refine sw S ?_; clear S; intro a w S
              refine te S ?_
              refine tn ?_
              exact ⟨b7, b8, b9, s, x1, y1, S.uu, trivial, (St.pullT (Wk.box b7 24 s.cells) (St.pullT (Wk.box b8 24 x1.cells) (St.pullT (Wk.box b9 24 y1.cells) S))).sub _ _⟩
        · refine sa S ?_; clear S; intro b8 a w S
          refine te S ?_
          refine tb2 ?_ ?_
          · refine sr S (small16_c 24 tb _ w (by omega) (foots_lt S) (S.t tb)) ?_; clear S; rintro _ _ w ⟨x1, rfl, -, hxf⟩ S
            replace S := S.add hxf
            refine te S ?_
            refine tb2 ?_ ?_
            · refine sr S (small16_c 24 tc _ w (by omega) (foots_lt S) (S.t tc)) ?_; clear S; rintro _ _ w ⟨y1, rfl, -, hyf⟩ S
              replace S := S.add hyf
              refine te S ?_
              refine tl ?_
              refine sa S ?_; clear S; intro b9 a w S
              refine te S ?_
              refine tl ?_
              refine sw S ?_; clear S; intro a w S
              refine te S ?_
              refine tl ?_
              refine sw S ?_; clear S; intro a w S
              refine te S ?_
              refine tl ?_
              refine sw S ?_; clear S; intro a w S
              refine te S ?_
              refine tn ?_
              exact ⟨b7, b8, b9, s, x1, y1, S.uu, trivial, (St.pullT (Wk.box b7 24 s.cells) (St.pullT (Wk.box b8 24 x1.cells) (St.pullT (Wk.box b9 24 y1.cells) S))).sub _ _⟩
            · refine sa S ?_; clear S; intro b9 a w S
              refine te S ?_
              refine tl ?_
              refine sr S (small16_c 24 tc _ w (by omega) (foots_lt S) (S.t tc)) ?_; clear S; rintro _ _ w ⟨y1, rfl, -, hyf⟩ S
              replace S := S.add hyf
              refine te S ?_
              refine tl ?_
              refine sw S ?_; clear S; intro a w S
              refine te S ?_
              refine tl ?_
              refine sw S ?_; clear S; intro a w S
              refine te S ?_
              refine tl ?_
              refine sw S ?_; clear S; intro a w S
              refine te S ?_
              refine tn ?_
              exact ⟨b7, b8, b9, s, x1, y1, S.uu, trivial, (St.pullT (Wk.box b7 24 s.cells) (St.pullT (Wk.box b8 24 x1.cells) (St.pullT (Wk.box b9 24 y1.cells) S))).sub _ _⟩
          · refine sa S ?_; clear S; intro b9 a w S
            refine te S ?_
            refine tl ?_
            refine sr S (small16_c 24 tb _ w (by omega) (foots_lt S) (S.t tb)) ?_; clear S; rintro _ _ w ⟨x1, rfl, -, hxf⟩ S
            replace S := S.add hxf
            refine te S ?_
            refine tl ?_
            refine sr S (small16_c 24 tc _ w (by omega) (foots_lt S) (S.t tc)) ?_; clear S; rintro _ _ w ⟨y1, rfl, -, hyf⟩ S
            replace S := S.add hyf
            refine te S ?_
            refine tl ?_
            refine sw S ?_; clear S; intro a w S
            refine te S ?_
            refine tl ?_
            refine sw S ?_; clear S; intro a w S
            refine te S ?_
            refine tl ?_
            refine sw S ?_; clear S; intro a w S
            refine te S ?_
            refine tn ?_
            exact ⟨b7, b8, b9, s, x1, y1, S.uu, trivial, (St.pullT (Wk.box b7 24 s.cells) (St.pullT (Wk.box b8 24 x1.cells) (St.pullT (Wk.box b9 24 y1.cells) S))).sub _ _⟩
        · refine sa S ?_; clear S; intro b9 a w S
          refine te S ?_
          refine tb2 ?_ ?_
          · refine sr S (small16_c 24 tb _ w (by omega) (foots_lt S) (S.t tb)) ?_; clear S; rintro _ _ w ⟨x1, rfl, -, hxf⟩ S
            replace S := S.add hxf
            refine te S ?_
            refine tb2 ?_ ?_
            · refine sr S (small16_c 24 tc _ w (by omega) (foots_lt S) (S.t tc)) ?_; clear S; rintro _ _ w ⟨y1, rfl, -, hyf⟩ S
              replace S := S.add hyf
              refine te S ?_
              refine tl ?_
              refine sa S ?_; clear S; intro b8 a w S
              refine te S ?_
              refine tl ?_
              refine sw S ?_; clear S; intro a w S
              refine te S ?_
              refine tl ?_
              refine sw S ?_; clear S; intro a w S
              refine te S ?_
              refine tl ?_
              refine sw S ?_; clear S; intro a w S
              refine te S ?_
              refine tn ?_
              exact ⟨b7, b8, b9, s, x1, y1, S.uu, trivial, (St.pullT (Wk.box b7 24 s.cells) (St.pullT (Wk.box b8 24 x1.cells) (St.pullT (Wk.box b9 24 y1.cells) S))).sub _ _⟩
            · refine sa S ?_; clear S; intro b8 a w S
              refine te S ?_
              refine tl ?_
              refine sr S (small16_c 24 tc _ w (by omega) (foots_lt S) (S.t tc)) ?_; clear S; rintro _ _ w ⟨y1, rfl, -, hyf⟩ S
              replace S := S.add hyf
              refine te S ?_
              refine tl ?_
              refine sw S ?_; clear S; intro a w S
              refine te S ?_
              refine tl ?_
              refine sw S ?_; clear S; intro a w S
              refine te S ?_
              refine tl ?_
              refine sw S ?_; clear S; intro a w S
              refine te S ?_
              refine tn ?_
              exact ⟨b7, b8, b9, s, x1, y1, S.uu, trivial, (St.pullT (Wk.box b7 24 s.cells) (St.pullT (Wk.box b8 24 x1.cells) (St.pullT (Wk.box b9 24 y1.cells) S))).sub _ _⟩
          · refine sa S ?_; clear S; intro b8 a w S
            refine te S ?_
            refine tl ?_
            refine sr S (small16_c 24 tb _ w (by omega) (foots_lt S) (S.t tb)) ?_; clear S; rintro _ _ w ⟨x1, rfl, -, hxf⟩ S
            replace S := S.add hxf
            refine te S ?_
            refine tl ?_
            refine sr S (small16_c 24 tc _ w (by omega) (foots_lt S) (S.t tc)) ?_; clear S; rintro _ _ w ⟨y1, rfl, -, hyf⟩ S
            replace S := S.add hyf
            refine te S ?_
            refine tl ?_
            refine sw S ?_; clear S; intro a w S
            refine te S ?_
            refine tl ?_
            refine sw S ?_; clear S; intro a w S
            refine te S ?_
            refine tl ?_
            refine sw S ?_; clear S; intro a w S
            refine te S ?_
            refine tn ?_
            exact ⟨b7, b8, b9, s, x1, y1, S.uu, trivial, (St.pullT (Wk.box b7 24 s.cells) (St.pullT (Wk.box b8 24 x1.cells) (St.pullT (Wk.box b9 24 y1.cells) S))).sub _ _⟩
      · refine sa S ?_; clear S; intro b8 a w S
        refine te S ?_
        refine tb3 ?_ ?_ ?_
        · refine sr S (small16_c 24 tb _ w (by omega) (foots_lt S) (S.t tb)) ?_; clear S; rintro _ _ w ⟨x1, rfl, -, hxf⟩ S
          replace S := S.add hxf
          refine te S ?_
          refine tb3 ?_ ?_ ?_
          · refine sr S (small16_c 24 tc _ w (by omega) (foots_lt S) (S.t tc)) ?_; clear S; rintro _ _ w ⟨y1, rfl, -, hyf⟩ S
            replace S := S.add hyf
            refine te S ?_
            refine tb2 ?_ ?_
            · refine sa S ?_; clear S; intro b7 a w S
              refine te S ?_
              refine tl ?_
              refine sa S ?_; clear S; intro b9 a w S
              refine te S ?_
              refine tl ?_
              refine sw S ?_; clear S; intro a w S
              refine te S ?_
              refine tl ?_
              refine sw S ?_; clear S; intro a w S
              refine te S ?_
              refine tl ?_
              refine sw S ?_; clear S; intro a w S
              refine te S ?_
              refine tn ?_
              exact ⟨b7, b8, b9, s, x1, y1, S.uu, trivial, (St.pullT (Wk.box b7 24 s.cells) (St.pullT (Wk.box b8 24 x1.cells) (St.pullT (Wk.box b9 24 y1.cells) S))).sub _ _⟩
            · refine sa S ?_; clear S; intro b9 a w S
              refine te S ?_
              refine tl ?_
              refine sa S ?_; clear S; intro b7 a w S
              refine te S ?_
              refine tl ?_
              refine sw S ?_; clear S; intro a w S
              refine te S ?_
              refine tl ?_
              refine sw S ?_; clear S; intro a w S
              refine te S ?_
              refine tl ?_
              refine sw S ?_; clear S; intro a w S
              refine te S ?_
              refine tn ?_
              exact ⟨b7, b8, b9, s, x1, y1, S.uu, trivial, (St.pullT (Wk.box b7 24 s.cells) (St.pullT (Wk.box b8 24 x1.cells) (St.pullT (Wk.box b9 24 y1.cells) S))).sub _ _⟩
          · refine sa S ?_; clear S; intro b7 a w S
            refine te S ?_
            refine tb2 ?_ ?_
            · refine sr S (small16_c 24 tc _ w (by omega) (foots_lt S) (S.t tc)) ?_; clear S; rintro _ _ w ⟨y1, rfl, -, hyf⟩ S
              replace S := S.add hyf
              refine te S ?_
              refine tl ?_
              refine sa S ?_; clear S; intro b9 a w S
              refine te S ?_
              refine tl ?_
              refine sw S ?_; clear S; intro a w S
              refine te S ?_
              refine tl ?_
              refine sw S ?_; clear S; intro a w S
              refine te S ?_
              refine tl ?_
              refine sw S ?_; clear S; intro a w S
              refine te S ?_
              refine tn ?_
              exact ⟨b7, b8, b9, s, x1, y1, S.uu, trivial, (St.pullT (Wk.box b7 24 s.cells) (St.pullT (Wk.box b8 24 x1.cells) (St.pullT (Wk.box b9 24 y1.cells) S))).sub _ _⟩
            · refine sa S ?_; clear S; intro b9 a w S
              refine te S ?_
              refine tl ?_
              refine sr S (small16_c 24 tc _ w (by omega) (foots_lt S) (S.t tc)) ?_; clear S; rintro _ _ w ⟨y1, rfl, -, hyf⟩ S
              replace S := S.add hyf
              refine te S ?_
              refine tl ?_
              refine sw S ?_; clear S; intro a w S
              refine te S ?_
              refine tl ?_
              refine sw S ?_; clear S; intro a w S
              refine te S ?_
              refine tl ?_
              refine sw S ?_; clear S; intro a w S
              refine te S ?_
              refine tn ?_
              exact ⟨b7, b8, b9, s, x1, y1, S.uu, trivial, (St.pullT (Wk.box b7 24 s.cells) (St.pullT (Wk.box b8 24 x1.cells) (St.pullT (Wk.box b9 24 y1.cells) S))).sub _ _⟩
          · refine sa S ?_; clear S; intro b9 a w S
            refine te S ?_
            refine tb2 ?_ ?_
            · refine sr S (small16_c 24 tc _ w (by omega) (foots_lt S) (S.t tc)) ?_; clear S; rintro _ _ w ⟨y1, rfl, -, hyf⟩ S
              replace S := S.add hyf
              refine te S ?_
              refine tl ?_
              refine sa S ?_; clear S; intro b7 a w S
              refine te S ?_
              refine tl ?_
              refine sw S ?_; clear S; intro a w S
              refine te S ?_
              refine tl ?_
              refine sw S ?_; clear S; intro a w S
              refine te S ?_
              refine tl ?_
              refine sw S ?_; clear S; intro a w S
              refine te S ?_
              refine tn ?_
              exact ⟨b7, b8, b9, s, x1, y1, S.uu, trivial, (St.pullT (Wk.box b7 24 s.cells) (St.pullT (Wk.box b8 24 x1.cells) (St.pullT (Wk.box b9 24 y1.cells) S))).sub _ _⟩
            · refine sa S ?_; clear S; intro b7 a w S
              refine te S ?_
              refine tl ?_
              refine sr S (small16_c 24 tc _ w (by omega) (foots_lt S) (S.t tc)) ?_; clear S; rintro _ _ w ⟨y1, rfl, -, hyf⟩ S
              replace S := S.add hyf
              refine te S ?_
              refine tl ?_
              refine sw S ?_; clear S; intro a w S
              refine te S ?_
              refine tl ?_
              refine sw S ?_; clear S; intro a w S
              refine te S ?_
              refine tl ?_
              refine sw S ?_; clear S; intro a w S
              refine te S ?_
              refine tn ?_
              exact ⟨b7, b8, b9, s, x1, y1, S.uu, trivial, (St.pullT (Wk.box b7 24 s.cells) (St.pullT (Wk.box b8 24 x1.cells) (St.pullT (Wk.box b9 24 y1.cells) S))).sub _ _⟩
        · refine sa S ?_; clear S; intro b7 a w S
          refine te S ?_
          refine tb2 ?_ ?_
          · refine sr S (small16_c 24 tb _ w (by omega) (foots_lt S) (S.t tb)) ?_; clear S; rintro _ _ w ⟨x1, rfl, -, hxf⟩ S
            replace S := S.add hxf
            refine te S ?_
            refine tb2 ?_ ?_
            · refine sr S (small16_c 24 tc _ w (by omega) (foots_lt S) (S.t tc)) ?_; clear S; rintro _ _ w ⟨y1, rfl, -, hyf⟩ S
              replace S := S.add hyf
              refine te S ?_
              refine tl ?_
              refine sa S ?_; clear S; intro b9 a w S
              refine te S ?_
              refine tl ?_
              refine sw S ?_; clear S; intro a w S
              refine te S ?_
              refine tl ?_
              refine sw S ?_; clear S; intro a w S
              refine te S ?_
              refine tl ?_
              refine sw S ?_; clear S; intro a w S
              refine te S ?_
              refine tn ?_
              exact ⟨b7, b8, b9, s, x1, y1, S.uu, trivial, (St.pullT (Wk.box b7 24 s.cells) (St.pullT (Wk.box b8 24 x1.cells) (St.pullT (Wk.box b9 24 y1.cells) S))).sub _ _⟩
            · refine sa S ?_; clear S; intro b9 a w S
              refine te S ?_
              refine tl ?_
              refine sr S (small16_c 24 tc _ w (by omega) (foots_lt S) (S.t tc)) ?_; clear S; rintro _ _ w ⟨y1, rfl, -, hyf⟩ S
              replace S := S.add hyf
              refine te S ?_
              refine tl ?_
              refine sw S ?_; clear S; intro a w S
              refine te S ?_
              refine tl ?_
              refine sw S ?_; clear S; intro a w S
              refine te S ?_
              refine tl ?_
              refine sw S ?_; clear S; intro a w S
              refine te S ?_
              refine tn ?_
              exact ⟨b7, b8, b9, s, x1, y1, S.uu, trivial, (St.pullT (Wk.box b7 24 s.cells) (St.pullT (Wk.box b8 24 x1.cells) (St.pullT (Wk.box b9 24 y1.cells) S))).sub _ _⟩
          · refine sa S ?_; clear S; intro b9 a w S
            refine te S ?_
            refine tl ?_
            refine sr S (small16_c 24 tb _ w (by omega) (foots_lt S) (S.t tb)) ?_; clear S; rintro _ _ w ⟨x1, rfl, -, hxf⟩ S
            replace S := S.add hxf
            refine te S ?_
            refine tl ?_
            refine sr S (small16_c 24 tc _ w (by omega) (foots_lt S) (S.t tc)) ?_; clear S; rintro _ _ w ⟨y1, rfl, -, hyf⟩ S
            replace S := S.add hyf
            refine te S ?_
            refine tl ?_
            refine sw S ?_; clear S; intro a w S
            refine te S ?_
            refine tl ?_
            refine sw S ?_; clear S; intro a w S
            refine te S ?_
            refine tl ?_
            refine sw S ?_; clear S; intro a w S
            refine te S ?_
            refine tn ?_
            exact ⟨b7, b8, b9, s, x1, y1, S.uu, trivial, (St.pullT (Wk.box b7 24 s.cells) (St.pullT (Wk.box b8 24 x1.cells) (St.pullT (Wk.box b9 24 y1.cells) S))).sub _ _⟩
        · refine sa S ?_; clear S; intro b9 a w S
          refine te S ?_
          refine tb2 ?_ ?_
          · refine sr S (small16_c 24 tb _ w (by omega) (foots_lt S) (S.t tb)) ?_; clear S; rintro _ _ w ⟨x1, rfl, -, hxf⟩ S
            replace S := S.add hxf
            refine te S ?_
            refine tb2 ?_ ?_
            · refine sr S (small16_c 24 tc _ w (by omega) (foots_lt S) (S.t tc)) ?_; clear S; rintro _ _ w ⟨y1, rfl, -, hyf⟩ S
              replace S := S.add hyf
              refine te S ?_
              refine tl ?_
              refine sa S ?_; clear S; intro b7 a w S
              refine te S ?_
              refine tl ?_
              refine sw S ?_; clear S; intro a w S
              refine te S ?_
              refine tl ?_
              refine sw S ?_; clear S; intro a w S
              refine te S ?_
              refine tl ?_
              refine sw S ?_; clear S; intro a w S
              refine te S ?_
              refine tn ?_
              exact ⟨b7, b8, b9, s, x1, y1, S.uu, trivial, (St.pullT (Wk.box b7 24 s.cells) (St.pullT (Wk.box b8 24 x1.cells) (St.pullT (Wk.box b9 24 y1.cells) S))).sub _ _⟩
            · refine sa S ?_; clear S; intro b7 a w S
              refine te S ?_
              refine tl ?_
              refine sr S (small16_c 24 tc _ w (by omega) (foots_lt S) (S.t tc)) ?_; clear S; rintro _ _ w ⟨y1, rfl, -, hyf⟩ S
              replace S := S.add hyf
              refine te S ?_
              refine tl ?_
              refine sw S ?_; clear S; intro a w S
              refine te S ?_
              refine tl ?_
              refine sw S ?_; clear S; intro a w S
              refine te S ?_
              refine tl ?_
              refine sw S ?_; clear S; intro a w S
              refine te S ?_
              refine tn ?_
              exact ⟨b7, b8, b9, s, x1, y1, S.uu, trivial, (St.pullT (Wk.box b7 24 s.cells) (St.pullT (Wk.box b8 24 x1.cells) (St.pullT (Wk.box b9 24 y1.cells) S))).sub _ _⟩
          · refine sa S ?_; clear S; intro b7 a w S
            refine te S ?_
            refine tl ?_
            refine sr S (small16_c 24 tb _ w (by omega) (foots_lt S) (S.t tb)) ?_; clear S; rintro _ _ w ⟨x1, rfl, -, hxf⟩ S
            replace S := S.add hxf
            refine te S ?_
            refine tl ?_
            refine sr S (small16_c 24 tc _ w (by omega) (foots_lt S) (S.t tc)) ?_; clear S; rintro _ _ w ⟨y1, rfl, -, hyf⟩ S
            replace S := S.add hyf
            refine te S ?_
            refine tl ?_
            refine sw S ?_; clear S; intro a w S
            refine te S ?_
            refine tl ?_
            refine sw S ?_; clear S; intro a w S
            refine te S ?_
            refine tl ?_
            refine sw S ?_; clear S; intro a w S
            refine te S ?_
            refine tn ?_
            exact ⟨b7, b8, b9, s, x1, y1, S.uu, trivial, (St.pullT (Wk.box b7 24 s.cells) (St.pullT (Wk.box b8 24 x1.cells) (St.pullT (Wk.box b9 24 y1.cells) S))).sub _ _⟩
      · refine sa S ?_; clear S; intro b9 a w S
        refine te S ?_
        refine tb3 ?_ ?_ ?_
        · refine sr S (small16_c 24 tb _ w (by omega) (foots_lt S) (S.t tb)) ?_; clear S; rintro _ _ w ⟨x1, rfl, -, hxf⟩ S
          replace S := S.add hxf
          refine te S ?_
          refine tb3 ?_ ?_ ?_
          · refine sr S (small16_c 24 tc _ w (by omega) (foots_lt S) (S.t tc)) ?_; clear S; rintro _ _ w ⟨y1, rfl, -, hyf⟩ S
            replace S := S.add hyf
            refine te S ?_
            refine tb2 ?_ ?_
            · refine sa S ?_; clear S; intro b7 a w S
              refine te S ?_
              refine tl ?_
              refine sa S ?_; clear S; intro b8 a w S
              refine te S ?_
              refine tl ?_
              refine sw S ?_; clear S; intro a w S
              refine te S ?_
              refine tl ?_
              refine sw S ?_; clear S; intro a w S
              refine te S ?_
              refine tl ?_
              refine sw S ?_; clear S; intro a w S
              refine te S ?_
              refine tn ?_
              exact ⟨b7, b8, b9, s, x1, y1, S.uu, trivial, (St.pullT (Wk.box b7 24 s.cells) (St.pullT (Wk.box b8 24 x1.cells) (St.pullT (Wk.box b9 24 y1.cells) S))).sub _ _⟩
            · refine sa S ?_; clear S; intro b8 a w S
              refine te S ?_
              refine tl ?_
              refine sa S ?_; clear S; intro b7 a w S
              refine te S ?_
              refine tl ?_
              refine sw S ?_; clear S; intro a w S
              refine te S ?_
              refine tl ?_
              refine sw S ?_; clear S; intro a w S
              refine te S ?_
              refine tl ?_
              refine sw S ?_; clear S; intro a w S
              refine te S ?_
              refine tn ?_
              exact ⟨b7, b8, b9, s, x1, y1, S.uu, trivial, (St.pullT (Wk.box b7 24 s.cells) (St.pullT (Wk.box b8 24 x1.cells) (St.pullT (Wk.box b9 24 y1.cells) S))).sub _ _⟩
          · refine sa S ?_; clear S; intro b7 a w S
            refine te S ?_
            refine tb2 ?_ ?_
            · refine sr S (small16_c 24 tc _ w (by omega) (foots_lt S) (S.t tc)) ?_; clear S; rintro _ _ w ⟨y1, rfl, -, hyf⟩ S
              replace S := S.add hyf
              refine te S ?_
              refine tl ?_
              refine sa S ?_; clear S; intro b8 a w S
              refine te S ?_
              refine tl ?_
              refine sw S ?_; clear S; intro a w S
              refine te S ?_
              refine tl ?_
              refine sw S ?_; clear S; intro a w S
              refine te S ?_
              refine tl ?_
              refine sw S ?_; clear S; intro a w S
              refine te S ?_
              refine tn ?_
              exact ⟨b7, b8, b9, s, x1, y1, S.uu, trivial, (St.pullT (Wk.box b7 24 s.cells) (St.pullT (Wk.box b8 24 x1.cells) (St.pullT (Wk.box b9 24 y1.cells) S))).sub _ _⟩
            · refine sa S ?_; clear S; intro b8 a w S
              refine te S ?_
              refine tl ?_
              refine sr S (small16_c 24 tc _ w (by omega) (foots_lt S) (S.t tc)) ?_; clear S; rintro _ _ w ⟨y1, rfl, -, hyf⟩ S
              replace S := S.add hyf
              refine te S ?_
              refine tl ?_
              refine sw S ?_; clear S; intro a w S
              refine te S ?_
              refine tl ?_
              refine sw S ?_; clear S; intro a w S
              refine te S ?_
              refine tl ?_
              refine sw S ?_; clear S; intro a w S
              refine te S ?_
              refine tn ?_
              exact ⟨b7, b8, b9, s, x1, y1, S.uu, trivial, (St.pullT (Wk.box b7 24 s.cells) (St.pullT (Wk.box b8 24 x1.cells) (St.pullT (Wk.box b9 24 y1.cells) S))).sub _ _⟩
          · refine sa S ?_; clear S; intro b8 a w S
            refine te S ?_
            refine tb2 ?_ ?_
            · refine sr S (small16_c 24 tc _ w (by omega) (foots_lt S) (S.t tc)) ?_; clear S; rintro _ _ w ⟨y1, rfl, -, hyf⟩ S
              replace S := S.add hyf
              refine te S ?_
              refine tl ?_
              refine sa S ?_; clear S; intro b7 a w S
              refine te S ?_
              refine tl ?_
              refine sw S ?_; clear S; intro a w S
              refine te S ?_
              refine tl ?_
              refine sw S ?_; clear S; intro a w S
              refine te S ?_
              refine tl ?_
              refine sw S ?_; clear S; intro a w S
              refine te S ?_
              refine tn ?_
              exact ⟨b7, b8, b9, s, x1, y1, S.uu, trivial, (St.pullT (Wk.box b7 24 s.cells) (St.pullT (Wk.box b8 24 x1.cells) (St.pullT (Wk.box b9 24 y1.cells) S))).sub _ _⟩
            · refine sa S ?_; clear S; intro b7 a w S
              refine te S ?_
              refine tl ?_
              refine sr S (small16_c 24 tc _ w (by omega) (foots_lt S) (S.t tc)) ?_; clear S; rintro _ _ w ⟨y1, rfl, -, hyf⟩ S
              replace S := S.add hyf
              refine te S ?_
              refine tl ?_
              refine sw S ?_; clear S; intro a w S
              refine te S ?_
              refine tl ?_
              refine sw S ?_; clear S; intro a w S
              refine te S ?_
              refine tl ?_
              refine sw S ?_; clear S; intro a w S
              refine te S ?_
              refine tn ?_
              exact ⟨b7, b8, b9, s, x1, y1, S.uu, trivial, (St.pullT (Wk.box b7 24 s.cells) (St.pullT (Wk.box b8 24 x1.cells) (St.pullT (Wk.box b9 24 y1.cells) S))).sub _ _⟩
        · refine sa S ?_; clear S; intro b7 a w S
          refine te S ?_
          refine tb2 ?_ ?_
          · refine sr S (small16_c 24 tb _ w (by omega) (foots_lt S) (S.t tb)) ?_; clear S; rintro _ _ w ⟨x1, rfl, -, hxf⟩ S
            replace S := S.add hxf
            refine te S ?_
            refine tb2 ?_ ?_
            · refine sr S (small16_c 24 tc _ w (by omega) (foots_lt S) (S.t tc)) ?_; clear S; rintro _ _ w ⟨y1, rfl, -, hyf⟩ S
              replace S := S.add hyf
              refine te S ?_
              refine tl ?_
              refine sa S ?_; clear S; intro b8 a w S
              refine te S ?_
              refine tl ?_
              refine sw S ?_; clear S; intro a w S
              refine te S ?_
              refine tl ?_
              refine sw S ?_; clear S; intro a w S
              refine te S ?_
              refine tl ?_
              refine sw S ?_; clear S; intro a w S
              refine te S ?_
              refine tn ?_
              exact ⟨b7, b8, b9, s, x1, y1, S.uu, trivial, (St.pullT (Wk.box b7 24 s.cells) (St.pullT (Wk.box b8 24 x1.cells) (St.pullT (Wk.box b9 24 y1.cells) S))).sub _ _⟩
            · refine sa S ?_; clear S; intro b8 a w S
              refine te S ?_
              refine tl ?_
              refine sr S (small16_c 24 tc _ w (by omega) (foots_lt S) (S.t tc)) ?_; clear S; rintro _ _ w ⟨y1, rfl, -, hyf⟩ S
              replace S := S.add hyf
              refine te S ?_
              refine tl ?_
              refine sw S ?_; clear S; intro a w S
              refine te S ?_
              refine tl ?_
              refine sw S ?_; clear S; intro a w S
              refine te S ?_
              refine tl ?_
              refine sw S ?_; clear S; intro a w S
              refine te S ?_
              refine tn ?_
              exact ⟨b7, b8, b9, s, x1, y1, S.uu, trivial, (St.pullT (Wk.box b7 24 s.cells) (St.pullT (Wk.box b8 24 x1.cells) (St.pullT (Wk.box b9 24 y1.cells) S))).sub _ _⟩
          · refine sa S ?_; clear S; intro b8 a w S
            refine te S ?_
            refine tl ?_
            refine sr S (small16_c 24 tb _ w (by omega) (foots_lt S) (S.t tb)) ?_; clear S; rintro _ _ w ⟨x1, rfl, -, hxf⟩ S
            replace S := S.add hxf
            refine te S ?_
            refine tl ?_
            refine sr S (small16_c 24 tc _ w (by omega) (foots_lt S) (S.t tc)) ?_; clear S; rintro _ _ w ⟨y1, rfl, -, hyf⟩ S
            replace S := S.add hyf
            refine te S ?_
            refine tl ?_
            refine sw S ?_; clear S; intro a w S
            refine te S ?_
            refine tl ?_
            refine sw S ?_; clear S; intro a w S
            refine te S ?_
            refine tl ?_
            refine sw S ?_; clear S; intro a w S
            refine te S ?_
            refine tn ?_
            exact ⟨b7, b8, b9, s, x1, y1, S.uu, trivial, (St.pullT (Wk.box b7 24 s.cells) (St.pullT (Wk.box b8 24 x1.cells) (St.pullT (Wk.box b9 24 y1.cells) S))).sub _ _⟩
        · refine sa S ?_; clear S; intro b8 a w S
          refine te S ?_
          refine tb2 ?_ ?_
          · refine sr S (small16_c 24 tb _ w (by omega) (foots_lt S) (S.t tb)) ?_; clear S; rintro _ _ w ⟨x1, rfl, -, hxf⟩ S
            replace S := S.add hxf
            refine te S ?_
            refine tb2 ?_ ?_
            · refine sr S (small16_c 24 tc _ w (by omega) (foots_lt S) (S.t tc)) ?_; clear S; rintro _ _ w ⟨y1, rfl, -, hyf⟩ S
              replace S := S.add hyf
              refine te S ?_
              refine tl ?_
              refine sa S ?_; clear S; intro b7 a w S
              refine te S ?_
              refine tl ?_
              refine sw S ?_; clear S; intro a w S
              refine te S ?_
              refine tl ?_
              refine sw S ?_; clear S; intro a w S
              refine te S ?_
              refine tl ?_
              refine sw S ?_; clear S; intro a w S
              refine te S ?_
              refine tn ?_
              exact ⟨b7, b8, b9, s, x1, y1, S.uu, trivial, (St.pullT (Wk.box b7 24 s.cells) (St.pullT (Wk.box b8 24 x1.cells) (St.pullT (Wk.box b9 24 y1.cells) S))).sub _ _⟩
            · refine sa S ?_; clear S; intro b7 a w S
              refine te S ?_
              refine tl ?_
              refine sr S (small16_c 24 tc _ w (by omega) (foots_lt S) (S.t tc)) ?_; clear S; rintro _ _ w ⟨y1, rfl, -, hyf⟩ S
              replace S := S.add hyf
              refine te S ?_
              refine tl ?_
              refine sw S ?_; clear S; intro a w S
              refine te S ?_
              refine tl ?_
              refine sw S ?_; clear S; intro a w S
              refine te S ?_
              refine tl ?_
              refine sw S ?_; clear S; intro a w S
              refine te S ?_
              refine tn ?_
              exact ⟨b7, b8, b9, s, x1, y1, S.uu, trivial, (St.pullT (Wk.box b7 24 s.cells) (St.pullT (Wk.box b8 24 x1.cells) (St.pullT (Wk.box b9 24 y1.cells) S))).sub _ _⟩
          · refine sa S ?_; clear S; intro b7 a w S
            refine te S ?_
            refine tl ?_
            refine sr S (small16_c 24 tb _ w (by omega) (foots_lt S) (S.t tb)) ?_; clear S; rintro _ _ w ⟨x1, rfl, -, hxf⟩ S
            replace S := S.add hxf
            refine te S ?_
            refine tl ?_
            refine sr S (small16_c 24 tc _ w (by omega) (foots_lt S) (S.t tc)) ?_; clear S; rintro _ _ w ⟨y1, rfl, -, hyf⟩ S
            replace S := S.add hyf
            refine te S ?_
            refine tl ?_
            refine sw S ?_; clear S; intro a w S
            refine te S ?_
            refine tl ?_
            refine sw S ?_; clear S; intro a w S
            refine te S ?_
            refine tl ?_
            refine sw S ?_; clear S; intro a w S
            refine te S ?_
            refine tn ?_
            exact ⟨b7, b8, b9, s, x1, y1, S.uu, trivial, (St.pullT (Wk.box b7 24 s.cells) (St.pullT (Wk.box b8 24 x1.cells) (St.pullT (Wk.box b9 24 y1.cells) S))).sub _ _⟩
    · refine sa S ?_; clear S; intro b7 a w S
      refine te S ?_
      refine tb3 ?_ ?_ ?_
      · refine sr S (small16_c 24 ta _ w (by omega) (foots_lt S) (S.t ta)) ?_; clear S; rintro _ _ w ⟨s, rfl, -, hsf⟩ S
        replace S := S.add hsf
        refine te S ?_
        refine tb3 ?_ ?_ ?_
        · refine sr S (small16_c 24 tb _ w (by omega) (foots_lt S) (S.t tb)) ?_; clear S; rintro _ _ w ⟨x1, rfl, -, hxf⟩ S
          replace S := S.add hxf
          refine te S ?_
          refine tb3 ?_ ?_ ?_
          · refine sr S (small16_c 24 tc _ w (by omega) (foots_lt S) (S.t tc)) ?_; clear S; rintro _ _ w ⟨y1, rfl, -, hyf⟩ S
            replace S := S.add hyf
            refine te S ?_
            refine tb2 ?_ ?_
            · refine sa S ?_; clear S; intro b8 a w S
              refine te S ?_
              refine tl ?_
              refine sa S ?_; clear S; intro b9 a w S
              refine te S ?_
              refine tl ?_
              refine sw S ?_; clear S; intro a w S
              refine te S ?_
              refine tl ?_
              refine sw S ?_; clear S; intro a w S
              refine te S ?_
              refine tl ?_
              refine sw S ?_; clear S; intro a w S
              refine te S ?_
              refine tn ?_
              exact ⟨b7, b8, b9, s, x1, y1, S.uu, trivial, (St.pullT (Wk.box b7 24 s.cells) (St.pullT (Wk.box b8 24 x1.cells) (St.pullT (Wk.box b9 24 y1.cells) S))).sub _ _⟩
            · refine sa S ?_; clear S; intro b9 a w S
              refine te S ?_
              refine tl ?_
              refine sa S ?_; clear S; intro b8 a w S
              refine te S ?_
              refine tl ?_
              refine sw S ?_; clear S; intro a w S
              refine te S ?_
              refine tl ?_
              refine sw S ?_; clear S; intro a w S
              refine te S ?_
              refine tl ?_
              refine sw S ?_; clear S; intro a w S
              refine te S ?_
              refine tn ?_
              exact ⟨b7, b8, b9, s, x1, y1, S.uu, trivial, (St.pullT (Wk.box b7 24 s.cells) (St.pullT (Wk.box b8 24 x1.cells) (St.pullT (Wk.box b9 24 y1.cells) S))).sub _ _⟩
          · refine sa S ?_; clear S; intro b8 a w S
            refine te S ?_
            refine tb2 ?_ ?_
            · refine sr S (small16_c 24 tc _ w (by omega) (foots_lt S) (S.t tc)) ?_; clear S; rintro _ _ w ⟨y1, rfl, -, hyf⟩ S
              replace S := S.add hyf
              refine te S ?_
              refine tl ?_
              refine sa S ?_; clear S; intro b9 a w S
              refine te S ?_
              refine tl ?_
              refine sw S ?_; clear S; intro a w S
              refine te S ?_
              refine tl ?_
              refine sw S ?_; clear S; intro a w S
              refine te S ?_
              refine tl ?_
              refine sw S ?_; clear S; intro a w S
              refine te S ?_
              refine tn ?_
              exact ⟨b7, b8, b9, s, x1, y1, S.uu, trivial, (St.pullT (Wk.box b7 24 s.cells) (St.pullT (Wk.box b8 24 x1.cells) (St.pullT (Wk.box b9 24 y1.cells) S))).sub _ _⟩
            · refine sa S ?_; clear S; intro b9 a w S
              refine te S ?_
              refine tl ?_
              refine sr S (small16_c 24 tc _ w (by omega) (foots_lt S) (S.t tc)) ?_; clear S; rintro _ _ w ⟨y1, rfl, -, hyf⟩ S
              replace S := S.add hyf
              refine te S ?_
              refine tl ?_
              refine sw S ?_; clear S; intro a w S
              refine te S ?_
              refine tl ?_
              refine sw S ?_; clear S; intro a w S
              refine te S ?_
              refine tl ?_
              refine sw S ?_; clear S; intro a w S
              refine te S ?_
              refine tn ?_
              exact ⟨b7, b8, b9, s, x1, y1, S.uu, trivial, (St.pullT (Wk.box b7 24 s.cells) (St.pullT (Wk.box b8 24 x1.cells) (St.pullT (Wk.box b9 24 y1.cells) S))).sub _ _⟩
          · refine sa S ?_; clear S; intro b9 a w S
            refine te S ?_
            refine tb2 ?_ ?_
            · refine sr S (small16_c 24 tc _ w (by omega) (foots_lt S) (S.t tc)) ?_; clear S; rintro _ _ w ⟨y1, rfl, -, hyf⟩ S
              replace S := S.add hyf
              refine te S ?_
              refine tl ?_
              refine sa S ?_; clear S; intro b8 a w S
              refine te S ?_
              refine tl ?_
              refine sw S ?_; clear S; intro a w S
              refine te S ?_
              refine tl ?_
              refine sw S ?_; clear S; intro a w S
              refine te S ?_
              refine tl ?_
              refine sw S ?_; clear S; intro a w S
              refine te S ?_
              refine tn ?_
              exact ⟨b7, b8, b9, s, x1, y1, S.uu, trivial, (St.pullT (Wk.box b7 24 s.cells) (St.pullT (Wk.box b8 24 x1.cells) (St.pullT (Wk.box b9 24 y1.cells) S))).sub _ _⟩
            · refine sa S ?_; clear S; intro b8 a w S
              refine te S ?_
              refine tl ?_
              refine sr S (small16_c 24 tc _ w (by omega) (foots_lt S) (S.t tc)) ?_; clear S; rintro _ _ w ⟨y1, rfl, -, hyf⟩ S
              replace S := S.add hyf
              refine te S ?_
              refine tl ?_
              refine sw S ?_; clear S; intro a w S
              refine te S ?_
              refine tl ?_
              refine sw S ?_; clear S; intro a w S
              refine te S ?_
              refine tl ?_
              refine sw S ?_; clear S; intro a w S
              refine te S ?_
              refine tn ?_
              exact ⟨b7, b8, b9, s, x1, y1, S.uu, trivial, (St.pullT (Wk.box b7 24 s.cells) (St.pullT (Wk.box b8 24 x1.cells) (St.pullT (Wk.box b9 24 y1.cells) S))).sub _ _⟩
        · refine sa S ?_; clear S; intro b8 a w S
          refine te S ?_
          refine tb2 ?_ ?_
          · refine sr S (small16_c 24 tb _ w (by omega) (foots_lt S) (S.t tb)) ?_; clear S; rintro _ _ w ⟨x1, rfl, -, hxf⟩ S
            replace S := S.add hxf
            refine te S ?_
            refine tb2 ?_ ?_
            · refine sr S (small16_c 24 tc _ w (by omega) (foots_lt S) (S.t tc)) ?_; clear S; rintro _ _ w ⟨y1, rfl, -, hyf⟩ S
              replace S := S.add hyf
              refine te S ?_
              refine tl ?_
              refine sa S ?_; clear S; intro b9 a w S
              refine te S ?_
              refine tl ?_
              refine sw S ?_; clear S; intro a w S
              refine te S ?_
              refine tl ?_
              refine sw S ?_; clear S; intro a w S
              refine te S ?_
              refine tl ?_
              refine sw S ?_; clear S; intro a w S
              refine te S ?_
              refine tn ?_
              exact ⟨b7, b8, b9, s, x1, y1, S.uu, trivial, (St.pullT (Wk.box b7 24 s.cells) (St.pullT (Wk.box b8 24 x1.cells) (St.pullT (Wk.box b9 24 y1.cells) S))).sub _ _⟩
            · refine sa S ?_; clear S; intro b9 a w S
              refine te S ?_
              refine tl ?_
              refine sr S (small16_c 24 tc _ w (by omega) (foots_lt S) (S.t tc)) ?_; clear S; rintro _ _ w ⟨y1, rfl, -, hyf⟩ S
              replace S := S.add hyf
              refine te S ?_
              refine tl ?_
              refine sw S ?_; clear S; intro a w S
              refine te S ?_
              refine tl ?_
              refine sw S ?_; clear S; intro a w S
              refine te S ?_
              refine tl ?_
              refine sw S ?_; clear S; intro a w S
              refine te S ?_
              refine tn ?_
              exact ⟨b7, b8, b9, s, x1, y1, S.uu, trivial, (St.pullT (Wk.box b7 24 s.cells) (St.pullT (Wk.box b8 24 x1.cells) (St.pullT (Wk.box b9 24 y1.cells) S))).sub _ _⟩
          · refine sa S ?_; clear S; intro b9 a w S
            refine te S ?_
            refine tl ?_
            refine sr S (small16_c 24 tb _ w (by omega) (foots_lt S) (S.t tb)) ?_; clear S; rintro _ _ w ⟨x1, rfl, -, hxf⟩ S
            replace S := S.add hxf
            refine te S ?_
            refine tl ?_
            refine sr S (small16_c 24 tc _ w (by omega) (foots_lt S) (S.t tc)) ?_; clear S; rintro _ _ w ⟨y1, rfl, -, hyf⟩ S
            replace S := S.add hyf
            refine te S ?_
            refine tl ?_
            refine sw S ?_; clear S; intro a w S
            refine te S ?_
            refine tl ?_
            refine sw S ?_; clear S; intro a w S
            refine te S ?_
            refine tl ?_
            refine sw S ?_; clear S; intro a w S
            refine te S ?_
            refine tn ?_
            exact ⟨b7, b8, b9, s, x1, y1, S.uu, trivial, (St.pullT (Wk.box b7 24 s.cells) (St.pullT (Wk.box b8 24 x1.cells) (St.pullT (Wk.box b9 24 y1.cells) S))).sub _ _⟩
        · refine sa S ?_; clear S; intro b9 a w S
          refine te S ?_
          refine tb2 ?_ ?_
          · refine sr S (small16_c 24 tb _ w (by omega) (foots_lt S) (S.t tb)) ?_; clear S; rintro _ _ w ⟨x1, rfl, -, hxf⟩ S
            replace S := S.add hxf
            refine te S ?_
            refine tb2 ?_ ?_
            · refine sr S (small16_c 24 tc _ w (by omega) (foots_lt S) (S.t tc)) ?_; clear S; rintro _ _ w ⟨y1, rfl, -, hyf⟩ S
              replace S := S.add hyf
              refine te S ?_
              refine tl ?_
              refine sa S ?_; clear S; intro b8 a w S
              refine te S ?_
              refine tl ?_
              refine sw S ?_; clear S; intro a w S
              refine te S ?_
              refine tl ?_
              refine sw S ?_; clear S; intro a w S
              refine te S ?_
              refine tl ?_
              refine sw S ?_; clear S; intro a w S
              refine te S ?_
              refine tn ?_
              exact ⟨b7, b8, b9, s, x1, y1, S.uu, trivial, (St.pullT (Wk.box b7 24 s.cells) (St.pullT (Wk.box b8 24 x1.cells) (St.pullT (Wk.box b9 24 y1.cells) S))).sub _ _⟩
            · refine sa S ?_; clear S; intro b8 a w S
              refine te S ?_
              refine tl ?_
              refine sr S (small16_c 24 tc _ w (by omega) (foots_lt S) (S.t tc)) ?_; clear S; rintro _ _ w ⟨y1, rfl, -, hyf⟩ S
              replace S := S.add hyf
              refine te S ?_
              refine tl ?_
              refine sw S ?_; clear S; intro a w S
              refine te S ?_
              refine tl ?_
              refine sw S ?_; clear S; intro a w S
              refine te S ?_
              refine tl ?_
              refine sw S ?_; clear S; intro a w S
              refine te S ?_
              refine tn ?_
              exact ⟨b7, b8, b9, s, x1, y1, S.uu, trivial, (St.pullT (Wk.box b7 24 s.cells) (St.pullT (Wk.box b8 24 x1.cells) (St.pullT (Wk.box b9 24 y1.cells) S))).sub _ _⟩
          · refine sa S ?_; clear S; intro b8 a w S
            refine te S ?_
            refine tl ?_
            refine sr S (small16_c 24 tb _ w (by omega) (foots_lt S) (S.t tb)) ?_; clear S; rintro _ _ w ⟨x1, rfl, -, hxf⟩ S
            replace S := S.add hxf
            refine te S ?_
            refine tl ?_
            refine sr S (small16_c 24 tc _ w (by omega) (foots_lt S) (S.t tc)) ?_; clear S; rintro _ _ w ⟨y1, rfl, -, hyf⟩ S
            replace S := S.add hyf
            refine te S ?_
            refine tl ?_
            refine sw S ?_; clear S; intro a w S
            refine te S ?_
            refine tl ?_
            refine sw S ?_; clear S; intro a w S
            refine te S ?_
            refine tl ?_
            refine sw S ?_; clear S; intro a w S
            refine te S ?_
            refine tn ?_
            exact ⟨b7, b8, b9, s, x1, y1, S.uu, trivial, (St.pullT (Wk.box b7 24 s.cells) (St.pullT (Wk.box b8 24 x1.cells) (St.pullT (Wk.box b9 24 y1.cells) S))).sub _ _⟩
      · refine sa S ?_; clear S; intro b8 a w S
        refine te S ?_
        refine tb2 ?_ ?_
        · refine sr S (small16_c 24 ta _ w (by omega) (foots_lt S) (S.t ta)) ?_; clear S; rintro _ _ w ⟨s, rfl, -, hsf⟩ S
          replace S := S.add hsf
          refine te S ?_
          refine tb2 ?_ ?_
          · refine sr S (small16_c 24 tb _ w (by omega) (foots_lt S) (S.t tb)) ?_; clear S; rintro _ _ w ⟨x1, rfl, -, hxf⟩ S
            replace S := S.add hxf
            refine te S ?_
            refine tb2 ?_ ?_
            · refine sr S (small16_c 24 tc _ w (by omega) (foots_lt S) (S.t tc)) ?_; clear S; rintro _ _ w ⟨y1, rfl, -, hyf⟩ S
              replace S := S.add hyf
              refine te S ?_
              refine tl ?_
              refine sa S ?_; clear S; intro b9 a w S
              refine te S ?_
              refine tl ?_
              refine sw S ?_; clear S; intro a w S
              refine te S ?_
              refine tl ?_
              refine sw S ?_; clear S; intro a w S
              refine te S ?_
              refine tl ?_
              refine sw S ?_; clear S; intro a w S
              refine te S ?_
              refine tn ?_
              exact ⟨b7, b8, b9, s, x1, y1, S.uu, trivial, (St.pullT (Wk.box b7 24 s.cells) (St.pullT (Wk.box b8 24 x1.cells) (St.pullT (Wk.box b9 24 y1.cells) S))).sub _ _⟩
            · refine sa S ?_; clear S; intro b9 a w S
              refine te S ?_
              refine tl ?_
              refine sr S (small16_c 24 tc _ w (by omega) (foots_lt S) (S.t tc)) ?_; clear S; rintro _ _ w ⟨y1, rfl, -, hyf⟩ S
              replace S := S.add hyf
              refine te S ?_
              refine tl ?_
              refine sw S ?_; clear S; intro a w S
              refine te S ?_
              refine tl ?_
              refine sw S ?_; clear S; intro a w S
              refine te S ?_
              refine tl ?_
              refine sw S ?_; clear S; intro a w S
              refine te S ?_
              refine tn ?_
              exact ⟨b7, b8, b9, s, x1, y1, S.uu, trivial, (St.pullT (Wk.box b7 24 s.cells) (St.pullT (Wk.box b8 24 x1.cells) (St.pullT (Wk.box b9 24 y1.cells) S))).sub _ _⟩
          · refine sa S ?_; clear S; intro b9 a w S
            refine te S ?_
            refine tl ?_
            refine sr S (small16_c 24 tb _ w (by omega) (foots_lt S) (S.t tb)) ?_; clear S; rintro _ _ w ⟨x1, rfl, -, hxf⟩ S
            replace S := S.add hxf
            refine te S ?_
            refine tl ?_
            refine sr S (small16_c 24 tc _ w (by omega) (foots_lt S) (S.t tc)) ?_; clear S; rintro _ _ w ⟨y1, rfl, -, hyf⟩ S
            replace S := S.add hyf
            refine te S ?_
            refine tl ?_
            refine sw S ?_; clear S; intro a w S
            refine te S ?_
            refine tl ?_
            refine sw S ?_; clear S; intro a w S
            refine te S ?_
            refine tl ?_
            refine sw S ?_; clear S; intro a w S
            refine te S ?_
            refine tn ?_
            exact ⟨b7, b8, b9, s, x1, y1, S.uu, trivial, (St.pullT (Wk.box b7 24 s.cells) (St.pullT (Wk.box b8 24 x1.cells) (St.pullT (Wk.box b9 24 y1.cells) S))).sub _ _⟩
        · refine sa S ?_; clear S; intro b9 a w S
          refine te S ?_
          refine tl ?_
          refine sr S (small16_c 24 ta _ w (by omega) (foots_lt S) (S.t ta)) ?_; clear S; rintro _ _ w ⟨s, rfl, -, hsf⟩ S
          replace S := S.add hsf
          refine te S ?_
          refine tl ?_
          refine sr S (small16_c 24 tb _ w (by omega) (foots_lt S) (S.t tb)) ?_; clear S; rintro _ _ w ⟨x1, rfl, -, hxf⟩ S
          replace S := S.add hxf
          refine te S ?_
          refine tl ?_
          refine sr S (small16_c 24 tc _ w (by omega) (foots_lt S) (S.t tc)) ?_; clear S; rintro _ _ w ⟨y1, rfl, -, hyf⟩ S
          replace S := S.add hyf
          refine te S ?_
          refine tl ?_
          refine sw S ?_; clear S; intro a w S
          refine te S ?_
          refine tl ?_
          refine sw S ?_; clear S; intro a w S
          refine te S ?_
          refine tl ?_
          refine sw S ?_; clear S; intro a w S
          refine te S ?_
          refine tn ?_
          exact ⟨b7, b8, b9, s, x1, y1, S.uu, trivial, (St.pullT (Wk.box b7 24 s.cells) (St.pullT (Wk.box b8 24 x1.cells) (St.pullT (Wk.box b9 24 y1.cells) S))).sub _ _⟩
      · refine sa S ?_; clear S; intro b9 a w S
        refine te S ?_
        refine tb2 ?_ ?_
        · refine sr S (small16_c 24 ta _ w (by omega) (foots_lt S) (S.t ta)) ?_; clear S; rintro _ _ w ⟨s, rfl, -, hsf⟩ S
          replace S := S.add hsf
          refine te S ?_
          refine tb2 ?_ ?_
          · refine sr S (small16_c 24 tb _ w (by omega) (foots_lt S) (S.t tb)) ?_; clear S; rintro _ _ w ⟨x1, rfl, -, hxf⟩ S
            replace S := S.add hxf
            refine te S ?_
            refine tb2 ?_ ?_
            · refine sr S (small16_c 24 tc _ w (by omega) (foots_lt S) (S.t tc)) ?_; clear S; rintro _ _ w ⟨y1, rfl, -, hyf⟩ S
              replace S := S.add hyf
              refine te S ?_
              refine tl ?_
              refine sa S ?_; clear S; intro b8 a w S
              refine te S ?_
              refine tl ?_
              refine sw S ?_; clear S; intro a w S
              refine te S ?_
              refine tl ?_
              refine sw S ?_; clear S; intro a w S
              refine te S ?_
              refine tl ?_
              refine sw S ?_; clear S; intro a w S
              refine te S ?_
              refine tn ?_
              exact ⟨b7, b8, b9, s, x1, y1, S.uu, trivial, (St.pullT (Wk.box b7 24 s.cells) (St.pullT (Wk.box b8 24 x1.cells) (St.pullT (Wk.box b9 24 y1.cells) S))).sub _ _⟩
            · refine sa S ?_; clear S; intro b8 a w S
              refine te S ?_
              refine tl ?_
              refine sr S (small16_c 24 tc _ w (by omega) (foots_lt S) (S.t tc)) ?_; clear S; rintro _ _ w ⟨y1, rfl, -, hyf⟩ S
              replace S := S.add hyf
              refine te S ?_
              refine tl ?_
              refine sw S ?_; clear S; intro a w S
              refine te S ?_
              refine tl ?_
              refine sw S ?_; clear S; intro a w S
              refine te S ?_
              refine tl ?_
              refine sw S ?_; clear S; intro a w S
              refine te S ?_
              refine tn ?_
              exact ⟨b7, b8, b9, s, x1, y1, S.uu, trivial, (St.pullT (Wk.box b7 24 s.cells) (St.pullT (Wk.box b8 24 x1.cells) (St.pullT (Wk.box b9 24 y1.cells) S))).sub _ _⟩
          · refine sa S ?_; clear S; intro b8 a w S
            refine te S ?_
            refine tl ?_
            refine sr S (small16_c 24 tb _ w (by omega) (foots_lt S) (S.t tb)) ?_; clear S; rintro _ _ w ⟨x1, rfl, -, hxf⟩ S
            replace S := S.add hxf
            refine te S ?_
            refine tl ?_
            refine sr S (small16_c 24 tc _ w (by omega) (foots_lt S) (S.t tc)) ?_; clear S; rintro _ _ w ⟨y1, rfl, -, hyf⟩ S
            replace S := S.add hyf
            refine te S ?_
            refine tl ?_
            refine sw S ?_; clear S; intro a w S
            refine te S ?_
            refine tl ?_
            refine sw S ?_; clear S; intro a w S
            refine te S ?_
            refine tl ?_
            refine sw S ?_; clear S; intro a w S
            refine te S ?_
            refine tn ?_
            exact ⟨b7, b8, b9, s, x1, y1, S.uu, trivial, (St.pullT (Wk.box b7 24 s.cells) (St.pullT (Wk.box b8 24 x1.cells) (St.pullT (Wk.box b9 24 y1.cells) S))).sub _ _⟩
        · refine sa S ?_; clear S; intro b8 a w S
          refine te S ?_
          refine tl ?_
          refine sr S (small16_c 24 ta _ w (by omega) (foots_lt S) (S.t ta)) ?_; clear S; rintro _ _ w ⟨s, rfl, -, hsf⟩ S
          replace S := S.add hsf
          refine te S ?_
          refine tl ?_
          refine sr S (small16_c 24 tb _ w (by omega) (foots_lt S) (S.t tb)) ?_; clear S; rintro _ _ w ⟨x1, rfl, -, hxf⟩ S
          replace S := S.add hxf
          refine te S ?_
          refine tl ?_
          refine sr S (small16_c 24 tc _ w (by omega) (foots_lt S) (S.t tc)) ?_; clear S; rintro _ _ w ⟨y1, rfl, -, hyf⟩ S
          replace S := S.add hyf
          refine te S ?_
          refine tl ?_
          refine sw S ?_; clear S; intro a w S
          refine te S ?_
          refine tl ?_
          refine sw S ?_; clear S; intro a w S
          refine te S ?_
          refine tl ?_
          refine sw S ?_; clear S; intro a w S
          refine te S ?_
          refine tn ?_
          exact ⟨b7, b8, b9, s, x1, y1, S.uu, trivial, (St.pullT (Wk.box b7 24 s.cells) (St.pullT (Wk.box b8 24 x1.cells) (St.pullT (Wk.box b9 24 y1.cells) S))).sub _ _⟩
    · refine sa S ?_; clear S; intro b8 a w S
      refine te S ?_
      refine tb3 ?_ ?_ ?_
      · refine sr S (small16_c 24 ta _ w (by omega) (foots_lt S) (S.t ta)) ?_; clear S; rintro _ _ w ⟨s, rfl, -, hsf⟩ S
        replace S := S.add hsf
        refine te S ?_
        refine tb3 ?_ ?_ ?_
        · refine sr S (small16_c 24 tb _ w (by omega) (foots_lt S) (S.t tb)) ?_; clear S; rintro _ _ w ⟨x1, rfl, -, hxf⟩ S
          replace S := S.add hxf
          refine te S ?_
          refine tb3 ?_ ?_ ?_
          · refine sr S (small16_c 24 tc _ w (by omega) (foots_lt S) (S.t tc)) ?_; clear S; rintro _ _ w ⟨y1, rfl, -, hyf⟩ S
            replace S := S.add hyf
            refine te S ?_
            refine tb2 ?_ ?_
            · refine sa S ?_; clear S; intro b7 a w S
              refine te S ?_
              refine tl ?_
              refine sa S ?_; clear S; intro b9 a w S
              refine te S ?_
              refine tl ?_
              refine sw S ?_; clear S; intro a w S
              refine te S ?_
              refine tl ?_
              refine sw S ?_; clear S; intro a w S
              refine te S ?_
              refine tl ?_
              refine sw S ?_; clear S; intro a w S
              refine te S ?_
              refine tn ?_
              exact ⟨b7, b8, b9, s, x1, y1, S.uu, trivial, (St.pullT (Wk.box b7 24 s.cells) (St.pullT (Wk.box b8 24 x1.cells) (St.pullT (Wk.box b9 24 y1.cells) S))).sub _ _⟩
            · refine sa S ?_; clear S; intro b9 a w S
              refine te S ?_
              refine tl ?_
              refine sa S ?_; clear S; intro b7 a w S
              refine te S ?_
              refine tl ?_
              refine sw S ?_; clear S; intro a w S
              refine te S ?_
              refine tl ?_
              refine sw S ?_; clear S; intro a w S
              refine te S ?_
              refine tl ?_
              refine sw S ?_; clear S; intro a w S
              refine te S ?_
              refine tn ?_
              exact ⟨b7, b8, b9, s, x1, y1, S.uu, trivial, (St.pullT (Wk.box b7 24 s.cells) (St.pullT (Wk.box b8 24 x1.cells) (St.pullT (Wk.box b9 24 y1.cells) S))).sub _ _⟩
          · refine sa S ?_; clear S; intro b7 a w S
            refine te S ?_
            refine tb2 ?_ ?_
            · refine sr S (small16_c 24 tc _ w (by omega) (foots_lt S) (S.t tc)) ?_; clear S; rintro _ _ w ⟨y1, rfl, -, hyf⟩ S
              replace S := S.add hyf
              refine te S ?_
              refine tl ?_
              refine sa S ?_; clear S; intro b9 a w S
              refine te S ?_
              refine tl ?_
              refine sw S ?_; clear S; intro a w S
              refine te S ?_
              refine tl ?_
              refine sw S ?_; clear S; intro a w S
              refine te S ?_
              refine tl ?_
              refine sw S ?_; clear S; intro a w S
              refine te S ?_
              refine tn ?_
              exact ⟨b7, b8, b9, s, x1, y1, S.uu, trivial, (St.pullT (Wk.box b7 24 s.cells) (St.pullT (Wk.box b8 24 x1.cells) (St.pullT (Wk.box b9 24 y1.cells) S))).sub _ _⟩
            · refine sa S ?_; clear S; intro b9 a w S
              refine te S ?_
              refine tl ?_
              refine sr S (small16_c 24 tc _ w (by omega) (foots_lt S) (S.t tc)) ?_; clear S; rintro _ _ w ⟨y1, rfl, -, hyf⟩ S
              replace S := S.add hyf
              refine te S ?_
              refine tl ?_
              refine sw S ?_; clear S; intro a w S
              refine te S ?_
              refine tl ?_
              refine sw S ?_; clear S; intro a w S
              refine te S ?_
              refine tl ?_
              refine sw S ?_; clear S; intro a w S
              refine te S ?_
              refine tn ?_
              exact ⟨b7, b8, b9, s, x1, y1, S.uu, trivial, (St.pullT (Wk.box b7 24 s.cells) (St.pullT (Wk.box b8 24 x1.cells) (St.pullT (Wk.box b9 24 y1.cells) S))).sub _ _⟩
          · refine sa S ?_; clear S; intro b9 a w S
            refine te S ?_
            refine tb2 ?_ ?_
            · refine sr S (small16_c 24 tc _ w (by omega) (foots_lt S) (S.t tc)) ?_; clear S; rintro _ _ w ⟨y1, rfl, -, hyf⟩ S
              replace S := S.add hyf
              refine te S ?_
              refine tl ?_
              refine sa S ?_; clear S; intro b7 a w S
              refine te S ?_
              refine tl ?_
              refine sw S ?_; clear S; intro a w S
              refine te S ?_
              refine tl ?_
              refine sw S ?_; clear S; intro a w S
              refine te S ?_
              refine tl ?_
              refine sw S ?_; clear S; intro a w S
              refine te S ?_
              refine tn ?_
              exact ⟨b7, b8, b9, s, x1, y1, S.uu, trivial, (St.pullT (Wk.box b7 24 s.cells) (St.pullT (Wk.box b8 24 x1.cells) (St.pullT (Wk.box b9 24 y1.cells) S))).sub _ _⟩
            · refine sa S ?_; clear S; intro b7 a w S
              refine te S ?_
              refine tl ?_
              refine sr S (small16_c 24 tc _ w (by omega) (foots_lt S) (S.t tc)) ?_; clear S; rintro _ _ w ⟨y1, rfl, -, hyf⟩ S
              replace S := S.add hyf
              refine te S ?_
              refine tl ?_
              refine sw S ?_; clear S; intro a w S
              refine te S ?_
              refine tl ?_
              refine sw S ?_; clear S; intro a w S
              refine te S ?_
              refine tl ?_
              refine sw S ?_; clear S; intro a w S
              refine te S ?_
              refine tn ?_
              exact ⟨b7, b8, b9, s, x1, y1, S.uu, trivial, (St.pullT (Wk.box b7 24 s.cells) (St.pullT (Wk.box b8 24 x1.cells) (St.pullT (Wk.box b9 24 y1.cells) S))).sub _ _⟩
        · refine sa S ?_; clear S; intro b7 a w S
          refine te S ?_
          refine tb2 ?_ ?_
          · refine sr S (small16_c 24 tb _ w (by omega) (foots_lt S) (S.t tb)) ?_; clear S; rintro _ _ w ⟨x1, rfl, -, hxf⟩ S
            replace S := S.add hxf
            refine te S ?_
            refine tb2 ?_ ?_
            · refine sr S (small16_c 24 tc _ w (by omega) (foots_lt S) (S.t tc)) ?_; clear S; rintro _ _ w ⟨y1, rfl, -, hyf⟩ S
              replace S := S.add hyf
              refine te S ?_
              refine tl ?_
              refine sa S ?_; clear S; intro b9 a w S
              refine te S ?_
              refine tl ?_
              refine sw S ?_; clear S; intro a w S
              refine te S ?_
              refine tl ?_
              refine sw S ?_; clear S; intro a w S
              refine te S ?_
              refine tl ?_
              refine sw S ?_; clear S; intro a w S
              refine te S ?_
              refine tn ?_
              exact ⟨b7, b8, b9, s, x1, y1, S.uu, trivial, (St.pullT (Wk.box b7 24 s.cells) (St.pullT (Wk.box b8 24 x1.cells) (St.pullT (Wk.box b9 24 y1.cells) S))).sub _ _⟩
            · refine sa S ?_; clear S; intro b9 a w S
              refine te S ?_
              refine tl ?_
              refine sr S (small16_c 24 tc _ w (by omega) (foots_lt S) (S.t tc)) ?_; clear S; rintro _ _ w ⟨y1, rfl, -, hyf⟩ S
              replace S := S.add hyf
              refine te S ?_
              refine tl ?_
              refine sw S ?_; clear S; intro a w S
              refine te S ?_
              refine tl ?_
              refine sw S ?_; clear S; intro a w S
              refine te S ?_
              refine tl ?_
              refine sw S ?_; clear S; intro a w S
              refine te S ?_
              refine tn ?_
              exact ⟨b7, b8, b9, s, x1, y1, S.uu, trivial, (St.pullT (Wk.box b7 24 s.cells) (St.pullT (Wk.box b8 24 x1.cells) (St.pullT (Wk.box b9 24 y1.cells) S))).sub _ _⟩
          · refine sa S ?_; clear S; intro b9 a w S
            refine te S ?_
            refine tl ?_
            refine sr S (small16_c 24 tb _ w (by omega) (foots_lt S) (S.t tb)) ?_; clear S; rintro _ _ w ⟨x1, rfl, -, hxf⟩ S
            replace S := S.add hxf
            refine te S ?_
            refine tl ?_
            refine sr S (small16_c 24 tc _ w (by omega) (foots_lt S) (S.t tc)) ?_; clear S; rintro _ _ w ⟨y1, rfl, -, hyf⟩ S
            replace S := S.add hyf
            refine te S ?_
            refine tl ?_
            refine sw S ?_; clear S; intro a w S
            refine te S ?_
            refine tl ?_
            refine sw S ?_; clear S; intro a w S
            refine te S ?_
            refine tl ?_
            refine sw S ?_; clear S; intro a w S
            refine te S ?_
            refine tn ?_
            exact ⟨b7, b8, b9, s, x1, y1, S.uu, trivial, (St.pullT (Wk.box b7 24 s.cells) (St.pullT (Wk.box b8 24 x1.cells) (St.pullT (Wk.box b9 24 y1.cells) S))).sub _ _⟩
        · refine sa S ?_; clear S; intro b9 a w S
          refine te S ?_
          refine tb2 ?_ ?_
          · refine sr S (small16_c 24 tb _ w (by omega) (foots_lt S) (S.t tb)) ?_; clear S; rintro _ _ w ⟨x1, rfl, -, hxf⟩ S
            replace S := S.add hxf
            refine te S ?_
            refine tb2 ?_ ?_
            · refine sr S (small16_c 24 tc _ w (by omega) (foots_lt S) (S.t tc)) ?_; clear S; rintro _ _ w ⟨y1, rfl, -, hyf⟩ S
              replace S := S.add hyf
              refine te S ?_
              refine tl ?_
              refine sa S ?_; clear S; intro b7 a w S
              refine te S ?_
              refine tl ?_
              refine sw S ?_; clear S; intro a w S
              refine te S ?_
              refine tl ?_
              refine sw S ?_; clear S; intro a w S
              refine te S ?_
              refine tl ?_
              refine sw S ?_; clear S; intro a w S
              refine te S ?_
              refine tn ?_
              exact ⟨b7, b8, b9, s, x1, y1, S.uu, trivial, (St.pullT (Wk.box b7 24 s.cells) (St.pullT (Wk.box b8 24 x1.cells) (St.pullT (Wk.box b9 24 y1.cells) S))).sub _ _⟩
            · refine sa S ?_; clear S; intro b7 a w S
              refine te S ?_
              refine tl ?_
              refine sr S (small16_c 24 tc _ w (by omega) (foots_lt S) (S.t tc)) ?_; clear S; rintro _ _ w ⟨y1, rfl, -, hyf⟩ S
              replace S := S.add hyf
              refine te S ?_
              refine tl ?_
              refine sw S ?_; clear S; intro a w S
              refine te S ?_
              refine tl ?_
              refine sw S ?_; clear S; intro a w S
              refine te S ?_
              refine tl ?_
              refine sw S ?_; clear S; intro a w S
              refine te S ?_
              refine tn ?_
              exact ⟨b7, b8, b9, s, x1, y1, S.uu, trivial, (St.pullT (Wk.box b7 24 s.cells) (St.pullT (Wk.box b8 24 x1.cells) (St.pullT (Wk.box b9 24 y1.cells) S))).sub _ _⟩
          · refine sa S ?_; clear S; intro b7 a w S
            refine te S ?_
            refine tl ?_
            refine sr S (small16_c 24 tb _ w (by omega) (foots_lt S) (S.t tb)) ?_; clear S; rintro _ _ w ⟨x1, rfl, -, hxf⟩ S
            replace S := S.add hxf
            refine te S ?_
            refine tl ?_
            refine sr S (small16_c 24 tc _ w (by omega) (foots_lt S) (S.t tc)) ?_; clear S; rintro _ _ w ⟨y1, rfl, -, hyf⟩ S
            replace S := S.add hyf
            refine te S ?_
            refine tl ?_
            refine sw S ?_; clear S; intro a w S
            refine te S ?_
            refine tl ?_
            refine sw S ?_; clear S; intro a w S
            refine te S ?_
            refine tl ?_
            refine sw S ?_; clear S; intro a w S
            refine te S ?_
            refine tn ?_
            exact ⟨b7, b8, b9, s, x1, y1, S.uu, trivial, (St.pullT (Wk.box b7 24 s.cells) (St.pullT (Wk.box b8 24 x1.cells) (St.pullT (Wk.box b9 24 y1.cells) S))).sub _ _⟩
      · refine sa S ?_; clear S; intro b7 a w S
        refine te S ?_
        refine tb2 ?_ ?_
        · refine sr S (small16_c 24 ta _ w (by omega) (foots_lt S) (S.t ta)) ?_; clear S; rintro _ _ w ⟨s, rfl, -, hsf⟩ S
          replace S := S.add hsf
          refine te S ?_
          refine tb2 ?_ ?_
          · refine sr S (small16_c 24 tb _ w (by omega) (foots_lt S) (S.t tb)) ?_; clear S; rintro _ _ w ⟨x1, rfl, -, hxf⟩ S
            replace S := S.add hxf
            refine te S ?_
            refine tb2 ?_ ?_
            · refine sr S (small16_c 24 tc _ w (by omega) (foots_lt S) (S.t tc)) ?_; clear S; rintro _ _ w ⟨y1, rfl, -, hyf⟩ S
              replace S := S.add hyf
              refine te S ?_
              refine tl ?_
              refine sa S ?_; clear S; intro b9 a w S
              refine te S ?_
              refine tl ?_
              refine sw S ?_; clear S; intro a w S
              refine te S ?_
              refine tl ?_
              refine sw S ?_; clear S; intro a w S
              refine te S ?_
              refine tl ?_
              refine sw S ?_; clear S; intro a w S
              refine te S ?_
              refine tn ?_
              exact ⟨b7, b8, b9, s, x1, y1, S.uu, trivial, (St.pullT (Wk.box b7 24 s.cells) (St.pullT (Wk.box b8 24 x1.cells) (St.pullT (Wk.box b9 24 y1.cells) S))).sub _ _⟩
            · refine sa S ?_; clear S; intro b9 a w S
              refine te S ?_
              refine tl ?_
              refine sr S (small16_c 24 tc _ w (by omega) (foots_lt S) (S.t tc)) ?_; clear S; rintro _ _ w ⟨y1, rfl, -, hyf⟩ S
              replace S := S.add hyf
              refine te S ?_
              refine tl ?_
              refine sw S ?_; clear S; intro a w S
              refine te S ?_
              refine tl ?_
              refine sw S ?_; clear S; intro a w S
              refine te S ?_
              refine tl ?_
              refine sw S ?_; clear S; intro a w S
              refine te S ?_
              refine tn ?_
              exact ⟨b7, b8, b9, s, x1, y1, S.uu, trivial, (St.pullT (Wk.box b7 24 s.cells) (St.pullT (Wk.box b8 24 x1.cells) (St.pullT (Wk.box b9 24 y1.cells) S))).sub _ _⟩
          · refine sa S ?_; clear S; intro b9 a w S
            refine te S ?_
            refine tl ?_
            refine sr S (small16_c 24 tb _ w (by omega) (foots_lt S) (S.t tb)) ?_; clear S; rintro _ _ w ⟨x1, rfl, -, hxf⟩ S
            replace S := S.add hxf
            refine te S ?_
            refine tl ?_
            refine sr S (small16_c 24 tc _ w (by omega) (foots_lt S) (S.t tc)) ?_; clear S; rintro _ _ w ⟨y1, rfl, -, hyf⟩ S
            replace S := S.add hyf
            refine te S ?_
            refine tl ?_
            refine sw S ?_; clear S; intro a w S
            refine te S ?_
            refine tl ?_
            refine sw S ?_; clear S; intro a w S
            refine te S ?_
            refine tl ?_
            refine sw S ?_; clear S; intro a w S
            refine te S ?_
            refine tn ?_
            exact ⟨b7, b8, b9, s, x1, y1, S.uu, trivial, (St.pullT (Wk.box b7 24 s.cells) (St.pullT (Wk.box b8 24 x1.cells) (St.pullT (Wk.box b9 24 y1.cells) S))).sub _ _⟩
        · refine sa S ?_; clear S; intro b9 a w S
          refine te S ?_
          refine tl ?_
          refine sr S (small16_c 24 ta _ w (by omega) (foots_lt S) (S.t ta)) ?_; clear S; rintro _ _ w ⟨s, rfl, -, hsf⟩ S
          replace S := S.add hsf
          refine te S ?_
          refine tl ?_
          refine sr S (small16_c 24 tb _ w (by omega) (foots_lt S) (S.t tb)) ?_; clear S; rintro _ _ w ⟨x1, rfl, -, hxf⟩ S
          replace S := S.add hxf
          refine te S ?_
          refine tl ?_
          refine sr S (small16_c 24 tc _ w (by omega) (foots_lt S) (S.t tc)) ?_; clear S; rintro _ _ w ⟨y1, rfl, -, hyf⟩ S
          replace S := S.add hyf
          refine te S ?_
          refine tl ?_
          refine sw S ?_; clear S; intro a w S
          refine te S ?_
          refine tl ?_
          refine sw S ?_; clear S; intro a w S
          refine te S ?_
          refine tl ?_
          refine sw S ?_; clear S; intro a w S
          refine te S ?_
          refine tn ?_
          exact ⟨b7, b8, b9, s, x1, y1, S.uu, trivial, (St.pullT (Wk.box b7 24 s.cells) (St.pullT (Wk.box b8 24 x1.cells) (St.pullT (Wk.box b9 24 y1.cells) S))).sub _ _⟩
      · refine sa S ?_; clear S; intro b9 a w S
        refine te S ?_
        refine tb2 ?_ ?_
        · refine sr S (small16_c 24 ta _ w (by omega) (foots_lt S) (S.t ta)) ?_; clear S; rintro _ _ w ⟨s, rfl, -, hsf⟩ S
          replace S := S.add hsf
          refine te S ?_
          refine tb2 ?_ ?_
          · refine sr S (small16_c 24 tb _ w (by omega) (foots_lt S) (S.t tb)) ?_; clear S; rintro _ _ w ⟨x1, rfl, -, hxf⟩ S
            replace S := S.add hxf
            refine te S ?_
            refine tb2 ?_ ?_
            · refine sr S (small16_c 24 tc _ w (by omega) (foots_lt S) (S.t tc)) ?_; clear S; rintro _ _ w ⟨y1, rfl, -, hyf⟩ S
              replace S := S.add hyf
              refine te S ?_
              refine tl ?_
              refine sa S ?_; clear S; intro b7 a w S
              refine te S ?_
              refine tl ?_
              refine sw S ?_; clear S; intro a w S
              refine te S ?_
              refine tl ?_
              refine sw S ?_; clear S; intro a w S
              refine te S ?_
              refine tl ?_
              refine sw S ?_; clear S; intro a w S
              refine te S ?_
              refine tn ?_
              exact ⟨b7, b8, b9, s, x1, y1, S.uu, trivial, (St.pullT (Wk.box b7 24 s.cells) (St.pullT (Wk.box b8 24 x1.cells) (St.pullT (Wk.box b9 24 y1.cells) S))).sub _ _⟩
            · refine sa S ?_; clear S; intro b7 a w S
              refine te S ?_
              refine tl ?_
              refine sr S (small16_c 24 tc _ w (by omega) (foots_lt S) (S.t tc)) ?_; clear S; rintro _ _ w ⟨y1, rfl, -, hyf⟩ S
              replace S := S.add hyf
              refine te S ?_
              refine tl ?_
              refine sw S ?_; clear S; intro a w S
              refine te S ?_
              refine tl ?_
              refine sw S ?_; clear S; intro a w S
              refine te S ?_
              refine tl ?_
              refine sw S ?_; clear S; intro a w S
              refine te S ?_
              refine tn ?_
              exact ⟨b7, b8, b9, s, x1, y1, S.uu, trivial, (St.pullT (Wk.box b7 24 s.cells) (St.pullT (Wk.box b8 24 x1.cells) (St.pullT (Wk.box b9 24 y1.cells) S))).sub _ _⟩
          · refine sa S ?_; clear S; intro b7 a w S
            refine te S ?_
            refine tl ?_
            refine sr S (small16_c 24 tb _ w (by omega) (foots_lt S) (S.t tb)) ?_; clear S; rintro _ _ w ⟨x1, rfl, -, hxf⟩ S
            replace S := S.add hxf
            refine te S ?_
            refine tl ?_
            refine sr S (small16_c 24 tc _ w (by omega) (foots_lt S) (S.t tc)) ?_; clear S; rintro _ _ w ⟨y1, rfl, -, hyf⟩ S
            replace S := S.add hyf
            refine te S ?_
            refine tl ?_
            refine sw S ?_; clear S; intro a w S
            refine te S ?_
            refine tl ?_
            refine sw S ?_; clear S; intro a w S
            refine te S ?_
            refine tl ?_
            refine sw S ?_; clear S; intro a w S
            refine te S ?_
            refine tn ?_
            exact ⟨b7, b8, b9, s, x1, y1, S.uu, trivial, (St.pullT (Wk.box b7 24 s.cells) (St.pullT (Wk.box b8 24 x1.cells) (St.pullT (Wk.box b9 24 y1.cells) S))).sub _ _⟩
        · refine sa S ?_; clear S; intro b7 a w S
          refine te S ?_
          refine tl ?_
          refine sr S (small16_c 24 ta _ w (by omega) (foots_lt S) (S.t ta)) ?_; clear S; rintro _ _ w ⟨s, rfl, -, hsf⟩ S
          replace S := S.add hsf
          refine te S ?_
          refine tl ?_
          refine sr S (small16_c 24 tb _ w (by omega) (foots_lt S) (S.t tb)) ?_; clear S; rintro _ _ w ⟨x1, rfl, -, hxf⟩ S
          replace S := S.add hxf
          refine te S ?_
          refine tl ?_
          refine sr S (small16_c 24 tc _ w (by omega) (foots_lt S) (S.t tc)) ?_; clear S; rintro _ _ w ⟨y1, rfl, -, hyf⟩ S
          replace S := S.add hyf
          refine te S ?_
          refine tl ?_
          refine sw S ?_; clear S; intro a w S
          refine te S ?_
          refine tl ?_
          refine sw S ?_; clear S; intro a w S
          refine te S ?_
          refine tl ?_
          refine sw S ?_; clear S; intro a w S
          refine te S ?_
          refine tn ?_
          exact ⟨b7, b8, b9, s, x1, y1, S.uu, trivial, (St.pullT (Wk.box b7 24 s.cells) (St.pullT (Wk.box b8 24 x1.cells) (St.pullT (Wk.box b9 24 y1.cells) S))).sub _ _⟩
    · refine sa S ?_; clear S; intro b9 a w S
      refine te S ?_
      refine tb3 ?_ ?_ ?_
      · refine sr S (small16_c 24 ta _ w (by omega) (foots_lt S) (S.t ta)) ?_; clear S; rintro _ _ w ⟨s, rfl, -, hsf⟩ S
        replace S := S.add hsf
        refine te S ?_
        refine tb3 ?_ ?_ ?_
        · refine sr S (small16_c 24 tb _ w (by omega) (foots_lt S) (S.t tb)) ?_; clear S; rintro _ _ w ⟨x1, rfl, -, hxf⟩ S
          replace S := S.add hxf
          refine te S ?_
          refine tb3 ?_ ?_ ?_
          · refine sr S (small16_c 24 tc _ w (by omega) (foots_lt S) (S.t tc)) ?_; clear S; rintro _ _ w ⟨y1, rfl, -, hyf⟩ S
            replace S := S.add hyf
            refine te S ?_
            refine tb2 ?_ ?_
            · refine sa S ?_; clear S; intro b7 a w S
              refine te S ?_
              refine tl ?_
              refine sa S ?_; clear S; intro b8 a w S
              refine te S ?_
              refine tl ?_
              refine sw S ?_; clear S; intro a w S
              refine te S ?_
              refine tl ?_
              refine sw S ?_; clear S; intro a w S
              refine te S ?_
              refine tl ?_
              refine sw S ?_; clear S; intro a w S
              refine te S ?_
              refine tn ?_
              exact ⟨b7, b8, b9, s, x1, y1, S.uu, trivial, (St.pullT (Wk.box b7 24 s.cells) (St.pullT (Wk.box b8 24 x1.cells) (St.pullT (Wk.box b9 24 y1.cells) S))).sub _ _⟩
            · refine sa S ?_; clear S; intro b8 a w S
              refine te S ?_
              refine tl ?_
              refine sa S ?_; clear S; intro b7 a w S
              refine te S ?_
              refine tl ?_
              refine sw S ?_; clear S; intro a w S
              refine te S ?_
              refine tl ?_
              refine sw S ?_; clear S; intro a w S
              refine te S ?_
              refine tl ?_
              refine sw S ?_; clear S; intro a w S
              refine te S ?_
              refine tn ?_
              exact ⟨b7, b8, b9, s, x1, y1, S.uu, trivial, (St.pullT (Wk.box b7 24 s.cells) (St.pullT (Wk.box b8 24 x1.cells) (St.pullT (Wk.box b9 24 y1.cells) S))).sub _ _⟩
          · refine sa S ?_; clear S; intro b7 a w S
            refine te S ?_
            refine tb2 ?_ ?_
            · refine sr S (small16_c 24 tc _ w (by omega) (foots_lt S) (S.t tc)) ?_; clear S; rintro _ _ w ⟨y1, rfl, -, hyf⟩ S
              replace S := S.add hyf
              refine te S ?_
              refine tl ?_
              refine sa S ?_; clear S; intro b8 a w S
              refine te S ?_
              refine tl ?_
              refine sw S ?_; clear S; intro a w S
              refine te S ?_
              refine tl ?_
              refine sw S ?_; clear S; intro a w S
              refine te S ?_
              refine tl ?_
              refine sw S ?_; clear S; intro a w S
              refine te S ?_
              refine tn ?_
              exact ⟨b7, b8, b9, s, x1, y1, S.uu, trivial, (St.pullT (Wk.box b7 24 s.cells) (St.pullT (Wk.box b8 24 x1.cells) (St.pullT (Wk.box b9 24 y1.cells) S))).sub _ _⟩
            · refine sa S ?_; clear S; intro b8 a w S
              refine te S ?_
              refine tl ?_
              refine sr S (small16_c 24 tc _ w (by omega) (foots_lt S) (S.t tc)) ?_; clear S; rintro _ _ w ⟨y1, rfl, -, hyf⟩ S
              replace S := S.add hyf
              refine te S ?_
              refine tl ?_
              refine sw S ?_; clear S; intro a w S
              refine te S ?_
              refine tl ?_
              refine sw S ?_; clear S; intro a w S
              refine te S ?_
              refine tl ?_
              refine sw S ?_; clear S; intro a w S
              refine te S ?_
              refine tn ?_
              exact ⟨b7, b8, b9, s, x1, y1, S.uu, trivial, (St.pullT (Wk.box b7 24 s.cells) (St.pullT (Wk.box b8 24 x1.cells) (St.pullT (Wk.box b9 24 y1.cells) S))).sub _ _⟩
          · refine sa S ?_; clear S; intro b8 a w S
            refine te S ?_
            refine tb2 ?_ ?_
            · refine sr S (small16_c 24 tc _ w (by omega) (foots_lt S) (S.t tc)) ?_; clear S; rintro _ _ w ⟨y1, rfl, -, hyf⟩ S
              replace S := S.add hyf
              refine te S ?_
              refine tl ?_
              refine sa S ?_; clear S; intro b7 a w S
              refine te S ?_
              refine tl ?_
              refine sw S ?_; clear S; intro a w S
              refine te S ?_
              refine tl ?_
              refine sw S ?_; clear S; intro a w S
              refine te S ?_
              refine tl ?_
              refine sw S ?_; clear S; intro a w S
              refine te S ?_
              refine tn ?_
              exact ⟨b7, b8, b9, s, x1, y1, S.uu, trivial, (St.pullT (Wk.box b7 24 s.cells) (St.pullT (Wk.box b8 24 x1.cells) (St.pullT (Wk.box b9 24 y1.cells) S))).sub _ _⟩
            · refine sa S ?_; clear S; intro b7 a w S
              refine te S ?_
              refine tl ?_
              refine sr S (small16_c 24 tc _ w (by omega) (foots_lt S) (S.t tc)) ?_; clear S; rintro _ _ w ⟨y1, rfl, -, hyf⟩ S
              replace S := S.add hyf
              refine te S ?_
              refine tl ?_
              refine sw S ?_; clear S; intro a w S
              refine te S ?_
              refine tl ?_
              refine sw S ?_; clear S; intro a w S
              refine te S ?_
              refine tl ?_
              refine sw S ?_; clear S; intro a w S
              refine te S ?_
              refine tn ?_
              exact ⟨b7, b8, b9, s, x1, y1, S.uu, trivial, (St.pullT (Wk.box b7 24 s.cells) (St.pullT (Wk.box b8 24 x1.cells) (St.pullT (Wk.box b9 24 y1.cells) S))).sub _ _⟩
        · refine sa S ?_; clear S; intro b7 a w S
          refine te S ?_
          refine tb2 ?_ ?_
          · refine sr S (small16_c 24 tb _ w (by omega) (foots_lt S) (S.t tb)) ?_; clear S; rintro _ _ w ⟨x1, rfl, -, hxf⟩ S
            replace S := S.add hxf
            refine te S ?_
            refine tb2 ?_ ?_
            · refine sr S (small16_c 24 tc _ w (by omega) (foots_lt S) (S.t tc)) ?_; clear S; rintro _ _ w ⟨y1, rfl, -, hyf⟩ S
              replace S := S.add hyf
              refine te S ?_
              refine tl ?_
              refine sa S ?_; clear S; intro b8 a w S
              refine te S ?_
              refine tl ?_
              refine sw S ?_; clear S; intro a w S
              refine te S ?_
              refine tl ?_
              refine sw S ?_; clear S; intro a w S
              refine te S ?_
              refine tl ?_
              refine sw S ?_; clear S; intro a w S
              refine te S ?_
              refine tn ?_
              exact ⟨b7, b8, b9, s, x1, y1, S.uu, trivial, (St.pullT (Wk.box b7 24 s.cells) (St.pullT (Wk.box b8 24 x1.cells) (St.pullT (Wk.box b9 24 y1.cells) S))).sub _ _⟩
            · refine sa S ?_; clear S; intro b8 a w S
              refine te S ?_
              refine tl ?_
              refine sr S (small16_c 24 tc _ w (by omega) (foots_lt S) (S.t tc)) ?_; clear S; rintro _ _ w ⟨y1, rfl, -, hyf⟩ S
              replace S := S.add hyf
              refine te S ?_
              refine tl ?_
              refine sw S ?_; clear S; intro a w S
              refine te S ?_
              refine tl ?_
              refine sw S ?_; clear S; intro a w S
              refine te S ?_
              refine tl ?_
              refine sw S ?_; clear S; intro a w S
              refine te S ?_
              refine tn ?_
              exact ⟨b7, b8, b9, s, x1, y1, S.uu, trivial, (St.pullT (Wk.box b7 24 s.cells) (St.pullT (Wk.box b8 24 x1.cells) (St.pullT (Wk.box b9 24 y1.cells) S))).sub _ _⟩
          · refine sa S ?_; clear S; intro b8 a w S
            refine te S ?_
            refine tl ?_
            refine sr S (small16_c 24 tb _ w (by omega) (foots_lt S) (S.t tb)) ?_; clear S; rintro _ _ w ⟨x1, rfl, -, hxf⟩ S
            replace S := S.add hxf
            refine te S ?_
            refine tl ?_
            refine sr S (small16_c 24 tc _ w (by omega) (foots_lt S) (S.t tc)) ?_; clear S; rintro _ _ w ⟨y1, rfl, -, hyf⟩ S
            replace S := S.add hyf
            refine te S ?_
            refine tl ?_
            refine sw S ?_; clear S; intro a w S
            refine te S ?_
            refine tl ?_
            refine sw S ?_; clear S; intro a w S
            refine te S ?_
            refine tl ?_
            refine sw S ?_; clear S; intro a w S
            refine te S ?_
            refine tn ?_
            exact ⟨b7, b8, b9, s, x1, y1, S.uu, trivial, (St.pullT (Wk.box b7 24 s.cells) (St.pullT (Wk.box b8 24 x1.cells) (St.pullT (Wk.box b9 24 y1.cells) S))).sub _ _⟩
        · refine sa S ?_; clear S; intro b8 a w S
          refine te S ?_
          refine tb2 ?_ ?_
          · refine sr S (small16_c 24 tb _ w (by omega) (foots_lt S) (S.t tb)) ?_; clear S; rintro _ _ w ⟨x1, rfl, -, hxf⟩ S
            replace S := S.add hxf
            refine te S ?_
            refine tb2 ?_ ?_
            · refine sr S (small16_c 24 tc _ w (by omega) (foots_lt S) (S.t tc)) ?_; clear S; rintro _ _ w ⟨y1, rfl, -, hyf⟩ S
              replace S := S.add hyf
              refine te S ?_
              refine tl ?_
              refine sa S ?_; clear S; intro b7 a w S
              refine te S ?_
              refine tl ?_
              refine sw S ?_; clear S; intro a w S
              refine te S ?_
              refine tl ?_
              refine sw S ?_; clear S; intro a w S
              refine te S ?_
              refine tl ?_
              refine sw S ?_; clear S; intro a w S
              refine te S ?_
              refine tn ?_
              exact ⟨b7, b8, b9, s, x1, y1, S.uu, trivial, (St.pullT (Wk.box b7 24 s.cells) (St.pullT (Wk.box b8 24 x1.cells) (St.pullT (Wk.box b9 24 y1.cells) S))).sub _ _⟩
            · refine sa S ?_; clear S; intro b7 a w S
              refine te S ?_
              refine tl ?_
              refine sr S (small16_c 24 tc _ w (by omega) (foots_lt S) (S.t tc)) ?_; clear S; rintro _ _ w ⟨y1, rfl, -, hyf⟩ S
              replace S := S.add hyf
              refine te S ?_
              refine tl ?_
              refine sw S ?_; clear S; intro a w S
              refine te S ?_
              refine tl ?_
              refine sw S ?_; clear S; intro a w S
              refine te S ?_
              refine tl ?_
              refine sw S ?_; clear S; intro a w S
              refine te S ?_
              refine tn ?_
              exact ⟨b7, b8, b9, s, x1, y1, S.uu, trivial, (St.pullT (Wk.box b7 24 s.cells) (St.pullT (Wk.box b8 24 x1.cells) (St.pullT (Wk.box b9 24 y1.cells) S))).sub _ _⟩
          · refine sa S ?_; clear S; intro b7 a w S
            refine te S ?_
            refine tl ?_
            refine sr S (small16_c 24 tb _ w (by omega) (foots_lt S) (S.t tb)) ?_; clear S; rintro _ _ w ⟨x1, rfl, -, hxf⟩ S
            replace S := S.add hxf
            refine te S ?_
            refine tl ?_
            refine sr S (small16_c 24 tc _ w (by omega) (foots_lt S) (S.t tc)) ?_; clear S; rintro _ _ w ⟨y1, rfl, -, hyf⟩ S
            replace S := S.add hyf
            refine te S ?_
            refine tl ?_
            refine sw S ?_; clear S; intro a w S
            refine te S ?_
            refine tl ?_
            refine sw S ?_; clear S; intro a w S
            refine te S ?_
            refine tl ?_
            refine sw S ?_; clear S; intro a w S
            refine te S ?_
            refine tn ?_
            exact ⟨b7, b8, b9, s, x1, y1, S.uu, trivial, (St.pullT (Wk.box b7 24 s.cells) (St.pullT (Wk.box b8 24 x1.cells) (St.pullT (Wk.box b9 24 y1.cells) S))).sub _ _⟩
      · refine sa S ?_; clear S; intro b7 a w S
        refine te S ?_
        refine tb2 ?_ ?_
        · refine sr S (small16_c 24 ta _ w (by omega) (foots_lt S) (S.t ta)) ?_; clear S; rintro _ _ w ⟨s, rfl, -, hsf⟩ S
          replace S := S.add hsf
          refine te S ?_
          refine tb2 ?_ ?_
          · refine sr S (small16_c 24 tb _ w (by omega) (foots_lt S) (S.t tb)) ?_; clear S; rintro _ _ w ⟨x1, rfl, -, hxf⟩ S
            replace S := S.add hxf
            refine te S ?_
            refine tb2 ?_ ?_
            · refine sr S (small16_c 24 tc _ w (by omega) (foots_lt S) (S.t tc)) ?_; clear S; rintro _ _ w ⟨y1, rfl, -, hyf⟩ S
              replace S := S.add hyf
              refine te S ?_
              refine tl ?_
              refine sa S ?_; clear S; intro b8 a w S
              refine te S ?_
              refine tl ?_
              refine sw S ?_; clear S; intro a w S
              refine te S ?_
              refine tl ?_
              refine sw S ?_; clear S; intro a w S
              refine te S ?_
              refine tl ?_
              refine sw S ?_; clear S; intro a w S
              refine te S ?_
              refine tn ?_
              exact ⟨b7, b8, b9, s, x1, y1, S.uu, trivial, (St.pullT (Wk.box b7 24 s.cells) (St.pullT (Wk.box b8 24 x1.cells) (St.pullT (Wk.box b9 24 y1.cells) S))).sub _ _⟩
            · refine sa S ?_; clear S; intro b8 a w S
              refine te S ?_
              refine tl ?_
              refine sr S (small16_c 24 tc _ w (by omega) (foots_lt S) (S.t tc)) ?_; clear S; rintro _ _ w ⟨y1, rfl, -, hyf⟩ S
              replace S := S.add hyf
              refine te S ?_
              refine tl ?_
              refine sw S ?_; clear S; intro a w S
              refine te S ?_
              refine tl ?_
              refine sw S ?_; clear S; intro a w S
              refine te S ?_
              refine tl ?_
              refine sw S ?_; clear S; intro a w S
              refine te S ?_
              refine tn ?_
              exact ⟨b7, b8, b9, s, x1, y1, S.uu, trivial, (St.pullT (Wk.box b7 24 s.cells) (St.pullT (Wk.box b8 24 x1.cells) (St.pullT (Wk.box b9 24 y1.cells) S))).sub _ _⟩
          · refine sa S ?_; clear S; intro b8 a w S
            refine te S ?_
            refine tl ?_
            refine sr S (small16_c 24 tb _ w (by omega) (foots_lt S) (S.t tb)) ?_; clear S; rintro _ _ w ⟨x1, rfl, -, hxf⟩ S
            replace S := S.add hxf
            refine te S ?_
            refine tl ?_
            refine sr S (small16_c 24 tc _ w (by omega) (foots_lt S) (S.t tc)) ?_; clear S; rintro _ _ w ⟨y1, rfl, -, hyf⟩ S
            replace S := S.add hyf
            refine te S ?_
            refine tl ?_
            refine sw S ?_; clear S; intro a w S
            refine te S ?_
            refine tl ?_
            refine sw S ?_; clear S; intro a w S
            refine te S ?_
            refine tl ?_
            refine sw S ?_; clear S; intro a w S
            refine te S ?_
            refine tn ?_
            exact ⟨b7, b8, b9, s, x1, y1, S.uu, trivial, (St.pullT (Wk.box b7 24 s.cells) (St.pullT (Wk.box b8 24 x1.cells) (St.pullT (Wk.box b9 24 y1.cells) S))).sub _ _⟩
        · refine sa S ?_; clear S; intro b8 a w S
          refine te S ?_
          refine tl ?_
          refine sr S (small16_c 24 ta _ w (by omega) (foots_lt S) (S.t ta)) ?_; clear S; rintro _ _ w ⟨s, rfl, -, hsf⟩ S
          replace S := S.add hsf
          refine te S ?_
          refine tl ?_
          refine sr S (small16_c 24 tb _ w (by omega) (foots_lt S) (S.t tb)) ?_; clear S; rintro _ _ w ⟨x1, rfl, -, hxf⟩ S
          replace S := S.add hxf
          refine te S ?_
          refine tl ?_
          refine sr S (small16_c 24 tc _ w (by omega) (foots_lt S) (S.t tc)) ?_; clear S; rintro _ _ w ⟨y1, rfl, -, hyf⟩ S
          replace S := S.add hyf
          refine te S ?_
          refine tl ?_
          refine sw S ?_; clear S; intro a w S
          refine te S ?_
          refine tl ?_
          refine sw S ?_; clear S; intro a w S
          refine te S ?_
          refine tl ?_
          refine sw S ?_; clear S; intro a w S
          refine te S ?_
          refine tn ?_
          exact ⟨b7, b8, b9, s, x1, y1, S.uu, trivial, (St.pullT (Wk.box b7 24 s.cells) (St.pullT (Wk.box b8 24 x1.cells) (St.pullT (Wk.box b9 24 y1.cells) S))).sub _ _⟩
      · refine sa S ?_; clear S; intro b8 a w S
        refine te S ?_
        refine tb2 ?_ ?_
        · refine sr S (small16_c 24 ta _ w (by omega) (foots_lt S) (S.t ta)) ?_; clear S; rintro _ _ w ⟨s, rfl, -, hsf⟩ S
          replace S := S.add hsf
          refine te S ?_
          refine tb2 ?_ ?_
          · refine sr S (small16_c 24 tb _ w (by omega) (foots_lt S) (S.t tb)) ?_; clear S; rintro _ _ w ⟨x1, rfl, -, hxf⟩ S
            replace S := S.add hxf
            refine te S ?_
            refine tb2 ?_ ?_
            · refine sr S (small16_c 24 tc _ w (by omega) (foots_lt S) (S.t tc)) ?_; clear S; rintro _ _ w ⟨y1, rfl, -, hyf⟩ S
              replace S := S.add hyf
              refine te S ?_
              refine tl ?_
              refine sa S ?_; clear S; intro b7 a w S
              refine te S ?_
              refine tl ?_
              refine sw S ?_; clear S; intro a w S
              refine te S ?_
              refine tl ?_
              refine sw S ?_; clear S; intro a w S
              refine te S ?_
              refine tl ?_
              refine sw S ?_; clear S; intro a w S
              refine te S ?_
              refine tn ?_
              exact ⟨b7, b8, b9, s, x1, y1, S.uu, trivial, (St.pullT (Wk.box b7 24 s.cells) (St.pullT (Wk.box b8 24 x1.cells) (St.pullT (Wk.box b9 24 y1.cells) S))).sub _ _⟩
            · refine sa S ?_; clear S; intro b7 a w S
              refine te S ?_
              refine tl ?_
              refine sr S (small16_c 24 tc _ w (by omega) (foots_lt S) (S.t tc)) ?_; clear S; rintro _ _ w ⟨y1, rfl, -, hyf⟩ S
              replace S := S.add hyf
              refine te S ?_
              refine tl ?_
              refine sw S ?_; clear S; intro a w S
              refine te S ?_
              refine tl ?_
              refine sw S ?_; clear S; intro a w S
              refine te S ?_
              refine tl ?_
              refine sw S ?_; clear S; intro a w S
              refine te S ?_
              refine tn ?_
              exact ⟨b7, b8, b9, s, x1, y1, S.uu, trivial, (St.pullT (Wk.box b7 24 s.cells) (St.pullT (Wk.box b8 24 x1.cells) (St.pullT (Wk.box b9 24 y1.cells) S))).sub _ _⟩
          · refine sa S ?_; clear S; intro b7 a w S
            refine te S ?_
            refine tl ?_
            refine sr S (small16_c 24 tb _ w (by omega) (foots_lt S) (S.t tb)) ?_; clear S; rintro _ _ w ⟨x1, rfl, -, hxf⟩ S
            replace S := S.add hxf
            refine te S ?_
            refine tl ?_
            refine sr S (small16_c 24 tc _ w (by omega) (foots_lt S) (S.t tc)) ?_; clear S; rintro _ _ w ⟨y1, rfl, -, hyf⟩ S
            replace S := S.add hyf
            refine te S ?_
            refine tl ?_
            refine sw S ?_; clear S; intro a w S
            refine te S ?_
            refine tl ?_
            refine sw S ?_; clear S; intro a w S
            refine te S ?_
            refine tl ?_
            refine sw S ?_; clear S; intro a w S
            refine te S ?_
            refine tn ?_
            exact ⟨b7, b8, b9, s, x1, y1, S.uu, trivial, (St.pullT (Wk.box b7 24 s.cells) (St.pullT (Wk.box b8 24 x1.cells) (St.pullT (Wk.box b9 24 y1.cells) S))).sub _ _⟩
        · refine sa S ?_; clear S; intro b7 a w S
          refine te S ?_
          refine tl ?_
          refine sr S (small16_c 24 ta _ w (by omega) (foots_lt S) (S.t ta)) ?_; clear S; rintro _ _ w ⟨s, rfl, -, hsf⟩ S
          replace S := S.add hsf
          refine te S ?_
          refine tl ?_
          refine sr S (small16_c 24 tb _ w (by omega) (foots_lt S) (S.t tb)) ?_; clear S; rintro _ _ w ⟨x1, rfl, -, hxf⟩ S
          replace S := S.add hxf
          refine te S ?_
          refine tl ?_
          refine sr S (small16_c 24 tc _ w (by omega) (foots_lt S) (S.t tc)) ?_; clear S; rintro _ _ w ⟨y1, rfl, -, hyf⟩ S
          replace S := S.add hyf
          refine te S ?_
          refine tl ?_
          refine sw S ?_; clear S; intro a w S
          refine te S ?_
          refine tl ?_
          refine sw S ?_; clear S; intro a w S
          refine te S ?_
          refine tl ?_
          refine sw S ?_; clear S; intro a w S
          refine te S ?_
          refine tn ?_
          exact ⟨b7, b8, b9, s, x1, y1, S.uu, trivial, (St.pullT (Wk.box b7 24 s.cells) (St.pullT (Wk.box b8 24 x1.cells) (St.pullT (Wk.box b9 24 y1.cells) S))).sub _ _⟩
  clear S; rintro b d g s x1 y1 uu a w - S
  refine xtn ?_
  iterate 2 (refine c_seq ?_)
  refine c_region ?_
  refine sq S ?_; clear S; intro a S
  refine wl_nil ?_
  refine xtn ?_
  refine c_block ?_
  refine c_fore1 S (fun (k : Nat) uu => [(6, uu 6), (3, .int .i64 (k : Nat)), (0, uu 11), (0, uu 12), (0, uu 13), (0, uu 14), (0, uu 15), (0, uu 16), (15, uu 32), (0, uu 33), (0, uu 34), (0, uu 35), (0, uu 36), (0, uu 37), (0, uu 38), (0, uu 39), (0, uu 40), (0, uu 41), (0, uu 42), (0, uu 43), (0, uu 44), (0, uu 45), (0, uu 46), (0, uu 47), (0, uu 48), (0, uu 49), (0, uu 50), (0, uu 51), (0, uu 52), (0, uu 53), (0, uu 54), (0, uu 55), (0, uu 56), (0, uu 57), (0, uu 58), (0, uu 59), (0, uu 60), (0, uu 61), (0, uu 62), (0, uu 63), (0, uu 64), (0, uu 65)]) (fun (k : Nat) => [Wk.box b 24 s.cells, Wk.box d 24 x1.cells, Wk.box g 24 y1.cells]) (fun (k : Nat) => [LtF y1, LtF x1, LtF s, GlF p2 l2, GlF p1 l1, TabF, LibF]) (fun (k : Nat) => 1 ≤ k ∧ k ≤ 7) (fun (k : Nat) => 7 - k) (1) ?_ S.uu ?_ ?_
  · exact ⟨by omega, by omega⟩
  · first | exact S | exact S.sub _ _
  · clear S; rintro k uu a w ⟨hk1, hk7⟩ S
    iterate 2 (refine c_seq ?_)
    refine c_region ?_
    iterate 2 (refine sq S ?_; clear S; intro a S)
    refine wl_nil ?_
    refine xtn ?_
    refine c_cond S (fun h6 => ?_) (fun h6 => ?_)
    · refine c_skip ?_
      refine xtn ?_
      refine c_seq ?_
      refine c_block ?_
      refine c_seq ?_
      have hk6 : k ≤ 6 := by simp at h6; omega
      refine c_region ?_
      iterate 4 (refine sq S ?_; clear S; intro a S)
      refine sr S (faccept_c l1 p1 c1 (k : Int) s x1 _ w (by omega) (foots_lt S) (S.mem.fact LibF) (S.mem.fact (GlF p1 l1)) (S.t s) (S.t x1)) ?_; clear S; rintro _ a w ⟨v1, n1, q1, d1, m1, e1, rfl, hm1, hml1, hok1⟩ S
      replace S := S.add hm1
      iterate 7 (refine sq S ?_; clear S; intro a S)
      refine wl_nil ?_
      refine xtn ?_
      refine c_seq ?_
      refine c_region ?_
      iterate 4 (refine sq S ?_; clear S; intro a S)
      refine sr S (faccept_c l2 p2 c2 (k : Int) s y1 _ w (by omega) (foots_lt S) (S.mem.fact LibF) (S.mem.fact (GlF p2 l2)) (S.t s) (S.t y1)) ?_; clear S; rintro _ a w ⟨v2, n2, q2, d2, m2, e2, rfl, hm2, hml2, hok2⟩ S
      replace S := S.add hm2
      iterate 7 (refine sq S ?_; clear S; intro a S)
      refine wl_nil ?_
      refine xtn ?_
      refine c_seq ?_
      refine c_region ?_
      iterate 3 (refine sq S ?_; clear S; intro a S)
      iterate 2 (refine gQ S ?_; clear S; intro a S)
      iterate 2 (refine sq S ?_; clear S; intro a S)
      iterate 2 (refine gQ S ?_; clear S; intro a S)
      refine gC (hq := (⟨fun w m => equalm_c m1 m2 q1 q2 d1 d2 w (by omega) (m.fact0 (GlF q1 m1)) (m.fact0 (GlF q2 m2))⟩ : CallV Tryd.prog 24 [.slice q1 m1.length d1, .slice q2 m2.length d2] _ _ (.bool (decide (m1 = m2))))) S ?_; clear S; intro a w S
      refine gQ S ?_; clear S; intro a S
      refine sq S ?_; clear S; intro a S
      refine wl_nil ?_
      refine xtn ?_
      refine c_cond S (fun h10 => ?_) (fun h10 => ?_)
      · refine c_seq ?_
        refine c_region ?_
        refine sq S ?_; clear S; intro a S
        refine wl_nil ?_
        refine xtn ?_
        refine c_ret ?_
        refine xbr ?_
        iterate 2 (refine xtr ?_)
        refine xbr ?_
        refine xtr ?_
        exfalso
        simp at h10
        obtain ⟨⟨he1, he2⟩, hne⟩ := h10
        obtain ⟨-, o1, -, ⟨f1, r1⟩, -⟩ := hok1 he1
        obtain ⟨-, o2, -, ⟨f2, r2⟩, -⟩ := hok2 he2
        have hr := (rootedT_inj (r1.symm.trans r2)).2.2
        exact hne (root_inj _ (Nat.lt_succ_self _) (okV m1 o1).2.1 (okV m2 o2).2.1 hr)
      · refine c_skip ?_
        refine xbn ?_
        refine xtn ?_
        refine c_region ?_
        iterate 3 (refine sq S ?_; clear S; intro a S)
        refine wl_nil ?_
        refine xtn ?_
        rw [show IntKind.i64.wrap ((k : Int) + 1) = ((k + 1 : Nat) : Int) from w64 _ (by omega) (by omega)] at S
        exact ⟨k + 1, S.uu, ⟨by omega, by omega⟩, S.sub _ _, by omega⟩
    · refine c_exit ?_
      iterate 2 (refine xte ?_)
      refine xbe ?_
      refine xtn ?_
      refine c_seq ?_
      refine c_region ?_
      refine sq S ?_; clear S; intro a S
      refine wl_nil ?_
      refine xtn ?_
      refine c_ret ?_
      refine end1 S (fun _ => rfl)
end Go.Proofs.YtieeoakdkbackaaDoor

/- FreshTwins answers true at every input and leaves it as it was: the row, and the tied card. -/
namespace Go.Proofs.YtieeoakdkbackaaDoor
open Go Go.Wk
open Go.ChangeShapes Go.WideShapes Go.ChangeAt Go.RowKit
set_option maxRecDepth 100000

instance troSeen : Tro Tryd.prog 92 LSeen := ⟨fun enc w base spare held fuel cs x h => by
  obtain ⟨hlen, hf⟩ := trod_flds Tryd.underlying92 h
  rw [show Tryd.prog.cellsOf 92 = 7 from by kernel_rfl] at hlen
  obtain ⟨n0, y0, g0⟩ := hf 0 3 0 rfl
  obtain ⟨n1, y1, g1⟩ := hf 1 3 1 rfl
  obtain ⟨n2, y2, g2⟩ := hf 2 24 2 rfl
  obtain ⟨u, e0, i0⟩ := trod_fld (α := Int) g0 rfl
  obtain ⟨k, e1, i1⟩ := trod_fld (α := Int) g1 rfl
  obtain ⟨t, e2, i2⟩ := trod_fld (α := LTerm) g2 rfl
  refine ⟨⟨u, k, t⟩, ?_, i2⟩
  match cs, hlen with
  | [c0, c1, d1, d2, d3, d4, d5], _ =>
    have q0 : [c0] = [.int .i64 u] := e0
    have q1 : [c1] = [.int .i64 k] := e1
    have q2 : [d1, d2, d3, d4, d5] = t.cells := e2
    simp only [List.cons.injEq, and_true] at q0 q1
    show [c0] ++ [c1] ++ [d1, d2, d3, d4, d5] = [.int .i64 u] ++ [.int .i64 k] ++ t.cells
    rw [q0, q1, q2], by kernel_rfl⟩
instance troSeens : Tro Tryd.prog 42 (Sl LSeen) := troSl Tryd.underlying42 (by kernel_rfl)
instance troTerms3 : Tro Tryd.prog 43 (A3 LTerm) := troA3 Tryd.underlying43 (by kernel_rfl)
theorem freshtwins_lifted (os : Os) (started : os.Started) (H : Type) (enc : TypeId × Value → H) :
    ReturnsInHanded {} Tryd.checked os 5 .any (fun w args => (Rows.freshTwinsSpec.pre enc Tryd.prog Tryd.f5 Rows.freshTwinsRow.domain false w args ∧ laidMet Tryd.prog laidL w) ∧ sizedMet enc Tryd.prog Tryd.f5 (OpenSpec.ofChange Rows.freshTwinsSpec) false w args)
      (Rows.freshTwinsSpec.post enc Tryd.prog Tryd.f5 false true false false) := by
  refine returnsInHanded_of_change_and (C := Tryd.checked) (X := fun w _ => laidMet Tryd.prog laidL w) (fun _ _ _ hh h => h.of_heap hh) own started (by kernel_rfl) Tryd.func5
    (ChangeSpec.witness_at (enc := enc) (C := Tryd.checked) (os := os) (X := fun w _ => laidMet Tryd.prog laidL w) false (laidWorld os) #[.slice none 0 0, .slice none 0 0, .agg #[.int .i64 0, .int .i64 0, .int .i64 0, .string .empty, .slice none 0 0, .int .i64 0, .int .i64 0, .int .i64 0, .string .empty, .slice none 0 0, .int .i64 0, .int .i64 0, .int .i64 0, .string .empty, .slice none 0 0]] 8 rfl (by kernel_rfl) (by kernel_rfl) (by kernel_rfl) (by kernel_rfl) (by kernel_rfl) (laidWorld_met os _)) ?_
  intro W base args ds gs before hval0 hW _ _ hL _
  have hval : ∀ (j : Nat) t v, Tryd.f5.params[j]? = some t → args[j]? = some v → Value.okWide Tryd.prog W .any base t v := hval0
  have hW2 := hW
  obtain ⟨p, q, hA0, hV, rfl, _, _⟩ := hW
  have hA : DataW.TrodAll enc Tryd.prog W 0 (fun _ => true) true Tryd.f5.params.toList args.toList ds p := hA0
  rw [Tryd.params5] at hA hval
  obtain ⟨v0, v1, v2, d0, d1, d2, p0, p1, p2, rfl, rfl, rfl, h0, h1, h2⟩ := trodAll_three hA
  obtain ⟨rfl, rfl⟩ := trodVars_none hV
  obtain ⟨a, rfl, l_a, m_a, h_a⟩ := slice_of_Trod (α := LSeen) Tryd.underlying42 h0 (hval 0 42 v0 rfl rfl)
  obtain ⟨b, rfl, l_b, m_b, h_b⟩ := slice_of_Trod (α := LSeen) Tryd.underlying42 h1 (hval 1 42 v1 rfl rfl)
  obtain ⟨r, rfl, h_r⟩ := arr3_of_Trod (α := LTerm) Tryd.underlying43 h2 (hval 2 43 v2 rfl rfl)
  refine Ret.law (freshtwins_c a.xs b.xs a.p b.p a.cap b.cap r.a r.b r.c W (by unfold maxLen at *; omega) (by unfold maxLen at *; omega) (lib_of_laid hL).stable h_a.stable h_b.stable h_r.1.stable h_r.2.1.stable h_r.2.2.stable) fun W1 hag => ?_
  exact ⟨_, rfl, law_post (B := 4) laidOut (by kernel_rfl) rfl rfl rfl hW2 rfl rfl rfl hag⟩
theorem freshtwins_row : Rows.FreshTwinsSaid :=
  OpenClaim.holds_of_wide 5 Tryd.f5 rfl rfl rfl rfl rfl rfl rfl ⟨rfl, rfl, rfl, rfl, rfl⟩ rfl rfl rfl rfl rfl (by kernel_rfl) Tryd.func5 (by kernel_rfl)
    (of_decide_eq_true (by kernel_rfl)) (by unfold Func.isWrapper; rw [if_neg (of_decide_eq_false (by kernel_rfl))]; exact ⟨rfl, rfl⟩)
    (fun os started H enc _ => freshtwins_lifted os started H enc)
theorem freshtwins_holds : Rows.FreshTwinsCardSaid :=
  Claim7.holds_tied_plain_at .later [] [.data, .data, .data, .sentinel, .sentinel] true (true, "30fb8166acb64be85a64741f6e8d2359decb1c7b135f688c556d5568ddad5165") true
    freshtwins_row (fun _ h => by cases h) (by kernel_rfl) (fun _ h => by cases h) freshTwins_row_tie rfl ⟨rfl, rfl⟩ (by kernel_rfl) rfl
    (fun f fn hf hfn => by
      obtain rfl : f = 5 := Option.some.inj ((show Tryd.prog.funcNamed "safehouse/safehouselaw16.FreshTwins" = some 5 by kernel_rfl).symm.trans hf) |>.symm
      obtain rfl : fn = Tryd.f5 := (Option.some.inj (Tryd.func5.symm.trans hfn)).symm
      exact ⟨by kernel_rfl, fun j t ht => by
        rw [Tryd.params5] at ht
        have h3 : t = 42 ∨ t = 43 := by
          rcases j with _ | _ | _ | j
          · exact .inl (by simpa using ht.symm)
          · exact .inl (by simpa using ht.symm)
          · exact .inr ((by simpa using ht.symm))
          · simp at ht
        rcases h3 with rfl | rfl
        · exact (show Tryd.prog.wantsStandIn 42 = false by kernel_rfl)
        · exact (show Tryd.prog.wantsStandIn 43 = false by kernel_rfl)⟩)
    (by kernel_rfl)
end Go.Proofs.YtieeoakdkbackaaDoor
