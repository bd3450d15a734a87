/- Package term: what the small functions compute. -/
import Derived.Test.YtmngicgdgpimlaaDoorInst
import Derived.Test.YtmngicgdgpimlaaDoorW2
namespace Go.Proofs.YtmngicgdgpimlaaDoor
open Go Go.Wk
set_option synthInstance.maxSize 100000
set_option synthInstance.maxHeartbeats 400000
set_option maxRecDepth 100000

def fieldsOf (k : Int) : Int :=
  if k = 1 then 1 else if k = 2 then 6 else if k = 3 then 2 else if k = 4 ∨ k = 6 then 16 else if k = 5 then 8 else if k = 7 then 10 else if k = 8 then 14 else 0

theorem fields_c (k : Int) (w : World) : Ret Tryd.prog 86 [.int .i64 k] w (fun _ => False) fun v _ => v = .int .i64 (fieldsOf k) := by
  refine enter Tryd.func86 rfl rfl (Wd.start w) (fun a S => ?_)
  simp only [Tryd.ntmps86, List.length_cons, List.length_nil, Nat.reduceAdd, Nat.reduceSub, List.replicate_succ, List.replicate_zero, List.cons_append, List.nil_append] at S
  refine c_seq ?_
  refine c_region ?_
  refine sq S ?_; clear S; intro a S
  refine wl_nil ?_
  refine xtn ?_
  iterate 2 (refine c_seq ?_)
  refine c_region ?_
  refine sq S ?_; clear S; intro a S
  refine wl_nil ?_
  refine xtn ?_
  refine c_block ?_
  refine c_seq ?_
  refine c_region ?_
  iterate 2 (refine sq S ?_; clear S; intro a S)
  refine wl_nil ?_
  refine xtn ?_
  refine c_cond S (fun h2 => ?_) (fun h2 => ?_)
  · refine c_seq ?_
    refine c_region ?_
    refine sq S ?_; clear S; intro a S
    refine wl_nil ?_
    refine xtn ?_
    refine c_ret ?_
    refine xbr ?_
    refine xtr ?_
    refine fin1 S (fun _ => ?_)
    simp at *; first | (exfalso; omega) | simp [*, fieldsOf]
  · refine c_seq ?_
    refine c_region ?_
    iterate 2 (refine sq S ?_; clear S; intro a S)
    refine wl_nil ?_
    refine xtn ?_
    refine c_cond S (fun h4 => ?_) (fun h4 => ?_)
    · refine c_seq ?_
      refine c_region ?_
      refine sq S ?_; clear S; intro a S
      refine wl_nil ?_
      refine xtn ?_
      refine c_ret ?_
      refine xbr ?_
      refine xtr ?_
      refine fin1 S (fun _ => ?_)
      simp at *; first | (exfalso; omega) | simp [*, fieldsOf]
    · refine c_seq ?_
      refine c_region ?_
      iterate 2 (refine sq S ?_; clear S; intro a S)
      refine wl_nil ?_
      refine xtn ?_
      refine c_cond S (fun h6 => ?_) (fun h6 => ?_)
      · refine c_seq ?_
        refine c_region ?_
        refine sq S ?_; clear S; intro a S
        refine wl_nil ?_
        refine xtn ?_
        refine c_ret ?_
        refine xbr ?_
        refine xtr ?_
        refine fin1 S (fun _ => ?_)
        simp at *; first | (exfalso; omega) | simp [*, fieldsOf]
      · refine c_seq ?_
        refine c_seq ?_
        refine c_region ?_
        iterate 2 (refine sq S ?_; clear S; intro a S)
        refine wl_nil ?_
        refine xtn ?_
        refine c_cond S (fun h8 => ?_) (fun h8 => ?_)
        · refine c_skip ?_
          refine xtn ?_
          refine c_cond S (fun h8 => ?_) (fun h8 => ?_)
          · refine c_seq ?_
            refine c_region ?_
            refine sq S ?_; clear S; intro a S
            refine wl_nil ?_
            refine xtn ?_
            refine c_ret ?_
            refine xbr ?_
            refine xtr ?_
            refine fin1 S (fun _ => ?_)
            simp at *; first | (exfalso; omega) | simp [*, fieldsOf]
          · refine c_seq ?_
            refine c_region ?_
            iterate 2 (refine sq S ?_; clear S; intro a S)
            refine wl_nil ?_
            refine xtn ?_
            refine c_cond S (fun h11 => ?_) (fun h11 => ?_)
            · refine c_seq ?_
              refine c_region ?_
              refine sq S ?_; clear S; intro a S
              refine wl_nil ?_
              refine xtn ?_
              refine c_ret ?_
              refine xbr ?_
              refine xtr ?_
              refine fin1 S (fun _ => ?_)
              simp at *; first | (exfalso; omega) | simp [*, fieldsOf]
            · refine c_seq ?_
              refine c_region ?_
              iterate 2 (refine sq S ?_; clear S; intro a S)
              refine wl_nil ?_
              refine xtn ?_
              refine c_cond S (fun h13 => ?_) (fun h13 => ?_)
              · refine c_seq ?_
                refine c_region ?_
                refine sq S ?_; clear S; intro a S
                refine wl_nil ?_
                refine xtn ?_
                refine c_ret ?_
                refine xbr ?_
                refine xtr ?_
                refine fin1 S (fun _ => ?_)
                simp at *; first | (exfalso; omega) | simp [*, fieldsOf]
              · refine c_seq ?_
                refine c_region ?_
                iterate 2 (refine sq S ?_; clear S; intro a S)
                refine wl_nil ?_
                refine xtn ?_
                refine c_cond S (fun h15 => ?_) (fun h15 => ?_)
                · refine c_seq ?_
                  refine c_region ?_
                  refine sq S ?_; clear S; intro a S
                  refine wl_nil ?_
                  refine xtn ?_
                  refine c_ret ?_
                  refine xbr ?_
                  refine xtr ?_
                  refine fin1 S (fun _ => ?_)
                  simp at *; first | (exfalso; omega) | simp [*, fieldsOf]
                · refine c_skip ?_
                  refine xbn ?_
                  refine xtn ?_
                  refine c_seq ?_
                  refine c_region ?_
                  refine sq S ?_; clear S; intro a S
                  refine wl_nil ?_
                  refine xtn ?_
                  refine c_ret ?_
                  refine fin1 S (fun _ => ?_)
                  simp at *; first | (exfalso; omega) | simp [*, fieldsOf]
        · refine c_region ?_
          iterate 2 (refine sq S ?_; clear S; intro a S)
          refine wl_nil ?_
          refine xtn ?_
          refine c_cond S (fun h9 => ?_) (fun h9 => ?_)
          · refine c_seq ?_
            refine c_region ?_
            refine sq S ?_; clear S; intro a S
            refine wl_nil ?_
            refine xtn ?_
            refine c_ret ?_
            refine xbr ?_
            refine xtr ?_
            refine fin1 S (fun _ => ?_)
            simp at *; first | (exfalso; omega) | simp [*, fieldsOf]
          · refine c_seq ?_
            refine c_region ?_
            iterate 2 (refine sq S ?_; clear S; intro a S)
            refine wl_nil ?_
            refine xtn ?_
            refine c_cond S (fun h11 => ?_) (fun h11 => ?_)
            · refine c_seq ?_
              refine c_region ?_
              refine sq S ?_; clear S; intro a S
              refine wl_nil ?_
              refine xtn ?_
              refine c_ret ?_
              refine xbr ?_
              refine xtr ?_
              refine fin1 S (fun _ => ?_)
              simp at *; first | (exfalso; omega) | simp [*, fieldsOf]
            · refine c_seq ?_
              refine c_region ?_
              iterate 2 (refine sq S ?_; clear S; intro a S)
              refine wl_nil ?_
              refine xtn ?_
              refine c_cond S (fun h13 => ?_) (fun h13 => ?_)
              · refine c_seq ?_
                refine c_region ?_
                refine sq S ?_; clear S; intro a S
                refine wl_nil ?_
                refine xtn ?_
                refine c_ret ?_
                refine xbr ?_
                refine xtr ?_
                refine fin1 S (fun _ => ?_)
                simp at *; first | (exfalso; omega) | simp [*, fieldsOf]
              · refine c_seq ?_
                refine c_region ?_
                iterate 2 (refine sq S ?_; clear S; intro a S)
                refine wl_nil ?_
                refine xtn ?_
                refine c_cond S (fun h15 => ?_) (fun h15 => ?_)
                · refine c_seq ?_
                  refine c_region ?_
                  refine sq S ?_; clear S; intro a S
                  refine wl_nil ?_
                  refine xtn ?_
                  refine c_ret ?_
                  refine xbr ?_
                  refine xtr ?_
                  refine fin1 S (fun _ => ?_)
                  simp at *; first | (exfalso; omega) | simp [*, fieldsOf]
                · refine c_skip ?_
                  refine xbn ?_
                  refine xtn ?_
                  refine c_seq ?_
                  refine c_region ?_
                  refine sq S ?_; clear S; intro a S
                  refine wl_nil ?_
                  refine xtn ?_
                  refine c_ret ?_
                  refine fin1 S (fun _ => ?_)
                  simp at *; first | (exfalso; omega) | simp [*, fieldsOf]
instance {k : Int} {bs fs} : CallV Tryd.prog 86 [.int .i64 k] bs fs (.int .i64 (fieldsOf k)) := ⟨fun w _ => fields_c k w⟩

def hasF (f g : Int) : Bool := !decide (iand .i64 f g = 0)
theorem has_c (f g : Int) (w : World) : Ret Tryd.prog 88 [.int .i64 f, .int .i64 g] w (fun _ => False) fun v _ => v = .bool (hasF f g) := by
  refine enter Tryd.func88 rfl rfl (Wd.start w) (fun a S => ?_)
  simp only [Tryd.ntmps88, List.length_cons, List.length_nil, Nat.reduceAdd, Nat.reduceSub, List.replicate_succ, List.replicate_zero, List.cons_append, List.nil_append] at S
  refine c_seq ?_
  refine c_region ?_
  refine sq S ?_; clear S; intro a S
  refine wl_nil ?_
  refine xtn ?_
  refine c_seq ?_
  refine c_region ?_
  iterate 5 (refine sq S ?_; clear S; intro a S)
  refine wl_nil ?_
  refine xtn ?_
  refine c_ret ?_
  refine fin1 S (fun _ => ?_)
  rfl
instance {f g : Int} {bs fs} : CallV Tryd.prog 88 [.int .i64 f, .int .i64 g] bs fs (.bool (hasF f g)) := ⟨fun w _ => has_c f g w⟩

def kidsF (f : Int) : Int := if hasF f 16 then 2 else if hasF f 8 then 1 else 0
theorem kids_c (f : Int) (w : World) : Ret Tryd.prog 87 [.int .i64 f] w (fun _ => False) fun v _ => v = .int .i64 (kidsF f) := by
  refine enter Tryd.func87 rfl rfl (Wd.start w) (fun a S => ?_)
  simp only [Tryd.ntmps87, List.length_cons, List.length_nil, Nat.reduceAdd, Nat.reduceSub, List.replicate_succ, List.replicate_zero, List.cons_append, List.nil_append] at S
  refine c_seq ?_
  refine c_region ?_
  refine sq S ?_; clear S; intro a S
  refine wl_nil ?_
  refine xtn ?_
  refine c_seq ?_
  refine c_block ?_
  refine c_seq ?_
  refine c_region ?_
  refine sq S ?_; clear S; intro a S
  refine sc S ?_; clear S; intro a w S
  refine sq S ?_; clear S; intro a S
  refine wl_nil ?_
  refine xtn ?_
  refine c_cond S (fun h1 => ?_) (fun h1 => ?_)
  · refine c_seq ?_
    refine c_region ?_
    refine sq S ?_; clear S; intro a S
    refine wl_nil ?_
    refine xtn ?_
    refine c_ret ?_
    refine xbr ?_
    refine xtr ?_
    refine fin1 S (fun _ => ?_)
    simp [*, kidsF]
  · refine c_seq ?_
    refine c_region ?_
    refine sq S ?_; clear S; intro a S
    refine sc S ?_; clear S; intro a w S
    refine sq S ?_; clear S; intro a S
    refine wl_nil ?_
    refine xtn ?_
    refine c_cond S (fun h3 => ?_) (fun h3 => ?_)
    · refine c_seq ?_
      refine c_region ?_
      refine sq S ?_; clear S; intro a S
      refine wl_nil ?_
      refine xtn ?_
      refine c_ret ?_
      refine xbr ?_
      refine xtr ?_
      refine fin1 S (fun _ => ?_)
      simp [*, kidsF]
    · refine c_skip ?_
      refine xbn ?_
      refine xtn ?_
      refine c_seq ?_
      refine c_region ?_
      refine sq S ?_; clear S; intro a S
      refine wl_nil ?_
      refine xtn ?_
      refine c_ret ?_
      refine fin1 S (fun _ => ?_)
      simp [*, kidsF]
instance {f : Int} {bs fs} : CallV Tryd.prog 87 [.int .i64 f] bs fs (.int .i64 (kidsF f)) := ⟨fun w _ => kids_c f w⟩

def knownF (n : Int) : Bool := decide (1 ≤ n) && decide (n ≤ 6)
theorem known_c (n : Int) (w : World) : Ret Tryd.prog 89 [.int .i64 n] w (fun _ => False) fun v _ => v = .bool (knownF n) := by
  refine enter Tryd.func89 rfl rfl (Wd.start w) (fun a S => ?_)
  simp only [Tryd.ntmps89, List.length_cons, List.length_nil, Nat.reduceAdd, Nat.reduceSub, List.replicate_succ, List.replicate_zero, List.cons_append, List.nil_append] at S
  refine c_seq ?_
  refine c_region ?_
  refine sq S ?_; clear S; intro a S
  refine wl_nil ?_
  refine xtn ?_
  refine c_seq ?_
  refine c_region ?_
  iterate 3 (refine sq S ?_; clear S; intro a S)
  iterate 2 (refine gQ S ?_; clear S; intro a S)
  iterate 2 (refine sq S ?_; clear S; intro a S)
  refine wl_nil ?_
  refine xtn ?_
  refine c_ret ?_
  refine fin1 S (fun _ => ?_)
  rfl
instance {n : Int} {bs fs} : CallV Tryd.prog 89 [.int .i64 n] bs fs (.bool (knownF n)) := ⟨fun w _ => known_c n w⟩

def plainF (k u n : Int) (s : List UInt8) (m : Nat) : Bool :=
  let f := fieldsOf k
  !decide (f = 0) && decide ((m : Int) = kidsF f) && decide ((s.length : Int) ≤ 64) && (hasF f 1 || decide (s = [])) && (hasF f 2 && knownF u || !hasF f 2 && decide (u = 0)) && (hasF f 4 && decide (0 ≤ n) && decide (n ≤ 65535) || !hasF f 4 && decide (n = 0))
theorem plain_c (k u n : Int) (s : List UInt8) (p : Option Addr) (m c : Nat) (w : World) : Ret Tryd.prog 80 [.agg #[.int .i64 k, .int .i64 u, .int .i64 n, str s, .slice p m c]] w (fun _ => False) fun v _ => v = .bool (plainF k u n s m) := by
  refine enter Tryd.func80 rfl rfl (Wd.start w) (fun a S => ?_)
  simp only [Tryd.ntmps80, List.length_cons, List.length_nil, Nat.reduceAdd, Nat.reduceSub, List.replicate_succ, List.replicate_zero, List.cons_append, List.nil_append] at S
  refine c_seq ?_
  refine c_region ?_
  refine sa S ?_; clear S; intro b1 a w S
  refine sq S ?_; clear S; intro a S
  refine wl_nil ?_
  refine xtn ?_
  refine c_seq ?_
  refine c_region ?_
  iterate 2 (refine sq S ?_; clear S; intro a S)
  refine sc S ?_; clear S; intro a w S
  refine sq S ?_; clear S; intro a S
  refine wl_nil ?_
  refine xtn ?_
  refine c_seq ?_
  refine c_drawD [(0, true), (1, true), (2, true), (3, true), (4, true), (5, true), (6, true), (7, false), (8, true), (9, true), (10, true), (11, true), (12, true), (13, true), (14, true), (15, true), (16, true), (17, true), (18, false), (19, true), (20, true), (21, true), (22, true), (23, true), (24, true), (25, true)] [] S ?_; clear S; intro w S
  iterate 3 (refine dq S ?_; clear S; intro a S)
  iterate 4 (refine dqG S ?_; clear S; intro a S)
  refine dl ?_
  refine gC S ?_; clear S; intro a w S
  refine de S ?_
  refine dqG S ?_; clear S; intro a S
  iterate 2 (refine dq S ?_; clear S; intro a S)
  iterate 4 (refine dqG S ?_; clear S; intro a S)
  iterate 2 (refine dq S ?_; clear S; intro a S)
  refine dqG S ?_; clear S; intro a S
  refine dl ?_
  refine gC S ?_; clear S; intro a w S
  refine de S ?_
  iterate 5 (refine dqG S ?_; clear S; intro a S)
  iterate 2 (refine dq S ?_; clear S; intro a S)
  refine dn ?_
  refine xtn ?_
  refine c_seq ?_
  refine c_region ?_
  iterate 2 (refine sq S ?_; clear S; intro a S)
  refine gQ S ?_; clear S; intro a S
  refine gC S ?_; clear S; intro a w S
  iterate 3 (refine gQ S ?_; clear S; intro a S)
  refine gC S ?_; clear S; intro a w S
  iterate 3 (refine gQ S ?_; clear S; intro a S)
  refine gC S ?_; clear S; intro a w S
  iterate 7 (refine gQ S ?_; clear S; intro a S)
  iterate 2 (refine sq S ?_; clear S; intro a S)
  refine wl_nil ?_
  refine xtn ?_
  refine c_seq ?_
  refine c_region ?_
  iterate 2 (refine sq S ?_; clear S; intro a S)
  refine gQ S ?_; clear S; intro a S
  refine gC S ?_; clear S; intro a w S
  iterate 12 (refine gQ S ?_; clear S; intro a S)
  refine gC S ?_; clear S; intro a w S
  iterate 7 (refine gQ S ?_; clear S; intro a S)
  iterate 2 (refine sq S ?_; clear S; intro a S)
  refine wl_nil ?_
  refine xtn ?_
  refine c_ret ?_
  refine fin1 S (fun _ => ?_)
  first | rfl | simp [plainF]
instance {k u n : Int} {s : List UInt8} {p : Option Addr} {m c : Nat} {bs fs} : CallV Tryd.prog 80 [.agg #[.int .i64 k, .int .i64 u, .int .i64 n, str s, .slice p m c]] bs fs (.bool (plainF k u n s m)) := ⟨fun w _ => plain_c k u n s p m c w⟩
end Go.Proofs.YtmngicgdgpimlaaDoor
