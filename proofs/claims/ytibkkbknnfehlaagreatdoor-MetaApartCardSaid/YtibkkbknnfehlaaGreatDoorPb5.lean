/- 5: a part of this claim's texts, joined: MetaF W8 W9 W10 W11 W12 W13 MetaG MetaH MetaI MetaJ MetaK. -/
import Derived.Test.YtibkkbknnfehlaaGreatDoorPb4
import Derived.Lib.AppendZerosOnto
import Derived.Lib.Overlaps
import Derived.ChangeKeysEq
import Derived.Laws.StructEq
import Derived.SizedLaws
import Derived.OpenShut
namespace Go.Proofs.YtibkkbknnfehlaaGreatDoor
open Go Go.Wk
set_option synthInstance.maxSize 100000
set_option synthInstance.maxHeartbeats 400000
set_option maxRecDepth 100000
instance callEqual15 {fs : List (World → Prop)} {bs : List Wk.Item} {s t : Sl Int} [h : HasI fs s] [h2 : HasI fs t] [hl : LeC s.xs.length 1000000000] : CallV Tryz.prog 76 [.slice s.p s.xs.length s.cap, .slice t.p t.xs.length t.cap] bs fs (.bool (decide (s.xs = t.xs))) := ⟨fun w m => equalI_c s.xs t.xs s.p t.p s.cap t.cap w hl.le ((m.i0 s).imp fun _ h => h.2.2) ((m.i0 t).imp fun _ h => h.2.2)⟩
theorem psame_c (x y : LPerm) (w0 : World) (h1 : x.rd.xs.length ≤ 1000000000) (h2 : x.wr.xs.length ≤ 1000000000) (h3 : x.gr.xs.length ≤ 1000000000) (hx : Stable (fun _ => False) w0 (InF x)) (hy : Stable (fun _ => False) w0 (InF y)) : Ret Tryz.prog 40 [vPerm x, vPerm y] w0 (fun _ => False) fun v _ => v = .bool (psameB x y) := by
  have hL1 : LeC x.rd.xs.length 1000000000 := ⟨h1⟩
  have hL2 : LeC x.wr.xs.length 1000000000 := ⟨h2⟩
  have hL3 : LeC x.gr.xs.length 1000000000 := ⟨h3⟩
  refine enter Tryz.func40 rfl rfl (Wd.begin (fs := [InF x, InF y]) (by simp; exact ⟨hx, hy⟩)) (fun a S => ?_)
  simp only [Tryz.ntmps40, List.length_cons, List.length_nil, Nat.reduceAdd, Nat.reduceSub, List.replicate_succ, List.replicate_zero, List.cons_append, List.nil_append] at S
  refine c_seq ?_; refine c_region ?_
  refine sa S ?_; clear S; intro b2 a w S
  refine sa S ?_; clear S; intro b3 a w S
  refine sq S ?_; clear S; intro a S; refine wl_nil ?_; refine xtn ?_; refine c_seq ?_; refine c_region ?_; (iterate 6 (refine sq S ?_; clear S; intro a S)); (iterate 5 (refine gQ S ?_; clear S; intro a S)); (iterate 2 (refine sq S ?_; clear S; intro a S)); (iterate 4 (refine gQ S ?_; clear S; intro a S)); refine gC S ?_; clear S; intro a w S; (iterate 2 (refine sq S ?_; clear S; intro a S)); (iterate 4 (refine gQ S ?_; clear S; intro a S))
  refine gC S ?_; clear S; intro a w S; (iterate 2 (refine sq S ?_; clear S; intro a S)); (iterate 4 (refine gQ S ?_; clear S; intro a S)); refine gC S ?_; clear S; intro a w S; (iterate 2 (refine sq S ?_; clear S; intro a S)); refine wl_nil ?_; refine xtn ?_; refine c_ret ?_
  refine end1 S (fun _ => ?_)
  rfl
theorem pastEq_c (xs ys : List (Sl Int)) (p q : Option Addr) (c e : Nat) (w0 : World) (hl : xs.length ≤ 1000000000) (hls : ∀ s ∈ xs, s.xs.length ≤ 1000000000) (hx : Stable (fun _ => False) w0 (GlF p xs)) (hy : Stable (fun _ => False) w0 (GlF q ys)) :
    Ret Tryz.prog 41 [.slice p xs.length c, .slice q ys.length e, .func (.func 42) #[] #[]] w0 (fun _ => False) fun v _ => v = .bool (decide (xs.map Sl.xs = ys.map Sl.xs)) := by
  refine enter Tryz.func41 rfl rfl (Wd.begin (fs := [GlF p xs, GlF q ys]) (by simp; exact ⟨hx, hy⟩)) (fun a S => ?_)
  simp only [Tryz.ntmps41, List.length_cons, List.length_nil, Nat.reduceAdd, Nat.reduceSub, List.replicate_succ, List.replicate_zero, List.cons_append, List.nil_append] at S
  refine c_seq ?_; refine c_region ?_; refine sq S ?_; clear S; intro a S; refine wl_nil ?_; refine xtn ?_; (iterate 2 (refine c_seq ?_)); refine c_region ?_; (iterate 5 (refine sq S ?_; clear S; intro a S)); refine wl_nil ?_; refine xtn ?_
  refine c_cond S (fun h1 => ?_) (fun h1 => ?_)
  · refine c_seq ?_; refine c_region ?_; refine sq S ?_; clear S; intro a S; refine wl_nil ?_; refine xtn ?_; refine c_ret ?_; refine xtr ?_
    have hne : ¬ xs.map Sl.xs = ys.map Sl.xs := fun h => by
      have := congrArg List.length h
      rw [List.length_map, List.length_map] at this
      rw [this] at h1; simp at h1
    refine end1 S (fun _ => ?_)
    rw [decide_eq_false hne]
  · refine c_skip ?_; refine xtn ?_; (iterate 2 (refine c_seq ?_)); refine c_region ?_; (iterate 3 (refine sq S ?_; clear S; intro a S)); refine wl_nil ?_; refine xtn ?_; refine c_block ?_
    have hle : xs.length = ys.length := by simp at h1; omega
    refine c_fore1 S (fun (k : Nat) uu => [(6, uu 6), (0, uu 7), (0, uu 8), (0, uu 9), (7, .int .i64 (k : Nat)), (0, uu 18), (0, uu 19), (0, uu 20), (0, uu 21), (0, uu 22), (0, uu 23), (0, uu 24), (0, uu 25), (0, uu 26), (0, uu 27), (0, uu 28), (0, uu 29), (0, uu 30), (0, uu 31)]) (fun (k : Nat) => []) (fun (k : Nat) => [GlF p xs, GlF q ys]) (fun (k : Nat) => k ≤ xs.length ∧ (xs.map Sl.xs).take k = (ys.map Sl.xs).take k) (fun (k : Nat) => xs.length - k) (0) ?_ S.uu ?_ ?_
    · exact ⟨Nat.zero_le _, rfl⟩
    · first | exact S | exact S.sub _ _
    · clear S; rintro k uu a w ⟨hk, hrel⟩ S
      refine c_seq ?_; refine c_region ?_; refine sq S ?_; clear S; intro a S; refine wl_nil ?_; refine xtn ?_; refine c_seq ?_
      refine c_cond S (fun h4 => ?_) (fun h4 => ?_)
      · refine c_skip ?_; refine xtn ?_; refine c_seq ?_; refine c_block ?_; refine c_seq ?_
        have hkl : k < xs.length := by have := of_decide_eq_true h4; omega
        have hK1 : KLt k xs.length := ⟨hkl⟩
        have hK2 : KLt k ys.length := ⟨by omega⟩
        have hx1 : (xs.map Sl.xs)[k]? = some (nthG xs k).xs := by rw [List.getElem?_map, nthG_get hkl]; rfl
        have hy1 : (ys.map Sl.xs)[k]? = some (nthG ys k).xs := by rw [List.getElem?_map, nthG_get (by omega)]; rfl
        refine c_region ?_; (iterate 5 (refine sq S ?_; clear S; intro a S)); refine wl_nil ?_; refine xtn ?_; refine c_seq ?_; refine c_region ?_; (iterate 5 (refine sq S ?_; clear S; intro a S)); refine wl_nil ?_; refine xtn ?_; refine c_seq ?_; refine c_region ?_; (iterate 3 (refine sq S ?_; clear S; intro a S))
        have g1 : Stable (fun _ => False) w (InF (nthG xs k)) := (S.mem.fact0 (GlF p xs)).imp fun _ h => h.2 _ (nthG_mem hkl)
        have g2 : Stable (fun _ => False) w (InF (nthG ys k)) := (S.mem.fact0 (GlF q ys)).imp fun _ h => h.2 _ (nthG_mem (by omega))
        refine sr S (mequal_c (nthG xs k).xs (nthG ys k).xs (nthG xs k).p (nthG ys k).p (nthG xs k).cap (nthG ys k).cap _ (hls _ (nthG_mem hkl)) (g1.imp fun _ h => h.2.2) (g2.imp fun _ h => h.2.2)) ?_; clear S g1 g2; rintro _ a w rfl S
        refine sq S ?_; clear S; intro a S; refine wl_nil ?_; refine xtn ?_
        refine c_cond S (fun h7 => ?_) (fun h7 => ?_)
        · refine c_seq ?_; refine c_region ?_; refine sq S ?_; clear S; intro a S; refine wl_nil ?_; refine xtn ?_; refine c_ret ?_; refine xbr ?_; (iterate 2 (refine xtr ?_)); refine xbr ?_; refine xtr ?_
          have h9 : ¬ (nthG xs k).xs = (nthG ys k).xs := by simpa using h7
          have hne : ¬ xs.map Sl.xs = ys.map Sl.xs := fun h => by
            rw [h, hy1] at hx1
            exact h9 (Option.some.inj hx1).symm
          refine end1 S (fun _ => ?_)
          rw [decide_eq_false hne]
        · refine c_skip ?_; refine xbn ?_; refine xtn ?_; refine c_region ?_; (iterate 2 (refine sq S ?_; clear S; intro a S)); refine wl_nil ?_; refine xtn ?_
          have h9 : (nthG xs k).xs = (nthG ys k).xs := by simpa using h7
          rw [w64 ((k : Int) + 1) (by omega) (by omega)] at S
          exact ⟨k + 1, S.uu, ⟨hkl, by rw [List.take_add_one, List.take_add_one, hx1, hy1, hrel, h9]⟩, S.sub _ _, by omega⟩
      · refine c_exit ?_; (iterate 2 (refine xte ?_)); refine xbe ?_; refine xtn ?_; refine c_seq ?_; refine c_region ?_; refine sq S ?_; clear S; intro a S; refine wl_nil ?_; refine xtn ?_; refine c_ret ?_
        have h9 : xs.length ≤ k := by have := of_decide_eq_false h4; omega
        rw [List.take_of_length_le (by rw [List.length_map]; omega), List.take_of_length_le (by rw [List.length_map]; omega)] at hrel
        refine end1 S (fun _ => ?_)
        rw [decide_eq_true hrel]
class FitC (m : LMeta) : Prop where
  fit : FitMeta m
instance callPSame {fs : List (World → Prop)} {bs : List Wk.Item} {x y : LMeta} [h : HasI fs x] [h2 : HasI fs y] [hc : FitC x] : CallV Tryz.prog 40 [.agg ⟨[.int .i64 x.perm.owner, .int .i64 x.perm.epoch, .slice x.perm.rd.p x.perm.rd.xs.length x.perm.rd.cap, .slice x.perm.wr.p x.perm.wr.xs.length x.perm.wr.cap, .slice x.perm.gr.p x.perm.gr.xs.length x.perm.gr.cap]⟩, .agg ⟨[.int .i64 y.perm.owner, .int .i64 y.perm.epoch, .slice y.perm.rd.p y.perm.rd.xs.length y.perm.rd.cap, .slice y.perm.wr.p y.perm.wr.xs.length y.perm.wr.cap, .slice y.perm.gr.p y.perm.gr.xs.length y.perm.gr.cap]⟩] bs fs (.bool (psameB x.perm y.perm)) := ⟨fun w m => by
  have := hc.fit.rd
  have := hc.fit.wr
  have := hc.fit.gr
  exact psame_c x.perm y.perm w (by omega) (by omega) (by omega) ((m.i0 x).imp fun _ h => h.1) ((m.i0 y).imp fun _ h => h.1)⟩
instance callPast {fs : List (World → Prop)} {bs : List Wk.Item} {x y : LMeta} [h : HasI fs x] [h2 : HasI fs y] [hc : FitC x] : CallV Tryz.prog 41 [.slice x.past.p x.past.xs.length x.past.cap, .slice y.past.p y.past.xs.length y.past.cap, .func (.func 42) #[] #[]] bs fs (.bool (decide (x.past.xs.map Sl.xs = y.past.xs.map Sl.xs))) := ⟨fun w m => by
  have := hc.fit.past
  exact pastEq_c x.past.xs y.past.xs x.past.p y.past.p x.past.cap y.past.cap w (by omega) (fun s hs => by have := hc.fit.pasts s hs; omega) ((m.i0 x).imp fun _ h => h.2.1.2.2) ((m.i0 y).imp fun _ h => h.2.1.2.2)⟩
theorem msame_c (x y : LMeta) (hfit : FitMeta x) (w0 : World) (hx : Stable (fun _ => False) w0 (InF x)) (hy : Stable (fun _ => False) w0 (InF y)) : Ret Tryz.prog 14 [vMeta x, vMeta y] w0 (fun _ => False) fun v _ => v = .bool (msameB x.m y.m) := by
  have hC : FitC x := ⟨hfit⟩
  refine enter Tryz.func14 rfl rfl (Wd.begin (fs := [InF x, InF y]) (by simp; exact ⟨hx, hy⟩)) (fun a S => ?_)
  simp only [Tryz.ntmps14, List.length_cons, List.length_nil, Nat.reduceAdd, Nat.reduceSub, List.replicate_succ, List.replicate_zero, List.cons_append, List.nil_append] at S
  refine c_seq ?_; refine c_region ?_
  refine sa S ?_; clear S; intro b2 a w S
  refine sa S ?_; clear S; intro b3 a w S
  refine sq S ?_; clear S; intro a S; refine wl_nil ?_; refine xtn ?_; refine c_seq ?_; refine c_region ?_; (iterate 6 (refine sq S ?_; clear S; intro a S)); (iterate 5 (refine gQ S ?_; clear S; intro a S)); (iterate 2 (refine sq S ?_; clear S; intro a S)); (iterate 4 (refine gQ S ?_; clear S; intro a S)); refine gC S ?_; clear S; intro a w S; (iterate 2 (refine sq S ?_; clear S; intro a S)); (iterate 4 (refine gQ S ?_; clear S; intro a S))
  refine gC S ?_; clear S; intro a w S; (iterate 2 (refine sq S ?_; clear S; intro a S)); (iterate 4 (refine gQ S ?_; clear S; intro a S)); refine gC S ?_; clear S; intro a w S; (iterate 2 (refine sq S ?_; clear S; intro a S)); refine wl_nil ?_; refine xtn ?_; refine c_ret ?_
  refine end1 S (fun _ => ?_)
  rfl
end Go.Proofs.YtibkkbknnfehlaaGreatDoor
namespace Go.Wk
open Go
section
variable {P : Program} {r : Option Nat} {ops : Array Oper} {Q : Exit → Act → World → Prop} {w0 : World} {M0 : Nat → Prop} {ds : List Deferred} {a : Act} {w : World} {l : List Value} {bs bs' : List Item} {fs : List (World → Prop)}
  {d : Option Nat} {op : Op} {ty : TypeId} {pos : String} {af : Array Edge} {rest : List Oper} {v : Value} {t e : TypeId} {sz by_ c : Nat} {z : Value} {xs : List Value} {x y : Operand}
end
def mpn (b : Nat) (kv : List (Int × Value)) : Item where
  foot := fun k => k = b
  holds := fun w => ∃ es clock, w.heap[b]? = some (.map es clock) ∧ ents es = (kv.map fun x => ((.int .i64 x.1), x.2)) ∧ (∀ e ∈ es.toList, e.born < clock) ∧ (es.toList.map (·.born)).Nodup
class HasMpn (bs : List Item) (b : Nat) (kv : outParam (List (Int × Value))) : Prop where mem : mpn b kv ∈ bs
def MpnF (b : Nat) (kv : List (Int × Value)) : World → Prop := (mpn b kv).holds
class HasMpnF (fs : List (World → Prop)) (b : Nat) (kv : outParam (List (Int × Value))) : Prop where mem : MpnF b kv ∈ fs
class KiOf (bs : List Item) (fs : List (World → Prop)) (b : Nat) (kv : outParam (List (Int × Value))) : Prop where of : ∀ w, Mem w bs fs → (mpn b kv).holds w
section
variable {P : Program} {r : Option Nat} {ops : Array Oper} {Q : Exit → Act → World → Prop} {w0 : World} {M0 : Nat → Prop} {ds : List Deferred} {a : Act} {w : World} {l l' : List Value} {bs bs' : List Item} {fs : List (World → Prop)}
  {d : Option Nat} {op : Op} {t ty : TypeId} {pos : String} {af : Array Edge} {rest : List Oper} {v z : Value} {e kt et : TypeId} {sz by_ b : Nat} {x y u : Operand} {lc : Cx} {k : Int} {kv : List (Int × Value)}
end
section
variable {P : Program} {ty t t' : TypeId} {l : Cx} {bs : List Item} {fs : List (World → Prop)} {x y : Operand} {e : TypeId}
end
structure Blk where
  l : List UInt8
  h : l.length = 64
deriving DecidableEq
abbrev Blk.cells (b : Blk) : List Value := encL b.l
theorem Blk.len (b : Blk) : (encL b.l).length = 64 := by rw [encL_len, b.h]; rfl
instance encBlk : Enc Blk := ⟨64, fun b => encL b.l, Blk.len, fun b u hu => encL_one b.l u hu⟩
def u32s (l : List Int) : List Value := l.map (Value.int .u32)
instance (priority := 1100) addnZ {b : Nat} : AddN 0 b b := ⟨Nat.zero_add b⟩
section
variable {P : Program} {ty t t' : TypeId} {l : Cx} {bs : List Item} {fs : List (World → Prop)} {x y : Operand} {e n k j : Nat} {kk kl : IntKind} {m i : Int} {xs : List Int} {z : Value} {by_ : Nat}
end
def bxk (b : Nat) (T : TypeId) (l : List Int) (k : Nat) : Item where
  foot := fun i => i = b
  holds := fun w => ∃ v, w.heap[b]? = some (.cells (u32s (l.set k v)).toArray T (0, 0))
class HasBxk (bs : List Item) (b : Nat) (T : outParam TypeId) (l : outParam (List Int)) (k : outParam Nat) : Prop where mem : bxk b T l k ∈ bs
class NeK (j k : Nat) : Prop where ne : j ≠ k
section
variable {P : Program} {r : Option Nat} {ops : Array Oper} {Q : Exit → Act → World → Prop} {w0 : World} {M0 : Nat → Prop} {ds : List Deferred} {a : Act} {w : World} {l l' : List Value} {bs bs' : List Item} {fs : List (World → Prop)}
  {d : Option Nat} {ty t : TypeId} {pos : String} {af : Array Edge} {rest : List Oper} {x y : Operand} {z : Value} {by_ b k j : Nat} {T : TypeId} {xs : List Int}
end
section
variable {P : Program} {r : Option Nat} {Q : Exit → Act → World → Prop} {w0 : World} {M0 : Nat → Prop} {ds : List Deferred} {a : Act} {w : World} {l : List Value} {bs : List Item} {fs : List (World → Prop)}
end
section
variable {P : Program} {r : Option Nat} {ops : Array Oper} {Q : Exit → Act → World → Prop} {w0 : World} {M0 : Nat → Prop} {ds : List Deferred} {a : Act} {w : World} {l : List Value} {bs : List Item} {fs : List (World → Prop)}
  {d : Option Nat} {ty t e : TypeId} {pos : String} {af : Array Edge} {rest : List Oper} {x y : Operand} {by_ c : Nat} {xs : List Value}
end
def BlkF (ad : Addr) (b : Blk) : World → Prop := fun w => ∀ j v, (encL b.l)[j]? = some v → w.cell? (ad.add j) = some v
class HasBlkF (fs : List (World → Prop)) (ad : Addr) (b : outParam Blk) : Prop where mem : BlkF ad b ∈ fs
section
variable {P : Program} {ty t : TypeId} {lc : Cx} {bs : List Item} {fs : List (World → Prop)} {x : Operand} {ad : Addr} {z : Value} {by_ : Nat} {b : Blk}
end
instance (priority := 1100) repl1 {zs : List Value} : RepL 1 zs zs := ⟨by simp⟩
section
variable {P : Program} {r : Option Nat} {ops : Array Oper} {Q : Exit → Act → World → Prop} {w0 : World} {M0 : Nat → Prop} {ds : List Deferred} {a : Act} {w : World} {l : List Value} {bs : List Item} {fs : List (World → Prop)}
  {d : Option Nat} {ty t tx e : TypeId} {pos : String} {af : Array Edge} {rest : List Oper} {x y : Operand} {by_ c sz m : Nat} {z : Value}
end
class EqG (P : Program) (t : TypeId) : Prop where eq : P.eqGuardType P.depth t = false
section
variable {P : Program} {r : Option Nat} {ops : Array Oper} {Q : Exit → Act → World → Prop} {w0 : World} {M0 : Nat → Prop} {ds : List Deferred} {a : Act} {w : World} {l : List Value} {bs bs' : List Item} {fs : List (World → Prop)}
  {d : Option Nat} {ty : TypeId} {pos : String} {af : Array Edge} {rest : List Oper} {f : Nat} {x : Operand} {ts : Array TypeId} {e : Exit}
variable {fn : Func} {R : Value → World → Prop}
end
section
variable {P : Program} {ops : Array Oper} {md : Region.Mode} {C : World → Prop}
variable {R : Act → World → Prop}
variable {r : Option Nat} {Q : Exit → Act → World → Prop} {w0 : World} {M0 : Nat → Prop} {ds : List Deferred} {a : Act} {w : World} {l l' : List Value} {bs bs' bs0 : List Item} {fs fs0 : List (World → Prop)}
  {d : Option Nat} {op : Op} {ty : TypeId} {pos : String} {af : Array Edge} {rest : List Oper} {v v' G : Value} {j g : Nat} {pol : Bool} {cs : List Bool} {n : Nat} {listed : Array Bool}
def feeds (ops : Array Oper) (last i : Nat) : Bool := (!Nat.beq i last) && (match ops[last]? with | some o => o.after.toList.any fun e => Region.binds .any e && Nat.beq e.on i | none => false)
theorem feeds_spec {ops : Array Oper} {last i : Nat} (h : feeds ops last i = true) : i ≠ last ∧ ∀ o, ops[last]? = some o → ∃ e ∈ o.after, Region.binds .any e = true ∧ e.on = i := by
  simp only [feeds, Bool.and_eq_true, Bool.not_eq_true'] at h
  refine ⟨fun e => (by rw [e, Nat.beq_refl] at h; cases h.1), fun o ho => ?_⟩
  rw [ho] at h
  obtain ⟨e, he, h2⟩ := List.any_eq_true.1 h.2
  simp only [Bool.and_eq_true] at h2
  exact ⟨e, by simpa using he, h2.1, Nat.eq_of_beq_eq_true h2.2⟩
def flowFromL (last : Nat) (ops : Array Oper) : List (Nat × Bool) → Array Bool → Bool
  | [], listed => (Region.ready .any ops listed).isEmpty
  | (i, true) :: ord, listed => (((Region.ready .any ops listed).contains i && Region.free .any ops listed i) && feeds ops last i) && flowFromL last ops ord (listed.setIfInBounds i true)
  | (i, false) :: ord, listed => (match Region.ready .any ops listed with | [j] => Nat.beq j i | _ => false) && flowFromL last ops ord (listed.setIfInBounds i true)
variable {ord : List (Nat × Bool)} {i last : Nat}
end
open Go Go.Deep Go.ChangeShapes Go.WideShapes Go.ChangeAt Go.RowKit
class TroZ (P : Program) (T : TypeId) (α : Type) [Lay α] (Z : outParam (α → Prop)) : Prop where
  of : ∀ {H : Type} (enc : TypeId × Value → H) (w : World) (base : Nat) (spare : Nat → Bool) (held : Bool) (fuel : Nat) (cs : List Value) (x : DataW H × List MemPlace), DataW.trod enc P w base spare held fuel T cs = some x → ∃ a : α, cs = Enc.cells a ∧ Lay.inn w a ∧ ((∀ n ∈ x.1.weights P T, n ≤ reachBytes) → Z a)
  size : P.cellsOf T = Enc.sz α
def kvI (x : Int × Value) : Value × Value := (.int .i64 x.1, x.2)
def mpin (b r : Nat) (kv done : List (Int × Value)) : Item where
  foot := fun k => k = b ∨ k = r
  holds := fun w => ∃ (es : Array MapEntry) (clock : Nat) (ds : List MapEntry), w.heap[b]? = some (.map es clock) ∧ es.toList.map enKV = kv.map kvI ∧ (∀ e ∈ es.toList, e.born < clock) ∧ (es.toList.map (·.born)).Nodup ∧
    w.heap[r]? = some (.mapIter (some b) clock (ds.map (·.born)).toArray clock) ∧ (∀ e ∈ ds, e ∈ es.toList) ∧ (ds.map (·.born)).Nodup ∧ ds.map enKV = done.map kvI
class HasMpin (bs : List Item) (r : Nat) (b : outParam Nat) (kv done : outParam (List (Int × Value))) : Prop where mem : mpin b r kv done ∈ bs
class HasMpinnB (bs : List Item) (b : Nat) (kv : outParam (List (Int × Value))) : Prop where mem : ∃ r done, mpin b r kv done ∈ bs
section
variable {P : Program} {r0 : Option Nat} {ops : Array Oper} {Q : Exit → Act → World → Prop} {w0 : World} {M0 : Nat → Prop} {ds : List Deferred} {a : Act} {w : World} {l : List Value} {bs : List Item} {fs : List (World → Prop)}
  {d : Option Nat} {op : Op} {ty : TypeId} {pos : String} {af : Array Edge} {rest : List Oper} {t kt et : TypeId} {x : Operand} {b : Nat} {kv : List (Int × Value)}
end
section
variable {P : Program} {ops : Array Oper} {C : World → Prop} {X : XP}
def ACXL (last : Nat) (P : Program) (ops : Array Oper) (X : XP) (C : World → Prop) (R : Act → World → Prop) : Nat → Array Bool → Act → World → Prop
  | 0, listed, a, w => Region.ready .any ops listed = [] ∧ R a w
  | fuel + 1, listed, a, w =>
    (Region.ready .any ops listed = [] → R a w) ∧
    ∀ i ∈ Region.ready .any ops listed, WNX P ops X i (fun a' w' => (i ≠ last → C w') ∧ ACXL last P ops X C R fuel (listed.setIfInBounds i true) a' w') a w
variable {R : Act → World → Prop}
theorem acxl_first {last i : Nat} {oi : Oper} {v : Value} (hi : ops[i]? = some oi) (hoff : X.off oi) (hsel : ∀ (j : Nat) (o : Oper) cs b, ops[j]? = some o → o.op ≠ .select cs b) :
    (i ≠ last ∧ ∀ o, ops[last]? = some o → ∃ e ∈ o.after, Region.binds .any e = true ∧ e.on = i) → ∀ (fuel : Nat) (listed : Array Bool) (a : Act) (w : World),
      (∀ j oj, ops[j]? = some oj → j ≠ i → listed.getD j true = false → (∀ e ∈ oj.after, Region.binds .any e = true → e.on ≠ i) → oi.apart ops oj = true) →
      i ∈ Region.ready .any ops listed → YieldsC P ops C oi v a → C w →
      ACXL last P ops X C R fuel (listed.setIfInBounds i true) (a.put oi.dst v) w → ACXL last P ops X C R (fuel + 1) listed a w := by
  intro hlast fuel
  induction fuel with
  | zero =>
    intro listed a w _ hr hy hS H
    refine ⟨fun h => (by rw [h] at hr; cases hr), fun j hj => ?_⟩
    by_cases hji : j = i
    · subst hji; exact hy.wnx hi hS ⟨fun _ => hS, H⟩
    · have := ready_mono hj hji
      rw [H.1] at this
      cases this
  | succ fuel ih =>
    intro listed a w hfree hr hy hS H
    refine ⟨fun h => (by rw [h] at hr; cases hr), fun j hj => ?_⟩
    by_cases hji : j = i
    · subst hji; exact hy.wnx hi hS ⟨fun _ => hS, H⟩
    · have h1 := H.2 j (ready_mono hj hji)
      obtain ⟨hjun, oj, hoj, hall⟩ := mem_ready.1 hj
      have hnot : ∀ e ∈ oj.after, Region.binds .any e = true → e.on ≠ i := fun e he hb heq => by
        have h1 := hall e he hb
        have h0 := (mem_ready.1 hr).1
        rw [heq] at h1
        rcases Nat.lt_or_ge i listed.size with h' | h'
        · simp [h'] at h0 h1; rw [h0] at h1; cases h1
        · simp [Array.getElem?_eq_none h'] at h1
      have hjl : j ≠ last := fun e => by
        obtain ⟨e', he', hb', ho'⟩ := hlast.2 oj (e ▸ hoj)
        exact hnot e' he' hb' ho'
      have h2 := wnx_put hoj (hfree j oj hoj hji hjun hnot) hoff (fun cs b => hsel i oi cs b hi) (fun cs b => hsel j oj cs b hoj) hy h1
      have hfree' : ∀ k ok, ops[k]? = some ok → k ≠ i → (listed.setIfInBounds j true).getD k true = false →
          (∀ e ∈ ok.after, Region.binds .any e = true → e.on ≠ i) → oi.apart ops ok = true := fun k ok hk hki hun hno => by
        refine hfree k ok hk hki ?_ hno
        by_cases hjk : j = k
        · subst hjk; exact hjun
        · rw [getD_set_ne true hjk] at hun; exact hun
      refine wpOpIn_mono (fun a' w' h3 => ⟨h3.2.1, ih (listed.setIfInBounds j true) a' w' hfree' (ready_mono hr (Ne.symm hji)) h3.1 (h3.2.1 hjl) ?_⟩) h2
      rw [Array.setIfInBounds_comm _ _ hji]
      exact h3.2.2
variable {r : Option Nat} {Q : Exit → Act → World → Prop} {w0 : World} {M0 : Nat → Prop} {ds : List Deferred} {a : Act} {w : World} {l l' : List Value} {bs bs' bs0 : List Item} {fs fs0 : List (World → Prop)}
  {d : Option Nat} {op : Op} {ty : TypeId} {pos : String} {af : Array Edge} {rest : List Oper} {v v' G : Value} {j g : Nat} {pol : Bool} {cs : List Bool} {n last : Nat} {listed : Array Bool}
def AQXL (last : Nat) (P : Program) (ops : Array Oper) (X : XP) (C : World → Prop) (R : Act → World → Prop) (ord : List (Nat × Bool)) (a : Act) (w : World) : Prop :=
  ∀ listed, Region.noSelect ops = true → X.offB ops = true → flowFromL last ops ord listed = true → ACXL last P ops X C R ord.length listed a w
variable {ord : List (Nat × Bool)} {i : Nat}
theorem dqXL (S : St w0 M0 ds a w l bs fs) [hb : SubL bs0 bs] [hf : SubL fs0 fs] [ho : OpAt ops i ⟨d, op, ty, pos, af, none⟩] [hq : OpQ P op ty ⟨[], l⟩ bs0 fs0 v] [hp : PutO l d v l']
    (K : ∀ a, St w0 M0 ds a w l' bs fs → AQXL last P ops X (fun w => Wd w0 M0 w bs0 fs0) R ord a w) :
    AQXL last P ops X (fun w => Wd w0 M0 w bs0 fs0) R ((i, true) :: ord) a w := by
  intro listed hs hx hflow
  simp only [flowFromL, Bool.and_eq_true] at hflow
  refine acxl_first ho.eq (XP.offB_spec hx ho.eq) (Region.noSelect_spec hs) (feeds_spec hflow.1.2) _ listed a w (Region.free_spec ho.eq hflow.1.1.2) (by simpa using hflow.1.1.1) (v := v) (.inl ⟨rfl, fun w' hw' => ?_⟩) (S.wd.sub hb.sub hf.sub) (K _ S.put _ hs hx hflow.2)
  rw [execOp_eq]
  exact hq.run a.eval w' S.fr hw'.mem
theorem dlXL {o : Oper} {C : World → Prop} [ho : OpAt ops i o] (h : WL P none ops (fun e a' w' => (e = .normal ∧ (i ≠ last → C w') ∧ AQXL last P ops X C R ord a' w') ∨ X.at e a' w') [o] a w) : AQXL last P ops X C R ((i, false) :: ord) a w := by
  intro listed hs hx hflow
  simp only [flowFromL, Bool.and_eq_true] at hflow
  have hr : Region.ready .any ops listed = [i] := by
    have := hflow.1
    split at this
    · rename_i k hk; rw [hk, Nat.eq_of_beq_eq_true this]
    · cases this
  refine ⟨fun h0 => (by rw [h0] at hr; cases hr), fun k hk => ?_⟩
  rw [hr] at hk
  obtain rfl : k = i := by simpa using hk
  have nor : ∀ {p : Prop} {a' : Act} {w' : World}, ((p ∧ (k ≠ last → C w') ∧ AQXL last P ops X C R ord a' w') ∨ X.at .normal a' w') → (k ≠ last → C w') ∧ ACXL last P ops X C R ord.length (listed.setIfInBounds k true) a' w' := by
    rintro p a' w' (⟨-, h1, h2⟩ | h)
    · exact ⟨h1, h2 _ hs hx hflow.2⟩
    · exact h.elim
  have pan : ∀ {c : List PanicEntry} {a' : Act} {w' : World}, ((Exit.panic c = Exit.normal ∧ (k ≠ last → C w') ∧ AQXL last P ops X C R ord a' w') ∨ X.at (.panic c) a' w') → X.at (.panic c) a' w' := by
    rintro c a' w' (⟨h, -⟩ | h)
    · cases h
    · exact h
  unfold WNX wpOpIn
  simp only [ho.eq]
  simp only [WL, wpListIn] at h
  split
  · rename_i hw
    rw [if_pos hw] at h
    refine ⟨fun _ _ => trivial, ?_⟩
    have h := h.2
    generalize (o.semAt (FW none).round a.eval).run P w = q at *
    cases q with
    | ok x w' =>
      cases x <;> simp only [Oper.uponIn] at h ⊢
      case value u => exact nor h
      case skip => exact nor h
      case defer d => exact nor h
      case enter f args =>
        refine ⟨h.1, CallsIn.mono h.2 fun e w'' he => ?_⟩
        cases e with
        | returned u => simp only [true_and] at he; exact nor (p := True) (by simpa using he)
        | panicked c => exact pan he
        | outgrown => obtain ⟨_, _, he⟩ := he; rcases he with ⟨he, _⟩ | he <;> first | cases he | exact he.elim
      case row row args => exact ⟨h.1, RowsIn.mono h.2 fun u w'' he => nor he⟩
      case round l f tmps assign body =>
        refine ⟨h.1, RoundIn.mono h.2 fun e w'' he => ?_⟩
        cases e with
        | returned u => simp only [true_and] at he; exact nor (p := True) (by simpa using he)
        | panicked c => exact pan he
        | outgrown => obtain ⟨_, _, he⟩ := he; rcases he with ⟨he, _⟩ | he <;> first | cases he | exact he.elim
    | halt x w' =>
      cases x <;> simp only [Oper.uponIn] at h ⊢
      case panic u => exact pan h
  · rename_i hw
    rw [if_neg hw] at h
    exact ⟨fun _ _ => trivial, nor h.2⟩
theorem deXL [hb : SubL bs0 bs] [hf : SubL fs0 fs] (S : St w0 M0 ds a w l bs fs) (h : AQXL last P ops X (fun w => Wd w0 M0 w bs0 fs0) R ord a w) : WL P none ops (fun e a' w' => (e = .normal ∧ (i ≠ last → Wd w0 M0 w' bs0 fs0) ∧ AQXL last P ops X (fun w => Wd w0 M0 w bs0 fs0) R ord a' w') ∨ X.at e a' w') [] a w :=
  wl_nil (.inl ⟨rfl, fun _ => S.wd.sub hb.sub hf.sub, h⟩)
theorem dzXL {C : World → Prop} (h : R a w) (hr : ∀ listed, Region.noSelect ops = true → flowFromL last ops [] listed = true → Region.ready .any ops listed = [] := by intro listed _ h; simpa [flowFromL] using h) : WL P none ops (fun e a' w' => (e = .normal ∧ (last ≠ last → C w') ∧ AQXL last P ops X C R [] a' w') ∨ X.at e a' w') [] a w :=
  wl_nil (.inl ⟨rfl, fun h => absurd rfl h, fun listed hs _ hf => ⟨hr listed hs hf, h⟩⟩)
theorem any_of_acxl (hQ : ∀ ch a w, X.at (.panic ch) a w → Q (.panic ch) a w) (hd : ∀ (i : Nat) o, ops[i]? = some o → isDefer o.op = false) : ∀ (fuel : Nat) (listed : Array Bool) (a : Act) (w : World), ACXL last P ops X C (fun a w => Q .normal a w) fuel listed a w → wpAnyIn (FW r) 0 P .any ops Q fuel listed a w
  | 0, _, _, _, h => h
  | fuel + 1, _, _, _, h => ⟨h.1, fun i hi => wnx_round hQ hd (wpOpIn_mono (fun a' w' h' => any_of_acxl hQ hd fuel _ a' w' h'.2) (h.2 i hi))⟩
theorem c_drawXL {id : Nat} {lo : List Oper} (last : Nat) (ord : List (Nat × Bool)) (bs0 : List Item) (X : XP) (S : St w0 M0 ds a w l bs fs) (hQ : ∀ ch a w, X.at (.panic ch) a w → Q (.panic ch) a w)
    (h : ∀ w, St w0 M0 ds a w l bs fs → AQXL last P lo.toArray X (fun w => Wd w0 M0 w bs0 fs) (fun a w => Q .normal a w) ord a w)
    (hm : P.follows .mixedOrders = true := by kernel_rfl) (hx : X.offB lo.toArray = true := by kernel_rfl) (hd : ((lo.all fun o => !isDefer o.op) && (Nat.beq ord.length lo.length && (Region.noSelect lo.toArray && flowFromL last lo.toArray ord (Array.replicate lo.length false)))) = true := by kernel_rfl) : Wp P r (.region id lo.toArray true) Q a w := by
  simp only [Bool.and_eq_true] at hd
  refine wpIn_region_any hm (any_of_acxl (last := last) (C := fun w => Wd w0 M0 w bs0 fs) hQ (fun i o ho => ?_) _ _ _ _ ?_)
  · have := List.all_eq_true.1 hd.1 o (by
      rw [List.getElem?_toArray] at ho
      exact List.mem_of_getElem? ho)
    simpa using this
  · have := h { w with drawn := w.drawn + 1 } ⟨S.slots, S.defers, S.wd.step (Agree.drawn _ w _)⟩ _ hd.2.2.1 hx hd.2.2.2
    rw [Nat.eq_of_beq_eq_true hd.2.1] at this
    simpa using this
end
section
variable {P : Program} {r : Option Nat} {ops : Array Oper} {Q : Exit → Act → World → Prop} {w0 : World} {M0 : Nat → Prop} {ds : List Deferred} {a : Act} {w : World} {l : List Value} {bs bs' : List Item} {fs : List (World → Prop)}
  {d : Option Nat} {ty : TypeId} {pos : String} {af : Array Edge} {rest : List Oper} {f : Nat} {x : Operand} {ys : List Operand} {args : List Value} {ts : Array TypeId}
theorem xtp {next : Act → World → Prop} {ch : List PanicEntry} (h : Q (.panic ch) a w) : Exit.then next Q (.panic ch) a w := h
theorem xbp {id : Nat} {ch : List PanicEntry} (h : Q (.panic ch) a w) : Exit.inBlock id Q (.panic ch) a w := h
abbrev noI : Item := ext fun _ => False
theorem sitMP {l' : Value → List Value} (it : Item) [EntF P f] [CallTo ⟨[], l⟩ x ys f args] [hp : ∀ v, PutO l d v (l' v)] (S : St w0 M0 ds a w l bs fs) {R : Value → World → Prop} {X : List PanicEntry → World → Prop} (hc : RetP P f args w it.foot R X) (ho : it.own = true)
    (Kp : ∀ ch w', X ch w' → (∀ {bs' : List Item} [ReplI bs it noI bs'], St w0 M0 ds a w' l bs' fs) → Q (.panic ch) a w')
    (K : ∀ v a w', R v w' → (∀ (y : Item) (fs2 : List (World → Prop)) {fs3 : List (World → Prop)} {bs' : List Item} [AppL fs2 fs fs3] [ReplI bs it y bs'] [ItOk y], y.holds w' → (∀ k, y.foot k → it.foot k ∨ w.heap.size ≤ k) → (∀ Φ ∈ fs2, Stable (fun k => y.foot k ∨ restOf bs it k) w' Φ) → St w0 M0 ds a w' (l' v) bs' fs3) → WL P r ops Q rest a w') :
    WL P r ops Q (⟨d, .call { callee := .value x, args := ys.toArray, argTypes := ts }, ty, pos, af, none⟩ :: rest) a w := by
  have hap := S.wd.apart
  refine cv_anyP S hc ?_
  rintro e w' (⟨v, rfl, ha, hR⟩ | ⟨ch, rfl, ha, hX⟩)
  · have := hp v
    have S' := S.put (d := d) (v := v)
    refine .inl ⟨v, rfl, K v _ w' hR fun y fs2 fs3 bs' happ hr oy hy hf hfs => ?_⟩
    have hS : St w0 M0 ds (a.put d v) w' (l' v) bs' fs := ⟨S'.slots, S'.defers, by
      obtain ⟨pre, post, q1, q2⟩ := hr.ex
      have hwd := S'.wd
      rw [q1] at hwd
      rw [q2]
      exact hwd.swap ho ha hy hf (oy.lt w' hy) oy.loc⟩
    rw [← happ.eq]
    refine hS.addAll fs2 fun Φ hΦ => (hfs Φ hΦ).less fun k _ hk => ?_
    obtain ⟨pre, post, rfl, rfl⟩ := hr.ex
    obtain ⟨z, hz, hk⟩ := hk
    have hp := List.pairwise_append.1 hap
    rcases List.mem_append.1 hz with hz | hz
    · exact .inr ⟨⟨z, by simp [hz], hk⟩, hp.2.2 z hz it (by simp) k hk⟩
    · rcases List.mem_cons.1 hz with rfl | hz
      · exact .inl hk
      · exact .inr ⟨⟨z, by simp [hz], hk⟩, fun hx => (List.pairwise_cons.1 hp.2.1).1 z hz k hx hk⟩
  · refine .inr ⟨ch, rfl, Kp ch w' hX fun {bs'} hr => ⟨S.slots, S.defers, ?_⟩⟩
    obtain ⟨pre, post, q1, q2⟩ := hr.ex
    have hwd := S.wd
    rw [q1] at hwd
    rw [q2]
    exact hwd.swap ho ha trivial (fun _ h => h.elim) (fun _ h => h.elim) (fun _ _ _ _ => trivial)
end
end Go.Wk
namespace Go.Proofs.YtibkkbknnfehlaaGreatDoor
open Go Go.Wk
set_option synthInstance.maxSize 100000
set_option synthInstance.maxHeartbeats 400000
set_option maxRecDepth 100000
instance : StT Tryz.prog 52 := ⟨⟨_, Tryz.underlying52⟩⟩
instance : IfT Tryz.prog 20 := ⟨by kernel_rfl⟩
abbrev zMeta : List Value := [str [], .int .i64 0, .int .i64 0, .int .i64 0, .slice none 0 0, .slice none 0 0, .slice none 0 0, .slice none 0 0, .int .i64 0, .int .i64 0, .int .i64 0, str [], .slice none 0 0]
abbrev wrongM : Value := .iface 52 (.agg ⟨[]⟩)
theorem mneed_c (b : Bool) (w : World) : RetP Tryz.prog 21 [.bool b] w (fun _ => False) (fun v _ => b = true) (fun ch _ => b = false ∧ ch = pch wrongM) := by
  refine enter Tryz.func21 rfl rfl (Wd.start w) (fun a S => ?_)
  simp only [Tryz.ntmps21, List.length_cons, List.length_nil, Nat.reduceAdd, Nat.reduceSub, List.replicate_succ, List.replicate_zero, List.cons_append, List.nil_append] at S
  refine c_seq ?_; refine c_region ?_; (iterate 2 (refine sq S ?_; clear S; intro a S)); refine wl_nil ?_; refine xtn ?_
  refine c_cond S (fun h0 => ?_) (fun h0 => ?_)
  · refine c_region ?_; (iterate 2 (refine sq S ?_; clear S; intro a S))
    refine sPan S (fun S => ?_)
    exact endX S ⟨by simpa using h0, rfl⟩
  · refine c_skip ?_
    refine endP (end0 S (fun _ => ?_))
    simpa using h0
theorem mcatch_ret (p2 p3 p4 : Value) (w : World) : CallsDIn (FW none) 0 Tryz.prog 20 #[p2, p3, p4] .returning w fun e u' w' => (∃ v, e = .returned v) ∧ u' = .returning ∧ Agree (fun _ => False) w w' := by
  refine callsD_catch Tryz.func20 rfl (l := [p2, p3, p4, undef, undef, undef, undef, undef, undef, undef, undef, undef, undef, undef, undef, undef, undef, undef]) (args := [p2, p3, p4]) rfl (Wd.start w) (.inl rfl) ?_
  rintro x u' (⟨-, rfl, rfl⟩ | ⟨pv, h, -⟩) a S
  · refine c_seq ?_; refine c_region ?_; (iterate 2 (refine sq S ?_; clear S; intro a S)); refine wl_nil ?_; refine xtn ?_; refine c_condF S ?_; refine c_skip ?_
    exact ⟨.inl rfl, S.defers, .tuple #[], resC S, ⟨_, rfl⟩, rfl, S.wd.agree⟩
  · cases h
theorem mcatch_pan (b2 b3 b4 : Nat) (x0 x1 x2 x3 x4 x5 x6 x7 x8 x9 x10 x11 x12 y z : Value) (w0 w : World) (M0 : Nat → Prop) (hw : Wd w0 M0 w [Wk.box b4 33 [z], Wk.box b3 3 [y], Wk.box b2 32 [x0, x1, x2, x3, x4, x5, x6, x7, x8, x9, x10, x11, x12]] []) :
    CallsDIn (FW none) 0 Tryz.prog 20 #[.pointer (some ⟨b2, 0, none⟩), .pointer (some ⟨b3, 0, none⟩), .pointer (some ⟨b4, 0, none⟩)] (.panicking (pch wrongM)) w fun e u' w' => (∃ v, e = .returned v) ∧ u' = .panicking [{ v := wrongM, recovered := true }] ∧
      Wd w0 M0 w' [Wk.box b4 33 [.int .i64 251], Wk.box b3 3 [.int .i64 0], Wk.box b2 32 zMeta] [] := by
  refine callsD_catch Tryz.func20 rfl (l := [.pointer (some ⟨b2, 0, none⟩), .pointer (some ⟨b3, 0, none⟩), .pointer (some ⟨b4, 0, none⟩), undef, undef, undef, undef, undef, undef, undef, undef, undef, undef, undef, undef, undef, undef, undef]) (args := [.pointer (some ⟨b2, 0, none⟩), .pointer (some ⟨b3, 0, none⟩), .pointer (some ⟨b4, 0, none⟩)]) rfl hw (.inr ⟨_, rfl⟩) ?_
  rintro x u' (⟨h, -⟩ | ⟨pv, h, rfl, rfl⟩) a S
  · cases h
  · obtain rfl : x = wrongM := by injection h with h; injection h with h _; injection h with h; exact h.symm
    refine c_seq ?_; refine c_region ?_; (iterate 2 (refine sq S ?_; clear S; intro a S)); refine wl_nil ?_; refine xtn ?_; refine c_condT S ?_; (iterate 2 (refine c_seq ?_)); refine c_region ?_; (iterate 5 (refine sq S ?_; clear S; intro a S))
    refine sa S ?_; clear S; intro b4 a w S
    refine sw S ?_; clear S; intro a w S; refine sq S ?_; clear S; intro a S; refine wl_nil ?_; refine xtn ?_; refine c_seq ?_; refine c_region ?_; (iterate 2 (refine sq S ?_; clear S; intro a S))
    rw [show (!true) = false from rfl] at S
    refine wl_nil ?_; refine xtn ?_; refine c_condF S ?_; refine c_skip ?_; refine xtn ?_; refine c_region ?_; refine sq S ?_; clear S; intro a S; (iterate 3 (refine sw S ?_; clear S; intro a w S)); refine wl_nil ?_
    refine ⟨.inl rfl, S.defers, .tuple #[], resC S, ⟨_, rfl⟩, rfl, ?_⟩
    exact (S.sub _ _).wd
abbrev mrI (b : Nat) (q : Option Addr) (c : Nat) (us : List LTerm) : Wk.Item := Wk.box b 62 [.slice q us.length c]
def NextR (b : Nat) (q : Option Addr) (us : List LTerm) (v : Value) (w : World) : Prop := ∃ (x : LTerm) (us' : List LTerm) (q' : Option Addr) (c' : Nat), us = x :: us' ∧ v = vL x ∧ (mrI b q' c' us').holds w ∧ us'.length ≤ c' ∧ ∀ w, LsF q 0 us w → LsF q' 0 us' w
theorem mnext_c (b : Nat) (q : Option Addr) (c : Nat) (us : List LTerm) (w0 : World) (hc : us.length ≤ c) (hl : us.length ≤ 1000000) (hd : (mrI b q c us).holds w0) (hf : Stable (mrI b q c us).foot w0 (LsF q 0 us)) :
    RetP Tryz.prog 23 [.pointer (some ⟨b, 0, none⟩)] w0 (mrI b q c us).foot (fun v w' => NextR b q us v w') (fun ch _ => ch = pch wrongM ∧ us = []) := by
  refine enter Tryz.func23 rfl rfl (Wd.itLent (x := mrI b q c us) (fs := [LsF q 0 us]) hd (by simpa using hf)) (fun a S => ?_)
  simp only [Tryz.ntmps23, List.length_cons, List.length_nil, Nat.reduceAdd, Nat.reduceSub, List.replicate_succ, List.replicate_zero, List.cons_append, List.nil_append] at S
  refine c_seq ?_; refine c_region ?_
  refine sa S ?_; clear S; intro b2 a w S
  refine wl_nil ?_; refine xtn ?_; refine c_seq ?_; refine c_region ?_; (iterate 6 (refine sq S ?_; clear S; intro a S))
  refine srP S (mneed_c _ _) (fun ch w' hx S => ?_) ?_
  · obtain ⟨hb, rfl⟩ := hx
    repeat (first | refine xtp ?_ | refine xbp ?_)
    refine endX S ⟨rfl, ?_⟩
    have : ¬ 0 < us.length := by simpa using hb
    exact List.length_eq_zero_iff.1 (by omega)
  clear S; rintro _ a w hb S
  have hpos : 0 < us.length := by simpa using hb
  have hK0 : KLt 0 us.length := ⟨hpos⟩
  have hLc : LeC us.length c := ⟨hc⟩
  have hL1 : LeC 1 us.length := ⟨hpos⟩
  refine wl_nil ?_; refine xtn ?_; refine c_seq ?_; refine c_region ?_; (iterate 6 (refine sq S ?_; clear S; intro a S))
  refine sa S ?_; clear S; intro b3 a w S
  refine sw S ?_; clear S; intro a w S; refine wl_nil ?_; refine xtn ?_; refine c_seq ?_; refine c_region ?_; (iterate 6 (refine sq S ?_; clear S; intro a S))
  obtain ⟨q', hq'⟩ : ∃ q', q' = (if c = 1 then q else Option.map (fun x => x.add (1 * 5)) q) := ⟨_, rfl⟩
  rw [← hq', show us.length - 1 = (us.drop 1).length from by rw [List.length_drop]] at S
  (iterate 2 (refine sq S ?_; clear S; intro a S)); refine sw S ?_; clear S; intro a w S; refine wl_nil ?_; refine xtn ?_; refine c_seq ?_; refine c_region ?_; refine sq S ?_; clear S; intro a S; refine sw S ?_; clear S; intro a w S; refine wl_nil ?_; refine xtn ?_; refine c_ret ?_
  have hb := S.it (mrI b q' (c - 1) (us.drop 1))
  refine endP (end1 S (fun _ => ?_))
  refine ⟨nthL us 0, us.drop 1, q', c - 1, ?_, rfl, hb, by rw [List.length_drop]; omega, fun w h => ?_⟩
  · match us, hpos with
    | x :: us, _ => rfl
  · rw [hq']
    exact LsIn.cut h hc
theorem digT_inj {n m : Int} (hn : 0 ≤ n ∧ n ≤ 65535) (hm : 0 ≤ m ∧ m ≤ 65535) (h : digT n = digT m) : n = m := by
  rw [digT_pos hn.1, digT_pos hm.1] at h
  simp only [textT, Term.mk.injEq] at h
  have h1 := atoi_itoa hn
  rw [h.2.2.2.1, atoi_itoa hm] at h1
  injection h1 with h1
  exact h1.symm
def NumberR (b : Nat) (q : Option Addr) (us : List LTerm) (v : Value) (w : World) : Prop := ∃ (n : Int) (x : LTerm) (us' : List LTerm) (q' : Option Addr) (c' : Nat), us = x :: us' ∧ v = .int .i64 n ∧ (0 ≤ n ∧ n ≤ 9999) ∧ x.t = digT n ∧ (mrI b q' c' us').holds w ∧ us'.length ≤ c' ∧ ∀ w, LsF q 0 us w → LsF q' 0 us' w
theorem mnum_c (b : Nat) (q : Option Addr) (c : Nat) (us : List LTerm) (w0 : World) (hc : us.length ≤ c) (hl : us.length ≤ 1000000) (hlen : ∀ x ∈ us, x.text.length ≤ 1000) (hlib : Stable (mrI b q c us).foot w0 LibF) (hd : (mrI b q c us).holds w0) (hf : Stable (mrI b q c us).foot w0 (LsF q 0 us)) :
    RetP Tryz.prog 25 [.pointer (some ⟨b, 0, none⟩)] w0 (mrI b q c us).foot (fun v w' => NumberR b q us v w') (fun ch _ => ch = pch wrongM ∧ ∀ n x us', us = x :: us' → 0 ≤ n ∧ n ≤ 9999 → x.t ≠ digT n) := by
  refine enter Tryz.func25 rfl rfl (Wd.itLent (x := mrI b q c us) (fs := [LibF, LsF q 0 us]) hd (by simp; exact ⟨hlib, hf⟩)) (fun a S => ?_)
  simp only [Tryz.ntmps25, List.length_cons, List.length_nil, Nat.reduceAdd, Nat.reduceSub, List.replicate_succ, List.replicate_zero, List.cons_append, List.nil_append] at S
  refine c_seq ?_; refine c_region ?_; refine sq S ?_; clear S; intro a S; refine wl_nil ?_; refine xtn ?_; refine c_seq ?_; refine c_region ?_; refine sq S ?_; clear S; intro a S
  refine sitMP (mrI b q c us) S (mnext_c b q c us _ hc hl (S.it (mrI b q c us)) (S.lend (mrI b q c us) (S.mem.fact (LsF q 0 us)))) rfl (fun ch w' hx hS => ?_) ?_
  · have S := hS
    clear hS
    obtain ⟨rfl, rfl⟩ := hx
    repeat (first | refine xtp ?_ | refine xbp ?_)
    refine endX S ⟨rfl, fun n x us' h => by cases h⟩
  clear S; rintro _ a w ⟨x, us', q', c', rfl, rfl, hh, hc', hls⟩ hS
  have S := hS (mrI b q' c' us') [] hh (fun k h => .inl h) (by simp)
  clear hS
  have hxi : x.text.length ≤ 1000 := hlen x (by simp)
  have hfx : Stable (fun _ => False) _ (LtF x) := (S.mem.fact0 (LsF q 0 (x :: us'))).imp fun _ h => (LsIn.get h (k := 0) rfl).2
  refine sr S (mnumber_c x 9999 hxi (by omega) _ (S.mem.fact0 LibF) hfx) ?_; clear S hfx; rintro _ a w ⟨n, b2, rfl, hn1, hn2⟩ S
  (iterate 5 (refine sq S ?_; clear S; intro a S)); refine wl_nil ?_; refine xtn ?_; refine c_seq ?_; refine c_region ?_; refine sq S ?_; clear S; intro a S
  refine srP S (mneed_c _ _) (fun ch w' hx S => ?_) ?_
  · obtain ⟨hb, rfl⟩ := hx
    repeat (first | refine xtp ?_ | refine xbp ?_)
    refine endX S ⟨rfl, fun n x1 us1 h hr he => ?_⟩
    injection h with h1 h2
    subst h1
    exact (hn2 hb).2 n hr.1 hr.2 (by rw [he, digT_pos hr.1])
  clear S; rintro _ a w hb S
  obtain ⟨⟨hn3, hn4⟩, hn5⟩ := hn1 hb
  refine wl_nil ?_; refine xtn ?_; refine c_seq ?_; refine c_region ?_; (iterate 2 (refine sq S ?_; clear S; intro a S)); refine wl_nil ?_; refine xtn ?_; refine c_ret ?_
  have hbx := S.it (mrI b q' c' us')
  refine endP (end1 S (fun _ => ?_))
  exact ⟨n, x, us', q', c', rfl, rfl, ⟨hn3, hn4⟩, by rw [hn5, digT_pos hn3], hbx, hc', hls⟩
theorem unlist3_c (t : LTerm) (M : Nat → Prop) (w0 : World) (hM : ∀ k, M k → k < w0.heap.size) (hf : Stable M w0 (LtF t)) :
    Ret Tryz.prog 56 [vL t] w0 (fun _ => False) fun v w' => ∃ (p : Option Addr) (c : Nat) (os : List LTerm) (b : Bool), v = .tuple ⟨[.slice p os.length c, .bool b]⟩ ∧ os.length ≤ c ∧ Stable M w' (LsF p 0 os) ∧ os.length ≤ 1200 ∧ (b = true → Good t.t ∧ t.t = listT (os.map LTerm.t)) ∧ (b = false → os = [] ∧ ∀ l, t.t = listT l → ¬ Good t.t) := by
  refine enter Tryz.func56 rfl rfl (Wd.beginM (M := M) (fs := [LtF t]) hM (by simpa using hf)) (fun a S => ?_)
  simp only [Tryz.ntmps56, List.length_cons, List.length_nil, Nat.reduceAdd, Nat.reduceSub, List.replicate_succ, List.replicate_zero, List.cons_append, List.nil_append] at S
  refine c_seq ?_; refine c_region ?_
  refine sa S ?_; clear S; intro b1 a w S
  (iterate 2 (refine sq S ?_; clear S; intro a S)); refine wl_nil ?_; refine xtn ?_; (iterate 2 (refine c_seq ?_)); refine c_region ?_; refine sq S ?_; clear S; intro a S; refine sc S ?_; clear S; intro a w S; refine sq S ?_; clear S; intro a S; refine wl_nil ?_; refine xtn ?_
  refine c_cond S (fun h1 => ?_) (fun h1 => ?_)
  · refine c_seq ?_; refine c_region ?_; (iterate 2 (refine sq S ?_; clear S; intro a S)); refine wl_nil ?_; refine xtn ?_; refine c_ret ?_; refine xtr ?_
    have hb : ¬ Good t.t := fun h => h (by simpa using h1)
    refine end2 S (fun _ => ?_)
    exact ⟨none, 0, [], false, rfl, Nat.le_refl _, fun w' _ => by simp [LsF, LsIn], by simp, nofun, fun _ => ⟨rfl, fun _ _ => hb⟩⟩
  · refine c_skip ?_; refine xtn ?_; refine c_seq ?_; refine c_region ?_; refine sq S ?_; clear S; intro a S; refine wl_nil ?_; refine xtn ?_; refine c_seq ?_; refine c_block ?_
    have hg : Good t.t := by have h0 : ¬ sizeF t.t = 0 := (by simpa using h1); exact h0
    replace S := (S.addNil 24 5)
    refine c_fore4 S (fun (x : LTerm) (os : List LTerm) (p' : Option Addr) (c' : Nat) uu => [(4, .slice p' os.length c'), (3, uu 8), (0, uu 9), (0, uu 10), (0, uu 11), (0, uu 12), (0, uu 13), (0, uu 14), (0, uu 15), (0, uu 16), (0, uu 17), (0, uu 18), (0, uu 19), (0, uu 20), (0, uu 21)]) (fun (x : LTerm) (os : List LTerm) (p' : Option Addr) (c' : Nat) => [Wk.row 24 5 p' os.length c' (encL os), Wk.box b1 24 x.cells, ext M]) (fun (x : LTerm) (os : List LTerm) (p' : Option Addr) (c' : Nat) => [AllI os, LtF x]) (fun (x : LTerm) (os : List LTerm) (p' : Option Addr) (c' : Nat) => Good x.t ∧ os.length + cnt x.t ≤ 1200 ∧ ∀ l, t.t = listT l ↔ ∃ l', l = os.map LTerm.t ++ l' ∧ x.t = listT l') (fun (x : LTerm) (os : List LTerm) (p' : Option Addr) (c' : Nat) => cnt x.t) (t) ([]) (none) (0) ?_ S.uu ?_ ?_
    · exact ⟨hg, by simpa using good_le hg, fun l => ⟨fun h => ⟨l, rfl, h⟩, fun ⟨l', h1, h2⟩ => by rw [h1]; exact h2⟩⟩
    · exact S.add (Φ := AllI (α := LTerm) []) AllI.nil
    · clear S; rintro x os p' c' uu a w ⟨hgx, hsz, hrel⟩ S
      (iterate 2 (refine c_seq ?_)); refine c_region ?_; (iterate 3 (refine sq S ?_; clear S; intro a S)); refine wl_nil ?_; refine xtn ?_
      refine c_cond S (fun h4 => ?_) (fun h4 => ?_)
      · refine c_skip ?_; refine xtn ?_; refine c_block ?_; refine c_seq ?_
        have hkind : x.kind = 4 := by simpa using h4
        obtain ⟨hl2, hpr⟩ := good_pr hgx hkind
        have hK0 : KLt 0 x.kids.length := ⟨by omega⟩
        have hK1 : KLt 1 x.kids.length := ⟨by omega⟩
        have hc : cnt x.t = 1 + (cnt (nthL x.kids 0).t + cnt (nthL x.kids 1).t) := by rw [hpr]; simp [Term.pair, cnt, cntL]
        have hcp := cnt_pos (nthL x.kids 0).t
        refine c_region ?_; (iterate 5 (refine sq S ?_; clear S; intro a S))
        refine sn S ?_; clear S; intro b16 a w S
        refine sap S (by simp [maxLen]; omega) (by omega) ?_; clear S; rintro p5 c5 a w - S
        rw [show encL os ++ (nthL x.kids 0).cells = encL (os ++ [nthL x.kids 0]) from by rw [encL_append, encT_cells], show os.length + 1 = (os ++ [nthL x.kids 0]).length from by simp] at S
        refine sq S ?_; clear S; intro a S; refine wl_nil ?_; refine xtn ?_; refine c_region ?_; (iterate 4 (refine sq S ?_; clear S; intro a S)); refine sw S ?_; clear S; intro a w S; refine wl_nil ?_; refine xbn ?_; refine xtn ?_
        have h1 := S.wd.facts (AllI os) (by simp)
        have h2 := S.t (nthL x.kids 0)
        have h3 := S.t (nthL x.kids 1)
        replace S := (S.add (Φ := LtF (nthL x.kids 1)) h3).add (AllI.snoc h1 h2)
        have hg1 : Good (nthL x.kids 1).t := by rw [hpr] at hgx; exact good_kid hgx (by simp)
        refine ⟨nthL x.kids 1, os ++ [nthL x.kids 0], p5, c5, S.uu, ⟨hg1, by simp only [List.length_append, List.length_singleton]; omega, fun l => ?_⟩, S.sub _ _, by omega⟩
        rw [hrel l]
        constructor
        · rintro ⟨l', e1, e2⟩
          rw [hpr] at e2
          cases l' with
          | nil => simp [listT, Term.pair, textT] at e2
          | cons a l' =>
            simp only [listT, Term.pair, Term.mk.injEq, List.cons.injEq, and_true, true_and] at e2
            exact ⟨l', by rw [e1, List.map_append, List.append_assoc, ← e2.1]; rfl, e2.2⟩
        · rintro ⟨l', e1, e2⟩
          exact ⟨(nthL x.kids 0).t :: l', by rw [e1, List.map_append, List.append_assoc]; rfl, by rw [hpr, e2]; rfl⟩
      · refine c_exit ?_; (iterate 2 (refine xte ?_)); refine xbe ?_; refine xtn ?_; (iterate 2 (refine c_seq ?_))
        have hkind : x.kind ≠ 4 := by simpa using h4
        refine c_drawD [(0, true), (1, false), (2, false), (3, true)] [] S ?_; clear S; intro w S
        refine dq S ?_; clear S; intro a S; refine dl ?_; refine sc S ?_; clear S; intro a w S; refine de S ?_; refine dl ?_; refine sc S ?_; clear S; intro a w S; refine de S ?_; refine dq S ?_; clear S; intro a S; refine dn ?_; refine xtn ?_
        refine c_cond S (fun h7 => ?_) (fun h7 => ?_)
        · refine c_seq ?_; refine c_region ?_; (iterate 2 (refine sq S ?_; clear S; intro a S)); refine wl_nil ?_; refine xtn ?_; refine c_ret ?_; refine xtr ?_
          have hne : x.t ≠ textT [] := fun e => by
            have : sameF x.t (textL []).t = true := (sameF_iff _ _).2 (by rw [e]; rfl)
            simp [this] at h7
          refine end2 S (fun _ => ?_)
          refine ⟨none, 0, [], false, rfl, Nat.le_refl _, fun w' _ => by simp [LsF, LsIn], by simp, nofun, fun _ => ⟨rfl, fun l h => ?_⟩⟩
          obtain ⟨l', -, e⟩ := (hrel l).1 h
          exact absurd ((listT_kind hkind l').1 e).2 hne
        · refine c_skip ?_; refine xtn ?_; refine c_seq ?_; refine c_region ?_; (iterate 3 (refine sq S ?_; clear S; intro a S)); refine wl_nil ?_; refine xtn ?_; refine c_ret ?_
          have hxe : x.t = textT [] := by
            have : sameF x.t (textL []).t = true := by simpa using h7
            exact (sameF_iff _ _).1 this
          have hrow := S.row p' os.length
          have hnew := S.rowNew p' os.length
          have hall := S.laterFact (Φ := AllI os) (by simp)
          refine end2 S (fun _ => ?_)
          refine ⟨p', c', os, true, rfl, own_le hrow, ?_, by omega, fun _ => ⟨hg, (hrel _).2 ⟨[], by simp, by rw [hxe]; rfl⟩⟩, nofun⟩
          exact (gl_own hrow hall (fun ad h hm => (hnew ad h).elim (fun h => h.elim) (fun h2 => by have := hM _ hm; omega))).imp fun _ h => gl_ls h
def ListR (M : Nat → Prop) (T : Term) (v : Value) (w0 w : World) : Prop := ∃ (b : Nat) (q : Option Addr) (c : Nat) (us : List LTerm), v = .pointer (some ⟨b, 0, none⟩) ∧ Grow w0 w ∧ w0.heap.size ≤ b ∧ (mrI b q c us).holds w ∧ Good T ∧ T = listT (us.map LTerm.t) ∧ us.length ≤ c ∧ us.length ≤ 1200 ∧ Stable (fun k => k = b ∨ M k) w (LsF q 0 us)
theorem mlist_c (t : LTerm) (M : Nat → Prop) (w0 : World) (hM : ∀ k, M k → k < w0.heap.size) (hf : Stable M w0 (LtF t)) :
    RetP Tryz.prog 22 [vL t] w0 (fun _ => False) (fun v w' => ListR M t.t v w0 w') (fun ch _ => ch = pch wrongM ∧ ∀ l, t.t = listT l → ¬ Good t.t) := by
  refine enter Tryz.func22 rfl rfl (Wd.beginM (M := M) (fs := [LtF t]) hM (by simpa using hf)) (fun a S => ?_)
  simp only [Tryz.ntmps22, List.length_cons, List.length_nil, Nat.reduceAdd, Nat.reduceSub, List.replicate_succ, List.replicate_zero, List.cons_append, List.nil_append] at S
  refine c_seq ?_; refine c_region ?_
  refine sa S ?_; clear S; intro b1 a w S
  refine sq S ?_; clear S; intro a S; refine wl_nil ?_; refine xtn ?_; refine c_seq ?_; refine c_region ?_; refine sq S ?_; clear S; intro a S
  refine sr S (unlist3_c t _ w (foots_lt S) (S.t t)) ?_; clear S; rintro _ a w ⟨p, c, os, b0, rfl, hoc, hls, hol, hub1, hub2⟩ S
  replace S := S.add hls
  (iterate 5 (refine sq S ?_; clear S; intro a S)); refine wl_nil ?_; refine xtn ?_; refine c_seq ?_; refine c_region ?_; refine sq S ?_; clear S; intro a S
  refine srP S (mneed_c _ _) (fun ch w' hx S => ?_) ?_
  · obtain ⟨hb, rfl⟩ := hx
    repeat (first | refine xtp ?_ | refine xbp ?_)
    exact endX S ⟨rfl, (hub2 hb).2⟩
  clear S; rintro _ a w hb S
  obtain ⟨hg, htl⟩ := hub1 hb
  refine wl_nil ?_; refine xtn ?_; refine c_seq ?_; refine c_region ?_; (iterate 2 (refine sq S ?_; clear S; intro a S))
  refine sa S ?_; clear S; intro b14 a w S
  refine sq S ?_; clear S; intro a S; refine wl_nil ?_; refine xtn ?_; refine c_ret ?_
  have hbx := S.it (mrI b14 p c os)
  have hbn := S.boxNew b14
  have hfl : Stable (fun k => k = b14 ∨ M k) _ (LsF p 0 os) := (S.wd.facts (LsF p 0 os) (by simp)).less fun k _ hk => hk.elim (fun h => ⟨mrI b14 p c os, by simp, h⟩) (fun h => ⟨ext M, by simp, h⟩)
  have hgr : Grow w0 _ := S.wd.agree
  refine endP (end1 S (fun _ => ?_))
  exact ⟨b14, p, c, os, rfl, hgr, hbn.elim (fun h => h.elim) id, hbx, hg, htl, hoc, hol, hfl⟩
theorem addNew {w0 wp w : World} {M0 : Nat → Prop} {ds dp : List Deferred} {a ap : Act} {l lp : List Value} {bs : List Wk.Item} {fs : List (World → Prop)} (Sp : St w0 M0 dp ap wp lp bs fs) (S : St w0 M0 ds a w l bs fs) (hg : Grow wp w) {y : Wk.Item} [oy : ItOk y] (hy : y.holds w) (hn : ∀ k, y.foot k → wp.heap.size ≤ k) : St w0 M0 ds a w l (y :: bs) fs := by
  have hold := Sp.wd
  refine ⟨S.slots, S.defers, (hold.step hg).more hy (fun k hk => Nat.le_trans hold.agree.size (hn k hk)) (oy.lt w hy) (fun it hi k hk hk' => absurd (hold.lt it hi k hk') (by have := hn k hk; omega)) (fun Φ hΦ w'' hw'' => ?_) oy.loc⟩
  refine hold.facts Φ hΦ w'' ((hg.mono (fun _ _ h => h.elim)).trans' hw'' fun i hi ⟨it, hm, hk⟩ => ?_)
  rcases List.mem_cons.1 hm with rfl | hm
  · exact absurd (hn i hk) (by omega)
  · exact ⟨it, hm, hk⟩
theorem good_lenM {x : LTerm} (h : Good x.t) : x.text.length ≤ 64 := by
  rw [x.t_eq] at h
  have hp := plain_shape (goodP h)
  by_cases hn : x.text = []
  · rw [hn]; simp
  · rcases hp with q | q | q | q | q | q | q
    · exact q.2.2.2.1
    all_goals exact absurd (by first | exact q.2.2.2.1 | exact q.2.2.2.2.1 | exact q.2.2.2.2.2.1) hn
def NumsR (b : Nat) (q : Option Addr) (us : List LTerm) (Mr : Nat → Prop) (v : Value) (w : World) : Prop := ∃ (l : List Int) (p : Option Addr) (cl : Nat) (x : LTerm) (us' : List LTerm) (q' : Option Addr) (c' : Nat), us = x :: us' ∧ v = .slice p l.length cl ∧ okI l ∧ x.t = numsT l ∧ l.length ≤ cl ∧ cl ≤ maxLen ∧ l.length ≤ 1200 ∧ (mrI b q' c' us').holds w ∧ us'.length ≤ c' ∧ (∀ w, LsF q 0 us w → LsF q' 0 us' w) ∧ Stable (fun k => (mrI b q' c' us').foot k ∨ Mr k) w (GlF p l)
theorem mnums_c (b : Nat) (q : Option Addr) (c : Nat) (us : List LTerm) (Mr : Nat → Prop) (w0 : World) (hc : us.length ≤ c) (hl : us.length ≤ 1000000) (hMr : ∀ k, Mr k → k < w0.heap.size ∧ ¬ (mrI b q c us).foot k) (hlib : Stable (fun k => (mrI b q c us).foot k ∨ Mr k) w0 LibF) (hd : (mrI b q c us).holds w0) (hf : Stable (fun k => (mrI b q c us).foot k ∨ Mr k) w0 (LsF q 0 us)) :
    RetP Tryz.prog 26 [.pointer (some ⟨b, 0, none⟩)] w0 (mrI b q c us).foot (fun v w' => NumsR b q us Mr v w') (fun ch _ => ch = pch wrongM ∧ ∀ l x us', us = x :: us' → okI l → Good x.t → x.t ≠ numsT l) := by
  refine enter Tryz.func26 rfl rfl (Wd.itLentM (x := mrI b q c us) (Mr := Mr) (fs := [LibF, LsF q 0 us]) hd hMr (by simp; exact ⟨hlib, hf⟩)) (fun a S => ?_)
  simp only [Tryz.ntmps26, List.length_cons, List.length_nil, Nat.reduceAdd, Nat.reduceSub, List.replicate_succ, List.replicate_zero, List.cons_append, List.nil_append] at S
  refine c_seq ?_; refine c_region ?_; refine sq S ?_; clear S; intro a S; refine wl_nil ?_; refine xtn ?_; refine c_seq ?_; refine c_region ?_; refine sq S ?_; clear S; intro a S
  refine sitMP (mrI b q c us) S (mnext_c b q c us _ hc hl (S.it (mrI b q c us)) (S.lend (mrI b q c us) (S.mem.fact (LsF q 0 us)))) rfl (fun ch w' hx hS => ?_) ?_
  · have S := hS
    clear hS
    obtain ⟨rfl, rfl⟩ := hx
    repeat (first | refine xtp ?_ | refine xbp ?_)
    refine endX S ⟨rfl, fun l x us' h => by cases h⟩
  clear S; rintro _ a w ⟨x, us', q', c', rfl, rfl, hh, hc', hls⟩ hS
  have S := hS (mrI b q' c' us') [] hh (fun k h => .inl h) (by simp)
  clear hS
  have hfx : Stable (foots _) _ (LtF x) := (S.mem.fact (LsF q 0 (x :: us'))).imp fun _ h => (LsIn.get h (k := 0) rfl).2
  have Sp := S
  refine srP S (mlist_c x _ w (foots_lt S) hfx) (fun ch w' hx S => ?_) ?_
  · obtain ⟨rfl, hno⟩ := hx
    repeat (first | refine xtp ?_ | refine xbp ?_)
    refine endX S ⟨rfl, fun l x1 us1 h hok hg he => ?_⟩
    injection h with h1 h2
    subst h1
    exact hno _ he hg
  clear S hfx; rintro _ a w ⟨b2, q2, c2, vs, rfl, hgr, hbn, hb2, hg, htl, hvc, hvl, hvs⟩ S
  replace S := addNew (y := mrI b2 q2 c2 vs) Sp S hgr hb2 (fun k hk => by obtain rfl : k = b2 := hk; exact hbn)
  clear Sp
  replace S := S.add (Φ := LsF q2 0 vs) (hvs.less fun k _ ⟨it, hi, hk⟩ => by
    rcases List.mem_cons.1 hi with rfl | hi
    · exact .inl hk
    · exact .inr ⟨it, hi, hk⟩)
  have hgo : ∀ y ∈ vs, Good y.t := fun y hy => list_good hg htl (List.mem_map.2 ⟨y, hy, rfl⟩)
  refine sq S ?_; clear S; intro a S; refine wl_nil ?_; refine xtn ?_; refine c_seq ?_; refine c_region ?_; refine sq S ?_; clear S; intro a S; refine wl_nil ?_; refine xtn ?_; refine c_seq ?_; refine c_block ?_
  refine c_fore6 S (fun (l : List Int) (ys : List LTerm) (q3 : Option Addr) (c3 : Nat) (p : Option Addr) (cl : Nat) uu => [(4, .slice p l.length cl), (3, uu 8), (0, uu 9), (0, uu 10), (0, uu 11), (0, uu 12), (0, uu 13), (0, uu 14), (0, uu 15), (0, uu 16), (0, uu 17), (0, uu 18)]) (fun (l : List Int) (ys : List LTerm) (q3 : Option Addr) (c3 : Nat) (p : Option Addr) (cl : Nat) => [Wk.row 3 1 p l.length cl (encL l), mrI b2 q3 c3 ys, mrI b q' c' us', ext Mr]) (fun (l : List Int) (ys : List LTerm) (q3 : Option Addr) (c3 : Nat) (p : Option Addr) (cl : Nat) => [LsF q3 0 ys, LibF]) (fun (l : List Int) (ys : List LTerm) (q3 : Option Addr) (c3 : Nat) (p : Option Addr) (cl : Nat) => okI l ∧ vs.map LTerm.t = l.map digT ++ ys.map LTerm.t ∧ ys.length ≤ c3 ∧ l.length + ys.length = vs.length ∧ ∀ y ∈ ys, y ∈ vs) (fun (l : List Int) (ys : List LTerm) (q3 : Option Addr) (c3 : Nat) (p : Option Addr) (cl : Nat) => ys.length) ([]) (vs) (q2) (c2) (none) (0) ?_ S.uu ?_ ?_
  · exact ⟨nofun, rfl, hvc, by simp, fun y hy => hy⟩
  · replace S := S.addNil 3 1
    rw [show Wk.row 3 1 none 0 0 [] = Wk.row 3 1 none 0 0 (encL ([] : List Int)) from rfl] at S
    exact S.sub _ _
  · clear S; rintro l ys q3 c3 p cl uu a w ⟨hok, hmap, hyc, hyl, hyv⟩ S
    (iterate 2 (refine c_seq ?_)); refine c_region ?_; (iterate 6 (refine sq S ?_; clear S; intro a S)); refine wl_nil ?_; refine xtn ?_
    refine c_cond S (fun h3 => ?_) (fun h3 => ?_)
    · refine c_skip ?_; refine xtn ?_; refine c_block ?_
      have hpos : 0 < ys.length := by simpa using h3
      refine c_region ?_; (iterate 2 (refine sq S ?_; clear S; intro a S))
      refine sitMP (mrI b2 q3 c3 ys) S (mnum_c b2 q3 c3 ys _ hyc (by omega) (fun y hy => by have := good_lenM (hgo y (hyv y hy)); omega) (S.lend (mrI b2 q3 c3 ys) (S.mem.fact LibF)) (S.it (mrI b2 q3 c3 ys)) (S.lend (mrI b2 q3 c3 ys) (S.mem.fact (LsF q3 0 ys)))) rfl (fun ch w' hx hS => ?_) ?_
      · have S := hS
        clear hS
        obtain ⟨rfl, hno⟩ := hx
        repeat (first | refine xtp ?_ | refine xbp ?_)
        refine endX S ⟨rfl, fun l1 x1 us1 h hok1 hg1 he => ?_⟩
        injection h with h1 h2
        subst h1
        rw [htl, numsT] at he
        have he2 := listT_injM he
        match ys, hpos with
        | y :: ys, _ =>
          have hm : y.t ∈ l1.map digT := by rw [← he2, hmap]; simp
          obtain ⟨n, hn1, hn2⟩ := List.mem_map.1 hm
          exact hno n y ys rfl (hok1 n hn1) hn2.symm
      clear S; rintro _ a w ⟨n, y, ys', q4, c4, rfl, rfl, hn, hy, hh, hc4, hls4⟩ hS
      have S := hS (mrI b2 q4 c4 ys') [] hh (fun k h => .inl h) (by simp)
      clear hS
      replace S := S.add (Φ := LsF q4 0 ys') ((S.mem.fact (LsF q3 0 (y :: ys'))).imp fun w h => hls4 w h)
      refine sn S ?_; clear S; intro b17 a w S
      refine sap S (by simp [maxLen]; omega) (by omega) ?_; clear S; rintro p4 c5 a w - S
      rw [show encL l ++ [Value.int .i64 n] = encL (l ++ [n]) from by rw [encL_append]; rfl, show l.length + 1 = (l ++ [n]).length from by simp] at S
      refine sq S ?_; clear S; intro a S; refine wl_nil ?_; refine xbn ?_; refine xtn ?_
      refine ⟨l ++ [n], ys', q4, c4, p4, c5, S.uu, ⟨fun z hz => ?_, by rw [hmap, List.map_append]; simp [hy], hc4, by simp at hyl ⊢; omega, fun z hz => hyv z (by simp [hz])⟩, S.sub _ _, by simp⟩
      rcases List.mem_append.1 hz with hz | hz
      · exact hok z hz
      · rw [List.mem_singleton.1 hz]; exact hn
    · refine c_exit ?_; (iterate 2 (refine xte ?_)); refine xbe ?_; refine xtn ?_; refine c_seq ?_; refine c_region ?_; (iterate 2 (refine sq S ?_; clear S; intro a S)); refine wl_nil ?_; refine xtn ?_; refine c_ret ?_
      have hys : ys = [] := by
        cases ys with
        | nil => rfl
        | cons y ys => simp at h3
      subst hys
      have hle := own_le (S.row p l.length)
      have hcm := own_capM (S.row p l.length)
      replace S := S.rowToGl p l (e := 3) (sz := 1) (n := l.length) (c := cl) (fun _ _ _ _ => trivial)
      have hbx := S.it (mrI b q' c' us')
      have hfl : Stable (fun k => (mrI b q' c' us').foot k ∨ Mr k) _ (GlF p l) := (S.wd.facts (GlF p l) (by simp)).less fun k _ hk => hk.elim (fun h => ⟨mrI b q' c' us', by simp, h⟩) (fun h => ⟨ext Mr, by simp, h⟩)
      refine endP (end1 S (fun _ => ?_))
      exact ⟨l, p, cl, x, us', q', c', rfl, rfl, hok, by rw [htl, hmap]; simp [numsT], hle, hcm, by simp at hyl; omega, hbx, hc', hls, hfl⟩
def kindM : Term → Int | .mk k _ _ _ _ => k
theorem kindT_eq (t : LTerm) : kindM t.t = t.kind := by rw [t.t_eq]; rfl
theorem text_inM (s : List UInt8) (w : World) : LtIn w (textL s) := by simp [textL, LtIn, LsIn]
abbrev ptrM (b : Nat) : Value := .pointer (some ⟨b, 0, none⟩)
abbrev defM (b2 b3 b4 : Nat) : Deferred := { target := .fn (.func 20) ⟨[ptrM b2, ptrM b3, ptrM b4]⟩, args := #[] }
abbrev zMeta0 : List Value := [.string ⟨#[]⟩, .int .i64 0, .int .i64 0, .int .i64 0, .slice none 0 0, .slice none 0 0, .slice none 0 0, .slice none 0 0, .int .i64 0, .int .i64 0, .int .i64 0, .string ⟨#[]⟩, .slice none 0 0]
abbrev bxM (b2 b3 b4 : Nat) (cs : List Value) : List Wk.Item := [Wk.box b4 33 [.int .i64 0], Wk.box b3 3 [.int .i64 0], Wk.box b2 32 cs]
abbrev zL : Sl Int := ⟨none, 0, []⟩
abbrev zM : LMeta := ⟨[], 0, ⟨0, 0, zL, zL, zL⟩, ⟨none, 0, []⟩, zeroL⟩
theorem zM_in (w : World) : InF zM w := ⟨⟨⟨Nat.le_refl _, Nat.zero_le _, gl_nil⟩, ⟨Nat.le_refl _, Nat.zero_le _, gl_nil⟩, ⟨Nat.le_refl _, Nat.zero_le _, gl_nil⟩⟩, ⟨Nat.le_refl _, Nat.zero_le _, gl_nil⟩, zeroL_in _⟩
theorem mread_pan {a : Act} {w0 w : World} {M0 : Nat → Prop} {Rr : Ending → World → Prop} (b2 b3 b4 : Nat) (x0 x1 x2 x3 x4 x5 x6 x7 x8 x9 x10 x11 x12 y z : Value) (hd : a.defers = [defM b2 b3 b4]) (h2 : a.tmps[2]? = some (ptrM b2)) (h3 : a.tmps[3]? = some (ptrM b3)) (h4 : a.tmps[4]? = some (ptrM b4))
    (hw : Wd w0 M0 w [Wk.box b4 33 [z], Wk.box b3 3 [y], Wk.box b2 32 [x0, x1, x2, x3, x4, x5, x6, x7, x8, x9, x10, x11, x12]] [])
    (hR : ∀ w', Agree M0 w0 w' → Rr (.returned (.tuple ⟨[.agg ⟨zMeta⟩, .int .i64 0, .int .i64 251]⟩)) w') : bodyPostDIn (FW none) 0 Tryz.prog Tryz.f8 Rr (.panic (pch wrongM)) a w := by
  refine leavePan (ca := [ptrM b2, ptrM b3, ptrM b4]) hd (mcatch_pan b2 b3 b4 x0 x1 x2 x3 x4 x5 x6 x7 x8 x9 x10 x11 x12 y z w0 w M0 hw) fun w' hK => ⟨_, ?_, hR w' hK.agree⟩
  have n2 : Nth a.tmps.toList 2 (ptrM b2) := ⟨by simpa using h2⟩
  have n3 : Nth a.tmps.toList 3 (ptrM b3) := ⟨by simpa using h3⟩
  have n4 : Nth a.tmps.toList 4 (ptrM b4) := ⟨by simpa using h4⟩
  exact res3 (l := a.tmps.toList) rfl hK.held
theorem map_cons_inv {us : List LTerm} {a : Term} {ts : List Term} (h : us.map LTerm.t = a :: ts) : ∃ y ys, us = y :: ys ∧ y.t = a ∧ ys.map LTerm.t = ts := by
  cases us with
  | nil => simp at h
  | cons y ys => simp only [List.map_cons, List.cons.injEq] at h; exact ⟨y, ys, rfl, h.1, h.2⟩
theorem risF_ok {q : Int → Bool} (hq : ∀ x, q x = true → 0 ≤ x ∧ x ≤ 9999) {l : List Int} (h : risF q none l = true) : okI l := fun x hx => hq x ((risF_all q l none h).1 x hx)
theorem metOk_rng {m : Met} (h : metOk m) : (1 ≤ m.version ∧ m.version ≤ 9999) ∧ (1 ≤ m.owner ∧ m.owner ≤ 6) ∧ (1 ≤ m.epoch ∧ m.epoch ≤ 8) ∧ okI m.rd ∧ okI m.wr ∧ okI m.gr ∧ (∀ l ∈ m.past, okI l) ∧ nameB m.name = true := by
  obtain ⟨h1, h2, -⟩ := h
  simp only [headM, permLM, Bool.and_eq_true] at h1
  obtain ⟨⟨⟨⟨q0, q1⟩, q2⟩, q3⟩, _⟩ := h1
  obtain ⟨⟨⟨⟨⟨⟨q4, q5⟩, q6⟩, q7⟩, q8⟩, q9⟩, _⟩ := q3
  have hu : ∀ (no x : Int), (okU x && decide (x ≠ no)) = true → 0 ≤ x ∧ x ≤ 9999 := fun no x hx => by
    simp only [okU, Bool.and_eq_true, decide_eq_true_eq] at hx
    omega
  have ho : 1 ≤ m.owner ∧ m.owner ≤ 6 := by
    simp only [okU, Bool.and_eq_true, decide_eq_true_eq] at q4
    exact q4
  refine ⟨⟨of_decide_eq_true q1, of_decide_eq_true q2⟩, ho, ⟨of_decide_eq_true q5, of_decide_eq_true q6⟩, risF_ok (hu _) q7, risF_ok (hu _) q8, risF_ok (fun x hx => ?_) q9, fun l hl => risF_ok (hu m.owner) (h2 l hl), q0⟩
  simp only [okG, Bool.and_eq_true, decide_eq_true_eq] at hx
  omega
theorem numsT_inj : ∀ {a b : List Int}, okI a → okI b → numsT a = numsT b → a = b := fun {a b} ha hb h => by
  have h1 := listT_injM h
  clear h
  induction a generalizing b with
  | nil => cases b with
    | nil => rfl
    | cons y ys => simp at h1
  | cons x xs ih => cases b with
    | nil => simp at h1
    | cons y ys =>
      simp only [List.map_cons, List.cons.injEq] at h1
      have k1 := ha x (by simp)
      have k2 := hb y (by simp)
      rw [digT_inj ⟨k1.1, by omega⟩ ⟨k2.1, by omega⟩ h1.1, ih (fun z hz => ha z (by simp [hz])) (fun z hz => hb z (by simp [hz])) h1.2]
theorem numsT_injL : ∀ {a b : List (List Int)}, (∀ l ∈ a, okI l) → (∀ l ∈ b, okI l) → a.map numsT = b.map numsT → a = b
  | [], [], _, _, _ => rfl
  | [], y :: ys, _, _, h => by simp at h
  | x :: xs, [], _, _, h => by simp at h
  | x :: xs, y :: ys, ha, hb, h => by
    simp only [List.map_cons, List.cons.injEq] at h
    rw [numsT_inj (ha x (by simp)) (hb y (by simp)) h.1, numsT_injL (fun l hl => ha l (by simp [hl])) (fun l hl => hb l (by simp [hl])) h.2]
theorem i64_ok {l : List Int} (h : okI l) : I64s l := fun x hx => by have := h x hx; omega
def MReadR (M : Nat → Prop) (T : Term) (v : Value) (w : World) : Prop := ∃ (m : LMeta) (leaf e : Int), v = .tuple ⟨[vMeta m, .int .i64 leaf, .int .i64 e]⟩ ∧ Stable M w (InF m) ∧ FitMeta m ∧ IntMeta m ∧
  (e = 0 → metOk m.m ∧ T = metaT m.m leaf ∧ Good T) ∧ (e ≠ 0 → e = 251 ∧ leaf = 0 ∧ m = zM ∧ ∀ m leaf, metOk m → T = metaT m leaf → ¬ Good T)
set_option maxHeartbeats 4000000 in
theorem mread_c (t : LTerm) (M : Nat → Prop) (w0 : World) (hM : ∀ k, M k → k < w0.heap.size) (ht : Stable M w0 LibF) (hf : Stable M w0 (LtF t)) : Ret Tryz.prog 8 [vL t] w0 (fun _ => False) fun v w' => MReadR M t.t v w' := by
  have hbad : ∀ (w' : World), (∀ m leaf, metOk m → t.t = metaT m leaf → ¬ Good t.t) → MReadR M t.t (.tuple ⟨[.agg ⟨zMeta⟩, .int .i64 0, .int .i64 251]⟩) w' := fun w' h => ⟨zM, 0, 251, rfl, fun w _ => zM_in w, ⟨by simp, by simp, by simp, by simp, by simp, by simp⟩, ⟨nofun, nofun, nofun, nofun⟩, nofun, fun _ => ⟨rfl, rfl, rfl, h⟩⟩
  refine enterD Tryz.func8 rfl rfl (Wd.beginM (M := M) (fs := [LibF, LtF t]) hM (by simp; exact ⟨ht, hf⟩)) (fun a S => ?_)
  simp only [Tryz.ntmps8, List.length_cons, List.length_nil, Nat.reduceAdd, Nat.reduceSub, List.replicate_succ, List.replicate_zero, List.cons_append, List.nil_append] at S
  refine c_seq ?_; refine c_region ?_
  refine sa S ?_; clear S; intro b1 a w S
  refine sa S ?_; clear S; intro b2 a w S
  refine sa S ?_; clear S; intro b3 a w S
  refine sa S ?_; clear S; intro b4 a w S
  refine wl_nil ?_; refine xtn ?_; refine c_seq ?_; refine c_region ?_; refine sq S ?_; clear S; intro a S; refine sdef S ?_; clear S; intro a S; refine wl_nil ?_; refine xtn ?_; refine c_seq ?_; refine c_region ?_; refine sq S ?_; clear S; intro a S; refine sc S ?_; clear S; intro a w S; (iterate 2 (refine sq S ?_; clear S; intro a S)); (iterate 3 (refine gQ S ?_; clear S; intro a S)); refine sq S ?_; clear S; intro a S
  refine srP S (mneed_c _ _) (fun ch w' hx S => ?_) ?_
  · obtain ⟨hb, rfl⟩ := hx
    refine mread_pan b2 b3 b4 _ _ _ _ _ _ _ _ _ _ _ _ _ _ _ S.defers (by rw [S.slots]; rfl) (by rw [S.slots]; rfl) (by rw [S.slots]; rfl) (S.sub (bxM b2 b3 b4 zMeta0) []).wd (fun w' ha => ⟨_, rfl, ha, hbad w' fun m1 leaf1 hm1 he1 hg1 => ?_⟩)
    have e1 : t.kind = 8 := by rw [← kindT_eq, he1]; rfl
    rw [good_check.2 hg1, e1] at hb; simp at hb
  clear S; rintro _ a w hb S
  have hg : Good t.t ∧ t.kind = 8 := by
    have : checkF t.t = 0 ∧ t.kind = 8 := by simpa using hb
    exact ⟨good_check.1 this.1, this.2⟩
  obtain ⟨hkl1, hst, hu1, hn1⟩ := good_signK hg.1 hg.2
  have hK0 : KLt 0 t.kids.length := ⟨by omega⟩
  clear hb
  refine wl_nil ?_; refine xtn ?_; refine c_seq ?_; refine c_region ?_; (iterate 4 (refine sq S ?_; clear S; intro a S))
  have Sp := S
  refine srP S (mlist_c (nthL t.kids 0) _ w (foots_lt S) (S.t (nthL t.kids 0))) (fun ch w' hx S => ?_) ?_
  · obtain ⟨rfl, hno⟩ := hx
    refine mread_pan b2 b3 b4 _ _ _ _ _ _ _ _ _ _ _ _ _ _ _ S.defers (by rw [S.slots]; rfl) (by rw [S.slots]; rfl) (by rw [S.slots]; rfl) (S.sub (bxM b2 b3 b4 zMeta0) []).wd (fun w' ha => ⟨_, rfl, ha, hbad w' fun m1 leaf1 hm1 he1 hg1 => ?_⟩)
    rw [hst, metaT, signT] at he1
    injection he1 with _ _ _ _ he2
    injection he2 with he2 _
    refine hno _ he2 ?_
    have hg' := hg.1
    rw [hst] at hg'
    exact good_kid hg' (by simp)
  clear S; rintro _ a w ⟨b22, q0, c0, us0, rfl, hgr, hbn, hb2, hgk, htl, hc0, hvl, hvs⟩ S
  replace S := addNew (y := mrI b22 q0 c0 us0) Sp S hgr hb2 (fun k hk => by obtain rfl : k = b22 := hk; exact hbn)
  clear Sp hb2
  replace S := S.add (Φ := LsF q0 0 us0) (hvs.less fun k _ ⟨it, hi, hk⟩ => by
    rcases List.mem_cons.1 hi with rfl | hi
    · exact .inl hk
    · exact .inr ⟨it, hi, hk⟩)
  have hl0 : us0.length ≤ 1000000 := by omega
  have hgo : ∀ y ∈ us0, Good y.t := fun y hy => list_good hgk htl (List.mem_map.2 ⟨y, hy, rfl⟩)
  have hfull : ∀ m1 leaf1, t.t = metaT m1 leaf1 → us0.map LTerm.t = metaL m1 ∧ m1.owner = t.user ∧ leaf1 = t.num := fun m1 leaf1 he => by
    rw [hst, metaT, signT] at he
    injection he with _ h2 h3 _ h5
    injection h5 with h5 _
    exact ⟨listT_injM (htl.symm.trans h5), h2.symm, h3.symm⟩
  have hshort : ∀ (k : Nat) m1 leaf1, metOk m1 → t.t = metaT m1 leaf1 → k < 10 → us0.length = k → False := fun k m1 leaf1 _ he hk hl => by
    have := congrArg List.length (hfull m1 leaf1 he).1
    rw [List.length_map, hl] at this
    simp [metaL] at this
    omega
  refine sq S ?_; clear S; intro a S; refine wl_nil ?_; refine xtn ?_; refine c_seq ?_; refine c_region ?_; refine sq S ?_; clear S; intro a S
  refine sitMP (mrI b22 q0 c0 us0) S (mnext_c b22 q0 c0 us0 _ hc0 hl0 (S.it (mrI b22 q0 c0 us0)) (S.lend (mrI b22 q0 c0 us0) (S.mem.fact (LsF q0 0 us0)))) rfl (fun ch w' hx hS => ?_) ?_
  · have S := hS
    clear hS
    obtain ⟨rfl, hnil⟩ := hx
    refine mread_pan b2 b3 b4 _ _ _ _ _ _ _ _ _ _ _ _ _ _ _ S.defers (by rw [S.slots]; rfl) (by rw [S.slots]; rfl) (by rw [S.slots]; rfl) (S.sub (bxM b2 b3 b4 zMeta0) []).wd (fun w' ha => ⟨_, rfl, ha, hbad w' fun m1 leaf1 hm1 he1 hg1 => ?_⟩)
    exact hshort 0 m1 leaf1 hm1 he1 (by omega) (by rw [hnil]; rfl)
  clear S; rintro _ a w ⟨x0, us1, q1, c1, hus0, rfl, hh, hc1, hls⟩ hS
  have S := hS (mrI b22 q1 c1 us1) [] hh (fun k h => .inl h) (by simp)
  clear hS hh
  have hin1 : ∀ y ∈ us1, y ∈ us0 := fun y hy => by rw [hus0]; simp [hy]
  have hl1 : us1.length ≤ 1000000 := by rw [hus0] at hl0; simp at hl0; omega
  replace S := S.add (Φ := LsF q1 0 us1) ((S.mem.fact (LsF q0 0 us0)).imp fun w h => hls w h)
  replace S := S.add (Φ := LtF x0) ((S.mem.fact (LsF q0 0 us0)).imp fun w h => by rw [hus0] at h; exact (LsIn.get h (k := 0) rfl).2)
  clear hls
  refine sc S ?_; clear S; intro a w S
  replace S := S.add (Φ := LtF (textL [109, 101, 116, 97])) (fun w _ => text_inM _ w)
  refine sc S ?_; clear S; intro a w S
  refine srP S (mneed_c _ _) (fun ch w' hx S => ?_) ?_
  · obtain ⟨hb, rfl⟩ := hx
    refine mread_pan b2 b3 b4 _ _ _ _ _ _ _ _ _ _ _ _ _ _ _ S.defers (by rw [S.slots]; rfl) (by rw [S.slots]; rfl) (by rw [S.slots]; rfl) (S.sub (bxM b2 b3 b4 zMeta0) []).wd (fun w' ha => ⟨_, rfl, ha, hbad w' fun m1 leaf1 hm1 he1 hg1 => ?_⟩)
    have h0 := (hfull m1 leaf1 he1).1
    rw [hus0, metaL] at h0
    injection h0 with h0 _
    rw [(sameF_iff x0.t (textL [109, 101, 116, 97]).t).2 h0] at hb
    cases hb
  clear S; rintro _ a w hb S
  have hx0 : x0.t = textT metaS := (sameF_iff _ _).1 hb
  clear hb
  refine wl_nil ?_; refine xtn ?_; refine c_seq ?_; refine c_region ?_; refine sq S ?_; clear S; intro a S
  refine sitMP (mrI b22 q1 c1 us1) S (mnext_c b22 q1 c1 us1 _ hc1 hl1 (S.it (mrI b22 q1 c1 us1)) (S.lend (mrI b22 q1 c1 us1) (S.mem.fact (LsF q1 0 us1)))) rfl (fun ch w' hx hS => ?_) ?_
  · have S := hS
    clear hS
    obtain ⟨rfl, hnil⟩ := hx
    refine mread_pan b2 b3 b4 _ _ _ _ _ _ _ _ _ _ _ _ _ _ _ S.defers (by rw [S.slots]; rfl) (by rw [S.slots]; rfl) (by rw [S.slots]; rfl) (S.sub (bxM b2 b3 b4 zMeta0) []).wd (fun w' ha => ⟨_, rfl, ha, hbad w' fun m1 leaf1 hm1 he1 hg1 => ?_⟩)
    exact hshort 1 m1 leaf1 hm1 he1 (by omega) (by rw [hus0, hnil]; rfl)
  clear S; rintro _ a w ⟨x1, us2, q2, c2, hus1, rfl, hh, hc2, hls⟩ hS
  have S := hS (mrI b22 q2 c2 us2) [] hh (fun k h => .inl h) (by simp)
  clear hS hh
  have hin2 : ∀ y ∈ us2, y ∈ us0 := fun y hy => hin1 y (by rw [hus1]; simp [hy])
  have hl2 : us2.length ≤ 1000000 := by rw [hus1] at hl1; simp at hl1; omega
  replace S := S.add (Φ := LsF q2 0 us2) ((S.mem.fact (LsF q1 0 us1)).imp fun w h => hls w h)
  replace S := S.add (Φ := LtF x1) ((S.mem.fact (LsF q1 0 us1)).imp fun w h => by rw [hus1] at h; exact (LsIn.get h (k := 0) rfl).2)
  clear hls
  refine sa S ?_; clear S; intro b6 a w S
  refine sw S ?_; clear S; intro a w S; refine wl_nil ?_; refine xtn ?_; refine c_seq ?_; refine c_region ?_; (iterate 3 (refine sq S ?_; clear S; intro a S))
  refine srP S (mneed_c _ _) (fun ch w' hx S => ?_) ?_
  · obtain ⟨hb, rfl⟩ := hx
    refine mread_pan b2 b3 b4 _ _ _ _ _ _ _ _ _ _ _ _ _ _ _ S.defers (by rw [S.slots]; rfl) (by rw [S.slots]; rfl) (by rw [S.slots]; rfl) (S.sub (bxM b2 b3 b4 zMeta0) []).wd (fun w' ha => ⟨_, rfl, ha, hbad w' fun m1 leaf1 hm1 he1 hg1 => ?_⟩)
    have h0 := (hfull m1 leaf1 he1).1
    rw [hus0, metaL] at h0
    simp only [List.map_cons, List.cons.injEq] at h0
    obtain ⟨-, h0⟩ := h0
    rw [hus1] at h0
    simp only [List.map_cons, List.cons.injEq] at h0
    have h1 : x1.kind = 1 := by rw [← kindT_eq, h0.1]; rfl
    simp [h1] at hb
  clear S; rintro _ a w hb S
  have hx1k : x1.kind = 1 := by simpa using hb
  have hg1 : Good x1.t := hgo x1 (hin1 x1 (by rw [hus1]; simp))
  have t1 := good_textK hg1 hx1k
  clear hb
  refine wl_nil ?_; refine xtn ?_; refine c_seq ?_
  refine c_drawX [(0, true), (1, true), (2, true), (4, true), (3, false), (5, false), (6, true), (7, false)] [b22, b2] (⟨[(2, ptrM b2), (3, ptrM b3), (4, ptrM b4)], [defM b2 b3 b4], fun ch w => ch = pch wrongM ∧ Wd w0 (fun _ => False) w (bxM b2 b3 b4 zMeta0) [] ∧ ∀ m leaf, metOk m → t.t = metaT m leaf → ¬ Good t.t⟩) S (fun ch a w ⟨hk, hd, hch, hw, hx⟩ => by subst hch; exact mread_pan b2 b3 b4 _ _ _ _ _ _ _ _ _ _ _ _ _ _ _ hd (hk (2, ptrM b2) (by simp)) (hk (3, ptrM b3) (by simp)) (hk (4, ptrM b4) (by simp)) hw (fun w' ha => ⟨_, rfl, ha, hbad w' hx⟩)) ?_; clear S; intro w S
  (iterate 4 (refine dqX S ?_; clear S; intro a S)); refine dlX ?_
  refine sitMP (mrI b22 q2 c2 us2) S (mnum_c b22 q2 c2 us2 _ hc2 hl2 (fun y hy => by have := good_lenM (hgo y (hin2 y hy)); omega) (S.lend (mrI b22 q2 c2 us2) (S.mem.fact LibF)) (S.it (mrI b22 q2 c2 us2)) (S.lend (mrI b22 q2 c2 us2) (S.mem.fact (LsF q2 0 us2)))) rfl (fun ch w' hx hS => ?_) ?_
  · have S := hS
    clear hS
    obtain ⟨rfl, hno⟩ := hx
    refine XP.of S (fun p hp => by simp at hp; rcases hp with rfl | rfl | rfl <;> rfl) rfl ⟨rfl, (S.sub (bxM b2 b3 b4 zMeta0) []).wd, fun m1 leaf1 hm1 he1 hg1 => ?_⟩
    have h0 := (hfull m1 leaf1 he1).1
    rw [hus0, hus1, metaL] at h0
    simp only [List.map_cons, List.cons.injEq] at h0
    obtain ⟨-, -, h0⟩ := h0
    obtain ⟨y, ys, hy1, hy2, -⟩ := map_cons_inv h0
    have hrg := metOk_rng hm1
    exact hno _ y ys hy1 ⟨by omega, by omega⟩ hy2
  clear S; rintro _ a w ⟨n2, x2, us3, q3, c3, hus2, rfl, hn2, hx2, hh, hc3, hls⟩ hS
  have S := hS (mrI b22 q3 c3 us3) [] hh (fun k h => .inl h) (by simp)
  clear hS hh
  have hl3 : us3.length ≤ 1000000 := by rw [hus2] at hl2; simp at hl2; omega
  have hin3 : ∀ y ∈ us3, y ∈ us0 := fun y hy => hin2 y (by rw [hus2]; simp [hy])
  replace S := S.add (Φ := LsF q3 0 us3) ((S.mem.fact (LsF q2 0 us2)).imp fun w h => hls w h)
  clear hls
  refine deX S ?_; refine dlX ?_; refine sw S ?_; clear S; intro a w S; refine deX S ?_; refine dqX S ?_; clear S; intro a S; refine dlX ?_; refine sw S ?_; clear S; intro a w S; refine deX S ?_; refine dnX ?_; refine xtn ?_; refine c_seq ?_; refine c_region ?_; refine sq S ?_; clear S; intro a S
  refine sitMP (mrI b22 q3 c3 us3) S (mnum_c b22 q3 c3 us3 _ hc3 hl3 (fun y hy => by have := good_lenM (hgo y (hin3 y hy)); omega) (S.lend (mrI b22 q3 c3 us3) (S.mem.fact LibF)) (S.it (mrI b22 q3 c3 us3)) (S.lend (mrI b22 q3 c3 us3) (S.mem.fact (LsF q3 0 us3)))) rfl (fun ch w' hx hS => ?_) ?_
  · have S := hS
    clear hS
    obtain ⟨rfl, hno⟩ := hx
    refine mread_pan b2 b3 b4 _ _ _ _ _ _ _ _ _ _ _ _ _ _ _ S.defers (by rw [S.slots]; rfl) (by rw [S.slots]; rfl) (by rw [S.slots]; rfl) (S.sub (bxM b2 b3 b4 [str x1.text, .int .i64 n2, .int .i64 0, .int .i64 0, .slice none 0 0, .slice none 0 0, .slice none 0 0, .slice none 0 0, .int .i64 0, .int .i64 0, .int .i64 0, .string ⟨#[]⟩, .slice none 0 0]) []).wd (fun w' ha => ⟨_, rfl, ha, hbad w' fun m1 leaf1 hm1 he1 hg1 => ?_⟩)
    have h0 := (hfull m1 leaf1 he1).1
    rw [hus0, hus1, hus2, metaL] at h0
    simp only [List.map_cons, List.cons.injEq] at h0
    obtain ⟨-, -, -, h0⟩ := h0
    obtain ⟨y, ys, hy1, hy2, -⟩ := map_cons_inv h0
    have hrg := metOk_rng hm1
    exact hno _ y ys hy1 ⟨by omega, by omega⟩ hy2
  clear S; rintro _ a w ⟨n3, x3, us4, q4, c4, hus3, rfl, hn3, hx3, hh, hc4, hls⟩ hS
  have S := hS (mrI b22 q4 c4 us4) [] hh (fun k h => .inl h) (by simp)
  clear hS hh
  have hl4 : us4.length ≤ 1000000 := by rw [hus3] at hl3; simp at hl3; omega
  have hin4 : ∀ y ∈ us4, y ∈ us0 := fun y hy => hin3 y (by rw [hus3]; simp [hy])
  replace S := S.add (Φ := LsF q4 0 us4) ((S.mem.fact (LsF q3 0 us3)).imp fun w h => hls w h)
  clear hls
  refine sq S ?_; clear S; intro a S
  refine sitMP (mrI b22 q4 c4 us4) S (mnum_c b22 q4 c4 us4 _ hc4 hl4 (fun y hy => by have := good_lenM (hgo y (hin4 y hy)); omega) (S.lend (mrI b22 q4 c4 us4) (S.mem.fact LibF)) (S.it (mrI b22 q4 c4 us4)) (S.lend (mrI b22 q4 c4 us4) (S.mem.fact (LsF q4 0 us4)))) rfl (fun ch w' hx hS => ?_) ?_
  · have S := hS
    clear hS
    obtain ⟨rfl, hno⟩ := hx
    refine mread_pan b2 b3 b4 _ _ _ _ _ _ _ _ _ _ _ _ _ _ _ S.defers (by rw [S.slots]; rfl) (by rw [S.slots]; rfl) (by rw [S.slots]; rfl) (S.sub (bxM b2 b3 b4 [str x1.text, .int .i64 n2, .int .i64 0, .int .i64 0, .slice none 0 0, .slice none 0 0, .slice none 0 0, .slice none 0 0, .int .i64 0, .int .i64 0, .int .i64 0, .string ⟨#[]⟩, .slice none 0 0]) []).wd (fun w' ha => ⟨_, rfl, ha, hbad w' fun m1 leaf1 hm1 he1 hg1 => ?_⟩)
    have h0 := (hfull m1 leaf1 he1).1
    rw [hus0, hus1, hus2, hus3, metaL] at h0
    simp only [List.map_cons, List.cons.injEq] at h0
    obtain ⟨-, -, -, -, h0⟩ := h0
    obtain ⟨y, ys, hy1, hy2, -⟩ := map_cons_inv h0
    have hrg := metOk_rng hm1
    exact hno _ y ys hy1 ⟨by omega, by omega⟩ hy2
  clear S; rintro _ a w ⟨n4, x4, us5, q5, c5, hus4, rfl, hn4, hx4, hh, hc5, hls⟩ hS
  have S := hS (mrI b22 q5 c5 us5) [] hh (fun k h => .inl h) (by simp)
  clear hS hh
  have hl5 : us5.length ≤ 1000000 := by rw [hus4] at hl4; simp at hl4; omega
  have hin5 : ∀ y ∈ us5, y ∈ us0 := fun y hy => hin4 y (by rw [hus4]; simp [hy])
  replace S := S.add (Φ := LsF q5 0 us5) ((S.mem.fact (LsF q4 0 us4)).imp fun w h => hls w h)
  clear hls
  (iterate 2 (refine sq S ?_; clear S; intro a S)); refine sw S ?_; clear S; intro a w S; refine wl_nil ?_; refine xtn ?_; refine c_seq ?_; refine c_region ?_; refine sq S ?_; clear S; intro a S
  refine sitMP (mrI b22 q5 c5 us5) S (mnums_c b22 q5 c5 us5 (restOf _ (mrI b22 q5 c5 us5)) w hc5 hl5 (S.restOk _) ((S.mem.fact LibF).split (mrI b22 q5 c5 us5)) (S.it (mrI b22 q5 c5 us5)) ((S.mem.fact (LsF q5 0 us5)).split (mrI b22 q5 c5 us5))) rfl (fun ch w' hx hS => ?_) ?_
  · have S := hS
    clear hS
    obtain ⟨rfl, hno⟩ := hx
    refine mread_pan b2 b3 b4 _ _ _ _ _ _ _ _ _ _ _ _ _ _ _ S.defers (by rw [S.slots]; rfl) (by rw [S.slots]; rfl) (by rw [S.slots]; rfl) (S.sub (bxM b2 b3 b4 [str x1.text, .int .i64 n2, .int .i64 n3, .int .i64 n4, .slice none 0 0, .slice none 0 0, .slice none 0 0, .slice none 0 0, .int .i64 0, .int .i64 0, .int .i64 0, .string ⟨#[]⟩, .slice none 0 0]) []).wd (fun w' ha => ⟨_, rfl, ha, hbad w' fun m1 leaf1 hm1 he1 hg1 => ?_⟩)
    have h0 := (hfull m1 leaf1 he1).1
    rw [hus0, hus1, hus2, hus3, hus4, metaL] at h0
    simp only [List.map_cons, List.cons.injEq] at h0
    obtain ⟨-, -, -, -, -, h0⟩ := h0
    obtain ⟨y, ys, hy1, hy2, -⟩ := map_cons_inv h0
    exact hno _ y ys hy1 (metOk_rng hm1).2.2.2.1 (hgo y (hin5 y (by rw [hy1]; simp))) hy2
  clear S; rintro _ a w ⟨l5, p5, e5, x5, us6, q6, c6, hus5, rfl, hok5, hx5, hle5, hcm5, hll5, hh, hc6, hls, hfl⟩ hS
  have S := hS (mrI b22 q6 c6 us6) [GlF p5 l5] hh (fun k h => .inl h) (by simpa using hfl)
  clear hS hh hfl
  have hl6 : us6.length ≤ 1000000 := by rw [hus5] at hl5; simp at hl5; omega
  have hin6 : ∀ y ∈ us6, y ∈ us0 := fun y hy => hin5 y (by rw [hus5]; simp [hy])
  replace S := S.add (Φ := LsF q6 0 us6) ((S.mem.fact (LsF q5 0 us5)).imp fun w h => hls w h)
  clear hls
  refine sq S ?_; clear S; intro a S
  refine sitMP (mrI b22 q6 c6 us6) S (mnums_c b22 q6 c6 us6 (restOf _ (mrI b22 q6 c6 us6)) w hc6 hl6 (S.restOk _) ((S.mem.fact LibF).split (mrI b22 q6 c6 us6)) (S.it (mrI b22 q6 c6 us6)) ((S.mem.fact (LsF q6 0 us6)).split (mrI b22 q6 c6 us6))) rfl (fun ch w' hx hS => ?_) ?_
  · have S := hS
    clear hS
    obtain ⟨rfl, hno⟩ := hx
    refine mread_pan b2 b3 b4 _ _ _ _ _ _ _ _ _ _ _ _ _ _ _ S.defers (by rw [S.slots]; rfl) (by rw [S.slots]; rfl) (by rw [S.slots]; rfl) (S.sub (bxM b2 b3 b4 [str x1.text, .int .i64 n2, .int .i64 n3, .int .i64 n4, .slice none 0 0, .slice none 0 0, .slice none 0 0, .slice none 0 0, .int .i64 0, .int .i64 0, .int .i64 0, .string ⟨#[]⟩, .slice none 0 0]) []).wd (fun w' ha => ⟨_, rfl, ha, hbad w' fun m1 leaf1 hm1 he1 hg1 => ?_⟩)
    have h0 := (hfull m1 leaf1 he1).1
    rw [hus0, hus1, hus2, hus3, hus4, hus5, metaL] at h0
    simp only [List.map_cons, List.cons.injEq] at h0
    obtain ⟨-, -, -, -, -, -, h0⟩ := h0
    obtain ⟨y, ys, hy1, hy2, -⟩ := map_cons_inv h0
    exact hno _ y ys hy1 (metOk_rng hm1).2.2.2.2.1 (hgo y (hin6 y (by rw [hy1]; simp))) hy2
  clear S; rintro _ a w ⟨l6, p6, e6, x6, us7, q7, c7, hus6, rfl, hok6, hx6, hle6, hcm6, hll6, hh, hc7, hls, hfl⟩ hS
  have S := hS (mrI b22 q7 c7 us7) [GlF p6 l6] hh (fun k h => .inl h) (by simpa using hfl)
  clear hS hh hfl
  have hl7 : us7.length ≤ 1000000 := by rw [hus6] at hl6; simp at hl6; omega
  have hin7 : ∀ y ∈ us7, y ∈ us0 := fun y hy => hin6 y (by rw [hus6]; simp [hy])
  replace S := S.add (Φ := LsF q7 0 us7) ((S.mem.fact (LsF q6 0 us6)).imp fun w h => hls w h)
  clear hls
  refine sq S ?_; clear S; intro a S
  refine sitMP (mrI b22 q7 c7 us7) S (mnums_c b22 q7 c7 us7 (restOf _ (mrI b22 q7 c7 us7)) w hc7 hl7 (S.restOk _) ((S.mem.fact LibF).split (mrI b22 q7 c7 us7)) (S.it (mrI b22 q7 c7 us7)) ((S.mem.fact (LsF q7 0 us7)).split (mrI b22 q7 c7 us7))) rfl (fun ch w' hx hS => ?_) ?_
  · have S := hS
    clear hS
    obtain ⟨rfl, hno⟩ := hx
    refine mread_pan b2 b3 b4 _ _ _ _ _ _ _ _ _ _ _ _ _ _ _ S.defers (by rw [S.slots]; rfl) (by rw [S.slots]; rfl) (by rw [S.slots]; rfl) (S.sub (bxM b2 b3 b4 [str x1.text, .int .i64 n2, .int .i64 n3, .int .i64 n4, .slice none 0 0, .slice none 0 0, .slice none 0 0, .slice none 0 0, .int .i64 0, .int .i64 0, .int .i64 0, .string ⟨#[]⟩, .slice none 0 0]) []).wd (fun w' ha => ⟨_, rfl, ha, hbad w' fun m1 leaf1 hm1 he1 hg1 => ?_⟩)
    have h0 := (hfull m1 leaf1 he1).1
    rw [hus0, hus1, hus2, hus3, hus4, hus5, hus6, metaL] at h0
    simp only [List.map_cons, List.cons.injEq] at h0
    obtain ⟨-, -, -, -, -, -, -, h0⟩ := h0
    obtain ⟨y, ys, hy1, hy2, -⟩ := map_cons_inv h0
    exact hno _ y ys hy1 (metOk_rng hm1).2.2.2.2.2.1 (hgo y (hin7 y (by rw [hy1]; simp))) hy2
  clear S; rintro _ a w ⟨l7, p7, e7, x7, us8, q8, c8, hus7, rfl, hok7, hx7, hle7, hcm7, hll7, hh, hc8, hls, hfl⟩ hS
  have S := hS (mrI b22 q8 c8 us8) [GlF p7 l7] hh (fun k h => .inl h) (by simpa using hfl)
  clear hS hh hfl
  have hl8 : us8.length ≤ 1000000 := by rw [hus7] at hl7; simp at hl7; omega
  have hin8 : ∀ y ∈ us8, y ∈ us0 := fun y hy => hin7 y (by rw [hus7]; simp [hy])
  replace S := S.add (Φ := LsF q8 0 us8) ((S.mem.fact (LsF q7 0 us7)).imp fun w h => hls w h)
  clear hls
  (iterate 2 (refine sq S ?_; clear S; intro a S)); refine sw S ?_; clear S; intro a w S; (iterate 2 (refine sq S ?_; clear S; intro a S)); refine sw S ?_; clear S; intro a w S; (iterate 2 (refine sq S ?_; clear S; intro a S)); refine sw S ?_; clear S; intro a w S; refine wl_nil ?_; refine xtn ?_; refine c_seq ?_; refine c_region ?_; refine sq S ?_; clear S; intro a S
  refine sitMP (mrI b22 q8 c8 us8) S (mnext_c b22 q8 c8 us8 _ hc8 hl8 (S.it (mrI b22 q8 c8 us8)) (S.lend (mrI b22 q8 c8 us8) (S.mem.fact (LsF q8 0 us8)))) rfl (fun ch w' hx hS => ?_) ?_
  · have S := hS
    clear hS
    obtain ⟨rfl, hnil⟩ := hx
    refine mread_pan b2 b3 b4 _ _ _ _ _ _ _ _ _ _ _ _ _ _ _ S.defers (by rw [S.slots]; rfl) (by rw [S.slots]; rfl) (by rw [S.slots]; rfl) (S.sub (bxM b2 b3 b4 [str x1.text, .int .i64 n2, .int .i64 n3, .int .i64 n4, .slice p5 l5.length e5, .slice p6 l6.length e6, .slice p7 l7.length e7, .slice none 0 0, .int .i64 0, .int .i64 0, .int .i64 0, .string ⟨#[]⟩, .slice none 0 0]) []).wd (fun w' ha => ⟨_, rfl, ha, hbad w' fun m1 leaf1 hm1 he1 hg1 => ?_⟩)
    exact hshort 8 m1 leaf1 hm1 he1 (by omega) (by rw [hus0, hus1, hus2, hus3, hus4, hus5, hus6, hus7, hnil]; rfl)
  clear S; rintro _ a w ⟨x8, us9, q9, c9, hus8, rfl, hh, hc9, hls⟩ hS
  have S := hS (mrI b22 q9 c9 us9) [] hh (fun k h => .inl h) (by simp)
  clear hS hh
  have hl9 : us9.length ≤ 1000000 := by rw [hus8] at hl8; simp at hl8; omega
  replace S := S.add (Φ := LsF q9 0 us9) ((S.mem.fact (LsF q8 0 us8)).imp fun w h => hls w h)
  replace S := S.add (Φ := LtF x8) ((S.mem.fact (LsF q8 0 us8)).imp fun w h => by rw [hus8] at h; exact (LsIn.get h (k := 0) rfl).2)
  clear hls
  have hgx8 : Good x8.t := hgo x8 (hin8 x8 (by rw [hus8]; simp))
  have hparts : ∀ m1 leaf1, metOk m1 → t.t = metaT m1 leaf1 → m1.owner = t.user ∧ leaf1 = t.num ∧ x1.t = textT m1.name ∧ m1.version = n2 ∧ m1.owner = n3 ∧ m1.epoch = n4 ∧ m1.rd = l5 ∧ m1.wr = l6 ∧ m1.gr = l7 ∧ x8.t = listT (m1.past.map numsT) ∧ us9.map LTerm.t = [m1.boxes] := fun m1 leaf1 hm1 he1 => by
    obtain ⟨h0, ho, hle⟩ := hfull m1 leaf1 he1
    rw [hus0, hus1, hus2, hus3, hus4, hus5, hus6, hus7, hus8, metaL] at h0
    simp only [List.map_cons, List.cons.injEq] at h0
    obtain ⟨-, g1, g2, g3, g4, g5, g6, g7, g8, g9⟩ := h0
    obtain ⟨r1, r2, r3, r4, r5, r6, -⟩ := metOk_rng hm1
    refine ⟨ho, hle, g1, ?_, ?_, ?_, ?_, ?_, ?_, g8, g9⟩
    · exact digT_inj ⟨by omega, by omega⟩ ⟨by omega, by omega⟩ (g2.symm.trans hx2)
    · exact digT_inj ⟨by omega, by omega⟩ ⟨by omega, by omega⟩ (g3.symm.trans hx3)
    · exact digT_inj ⟨by omega, by omega⟩ ⟨by omega, by omega⟩ (g4.symm.trans hx4)
    · exact numsT_inj r4 hok5 (g5.symm.trans hx5)
    · exact numsT_inj r5 hok6 (g6.symm.trans hx6)
    · exact numsT_inj r6 hok7 (g7.symm.trans hx7)
  have Sp := S
  refine srP S (mlist_c x8 _ w (foots_lt S) (S.t x8)) (fun ch w' hx S => ?_) ?_
  · obtain ⟨rfl, hno⟩ := hx
    refine mread_pan b2 b3 b4 _ _ _ _ _ _ _ _ _ _ _ _ _ _ _ S.defers (by rw [S.slots]; rfl) (by rw [S.slots]; rfl) (by rw [S.slots]; rfl) (S.sub (bxM b2 b3 b4 [str x1.text, .int .i64 n2, .int .i64 n3, .int .i64 n4, .slice p5 l5.length e5, .slice p6 l6.length e6, .slice p7 l7.length e7, .slice none 0 0, .int .i64 0, .int .i64 0, .int .i64 0, .string ⟨#[]⟩, .slice none 0 0]) []).wd (fun w' ha => ⟨_, rfl, ha, hbad w' fun m1 leaf1 hm1 he1 hg1 => ?_⟩)
    exact hno _ (hparts m1 leaf1 hm1 he1).2.2.2.2.2.2.2.2.2.1 hgx8
  clear S; rintro _ a w ⟨b9, qv, cv, vs, rfl, hgr9, hbn9, hb9, hgk9, htl9, hcv, hvl9, hvs9⟩ S
  replace S := addNew (y := mrI b9 qv cv vs) Sp S hgr9 hb9 (fun k hk => by obtain rfl : k = b9 := hk; exact hbn9)
  clear Sp hb9
  replace S := S.add (Φ := LsF qv 0 vs) (hvs9.less fun k _ ⟨it, hi, hk⟩ => by
    rcases List.mem_cons.1 hi with rfl | hi
    · exact .inl hk
    · exact .inr ⟨it, hi, hk⟩)
  clear hvs9
  have hgv : ∀ y ∈ vs, Good y.t := fun y hy => list_good hgk9 htl9 (List.mem_map.2 ⟨y, hy, rfl⟩)
  have hpast : ∀ m1 leaf1, metOk m1 → t.t = metaT m1 leaf1 → vs.map LTerm.t = m1.past.map numsT := fun m1 leaf1 hm he => listT_injM (htl9.symm.trans (hparts m1 leaf1 hm he).2.2.2.2.2.2.2.2.2.1)
  refine sq S ?_; clear S; intro a S; refine wl_nil ?_; refine xtn ?_; refine c_seq ?_; refine c_block ?_
  refine c_fore6 S (fun (ps : List (Sl Int)) (ys : List LTerm) (q3 : Option Addr) (c3 : Nat) (pp : Option Addr) (cp : Nat) uu => [(61, uu 61), (0, uu 62), (0, uu 63), (0, uu 64), (0, uu 65), (0, uu 66), (0, uu 67), (0, uu 68), (0, uu 69), (0, uu 70), (0, uu 71), (0, uu 72), (0, uu 73)]) (fun (ps : List (Sl Int)) (ys : List LTerm) (q3 : Option Addr) (c3 : Nat) (pp : Option Addr) (cp : Nat) => [Wk.row 27 1 pp ps.length cp (encL ps), mrI b9 q3 c3 ys, mrI b22 q9 c9 us9, Wk.box b4 33 [.int .i64 0], Wk.box b3 3 [.int .i64 0], Wk.box b2 32 [str x1.text, .int .i64 n2, .int .i64 n3, .int .i64 n4, .slice p5 l5.length e5, .slice p6 l6.length e6, .slice p7 l7.length e7, .slice pp ps.length cp, .int .i64 0, .int .i64 0, .int .i64 0, .string ⟨#[]⟩, .slice none 0 0], Wk.box b1 24 t.cells, ext M]) (fun (ps : List (Sl Int)) (ys : List LTerm) (q3 : Option Addr) (c3 : Nat) (pp : Option Addr) (cp : Nat) => [AllI ps, LsF q3 0 ys, LsF q9 0 us9, GlF p7 l7, GlF p6 l6, GlF p5 l5, LibF]) (fun (ps : List (Sl Int)) (ys : List LTerm) (q3 : Option Addr) (c3 : Nat) (pp : Option Addr) (cp : Nat) => vs.map LTerm.t = ps.map (fun s => numsT s.xs) ++ ys.map LTerm.t ∧ ys.length ≤ c3 ∧ ps.length + ys.length = vs.length ∧ (∀ y ∈ ys, y ∈ vs) ∧ ∀ s ∈ ps, okI s.xs ∧ s.xs.length ≤ 1200) (fun (ps : List (Sl Int)) (ys : List LTerm) (q3 : Option Addr) (c3 : Nat) (pp : Option Addr) (cp : Nat) => ys.length) ([]) (vs) (qv) (cv) (none) (0) ?_ S.uu ?_ ?_
  · exact ⟨rfl, hcv, by simp, fun y hy => hy, nofun⟩
  · replace S := S.addNil 27 1
    rw [show Wk.row 27 1 none 0 0 [] = Wk.row 27 1 none 0 0 (encL ([] : List (Sl Int))) from rfl] at S
    replace S := S.add (Φ := AllI (α := Sl Int) []) AllI.nil
    exact S.sub _ _
  · clear S; rintro ps ys q3 c3 pp cp uu a w ⟨hmap, hc3, hyl, hyv, hpok⟩ S
    (iterate 2 (refine c_seq ?_)); refine c_region ?_; (iterate 6 (refine sq S ?_; clear S; intro a S)); refine wl_nil ?_; refine xtn ?_
    refine c_cond S (fun h11 => ?_) (fun h11 => ?_)
    · refine c_skip ?_; refine xtn ?_; refine c_block ?_
      have hpos : 0 < ys.length := by simpa using h11
      refine c_drawXL 7 [(0, true), (1, true), (2, true), (3, false), (4, false), (5, false), (6, true), (7, false)] [Wk.box b2 32 [str x1.text, .int .i64 n2, .int .i64 n3, .int .i64 n4, .slice p5 l5.length e5, .slice p6 l6.length e6, .slice p7 l7.length e7, .slice pp ps.length cp, .int .i64 0, .int .i64 0, .int .i64 0, .string ⟨#[]⟩, .slice none 0 0]] (⟨[(2, ptrM b2), (3, ptrM b3), (4, ptrM b4)], [defM b2 b3 b4], fun ch w => ch = pch wrongM ∧ Wd w0 (fun _ => False) w (bxM b2 b3 b4 [str x1.text, .int .i64 n2, .int .i64 n3, .int .i64 n4, .slice p5 l5.length e5, .slice p6 l6.length e6, .slice p7 l7.length e7, .slice pp ps.length cp, .int .i64 0, .int .i64 0, .int .i64 0, .string ⟨#[]⟩, .slice none 0 0]) [] ∧ ∀ m leaf, metOk m → t.t = metaT m leaf → ¬ Good t.t⟩) S (fun ch a w ⟨hk, hd, hch, hw, hx⟩ => by subst hch; repeat (first | refine xtp ?_ | refine xbp ?_); exact mread_pan b2 b3 b4 _ _ _ _ _ _ _ _ _ _ _ _ _ _ _ hd (hk (2, ptrM b2) (by simp)) (hk (3, ptrM b3) (by simp)) (hk (4, ptrM b4) (by simp)) hw (fun w' ha => ⟨_, rfl, ha, hbad w' hx⟩)) ?_; clear S; intro w S
      (iterate 3 (refine dqXL S ?_; clear S; intro a S)); refine dlXL ?_
      refine sitMP (mrI b9 q3 c3 ys) S (mnums_c b9 q3 c3 ys (restOf _ (mrI b9 q3 c3 ys)) w hc3 (by omega) (S.restOk _) ((S.mem.fact LibF).split (mrI b9 q3 c3 ys)) (S.it (mrI b9 q3 c3 ys)) ((S.mem.fact (LsF q3 0 ys)).split (mrI b9 q3 c3 ys))) rfl (fun ch w' hx hS => ?_) ?_
      · have S := hS
        clear hS
        obtain ⟨rfl, hno⟩ := hx
        refine XP.of S (fun p hp => by simp at hp; rcases hp with rfl | rfl | rfl <;> rfl) rfl ⟨rfl, (S.sub (bxM b2 b3 b4 [str x1.text, .int .i64 n2, .int .i64 n3, .int .i64 n4, .slice p5 l5.length e5, .slice p6 l6.length e6, .slice p7 l7.length e7, .slice pp ps.length cp, .int .i64 0, .int .i64 0, .int .i64 0, .string ⟨#[]⟩, .slice none 0 0]) []).wd, fun m1 leaf1 hm1 he1 hg1 => ?_⟩
        have r1 := hpast m1 leaf1 hm1 he1
        rw [hmap] at r1
        match ys, hpos with
        | y :: ys, _ =>
          have hm : y.t ∈ m1.past.map numsT := by rw [← r1]; simp
          obtain ⟨l, hl1, hl2⟩ := List.mem_map.1 hm
          exact hno l y ys rfl ((metOk_rng hm1).2.2.2.2.2.2.1 l hl1) (hgv y (hyv y (by simp))) hl2.symm
      clear S; rintro _ a w ⟨l, p, e, y, ys', q4, c4, rfl, rfl, hokl, hy, hle, hcm, hll, hh, hc4, hls4, hfl⟩ hS
      have S := hS (mrI b9 q4 c4 ys') [GlF p l] hh (fun k h => .inl h) (by simpa using hfl)
      clear hS hh hfl
      replace S := S.add (Φ := LsF q4 0 ys') ((S.mem.fact (LsF q3 0 (y :: ys'))).imp fun w h => hls4 w h)
      replace S := S.add (Φ := AllI (ps ++ [(⟨p, e, l⟩ : Sl Int)])) (AllI.snoc (S.wd.facts (AllI ps) (by simp)) ((S.wd.facts (GlF p l) (by simp)).imp fun w h => ⟨hle, hcm, h⟩))
      refine deXL S ?_; refine dlXL ?_
      refine sn S ?_; clear S; intro b71 a w S
      refine deXL S ?_; refine dlXL ?_
      refine sap S (by simp [maxLen]; omega) (by omega) ?_; clear S; rintro pq cq a w - S
      rw [show encL ps ++ [Value.slice p l.length e] = encL (ps ++ [(⟨p, e, l⟩ : Sl Int)]) from by rw [encL_append]; rfl, show ps.length + 1 = (ps ++ [(⟨p, e, l⟩ : Sl Int)]).length from by simp] at S
      refine deXL S ?_; refine dqXL S ?_; clear S; intro a S; refine dlXL ?_; refine sw S ?_; clear S; intro a w S; refine dzXL ?_; refine xbn ?_; refine xtn ?_
      refine ⟨ps ++ [⟨p, e, l⟩], ys', q4, c4, pq, cq, S.uu, ⟨by rw [hmap]; simp [hy], hc4, by simp at hyl ⊢; omega, fun z hz => hyv z (by simp [hz]), fun s hs => ?_⟩, S.sub _ _, by simp⟩
      rcases List.mem_append.1 hs with hs | hs
      · exact hpok s hs
      · rw [List.mem_singleton.1 hs]; exact ⟨hokl, hll⟩
    · refine c_exit ?_; (iterate 2 (refine xte ?_)); refine xbe ?_; refine xtn ?_; refine c_seq ?_
      have hys : ys = [] := by
        cases ys with
        | nil => rfl
        | cons y ys => simp at h11
      refine c_region ?_; refine sq S ?_; clear S; intro a S
      refine sitMP (mrI b22 q9 c9 us9) S (mnext_c b22 q9 c9 us9 _ hc9 hl9 (S.it (mrI b22 q9 c9 us9)) (S.lend (mrI b22 q9 c9 us9) (S.mem.fact (LsF q9 0 us9)))) rfl (fun ch w' hx hS => ?_) ?_
      · have S := hS
        clear hS
        obtain ⟨rfl, hnil⟩ := hx
        refine mread_pan b2 b3 b4 _ _ _ _ _ _ _ _ _ _ _ _ _ _ _ S.defers (by rw [S.slots]; rfl) (by rw [S.slots]; rfl) (by rw [S.slots]; rfl) (S.sub (bxM b2 b3 b4 [str x1.text, .int .i64 n2, .int .i64 n3, .int .i64 n4, .slice p5 l5.length e5, .slice p6 l6.length e6, .slice p7 l7.length e7, .slice pp ps.length cp, .int .i64 0, .int .i64 0, .int .i64 0, .string ⟨#[]⟩, .slice none 0 0]) []).wd (fun w' ha => ⟨_, rfl, ha, hbad w' fun m1 leaf1 hm1 he1 hg1 => ?_⟩)
        exact hshort 9 m1 leaf1 hm1 he1 (by omega) (by rw [hus0, hus1, hus2, hus3, hus4, hus5, hus6, hus7, hus8, hnil]; rfl)
      clear S; rintro _ a w ⟨x9, us10, q10, c10, hus9, rfl, hh, hc10, hls⟩ hS
      have S := hS (mrI b22 q10 c10 us10) [] hh (fun k h => .inl h) (by simp)
      clear hS hh
      have hl10 : us10.length ≤ 1000000 := by rw [hus9] at hl9; simp at hl9; omega
      replace S := S.add (Φ := LsF q10 0 us10) ((S.mem.fact (LsF q9 0 us9)).imp fun w h => hls w h)
      replace S := S.add (Φ := LtF x9) ((S.mem.fact (LsF q9 0 us9)).imp fun w h => by rw [hus9] at h; exact (LsIn.get h (k := 0) rfl).2)
      clear hls
      refine sq S ?_; clear S; intro a S; refine sw S ?_; clear S; intro a w S; refine wl_nil ?_; refine xtn ?_; refine c_seq ?_
      have hpl := own_le (S.row pp ps.length)
      have hpm := own_capM (S.row pp ps.length)
      have hpn : ps.length ≤ 1200 := by omega
      replace S := S.rowToGl pp ps (e := 27) (sz := 1) (n := ps.length) (c := cp) (S.wd.facts (AllI ps) (by simp))
      obtain ⟨mm, hmm⟩ : ∃ mm : LMeta, mm = ⟨x1.text, n2, ⟨n3, n4, ⟨p5, e5, l5⟩, ⟨p6, e6, l6⟩, ⟨p7, e7, l7⟩⟩, ⟨pp, cp, ps⟩, x9⟩ := ⟨_, rfl⟩
      replace S := S.add (Φ := InF mm) (by
        rw [hmm]; intro w' hw'
        exact ⟨⟨⟨hle5, hcm5, S.wd.facts (GlF p5 l5) (by simp) w' hw'⟩, ⟨hle6, hcm6, S.wd.facts (GlF p6 l6) (by simp) w' hw'⟩, ⟨hle7, hcm7, S.wd.facts (GlF p7 l7) (by simp) w' hw'⟩⟩, ⟨hpl, hpm, S.wd.facts (GlF pp ps) (by simp) w' hw'⟩, S.t x9 w' hw'⟩)
      have hfit : FitMeta mm := by
        rw [hmm]
        exact ⟨by show x1.text.length ≤ _; have := t1.2; omega, by show l5.length ≤ _; omega, by show l6.length ≤ _; omega, by show l7.length ≤ _; omega, by show ps.length ≤ _; omega, fun s hs => by have := (hpok s hs).2; omega⟩
      have hint : IntMeta mm := by
        rw [hmm]
        exact ⟨i64_ok hok5, i64_ok hok6, i64_ok hok7, fun s hs => i64_ok (hpok s hs).1⟩
      have hmmT : mm.m = ⟨x1.text, n2, n3, n4, l5, l6, l7, ps.map Sl.xs, x9.t⟩ := by rw [hmm]; rfl
      rw [hys, List.map_nil, List.append_nil] at hmap
      have hwhole : ∀ m1 leaf1, metOk m1 → t.t = metaT m1 leaf1 → us10 = [] ∧ mm.m = m1 ∧ t.user = n3 := fun m1 leaf1 hm1 he1 => by
        obtain ⟨r1, r2, r3, r4, r5, r6, r7, r8, r9, -, r10⟩ := hparts m1 leaf1 hm1 he1
        have r11 := hpast m1 leaf1 hm1 he1
        rw [hmap, show (fun s : Sl Int => numsT s.xs) = numsT ∘ Sl.xs from rfl, ← List.map_map] at r11
        have r12 := numsT_injL (fun l hl => by obtain ⟨s, hs, rfl⟩ := List.mem_map.1 hl; exact (hpok s hs).1) (metOk_rng hm1).2.2.2.2.2.2.1 r11
        rw [hus9] at r10
        simp only [List.map_cons, List.cons.injEq, List.map_eq_nil_iff] at r10
        have rn := t1.1.symm.trans r3
        simp only [textT, Term.mk.injEq] at rn
        refine ⟨r10.2, ?_, by rw [← r1, r5]⟩
        rw [hmmT, show m1 = ⟨m1.name, m1.version, m1.owner, m1.epoch, m1.rd, m1.wr, m1.gr, m1.past, m1.boxes⟩ from rfl, Met.mk.injEq]
        exact ⟨rn.2.2.2.1, r4.symm, r5.symm, r6.symm, r7.symm, r8.symm, r9.symm, r12, r10.1⟩
      have hT : us10 = [] → t.user = n3 → t.t = metaT mm.m t.num := fun e1 e2 => by
        have hx8 : x8.t = listT ((ps.map Sl.xs).map numsT) := by rw [htl9, hmap, List.map_map]; rfl
        rw [hst, htl, hus0, hus1, hus2, hus3, hus4, hus5, hus6, hus7, hus8, hus9, e1, metaT, hmmT, metaL, e2]
        simp only [List.map_cons, List.map_nil, hx0, hx2, hx3, hx4, hx5, hx6, hx7, hx8]
        rw [← t1.1]
      refine c_region ?_; (iterate 7 (refine sq S ?_; clear S; intro a S))
      refine gS S (fun hq1 S => ?_) (fun hq1 S => ?_)
      · refine gT S ?_; refine sq S ?_; clear S; intro a S; refine gT S ?_
        refine sr S (mcheck_c ⟨x1.text, n2, ⟨n3, n4, ⟨p5, e5, l5⟩, ⟨p6, e6, l6⟩, ⟨p7, e7, l7⟩⟩, ⟨pp, cp, ps⟩, x9⟩ (hmm ▸ hfit) _ (by rw [← hmm]; exact S.mem.i0 mm)) ?_; clear S; rintro _ a w rfl S
        rw [← hmm] at S
        refine gT S ?_; (iterate 3 (refine sq S ?_; clear S; intro a S))
        refine gS S (fun hq2 S => ?_) (fun hq2 S => ?_)
        · refine gT S ?_; refine sq S ?_; clear S; intro a S; refine gT S ?_; refine sq S ?_; clear S; intro a S; refine gT S ?_; refine sq S ?_; clear S; intro a S; refine gT S ?_; refine sq S ?_; clear S; intro a S; refine gT S ?_; refine sq S ?_; clear S; intro a S; refine gT S ?_; (iterate 2 (refine sq S ?_; clear S; intro a S))
          refine srP S (mneed_c _ _) (fun ch w' hx S => ?_) ?_
          · obtain ⟨hb, rfl⟩ := hx
            refine mread_pan b2 b3 b4 _ _ _ _ _ _ _ _ _ _ _ _ _ _ _ S.defers (by rw [S.slots]; rfl) (by rw [S.slots]; rfl) (by rw [S.slots]; rfl) (S.sub (bxM b2 b3 b4 [str x1.text, .int .i64 n2, .int .i64 n3, .int .i64 n4, .slice p5 l5.length e5, .slice p6 l6.length e6, .slice p7 l7.length e7, .slice pp ps.length cp, .int .i64 x9.kind, .int .i64 x9.user, .int .i64 x9.num, str x9.text, .slice x9.p x9.kids.length x9.cap]) []).wd (fun w' ha => ⟨_, rfl, ha, hbad w' fun m1 leaf1 hm1 he1 hg1 => ?_⟩)
            obtain ⟨k1, k2, k3⟩ := hwhole m1 leaf1 hm1 he1
            have k4 : metF mm.m = 0 := metF_zero.2 (by rw [k2]; exact hm1)
            simp [k1, k3, k4] at hq1 hq2 hb
          clear S; rintro _ a w hb S
          have hdone : us10 = [] ∧ metOk mm.m ∧ t.user = n3 := by
            first
            | exact absurd hb Bool.false_ne_true
            | exact absurd hq2 Bool.false_ne_true
            | exact ⟨by simpa using hq1, metF_zero.1 (by simpa using hq2), by simpa using hb⟩
          refine wl_nil ?_; refine xtn ?_; refine c_seq ?_
          refine' c_drawT0 (.q 1 (.q 2 (.l 0 (.l 3 (.l 4 (.l 5 (.e))))))) [b2, b3, b4] S ?_ ?_
          rotate_left 3
          · intro w S
            (iterate 2 (refine tq S ?_; clear S; intro a S)); refine tl ?_; refine sq S ?_; clear S; intro a S; refine te S ?_; refine tl ?_; refine sw S ?_; clear S; intro a w S; refine te S ?_; refine tl ?_; refine sw S ?_; clear S; intro a w S; refine te S ?_; refine tl ?_; refine sw S ?_; clear S; intro a w S; refine te S ?_; refine tn ?_
            exact S
          intro  a w S
          refine xtn ?_; refine c_ret ?_
          have hlat := S.laterFact (M := M) (Φ := InF mm) (by simp)
          refine leaveRet S.defers (mcatch_ret _ _ _ w) (fun w' hw' => ⟨_, res3 S.slots (S.wd.step hw').held, _, rfl, (S.wd.step hw').agree, mm, t.num, 0, by rw [hmm], hlat.later (hw'.mono fun _ _ h => h.elim), hfit, hint, fun _ => ⟨hdone.2.1, hT hdone.1 hdone.2.2, hg.1⟩, fun h => absurd rfl h⟩)
        · refine gF S ?_; clear S; intro a S; (iterate 5 (refine gF S ?_; clear S; intro a S)); refine sq S ?_; clear S; intro a S
          refine srP S (mneed_c _ _) (fun ch w' hx S => ?_) ?_
          · obtain ⟨hb, rfl⟩ := hx
            refine mread_pan b2 b3 b4 _ _ _ _ _ _ _ _ _ _ _ _ _ _ _ S.defers (by rw [S.slots]; rfl) (by rw [S.slots]; rfl) (by rw [S.slots]; rfl) (S.sub (bxM b2 b3 b4 [str x1.text, .int .i64 n2, .int .i64 n3, .int .i64 n4, .slice p5 l5.length e5, .slice p6 l6.length e6, .slice p7 l7.length e7, .slice pp ps.length cp, .int .i64 x9.kind, .int .i64 x9.user, .int .i64 x9.num, str x9.text, .slice x9.p x9.kids.length x9.cap]) []).wd (fun w' ha => ⟨_, rfl, ha, hbad w' fun m1 leaf1 hm1 he1 hg1 => ?_⟩)
            obtain ⟨k1, k2, k3⟩ := hwhole m1 leaf1 hm1 he1
            have k4 : metF mm.m = 0 := metF_zero.2 (by rw [k2]; exact hm1)
            simp [k1, k3, k4] at hq1 hq2 hb
          clear S; rintro _ a w hb S
          have hdone : us10 = [] ∧ metOk mm.m ∧ t.user = n3 := by
            first
            | exact absurd hb Bool.false_ne_true
            | exact absurd hq2 Bool.false_ne_true
            | exact ⟨by simpa using hq1, metF_zero.1 (by simpa using hq2), by simpa using hb⟩
          refine wl_nil ?_; refine xtn ?_; refine c_seq ?_
          refine' c_drawT0 (.q 1 (.q 2 (.l 0 (.l 3 (.l 4 (.l 5 (.e))))))) [b2, b3, b4] S ?_ ?_
          rotate_left 3
          · intro w S
            (iterate 2 (refine tq S ?_; clear S; intro a S)); refine tl ?_; refine sq S ?_; clear S; intro a S; refine te S ?_; refine tl ?_; refine sw S ?_; clear S; intro a w S; refine te S ?_; refine tl ?_; refine sw S ?_; clear S; intro a w S; refine te S ?_; refine tl ?_; refine sw S ?_; clear S; intro a w S; refine te S ?_; refine tn ?_
            exact S
          intro  a w S
          refine xtn ?_; refine c_ret ?_
          have hlat := S.laterFact (M := M) (Φ := InF mm) (by simp)
          refine leaveRet S.defers (mcatch_ret _ _ _ w) (fun w' hw' => ⟨_, res3 S.slots (S.wd.step hw').held, _, rfl, (S.wd.step hw').agree, mm, t.num, 0, by rw [hmm], hlat.later (hw'.mono fun _ _ h => h.elim), hfit, hint, fun _ => ⟨hdone.2.1, hT hdone.1 hdone.2.2, hg.1⟩, fun h => absurd rfl h⟩)
      · refine gF S ?_; clear S; intro a S; (iterate 2 (refine gF S ?_; clear S; intro a S)); (iterate 2 (refine sq S ?_; clear S; intro a S))
        refine gS S (fun hq2 S => ?_) (fun hq2 S => ?_)
        · refine gT S ?_; refine sq S ?_; clear S; intro a S; refine gT S ?_; refine sq S ?_; clear S; intro a S; refine gT S ?_; refine sq S ?_; clear S; intro a S; refine gT S ?_; refine sq S ?_; clear S; intro a S; refine gT S ?_; refine sq S ?_; clear S; intro a S; refine gT S ?_; (iterate 2 (refine sq S ?_; clear S; intro a S))
          refine srP S (mneed_c _ _) (fun ch w' hx S => ?_) ?_
          · obtain ⟨hb, rfl⟩ := hx
            refine mread_pan b2 b3 b4 _ _ _ _ _ _ _ _ _ _ _ _ _ _ _ S.defers (by rw [S.slots]; rfl) (by rw [S.slots]; rfl) (by rw [S.slots]; rfl) (S.sub (bxM b2 b3 b4 [str x1.text, .int .i64 n2, .int .i64 n3, .int .i64 n4, .slice p5 l5.length e5, .slice p6 l6.length e6, .slice p7 l7.length e7, .slice pp ps.length cp, .int .i64 x9.kind, .int .i64 x9.user, .int .i64 x9.num, str x9.text, .slice x9.p x9.kids.length x9.cap]) []).wd (fun w' ha => ⟨_, rfl, ha, hbad w' fun m1 leaf1 hm1 he1 hg1 => ?_⟩)
            obtain ⟨k1, k2, k3⟩ := hwhole m1 leaf1 hm1 he1
            have k4 : metF mm.m = 0 := metF_zero.2 (by rw [k2]; exact hm1)
            simp [k1, k3, k4] at hq1 hq2 hb
          clear S; rintro _ a w hb S
          have hdone : us10 = [] ∧ metOk mm.m ∧ t.user = n3 := by
            first
            | exact absurd hb Bool.false_ne_true
            | exact absurd hq2 Bool.false_ne_true
            | exact ⟨by simpa using hq1, metF_zero.1 (by simpa using hq2), by simpa using hb⟩
          refine wl_nil ?_; refine xtn ?_; refine c_seq ?_
          refine' c_drawT0 (.q 1 (.q 2 (.l 0 (.l 3 (.l 4 (.l 5 (.e))))))) [b2, b3, b4] S ?_ ?_
          rotate_left 3
          · intro w S
            (iterate 2 (refine tq S ?_; clear S; intro a S)); refine tl ?_; refine sq S ?_; clear S; intro a S; refine te S ?_; refine tl ?_; refine sw S ?_; clear S; intro a w S; refine te S ?_; refine tl ?_; refine sw S ?_; clear S; intro a w S; refine te S ?_; refine tl ?_; refine sw S ?_; clear S; intro a w S; refine te S ?_; refine tn ?_
            exact S
          intro  a w S
          refine xtn ?_; refine c_ret ?_
          have hlat := S.laterFact (M := M) (Φ := InF mm) (by simp)
          refine leaveRet S.defers (mcatch_ret _ _ _ w) (fun w' hw' => ⟨_, res3 S.slots (S.wd.step hw').held, _, rfl, (S.wd.step hw').agree, mm, t.num, 0, by rw [hmm], hlat.later (hw'.mono fun _ _ h => h.elim), hfit, hint, fun _ => ⟨hdone.2.1, hT hdone.1 hdone.2.2, hg.1⟩, fun h => absurd rfl h⟩)
        · refine gF S ?_; clear S; intro a S; (iterate 5 (refine gF S ?_; clear S; intro a S)); refine sq S ?_; clear S; intro a S
          refine srP S (mneed_c _ _) (fun ch w' hx S => ?_) ?_
          · obtain ⟨hb, rfl⟩ := hx
            refine mread_pan b2 b3 b4 _ _ _ _ _ _ _ _ _ _ _ _ _ _ _ S.defers (by rw [S.slots]; rfl) (by rw [S.slots]; rfl) (by rw [S.slots]; rfl) (S.sub (bxM b2 b3 b4 [str x1.text, .int .i64 n2, .int .i64 n3, .int .i64 n4, .slice p5 l5.length e5, .slice p6 l6.length e6, .slice p7 l7.length e7, .slice pp ps.length cp, .int .i64 x9.kind, .int .i64 x9.user, .int .i64 x9.num, str x9.text, .slice x9.p x9.kids.length x9.cap]) []).wd (fun w' ha => ⟨_, rfl, ha, hbad w' fun m1 leaf1 hm1 he1 hg1 => ?_⟩)
            obtain ⟨k1, k2, k3⟩ := hwhole m1 leaf1 hm1 he1
            have k4 : metF mm.m = 0 := metF_zero.2 (by rw [k2]; exact hm1)
            simp [k1, k3, k4] at hq1 hq2 hb
          clear S; rintro _ a w hb S
          have hdone : us10 = [] ∧ metOk mm.m ∧ t.user = n3 := by
            first
            | exact absurd hb Bool.false_ne_true
            | exact absurd hq2 Bool.false_ne_true
            | exact ⟨by simpa using hq1, metF_zero.1 (by simpa using hq2), by simpa using hb⟩
          refine wl_nil ?_; refine xtn ?_; refine c_seq ?_
          refine' c_drawT0 (.q 1 (.q 2 (.l 0 (.l 3 (.l 4 (.l 5 (.e))))))) [b2, b3, b4] S ?_ ?_
          rotate_left 3
          · intro w S
            (iterate 2 (refine tq S ?_; clear S; intro a S)); refine tl ?_; refine sq S ?_; clear S; intro a S; refine te S ?_; refine tl ?_; refine sw S ?_; clear S; intro a w S; refine te S ?_; refine tl ?_; refine sw S ?_; clear S; intro a w S; refine te S ?_; refine tl ?_; refine sw S ?_; clear S; intro a w S; refine te S ?_; refine tn ?_
            exact S
          intro  a w S
          refine xtn ?_; refine c_ret ?_
          have hlat := S.laterFact (M := M) (Φ := InF mm) (by simp)
          refine leaveRet S.defers (mcatch_ret _ _ _ w) (fun w' hw' => ⟨_, res3 S.slots (S.wd.step hw').held, _, rfl, (S.wd.step hw').agree, mm, t.num, 0, by rw [hmm], hlat.later (hw'.mono fun _ _ h => h.elim), hfit, hint, fun _ => ⟨hdone.2.1, hT hdone.1 hdone.2.2, hg.1⟩, fun h => absurd rfl h⟩)
theorem metaL_inj {a b : Met} (ha : metOk a) (hb : metOk b) (h : metaL a = metaL b) : a = b := by
  obtain ⟨a1, a2, a3, a4, a5, a6, a7, -⟩ := metOk_rng ha
  obtain ⟨b1, b2, b3, b4, b5, b6, b7, -⟩ := metOk_rng hb
  simp only [metaL, List.cons.injEq, and_true] at h
  obtain ⟨-, g1, g2, g3, g4, g5, g6, g7, g8, g9⟩ := h
  simp only [textT, Term.mk.injEq] at g1
  have n2 := digT_inj ⟨by omega, by omega⟩ ⟨by omega, by omega⟩ g2
  have n3 := digT_inj ⟨by omega, by omega⟩ ⟨by omega, by omega⟩ g3
  have n4 := digT_inj ⟨by omega, by omega⟩ ⟨by omega, by omega⟩ g4
  have n5 := numsT_inj a4 b4 g5
  have n6 := numsT_inj a5 b5 g6
  have n7 := numsT_inj a6 b6 g7
  have n8 := numsT_injL a7 b7 (listT_injM g8)
  rw [show a = ⟨a.name, a.version, a.owner, a.epoch, a.rd, a.wr, a.gr, a.past, a.boxes⟩ from rfl, show b = ⟨b.name, b.version, b.owner, b.epoch, b.rd, b.wr, b.gr, b.past, b.boxes⟩ from rfl, Met.mk.injEq]
  exact ⟨g1.2.2.2.1, n2, n3, n4, n5, n6, n7, n8, g9⟩
theorem signT_inj {u v n k : Int} {a b : Term} (h : signT u n a = signT v k b) : u = v ∧ n = k ∧ a = b := by
  simp only [signT, Term.mk.injEq, List.cons.injEq, and_true, true_and] at h
  exact h
theorem metaT_inj {a b : Met} {l k : Int} (ha : metOk a) (hb : metOk b) (h : metaT a l = metaT b k) : a = b ∧ l = k := by
  obtain ⟨-, h2, h3⟩ := signT_inj h
  exact ⟨metaL_inj ha hb (listT_injM h3), h2⟩
theorem good_metaT {m : Met} {l k : Int} (h : Good (metaT m l)) (hk : 0 ≤ k ∧ k ≤ 65535) : Good (metaT m k) := by
  have hu : 1 ≤ m.owner ∧ m.owner ≤ 6 := good_user h (.inr rfl)
  have h1 := good_walk.1 h
  refine good_walk.2 ?_
  rw [metaT, signT, walkF] at h1 ⊢
  have hp : plainF 8 m.owner k [] 1 = true := by
    simp [plainF, show fieldsOf 8 = 14 from rfl, show hasF 14 1 = false from by decide, show hasF 14 2 = true from by decide, show hasF 14 4 = true from by decide, show kidsF 14 = 1 from by decide, knownF, hu.1, hu.2, hk.1, hk.2]
  have e : ∀ b : Bool, ¬ (((1200 : Int) - 1 < 0 ∨ (60 : Int) < 1 ∨ b = false)) ↔ b = true := fun b => by cases b <;> simp
  rw [show [listT (metaL m)].length = 1 from rfl] at h1 ⊢
  rw [if_neg ((e _).2 hp)]
  by_cases hq : plainF 8 m.owner l [] 1 = true
  · rw [if_neg ((e _).2 hq)] at h1; exact h1
  · rw [if_pos (.inr (.inr (by simpa using hq)))] at h1; cases h1
theorem large15_c (N : Nat) : ∀ (t : LTerm) (deep left : Int) (b : Nat) (w0 : World), SizeOf.sizeOf t ≤ N → 0 ≤ deep → deep ≤ 81 → 0 ≤ left → left ≤ 2000 → Stable (fun k => k = b) w0 (LtF t) → w0.heap[b]? = some (.cells #[.int .i64 left] 3 (0, 0)) →
    Ret Tryz.prog 19 [vL t, .int .i64 deep, .pointer (some ⟨b, 0, none⟩)] w0 (fun k => k = b) fun v w' => ∃ (r : Bool) (n : Int), v = .bool r ∧ n ≤ left ∧ (r = false → 0 ≤ n) ∧ w'.heap[b]? = some (.cells #[.int .i64 n] 3 (0, 0)) := by
  induction N with
  | zero => intro t _ _ _ _ h; cases t; simp at h
  | succ N ih =>
  intro t deep left b w0 hN hd hd' hl hl' hf hb
  have hlen := LTerm.len_le hf
  refine enter Tryz.func19 rfl rfl (Wd.lent (fs := [LtF t]) hb (by simpa using hf)) (fun a S => ?_)
  simp only [Tryz.ntmps19, List.length_cons, List.length_nil, Nat.reduceAdd, Nat.reduceSub, List.replicate_succ, List.replicate_zero, List.cons_append, List.nil_append] at S
  refine c_seq ?_; refine c_region ?_
  refine sa S ?_; clear S; intro b3 a w S
  refine sq S ?_; clear S; intro a S; refine wl_nil ?_; refine xtn ?_; (iterate 2 (refine c_seq ?_)); refine c_region ?_; (iterate 4 (refine sq S ?_; clear S; intro a S))
  rw [w64 (left - 1) (by omega) (by omega)] at S
  refine sq S ?_; clear S; intro a S; refine sw S ?_; clear S; intro a w S; refine wl_nil ?_; refine xtn ?_; refine c_seq ?_; refine c_region ?_; (iterate 5 (refine sq S ?_; clear S; intro a S)); (iterate 2 (refine gQ S ?_; clear S; intro a S)); (iterate 2 (refine sq S ?_; clear S; intro a S)); (iterate 4 (refine gQ S ?_; clear S; intro a S)); (iterate 2 (refine sq S ?_; clear S; intro a S)); (iterate 4 (refine gQ S ?_; clear S; intro a S))
  refine sq S ?_; clear S; intro a S; refine wl_nil ?_; refine xtn ?_
  refine c_cond S (fun h2 => ?_) (fun h2 => ?_)
  · refine c_seq ?_; refine c_region ?_; refine sq S ?_; clear S; intro a S; refine wl_nil ?_; refine xtn ?_; refine c_ret ?_; refine xtr ?_
    have hbx := S.box b
    refine fin1 S (fun _ => ?_)
    exact ⟨true, _, rfl, by omega, nofun, hbx⟩
  · refine c_skip ?_; refine xtn ?_; (iterate 2 (refine c_seq ?_))
    have h2' : 0 ≤ left - 1 ∧ deep ≤ 80 := by
      simp only [Bool.or_eq_false_iff, decide_eq_false_iff_not] at h2
      omega
    refine c_region ?_; (iterate 4 (refine sq S ?_; clear S; intro a S)); refine wl_nil ?_; refine xtn ?_; refine c_block ?_
    refine c_fore2 S (fun (k : Nat) (lf : Int) uu => [(6, uu 6), (1, uu 8), (28, .int .i64 (k : Nat)), (0, uu 38), (0, uu 39), (0, uu 40), (0, uu 41), (0, uu 42), (0, uu 43), (0, uu 44), (0, uu 45), (0, uu 46)]) (fun (k : Nat) (lf : Int) => [Wk.box b3 24 t.cells, Wk.box b 3 [.int .i64 lf]]) (fun (k : Nat) (lf : Int) => [LtF t]) (fun (k : Nat) (lf : Int) => k ≤ t.kids.length ∧ 0 ≤ lf ∧ lf ≤ left) (fun (k : Nat) (lf : Int) => t.kids.length - k) (0) (left - 1) ?_ S.uu ?_ ?_
    · exact ⟨Nat.zero_le _, by omega, by omega⟩
    · first | exact S | exact S.sub _ _
    · clear S; rintro k lf uu a w ⟨hk, hlf, hlf'⟩ S
      refine c_seq ?_; refine c_region ?_; refine sq S ?_; clear S; intro a S; refine wl_nil ?_; refine xtn ?_; refine c_seq ?_
      refine c_cond S (fun h5 => ?_) (fun h5 => ?_)
      · refine c_skip ?_; refine xtn ?_; refine c_seq ?_; refine c_block ?_; refine c_seq ?_
        have hkl : k < t.kids.length := by simp at h5; omega
        have hK : KLt k t.kids.length := ⟨hkl⟩
        refine c_region ?_; (iterate 2 (refine sq S ?_; clear S; intro a S))
        refine sa S ?_; clear S; intro b8 a w S
        refine sw S ?_; clear S; intro a w S; refine wl_nil ?_; refine xtn ?_; refine c_seq ?_; refine c_region ?_; (iterate 3 (refine sq S ?_; clear S; intro a S))
        rw [w64 (deep + 1) (by omega) (by omega)] at S
        refine sq S ?_; clear S; intro a S
        have hst : Stable (fun k => k = b) w (LtF (nthL t.kids k)) := (S.t (nthL t.kids k)).less fun j _ hj => ⟨Wk.box b 3 [.int .i64 lf], by simp, by rw [hj]; rfl⟩
        refine sb S (b := b) (ih (nthL t.kids k) (deep + 1) lf b w (by have := LTerm.kid_lt (nth_mem hkl); omega) (by omega) (by omega) hlf (by omega) hst (S.box b)) ?_; clear S
        rintro v a w ⟨r, n, rfl, hn1, hn2, hcb⟩ hS
        have S := hS [.int .i64 _] _ inferInstance hcb
        clear hS
        refine wl_nil ?_; refine xtn ?_
        refine c_cond S (fun h7 => ?_) (fun h7 => ?_)
        · refine c_seq ?_; refine c_region ?_; refine sq S ?_; clear S; intro a S; refine wl_nil ?_; refine xtn ?_; refine c_ret ?_; refine xbr ?_; (iterate 2 (refine xtr ?_)); refine xbr ?_; refine xtr ?_
          have hbx := S.box b
          refine fin1 S (fun _ => ?_)
          exact ⟨true, _, rfl, by omega, nofun, hbx⟩
        · refine c_skip ?_; refine xbn ?_; refine xtn ?_; refine c_region ?_; (iterate 2 (refine sq S ?_; clear S; intro a S)); refine wl_nil ?_; refine xtn ?_
          rw [w64 ((k : Int) + 1) (by omega) (by omega)] at S
          exact ⟨k + 1, n, S.uu, ⟨hkl, hn2 h7, by omega⟩, S.sub _ _, by omega⟩
      · refine c_exit ?_; (iterate 2 (refine xte ?_)); refine xbe ?_; refine xtn ?_; refine c_seq ?_; refine c_region ?_; refine sq S ?_; clear S; intro a S; refine wl_nil ?_; refine xtn ?_; refine c_ret ?_
        have hbx := S.box b
        refine fin1 S (fun _ => ?_)
        exact ⟨false, _, rfl, by omega, fun _ => hlf, hbx⟩
theorem over15_c (t : LTerm) (w0 : World) (hf : Stable (fun _ => False) w0 (LtF t)) : Ret Tryz.prog 7 [vL t] w0 (fun _ => False) fun v _ => ∃ b, v = .bool b := by
  refine enter Tryz.func7 rfl rfl (Wd.begin (fs := [LtF t]) (by simpa using hf)) (fun a S => ?_)
  simp only [Tryz.ntmps7, List.length_cons, List.length_nil, Nat.reduceAdd, Nat.reduceSub, List.replicate_succ, List.replicate_zero, List.cons_append, List.nil_append] at S
  refine c_seq ?_; refine c_region ?_
  refine sa S ?_; clear S; intro b1 a w S
  refine sq S ?_; clear S; intro a S; refine wl_nil ?_; refine xtn ?_; refine c_seq ?_; refine c_region ?_
  refine sa S ?_; clear S; intro b3 a w S
  refine sw S ?_; clear S; intro a w S; refine wl_nil ?_; refine xtn ?_; refine c_seq ?_; refine c_region ?_; refine sq S ?_; clear S; intro a S
  have hst : Stable (fun k => k = b3) w (LtF t) := (S.t t).less fun j _ hj => ⟨Wk.box b3 3 [.int .i64 1500], by simp, by rw [hj]; rfl⟩
  refine sb S (b := b3) (large15_c _ t 1 1500 b3 w (Nat.le_refl _) (by omega) (by omega) (by omega) (by omega) hst (S.box b3)) ?_; clear S
  rintro v a w ⟨r, n, rfl, hn1, hn2, hcb⟩ hS
  have S := hS [.int .i64 _] _ inferInstance hcb
  clear hS
  refine sq S ?_; clear S; intro a S; refine wl_nil ?_; refine xtn ?_; refine c_ret ?_
  refine end1 S (fun _ => ⟨r, rfl⟩)
theorem overm_c (m : LMeta) (w0 : World) (hf : Stable (fun _ => False) w0 (InF m)) : Ret Tryz.prog 11 [vMeta m] w0 (fun _ => False) fun v _ => ∃ b, v = .bool b ∧ (b = false → FitMeta m) := by
  have h0 := hf.now
  have hm : (maxLen : Nat) ≤ 9223372036854775807 := by decide
  have hpl : m.past.xs.length ≤ 9223372036854775807 := Nat.le_trans (Nat.le_trans h0.2.1.1 h0.2.1.2.1) hm
  refine enter Tryz.func11 rfl rfl (Wd.begin (fs := [InF m]) (by simpa using hf)) (fun a S => ?_)
  simp only [Tryz.ntmps11, List.length_cons, List.length_nil, Nat.reduceAdd, Nat.reduceSub, List.replicate_succ, List.replicate_zero, List.cons_append, List.nil_append] at S
  refine c_seq ?_; refine c_region ?_
  refine sa S ?_; clear S; intro b1 a w S
  refine sq S ?_; clear S; intro a S; refine wl_nil ?_; refine xtn ?_; refine c_seq ?_
  refine c_mrge1 S (fun (b1' : Bool) uu => [(5, uu 5), (0, uu 6), (0, uu 7), (0, uu 8), (0, uu 9), (0, uu 10), (0, uu 11), (0, uu 12), (0, uu 13), (0, uu 14), (0, uu 15), (0, uu 16), (0, uu 17), (0, uu 18), (0, uu 19), (0, uu 20), (0, uu 21), (0, uu 22), (0, uu 23), (0, uu 24), (0, uu 25), (0, uu 26), (0, uu 27), (0, uu 28), (0, uu 29), (0, uu 30), (0, uu 31), (0, uu 32), (0, uu 33), (0, uu 34), (0, uu 35), (0, uu 36), (0, uu 37), (0, uu 38), (0, uu 39), (0, .bool b1')]) (fun (b1' : Bool) => [Wk.box b1 32 (cMeta m)]) (fun (b1' : Bool) => [InF m]) (fun (b1' : Bool) => b1' = false → m.name.length ≤ 1000 ∧ m.perm.rd.xs.length ≤ 100 ∧ m.perm.wr.xs.length ≤ 100 ∧ m.perm.gr.xs.length ≤ 100 ∧ m.past.xs.length ≤ 100) ?_ ?_
  · refine c_region ?_; (iterate 5 (refine sq S ?_; clear S; intro a S)); (iterate 5 (refine gQ S ?_; clear S; intro a S)); (iterate 2 (refine sq S ?_; clear S; intro a S)); (iterate 5 (refine gQ S ?_; clear S; intro a S)); (iterate 2 (refine sq S ?_; clear S; intro a S)); (iterate 5 (refine gQ S ?_; clear S; intro a S)); (iterate 2 (refine sq S ?_; clear S; intro a S)); (iterate 4 (refine gQ S ?_; clear S; intro a S))
    (iterate 2 (refine sq S ?_; clear S; intro a S))
    refine gS S (fun hs S => ?_) (fun hs S => ?_)
    · refine gF' S ?_; clear S; intro a S; (iterate 2 (refine gF' S ?_; clear S; intro a S)); refine sq S ?_; clear S; intro a S; refine wl_nil ?_; refine xtn ?_
      exact ⟨true, S.uu, nofun, S.sub _ _⟩
    · refine gT' S ?_; refine sq S ?_; clear S; intro a S; refine gT' S ?_; refine sq S ?_; clear S; intro a S; refine gT' S ?_
      refine sr S (over15_c m.boxes _ (S.t0 m.boxes)) ?_; clear S; rintro _ a w ⟨bo, rfl⟩ S
      refine sq S ?_; clear S; intro a S; refine wl_nil ?_; refine xtn ?_
      refine ⟨_, S.uu, fun _ => ?_, S.sub _ _⟩
      simp only [Bool.or_eq_false_iff, decide_eq_false_iff_not] at hs
      omega
  · clear S; rintro b1' uu a w hb1 S
    refine c_cond S (fun h1 => ?_) (fun h1 => ?_)
    · refine c_seq ?_; refine c_region ?_; refine sq S ?_; clear S; intro a S; refine wl_nil ?_; refine xtn ?_; refine c_ret ?_; refine xtr ?_
      refine end1 S (fun _ => ⟨true, rfl, nofun⟩)
    · refine c_skip ?_; refine xtn ?_; (iterate 2 (refine c_seq ?_)); refine c_region ?_; (iterate 4 (refine sq S ?_; clear S; intro a S)); refine wl_nil ?_; refine xtn ?_; refine c_block ?_
      have hbb := hb1 (by simpa using h1)
      refine c_fore1 S (fun (k : Nat) uu => [(2, uu 2), (1, uu 4), (39, .int .i64 (k : Nat)), (0, uu 45), (0, uu 46), (0, uu 47), (0, uu 48), (0, uu 49), (0, uu 50), (0, uu 51)]) (fun (k : Nat) => [Wk.box b1 32 (cMeta m)]) (fun (k : Nat) => [InF m]) (fun (k : Nat) => k ≤ m.past.xs.length ∧ ∀ j, j < k → (nthG m.past.xs j).xs.length ≤ 100) (fun (k : Nat) => m.past.xs.length - k) (0) ?_ S.uu ?_ ?_
      · exact ⟨Nat.zero_le _, fun j hj => by omega⟩
      · first | exact S | exact S.sub _ _
      · clear S; rintro k uu a w ⟨hk, hrel⟩ S
        refine c_seq ?_; refine c_region ?_; refine sq S ?_; clear S; intro a S; refine wl_nil ?_; refine xtn ?_; refine c_seq ?_
        refine c_cond S (fun h4 => ?_) (fun h4 => ?_)
        · refine c_skip ?_; refine xtn ?_; refine c_seq ?_; refine c_block ?_; refine c_seq ?_
          have hkl : k < m.past.xs.length := by have := of_decide_eq_true h4; omega
          have hK : KLt k m.past.xs.length := ⟨hkl⟩
          refine c_region ?_; (iterate 3 (refine sq S ?_; clear S; intro a S)); refine wl_nil ?_; refine xtn ?_; refine c_seq ?_; refine c_region ?_; (iterate 3 (refine sq S ?_; clear S; intro a S)); refine wl_nil ?_; refine xtn ?_
          refine c_cond S (fun h6 => ?_) (fun h6 => ?_)
          · refine c_seq ?_; refine c_region ?_; refine sq S ?_; clear S; intro a S; refine wl_nil ?_; refine xtn ?_; refine c_ret ?_; refine xbr ?_; (iterate 2 (refine xtr ?_)); refine xbr ?_; refine xtr ?_
            refine end1 S (fun _ => ⟨true, rfl, nofun⟩)
          · refine c_skip ?_; refine xbn ?_; refine xtn ?_; refine c_region ?_; (iterate 2 (refine sq S ?_; clear S; intro a S)); refine wl_nil ?_; refine xtn ?_
            have h7 : ¬ 100 < (nthG m.past.xs k).xs.length := by
              intro h; rw [decide_eq_true (by omega)] at h6; cases h6
            rw [w64 ((k : Int) + 1) (by omega) (by omega)] at S
            refine ⟨k + 1, S.uu, ⟨hkl, fun j hj => ?_⟩, S.sub _ _, by omega⟩
            rcases Nat.lt_or_ge j k with h | h
            · exact hrel j h
            · obtain rfl : j = k := by omega
              omega
        · refine c_exit ?_; (iterate 2 (refine xte ?_)); refine xbe ?_; refine xtn ?_; refine c_seq ?_; refine c_region ?_; refine sq S ?_; clear S; intro a S; refine wl_nil ?_; refine xtn ?_; refine c_ret ?_
          have hke : k = m.past.xs.length := by have := of_decide_eq_false h4; omega
          refine end1 S (fun _ => ⟨false, rfl, fun _ => ⟨by omega, by omega, by omega, by omega, by omega, fun s hs => ?_⟩⟩)
          obtain ⟨j, hj⟩ := List.getElem?_of_mem hs
          have hjl := (List.getElem?_eq_some_iff.1 hj).1
          have := hrel j (by omega)
          rw [show nthG m.past.xs j = s from by rw [nthG, List.getD_eq_getElem?_getD, hj]; rfl] at this
          omega
theorem int_ok {m : LMeta} (h : metOk m.m) : IntMeta m := by
  obtain ⟨-, -, -, h4, h5, h6, h7, -⟩ := metOk_rng h
  exact ⟨i64_ok h4, i64_ok h5, i64_ok h6, fun s hs => i64_ok (h7 _ (List.mem_map.2 ⟨s, hs, rfl⟩))⟩
theorem MReadR.yes {M : Nat → Prop} {m : Met} {leaf : Int} {v : Value} {w : World} (h : MReadR M (metaT m leaf) v w) (hm : metOk m) (hg : Good (metaT m leaf)) : ∃ n : LMeta, v = .tuple ⟨[vMeta n, .int .i64 leaf, .int .i64 0]⟩ ∧ Stable M w (InF n) ∧ FitMeta n ∧ n.m = m := by
  obtain ⟨n, l, e, rfl, hs, hf, -, h1, h2⟩ := h
  by_cases he : e = 0
  · subst he
    obtain ⟨q1, q2, -⟩ := h1 rfl
    obtain ⟨q3, q4⟩ := metaT_inj hm q1 q2
    exact ⟨n, by rw [q4], hs, hf, q3.symm⟩
  · exact absurd hg ((h2 he).2.2.2 m leaf hm rfl)
theorem MMakeR.yes {M : Nat → Prop} {m : Met} {leaf : Int} {v : Value} {w : World} (h : MMakeR M m leaf v w) (hm : metOk m) (hl : 0 ≤ leaf ∧ leaf ≤ 65535) (hg : Good (metaT m leaf)) : ∃ t : LTerm, v = .tuple ⟨[vL t, .int .i64 0]⟩ ∧ Stable M w (LtF t) ∧ t.t = metaT m leaf := by
  obtain ⟨t, e, rfl, hs, h1, h2⟩ := h
  by_cases he : e = 0
  · subst he
    exact ⟨t, rfl, hs, (h1 rfl).2.2.2⟩
  · rcases (h2 he).2 with q | q | q
    · exact absurd hm q.2
    · exact absurd hl q.2.2
    · exact absurd hg q.2.2.2
abbrev wkM (r : LTerm) : LMeta := ⟨[102], 2, ⟨1, 1, zL, zL, zL⟩, ⟨none, 0, []⟩, r⟩
theorem wk_ok {r : LTerm} (hr : r.t = listT [uBox (freshL 1 1).t 1]) (hg : Good r.t) : metOk (wkM r).m := by
  refine ⟨rfl, nofun, [⟨1, 0, sealT 1 (freshL 1 1).t⟩], ⟨hg, hr, fun b hb => ?_, by simp, by simp⟩, List.Perm.refl _, rfl⟩
  rw [List.mem_singleton.1 hb]
  exact .inl ⟨show (1 : Int) ≤ 1 by omega, show (1 : Int) ≤ 6 by omega, rfl, _, rfl⟩
theorem wk_good {r : LTerm} (hr : r.t = listT [uBox (freshL 1 1).t 1]) (hg : Good r.t) : Good (metaT (wkM r).m 7) := by
  have hc : cnt r.t ≤ 20 ∧ dpt r.t ≤ 20 := by rw [hr]; decide
  have ht : ∀ s : List UInt8, s.length ≤ 64 → Good (textT s) ∧ cnt (textT s) ≤ 20 ∧ dpt (textT s) ≤ 20 := fun s hs => ⟨good_text hs, by simp [textT, cnt, cntL], by simp [textT, dpt, dptL]⟩
  obtain ⟨h1, h2, h3⟩ := listT_good (metaL (wkM r).m) (fun x hx => by
    simp only [metaL, List.mem_cons, List.not_mem_nil, or_false] at hx
    rcases hx with rfl | rfl | rfl | rfl | rfl | rfl | rfl | rfl | rfl | rfl
    · exact ht _ (show metaS.length ≤ 64 by decide)
    · exact ht _ (show [(102 : UInt8)].length ≤ 64 by decide)
    · exact ht _ (show (Lib.itoa (max 2 0)).length ≤ 64 from itoa_len (by omega))
    · exact ht _ (show (Lib.itoa (max 1 0)).length ≤ 64 from itoa_len (by omega))
    · exact ht _ (show (Lib.itoa (max 1 0)).length ≤ 64 from itoa_len (by omega))
    · exact ht [] (by decide)
    · exact ht [] (by decide)
    · exact ht [] (by decide)
    · exact ht [] (by decide)
    · exact ⟨hg, hc⟩) (by simp [metaL])
  simp only [metaL, List.length_cons, List.length_nil] at h2 h3
  exact good_sign ⟨show (1 : Int) ≤ 1 by omega, show (1 : Int) ≤ 6 by omega⟩ ⟨by omega, by omega⟩ h1 (by simp only [metaL]; omega) (by simp only [metaL]; omega)
theorem wakes15_c (w0 : World) (ht : Stable (fun _ => False) w0 LibF) : Ret Tryz.prog 6 [] w0 (fun _ => False) fun v _ => v = .bool true := by
  refine enter Tryz.func6 rfl rfl (Wd.begin (fs := [TabF, LibF]) (by simp; exact ⟨ht.imp fun _ h => h.1, ht⟩)) (fun a S => ?_)
  simp only [Tryz.ntmps6, List.length_cons, List.length_nil, Nat.reduceAdd, Nat.reduceSub, List.replicate_succ, List.replicate_zero, List.cons_append, List.nil_append] at S
  refine c_seq ?_; refine c_region ?_; refine sq S ?_; clear S; intro a S; refine wl_nil ?_; refine xtn ?_; refine c_seq ?_; refine c_region ?_; refine sq S ?_; clear S; intro a S; refine sc S ?_; clear S; intro a w S
  obtain ⟨pp, hpp⟩ : ∃ pp : LPerm, pp = ⟨1, 1, zL, zL, zL⟩ := ⟨_, rfl⟩
  have hs : SmallT (freshL 1 1).t := ⟨good_fresh (by omega) (by omega), by decide, by decide⟩
  have hi : ∀ M : Nat → Prop, Stable M w (InF pp) := fun _ w' _ => by rw [hpp]; exact ⟨⟨Nat.le_refl 0, Nat.zero_le _, gl_nil⟩, ⟨Nat.le_refl 0, Nat.zero_le _, gl_nil⟩, ⟨Nat.le_refl 0, Nat.zero_le _, gl_nil⟩⟩
  have hst : ∀ M : Nat → Prop, Stable M w (LtF (freshL 1 1)) := fun _ w' _ => by simp [freshL, LtIn, LsIn, LtF]
  have hmk := make_c pp (freshL 1 1) [] none 0 _ w (foots_lt S) (hi _) (hst _) (fun _ _ => gl_nil) (by simp) hs nofun (by rw [hpp]; nofun)
  have hpv : vPerm pp = .agg ⟨[.int .i64 1, .int .i64 1, .slice none 0 0, .slice none 0 0, .slice none 0 0]⟩ := by rw [hpp]; rfl
  rw [hpv] at hmk
  refine sr S hmk ?_; clear S hi hst hmk; rintro _ a w hmR S
  rcases hmR with ⟨h, -⟩ | ⟨-, us, r, hper, hur, rfl, hr, hrg, hrf⟩
  · rw [hpp] at h; cases h
  replace S := S.add hrf
  rw [hpp] at hper hr
  obtain rfl : us = [1] := List.perm_singleton.1 hper
  replace hr : r.t = listT [uBox (freshL 1 1).t 1] := hr
  have hok := wk_ok hr hrg
  have hgd := wk_good hr hrg
  (iterate 3 (refine sq S ?_; clear S; intro a S))
  refine sa S ?_; clear S; intro b1 a w S
  refine sw S ?_; clear S; intro a w S; refine sq S ?_; clear S; intro a S; refine wl_nil ?_; refine xtn ?_; refine c_seq ?_; refine c_region ?_; (iterate 3 (refine sq S ?_; clear S; intro a S))
  refine sr S (mmake_c (wkM r) 7 ⟨by simp, by simp, by simp, by simp, by simp, nofun⟩ int_ok _ w (foots_lt S) (S.mem.fact TabF) ((S.t r).imp fun _ h => ⟨⟨⟨Nat.le_refl 0, Nat.zero_le _, gl_nil⟩, ⟨Nat.le_refl 0, Nat.zero_le _, gl_nil⟩, ⟨Nat.le_refl 0, Nat.zero_le _, gl_nil⟩⟩, ⟨Nat.le_refl 0, Nat.zero_le _, gl_nil⟩, h⟩)) ?_; clear S; rintro _ a w hmR S
  obtain ⟨t, rfl, htf, htt⟩ := hmR.yes hok (by omega) hgd
  replace S := S.add htf
  (iterate 3 (refine sq S ?_; clear S; intro a S))
  refine sa S ?_; clear S; intro b3 a w S
  refine sw S ?_; clear S; intro a w S; refine sq S ?_; clear S; intro a S; refine wl_nil ?_; refine xtn ?_; refine c_seq ?_; refine c_region ?_; refine sq S ?_; clear S; intro a S
  refine sr S (mread_c t _ w (foots_lt S) (S.mem.fact LibF) (S.t t)) ?_; clear S; rintro _ a w hR S
  rw [htt] at hR
  obtain ⟨n, rfl, hnf, hnfit, hnm⟩ := hR.yes hok hgd
  replace S := S.add hnf
  have q1 : n.name = [102] := congrArg Met.name hnm
  have q2 : n.version = 2 := congrArg Met.version hnm
  have q3 : t.user = 1 := by
    have := htt
    rw [t.t_eq, metaT, signT, Term.mk.injEq] at this
    exact this.2.1
  (iterate 4 (refine sq S ?_; clear S; intro a S))
  refine sa S ?_; clear S; intro b5 a w S
  refine sw S ?_; clear S; intro a w S; (iterate 2 (refine sq S ?_; clear S; intro a S)); refine wl_nil ?_; refine xtn ?_; refine c_seq ?_; refine c_region ?_; (iterate 3 (refine sq S ?_; clear S; intro a S)); (iterate 2 (refine gQ S ?_; clear S; intro a S)); (iterate 2 (refine sq S ?_; clear S; intro a S)); (iterate 2 (refine gQ S ?_; clear S; intro a S)); (iterate 2 (refine sq S ?_; clear S; intro a S))
  (iterate 3 (refine gQ S ?_; clear S; intro a S)); (iterate 2 (refine sq S ?_; clear S; intro a S)); (iterate 3 (refine gQ S ?_; clear S; intro a S)); (iterate 2 (refine sq S ?_; clear S; intro a S)); (iterate 2 (refine gQ S ?_; clear S; intro a S)); (iterate 2 (refine sq S ?_; clear S; intro a S)); (iterate 3 (refine gQ S ?_; clear S; intro a S)); (iterate 2 (refine sq S ?_; clear S; intro a S))
  refine wl_nil ?_; refine xtn ?_; refine c_ret ?_
  refine end1 S (fun _ => ?_)
  simp [q1, q2, q3]
instance callMSame {fs : List (World → Prop)} {bs : List Wk.Item} {x y : LMeta} [h : HasI fs x] [h2 : HasI fs y] [hc : FitC x] : CallV Tryz.prog 14 [vMeta x, vMeta y] bs fs (.bool (msameB x.m y.m)) := ⟨fun w m => msame_c x y hc.fit w (m.i0 x) (m.i0 y)⟩
theorem metaback_c (m : LMeta) (leaf user : Int) (w0 : World) (ht : Stable (fun _ => False) w0 LibF) (hf : Stable (fun _ => False) w0 (InF m)) : Ret Tryz.prog 4 [vMeta m, .int .i64 leaf, .int .i64 user] w0 (fun _ => False) fun v _ => v = .bool true := by
  refine enter Tryz.func4 rfl rfl (Wd.begin (fs := [TabF, LibF, InF m]) (by simp; exact ⟨ht.imp fun _ h => h.1, ht, hf⟩)) (fun a S => ?_)
  simp only [Tryz.ntmps4, List.length_cons, List.length_nil, Nat.reduceAdd, Nat.reduceSub, List.replicate_succ, List.replicate_zero, List.cons_append, List.nil_append] at S
  refine c_seq ?_; refine c_region ?_
  refine sa S ?_; clear S; intro b3 a w S
  refine sq S ?_; clear S; intro a S; refine wl_nil ?_; refine xtn ?_; (iterate 2 (refine c_seq ?_)); refine c_region ?_
  refine sr S (wakes15_c _ (S.mem.fact0 LibF)) ?_; clear S; rintro _ a w rfl S
  refine sq S ?_; clear S; intro a S
  rw [show (!true) = false from rfl] at S
  refine wl_nil ?_; refine xtn ?_; refine c_condF S ?_; refine c_skip ?_; refine xtn ?_; (iterate 2 (refine c_seq ?_)); refine c_region ?_; refine sq S ?_; clear S; intro a S
  refine sr S (overm_c m _ (S.mem.i0 m)) ?_; clear S; rintro _ a w ⟨bo, rfl, hfit⟩ S
  refine wl_nil ?_; refine xtn ?_
  refine c_cond S (fun h3 => ?_) (fun h3 => ?_)
  · refine c_seq ?_; refine c_region ?_; refine sq S ?_; clear S; intro a S; refine wl_nil ?_; refine xtn ?_; refine c_ret ?_; refine xtr ?_
    refine end1 S (fun _ => rfl)
  · refine c_skip ?_; refine xtn ?_; refine c_seq ?_
    have hfit := hfit (by simpa using h3)
    have hC : FitC m := ⟨hfit⟩
    refine c_region ?_; (iterate 2 (refine sq S ?_; clear S; intro a S))
    refine sr S (mmake_c m leaf hfit int_ok _ w (foots_lt S) (S.mem.fact TabF) (S.i m)) ?_; clear S; rintro _ a w ⟨t, e, rfl, htf, he0, he1⟩ S
    replace S := S.add htf
    (iterate 3 (refine sq S ?_; clear S; intro a S))
    refine sa S ?_; clear S; intro b7 a w S
    refine sw S ?_; clear S; intro a w S; refine sq S ?_; clear S; intro a S; refine wl_nil ?_; refine xtn ?_; (iterate 2 (refine c_seq ?_)); refine c_region ?_; (iterate 2 (refine sq S ?_; clear S; intro a S)); refine wl_nil ?_; refine xtn ?_
    refine c_cond S (fun h6 => ?_) (fun h6 => ?_)
    · refine c_seq ?_; refine c_region ?_; refine sq S ?_; clear S; intro a S; refine sc S ?_; clear S; intro a w S; (iterate 2 (refine sq S ?_; clear S; intro a S)); refine wl_nil ?_; refine xtn ?_; refine c_ret ?_; refine xtr ?_
      have hz := (he1 (by simpa using h6)).1
      refine end1 S (fun _ => ?_)
      rw [hz]; rfl
    · refine c_skip ?_; refine xtn ?_; refine c_seq ?_
      obtain ⟨hok, hlf, hg, htt⟩ := he0 (by simpa using h6)
      have hk : t.kids.length = 1 ∧ (nthL t.kids 0).t = listT (metaL m.m) := by
        have e := htt
        rw [t.t_eq, metaT, signT, Term.mk.injEq] at e
        obtain ⟨-, -, -, -, e⟩ := e
        match h : t.kids, e with
        | [x], e => simp only [List.map_cons, List.map_nil, List.cons.injEq, and_true] at e; exact ⟨rfl, e⟩
        | _ :: _ :: _, e => simp at e
      have hK0 : KLt 0 t.kids.length := ⟨by omega⟩
      refine c_region ?_; refine sq S ?_; clear S; intro a S
      refine sr S (mread_c t _ w (foots_lt S) (S.mem.fact LibF) (S.t t)) ?_; clear S; rintro _ a w hR S
      rw [htt] at hR
      obtain ⟨n, rfl, hnf, hnfit, hnm⟩ := hR.yes hok hg
      replace S := S.add hnf
      have hms : msameB m.m n.m = true := msameB_iff.2 hnm.symm
      (iterate 4 (refine sq S ?_; clear S; intro a S))
      refine sa S ?_; clear S; intro b9 a w S
      refine sw S ?_; clear S; intro a w S; (iterate 2 (refine sq S ?_; clear S; intro a S)); refine wl_nil ?_; refine xtn ?_; (iterate 2 (refine c_seq ?_)); refine c_region ?_; (iterate 3 (refine sq S ?_; clear S; intro a S)); (iterate 3 (refine gQ S ?_; clear S; intro a S)); (iterate 2 (refine sq S ?_; clear S; intro a S)); (iterate 2 (refine gQ S ?_; clear S; intro a S)); refine gC S ?_; clear S; intro a w S
      refine gQ S ?_; clear S; intro a S; refine sq S ?_; clear S; intro a S; refine wl_nil ?_; refine xtn ?_
      refine c_cond S (fun h9 => ?_) (fun h9 => ?_)
      · refine c_seq ?_; refine c_region ?_; refine sq S ?_; clear S; intro a S; refine wl_nil ?_; refine xtn ?_; refine c_ret ?_; refine xtr ?_
        exfalso
        simp [hms] at h9
      · refine c_skip ?_; refine xtn ?_; (iterate 2 (refine c_seq ?_)); refine c_region ?_; (iterate 5 (refine sq S ?_; clear S; intro a S)); refine wl_nil ?_; refine xtn ?_
        refine c_cond S (fun h11 => ?_) (fun h11 => ?_)
        · refine c_seq ?_; refine c_region ?_; (iterate 6 (refine sq S ?_; clear S; intro a S))
          refine sr S (sign_c user leaf (nthL t.kids 0) _ w (foots_lt S) (S.t (nthL t.kids 0))) ?_; clear S; rintro _ a w ⟨z, rfl, hz, hzf⟩ S
          replace S := S.add hzf
          refine sr S (mread_c z _ w (foots_lt S) (S.mem.fact LibF) (S.t z)) ?_; clear S; rintro _ a w ⟨q, l, e3, rfl, hqf, -, -, hq0, hq1⟩ S
          replace S := S.add hqf
          have he3 : e3 = 251 := by
            by_cases h : e3 = 0
            · obtain ⟨k1, k2, -⟩ := hq0 h
              rw [hz, hk.2, metaT] at k2
              obtain ⟨u1, u2, u3⟩ := signT_inj k2
              have u4 := metaL_inj hok k1 (listT_injM u3)
              have h12 : ¬ user = m.perm.owner := by simpa using h11
              exact absurd (show user = m.perm.owner by rw [u1, ← u4]; rfl) h12
            · exact (hq1 h).1
          (iterate 4 (refine sq S ?_; clear S; intro a S))
          refine sa S ?_; clear S; intro b11 a w S
          refine sw S ?_; clear S; intro a w S; (iterate 2 (refine sq S ?_; clear S; intro a S)); refine wl_nil ?_; refine xtn ?_; refine c_seq ?_; refine c_region ?_; (iterate 3 (refine sq S ?_; clear S; intro a S)); refine wl_nil ?_; refine xtn ?_; refine c_ret ?_; refine xtr ?_
          refine end1 S (fun _ => ?_)
          rw [he3]; rfl
        · refine c_skip ?_; refine xtn ?_; refine c_seq ?_; refine c_region ?_; refine sq S ?_; clear S; intro a S; refine wl_nil ?_; refine xtn ?_; refine c_ret ?_
          refine end1 S (fun _ => rfl)
theorem metaapart_c (x y : LMeta) (leaf : Int) (w0 : World) (ht : Stable (fun _ => False) w0 LibF) (hx : Stable (fun _ => False) w0 (InF x)) (hy : Stable (fun _ => False) w0 (InF y)) : Ret Tryz.prog 5 [vMeta x, vMeta y, .int .i64 leaf] w0 (fun _ => False) fun v _ => v = .bool true := by
  refine enter Tryz.func5 rfl rfl (Wd.begin (fs := [TabF, LibF, InF x, InF y]) (by simp; exact ⟨ht.imp fun _ h => h.1, ht, hx, hy⟩)) (fun a S => ?_)
  simp only [Tryz.ntmps5, List.length_cons, List.length_nil, Nat.reduceAdd, Nat.reduceSub, List.replicate_succ, List.replicate_zero, List.cons_append, List.nil_append] at S
  refine c_seq ?_; refine c_region ?_
  refine sa S ?_; clear S; intro b3 a w S
  refine sa S ?_; clear S; intro b4 a w S
  refine sq S ?_; clear S; intro a S; refine wl_nil ?_; refine xtn ?_; (iterate 2 (refine c_seq ?_)); refine c_region ?_
  refine sr S (wakes15_c _ (S.mem.fact0 LibF)) ?_; clear S; rintro _ a w rfl S
  refine sq S ?_; clear S; intro a S
  rw [show (!true) = false from rfl] at S
  refine wl_nil ?_; refine xtn ?_; refine c_condF S ?_; refine c_skip ?_; refine xtn ?_; refine c_seq ?_
  refine c_mrge1 S (fun (bo : Bool) uu => [(14, uu 14), (0, uu 15), (0, uu 16), (0, uu 17), (0, uu 18), (0, .bool bo)]) (fun (bo : Bool) => [Wk.box b4 32 (cMeta y), Wk.box b3 32 (cMeta x)]) (fun (bo : Bool) => [TabF, LibF, InF x, InF y]) (fun (bo : Bool) => bo = false → FitMeta x ∧ FitMeta y) ?_ ?_
  · refine c_region ?_; refine sq S ?_; clear S; intro a S
    refine sr S (overm_c x _ (S.mem.i0 x)) ?_; clear S; rintro _ a w ⟨bo1, rfl, hfit1⟩ S
    refine sq S ?_; clear S; intro a S
    refine gS S (fun hs S => ?_) (fun hs S => ?_)
    · refine gF' S ?_; clear S; intro a S; refine gF' S ?_; clear S; intro a S; refine sq S ?_; clear S; intro a S; refine wl_nil ?_; refine xtn ?_
      exact ⟨true, S.uu, nofun, S.sub _ _⟩
    · refine gT' S ?_; refine sq S ?_; clear S; intro a S; refine gT' S ?_
      refine sr S (overm_c y _ (S.mem.i0 y)) ?_; clear S; rintro _ a w ⟨bo2, rfl, hfit2⟩ S
      refine sq S ?_; clear S; intro a S; refine wl_nil ?_; refine xtn ?_
      exact ⟨_, S.uu, fun h => ⟨hfit1 (by simpa using hs), hfit2 h⟩, S.sub _ _⟩
  · clear S; rintro bo uu a w hbo S
    refine c_cond S (fun h3 => ?_) (fun h3 => ?_)
    · refine c_seq ?_; refine c_region ?_; refine sq S ?_; clear S; intro a S; refine wl_nil ?_; refine xtn ?_; refine c_ret ?_; refine xtr ?_
      refine end1 S (fun _ => rfl)
    · refine c_skip ?_; refine xtn ?_; refine c_seq ?_
      obtain ⟨hfit1, hfit2⟩ := hbo (by simpa using h3)
      have hC1 : FitC x := ⟨hfit1⟩
      have hC2 : FitC y := ⟨hfit2⟩
      refine c_region ?_; (iterate 2 (refine sq S ?_; clear S; intro a S))
      refine sr S (mmake_c x leaf hfit1 int_ok _ w (foots_lt S) (S.mem.fact TabF) (S.i x)) ?_; clear S; rintro _ a w ⟨t, e, rfl, htf, he0, -⟩ S
      replace S := S.add htf
      (iterate 3 (refine sq S ?_; clear S; intro a S))
      refine sa S ?_; clear S; intro b7 a w S
      refine sw S ?_; clear S; intro a w S; refine sq S ?_; clear S; intro a S; refine wl_nil ?_; refine xtn ?_; refine c_seq ?_; refine c_region ?_; (iterate 2 (refine sq S ?_; clear S; intro a S))
      refine sr S (mmake_c y leaf hfit2 int_ok _ w (foots_lt S) (S.mem.fact TabF) (S.i y)) ?_; clear S; rintro _ a w ⟨u, e2, rfl, huf, hu0, -⟩ S
      replace S := S.add huf
      (iterate 3 (refine sq S ?_; clear S; intro a S))
      refine sa S ?_; clear S; intro b9 a w S
      refine sw S ?_; clear S; intro a w S; refine sq S ?_; clear S; intro a S; refine wl_nil ?_; refine xtn ?_; (iterate 2 (refine c_seq ?_)); refine c_region ?_; (iterate 3 (refine sq S ?_; clear S; intro a S)); (iterate 2 (refine gQ S ?_; clear S; intro a S)); refine sq S ?_; clear S; intro a S; refine wl_nil ?_; refine xtn ?_
      refine c_cond S (fun h7 => ?_) (fun h7 => ?_)
      · refine c_seq ?_; refine c_region ?_; refine sq S ?_; clear S; intro a S; refine wl_nil ?_; refine xtn ?_; refine c_ret ?_; refine xtr ?_
        refine end1 S (fun _ => rfl)
      · refine c_skip ?_; refine xtn ?_; (iterate 2 (refine c_seq ?_))
        have hee : e = 0 ∧ e2 = 0 := by
          simp only [Bool.or_eq_false_iff, Bool.not_eq_false', decide_eq_true_eq] at h7
          exact h7
        obtain ⟨hok1, hlf, hg1, htt1⟩ := he0 hee.1
        obtain ⟨hok2, -, hg2, htt2⟩ := hu0 hee.2
        have hsame : sameF t.t u.t = msameB x.m y.m := by
          rw [Bool.eq_iff_iff, sameF_iff, msameB_iff, htt1, htt2]
          exact ⟨fun h => (metaT_inj hok1 hok2 h).1, fun h => by rw [h]⟩
        refine c_drawD [(0, true), (1, true), (3, true), (4, true), (2, false), (5, false), (6, true)] [] S ?_; clear S; intro w S
        (iterate 4 (refine dq S ?_; clear S; intro a S)); refine dl ?_; refine sc S ?_; clear S; intro a w S; refine de S ?_; refine dl ?_; refine sc S ?_; clear S; intro a w S; refine de S ?_; refine dq S ?_; clear S; intro a S; refine dn ?_; refine xtn ?_
        refine c_cond S (fun h9 => ?_) (fun h9 => ?_)
        · refine c_seq ?_; refine c_region ?_; refine sq S ?_; clear S; intro a S; refine wl_nil ?_; refine xtn ?_; refine c_ret ?_; refine xtr ?_
          exfalso
          rw [hsame] at h9
          simp at h9
        · refine c_skip ?_; refine xtn ?_; refine c_seq ?_; refine c_region ?_; (iterate 3 (refine sq S ?_; clear S; intro a S))
          have hd : 0 ≤ leaf.tdiv 2 ∧ leaf.tdiv 2 ≤ 65535 := by
            rw [Int.tdiv_eq_ediv_of_nonneg hlf.1]; omega
          rw [w64 (leaf.tdiv 2) (by omega) (by omega)] at S
          refine sr S (mmake_c x (leaf.tdiv 2) hfit1 int_ok _ w (foots_lt S) (S.mem.fact TabF) (S.i x)) ?_; clear S; rintro _ a w hmR S
          obtain ⟨z, rfl, hzf, hzt⟩ := hmR.yes hok1 hd (good_metaT hg1 hd)
          replace S := S.add hzf
          have hsz : sameF t.t z.t = decide (leaf = leaf.tdiv 2) := by
            rw [Bool.eq_iff_iff, sameF_iff, decide_eq_true_eq, htt1, hzt]
            exact ⟨fun h => (metaT_inj hok1 hok1 h).2, fun h => by rw [← h]⟩
          (iterate 3 (refine sq S ?_; clear S; intro a S))
          refine sa S ?_; clear S; intro b11 a w S
          refine sw S ?_; clear S; intro a w S; refine sq S ?_; clear S; intro a S; refine wl_nil ?_; refine xtn ?_; refine c_seq ?_; refine c_region ?_; (iterate 3 (refine sq S ?_; clear S; intro a S)); (iterate 2 (refine gQ S ?_; clear S; intro a S)); refine gC S ?_; clear S; intro a w S; (iterate 5 (refine gQ S ?_; clear S; intro a S)); (iterate 2 (refine sq S ?_; clear S; intro a S)); refine wl_nil ?_
          refine xtn ?_; refine c_ret ?_
          refine end1 S (fun _ => ?_)
          simp [hsz, w64 (leaf.tdiv 2) (by omega) (by omega)]
end Go.Proofs.YtibkkbknnfehlaaGreatDoor