/- 2: a part of this claim's texts, joined: W3 Inst Octet. -/
import Derived.Test.YtdakncgafdnjfaaGreatPb1
import Derived.Deep.AppendSrc
import Derived.Laws.MakeOwn
import Derived.Laws.BytesString
import Derived.MapKept
import Derived.ProofKit
import Derived.OpenShut
import Derived.Carry
import Derived.Deep.Slices
import Derived.Test.YtdakncgafdnjfaaGreatProg
namespace Go.Wk
open Go

/-! an item gives way to another one -/
theorem Wd.swap {w0 M0 w w' fs} {pre post : List Item} {x y : Item} (h : Wd w0 M0 w (pre ++ x :: post) fs) (hxo : x.own = true) (ha : Agree x.foot w w') (hy : y.holds w')
    (hf : ∀ k, y.foot k → x.foot k ∨ w.heap.size ≤ k) (hlt : ∀ k, y.foot k → k < w'.heap.size)
    (hloc : ∀ w1 w2 : World, (∀ k, y.foot k → w2.heap[k]? = w1.heap[k]?) → y.holds w1 → y.holds w2) : Wd w0 M0 w' (pre ++ y :: post) fs := by
  have hm : x ∈ pre ++ x :: post := by simp
  have hap := List.pairwise_append.1 h.apart
  have hap2 := List.pairwise_cons.1 hap.2.1
  have hin : ∀ it, it ∈ pre ∨ it ∈ post → it ∈ pre ++ x :: post := fun it hi => by rcases hi with hi | hi <;> simp [hi]
  have hne : ∀ it, it ∈ pre ∨ it ∈ post → ∀ k, it.foot k → ¬ x.foot k := by
    rintro it (hi | hi) k hk hxk
    · exact hap.2.2 it hi x (by simp) k hk hxk
    · exact hap2.1 it hi k hxk hk
  have hney : ∀ it, it ∈ pre ∨ it ∈ post → ∀ k, it.foot k → ¬ y.foot k := fun it hi k hk hyk => by
    rcases hf k hyk with h1 | h1
    · exact hne it hi k hk h1
    · exact absurd (h.lt it (hin it hi) k hk) (by omega)
  have hkeep : ∀ it, it ∈ pre ∨ it ∈ post → it.holds w' := fun it hi =>
    h.loc it (hin it hi) w w' (fun k hk => ha.blk (h.lt it (hin it hi) k hk) (hne it hi k hk)) (h.held it (hin it hi))
  have mem' : ∀ it, it ∈ pre ++ y :: post → it = y ∨ it ∈ pre ∨ it ∈ post := fun it hi => by
    rcases List.mem_append.1 hi with hi | hi
    · exact .inr (.inl hi)
    · rcases List.mem_cons.1 hi with rfl | hi
      · exact .inl rfl
      · exact .inr (.inr hi)
  refine ⟨?_, ?_, ?_, ?_, ?_, ?_, ?_⟩
  · refine h.agree.trans' ha fun k hk hx => ?_
    rcases h.own _ hm hxo k hx with h1 | h1
    · exact h1
    · omega
  · intro it hi
    rcases mem' it hi with rfl | hi
    · exact hy
    · exact hkeep it hi
  · intro it hi k hk
    rcases mem' it hi with rfl | hi
    · exact hlt k hk
    · exact Nat.lt_of_lt_of_le (h.lt it (hin it hi) k hk) ha.size
  · intro it hi ho k hk
    rcases mem' it hi with rfl | hi
    · rcases hf k hk with h1 | h1
      · exact h.own _ hm hxo k h1
      · exact .inr (Nat.le_trans h.agree.size h1)
    · exact h.own it (hin it hi) ho k hk
  · refine List.pairwise_append.2 ⟨hap.1, List.pairwise_cons.2 ⟨fun it hi k hk hk' => hney it (.inr hi) k hk' hk, hap2.2⟩, fun a ha b hb => ?_⟩
    rcases List.mem_cons.1 hb with rfl | hb
    · exact fun k hk hk' => hney a (.inl ha) k hk hk'
    · exact hap.2.2 a ha b (by simp [hb])
  · intro Φ hΦ w'' hw''
    refine h.facts Φ hΦ w'' ⟨hw''.1.trans ha.1, hw''.2.1.trans ha.2.1, hw''.2.2.1.trans ha.2.2.1, Nat.le_trans ha.size hw''.size, fun k hk hn => ?_⟩
    have hnx : ¬ x.foot k := fun hx => hn ⟨x, hm, hx⟩
    rw [hw''.blk (Nat.lt_of_lt_of_le hk ha.size) ?_, ha.blk hk hnx]
    rintro ⟨it, hi, hik⟩
    rcases mem' it hi with rfl | hi
    · rcases hf k hik with h1 | h1
      · exact hnx h1
      · omega
    · exact hn ⟨it, hin it hi, hik⟩
  · intro it hi
    rcases mem' it hi with rfl | hi
    · exact hloc
    · exact h.loc it (hin it hi)
class ReplI (bs : List Item) (x y : Item) (bs' : outParam (List Item)) : Prop where
  ex : ∃ pre post, bs = pre ++ x :: post ∧ bs' = pre ++ y :: post
instance ri0 {x y : Item} {bs : List Item} : ReplI (x :: bs) x y (y :: bs) := ⟨[], bs, rfl, rfl⟩
instance (priority := 900) ri1 {x y u : Item} {bs bs' : List Item} [h : ReplI bs x y bs'] : ReplI (u :: bs) x y (u :: bs') := ⟨by
  obtain ⟨pre, post, e1, e2⟩ := h.ex; exact ⟨u :: pre, post, by rw [e1]; rfl, by rw [e2]; rfl⟩⟩
/-- a new item, in new memory. -/
theorem Wd.more {w0 M0 w bs fs} {y : Item} (h : Wd w0 M0 w bs fs) (hy : y.holds w) (hn : ∀ k, y.foot k → w0.heap.size ≤ k) (hlt : ∀ k, y.foot k → k < w.heap.size) (hap : ∀ it ∈ bs, ∀ k, y.foot k → ¬ it.foot k)
    (hfs : ∀ Φ ∈ fs, Stable (foots (y :: bs)) w Φ) (hloc : ∀ w1 w2 : World, (∀ k, y.foot k → w2.heap[k]? = w1.heap[k]?) → y.holds w1 → y.holds w2) : Wd w0 M0 w (y :: bs) fs := by
  refine ⟨h.agree, ?_, ?_, ?_, List.pairwise_cons.2 ⟨hap, h.apart⟩, hfs, ?_⟩
  · intro it hi; exact (List.mem_cons.1 hi).elim (fun q => by subst q; exact hy) (fun hi => h.held it hi)
  · intro it hi; exact (List.mem_cons.1 hi).elim (fun q => by subst q; exact hlt) (fun hi => h.lt it hi)
  · intro it hi; exact (List.mem_cons.1 hi).elim (fun q => by subst q; exact fun _ k hk => .inr (hn k hk)) (fun hi => h.own it hi)
  · intro it hi; exact (List.mem_cons.1 hi).elim (fun q => by subst q; exact hloc) (fun hi => h.loc it hi)

/-! what lies in a slice's places -/
class Enc (α : Type) where
  sz : Nat
  cells : α → List Value
  len : ∀ x, (cells x).length = sz
  one : ∀ x, ∀ u ∈ cells x, u.oneCell' = true
def encL {α : Type} [Enc α] (xs : List α) : List Value := xs.flatMap Enc.cells
theorem encL_nil {α : Type} [Enc α] : encL (α := α) [] = [] := rfl
theorem encL_cons {α : Type} [Enc α] (x : α) (xs : List α) : encL (x :: xs) = Enc.cells x ++ encL xs := by simp [encL]
theorem encL_append {α : Type} [Enc α] (xs ys : List α) : encL (xs ++ ys) = encL xs ++ encL ys := by simp [encL]
theorem encL_len {α : Type} [Enc α] (xs : List α) : (encL xs).length = xs.length * Enc.sz α := by
  induction xs with
  | nil => simp [encL]
  | cons x xs ih => rw [encL_cons, List.length_append, ih, Enc.len, List.length_cons, Nat.add_mul]; omega
theorem encL_one {α : Type} [Enc α] (xs : List α) : ∀ u ∈ encL xs, u.oneCell' = true := fun u hu => by
  obtain ⟨x, _, hx⟩ := List.mem_flatMap.1 hu
  exact Enc.one x u hx
theorem encL_get {α : Type} [Enc α] : ∀ (xs : List α) (k : Nat) (x : α), xs[k]? = some x → ∀ j, j < Enc.sz α → (encL xs)[k * Enc.sz α + j]? = (Enc.cells x)[j]?
  | [], k, x, h, j, hj => by simp at h
  | y :: ys, 0, x, h, j, hj => by
    simp at h; subst h
    rw [encL_cons, List.getElem?_append_left (by rw [Enc.len]; omega)]
    simp
  | y :: ys, k + 1, x, h, j, hj => by
    rw [encL_cons, List.getElem?_append_right (by rw [Enc.len, Nat.add_mul]; omega), Enc.len]
    have := encL_get ys k x (by simpa using h) j hj
    rw [← this]
    congr 1
    rw [Nat.add_mul]; omega
theorem encL_take {α : Type} [Enc α] (xs : List α) (m : Nat) : (encL xs).take (m * Enc.sz α) = encL (xs.take m) := by
  by_cases hm : m ≤ xs.length
  · conv => lhs; rw [← List.take_append_drop m xs, encL_append]
    rw [List.take_append_of_le_length (by rw [encL_len]; simp [hm]), List.take_of_length_le (by rw [encL_len]; simp [Nat.min_eq_left hm])]
  · rw [List.take_of_length_le (by rw [encL_len]; exact Nat.mul_le_mul_right _ (by omega)), List.take_of_length_le (by omega)]
instance encT : Enc LTerm := ⟨5, LTerm.cells, fun _ => rfl, fun x u hu => by
  simp only [LTerm.cells, List.mem_cons, List.not_mem_nil, or_false] at hu
  rcases hu with rfl | rfl | rfl | rfl | rfl <;> rfl⟩
instance encB : Enc UInt8 := ⟨1, fun b => [.int .u8 b.toNat], fun _ => rfl, fun x u hu => by obtain rfl := List.mem_singleton.1 hu; rfl⟩
instance encI : Enc Int := ⟨1, fun b => [.int .i64 b], fun _ => rfl, fun x u hu => by obtain rfl := List.mem_singleton.1 hu; rfl⟩
instance encS : Enc (List UInt8) := ⟨1, fun s => [str s], fun _ => rfl, fun x u hu => by obtain rfl := List.mem_singleton.1 hu; rfl⟩
/-- the byte that a number is laid as. -/
def u8 (n : Int) : UInt8 := UInt8.ofNat (n % 256).toNat
theorem u8_wrap (n : Int) : IntKind.u8.wrap n = ((u8 n).toNat : Int) := by
  unfold IntKind.wrap u8
  simp only [IntKind.bits, IntKind.signed, Bool.false_and]
  rw [UInt8.toNat_ofNat']
  simp
  omega
/-- these cells are these things. -/
class Dec {α : Type} [Enc α] (cs : List Value) (xs : outParam (List α)) : Prop where eq : cs = encL xs
class FlatR (xs : List Value) : Prop where all : ∀ u ∈ xs, u.oneCell' = true
instance flatR1 {α : Type} [Enc α] {xs : List α} : FlatR (encL xs) := ⟨encL_one xs⟩
class LenN {α : Type} (xs : List α) (n : Nat) : Prop where eq : xs.length = n
instance lenn {α : Type} {xs : List α} : LenN xs xs.length := ⟨rfl⟩

/-! rows: slices of one's own -/
def row (e : TypeId) (sz : Nat) (p : Option Addr) (n c : Nat) (xs : List Value) : Item where
  foot := fun k => ∃ ad, p = some ad ∧ k = ad.block
  holds := fun w => w.ownsRow 0 e sz (.slice p n c) n xs
theorem row_loc (e : TypeId) (sz : Nat) (p : Option Addr) (n c : Nat) (xs : List Value) (w1 w2 : World) (h : ∀ k, (row e sz p n c xs).foot k → w2.heap[k]? = w1.heap[k]?) (h1 : (row e sz p n c xs).holds w1) : (row e sz p n c xs).holds w2 := by
  obtain ⟨h2, h3⟩ := h1
  refine ⟨h2, ?_⟩
  rcases h3 with h3 | ⟨g, cap, cur, hv, hb, hg, r⟩
  · exact .inl h3
  · refine .inr ⟨g, cap, cur, hv, hb, ?_, r⟩
    cases hv
    rw [h g ⟨_, rfl, rfl⟩]; exact hg
theorem row_foot_lt {e : TypeId} {sz : Nat} {p : Option Addr} {n c : Nat} {xs : List Value} {w : World} (h : (row e sz p n c xs).holds w) : ∀ k, (row e sz p n c xs).foot k → k < w.heap.size := by
  rintro k ⟨ad, rfl, rfl⟩
  rcases h.2 with ⟨h3, _⟩ | ⟨g, cap, cur, hv, _, hg, _⟩
  · cases h3
  · cases hv; exact (Array.getElem?_eq_some_iff.1 hg).1
class HasRow (bs : List Item) (p : Option Addr) (n : Nat) (e : outParam TypeId) (sz c : outParam Nat) (xs : outParam (List Value)) : Prop where mem : row e sz p n c xs ∈ bs
instance hr0 {e : TypeId} {sz : Nat} {p : Option Addr} {n c : Nat} {xs : List Value} {bs : List Item} : HasRow (row e sz p n c xs :: bs) p n e sz c xs := ⟨List.mem_cons_self ..⟩
instance (priority := 900) hr1 {e : TypeId} {sz : Nat} {p : Option Addr} {n c : Nat} {xs : List Value} {x : Item} {bs : List Item} [h : HasRow bs p n e sz c xs] : HasRow (x :: bs) p n e sz c xs := ⟨List.mem_cons_of_mem _ h.mem⟩
section
variable {P : Program} {r : Option Nat} {ops : Array Oper} {Q : Exit → Act → World → Prop} {w0 : World} {M0 : Nat → Prop} {ds : List Deferred} {a : Act} {w : World} {l : List Value} {bs bs' : List Item} {fs : List (World → Prop)}
  {d : Option Nat} {op : Op} {ty : TypeId} {pos : String} {af : Array Edge} {rest : List Oper} {v : Value} {e : TypeId} {sz : Nat} {p : Option Addr} {n c : Nat} {xs : List Value}
theorem St.row (S : St w0 M0 ds a w l bs fs) (p : Option Addr) (n : Nat) {e : TypeId} {sz c : Nat} {xs : List Value} [h : HasRow bs p n e sz c xs] : w.ownsRow 0 e sz (.slice p n c) n xs := S.wd.held _ h.mem
/-- a nil slice is a row. -/
theorem St.addNil (S : St w0 M0 ds a w l bs fs) (e : TypeId) (sz : Nat) : St w0 M0 ds a w l (Wk.row e sz none 0 0 [] :: bs) fs := by
  have hf : ∀ k, ¬ (Wk.row e sz none 0 0 []).foot k := fun k ⟨ad, h, _⟩ => by cases h
  refine ⟨S.slots, S.defers, S.wd.more (World.ownsRow_nil _ _ _ _) (fun k hk => absurd hk (hf k)) (fun k hk => absurd hk (hf k)) (fun _ _ k hk => absurd hk (hf k)) (fun Φ hΦ => ?_) (row_loc _ _ _ _ _ _)⟩
  refine (S.wd.facts Φ hΦ).less fun k _ ⟨it, hi, hk⟩ => ?_
  rcases List.mem_cons.1 hi with rfl | hi
  · exact absurd hk (hf k)
  · exact ⟨it, hi, hk⟩
theorem run_append_row {w : World} {t tx ty : TypeId} {z : Value} {by_ m : Nat} {x : Value} {news : List Value} [ht : Und P t (.slice e)] [hti : TI P e z sz by_] (hz : z.cells.size = sz) (hown : w.ownsRow 0 e sz (.slice p n c) n xs)
    (hs : Src P sz tx x m news w) (h63 : n + m ≤ maxLen) (hb : (n + m) * by_ ≤ 140737488355328) :
    ∃ p' c' w', (Builtin.append_ #[t, tx] ty #[.slice p n c, x]).run P w = .ok (.slice p' (n + m) c') w' ∧ w'.ownsRow 0 e sz (.slice p' (n + m) c') (n + m) (xs ++ news) ∧
      Agree (fun k => ∃ ad, p = some ad ∧ k = ad.block) w w' ∧ (∀ ad, p' = some ad → (p = some ad) ∨ w.heap.size ≤ ad.block) ∧ (0 < m → p'.isSome) := by
  obtain ⟨i, hi, hz', hsize, hby⟩ := hti.ex
  subst hsize hby
  have htu := ht.eq
  have hlen : (xs ++ news).length = (n + m) * i.size := by rw [List.length_append, hown.1, hs.newsLen, Nat.add_mul]
  have hfit : ∀ old, old < n + m → Builtin.nextslicecap (n + m) old * i.bytes ≤ 281474976710656 := fun old ho => growslice_fits ho hb
  have hcells : ∀ old, ((xs ++ news).toArray ++ Builtin.zeroCells z.cells (grownCap w (n + m) old e - (n + m))).size = grownCap w (n + m) old e * i.size := fun old => by
    have := grownCap_ge w (n + m) old e
    rw [Array.size_append, size_zeroCells, hz, List.size_toArray, hlen, ← Nat.add_mul]
    congr 1; omega
  have grown : ∀ old, (w.drew.alloc (.cells ((xs ++ news).toArray ++ Builtin.zeroCells z.cells (grownCap w (n + m) old e - (n + m))) e)).ownsRow 0 e i.size (.slice (some ⟨w.heap.size, 0, none⟩) (n + m) (grownCap w (n + m) old e)) (n + m) (xs ++ news) := fun old => by
    refine ⟨hlen, .inr ⟨w.heap.size, _, _, rfl, Nat.zero_le _, heap_alloc_new w.drew _, grownCap_ge _ _ _ _, grownCap_le_maxLen w (n + m) old e h63, hcells old, ?_⟩⟩
    rw [← hlen, Array.toList_append]
    exact List.take_left
  have hag : ∀ o, Agree (fun k => ∃ ad, p = some ad ∧ k = ad.block) w (w.drew.alloc o) := fun o => (Agree.drawn _ w _).trans (Agree.alloc _ w.drew o)
  rcases hown.2 with ⟨hv, rfl⟩ | ⟨g, cap, cur, hv, hbg, hg, hnc, hcm, hcs, htake⟩
  · cases hv
    have hx : xs = [] := List.eq_nil_of_length_eq_zero (by simpa using hown.1)
    subst hx
    by_cases hm : m = 0
    · subst hm
      have hn : news = [] := List.eq_nil_of_length_eq_zero (by simpa using hs.newsLen)
      subst hn
      refine ⟨none, 0, w, ?_, World.ownsRow_nil w _ _ _, Agree.refl _ _, (fun _ h => by cases h), (fun h => absurd h (by omega))⟩
      rcases hs.kind with ⟨e', hk⟩ | hk <;> simp [Builtin.append_, run_underlying htu, run_underlying hk, sizeOf, typeInfo, hi, hs.len, hs.cells]
    · have hr := run_append_grow_src (P := P) w t tx ty e i z htu hi hz' none 0 0 [] (by simp [Builtin.firstCells]) x m news hs (by omega) (by simp only [maxLen] at h63; omega) (hfit 0 (by omega))
      exact ⟨_, _, _, hr, grown 0, hag _, fun ad h => .inr (by cases h; exact Nat.le_refl _), fun _ => rfl⟩
  · cases hv
    by_cases hroom : n + m ≤ c
    · have hb0 : ∀ j, j < news.length → n * i.size + j < cur.size := fun j hj => by
        have := Nat.mul_le_mul_right i.size hroom
        rw [hs.newsLen] at hj
        rw [hcs]
        have e1 := Nat.add_mul n m i.size
        omega
      have hcell : ∀ j, w.cell? ⟨g, j, none⟩ = cur[j]? := fun j => cell_of_row w g j cur e (0, 0) hg
      have hr := run_append_room_src (P := P) w t tx ty e i htu hi g 0 n c x m news hs hroom
        (fun j hj => by simp only [Nat.zero_add]; rw [hcell]; simpa using hb0 j hj)
        (fun j hj => by simp [World.frozen?, hg])
      simp only [Nat.zero_add] at hr
      have hfit2 : n * i.size + news.length ≤ cur.size := by
        have := Nat.mul_le_mul_right i.size hroom
        rw [hs.newsLen, hcs, ← Nat.add_mul]; exact this
      have hsc : w.setCells g (n * i.size) news = w.setRow g (cur.toList.take (n * i.size) ++ news ++ cur.toList.drop (n * i.size + news.length)).toArray := by
        have h1 := run_storeCells_cells (P := P) g (n * i.size) news 0 w (fun j hj => by rw [hcell]; simpa using hb0 j hj) (fun j hj => by simp [World.frozen?, hg]) hs.one
        have h2 := run_storeCells_at (P := P) g (n * i.size) e news 0 cur w hg (by simpa using hfit2) hs.one
        rw [h1] at h2
        simp only [Nat.add_zero] at h2
        injection h2
      rw [hsc] at hr
      refine ⟨_, _, _, hr, ⟨hlen, .inr ⟨g, c, _, rfl, Nat.zero_le _, setRow_heap w g cur _ e _ hg, hroom, hcm, ?_, ?_⟩⟩, Agree.setRow w g _ ⟨_, rfl, rfl⟩, fun ad h => .inl h, fun _ => rfl⟩
      · simp only [List.size_toArray, List.length_append, List.length_take, List.length_drop, Array.length_toList]
        omega
      · rw [htake, ← hlen]
        exact List.take_left
    · have hr := run_append_grow_src (P := P) w t tx ty e i z htu hi hz' (some ⟨g, 0, none⟩) n c xs (by
          have := run_firstCells_some (P := P) w.drew i.size n ⟨g, 0, none⟩ n c xs hown.1 (fun j u hu => by simpa using hown.cells (g := g) rfl j u hu)
          simpa using this) x m news hs (by omega) (by simp only [maxLen] at h63; omega) (hfit c (by omega))
      exact ⟨_, _, _, hr, grown c, hag _, fun ad h => .inr (by cases h; exact Nat.le_refl _), fun _ => rfl⟩
end
end Go.Wk

namespace Go.Wk
open Go

/-- what an append's second argument yields. -/
class SrcV (P : Program) (tx : TypeId) (x : Value) (bs : List Item) (fs : List (World → Prop)) (sz : Nat) (m : outParam Nat) (news : outParam (List Value)) : Prop where
  src : ∀ w, Mem w bs fs → Src P sz tx x m news w
instance srcStr {P : Program} {tx : TypeId} {s : List UInt8} {bs : List Item} {fs : List (World → Prop)} [h : Und P tx .string] : SrcV P tx (str s) bs fs 1 s.length (encL s) := ⟨fun w _ => by
  have e := Src.ofString (P := P) w (tx := tx) h.eq ⟨s.toArray⟩
  have h1 : byteCells ⟨s.toArray⟩ = encL s := by
    clear e
    show s.map _ = s.flatMap _
    induction s with
    | nil => rfl
    | cons x xs ih => rw [List.map_cons, List.flatMap_cons, ih]; rfl
  rw [h1] at e
  exact e⟩
class TakeC (cs : List Value) (n : Nat) (vs : outParam (List Value)) : Prop where eq : cs.take n = vs ∧ vs.length = n
instance srcBox {P : Program} {tx e : TypeId} {b m c sz n : Nat} {t : TypeId} {cs : List Value} {bs : List Item} {fs : List (World → Prop)} [h : Und P tx (.slice e)] [hb : HasBox bs b t cs] [hm : MulN m sz n] [hl : LenIs cs n] [hf : Flat cs] :
    SrcV P tx (.slice (some ⟨b, 0, none⟩) m c) bs fs sz m cs := ⟨fun w mm => Src.ofSlice w h.eq _ _ _ _ (by rw [hl.eq, hm.eq]) (fun j u hj => by
      have hj' : j < cs.length := (List.getElem?_eq_some_iff.1 hj).1
      have e : (⟨b, 0, none⟩ : Addr).add j = ⟨b, j, none⟩ := by unfold Addr.add; split <;> simp_all
      rw [e, cell_of_row w b j cs.toArray t (0, 0) mm.box]
      simpa using hj) hf.all⟩
instance (priority := 850) srcRow {P : Program} {tx e e' : TypeId} {p : Option Addr} {m c sz : Nat} {xs : List Value} {bs : List Item} {fs : List (World → Prop)} [h : Und P tx (.slice e)] [hr : HasRow bs p m e' sz c xs] [hf : FlatR xs] :
    SrcV P tx (.slice p m c) bs fs sz m xs := ⟨fun w mm => by
  have hr' : w.ownsRow 0 e' sz (.slice p m c) m xs := mm.held _ hr.mem
  rcases hr'.2 with ⟨hv, rfl⟩ | ⟨g, cap, cur, hv, _, hg, hnc, _, hcs, htake⟩
  · cases hv
    have hx : xs = [] := List.eq_nil_of_length_eq_zero (by simpa using hr'.1)
    subst hx
    exact Src.ofNil w h.eq _
  · cases hv
    exact Src.ofSlice w h.eq _ _ _ _ hr'.1 (hr'.cells (g := g) rfl) hf.all⟩

section
variable {P : Program} {r : Option Nat} {ops : Array Oper} {Q : Exit → Act → World → Prop} {w0 : World} {M0 : Nat → Prop} {ds : List Deferred} {a : Act} {w : World} {l : List Value} {bs : List Item} {fs : List (World → Prop)}
  {d : Option Nat} {op : Op} {ty : TypeId} {pos : String} {af : Array Edge} {rest : List Oper} {v : Value} {e : TypeId} {sz : Nat} {p : Option Addr} {n c : Nat} {xs : List Value}
/-- an append to a row of one's own. -/
theorem sap {x y : Operand} {t tx : TypeId} {z : Value} {by_ m : Nat} {xv : Value} {news : List Value} {l' : Option Addr → Nat → List Value} {bs' : Option Addr → Nat → List Item} (S : St w0 M0 ds a w l bs fs)
    [Ev ⟨[], l⟩ x (.slice p n c)] [Ev ⟨[], l⟩ y xv] [ht : Und P t (.slice e)] [hti : TI P e z sz by_] {zc : List Value} [hzc : Cells z zc] [hzl : LenIs zc sz] [hr : HasRow bs p n e sz c xs] [hs : SrcV P tx xv bs fs sz m news]
    [hp : ∀ p' c', PutO l d (.slice p' (n + m) c') (l' p' c')] [hrep : ∀ p' c', ReplI bs (row e sz p n c xs) (row e sz p' (n + m) c' (xs ++ news)) (bs' p' c')]
    (h63 : n + m ≤ maxLen) (hb : (n + m) * by_ ≤ 140737488355328)
    (K : ∀ p' c' a w, (0 < m → ∃ g, p' = some ⟨g, 0, none⟩) → St w0 M0 ds a w (l' p' c') (bs' p' c') fs → WL P r ops Q rest a w) :
    WL P r ops Q (⟨d, .call { callee := .builtin .append, args := #[x, y], argTypes := #[t, tx] }, ty, pos, af, none⟩ :: rest) a w := by
  refine wl_plain rfl ?_
  rw [semAt_nd rfl]
  obtain ⟨p', c', w', hrun, hown, hag, hnew, hsome⟩ := run_append_row (P := P) (w := w) (t := t) (tx := tx) (ty := ty) (z := z) (by_ := by_) (m := m) (x := xv) (news := news) (by rw [← Array.length_toList, hzc.eq, hzl.eq]) (S.row p n) (hs.src w S.wd.mem) h63 hb
  have e1 : (xop a.eval (.call { callee := .builtin .append, args := #[x, y], argTypes := #[t, tx] }) ty).run P w = .ok (.value (.slice p' (n + m) c')) w' := by
    simp [xop, execOp, resolve, invoke, builtin, S.fr.ev (x := x) (v := .slice p n c), S.fr.ev (x := y) (v := xv), Sem.run_bind, hrun]
  simp only [e1, Oper.uponIn]
  have := hp p' c'
  have S' := S.put (d := d) (v := .slice p' (n + m) c')
  obtain ⟨pre, post, q1, q2⟩ := (hrep p' c').ex
  have hwd := S'.wd
  rw [q1] at hwd
  refine K p' c' _ w' (fun hm => ?_) ⟨S'.slots, S'.defers, ?_⟩
  · rcases hown.2 with ⟨hv, h0⟩ | ⟨g, cap, cur, hv, _⟩
    · omega
    · cases hv; exact ⟨g, rfl⟩
  · rw [q2]
    refine hwd.swap rfl hag hown (fun k ⟨ad, h1, h2⟩ => ?_) (row_foot_lt hown) (row_loc _ _ _ _ _ _)
    rcases hnew ad h1 with h3 | h3
    · exact .inl ⟨ad, h3, h2⟩
    · exact .inr (h2 ▸ h3)
/-- a box is a row. -/
theorem St.boxRow {bs' : List Item} (S : St w0 M0 ds a w l bs fs) (b : Nat) (sz m : Nat) {t : TypeId} {cs : List Value} [HasBox bs b t cs] [hr : ReplI bs (Wk.box b t cs) (Wk.row t sz (some ⟨b, 0, none⟩) m m cs) bs'] (hl : cs.length = m * sz) (hm : m ≤ maxLen) : St w0 M0 ds a w l bs' fs := by
  obtain ⟨pre, post, q1, q2⟩ := hr.ex
  have hwd := S.wd
  have hb := S.box b
  rw [q1] at hwd
  refine ⟨S.slots, S.defers, ?_⟩
  have hown : (Wk.row t sz (some ⟨b, 0, none⟩) m m cs).holds w := ⟨hl, .inr ⟨b, m, _, rfl, Nat.zero_le _, hb, Nat.le_refl _, hm, by simpa using hl, by simp [← hl]⟩⟩
  rw [q2]
  exact hwd.swap rfl (Agree.refl _ _) hown (fun k ⟨ad, h1, h2⟩ => .inl (by cases h1; exact h2)) (row_foot_lt hown) (row_loc _ _ _ _ _ _)
/-- what a call hands back: a row in new memory. -/
theorem Wd.addRow {w' : World} (hold : Wd w0 M0 w bs fs) (hw : Grow w w') {p : Option Addr} {n c : Nat} {e : TypeId} {sz : Nat} {xs : List Value} (h : w'.ownsRow 0 e sz (.slice p n c) n xs) (hn : ∀ ad, p = some ad → w.heap.size ≤ ad.block) :
    Wd w0 M0 w' (Wk.row e sz p n c xs :: bs) fs := by
  have hfoot : ∀ k, (Wk.row e sz p n c xs).foot k → w.heap.size ≤ k := fun k ⟨ad, h1, h2⟩ => h2 ▸ hn ad h1
  refine (hold.step hw).more h (fun k hk => Nat.le_trans hold.agree.size (hfoot k hk)) (row_foot_lt h) (fun it hi k hk hk' => absurd (hold.lt it hi k hk') (by have := hfoot k hk; omega)) (fun Φ hΦ w'' hw'' => ?_) (row_loc _ _ _ _ _ _)
  refine hold.facts Φ hΦ w'' ((hw.mono (fun _ _ h => h.elim)).trans' hw'' fun i hi ⟨it, hm, hk⟩ => ?_)
  rcases List.mem_cons.1 hm with rfl | hm
  · exact absurd (hfoot i hk) (by omega)
  · exact ⟨it, hm, hk⟩
variable {f : Nat} {x : Operand} {ys : List Operand} {args : List Value} {ts : Array TypeId}
/-- a call that hands back a row in new memory. -/
theorem srn {l' : Value → List Value} [EntF P f] [CallTo ⟨[], l⟩ x ys f args] [hp : ∀ v, PutO l d v (l' v)] (S : St w0 M0 ds a w l bs fs) {R : Value → World → Prop} (hc : Ret P f args w (fun _ => False) R)
    (K : ∀ v a w', R v w' → (∀ {p : Option Addr} {n c : Nat} {e : TypeId} {sz : Nat} {xs : List Value}, w'.ownsRow 0 e sz (.slice p n c) n xs → (∀ ad, p = some ad → w.heap.size ≤ ad.block) → St w0 M0 ds a w' (l' v) (Wk.row e sz p n c xs :: bs) fs) → St w0 M0 ds a w' (l' v) bs fs → WL P r ops Q rest a w') :
    WL P r ops Q (⟨d, .call { callee := .value x, args := ys.toArray, argTypes := ts }, ty, pos, af, none⟩ :: rest) a w := by
  refine cv_any S hc ?_
  rintro e w' ⟨v, rfl, ha, hR⟩
  have := hp v
  have S' := S.put (d := d) (v := v)
  exact ⟨v, rfl, K v _ w' hR (fun h hn => ⟨S'.slots, S'.defers, S'.wd.addRow ha h hn⟩) ⟨S'.slots, S'.defers, S'.wd.step ha⟩⟩
/-- a call that may write what one item holds. -/
theorem sri {l' : Value → List Value} (it : Item) [EntF P f] [CallTo ⟨[], l⟩ x ys f args] [hp : ∀ v, PutO l d v (l' v)] (S : St w0 M0 ds a w l bs fs) {R : Value → World → Prop} (hc : Ret P f args w it.foot R) (ho : it.own = true)
    (K : ∀ v a w', R v w' → (∀ (y : Item) (bs' : List Item), ReplI bs it y bs' → y.holds w' → (∀ k, y.foot k → it.foot k ∨ w.heap.size ≤ k) → (∀ k, y.foot k → k < w'.heap.size) → (∀ w1 w2 : World, (∀ k, y.foot k → w2.heap[k]? = w1.heap[k]?) → y.holds w1 → y.holds w2) → St w0 M0 ds a w' (l' v) bs' fs) → WL P r ops Q rest a w') :
    WL P r ops Q (⟨d, .call { callee := .value x, args := ys.toArray, argTypes := ts }, ty, pos, af, none⟩ :: rest) a w := by
  refine cv_any S hc ?_
  rintro e w' ⟨v, rfl, ha, hR⟩
  have := hp v
  have S' := S.put (d := d) (v := v)
  refine ⟨v, rfl, K v _ w' hR fun y bs' hr hy hf hlt hloc => ⟨S'.slots, S'.defers, ?_⟩⟩
  obtain ⟨pre, post, q1, q2⟩ := hr.ex
  have hwd := S'.wd
  rw [q1] at hwd
  rw [q2]
  exact hwd.swap ho ha hy hf hlt hloc
/-- a call that may grow a row, and hands it back. -/
theorem srg {l' : Value → List Value} (p : Option Addr) (n : Nat) {e : TypeId} {sz c : Nat} {xs : List Value} [HasRow bs p n e sz c xs] [EntF P f] [CallTo ⟨[], l⟩ x ys f args] [hp : ∀ v, PutO l d v (l' v)] (S : St w0 M0 ds a w l bs fs) {R : Value → World → Prop} (hc : Ret P f args w (fun k => ∃ ad, p = some ad ∧ k = ad.block) R)
    (K : ∀ v a w', R v w' → (∀ {p' : Option Addr} {n' c' : Nat} {xs' : List Value} (bs' : List Item) [ReplI bs (Wk.row e sz p n c xs) (Wk.row e sz p' n' c' xs') bs'], w'.ownsRow 0 e sz (.slice p' n' c') n' xs' → (∀ ad, p' = some ad → (∃ ad', p = some ad' ∧ ad.block = ad'.block) ∨ w.heap.size ≤ ad.block) → St w0 M0 ds a w' (l' v) bs' fs) → WL P r ops Q rest a w') :
    WL P r ops Q (⟨d, .call { callee := .value x, args := ys.toArray, argTypes := ts }, ty, pos, af, none⟩ :: rest) a w :=
  sri (Wk.row e sz p n c xs) S hc rfl fun v a w' hR hS => K v a w' hR fun bs' hr h hf => hS _ bs' hr h (fun k ⟨ad, h1, h2⟩ => (hf ad h1).imp (fun ⟨ad', h3, h4⟩ => ⟨ad', h3, h2.trans h4⟩) (fun h3 => h2 ▸ h3)) (row_foot_lt h) (row_loc _ _ _ _ _ _)
/-- what a function begins with that is handed a row to grow. -/
theorem Wd.rowLent {w : World} {p : Option Addr} {n c : Nat} {e : TypeId} {sz : Nat} {xs : List Value} {fs : List (World → Prop)} (h : w.ownsRow 0 e sz (.slice p n c) n xs) (hf : ∀ Φ ∈ fs, Stable (fun k => ∃ ad, p = some ad ∧ k = ad.block) w Φ) :
    Wd w (fun k => ∃ ad, p = some ad ∧ k = ad.block) w [Wk.row e sz p n c xs] fs := by
  refine ⟨Agree.refl _ _, ?_, ?_, ?_, by simp, ?_, ?_⟩
  · intro it hi; obtain rfl := List.mem_singleton.1 hi; exact h
  · intro it hi; obtain rfl := List.mem_singleton.1 hi; exact row_foot_lt h
  · intro it hi _ k hk; obtain rfl := List.mem_singleton.1 hi; exact .inl hk
  · intro Φ hΦ
    refine (hf Φ hΦ).less fun k _ hk => ?_
    obtain ⟨it, hi, hk⟩ := hk
    obtain rfl := List.mem_singleton.1 hi; exact hk
  · intro it hi; obtain rfl := List.mem_singleton.1 hi; exact row_loc _ _ _ _ _ _
theorem St.rowNew (S : St w0 M0 ds a w l bs fs) (p : Option Addr) (n : Nat) {e : TypeId} {sz c : Nat} {xs : List Value} [h : HasRow bs p n e sz c xs] : ∀ ad, p = some ad → M0 ad.block ∨ w0.heap.size ≤ ad.block := fun ad hp => S.wd.own _ h.mem rfl _ ⟨ad, hp, rfl⟩
end
end Go.Wk

namespace Go.Wk
open Go

/-! places of a row -/
def rAddr (p : Option Addr) (o : Nat) : Addr := (p.getD ⟨0, 0, none⟩).add o
theorem own_cells {w : World} {e : TypeId} {sz : Nat} {p : Option Addr} {n c : Nat} {xs : List Value} (h : w.ownsRow 0 e sz (.slice p n c) n xs) (hn : 0 < n) : ∃ g cur, p = some ⟨g, 0, none⟩ ∧ w.heap[g]? = some (.cells cur e (0, 0)) ∧ n ≤ c ∧ cur.size = c * sz ∧ cur.toList.take (n * sz) = xs ∧ c ≤ maxLen := by
  rcases h.2 with ⟨_, h0⟩ | ⟨g, cap, cur, hv, _, hg, hnc, hcm, hcs, ht⟩
  · omega
  · cases hv; exact ⟨g, cur, rfl, hg, hnc, hcs, ht, hcm⟩
theorem add_lit (g j : Nat) : (⟨g, 0, none⟩ : Addr).add j = ⟨g, j, none⟩ := by unfold Addr.add; split <;> simp_all
theorem own_cell {w : World} {e : TypeId} {sz : Nat} {p : Option Addr} {n c : Nat} {xs : List Value} (h : w.ownsRow 0 e sz (.slice p n c) n xs) {o j : Nat} {u : Value} (hj : xs[o + j]? = some u) : w.cell? ((rAddr p o).add j) = some u := by
  have hlt : o + j < n * sz := by rw [← h.1]; exact (List.getElem?_eq_some_iff.1 hj).1
  have hn : 0 < n := by rcases Nat.eq_zero_or_pos n with h0 | h0; · subst h0; simp at hlt
                        · exact h0
  obtain ⟨g, cur, rfl, hg, _, _, ht, _⟩ := own_cells h hn
  simp only [rAddr, Option.getD_some]
  rw [add_add, add_lit, cell_of_row w g (o + j) cur e (0, 0) hg, ← Array.getElem?_toList]
  rw [← ht, List.getElem?_take] at hj
  rw [if_pos hlt] at hj
  exact hj
theorem take_set (l vs : List Value) (N o : Nat) (h : o + vs.length ≤ N) (hN : N ≤ l.length) : (l.take o ++ vs ++ l.drop (o + vs.length)).take N = (l.take N).take o ++ vs ++ (l.take N).drop (o + vs.length) := by
  have e1 : (l.take o ++ vs).length = o + vs.length := by simp; omega
  rw [List.take_append, e1, List.take_of_length_le (by omega), List.take_take, Nat.min_eq_left (by omega), List.drop_take]
section
variable {P : Program} {r : Option Nat} {ops : Array Oper} {Q : Exit → Act → World → Prop} {w0 : World} {M0 : Nat → Prop} {ds : List Deferred} {a : Act} {w : World} {l l' : List Value} {bs bs' : List Item} {fs : List (World → Prop)}
  {d : Option Nat} {op : Op} {t ty : TypeId} {pos : String} {af : Array Edge} {rest : List Oper} {v z : Value} {e : TypeId} {sz by_ : Nat} {p : Option Addr} {n c k : Nat} {xs : List Value} {x y : Operand} {kk : IntKind} {m : Int} {lc : Cx}
instance (priority := 950) opIdxR [Ev lc x (.slice p n c)] [Ev lc y (.int kk m)] [Und P t (.slice e)] [TI P e z sz by_] [hm : IsNat m k] {e' : TypeId} {sz' : Nat} [hr : HasRow bs p n e' sz' c xs] [hk : KLt k n] {o : Nat} [hmul : MulN k sz o] :
    OpQ P (.indexAddr t x y) ty lc bs fs (.pointer (some (rAddr p o))) := ⟨fun ρ w h mm => by
  have hrow : w.ownsRow 0 e' sz' (.slice p n c) n xs := mm.held _ hr.mem
  have hlt := hk.lt
  obtain ⟨g, cur, rfl, _⟩ := own_cells hrow (by omega)
  have h2 := hm.eq
  subst h2
  simp [xop, execOp, h.ev (x := x) (v := .slice (some ⟨g, 0, none⟩) n c), h.ev (x := y) (v := .int kk (k : Int))]
  simp [run_indexAt (P := P) (t := t) (e := e) (z := z) (sz := sz) (by_ := by_) (Int.natCast_nonneg k) (Int.ofNat_lt.2 hlt), rAddr, hmul.eq]⟩
/-- a load out of a row: a struct. -/
theorem slrA {o : Nat} (vs : List Value) (S : St w0 M0 ds a w l bs fs) [Ev ⟨[], l⟩ x (.pointer (some (rAddr p o)))] [ha : AggT P t true] [TI P t z sz by_] [hl : LenIs vs sz] [hp : PutO l d (.agg ⟨vs⟩) l']
    (n : Nat) {e' : TypeId} {sz' c : Nat} {xs : List Value} [hr : HasRow bs p n e' sz' c xs] (h : ∀ j v, vs[j]? = some v → xs[o + j]? = some v) (K : ∀ a, St w0 M0 ds a w l' bs fs → WL P r ops Q rest a w) : WL P r ops Q (⟨d, .load t x, ty, pos, af, none⟩ :: rest) a w :=
  slA vs S (fun j v hj => own_cell (S.row p n) (h j v hj)) K
theorem St.reput {bs' : List Item} {w' : World} {x y : Item} (S : St w0 M0 ds a w l bs fs) {a' : Act} {l' : List Value} (hs : a'.tmps = l'.toArray) (hd : a'.defers = ds) [hr : ReplI bs x y bs'] (hxo : x.own = true) (ha : Agree x.foot w w') (hy : y.holds w')
    (hf : ∀ k, y.foot k → x.foot k ∨ w.heap.size ≤ k) (hlt : ∀ k, y.foot k → k < w'.heap.size) (hloc : ∀ w1 w2 : World, (∀ k, y.foot k → w2.heap[k]? = w1.heap[k]?) → y.holds w1 → y.holds w2) : St w0 M0 ds a' w' l' bs' fs := by
  obtain ⟨pre, post, q1, q2⟩ := hr.ex
  have hwd := S.wd
  rw [q1] at hwd
  exact ⟨hs, hd, by rw [q2]; exact hwd.swap hxo ha hy hf hlt hloc⟩
/-- cells of a row are written over. -/
theorem own_set {w : World} (h : w.ownsRow 0 e sz (.slice p n c) n xs) {g o : Nat} {vs : List Value} (hp : p = some ⟨g, 0, none⟩) (ho : o + vs.length ≤ n * sz) (hv : ∀ u ∈ vs, u.oneCell' = true) :
    ∃ w', (storeCells ⟨g, o, none⟩ vs).run P w = .ok () w' ∧ Agree (fun k => ∃ ad, p = some ad ∧ k = ad.block) w w' ∧ w'.ownsRow 0 e sz (.slice p n c) n (xs.take o ++ vs ++ xs.drop (o + vs.length)) := by
  subst hp
  rcases h.2 with ⟨hv, _⟩ | ⟨g', cap, cur, hv', hb, hg, hnc, hcm, hcs, ht⟩
  · cases hv
  · cases hv'
    have hle : o + vs.length ≤ cur.size := by
      have := Nat.mul_le_mul_right sz hnc
      rw [hcs]; omega
    have hrun := run_storeCells_at (P := P) g o e vs 0 cur w hg (by simpa using hle) hv
    simp only [Nat.add_zero] at hrun
    refine ⟨_, hrun, Agree.setRow w g _ ⟨_, rfl, rfl⟩, ?_, .inr ⟨g, c, _, rfl, hb, setRow_heap w g cur _ e _ hg, hnc, hcm, ?_, ?_⟩⟩
    · have h1 := h.1
      simp only [List.length_append, List.length_take, List.length_drop]
      omega
    · simp only [List.size_toArray, List.length_append, List.length_take, List.length_drop, Array.length_toList]
      omega
    · have hcl : n * sz ≤ cur.toList.length := by rw [Array.length_toList, hcs]; exact Nat.mul_le_mul_right sz hnc
      rw [← ht]
      exact take_set _ _ _ _ ho hcl
/-- a store into a row. -/
theorem sws {o sz0 : Nat} {vs : List Value} (S : St w0 M0 ds a w l bs fs) [Ev ⟨[], l⟩ x (.pointer (some (rAddr p o)))] [Ev ⟨[], l⟩ y v] [hc : Cells v vs] [TI P t z sz0 by_] [hl : LenIs vs sz0] [hf : Flat vs]
    (n : Nat) {e : TypeId} {sz c : Nat} {xs : List Value} [hr : HasRow bs p n e sz c xs] [hrep : ReplI bs (row e sz p n c xs) (row e sz p n c (xs.take o ++ vs ++ xs.drop (o + vs.length))) bs'] [hp : PutO l d undef l'] (hn : 0 < n) (ho : o + sz0 ≤ n * sz)
    (K : ∀ a w, St w0 M0 ds a w l' bs' fs → WL P r ops Q rest a w) : WL P r ops Q (⟨d, .store t x y, ty, pos, af, none⟩ :: rest) a w := by
  refine wl_plain rfl ?_
  rw [semAt_nd rfl]
  have hrow := S.row p n
  obtain ⟨g, cur, hpp, _⟩ := own_cells hrow hn
  obtain ⟨w', hrun, hag, hown⟩ := own_set (P := P) hrow (vs := vs) hpp (by rw [hl.eq]; exact ho) hf.all
  have hcs : v.cells = vs.toArray := by rw [← hc.eq]
  have e1 : (xop a.eval (.store t x y) ty).run P w = .ok .skip w' := by
    have : rAddr p o = ⟨g, o, none⟩ := by rw [hpp]; simp [rAddr, add_lit]
    have hx := S.fr.ev (x := x) (v := .pointer (some (rAddr p o)))
    rw [this] at hx
    simp [xop, execOp, Instr.storeAt, hx, S.fr.ev (x := y) (v := v), Instr.sureAddr, storeVar, run_size, Sem.run_bind, hcs, hl.eq, hrun]
  simp only [e1, Oper.uponIn]
  have S' := S.put (d := d) (v := undef) (l' := l')
  exact K _ _ (S.reput (x := row e sz p n c xs) (y := row e sz p n c (xs.take o ++ vs ++ xs.drop (o + vs.length))) S'.slots S'.defers rfl hag hown (fun k h => .inl h) (row_foot_lt hown) (row_loc _ _ _ _ _ _))
end
end Go.Wk

namespace Go.Wk
open Go
section
variable {P : Program} {r : Option Nat} {ops : Array Oper} {Q : Exit → Act → World → Prop} {w0 : World} {M0 : Nat → Prop} {ds : List Deferred} {a : Act} {w : World} {l l' : List Value} {bs bs' : List Item} {fs : List (World → Prop)}
  {d : Option Nat} {op : Op} {t ty : TypeId} {pos : String} {af : Array Edge} {rest : List Oper} {v z : Value} {e : TypeId} {sz by_ : Nat} {p : Option Addr} {n c k : Nat} {xs : List Value} {x y : Operand} {kk kl : IntKind} {m : Int} {lc : Cx}
/-- a slice is made. -/
theorem smk {mi mj : Int} {l' : Nat → List Value} {zc : List Value} (n : Nat) (S : St w0 M0 ds a w l bs fs) [Ev ⟨[], l⟩ x (.int kk mi)] [Ev ⟨[], l⟩ y (.int kl mj)] [ht : Und P t (.slice e)] [hti : TI P e z sz by_] [hzc : Cells z zc] [hzl : LenIs zc sz] [hne : NeN zc]
    [hp : ∀ b, PutO l d (.slice (some ⟨b, 0, none⟩) n n) (l' b)] (hi : mi = n) (hj : mj = n) (hb : by_ * n ≤ 281474976710656) (hm : n ≤ maxLen)
    (K : ∀ b a w, St w0 M0 ds a w (l' b) (row e sz (some ⟨b, 0, none⟩) n n ((List.replicate n zc).flatten) :: bs) fs → WL P r ops Q rest a w) : WL P r ops Q (⟨d, .makeSlice t x y, ty, pos, af, none⟩ :: rest) a w := by
  refine wl_plain rfl ?_
  rw [semAt_nd rfl]
  subst hi hj
  obtain ⟨i, hi, hz, hs, hby⟩ := hti.ex
  have hz' : z.cells = zc.toArray := by rw [← hzc.eq]
  have hlen : zc.length = sz := hzl.eq
  have hb' : (i.bytes : Int) * (n : Int) ≤ 281474976710656 := by
    have h : ((by_ * n : Nat) : Int) ≤ 281474976710656 := by omega
    rw [hby]; rwa [Int.natCast_mul] at h
  have hr := run_make (P := P) w t e i z ht.eq hi hz kk kl n n (by omega) (Int.le_refl _) hb' (by simp only [maxLen] at hm; omega)
  have hcells : madeCells z.cells ((n : Int).toNat * i.size) = ((List.replicate n zc).flatten).toArray := by
    rw [← range_rep n zc hne.ne, hz', hs, ← hlen]; rfl
  rw [hcells] at hr
  simp only [Int.toNat_natCast] at hr
  have e1 : (xop a.eval (.makeSlice t x y) ty).run P w = .ok (.value (.slice (some ⟨w.heap.size, 0, none⟩) n n)) (w.alloc (.cells ((List.replicate n zc).flatten).toArray e)) := by
    simp [xop, execOp, S.fr.ev (x := x) (v := .int kk (n : Int)), S.fr.ev (x := y) (v := .int kl (n : Int)), Sem.run_bind, hr]
  simp only [e1, Oper.uponIn]
  have := hp w.heap.size
  have S' := S.put (d := d) (v := .slice (some ⟨w.heap.size, 0, none⟩) n n)
  have S2 : St w0 M0 ds _ _ (l' w.heap.size) (box w.heap.size e ((List.replicate n zc).flatten) :: bs) fs := ⟨S'.slots, S'.defers, S'.wd.alloc e ((List.replicate n zc).flatten)⟩
  exact K _ _ _ (S2.boxRow w.heap.size sz n (by simp [hlen]) hm)
/-- bytes are copied to a row's begin. -/
theorem scp {tx : TypeId} {m : Nat} {xv : Value} {news : List Value} (S : St w0 M0 ds a w l bs fs) [Ev ⟨[], l⟩ x (.slice p n c)] [Ev ⟨[], l⟩ y xv] [ht : Und P t (.slice e)] [hti : TI P e z sz by_] [hr : HasRow bs p n e sz c xs] [hs : SrcV P tx xv bs fs sz m news]
    [hrep : ReplI bs (row e sz p n c xs) (row e sz p n c (news ++ xs.drop (m * sz))) bs'] [hp : PutO l d (.int .i64 m) l'] (hle : m ≤ n) (K : ∀ a w, St w0 M0 ds a w l' bs' fs → WL P r ops Q rest a w) :
    WL P r ops Q (⟨d, .call { callee := .builtin .copy, args := #[x, y], argTypes := #[t, tx] }, ty, pos, af, none⟩ :: rest) a w := by
  refine wl_plain rfl ?_
  rw [semAt_nd rfl]
  have hsrc := hs.src w S.wd.mem
  have hrow := S.row p n
  have S' := S.put (d := d) (v := .int .i64 (m : Int)) (l' := l')
  have hmin : Nat.min m n = m := Nat.min_eq_left hle
  have hlen := hsrc.newsLen
  suffices h : ∃ w', (Builtin.copy_ #[t, tx] ty #[.slice p n c, xv]).run P w = .ok (.int .i64 m) w' ∧ Agree (fun k => ∃ ad, p = some ad ∧ k = ad.block) w w' ∧ w'.ownsRow 0 e sz (.slice p n c) n (news ++ xs.drop (m * sz)) by
    obtain ⟨w', hrun, hag, hown⟩ := h
    have e1 : (xop a.eval (.call { callee := .builtin .copy, args := #[x, y], argTypes := #[t, tx] }) ty).run P w = .ok (.value (.int .i64 m)) w' := by
      simp [xop, execOp, resolve, invoke, builtin, S.fr.ev (x := x) (v := .slice p n c), S.fr.ev (x := y) (v := xv), Sem.run_bind, hrun]
    simp only [e1, Oper.uponIn]
    exact K _ _ (S.reput (x := row e sz p n c xs) (y := row e sz p n c (news ++ xs.drop (m * sz))) S'.slots S'.defers rfl hag hown (fun k h => .inl h) (row_foot_lt hown) (row_loc _ _ _ _ _ _))
  have hpre : ∀ w', (storeCells (p.getD ⟨0, 0, none⟩) news).run P w = .ok () w' → p.isSome = true → (Builtin.copy_ #[t, tx] ty #[.slice p n c, xv]).run P w = .ok (.int .i64 m) w' := by
    intro w' h1 h2
    obtain ⟨ad, rfl⟩ := Option.isSome_iff_exists.1 h2
    simp at h1
    simp [Builtin.copy_, Sem.run_bind, run_und, run_size, hsrc.len, hmin, hsrc.cells, h1, goInt]
  rcases Nat.eq_zero_or_pos n with h0 | h0
  · subst h0
    have hm0 : m = 0 := by omega
    subst hm0
    have hnews : news = [] := List.eq_nil_of_length_eq_zero (by simpa using hlen)
    subst hnews
    refine ⟨w, ?_, Agree.refl _ _, by simpa using hrow⟩
    cases hp : p with
    | none => simp [Builtin.copy_, Sem.run_bind, run_und, run_size, hsrc.len, hsrc.cells, goInt]
    | some ad => rw [← hp]; exact hpre w (by simp [storeCells]) (by simp [hp])
  · obtain ⟨g, cur, hpp, _⟩ := own_cells hrow h0
    obtain ⟨w', hrun, hag, hown⟩ := own_set (P := P) hrow (vs := news) (o := 0) hpp (by rw [hlen]; simpa using Nat.mul_le_mul_right sz hle) hsrc.one
    refine ⟨w', hpre w' (by rw [hpp]; exact hrun) (by simp [hpp]), hag, ?_⟩
    simpa [hlen] using hown
end
/-- what a slice shows, whoever owns it. -/
def SlF (p : Option Addr) (xs : List Value) : World → Prop := fun w => (p = none → xs = []) ∧ ∀ ad, p = some ad → ∀ j u, xs[j]? = some u → w.cell? (ad.add j) = some u
theorem cell_lt {w : World} {ad : Addr} {v : Value} (hc : w.cell? ad = some v) : ad.block < w.heap.size := by
  rcases Nat.lt_or_ge ad.block w.heap.size with h' | h'
  · exact h'
  · unfold World.cell? at hc; rw [Array.getElem?_eq_none h'] at hc; cases hc
theorem add_block (ad : Addr) (j : Nat) : (ad.add j).block = ad.block := by unfold Addr.add; split <;> rfl
theorem SlF.stable {w : World} {p : Option Addr} {xs : List Value} {M : Nat → Prop} (h : SlF p xs w) (hM : ∀ ad, p = some ad → ¬ M ad.block) : Stable M w (SlF p xs) := fun w' hw' => ⟨h.1, fun ad hp j u hj => by
  have hc := h.2 ad hp j u hj
  have hlt := cell_lt hc
  rw [add_block] at hlt
  rw [World.cell?_of_block (w := w) (by rw [add_block]; exact hw'.blk hlt (hM ad hp))]
  exact hc⟩
theorem own_sl {w : World} {e : TypeId} {sz : Nat} {p : Option Addr} {n c : Nat} {xs : List Value} (h : w.ownsRow 0 e sz (.slice p n c) n xs) : SlF p xs w := by
  refine ⟨fun hp => ?_, fun ad hp j u hj => ?_⟩
  · subst hp
    rcases h.2 with ⟨_, rfl⟩ | ⟨g, cap, cur, hv, _⟩
    · exact List.eq_nil_of_length_eq_zero (by simpa using h.1)
    · cases hv
  · have := own_cell h (o := 0) (j := j) (by simpa using hj)
    subst hp
    simpa [rAddr, Addr.add] using this
class HasSl (fs : List (World → Prop)) (p : Option Addr) (xs : outParam (List Value)) : Prop where mem : SlF p xs ∈ fs
instance hsl0 {p : Option Addr} {xs : List Value} {fs : List (World → Prop)} : HasSl (SlF p xs :: fs) p xs := ⟨List.mem_cons_self ..⟩
theorem src_sl {P : Program} {tx e : TypeId} {w : World} {p : Option Addr} {m c sz : Nat} {xs : List Value} (h : P.underlying tx = some (.slice e)) (hs : SlF p xs w) (hl : xs.length = m * sz) (h1 : ∀ u ∈ xs, u.oneCell' = true) (hz : 0 < sz) : Src P sz tx (.slice p m c) m xs w := by
  cases p with
  | none =>
    have := hs.1 rfl
    subst this
    have hm : m = 0 := by
      rcases Nat.eq_zero_or_pos m with h0 | h0
      · exact h0
      · have := Nat.mul_pos h0 hz; simp at hl; omega
    subst hm
    exact Src.ofNil w h c
  | some ad => exact Src.ofSlice w h _ _ _ _ hl (hs.2 ad rfl) h1
instance (priority := 870) srcSlB {P : Program} {tx e : TypeId} {p : Option Addr} {m c : Nat} {ys : List UInt8} {bs : List Item} {fs : List (World → Prop)} [h : Und P tx (.slice e)] [hr : HasSl fs p (encL ys)] [hn : LenN ys m] : SrcV P tx (.slice p m c) bs fs 1 m (encL ys) := ⟨fun w mm =>
  src_sl h.eq (mm.facts _ hr.mem).now (by rw [encL_len, hn.eq]; rfl) (encL_one ys) (by decide)⟩
section
variable {P : Program} {r : Option Nat} {ops : Array Oper} {Q : Exit → Act → World → Prop} {w0 : World} {M0 : Nat → Prop} {ds : List Deferred} {a : Act} {w : World} {l l' : List Value} {bs bs' : List Item} {fs : List (World → Prop)}
  {d : Option Nat} {op : Op} {t t' ty : TypeId} {pos : String} {af : Array Edge} {rest : List Oper} {v z : Value} {e : TypeId} {sz by_ : Nat} {p : Option Addr} {n c k : Nat} {xs : List Value} {x y : Operand} {kk kl : IntKind} {m j : Int} {lc : Cx}
/-- bytes, as a string. -/
theorem bytes_foldl (xs : List UInt8) : ∀ (s : ByteArray), ((xs.map fun b => (b.toNat : Int)).foldl (fun s n => s.push (UInt8.ofNat n.toNat)) s) = ⟨s.data ++ xs.toArray⟩ := by
  induction xs with
  | nil => intro s; simp
  | cons x xs ih => intro s; rw [List.map_cons, List.foldl_cons, ih]; simp [ByteArray.push]
theorem encB_map (ys : List UInt8) : encL ys = (ys.map fun b => (b.toNat : Int)).map (Value.int .u8) := by
  induction ys with
  | nil => rfl
  | cons y ys ih => rw [encL_cons, ih]; rfl
theorem run_str {w : World} {ys : List UInt8} (hs : SlF p (encL ys) w) (hn : ys.length = n) : (Conv.bytesToString (.slice p n c)).run P w = .ok (str ys) w := by
  cases p with
  | none =>
    have := hs.1 rfl
    have : ys = [] := by
      cases ys with
      | nil => rfl
      | cons y ys => simp [encL, Enc.cells] at this
    subst this
    simp [Conv.bytesToString, str]; rfl
  | some ad =>
    have h1 := run_loadCells_list (P := P) w ad (encL ys) (hs.2 ad rfl)
    rw [encL_len, encB_map] at h1
    have h2 := run_bytesToString (P := P) w ad n c (ys.map fun b => (b.toNat : Int)) (by rw [← hn]; simpa [Enc.sz] using h1)
    rw [h2, bytes_foldl]
    simp [str, ByteArray.empty, ByteArray.emptyWithCapacity]
    rfl
class HasBytes (bs : List Item) (fs : List (World → Prop)) (p : Option Addr) (n : Nat) (ys : outParam (List UInt8)) : Prop where of : ∀ w, Mem w bs fs → SlF p (encL ys) w
instance hby1 {p : Option Addr} {n c : Nat} {e : TypeId} {ys : List UInt8} {bs : List Item} {fs : List (World → Prop)} [h : HasRow bs p n e 1 c (encL ys)] : HasBytes bs fs p n ys := ⟨fun _ mm => own_sl (mm.held _ h.mem)⟩
instance opBytesStr {ys : List UInt8} [Ev lc x (.slice p n c)] [Und P t (.slice e)] [Und P e (.int .u8)] [Und P t' .string] [hb : HasBytes bs fs p n ys] [hn : LenN ys n] : OpQ P (.convert t t' x) ty lc bs fs (str ys) := ⟨fun ρ w h mm => by
  have h1 := run_str (P := P) (c := c) (hb.of w mm) hn.eq
  cases p <;> simp [xop, execOp, h.ev (x := x) (v := .slice _ n c), convert, Sem.run_bind, run_und, h1]⟩
instance opShr [Ev lc x (.int kk m)] [Ev lc y (.int kl j)] [hj : IsNat j k] : OpQ P (.binOp .shr t x y t') ty lc bs fs (.int kk (m.fdiv (2 ^ (min k kk.bits)))) := ⟨fun ρ w h _ => by
  have h2 := hj.eq
  subst h2
  have h3 : ¬ ((k : Int) < 0) := by omega
  simp [xop, execOp, h.ev (x := x) (v := .int kk m), h.ev (x := y) (v := .int kl (k : Int)), eqGuard, binOp, Op.shift, h3]⟩
end
theorem wu64 (n : Int) (h1 : 0 ≤ n) (h2 : n ≤ 18446744073709551615) : IntKind.u64.wrap n = n := by
  unfold IntKind.wrap
  simp only [IntKind.bits, IntKind.signed, Bool.false_and]
  simp; omega
theorem wu16 (n : Int) (h1 : 0 ≤ n) (h2 : n ≤ 65535) : IntKind.u16.wrap n = n := by
  unfold IntKind.wrap
  simp only [IntKind.bits, IntKind.signed, Bool.false_and]
  simp; omega
/-- a number, most weighty byte first. -/
def be (k : Nat) (v : Int) : List UInt8 := (List.range k).map fun i => u8 (v.fdiv (2 ^ (8 * (k - 1 - i))))
theorem c_merge {P : Program} {r : Option Nat} {Q : Exit → Act → World → Prop} {a : Act} {w : World} {x y : Code} (I : Act → World → Prop) (hx : Wp P r x (Exit.then I Q) a w) (hy : ∀ a w, I a w → Wp P r y Q a w) : Wp P r (.seq x y) Q a w := by
  refine c_seq (wpIn_mono hx ?_)
  intro e a w h
  cases e <;> first | exact hy _ _ h | exact h
theorem c_drawE {P : Program} {r : Option Nat} {Q : Exit → Act → World → Prop} {w0 : World} {M0 : Nat → Prop} {ds : List Deferred} {a : Act} {w : World} {l : List Value} {bs : List Item} {fs : List (World → Prop)} {id : Nat} {lo : List Oper} (ord : List (Nat × Bool)) (bs0 : List Item) (S : St w0 M0 ds a w l bs fs) (h : ∀ w, St w0 M0 ds a w l bs fs → AQ P lo.toArray (fun w => Wd w0 M0 w bs0 fs) (fun a w => Q .normal a w) ord a w)
    (hm : P.follows .mixedOrders = true := by kernel_rfl) (hd : ((lo.all fun o => !isDefer o.op) && (Nat.beq ord.length lo.length && (Region.noSelect lo.toArray && flowFrom lo.toArray ord (Array.replicate lo.length false)))) = true := by kernel_rfl) : Wp P r (.region id lo.toArray true) Q a w := by
  simp only [Bool.and_eq_true] at hd
  refine wpIn_region_any hm (any_of_ac (C := fun w => Wd w0 M0 w bs0 fs) (fun i o ho => ?_) _ _ _ _ ?_)
  · have := List.all_eq_true.1 hd.1 o (by
      rw [List.getElem?_toArray] at ho
      exact List.mem_of_getElem? ho)
    simpa using this
  · have := h { w with drawn := w.drawn + 1 } ⟨S.slots, S.defers, S.wd.step (Agree.drawn _ w _)⟩ _ hd.2.2.1 hd.2.2.2
    rw [Nat.eq_of_beq_eq_true hd.2.1] at this
    simpa using this
/-- items in another order. -/
theorem Wd.perm {w0 M0 w fs} {bs bs' : List Item} (h : Wd w0 M0 w bs fs) (hp : bs'.Perm bs) : Wd w0 M0 w bs' fs := by
  have hm : ∀ it, it ∈ bs' → it ∈ bs := fun it hi => hp.mem_iff.1 hi
  refine ⟨h.agree, fun it hi => h.held it (hm it hi), fun it hi => h.lt it (hm it hi), fun it hi => h.own it (hm it hi), ?_, fun Φ hΦ => (h.facts Φ hΦ).less fun _ _ ⟨it, hi, hk⟩ => ⟨it, hm it hi, hk⟩, fun it hi => h.loc it (hm it hi)⟩
  exact (hp.pairwise_iff fun hxy k hk hk' => hxy k hk' hk).2 h.apart
theorem St.swap2 {w0 M0 ds a w l fs} {x y z : Item} (S : St w0 M0 ds a w l [x, y, z] fs) : St w0 M0 ds a w l [y, x] fs :=
  ⟨S.slots, S.defers, (S.wd.sub (bs0 := [x, y]) (fs0 := fs) (by simp) (List.Sublist.refl _)).perm (List.Perm.swap _ _ _)⟩
end Go.Wk

namespace Go.Wk
open Go

/-! maps keyed by strings -/
def kvIdx (k : List UInt8) : List (List UInt8 × Value) → Nat → Option (Nat × Value)
  | [], _ => none
  | (u, v) :: kv, i => if k = u then some (i, v) else kvIdx k kv (i + 1)
def kvGet (k : List UInt8) (kv : List (List UInt8 × Value)) : Option Value := (kvIdx k kv 0).map (·.2)
def kvPut (k : List UInt8) (v : Value) : List (List UInt8 × Value) → List (List UInt8 × Value)
  | [] => [(k, v)]
  | (u, x) :: kv => if k = u then (u, v) :: kv else (u, x) :: kvPut k v kv
def ents (es : Array MapEntry) : List (Value × Value) := es.toList.map fun e => (e.key, e.val)
def mp (b : Nat) (kv : List (List UInt8 × Value)) : Item where
  foot := fun k => k = b
  holds := fun w => ∃ es clock, w.heap[b]? = some (.map es clock) ∧ ents es = (kv.map fun x => (str x.1, x.2)) ∧ (∀ e ∈ es.toList, e.born < clock) ∧ (es.toList.map (·.born)).Nodup
class HasMp (bs : List Item) (b : Nat) (kv : outParam (List (List UInt8 × Value))) : Prop where mem : mp b kv ∈ bs
def MpF (b : Nat) (kv : List (List UInt8 × Value)) : World → Prop := (mp b kv).holds
class HasMpF (fs : List (World → Prop)) (b : Nat) (kv : outParam (List (List UInt8 × Value))) : Prop where mem : MpF b kv ∈ fs
/-- what a map holds, whoever owns it. -/
class KvOf (bs : List Item) (fs : List (World → Prop)) (b : Nat) (kv : outParam (List (List UInt8 × Value))) : Prop where of : ∀ w, Mem w bs fs → (mp b kv).holds w
section
variable {P : Program} {r : Option Nat} {ops : Array Oper} {Q : Exit → Act → World → Prop} {w0 : World} {M0 : Nat → Prop} {ds : List Deferred} {a : Act} {w : World} {l l' : List Value} {bs bs' : List Item} {fs : List (World → Prop)}
  {d : Option Nat} {op : Op} {t ty : TypeId} {pos : String} {af : Array Edge} {rest : List Oper} {v z : Value} {e kt et : TypeId} {sz by_ b : Nat} {x y u : Operand} {lc : Cx} {k : List UInt8} {kv : List (List UInt8 × Value)}
end
/-! a variable of somebody else's, that is only read -/
def BoxF (b : Nat) (t : TypeId) (cs : List Value) : World → Prop := (box b t cs).holds
class HasBoxF (fs : List (World → Prop)) (b : Nat) (t : outParam TypeId) (cs : outParam (List Value)) : Prop where mem : BoxF b t cs ∈ fs
instance hbf0 {b : Nat} {t : TypeId} {cs : List Value} {fs : List (World → Prop)} : HasBoxF (BoxF b t cs :: fs) b t cs := ⟨List.mem_cons_self ..⟩
instance (priority := 900) hbf1 {b : Nat} {t : TypeId} {cs : List Value} {Φ : World → Prop} {fs : List (World → Prop)} [h : HasBoxF fs b t cs] : HasBoxF (Φ :: fs) b t cs := ⟨List.mem_cons_of_mem _ h.mem⟩
theorem BoxF.stable {w : World} {b : Nat} {t : TypeId} {cs : List Value} {M : Nat → Prop} (h : BoxF b t cs w) (hM : ¬ M b) : Stable M w (BoxF b t cs) := fun w' hw' => by
  show w'.heap[b]? = some (.cells cs.toArray t (0, 0))
  rw [hw'.blk (Array.getElem?_eq_some_iff.1 h).1 hM]; exact h
instance (priority := 800) opLoadF {P : Program} {ty t bt : TypeId} {l : Cx} {bs : List Item} {fs : List (World → Prop)} {x : Operand} {b off : Nat} {cs : List Value} {v : Value} [Ev l x (.pointer (some ⟨b, off, none⟩))] [hb : HasBoxF fs b bt cs] [ha : AggT P t false] [hn : Nth cs off v] : OpQ P (.load t x) ty l bs fs v := ⟨fun ρ w h m => by
  have hbox : w.heap[b]? = some (.cells cs.toArray bt (0, 0)) := (m.facts _ hb.mem).now
  have hc : w.cell? ⟨b, off, none⟩ = some v := by rw [cell_of_row w b off cs.toArray bt (0, 0) hbox]; simpa using hn.eq
  simp [xop, execOp, Instr.loadAt, h.ev (x := x) (v := .pointer (some ⟨b, off, none⟩)), Instr.sureAddr, loadVar, Sem.run_bind, ha.run, load, Sem.run, hc]⟩
instance (priority := 800) opLoadFA {P : Program} {ty t bt : TypeId} {l : Cx} {bs : List Item} {fs : List (World → Prop)} {x : Operand} {b off n by_ : Nat} {cs vs : List Value} {z : Value} [Ev l x (.pointer (some ⟨b, off, none⟩))] [hb : HasBoxF fs b bt cs] [ha : AggT P t true] [TI P t z n by_] [hn : Seg cs off n vs] : OpQ P (.load t x) ty l bs fs (.agg ⟨vs⟩) := ⟨fun ρ w h m => by
  have hbox : w.heap[b]? = some (.cells cs.toArray bt (0, 0)) := (m.facts _ hb.mem).now
  have hl : (loadCells ⟨b, off, none⟩ n).run P w = .ok vs.toArray w := by
    have := run_loadCells_list (P := P) w ⟨b, off, none⟩ vs (fun j v hj => by
      have hjn : j < n := by rw [← hn.eq.1]; exact (List.getElem?_eq_some_iff.1 hj).1
      have e : (⟨b, off, none⟩ : Addr).add j = ⟨b, off + j, none⟩ := by unfold Addr.add; split <;> simp_all
      have h2 := hn.eq.2 j hjn
      rw [e, cell_of_row w b (off + j) cs.toArray bt (0, 0) hbox]
      simpa [hj] using h2)
    rw [hn.eq.1] at this
    exact this
  simp [xop, execOp, Instr.loadAt, h.ev (x := x) (v := .pointer (some ⟨b, off, none⟩)), Instr.sureAddr, loadVar, Sem.run_bind, ha.run, run_size, hl]⟩
/-- what one owns, as others see it. -/
theorem St.boxF {w0 M0 ds a w l bs fs} (S : St w0 M0 ds a w l bs fs) (b : Nat) {t : TypeId} {cs : List Value} [h : HasBox bs b t cs] : BoxF b t cs w := S.box b
end Go.Wk

namespace Go.Wk
open Go Go.Deep Go.ChangeShapes Go.WideShapes Go.ChangeAt Go.RowKit

/-! what a law's row asks, beside the walk -/
section
variable {H : Type} {enc : TypeId × Value → H} {P : Program}

theorem Agree.below {W W' : World} (h : Agree (fun _ => False) W W') : Below W.heap.size W W' := by
  obtain ⟨h1, h2, h3, h4, h5⟩ := h
  exact ⟨h1, h2, h3, h4, fun k hk => h5 k hk id⟩
theorem trodAll_below (hl : laidOutB P = true) {W W' : World} (hb : Below W.heap.size W W') : ∀ (ts : List TypeId) (vs : List Value) (ds : List (DataW H)) (ps : List MemPlace), (ts.all fun t => P.readableRec t && decide (t < P.types.size)) = true →
    DataW.TrodAll enc P W 0 (fun _ => true) true ts vs ds ps → (∀ x ∈ ps, x.block < W.heap.size) → DataW.TrodAll enc P W' 0 (fun b => decide (b < W.heap.size)) true ts vs ds ps
  | [], [], [], ps, _, h, _ => h
  | t :: ts, v :: vs, d :: ds, ps, hr, ⟨p, q, h1, h2, h3⟩, hlt => by
    simp only [List.all_cons, Bool.and_eq_true, decide_eq_true_eq] at hr
    subst h3
    exact ⟨p, q, Below.trod hl hr.1.1 hr.1.2 h1 hb (fun x hx => hlt x (List.mem_append.2 (.inl hx))), trodAll_below hl hb ts vs ds q (by simpa using hr.2) h2 (fun x hx => hlt x (List.mem_append.2 (.inr hx))), rfl⟩
theorem law_post {f : Func} {s : ChangeSpec} {B : TypeId} {W W' : World} {args : Array Value} {ds gs : List (DataW H)} {before : List MemPlace} (hl : laidOutB P = true) (hp : (f.params.toList.all fun t => P.readableRec t && decide (t < P.types.size)) = true)
    (hB : P.underlying B = some .bool) (hrt : f.resultTypes = #[B]) (hv : s.vars = [])
    (hW : DataW.Whole enc P f.params.toList s.vars false W args.toList ds gs before) (hres : (s.fn H (ds ++ gs)).results = [.lit (.bool true)]) (hargs : (s.fn H (ds ++ gs)).args = ds) (hvars : (s.fn H (ds ++ gs)).vars = [])
    (hA : Agree (fun _ => False) W W') : s.post enc P f false true false false W args (.bool true) W' := by
  have hW' := hW
  obtain ⟨p, q, hA0, hV, rfl, _, _⟩ := hW
  have hlt := hW'.lt
  refine ⟨ds, gs, _, [], p, [], hW', ?_, ?_, ?_, hA.below.frame _, fun h => by cases h⟩
  · rw [hres, hrt]; exact trodAll_mk1 (shut_bool hB _)
  · rw [hargs]; exact trodAll_below hl hA.below _ _ _ _ hp hA0 (fun x hx => hlt x (List.mem_append.2 (.inl hx)))
  · rw [hv, hvars]; exact rfl
end

theorem Ret.law {P : Program} {f : Nat} {args : List Value} {W : World} {R : Ending → World → Prop} (h : Ret P f args W (fun _ => False) fun v _ => v = .bool true)
    (hR : ∀ W', Agree (fun _ => False) W W' → R (.returned (.bool true)) W') : Calls P f args.toArray W R :=
  Calls.mono (show Calls P f args.toArray W _ from h) fun e W' he => by
    obtain ⟨v, rfl, hag, rfl⟩ := he
    exact hR W' hag

/-! terms that came in -/
class TermTy (P : Program) (T : TypeId) : Prop where
  ex : ∃ fs I S L, P.underlying T = some (.struct fs) ∧ fs.toList.map (fun f => (f.type, f.offset)) = [(I, 0), (I, 1), (I, 2), (S, 3), (L, 4)] ∧ P.underlying I = some (.int .i64) ∧ P.underlying S = some .string ∧ P.underlying L = some (.slice T) ∧
    P.cellsOf T = 5 ∧ P.cellsOf I = 1 ∧ P.cellsOf S = 1 ∧ P.cellsOf L = 1
theorem LsIn.of_all {w : World} {ad : Addr} : ∀ {i : Nat} {ks : List LTerm}, (∀ k t, ks[k]? = some t → (∀ j v, t.cells[j]? = some v → w.cell? (ad.add ((i + k) * 5 + j)) = some v) ∧ LtIn w t) → LsIn w (some ad) i ks
  | i, [], _ => trivial
  | i, x :: xs, h => by
    have h0 := h 0 x rfl
    refine ⟨⟨ad, rfl, by simpa using h0.1⟩, h0.2, LsIn.of_all fun k t hk => ?_⟩
    have h1 := h (k + 1) t (by simpa using hk)
    rw [show i + (k + 1) = i + 1 + k from by omega] at h1
    exact h1
instance : Inhabited LTerm := ⟨zeroL⟩
theorem len5 {α : Type} {l : List α} (h : l.length = 5) : ∃ a b c d e, l = [a, b, c, d, e] := by
  match l, h with
  | [a, b, c, d, e], _ => exact ⟨a, b, c, d, e, rfl⟩
section
variable {H : Type} {enc : TypeId × Value → H} {P : Program} {w : World} {base : Nat} {spare : Nat → Bool} {held : Bool} {T : TypeId}
theorem term_of_trod [hT : TermTy P T] : ∀ (fuel : Nat) (cs : List Value) (x : DataW H × List MemPlace), DataW.trod enc P w base spare held fuel T cs = some x → ∃ t : LTerm, cs = t.cells ∧ LtIn w t := by
  obtain ⟨fs, I, S, L, hu, hf, hI, hS, hL, c1, c2, c3, c4⟩ := hT.ex
  intro fuel
  induction fuel using Nat.strongRecOn with
  | _ fuel ih =>
  intro cs x h
  obtain ⟨xs, n, rfl, rfl, hlen, hxl, hx⟩ := DataW.trod_struct hu h
  rw [c1] at hlen
  obtain ⟨a, b, c, d, e, rfl⟩ := len5 hlen
  have hfl : fs.size = 5 := by
    have := congrArg List.length hf
    simpa using this
  rw [hfl] at hxl
  obtain ⟨x0, x1, x2, x3, x4, rfl⟩ := len5 hxl
  have fld : ∀ (i : Nat) (t o : Nat), (fs.toList.map (fun f => (f.type, f.offset)))[i]? = some (t, o) → ∃ f, fs[i]? = some f ∧ f.type = t ∧ f.offset = o := by
    intro i t o hi
    rw [List.getElem?_map] at hi
    obtain ⟨f, hf1, hf2⟩ := Option.map_eq_some_iff.1 hi
    simp only [Prod.mk.injEq] at hf2
    exact ⟨f, by simpa using hf1, hf2.1, hf2.2⟩
  rw [hf] at fld
  obtain ⟨f0, q0, t0, o0⟩ := fld 0 I 0 rfl
  obtain ⟨f1, q1, t1, o1⟩ := fld 1 I 1 rfl
  obtain ⟨f2, q2, t2, o2⟩ := fld 2 I 2 rfl
  obtain ⟨f3, q3, t3, o3⟩ := fld 3 S 3 rfl
  obtain ⟨f4, q4, t4, o4⟩ := fld 4 L 4 rfl
  have r0 := hx 0 f0 q0
  have r1 := hx 1 f1 q1
  have r2 := hx 2 f2 q2
  have r3 := hx 3 f3 q3
  have r4 := hx 4 f4 q4
  rw [t0, o0, c2] at r0
  rw [t1, o1, c2] at r1
  rw [t2, o2, c2] at r2
  rw [t3, o3, c3] at r3
  rw [t4, o4, c4] at r4
  obtain ⟨k, e0, _, _⟩ := DataW.trod_int hI r0
  obtain ⟨u, e1, _, _⟩ := DataW.trod_int hI r1
  obtain ⟨m, e2, _, _⟩ := DataW.trod_int hI r2
  obtain ⟨s, e3, _, _⟩ := DataW.trod_string hS r3
  simp at e0 e1 e2 e3
  subst e0 e1 e2 e3
  have hstr : ∀ s : ByteArray, Value.string s = str s.data.toList := fun s => by simp [str]
  rcases DataW.trod_slice hL r4 with ⟨e4, _⟩ | ⟨ad, len, cap, elems, rest, n', rfl, e4, _, _, hlc, hcm, hel, hem, _, _⟩
  · simp at e4
    subst e4
    exact ⟨.mk k u m s.data.toList none 0 [], by simp [LTerm.cells, LTerm.kind, LTerm.user, LTerm.num, LTerm.text, LTerm.p, LTerm.cap, LTerm.kids, hstr], by simp [LtIn, LsIn]⟩
  · simp at e4
    subst e4
    obtain ⟨g, hg⟩ := choose_lt (α := LTerm) (p := fun i t => w.cells? base (ad.add (i * 5)) 5 = some t.cells ∧ LtIn w t) (n := len) (fun i hi => by
      have h1 := hem i hi
      rw [c1, List.getElem?_eq_getElem (by omega)] at h1
      obtain ⟨cs', h2, h3⟩ := Option.bind_eq_some_iff.1 h1
      obtain ⟨t, rfl, ht⟩ := ih n' (by omega) cs' _ h3
      exact ⟨t, h2, ht⟩)
    refine ⟨.mk k u m s.data.toList (some ad) cap ((List.range len).map g), by simp [LTerm.cells, LTerm.kind, LTerm.user, LTerm.num, LTerm.text, LTerm.p, LTerm.cap, LTerm.kids, hstr], ?_⟩
    rw [LtIn]
    refine ⟨by simpa using hlc, hcm, LsIn.of_all fun i t ht => ?_⟩
    have hi : i < len := by
      rcases Nat.lt_or_ge i len with h | h
      · exact h
      · rw [List.getElem?_eq_none (by simpa using h)] at ht; cases ht
    have : t = g i := by simpa [hi] using ht.symm
    subst this
    obtain ⟨hc, hin⟩ := hg i hi
    refine ⟨fun j v hj => ?_, hin⟩
    obtain ⟨_, _, h5⟩ := World.cells?_some hc
    have hj5 : j < 5 := by
      have := (List.getElem?_eq_some_iff.1 hj).1
      simpa [LTerm.cells] using this
    have := h5 j hj5
    rw [Go.Deep.add_add, hj] at this
    simpa using this
end
mutual
theorem LtIn.mono {w w' : World} (h : ∀ ad v, w.cell? ad = some v → w'.cell? ad = some v) : ∀ t : LTerm, LtIn w t → LtIn w' t
  | .mk _ _ _ _ _ _ kids, ⟨h1, h2, h3⟩ => ⟨h1, h2, LsIn.mono h kids h3⟩
theorem LsIn.mono {w w' : World} (h : ∀ ad v, w.cell? ad = some v → w'.cell? ad = some v) : ∀ {p : Option Addr} {i : Nat} (ts : List LTerm), LsIn w p i ts → LsIn w' p i ts
  | _, _, [], _ => trivial
  | _, _, t :: ts, ⟨⟨ad, hp, hc⟩, h2, h3⟩ => ⟨⟨ad, hp, fun j v hj => h _ _ (hc j v hj)⟩, LtIn.mono h t h2, LsIn.mono h ts h3⟩
end
theorem cell_agree {w w' : World} (h : Agree (fun _ => False) w w') {ad : Addr} {v : Value} (hc : w.cell? ad = some v) : w'.cell? ad = some v := by
  have hlt : ad.block < w.heap.size := by
    rcases Nat.lt_or_ge ad.block w.heap.size with h' | h'
    · exact h'
    · unfold World.cell? at hc; rw [Array.getElem?_eq_none h'] at hc; cases hc
  rw [World.cell?_of_block (w := w) (h.below.block _ hlt)]
  exact hc
end Go.Wk

/- The instances of this seat's program (types, fields, functions) for the walker; written by gen_inst.py. -/
namespace Go.Proofs.YtdakncgafdnjfaaGreat
open Go Go.Wk
section
set_option maxRecDepth 100000
instance : AggT Tryz.prog 1 false := aggT_of (by kernel_rfl)
instance : TI Tryz.prog 1 (.nilFunc) 1 8 := ti_of (by kernel_rfl)
instance : Und Tryz.prog 2 (.int .i64) := ⟨Tryz.underlying2⟩
instance : TI Tryz.prog 2 (.int .i64 0) 1 8 := ti_of (by kernel_rfl)
instance : Und Tryz.prog 3 (.int .i64) := ⟨Tryz.underlying3⟩
instance : TI Tryz.prog 3 (.int .i64 0) 1 8 := ti_of (by kernel_rfl)
instance : Und Tryz.prog 4 (.bool) := ⟨Tryz.underlying4⟩
instance : TI Tryz.prog 4 (.bool false) 1 1 := ti_of (by kernel_rfl)
instance : Und Tryz.prog 5 (.int .u8) := ⟨Tryz.underlying5⟩
instance : TI Tryz.prog 5 (.int .u8 0) 1 1 := ti_of (by kernel_rfl)
instance : Und Tryz.prog 9 (.string) := ⟨Tryz.underlying9⟩
instance : TI Tryz.prog 9 (.string ⟨#[]⟩) 1 16 := ti_of (by kernel_rfl)
instance : Und Tryz.prog 12 (.int .u64) := ⟨Tryz.underlying12⟩
instance : TI Tryz.prog 12 (.int .u64 0) 1 8 := ti_of (by kernel_rfl)
instance : AggT Tryz.prog 20 false := aggT_of (by kernel_rfl)
instance : TI Tryz.prog 20 (.nilIface) 1 16 := ti_of (by kernel_rfl)
instance : Und Tryz.prog 21 (.int .i32) := ⟨Tryz.underlying21⟩
instance : TI Tryz.prog 21 (.int .i32 0) 1 4 := ti_of (by kernel_rfl)
instance : Und Tryz.prog 22 (.slice 45) := ⟨Tryz.underlying22⟩
instance : TI Tryz.prog 22 (.slice none 0 0) 1 24 := ti_of (by kernel_rfl)
instance : AggT Tryz.prog 23 false := aggT_of (by kernel_rfl)
instance : TI Tryz.prog 23 (.nilFunc) 1 8 := ti_of (by kernel_rfl)
instance : AggT Tryz.prog 24 false := aggT_of (by kernel_rfl)
instance : TI Tryz.prog 24 (.nilFunc) 1 8 := ti_of (by kernel_rfl)
instance : Und Tryz.prog 25 (.slice 5) := ⟨Tryz.underlying25⟩
instance : TI Tryz.prog 25 (.slice none 0 0) 1 24 := ti_of (by kernel_rfl)
instance : Und Tryz.prog 26 (.int .i64) := ⟨Tryz.underlying26⟩
instance : TI Tryz.prog 26 (.int .i64 0) 1 8 := ti_of (by kernel_rfl)
instance : AggT Tryz.prog 28 false := aggT_of (by kernel_rfl)
instance : TI Tryz.prog 28 (.nilFunc) 1 8 := ti_of (by kernel_rfl)
instance : AggT Tryz.prog 30 false := aggT_of (by kernel_rfl)
instance : TI Tryz.prog 30 (.nilFunc) 1 8 := ti_of (by kernel_rfl)
instance : AggT Tryz.prog 31 false := aggT_of (by kernel_rfl)
instance : TI Tryz.prog 31 (.nilFunc) 1 8 := ti_of (by kernel_rfl)
instance : AggT Tryz.prog 32 false := aggT_of (by kernel_rfl)
instance : TI Tryz.prog 32 (.nilFunc) 1 8 := ti_of (by kernel_rfl)
instance : Und Tryz.prog 33 (.slice 25) := ⟨Tryz.underlying33⟩
instance : TI Tryz.prog 33 (.slice none 0 0) 1 24 := ti_of (by kernel_rfl)
instance : Und Tryz.prog 34 (.pointer 170) := ⟨Tryz.underlying34⟩
instance : TI Tryz.prog 34 (.pointer none) 1 8 := ti_of (by kernel_rfl)
instance : AggT Tryz.prog 35 false := aggT_of (by kernel_rfl)
instance : TI Tryz.prog 35 (.nilFunc) 1 8 := ti_of (by kernel_rfl)
instance : Und Tryz.prog 36 (.pointer 134) := ⟨Tryz.underlying36⟩
instance : TI Tryz.prog 36 (.pointer none) 1 8 := ti_of (by kernel_rfl)
instance : AggT Tryz.prog 38 false := aggT_of (by kernel_rfl)
instance : TI Tryz.prog 38 (.nilFunc) 1 8 := ti_of (by kernel_rfl)
instance : AggT Tryz.prog 39 false := aggT_of (by kernel_rfl)
instance : TI Tryz.prog 39 (.nilFunc) 1 8 := ti_of (by kernel_rfl)
instance : AggT Tryz.prog 40 false := aggT_of (by kernel_rfl)
instance : TI Tryz.prog 40 (.nilFunc) 1 8 := ti_of (by kernel_rfl)
instance : Und Tryz.prog 41 (.slice 43) := ⟨Tryz.underlying41⟩
instance : TI Tryz.prog 41 (.slice none 0 0) 1 24 := ti_of (by kernel_rfl)
instance : AggT Tryz.prog 42 true := aggT_of (by kernel_rfl)
instance : Fld Tryz.prog 42 0 0 3 := fld_of (by kernel_rfl)
instance : Fld Tryz.prog 42 1 1 3 := fld_of (by kernel_rfl)
instance : Fld Tryz.prog 42 2 2 3 := fld_of (by kernel_rfl)
instance : Fld Tryz.prog 42 3 3 9 := fld_of (by kernel_rfl)
instance : Fld Tryz.prog 42 4 4 41 := fld_of (by kernel_rfl)
instance : PlOf Tryz.prog 42 [(0, 1), (1, 1), (2, 1), (3, 1), (4, 1)] := plof_of (by kernel_rfl)
instance : TI Tryz.prog 42 (.agg #[.int .i64 0, .int .i64 0, .int .i64 0, .string ⟨#[]⟩, .slice none 0 0]) 5 64 := ti_of (by kernel_rfl)
instance : AggT Tryz.prog 43 true := aggT_of (by kernel_rfl)
instance : Fld Tryz.prog 43 0 0 3 := fld_of (by kernel_rfl)
instance : Fld Tryz.prog 43 1 1 3 := fld_of (by kernel_rfl)
instance : Fld Tryz.prog 43 2 2 3 := fld_of (by kernel_rfl)
instance : Fld Tryz.prog 43 3 3 9 := fld_of (by kernel_rfl)
instance : Fld Tryz.prog 43 4 4 41 := fld_of (by kernel_rfl)
instance : PlOf Tryz.prog 43 [(0, 1), (1, 1), (2, 1), (3, 1), (4, 1)] := plof_of (by kernel_rfl)
instance : TI Tryz.prog 43 (.agg #[.int .i64 0, .int .i64 0, .int .i64 0, .string ⟨#[]⟩, .slice none 0 0]) 5 64 := ti_of (by kernel_rfl)
instance : AggT Tryz.prog 44 true := aggT_of (by kernel_rfl)
instance : Fld Tryz.prog 44 0 0 9 := fld_of (by kernel_rfl)
instance : Fld Tryz.prog 44 1 1 43 := fld_of (by kernel_rfl)
instance : PlOf Tryz.prog 44 [(0, 1), (1, 5)] := plof_of (by kernel_rfl)
instance : TI Tryz.prog 44 (.agg #[.string ⟨#[]⟩, .int .i64 0, .int .i64 0, .int .i64 0, .string ⟨#[]⟩, .slice none 0 0]) 6 80 := ti_of (by kernel_rfl)
instance : AggT Tryz.prog 45 true := aggT_of (by kernel_rfl)
instance : Fld Tryz.prog 45 0 0 9 := fld_of (by kernel_rfl)
instance : Fld Tryz.prog 45 1 1 43 := fld_of (by kernel_rfl)
instance : PlOf Tryz.prog 45 [(0, 1), (1, 5)] := plof_of (by kernel_rfl)
instance : TI Tryz.prog 45 (.agg #[.string ⟨#[]⟩, .int .i64 0, .int .i64 0, .int .i64 0, .string ⟨#[]⟩, .slice none 0 0]) 6 80 := ti_of (by kernel_rfl)
instance : AggT Tryz.prog 46 false := aggT_of (by kernel_rfl)
instance : TI Tryz.prog 46 (.nilFunc) 1 8 := ti_of (by kernel_rfl)
instance : Und Tryz.prog 47 (.pointer 144) := ⟨Tryz.underlying47⟩
instance : TI Tryz.prog 47 (.pointer none) 1 8 := ti_of (by kernel_rfl)
instance : AggT Tryz.prog 49 false := aggT_of (by kernel_rfl)
instance : TI Tryz.prog 49 (.nilFunc) 1 8 := ti_of (by kernel_rfl)
instance : AggT Tryz.prog 50 false := aggT_of (by kernel_rfl)
instance : TI Tryz.prog 50 (.nilFunc) 1 8 := ti_of (by kernel_rfl)
instance : AggT Tryz.prog 51 false := aggT_of (by kernel_rfl)
instance : TI Tryz.prog 51 (.nilFunc) 1 8 := ti_of (by kernel_rfl)
instance : AggT Tryz.prog 53 false := aggT_of (by kernel_rfl)
instance : TI Tryz.prog 53 (.nilFunc) 1 8 := ti_of (by kernel_rfl)
instance : AggT Tryz.prog 54 false := aggT_of (by kernel_rfl)
instance : TI Tryz.prog 54 (.nilFunc) 1 8 := ti_of (by kernel_rfl)
instance : AggT Tryz.prog 55 false := aggT_of (by kernel_rfl)
instance : TI Tryz.prog 55 (.nilFunc) 1 8 := ti_of (by kernel_rfl)
instance : AggT Tryz.prog 56 false := aggT_of (by kernel_rfl)
instance : TI Tryz.prog 56 (.nilFunc) 1 8 := ti_of (by kernel_rfl)
instance : Und Tryz.prog 57 (.slice 22) := ⟨Tryz.underlying57⟩
instance : TI Tryz.prog 57 (.slice none 0 0) 1 24 := ti_of (by kernel_rfl)
instance : Und Tryz.prog 58 (.slice 4) := ⟨Tryz.underlying58⟩
instance : TI Tryz.prog 58 (.slice none 0 0) 1 24 := ti_of (by kernel_rfl)
instance : AggT Tryz.prog 59 false := aggT_of (by kernel_rfl)
instance : TI Tryz.prog 59 (.nilFunc) 1 8 := ti_of (by kernel_rfl)
instance : AggT Tryz.prog 60 false := aggT_of (by kernel_rfl)
instance : TI Tryz.prog 60 (.nilFunc) 1 8 := ti_of (by kernel_rfl)
instance : AggT Tryz.prog 61 false := aggT_of (by kernel_rfl)
instance : TI Tryz.prog 61 (.nilFunc) 1 8 := ti_of (by kernel_rfl)
instance : Und Tryz.prog 62 (.slice 67) := ⟨Tryz.underlying62⟩
instance : TI Tryz.prog 62 (.slice none 0 0) 1 24 := ti_of (by kernel_rfl)
instance : Und Tryz.prog 63 (.slice 175) := ⟨Tryz.underlying63⟩
instance : TI Tryz.prog 63 (.slice none 0 0) 1 24 := ti_of (by kernel_rfl)
instance : Und Tryz.prog 64 (.slice 177) := ⟨Tryz.underlying64⟩
instance : TI Tryz.prog 64 (.slice none 0 0) 1 24 := ti_of (by kernel_rfl)
instance : Und Tryz.prog 65 (.slice 179) := ⟨Tryz.underlying65⟩
instance : TI Tryz.prog 65 (.slice none 0 0) 1 24 := ti_of (by kernel_rfl)
instance : AggT Tryz.prog 66 true := aggT_of (by kernel_rfl)
instance : Fld Tryz.prog 66 0 0 3 := fld_of (by kernel_rfl)
instance : Fld Tryz.prog 66 1 1 3 := fld_of (by kernel_rfl)
instance : Fld Tryz.prog 66 2 2 3 := fld_of (by kernel_rfl)
instance : Fld Tryz.prog 66 3 3 3 := fld_of (by kernel_rfl)
instance : Fld Tryz.prog 66 4 4 63 := fld_of (by kernel_rfl)
instance : Fld Tryz.prog 66 5 5 64 := fld_of (by kernel_rfl)
instance : Fld Tryz.prog 66 6 6 65 := fld_of (by kernel_rfl)
instance : PlOf Tryz.prog 66 [(0, 1), (1, 1), (2, 1), (3, 1), (4, 1), (5, 1), (6, 1)] := plof_of (by kernel_rfl)
instance : TI Tryz.prog 66 (.agg #[.int .i64 0, .int .i64 0, .int .i64 0, .int .i64 0, .slice none 0 0, .slice none 0 0, .slice none 0 0]) 7 104 := ti_of (by kernel_rfl)
instance : AggT Tryz.prog 67 true := aggT_of (by kernel_rfl)
instance : Fld Tryz.prog 67 0 0 3 := fld_of (by kernel_rfl)
instance : Fld Tryz.prog 67 1 1 3 := fld_of (by kernel_rfl)
instance : Fld Tryz.prog 67 2 2 3 := fld_of (by kernel_rfl)
instance : Fld Tryz.prog 67 3 3 3 := fld_of (by kernel_rfl)
instance : Fld Tryz.prog 67 4 4 63 := fld_of (by kernel_rfl)
instance : Fld Tryz.prog 67 5 5 64 := fld_of (by kernel_rfl)
instance : Fld Tryz.prog 67 6 6 65 := fld_of (by kernel_rfl)
instance : PlOf Tryz.prog 67 [(0, 1), (1, 1), (2, 1), (3, 1), (4, 1), (5, 1), (6, 1)] := plof_of (by kernel_rfl)
instance : TI Tryz.prog 67 (.agg #[.int .i64 0, .int .i64 0, .int .i64 0, .int .i64 0, .slice none 0 0, .slice none 0 0, .slice none 0 0]) 7 104 := ti_of (by kernel_rfl)
instance : AggT Tryz.prog 68 false := aggT_of (by kernel_rfl)
instance : TI Tryz.prog 68 (.nilFunc) 1 8 := ti_of (by kernel_rfl)
instance : AggT Tryz.prog 69 false := aggT_of (by kernel_rfl)
instance : TI Tryz.prog 69 (.nilFunc) 1 8 := ti_of (by kernel_rfl)
instance : AggT Tryz.prog 70 false := aggT_of (by kernel_rfl)
instance : TI Tryz.prog 70 (.nilFunc) 1 8 := ti_of (by kernel_rfl)
instance : AggT Tryz.prog 71 false := aggT_of (by kernel_rfl)
instance : TI Tryz.prog 71 (.nilFunc) 1 8 := ti_of (by kernel_rfl)
instance : AggT Tryz.prog 72 false := aggT_of (by kernel_rfl)
instance : TI Tryz.prog 72 (.nilFunc) 1 8 := ti_of (by kernel_rfl)
instance : AggT Tryz.prog 73 false := aggT_of (by kernel_rfl)
instance : TI Tryz.prog 73 (.nilFunc) 1 8 := ti_of (by kernel_rfl)
instance : AggT Tryz.prog 74 false := aggT_of (by kernel_rfl)
instance : TI Tryz.prog 74 (.nilFunc) 1 8 := ti_of (by kernel_rfl)
instance : AggT Tryz.prog 75 false := aggT_of (by kernel_rfl)
instance : TI Tryz.prog 75 (.nilFunc) 1 8 := ti_of (by kernel_rfl)
instance : AggT Tryz.prog 76 false := aggT_of (by kernel_rfl)
instance : TI Tryz.prog 76 (.nilFunc) 1 8 := ti_of (by kernel_rfl)
instance : AggT Tryz.prog 78 false := aggT_of (by kernel_rfl)
instance : TI Tryz.prog 78 (.nilFunc) 1 8 := ti_of (by kernel_rfl)
instance : Und Tryz.prog 79 (.int .u64) := ⟨Tryz.underlying79⟩
instance : TI Tryz.prog 79 (.int .u64 0) 1 8 := ti_of (by kernel_rfl)
instance : AggT Tryz.prog 80 false := aggT_of (by kernel_rfl)
instance : TI Tryz.prog 80 (.nilFunc) 1 8 := ti_of (by kernel_rfl)
instance : Und Tryz.prog 81 (.slice 90) := ⟨Tryz.underlying81⟩
instance : TI Tryz.prog 81 (.slice none 0 0) 1 24 := ti_of (by kernel_rfl)
instance : AggT Tryz.prog 83 false := aggT_of (by kernel_rfl)
instance : TI Tryz.prog 83 (.nilFunc) 1 8 := ti_of (by kernel_rfl)
instance : Und Tryz.prog 84 (.pointer 214) := ⟨Tryz.underlying84⟩
instance : TI Tryz.prog 84 (.pointer none) 1 8 := ti_of (by kernel_rfl)
instance : AggT Tryz.prog 86 false := aggT_of (by kernel_rfl)
instance : TI Tryz.prog 86 (.nilFunc) 1 8 := ti_of (by kernel_rfl)
instance : AggT Tryz.prog 87 false := aggT_of (by kernel_rfl)
instance : TI Tryz.prog 87 (.nilFunc) 1 8 := ti_of (by kernel_rfl)
instance : AggT Tryz.prog 88 false := aggT_of (by kernel_rfl)
instance : TI Tryz.prog 88 (.nilFunc) 1 8 := ti_of (by kernel_rfl)
instance : AggT Tryz.prog 89 true := aggT_of (by kernel_rfl)
instance : Fld Tryz.prog 89 0 0 3 := fld_of (by kernel_rfl)
instance : Fld Tryz.prog 89 1 1 3 := fld_of (by kernel_rfl)
instance : Fld Tryz.prog 89 2 2 67 := fld_of (by kernel_rfl)
instance : Fld Tryz.prog 89 3 9 58 := fld_of (by kernel_rfl)
instance : PlOf Tryz.prog 89 [(0, 1), (1, 1), (2, 7), (9, 1)] := plof_of (by kernel_rfl)
instance : TI Tryz.prog 89 (.agg #[.int .i64 0, .int .i64 0, .int .i64 0, .int .i64 0, .int .i64 0, .int .i64 0, .slice none 0 0, .slice none 0 0, .slice none 0 0, .slice none 0 0]) 10 144 := ti_of (by kernel_rfl)
instance : AggT Tryz.prog 90 true := aggT_of (by kernel_rfl)
instance : Fld Tryz.prog 90 0 0 3 := fld_of (by kernel_rfl)
instance : Fld Tryz.prog 90 1 1 3 := fld_of (by kernel_rfl)
instance : Fld Tryz.prog 90 2 2 67 := fld_of (by kernel_rfl)
instance : Fld Tryz.prog 90 3 9 58 := fld_of (by kernel_rfl)
instance : PlOf Tryz.prog 90 [(0, 1), (1, 1), (2, 7), (9, 1)] := plof_of (by kernel_rfl)
instance : TI Tryz.prog 90 (.agg #[.int .i64 0, .int .i64 0, .int .i64 0, .int .i64 0, .int .i64 0, .int .i64 0, .slice none 0 0, .slice none 0 0, .slice none 0 0, .slice none 0 0]) 10 144 := ti_of (by kernel_rfl)
instance : AggT Tryz.prog 91 false := aggT_of (by kernel_rfl)
instance : TI Tryz.prog 91 (.nilFunc) 1 8 := ti_of (by kernel_rfl)
instance : AggT Tryz.prog 92 false := aggT_of (by kernel_rfl)
instance : TI Tryz.prog 92 (.nilFunc) 1 8 := ti_of (by kernel_rfl)
instance : AggT Tryz.prog 93 false := aggT_of (by kernel_rfl)
instance : TI Tryz.prog 93 (.nilFunc) 1 8 := ti_of (by kernel_rfl)
instance : Und Tryz.prog 94 (.pointer 98) := ⟨Tryz.underlying94⟩
instance : TI Tryz.prog 94 (.pointer none) 1 8 := ti_of (by kernel_rfl)
instance : AggT Tryz.prog 95 false := aggT_of (by kernel_rfl)
instance : TI Tryz.prog 95 (.nilFunc) 1 8 := ti_of (by kernel_rfl)
instance : Und Tryz.prog 96 (.pointer 226) := ⟨Tryz.underlying96⟩
instance : TI Tryz.prog 96 (.pointer none) 1 8 := ti_of (by kernel_rfl)
instance : AggT Tryz.prog 97 true := aggT_of (by kernel_rfl)
instance : Fld Tryz.prog 97 0 0 34 := fld_of (by kernel_rfl)
instance : Fld Tryz.prog 97 1 1 34 := fld_of (by kernel_rfl)
instance : Fld Tryz.prog 97 2 2 84 := fld_of (by kernel_rfl)
instance : Fld Tryz.prog 97 3 3 96 := fld_of (by kernel_rfl)
instance : PlOf Tryz.prog 97 [(0, 1), (1, 1), (2, 1), (3, 1)] := plof_of (by kernel_rfl)
instance : TI Tryz.prog 97 (.agg #[.pointer none, .pointer none, .pointer none, .pointer none]) 4 32 := ti_of (by kernel_rfl)
instance : AggT Tryz.prog 98 true := aggT_of (by kernel_rfl)
instance : Fld Tryz.prog 98 0 0 34 := fld_of (by kernel_rfl)
instance : Fld Tryz.prog 98 1 1 34 := fld_of (by kernel_rfl)
instance : Fld Tryz.prog 98 2 2 84 := fld_of (by kernel_rfl)
instance : Fld Tryz.prog 98 3 3 96 := fld_of (by kernel_rfl)
instance : PlOf Tryz.prog 98 [(0, 1), (1, 1), (2, 1), (3, 1)] := plof_of (by kernel_rfl)
instance : TI Tryz.prog 98 (.agg #[.pointer none, .pointer none, .pointer none, .pointer none]) 4 32 := ti_of (by kernel_rfl)
instance : Und Tryz.prog 99 (.array 2 34) := ⟨Tryz.underlying99⟩
instance : TI Tryz.prog 99 (.agg #[.pointer none, .pointer none]) 2 16 := ti_of (by kernel_rfl)
instance : AggT Tryz.prog 100 false := aggT_of (by kernel_rfl)
instance : TI Tryz.prog 100 (.nilFunc) 1 8 := ti_of (by kernel_rfl)
instance : AggT Tryz.prog 102 false := aggT_of (by kernel_rfl)
instance : TI Tryz.prog 102 (.nilFunc) 1 8 := ti_of (by kernel_rfl)
instance : AggT Tryz.prog 103 false := aggT_of (by kernel_rfl)
instance : TI Tryz.prog 103 (.nilFunc) 1 8 := ti_of (by kernel_rfl)
instance : AggT Tryz.prog 104 false := aggT_of (by kernel_rfl)
instance : TI Tryz.prog 104 (.nilFunc) 1 8 := ti_of (by kernel_rfl)
instance : AggT Tryz.prog 105 false := aggT_of (by kernel_rfl)
instance : TI Tryz.prog 105 (.nilFunc) 1 8 := ti_of (by kernel_rfl)
instance : AggT Tryz.prog 106 false := aggT_of (by kernel_rfl)
instance : TI Tryz.prog 106 (.nilFunc) 1 8 := ti_of (by kernel_rfl)
instance : AggT Tryz.prog 107 false := aggT_of (by kernel_rfl)
instance : TI Tryz.prog 107 (.nilFunc) 1 8 := ti_of (by kernel_rfl)
instance : AggT Tryz.prog 108 false := aggT_of (by kernel_rfl)
instance : TI Tryz.prog 108 (.nilFunc) 1 8 := ti_of (by kernel_rfl)
instance : AggT Tryz.prog 109 false := aggT_of (by kernel_rfl)
instance : TI Tryz.prog 109 (.nilFunc) 1 8 := ti_of (by kernel_rfl)
instance : Und Tryz.prog 110 (.pointer 3) := ⟨Tryz.underlying110⟩
instance : TI Tryz.prog 110 (.pointer none) 1 8 := ti_of (by kernel_rfl)
instance : AggT Tryz.prog 111 false := aggT_of (by kernel_rfl)
instance : TI Tryz.prog 111 (.nilFunc) 1 8 := ti_of (by kernel_rfl)
instance : AggT Tryz.prog 112 false := aggT_of (by kernel_rfl)
instance : TI Tryz.prog 112 (.nilFunc) 1 8 := ti_of (by kernel_rfl)
instance : Und Tryz.prog 113 (.int .u16) := ⟨Tryz.underlying113⟩
instance : TI Tryz.prog 113 (.int .u16 0) 1 2 := ti_of (by kernel_rfl)
instance : Und Tryz.prog 114 (.pointer 238) := ⟨Tryz.underlying114⟩
instance : TI Tryz.prog 114 (.pointer none) 1 8 := ti_of (by kernel_rfl)
instance : AggT Tryz.prog 115 false := aggT_of (by kernel_rfl)
instance : TI Tryz.prog 115 (.nilFunc) 1 8 := ti_of (by kernel_rfl)
instance : AggT Tryz.prog 116 false := aggT_of (by kernel_rfl)
instance : TI Tryz.prog 116 (.nilFunc) 1 8 := ti_of (by kernel_rfl)
instance : AggT Tryz.prog 117 false := aggT_of (by kernel_rfl)
instance : TI Tryz.prog 117 (.nilFunc) 1 8 := ti_of (by kernel_rfl)
instance : AggT Tryz.prog 118 false := aggT_of (by kernel_rfl)
instance : TI Tryz.prog 118 (.nilFunc) 1 8 := ti_of (by kernel_rfl)
instance : AggT Tryz.prog 120 false := aggT_of (by kernel_rfl)
instance : TI Tryz.prog 120 (.nilFunc) 1 8 := ti_of (by kernel_rfl)
instance : AggT Tryz.prog 121 false := aggT_of (by kernel_rfl)
instance : TI Tryz.prog 121 (.nilFunc) 1 8 := ti_of (by kernel_rfl)
instance : AggT Tryz.prog 122 false := aggT_of (by kernel_rfl)
instance : TI Tryz.prog 122 (.nilFunc) 1 8 := ti_of (by kernel_rfl)
instance : AggT Tryz.prog 123 false := aggT_of (by kernel_rfl)
instance : TI Tryz.prog 123 (.nilFunc) 1 8 := ti_of (by kernel_rfl)
instance : AggT Tryz.prog 124 false := aggT_of (by kernel_rfl)
instance : TI Tryz.prog 124 (.nilFunc) 1 8 := ti_of (by kernel_rfl)
instance : AggT Tryz.prog 125 false := aggT_of (by kernel_rfl)
instance : TI Tryz.prog 125 (.nilFunc) 1 8 := ti_of (by kernel_rfl)
instance : AggT Tryz.prog 126 false := aggT_of (by kernel_rfl)
instance : TI Tryz.prog 126 (.nilFunc) 1 8 := ti_of (by kernel_rfl)
instance : AggT Tryz.prog 127 false := aggT_of (by kernel_rfl)
instance : TI Tryz.prog 127 (.nilFunc) 1 8 := ti_of (by kernel_rfl)
instance : Und Tryz.prog 128 (.array 64 5) := ⟨Tryz.underlying128⟩
instance : TI Tryz.prog 128 (.agg ⟨encL (List.replicate 64 (0 : UInt8))⟩) 64 64 := ti_of (by kernel_rfl)
instance : Und Tryz.prog 129 (.array 64 5) := ⟨Tryz.underlying129⟩
instance : TI Tryz.prog 129 (.agg ⟨encL (List.replicate 64 (0 : UInt8))⟩) 64 64 := ti_of (by kernel_rfl)
instance : Und Tryz.prog 130 (.int .u32) := ⟨Tryz.underlying130⟩
instance : TI Tryz.prog 130 (.int .u32 0) 1 4 := ti_of (by kernel_rfl)
instance : AggT Tryz.prog 131 true := aggT_of (by kernel_rfl)
instance : Fld Tryz.prog 131 0 0 34 := fld_of (by kernel_rfl)
instance : Fld Tryz.prog 131 1 1 3 := fld_of (by kernel_rfl)
instance : Fld Tryz.prog 131 2 2 130 := fld_of (by kernel_rfl)
instance : PlOf Tryz.prog 131 [(0, 1), (1, 1), (2, 1)] := plof_of (by kernel_rfl)
instance : TI Tryz.prog 131 (.agg #[.pointer none, .int .i64 0, .int .u32 0]) 3 24 := ti_of (by kernel_rfl)
instance : AggT Tryz.prog 132 true := aggT_of (by kernel_rfl)
instance : Fld Tryz.prog 132 0 0 34 := fld_of (by kernel_rfl)
instance : Fld Tryz.prog 132 1 1 3 := fld_of (by kernel_rfl)
instance : Fld Tryz.prog 132 2 2 130 := fld_of (by kernel_rfl)
instance : PlOf Tryz.prog 132 [(0, 1), (1, 1), (2, 1)] := plof_of (by kernel_rfl)
instance : TI Tryz.prog 132 (.agg #[.pointer none, .int .i64 0, .int .u32 0]) 3 24 := ti_of (by kernel_rfl)
instance : AggT Tryz.prog 133 true := aggT_of (by kernel_rfl)
instance : Fld Tryz.prog 133 0 0 132 := fld_of (by kernel_rfl)
instance : Fld Tryz.prog 133 1 3 33 := fld_of (by kernel_rfl)
instance : Fld Tryz.prog 133 2 4 3 := fld_of (by kernel_rfl)
instance : Fld Tryz.prog 133 3 5 4 := fld_of (by kernel_rfl)
instance : PlOf Tryz.prog 133 [(0, 3), (3, 1), (4, 1), (5, 1)] := plof_of (by kernel_rfl)
instance : TI Tryz.prog 133 (.agg #[.pointer none, .int .i64 0, .int .u32 0, .slice none 0 0, .int .i64 0, .bool false]) 6 64 := ti_of (by kernel_rfl)
instance : AggT Tryz.prog 134 true := aggT_of (by kernel_rfl)
instance : Fld Tryz.prog 134 0 0 132 := fld_of (by kernel_rfl)
instance : Fld Tryz.prog 134 1 3 33 := fld_of (by kernel_rfl)
instance : Fld Tryz.prog 134 2 4 3 := fld_of (by kernel_rfl)
instance : Fld Tryz.prog 134 3 5 4 := fld_of (by kernel_rfl)
instance : PlOf Tryz.prog 134 [(0, 3), (3, 1), (4, 1), (5, 1)] := plof_of (by kernel_rfl)
instance : TI Tryz.prog 134 (.agg #[.pointer none, .int .i64 0, .int .u32 0, .slice none 0 0, .int .i64 0, .bool false]) 6 64 := ti_of (by kernel_rfl)
instance : AggT Tryz.prog 135 false := aggT_of (by kernel_rfl)
instance : TI Tryz.prog 135 (.nilFunc) 1 8 := ti_of (by kernel_rfl)
instance : AggT Tryz.prog 136 false := aggT_of (by kernel_rfl)
instance : TI Tryz.prog 136 (.nilFunc) 1 8 := ti_of (by kernel_rfl)
instance : Und Tryz.prog 137 (.pointer 26) := ⟨Tryz.underlying137⟩
instance : TI Tryz.prog 137 (.pointer none) 1 8 := ti_of (by kernel_rfl)
instance : AggT Tryz.prog 138 false := aggT_of (by kernel_rfl)
instance : TI Tryz.prog 138 (.nilFunc) 1 8 := ti_of (by kernel_rfl)
instance : AggT Tryz.prog 139 false := aggT_of (by kernel_rfl)
instance : TI Tryz.prog 139 (.nilFunc) 1 8 := ti_of (by kernel_rfl)
instance : AggT Tryz.prog 141 false := aggT_of (by kernel_rfl)
instance : TI Tryz.prog 141 (.nilFunc) 1 8 := ti_of (by kernel_rfl)
instance : Und Tryz.prog 142 (.slice 150) := ⟨Tryz.underlying142⟩
instance : TI Tryz.prog 142 (.slice none 0 0) 1 24 := ti_of (by kernel_rfl)
instance : AggT Tryz.prog 143 true := aggT_of (by kernel_rfl)
instance : Fld Tryz.prog 143 0 0 36 := fld_of (by kernel_rfl)
instance : Fld Tryz.prog 143 1 1 142 := fld_of (by kernel_rfl)
instance : PlOf Tryz.prog 143 [(0, 1), (1, 1)] := plof_of (by kernel_rfl)
instance : TI Tryz.prog 143 (.agg #[.pointer none, .slice none 0 0]) 2 32 := ti_of (by kernel_rfl)
instance : AggT Tryz.prog 144 true := aggT_of (by kernel_rfl)
instance : Fld Tryz.prog 144 0 0 36 := fld_of (by kernel_rfl)
instance : Fld Tryz.prog 144 1 1 142 := fld_of (by kernel_rfl)
instance : PlOf Tryz.prog 144 [(0, 1), (1, 1)] := plof_of (by kernel_rfl)
instance : TI Tryz.prog 144 (.agg #[.pointer none, .slice none 0 0]) 2 32 := ti_of (by kernel_rfl)
instance : AggT Tryz.prog 145 false := aggT_of (by kernel_rfl)
instance : TI Tryz.prog 145 (.nilFunc) 1 8 := ti_of (by kernel_rfl)
instance : AggT Tryz.prog 146 false := aggT_of (by kernel_rfl)
instance : TI Tryz.prog 146 (.nilFunc) 1 8 := ti_of (by kernel_rfl)
instance : AggT Tryz.prog 147 false := aggT_of (by kernel_rfl)
instance : TI Tryz.prog 147 (.nilFunc) 1 8 := ti_of (by kernel_rfl)
instance : AggT Tryz.prog 148 false := aggT_of (by kernel_rfl)
instance : TI Tryz.prog 148 (.nilFunc) 1 8 := ti_of (by kernel_rfl)
instance : AggT Tryz.prog 149 false := aggT_of (by kernel_rfl)
instance : TI Tryz.prog 149 (.nilFunc) 1 8 := ti_of (by kernel_rfl)
instance : AggT Tryz.prog 150 true := aggT_of (by kernel_rfl)
instance : Fld Tryz.prog 150 0 0 9 := fld_of (by kernel_rfl)
instance : Fld Tryz.prog 150 1 1 43 := fld_of (by kernel_rfl)
instance : PlOf Tryz.prog 150 [(0, 1), (1, 5)] := plof_of (by kernel_rfl)
instance : TI Tryz.prog 150 (.agg #[.string ⟨#[]⟩, .int .i64 0, .int .i64 0, .int .i64 0, .string ⟨#[]⟩, .slice none 0 0]) 6 80 := ti_of (by kernel_rfl)
instance : AggT Tryz.prog 151 false := aggT_of (by kernel_rfl)
instance : TI Tryz.prog 151 (.nilFunc) 1 8 := ti_of (by kernel_rfl)
instance : AggT Tryz.prog 152 false := aggT_of (by kernel_rfl)
instance : TI Tryz.prog 152 (.nilFunc) 1 8 := ti_of (by kernel_rfl)
instance : AggT Tryz.prog 153 false := aggT_of (by kernel_rfl)
instance : TI Tryz.prog 153 (.nilFunc) 1 8 := ti_of (by kernel_rfl)
instance : AggT Tryz.prog 154 false := aggT_of (by kernel_rfl)
instance : TI Tryz.prog 154 (.nilFunc) 1 8 := ti_of (by kernel_rfl)
instance : AggT Tryz.prog 155 false := aggT_of (by kernel_rfl)
instance : TI Tryz.prog 155 (.nilFunc) 1 8 := ti_of (by kernel_rfl)
instance : AggT Tryz.prog 156 false := aggT_of (by kernel_rfl)
instance : TI Tryz.prog 156 (.nilFunc) 1 8 := ti_of (by kernel_rfl)
instance : AggT Tryz.prog 157 false := aggT_of (by kernel_rfl)
instance : TI Tryz.prog 157 (.nilFunc) 1 8 := ti_of (by kernel_rfl)
instance : AggT Tryz.prog 158 false := aggT_of (by kernel_rfl)
instance : TI Tryz.prog 158 (.nilFunc) 1 8 := ti_of (by kernel_rfl)
instance : AggT Tryz.prog 160 false := aggT_of (by kernel_rfl)
instance : TI Tryz.prog 160 (.nilFunc) 1 8 := ti_of (by kernel_rfl)
instance : AggT Tryz.prog 161 false := aggT_of (by kernel_rfl)
instance : TI Tryz.prog 161 (.nilFunc) 1 8 := ti_of (by kernel_rfl)
instance : AggT Tryz.prog 162 false := aggT_of (by kernel_rfl)
instance : TI Tryz.prog 162 (.nilFunc) 1 8 := ti_of (by kernel_rfl)
instance : Und Tryz.prog 163 (.map 3 129) := ⟨Tryz.underlying163⟩
instance : TI Tryz.prog 163 (.map none) 1 8 := ti_of (by kernel_rfl)
instance : Und Tryz.prog 164 (.slice 265) := ⟨Tryz.underlying164⟩
instance : TI Tryz.prog 164 (.slice none 0 0) 1 24 := ti_of (by kernel_rfl)
instance : AggT Tryz.prog 165 true := aggT_of (by kernel_rfl)
instance : Fld Tryz.prog 165 0 0 4 := fld_of (by kernel_rfl)
instance : Fld Tryz.prog 165 1 1 3 := fld_of (by kernel_rfl)
instance : PlOf Tryz.prog 165 [(0, 1), (1, 1)] := plof_of (by kernel_rfl)
instance : TI Tryz.prog 165 (.agg #[.bool false, .int .i64 0]) 2 16 := ti_of (by kernel_rfl)
instance : AggT Tryz.prog 166 true := aggT_of (by kernel_rfl)
instance : Fld Tryz.prog 166 0 0 4 := fld_of (by kernel_rfl)
instance : Fld Tryz.prog 166 1 1 3 := fld_of (by kernel_rfl)
instance : PlOf Tryz.prog 166 [(0, 1), (1, 1)] := plof_of (by kernel_rfl)
instance : TI Tryz.prog 166 (.agg #[.bool false, .int .i64 0]) 2 16 := ti_of (by kernel_rfl)
instance : AggT Tryz.prog 167 true := aggT_of (by kernel_rfl)
instance : Fld Tryz.prog 167 0 0 3 := fld_of (by kernel_rfl)
instance : Fld Tryz.prog 167 1 1 163 := fld_of (by kernel_rfl)
instance : Fld Tryz.prog 167 2 2 164 := fld_of (by kernel_rfl)
instance : Fld Tryz.prog 167 3 3 4 := fld_of (by kernel_rfl)
instance : Fld Tryz.prog 167 4 4 166 := fld_of (by kernel_rfl)
instance : Fld Tryz.prog 167 5 6 166 := fld_of (by kernel_rfl)
instance : Fld Tryz.prog 167 6 8 3 := fld_of (by kernel_rfl)
instance : PlOf Tryz.prog 167 [(0, 1), (1, 1), (2, 1), (3, 1), (4, 2), (6, 2), (8, 1)] := plof_of (by kernel_rfl)
instance : TI Tryz.prog 167 (.agg #[.int .i64 0, .map none, .slice none 0 0, .bool false, .bool false, .int .i64 0, .bool false, .int .i64 0, .int .i64 0]) 9 88 := ti_of (by kernel_rfl)
instance : AggT Tryz.prog 168 true := aggT_of (by kernel_rfl)
instance : Fld Tryz.prog 168 0 0 3 := fld_of (by kernel_rfl)
instance : Fld Tryz.prog 168 1 1 163 := fld_of (by kernel_rfl)
instance : Fld Tryz.prog 168 2 2 164 := fld_of (by kernel_rfl)
instance : Fld Tryz.prog 168 3 3 4 := fld_of (by kernel_rfl)
instance : Fld Tryz.prog 168 4 4 166 := fld_of (by kernel_rfl)
instance : Fld Tryz.prog 168 5 6 166 := fld_of (by kernel_rfl)
instance : Fld Tryz.prog 168 6 8 3 := fld_of (by kernel_rfl)
instance : PlOf Tryz.prog 168 [(0, 1), (1, 1), (2, 1), (3, 1), (4, 2), (6, 2), (8, 1)] := plof_of (by kernel_rfl)
instance : TI Tryz.prog 168 (.agg #[.int .i64 0, .map none, .slice none 0 0, .bool false, .bool false, .int .i64 0, .bool false, .int .i64 0, .int .i64 0]) 9 88 := ti_of (by kernel_rfl)
instance : AggT Tryz.prog 169 true := aggT_of (by kernel_rfl)
instance : Fld Tryz.prog 169 0 0 168 := fld_of (by kernel_rfl)
instance : PlOf Tryz.prog 169 [(0, 9)] := plof_of (by kernel_rfl)
instance : TI Tryz.prog 169 (.agg #[.int .i64 0, .map none, .slice none 0 0, .bool false, .bool false, .int .i64 0, .bool false, .int .i64 0, .int .i64 0]) 9 88 := ti_of (by kernel_rfl)
instance : AggT Tryz.prog 170 true := aggT_of (by kernel_rfl)
instance : Fld Tryz.prog 170 0 0 168 := fld_of (by kernel_rfl)
instance : PlOf Tryz.prog 170 [(0, 9)] := plof_of (by kernel_rfl)
instance : TI Tryz.prog 170 (.agg #[.int .i64 0, .map none, .slice none 0 0, .bool false, .bool false, .int .i64 0, .bool false, .int .i64 0, .int .i64 0]) 9 88 := ti_of (by kernel_rfl)
instance : AggT Tryz.prog 171 false := aggT_of (by kernel_rfl)
instance : TI Tryz.prog 171 (.nilFunc) 1 8 := ti_of (by kernel_rfl)
instance : AggT Tryz.prog 172 false := aggT_of (by kernel_rfl)
instance : TI Tryz.prog 172 (.nilFunc) 1 8 := ti_of (by kernel_rfl)
instance : AggT Tryz.prog 173 false := aggT_of (by kernel_rfl)
instance : TI Tryz.prog 173 (.nilFunc) 1 8 := ti_of (by kernel_rfl)
instance : AggT Tryz.prog 174 true := aggT_of (by kernel_rfl)
instance : Fld Tryz.prog 174 0 0 9 := fld_of (by kernel_rfl)
instance : Fld Tryz.prog 174 1 1 3 := fld_of (by kernel_rfl)
instance : PlOf Tryz.prog 174 [(0, 1), (1, 1)] := plof_of (by kernel_rfl)
instance : TI Tryz.prog 174 (.agg #[.string ⟨#[]⟩, .int .i64 0]) 2 24 := ti_of (by kernel_rfl)
instance : AggT Tryz.prog 175 true := aggT_of (by kernel_rfl)
instance : Fld Tryz.prog 175 0 0 9 := fld_of (by kernel_rfl)
instance : Fld Tryz.prog 175 1 1 3 := fld_of (by kernel_rfl)
instance : PlOf Tryz.prog 175 [(0, 1), (1, 1)] := plof_of (by kernel_rfl)
instance : TI Tryz.prog 175 (.agg #[.string ⟨#[]⟩, .int .i64 0]) 2 24 := ti_of (by kernel_rfl)
instance : AggT Tryz.prog 176 true := aggT_of (by kernel_rfl)
instance : Fld Tryz.prog 176 0 0 9 := fld_of (by kernel_rfl)
instance : Fld Tryz.prog 176 1 1 3 := fld_of (by kernel_rfl)
instance : PlOf Tryz.prog 176 [(0, 1), (1, 1)] := plof_of (by kernel_rfl)
instance : TI Tryz.prog 176 (.agg #[.string ⟨#[]⟩, .int .i64 0]) 2 24 := ti_of (by kernel_rfl)
instance : AggT Tryz.prog 177 true := aggT_of (by kernel_rfl)
instance : Fld Tryz.prog 177 0 0 9 := fld_of (by kernel_rfl)
instance : Fld Tryz.prog 177 1 1 3 := fld_of (by kernel_rfl)
instance : PlOf Tryz.prog 177 [(0, 1), (1, 1)] := plof_of (by kernel_rfl)
instance : TI Tryz.prog 177 (.agg #[.string ⟨#[]⟩, .int .i64 0]) 2 24 := ti_of (by kernel_rfl)
instance : AggT Tryz.prog 178 true := aggT_of (by kernel_rfl)
instance : Fld Tryz.prog 178 0 0 3 := fld_of (by kernel_rfl)
instance : Fld Tryz.prog 178 1 1 3 := fld_of (by kernel_rfl)
instance : Fld Tryz.prog 178 2 2 43 := fld_of (by kernel_rfl)
instance : PlOf Tryz.prog 178 [(0, 1), (1, 1), (2, 5)] := plof_of (by kernel_rfl)
instance : TI Tryz.prog 178 (.agg #[.int .i64 0, .int .i64 0, .int .i64 0, .int .i64 0, .int .i64 0, .string ⟨#[]⟩, .slice none 0 0]) 7 80 := ti_of (by kernel_rfl)
instance : AggT Tryz.prog 179 true := aggT_of (by kernel_rfl)
instance : Fld Tryz.prog 179 0 0 3 := fld_of (by kernel_rfl)
instance : Fld Tryz.prog 179 1 1 3 := fld_of (by kernel_rfl)
instance : Fld Tryz.prog 179 2 2 43 := fld_of (by kernel_rfl)
instance : PlOf Tryz.prog 179 [(0, 1), (1, 1), (2, 5)] := plof_of (by kernel_rfl)
instance : TI Tryz.prog 179 (.agg #[.int .i64 0, .int .i64 0, .int .i64 0, .int .i64 0, .int .i64 0, .string ⟨#[]⟩, .slice none 0 0]) 7 80 := ti_of (by kernel_rfl)
instance : AggT Tryz.prog 180 false := aggT_of (by kernel_rfl)
instance : TI Tryz.prog 180 (.nilFunc) 1 8 := ti_of (by kernel_rfl)
instance : AggT Tryz.prog 181 false := aggT_of (by kernel_rfl)
instance : TI Tryz.prog 181 (.nilFunc) 1 8 := ti_of (by kernel_rfl)
instance : AggT Tryz.prog 182 false := aggT_of (by kernel_rfl)
instance : TI Tryz.prog 182 (.nilFunc) 1 8 := ti_of (by kernel_rfl)
instance : Und Tryz.prog 183 (.slice 3) := ⟨Tryz.underlying183⟩
instance : TI Tryz.prog 183 (.slice none 0 0) 1 24 := ti_of (by kernel_rfl)
instance : AggT Tryz.prog 184 false := aggT_of (by kernel_rfl)
instance : TI Tryz.prog 184 (.nilFunc) 1 8 := ti_of (by kernel_rfl)
instance : AggT Tryz.prog 185 false := aggT_of (by kernel_rfl)
instance : TI Tryz.prog 185 (.nilFunc) 1 8 := ti_of (by kernel_rfl)
instance : AggT Tryz.prog 186 false := aggT_of (by kernel_rfl)
instance : TI Tryz.prog 186 (.nilFunc) 1 8 := ti_of (by kernel_rfl)
instance : AggT Tryz.prog 187 false := aggT_of (by kernel_rfl)
instance : TI Tryz.prog 187 (.nilFunc) 1 8 := ti_of (by kernel_rfl)
instance : AggT Tryz.prog 188 false := aggT_of (by kernel_rfl)
instance : TI Tryz.prog 188 (.nilFunc) 1 8 := ti_of (by kernel_rfl)
instance : AggT Tryz.prog 189 false := aggT_of (by kernel_rfl)
instance : TI Tryz.prog 189 (.nilFunc) 1 8 := ti_of (by kernel_rfl)
instance : AggT Tryz.prog 190 false := aggT_of (by kernel_rfl)
instance : TI Tryz.prog 190 (.nilFunc) 1 8 := ti_of (by kernel_rfl)
instance : AggT Tryz.prog 191 false := aggT_of (by kernel_rfl)
instance : TI Tryz.prog 191 (.nilFunc) 1 8 := ti_of (by kernel_rfl)
instance : AggT Tryz.prog 192 false := aggT_of (by kernel_rfl)
instance : TI Tryz.prog 192 (.nilFunc) 1 8 := ti_of (by kernel_rfl)
instance : AggT Tryz.prog 194 false := aggT_of (by kernel_rfl)
instance : TI Tryz.prog 194 (.nilFunc) 1 8 := ti_of (by kernel_rfl)
instance : AggT Tryz.prog 195 false := aggT_of (by kernel_rfl)
instance : TI Tryz.prog 195 (.nilFunc) 1 8 := ti_of (by kernel_rfl)
instance : AggT Tryz.prog 196 false := aggT_of (by kernel_rfl)
instance : TI Tryz.prog 196 (.nilFunc) 1 8 := ti_of (by kernel_rfl)
instance : AggT Tryz.prog 197 false := aggT_of (by kernel_rfl)
instance : TI Tryz.prog 197 (.nilFunc) 1 8 := ti_of (by kernel_rfl)
instance : AggT Tryz.prog 198 false := aggT_of (by kernel_rfl)
instance : TI Tryz.prog 198 (.nilFunc) 1 8 := ti_of (by kernel_rfl)
instance : AggT Tryz.prog 199 false := aggT_of (by kernel_rfl)
instance : TI Tryz.prog 199 (.nilFunc) 1 8 := ti_of (by kernel_rfl)
instance : AggT Tryz.prog 200 false := aggT_of (by kernel_rfl)
instance : TI Tryz.prog 200 (.nilFunc) 1 8 := ti_of (by kernel_rfl)
instance : AggT Tryz.prog 201 false := aggT_of (by kernel_rfl)
instance : TI Tryz.prog 201 (.nilFunc) 1 8 := ti_of (by kernel_rfl)
instance : AggT Tryz.prog 202 false := aggT_of (by kernel_rfl)
instance : TI Tryz.prog 202 (.nilFunc) 1 8 := ti_of (by kernel_rfl)
instance : AggT Tryz.prog 203 false := aggT_of (by kernel_rfl)
instance : TI Tryz.prog 203 (.nilFunc) 1 8 := ti_of (by kernel_rfl)
instance : Und Tryz.prog 204 (.array 3 3) := ⟨Tryz.underlying204⟩
instance : TI Tryz.prog 204 (.agg #[.int .i64 0, .int .i64 0, .int .i64 0]) 3 24 := ti_of (by kernel_rfl)
instance : AggT Tryz.prog 205 false := aggT_of (by kernel_rfl)
instance : TI Tryz.prog 205 (.nilFunc) 1 8 := ti_of (by kernel_rfl)
instance : AggT Tryz.prog 206 false := aggT_of (by kernel_rfl)
instance : TI Tryz.prog 206 (.nilFunc) 1 8 := ti_of (by kernel_rfl)
instance : Und Tryz.prog 207 (.pointer 209) := ⟨Tryz.underlying207⟩
instance : TI Tryz.prog 207 (.pointer none) 1 8 := ti_of (by kernel_rfl)
instance : AggT Tryz.prog 208 true := aggT_of (by kernel_rfl)
instance : Fld Tryz.prog 208 0 0 114 := fld_of (by kernel_rfl)
instance : Fld Tryz.prog 208 1 1 4 := fld_of (by kernel_rfl)
instance : PlOf Tryz.prog 208 [(0, 1), (1, 1)] := plof_of (by kernel_rfl)
instance : TI Tryz.prog 208 (.agg #[.pointer none, .bool false]) 2 16 := ti_of (by kernel_rfl)
instance : AggT Tryz.prog 209 true := aggT_of (by kernel_rfl)
instance : Fld Tryz.prog 209 0 0 114 := fld_of (by kernel_rfl)
instance : Fld Tryz.prog 209 1 1 4 := fld_of (by kernel_rfl)
instance : PlOf Tryz.prog 209 [(0, 1), (1, 1)] := plof_of (by kernel_rfl)
instance : TI Tryz.prog 209 (.agg #[.pointer none, .bool false]) 2 16 := ti_of (by kernel_rfl)
instance : AggT Tryz.prog 210 false := aggT_of (by kernel_rfl)
instance : TI Tryz.prog 210 (.nilFunc) 1 8 := ti_of (by kernel_rfl)
instance : AggT Tryz.prog 211 false := aggT_of (by kernel_rfl)
instance : TI Tryz.prog 211 (.nilFunc) 1 8 := ti_of (by kernel_rfl)
instance : AggT Tryz.prog 212 false := aggT_of (by kernel_rfl)
instance : TI Tryz.prog 212 (.nilFunc) 1 8 := ti_of (by kernel_rfl)
instance : AggT Tryz.prog 213 true := aggT_of (by kernel_rfl)
instance : Fld Tryz.prog 213 0 0 36 := fld_of (by kernel_rfl)
instance : Fld Tryz.prog 213 1 1 67 := fld_of (by kernel_rfl)
instance : PlOf Tryz.prog 213 [(0, 1), (1, 7)] := plof_of (by kernel_rfl)
instance : TI Tryz.prog 213 (.agg #[.pointer none, .int .i64 0, .int .i64 0, .int .i64 0, .int .i64 0, .slice none 0 0, .slice none 0 0, .slice none 0 0]) 8 112 := ti_of (by kernel_rfl)
instance : AggT Tryz.prog 214 true := aggT_of (by kernel_rfl)
instance : Fld Tryz.prog 214 0 0 36 := fld_of (by kernel_rfl)
instance : Fld Tryz.prog 214 1 1 67 := fld_of (by kernel_rfl)
instance : PlOf Tryz.prog 214 [(0, 1), (1, 7)] := plof_of (by kernel_rfl)
instance : TI Tryz.prog 214 (.agg #[.pointer none, .int .i64 0, .int .i64 0, .int .i64 0, .int .i64 0, .slice none 0 0, .slice none 0 0, .slice none 0 0]) 8 112 := ti_of (by kernel_rfl)
instance : AggT Tryz.prog 215 false := aggT_of (by kernel_rfl)
instance : TI Tryz.prog 215 (.nilFunc) 1 8 := ti_of (by kernel_rfl)
instance : AggT Tryz.prog 216 false := aggT_of (by kernel_rfl)
instance : TI Tryz.prog 216 (.nilFunc) 1 8 := ti_of (by kernel_rfl)
instance : AggT Tryz.prog 218 false := aggT_of (by kernel_rfl)
instance : TI Tryz.prog 218 (.nilFunc) 1 8 := ti_of (by kernel_rfl)
instance : Und Tryz.prog 219 (.slice 129) := ⟨Tryz.underlying219⟩
instance : TI Tryz.prog 219 (.slice none 0 0) 1 24 := ti_of (by kernel_rfl)
instance : AggT Tryz.prog 221 false := aggT_of (by kernel_rfl)
instance : TI Tryz.prog 221 (.nilFunc) 1 8 := ti_of (by kernel_rfl)
instance : AggT Tryz.prog 223 false := aggT_of (by kernel_rfl)
instance : TI Tryz.prog 223 (.nilFunc) 1 8 := ti_of (by kernel_rfl)
instance : AggT Tryz.prog 224 false := aggT_of (by kernel_rfl)
instance : TI Tryz.prog 224 (.nilFunc) 1 8 := ti_of (by kernel_rfl)
instance : AggT Tryz.prog 225 true := aggT_of (by kernel_rfl)
instance : Fld Tryz.prog 225 0 0 36 := fld_of (by kernel_rfl)
instance : Fld Tryz.prog 225 1 1 67 := fld_of (by kernel_rfl)
instance : PlOf Tryz.prog 225 [(0, 1), (1, 7)] := plof_of (by kernel_rfl)
instance : TI Tryz.prog 225 (.agg #[.pointer none, .int .i64 0, .int .i64 0, .int .i64 0, .int .i64 0, .slice none 0 0, .slice none 0 0, .slice none 0 0]) 8 112 := ti_of (by kernel_rfl)
instance : AggT Tryz.prog 226 true := aggT_of (by kernel_rfl)
instance : Fld Tryz.prog 226 0 0 36 := fld_of (by kernel_rfl)
instance : Fld Tryz.prog 226 1 1 67 := fld_of (by kernel_rfl)
instance : PlOf Tryz.prog 226 [(0, 1), (1, 7)] := plof_of (by kernel_rfl)
instance : TI Tryz.prog 226 (.agg #[.pointer none, .int .i64 0, .int .i64 0, .int .i64 0, .int .i64 0, .slice none 0 0, .slice none 0 0, .slice none 0 0]) 8 112 := ti_of (by kernel_rfl)
instance : AggT Tryz.prog 227 false := aggT_of (by kernel_rfl)
instance : TI Tryz.prog 227 (.nilFunc) 1 8 := ti_of (by kernel_rfl)
instance : AggT Tryz.prog 228 false := aggT_of (by kernel_rfl)
instance : TI Tryz.prog 228 (.nilFunc) 1 8 := ti_of (by kernel_rfl)
instance : Und Tryz.prog 229 (.array 2 4) := ⟨Tryz.underlying229⟩
instance : TI Tryz.prog 229 (.agg #[.bool false, .bool false]) 2 2 := ti_of (by kernel_rfl)
instance : AggT Tryz.prog 230 false := aggT_of (by kernel_rfl)
instance : TI Tryz.prog 230 (.nilFunc) 1 8 := ti_of (by kernel_rfl)
instance : AggT Tryz.prog 231 false := aggT_of (by kernel_rfl)
instance : TI Tryz.prog 231 (.nilFunc) 1 8 := ti_of (by kernel_rfl)
instance : AggT Tryz.prog 232 false := aggT_of (by kernel_rfl)
instance : TI Tryz.prog 232 (.nilFunc) 1 8 := ti_of (by kernel_rfl)
instance : AggT Tryz.prog 233 false := aggT_of (by kernel_rfl)
instance : TI Tryz.prog 233 (.nilFunc) 1 8 := ti_of (by kernel_rfl)
instance : AggT Tryz.prog 234 false := aggT_of (by kernel_rfl)
instance : TI Tryz.prog 234 (.nilFunc) 1 8 := ti_of (by kernel_rfl)
instance : AggT Tryz.prog 235 true := aggT_of (by kernel_rfl)
instance : Fld Tryz.prog 235 0 0 25 := fld_of (by kernel_rfl)
instance : Fld Tryz.prog 235 1 1 26 := fld_of (by kernel_rfl)
instance : PlOf Tryz.prog 235 [(0, 1), (1, 1)] := plof_of (by kernel_rfl)
instance : TI Tryz.prog 235 (.agg #[.slice none 0 0, .int .i64 0]) 2 32 := ti_of (by kernel_rfl)
instance : AggT Tryz.prog 236 true := aggT_of (by kernel_rfl)
instance : Fld Tryz.prog 236 0 0 25 := fld_of (by kernel_rfl)
instance : Fld Tryz.prog 236 1 1 26 := fld_of (by kernel_rfl)
instance : PlOf Tryz.prog 236 [(0, 1), (1, 1)] := plof_of (by kernel_rfl)
instance : TI Tryz.prog 236 (.agg #[.slice none 0 0, .int .i64 0]) 2 32 := ti_of (by kernel_rfl)
instance : AggT Tryz.prog 237 true := aggT_of (by kernel_rfl)
instance : Fld Tryz.prog 237 0 0 236 := fld_of (by kernel_rfl)
instance : PlOf Tryz.prog 237 [(0, 2)] := plof_of (by kernel_rfl)
instance : TI Tryz.prog 237 (.agg #[.slice none 0 0, .int .i64 0]) 2 32 := ti_of (by kernel_rfl)
instance : AggT Tryz.prog 238 true := aggT_of (by kernel_rfl)
instance : Fld Tryz.prog 238 0 0 236 := fld_of (by kernel_rfl)
instance : PlOf Tryz.prog 238 [(0, 2)] := plof_of (by kernel_rfl)
instance : TI Tryz.prog 238 (.agg #[.slice none 0 0, .int .i64 0]) 2 32 := ti_of (by kernel_rfl)
instance : Und Tryz.prog 239 (.int .u64) := ⟨Tryz.underlying239⟩
instance : TI Tryz.prog 239 (.int .u64 0) 1 8 := ti_of (by kernel_rfl)
instance : AggT Tryz.prog 240 false := aggT_of (by kernel_rfl)
instance : TI Tryz.prog 240 (.nilFunc) 1 8 := ti_of (by kernel_rfl)
instance : AggT Tryz.prog 241 false := aggT_of (by kernel_rfl)
instance : TI Tryz.prog 241 (.nilFunc) 1 8 := ti_of (by kernel_rfl)
instance : AggT Tryz.prog 242 false := aggT_of (by kernel_rfl)
instance : TI Tryz.prog 242 (.nilFunc) 1 8 := ti_of (by kernel_rfl)
instance : Und Tryz.prog 243 (.pointer 245) := ⟨Tryz.underlying243⟩
instance : TI Tryz.prog 243 (.pointer none) 1 8 := ti_of (by kernel_rfl)
instance : AggT Tryz.prog 244 true := aggT_of (by kernel_rfl)
instance : Fld Tryz.prog 244 0 0 114 := fld_of (by kernel_rfl)
instance : Fld Tryz.prog 244 1 1 3 := fld_of (by kernel_rfl)
instance : PlOf Tryz.prog 244 [(0, 1), (1, 1)] := plof_of (by kernel_rfl)
instance : TI Tryz.prog 244 (.agg #[.pointer none, .int .i64 0]) 2 16 := ti_of (by kernel_rfl)
instance : AggT Tryz.prog 245 true := aggT_of (by kernel_rfl)
instance : Fld Tryz.prog 245 0 0 114 := fld_of (by kernel_rfl)
instance : Fld Tryz.prog 245 1 1 3 := fld_of (by kernel_rfl)
instance : PlOf Tryz.prog 245 [(0, 1), (1, 1)] := plof_of (by kernel_rfl)
instance : TI Tryz.prog 245 (.agg #[.pointer none, .int .i64 0]) 2 16 := ti_of (by kernel_rfl)
instance : AggT Tryz.prog 246 true := aggT_of (by kernel_rfl)
instance : Fld Tryz.prog 246 0 0 26 := fld_of (by kernel_rfl)
instance : PlOf Tryz.prog 246 [(0, 1)] := plof_of (by kernel_rfl)
instance : TI Tryz.prog 246 (.agg #[.int .i64 0]) 1 8 := ti_of (by kernel_rfl)
instance : AggT Tryz.prog 247 true := aggT_of (by kernel_rfl)
instance : Fld Tryz.prog 247 0 0 26 := fld_of (by kernel_rfl)
instance : PlOf Tryz.prog 247 [(0, 1)] := plof_of (by kernel_rfl)
instance : TI Tryz.prog 247 (.agg #[.int .i64 0]) 1 8 := ti_of (by kernel_rfl)
instance : AggT Tryz.prog 249 false := aggT_of (by kernel_rfl)
instance : TI Tryz.prog 249 (.nilFunc) 1 8 := ti_of (by kernel_rfl)
instance : AggT Tryz.prog 250 false := aggT_of (by kernel_rfl)
instance : TI Tryz.prog 250 (.nilFunc) 1 8 := ti_of (by kernel_rfl)
instance : AggT Tryz.prog 251 false := aggT_of (by kernel_rfl)
instance : TI Tryz.prog 251 (.nilFunc) 1 8 := ti_of (by kernel_rfl)
instance : Und Tryz.prog 252 (.array 2 121) := ⟨Tryz.underlying252⟩
instance : TI Tryz.prog 252 (.agg #[.nilFunc, .nilFunc]) 2 16 := ti_of (by kernel_rfl)
instance : Und Tryz.prog 253 (.array 48 5) := ⟨Tryz.underlying253⟩
instance : TI Tryz.prog 253 (.agg ⟨encL (List.replicate 48 (0 : UInt8))⟩) 48 48 := ti_of (by kernel_rfl)
instance : AggT Tryz.prog 254 false := aggT_of (by kernel_rfl)
instance : TI Tryz.prog 254 (.nilFunc) 1 8 := ti_of (by kernel_rfl)
instance : AggT Tryz.prog 255 false := aggT_of (by kernel_rfl)
instance : TI Tryz.prog 255 (.nilFunc) 1 8 := ti_of (by kernel_rfl)
instance : AggT Tryz.prog 256 false := aggT_of (by kernel_rfl)
instance : TI Tryz.prog 256 (.nilFunc) 1 8 := ti_of (by kernel_rfl)
instance : AggT Tryz.prog 257 false := aggT_of (by kernel_rfl)
instance : TI Tryz.prog 257 (.nilFunc) 1 8 := ti_of (by kernel_rfl)
instance : AggT Tryz.prog 258 false := aggT_of (by kernel_rfl)
instance : TI Tryz.prog 258 (.nilFunc) 1 8 := ti_of (by kernel_rfl)
instance : AggT Tryz.prog 259 false := aggT_of (by kernel_rfl)
instance : TI Tryz.prog 259 (.nilFunc) 1 8 := ti_of (by kernel_rfl)
instance : AggT Tryz.prog 260 false := aggT_of (by kernel_rfl)
instance : TI Tryz.prog 260 (.nilFunc) 1 8 := ti_of (by kernel_rfl)
instance : AggT Tryz.prog 261 false := aggT_of (by kernel_rfl)
instance : TI Tryz.prog 261 (.nilFunc) 1 8 := ti_of (by kernel_rfl)
instance : Und Tryz.prog 262 (.pointer 166) := ⟨Tryz.underlying262⟩
instance : TI Tryz.prog 262 (.pointer none) 1 8 := ti_of (by kernel_rfl)
instance : Und Tryz.prog 263 (.pointer 168) := ⟨Tryz.underlying263⟩
instance : TI Tryz.prog 263 (.pointer none) 1 8 := ti_of (by kernel_rfl)
instance : AggT Tryz.prog 264 true := aggT_of (by kernel_rfl)
instance : Fld Tryz.prog 264 0 0 3 := fld_of (by kernel_rfl)
instance : Fld Tryz.prog 264 1 1 129 := fld_of (by kernel_rfl)
instance : PlOf Tryz.prog 264 [(0, 1), (1, 64)] := plof_of (by kernel_rfl)
instance : TI Tryz.prog 264 (.agg ⟨.int .i64 0 :: encL (List.replicate 64 (0 : UInt8))⟩) 65 72 := ti_of (by kernel_rfl)
instance : AggT Tryz.prog 265 true := aggT_of (by kernel_rfl)
instance : Fld Tryz.prog 265 0 0 3 := fld_of (by kernel_rfl)
instance : Fld Tryz.prog 265 1 1 129 := fld_of (by kernel_rfl)
instance : PlOf Tryz.prog 265 [(0, 1), (1, 64)] := plof_of (by kernel_rfl)
instance : TI Tryz.prog 265 (.agg ⟨.int .i64 0 :: encL (List.replicate 64 (0 : UInt8))⟩) 65 72 := ti_of (by kernel_rfl)
instance : AggT Tryz.prog 266 false := aggT_of (by kernel_rfl)
instance : TI Tryz.prog 266 (.nilFunc) 1 8 := ti_of (by kernel_rfl)
instance : AggT Tryz.prog 267 false := aggT_of (by kernel_rfl)
instance : TI Tryz.prog 267 (.nilFunc) 1 8 := ti_of (by kernel_rfl)
instance : AggT Tryz.prog 268 false := aggT_of (by kernel_rfl)
instance : TI Tryz.prog 268 (.nilFunc) 1 8 := ti_of (by kernel_rfl)
instance : AggT Tryz.prog 269 false := aggT_of (by kernel_rfl)
instance : TI Tryz.prog 269 (.nilFunc) 1 8 := ti_of (by kernel_rfl)
instance : AggT Tryz.prog 270 true := aggT_of (by kernel_rfl)
instance : Fld Tryz.prog 270 0 0 3 := fld_of (by kernel_rfl)
instance : Fld Tryz.prog 270 1 1 3 := fld_of (by kernel_rfl)
instance : Fld Tryz.prog 270 2 2 9 := fld_of (by kernel_rfl)
instance : Fld Tryz.prog 270 3 3 3 := fld_of (by kernel_rfl)
instance : Fld Tryz.prog 270 4 4 3 := fld_of (by kernel_rfl)
instance : Fld Tryz.prog 270 5 5 4 := fld_of (by kernel_rfl)
instance : Fld Tryz.prog 270 6 6 43 := fld_of (by kernel_rfl)
instance : PlOf Tryz.prog 270 [(0, 1), (1, 1), (2, 1), (3, 1), (4, 1), (5, 1), (6, 5)] := plof_of (by kernel_rfl)
instance : TI Tryz.prog 270 (.agg #[.int .i64 0, .int .i64 0, .string ⟨#[]⟩, .int .i64 0, .int .i64 0, .bool false, .int .i64 0, .int .i64 0, .int .i64 0, .string ⟨#[]⟩, .slice none 0 0]) 11 120 := ti_of (by kernel_rfl)
instance : AggT Tryz.prog 271 true := aggT_of (by kernel_rfl)
instance : Fld Tryz.prog 271 0 0 3 := fld_of (by kernel_rfl)
instance : Fld Tryz.prog 271 1 1 3 := fld_of (by kernel_rfl)
instance : Fld Tryz.prog 271 2 2 9 := fld_of (by kernel_rfl)
instance : Fld Tryz.prog 271 3 3 3 := fld_of (by kernel_rfl)
instance : Fld Tryz.prog 271 4 4 3 := fld_of (by kernel_rfl)
instance : Fld Tryz.prog 271 5 5 4 := fld_of (by kernel_rfl)
instance : Fld Tryz.prog 271 6 6 43 := fld_of (by kernel_rfl)
instance : PlOf Tryz.prog 271 [(0, 1), (1, 1), (2, 1), (3, 1), (4, 1), (5, 1), (6, 5)] := plof_of (by kernel_rfl)
instance : TI Tryz.prog 271 (.agg #[.int .i64 0, .int .i64 0, .string ⟨#[]⟩, .int .i64 0, .int .i64 0, .bool false, .int .i64 0, .int .i64 0, .int .i64 0, .string ⟨#[]⟩, .slice none 0 0]) 11 120 := ti_of (by kernel_rfl)
instance : AggT Tryz.prog 272 false := aggT_of (by kernel_rfl)
instance : TI Tryz.prog 272 (.nilFunc) 1 8 := ti_of (by kernel_rfl)
instance : AggT Tryz.prog 273 false := aggT_of (by kernel_rfl)
instance : TI Tryz.prog 273 (.nilFunc) 1 8 := ti_of (by kernel_rfl)
instance : AggT Tryz.prog 274 false := aggT_of (by kernel_rfl)
instance : TI Tryz.prog 274 (.nilFunc) 1 8 := ti_of (by kernel_rfl)
instance : AggT Tryz.prog 275 false := aggT_of (by kernel_rfl)
instance : TI Tryz.prog 275 (.nilFunc) 1 8 := ti_of (by kernel_rfl)
instance : AggT Tryz.prog 276 false := aggT_of (by kernel_rfl)
instance : TI Tryz.prog 276 (.nilFunc) 1 8 := ti_of (by kernel_rfl)
instance : AggT Tryz.prog 277 false := aggT_of (by kernel_rfl)
instance : TI Tryz.prog 277 (.nilFunc) 1 8 := ti_of (by kernel_rfl)
instance : AggT Tryz.prog 278 false := aggT_of (by kernel_rfl)
instance : TI Tryz.prog 278 (.nilFunc) 1 8 := ti_of (by kernel_rfl)
instance : AggT Tryz.prog 279 false := aggT_of (by kernel_rfl)
instance : TI Tryz.prog 279 (.nilFunc) 1 8 := ti_of (by kernel_rfl)
instance : AggT Tryz.prog 280 false := aggT_of (by kernel_rfl)
instance : TI Tryz.prog 280 (.nilFunc) 1 8 := ti_of (by kernel_rfl)
instance : AggT Tryz.prog 281 false := aggT_of (by kernel_rfl)
instance : TI Tryz.prog 281 (.nilFunc) 1 8 := ti_of (by kernel_rfl)
instance : AggT Tryz.prog 282 false := aggT_of (by kernel_rfl)
instance : TI Tryz.prog 282 (.nilFunc) 1 8 := ti_of (by kernel_rfl)
instance : AggT Tryz.prog 283 false := aggT_of (by kernel_rfl)
instance : TI Tryz.prog 283 (.nilFunc) 1 8 := ti_of (by kernel_rfl)
instance : AggT Tryz.prog 284 false := aggT_of (by kernel_rfl)
instance : TI Tryz.prog 284 (.nilFunc) 1 8 := ti_of (by kernel_rfl)
instance : AggT Tryz.prog 285 false := aggT_of (by kernel_rfl)
instance : TI Tryz.prog 285 (.nilFunc) 1 8 := ti_of (by kernel_rfl)
instance : Und Tryz.prog 286 (.pointer 288) := ⟨Tryz.underlying286⟩
instance : TI Tryz.prog 286 (.pointer none) 1 8 := ti_of (by kernel_rfl)
instance : AggT Tryz.prog 287 true := aggT_of (by kernel_rfl)
instance : Fld Tryz.prog 287 0 0 25 := fld_of (by kernel_rfl)
instance : Fld Tryz.prog 287 1 1 4 := fld_of (by kernel_rfl)
instance : Fld Tryz.prog 287 2 2 4 := fld_of (by kernel_rfl)
instance : PlOf Tryz.prog 287 [(0, 1), (1, 1), (2, 1)] := plof_of (by kernel_rfl)
instance : TI Tryz.prog 287 (.agg #[.slice none 0 0, .bool false, .bool false]) 3 32 := ti_of (by kernel_rfl)
instance : AggT Tryz.prog 288 true := aggT_of (by kernel_rfl)
instance : Fld Tryz.prog 288 0 0 25 := fld_of (by kernel_rfl)
instance : Fld Tryz.prog 288 1 1 4 := fld_of (by kernel_rfl)
instance : Fld Tryz.prog 288 2 2 4 := fld_of (by kernel_rfl)
instance : PlOf Tryz.prog 288 [(0, 1), (1, 1), (2, 1)] := plof_of (by kernel_rfl)
instance : TI Tryz.prog 288 (.agg #[.slice none 0 0, .bool false, .bool false]) 3 32 := ti_of (by kernel_rfl)
instance : AggT Tryz.prog 289 false := aggT_of (by kernel_rfl)
instance : TI Tryz.prog 289 (.nilFunc) 1 8 := ti_of (by kernel_rfl)
instance : Und Tryz.prog 290 (.int .i64) := ⟨Tryz.underlying290⟩
instance : TI Tryz.prog 290 (.int .i64 0) 1 8 := ti_of (by kernel_rfl)
instance : AggT Tryz.prog 291 false := aggT_of (by kernel_rfl)
instance : TI Tryz.prog 291 (.nilFunc) 1 8 := ti_of (by kernel_rfl)
instance : AggT Tryz.prog 292 false := aggT_of (by kernel_rfl)
instance : TI Tryz.prog 292 (.nilFunc) 1 8 := ti_of (by kernel_rfl)
instance : Und Tryz.prog 293 (.pointer 236) := ⟨Tryz.underlying293⟩
instance : TI Tryz.prog 293 (.pointer none) 1 8 := ti_of (by kernel_rfl)
instance : AggT Tryz.prog 294 false := aggT_of (by kernel_rfl)
instance : TI Tryz.prog 294 (.nilFunc) 1 8 := ti_of (by kernel_rfl)
instance : Und Tryz.prog 295 (.array 32 5) := ⟨Tryz.underlying295⟩
instance : TI Tryz.prog 295 (.agg ⟨encL (List.replicate 32 (0 : UInt8))⟩) 32 32 := ti_of (by kernel_rfl)
instance : Und Tryz.prog 296 (.array 32 5) := ⟨Tryz.underlying296⟩
instance : TI Tryz.prog 296 (.agg ⟨encL (List.replicate 32 (0 : UInt8))⟩) 32 32 := ti_of (by kernel_rfl)
instance : AggT Tryz.prog 297 false := aggT_of (by kernel_rfl)
instance : TI Tryz.prog 297 (.nilFunc) 1 8 := ti_of (by kernel_rfl)
instance : AggT Tryz.prog 298 false := aggT_of (by kernel_rfl)
instance : TI Tryz.prog 298 (.nilFunc) 1 8 := ti_of (by kernel_rfl)
instance : AggT Tryz.prog 299 false := aggT_of (by kernel_rfl)
instance : TI Tryz.prog 299 (.nilFunc) 1 8 := ti_of (by kernel_rfl)
instance : AggT Tryz.prog 300 false := aggT_of (by kernel_rfl)
instance : TI Tryz.prog 300 (.nilFunc) 1 8 := ti_of (by kernel_rfl)
instance : AggT Tryz.prog 301 false := aggT_of (by kernel_rfl)
instance : TI Tryz.prog 301 (.nilFunc) 1 8 := ti_of (by kernel_rfl)
instance : AggT Tryz.prog 302 false := aggT_of (by kernel_rfl)
instance : TI Tryz.prog 302 (.nilFunc) 1 8 := ti_of (by kernel_rfl)
instance : AggT Tryz.prog 303 false := aggT_of (by kernel_rfl)
instance : TI Tryz.prog 303 (.nilFunc) 1 8 := ti_of (by kernel_rfl)
instance : AggT Tryz.prog 304 false := aggT_of (by kernel_rfl)
instance : TI Tryz.prog 304 (.nilFunc) 1 8 := ti_of (by kernel_rfl)
instance : AggT Tryz.prog 305 false := aggT_of (by kernel_rfl)
instance : TI Tryz.prog 305 (.nilFunc) 1 8 := ti_of (by kernel_rfl)
instance : AggT Tryz.prog 306 false := aggT_of (by kernel_rfl)
instance : TI Tryz.prog 306 (.nilFunc) 1 8 := ti_of (by kernel_rfl)
instance : AggT Tryz.prog 307 false := aggT_of (by kernel_rfl)
instance : TI Tryz.prog 307 (.nilFunc) 1 8 := ti_of (by kernel_rfl)
instance : AggT Tryz.prog 308 false := aggT_of (by kernel_rfl)
instance : TI Tryz.prog 308 (.nilFunc) 1 8 := ti_of (by kernel_rfl)
instance : AggT Tryz.prog 309 false := aggT_of (by kernel_rfl)
instance : TI Tryz.prog 309 (.nilFunc) 1 8 := ti_of (by kernel_rfl)
instance : AggT Tryz.prog 310 false := aggT_of (by kernel_rfl)
instance : TI Tryz.prog 310 (.nilFunc) 1 8 := ti_of (by kernel_rfl)
instance : AggT Tryz.prog 311 false := aggT_of (by kernel_rfl)
instance : TI Tryz.prog 311 (.nilFunc) 1 8 := ti_of (by kernel_rfl)
instance : AggT Tryz.prog 312 false := aggT_of (by kernel_rfl)
instance : TI Tryz.prog 312 (.nilFunc) 1 8 := ti_of (by kernel_rfl)
instance : Und Tryz.prog 313 (.array 8 130) := ⟨Tryz.underlying313⟩
instance : TI Tryz.prog 313 (.agg #[.int .u32 0, .int .u32 0, .int .u32 0, .int .u32 0, .int .u32 0, .int .u32 0, .int .u32 0, .int .u32 0]) 8 32 := ti_of (by kernel_rfl)
instance : AggT Tryz.prog 314 false := aggT_of (by kernel_rfl)
instance : TI Tryz.prog 314 (.nilFunc) 1 8 := ti_of (by kernel_rfl)
instance : AggT Tryz.prog 315 false := aggT_of (by kernel_rfl)
instance : TI Tryz.prog 315 (.nilFunc) 1 8 := ti_of (by kernel_rfl)
instance : AggT Tryz.prog 316 false := aggT_of (by kernel_rfl)
instance : TI Tryz.prog 316 (.nilFunc) 1 8 := ti_of (by kernel_rfl)
instance : AggT Tryz.prog 317 false := aggT_of (by kernel_rfl)
instance : TI Tryz.prog 317 (.nilFunc) 1 8 := ti_of (by kernel_rfl)
instance : AggT Tryz.prog 318 false := aggT_of (by kernel_rfl)
instance : TI Tryz.prog 318 (.nilFunc) 1 8 := ti_of (by kernel_rfl)
instance : AggT Tryz.prog 319 false := aggT_of (by kernel_rfl)
instance : TI Tryz.prog 319 (.nilFunc) 1 8 := ti_of (by kernel_rfl)
instance : AggT Tryz.prog 320 true := aggT_of (by kernel_rfl)
instance : Fld Tryz.prog 320 0 0 3 := fld_of (by kernel_rfl)
instance : Fld Tryz.prog 320 1 1 3 := fld_of (by kernel_rfl)
instance : Fld Tryz.prog 320 2 2 3 := fld_of (by kernel_rfl)
instance : Fld Tryz.prog 320 3 3 319 := fld_of (by kernel_rfl)
instance : PlOf Tryz.prog 320 [(0, 1), (1, 1), (2, 1), (3, 1)] := plof_of (by kernel_rfl)
instance : TI Tryz.prog 320 (.agg #[.int .i64 0, .int .i64 0, .int .i64 0, .nilFunc]) 4 32 := ti_of (by kernel_rfl)
instance : AggT Tryz.prog 321 true := aggT_of (by kernel_rfl)
instance : Fld Tryz.prog 321 0 0 3 := fld_of (by kernel_rfl)
instance : Fld Tryz.prog 321 1 1 3 := fld_of (by kernel_rfl)
instance : Fld Tryz.prog 321 2 2 3 := fld_of (by kernel_rfl)
instance : Fld Tryz.prog 321 3 3 319 := fld_of (by kernel_rfl)
instance : PlOf Tryz.prog 321 [(0, 1), (1, 1), (2, 1), (3, 1)] := plof_of (by kernel_rfl)
instance : TI Tryz.prog 321 (.agg #[.int .i64 0, .int .i64 0, .int .i64 0, .nilFunc]) 4 32 := ti_of (by kernel_rfl)
instance : Und Tryz.prog 322 (.array 16 130) := ⟨Tryz.underlying322⟩
instance : TI Tryz.prog 322 (.agg #[.int .u32 0, .int .u32 0, .int .u32 0, .int .u32 0, .int .u32 0, .int .u32 0, .int .u32 0, .int .u32 0, .int .u32 0, .int .u32 0, .int .u32 0, .int .u32 0, .int .u32 0, .int .u32 0, .int .u32 0, .int .u32 0]) 16 64 := ti_of (by kernel_rfl)
instance : Und Tryz.prog 323 (.array 64 130) := ⟨Tryz.underlying323⟩
instance : TI Tryz.prog 323 (.agg ⟨.int .u32 0 :: .int .u32 0 :: .int .u32 0 :: .int .u32 0 :: .int .u32 0 :: .int .u32 0 :: .int .u32 0 :: .int .u32 0 :: .int .u32 0 :: .int .u32 0 :: .int .u32 0 :: .int .u32 0 :: .int .u32 0 :: .int .u32 0 :: .int .u32 0 :: .int .u32 0 :: .int .u32 0 :: .int .u32 0 :: .int .u32 0 :: .int .u32 0 :: .int .u32 0 :: .int .u32 0 :: .int .u32 0 :: .int .u32 0 :: .int .u32 0 :: .int .u32 0 :: .int .u32 0 :: .int .u32 0 :: .int .u32 0 :: .int .u32 0 :: .int .u32 0 :: .int .u32 0 :: .int .u32 0 :: .int .u32 0 :: .int .u32 0 :: .int .u32 0 :: .int .u32 0 :: .int .u32 0 :: .int .u32 0 :: .int .u32 0 :: .int .u32 0 :: .int .u32 0 :: .int .u32 0 :: .int .u32 0 :: .int .u32 0 :: .int .u32 0 :: .int .u32 0 :: .int .u32 0 :: .int .u32 0 :: .int .u32 0 :: .int .u32 0 :: .int .u32 0 :: .int .u32 0 :: .int .u32 0 :: .int .u32 0 :: .int .u32 0 :: .int .u32 0 :: .int .u32 0 :: .int .u32 0 :: .int .u32 0 :: .int .u32 0 :: .int .u32 0 :: .int .u32 0 :: .int .u32 0 :: []⟩) 64 256 := ti_of (by kernel_rfl)
instance : AggT Tryz.prog 324 false := aggT_of (by kernel_rfl)
instance : TI Tryz.prog 324 (.nilFunc) 1 8 := ti_of (by kernel_rfl)
instance : Und Tryz.prog 325 (.pointer 130) := ⟨Tryz.underlying325⟩
instance : TI Tryz.prog 325 (.pointer none) 1 8 := ti_of (by kernel_rfl)
instance : AggT Tryz.prog 326 false := aggT_of (by kernel_rfl)
instance : TI Tryz.prog 326 (.nilFunc) 1 8 := ti_of (by kernel_rfl)
instance : AggT Tryz.prog 327 false := aggT_of (by kernel_rfl)
instance : TI Tryz.prog 327 (.nilFunc) 1 8 := ti_of (by kernel_rfl)
instance : AggT Tryz.prog 328 false := aggT_of (by kernel_rfl)
instance : TI Tryz.prog 328 (.nilFunc) 1 8 := ti_of (by kernel_rfl)
instance : AggT Tryz.prog 329 false := aggT_of (by kernel_rfl)
instance : TI Tryz.prog 329 (.nilFunc) 1 8 := ti_of (by kernel_rfl)
instance : AggT Tryz.prog 330 false := aggT_of (by kernel_rfl)
instance : TI Tryz.prog 330 (.nilFunc) 1 8 := ti_of (by kernel_rfl)
instance : AggT Tryz.prog 331 false := aggT_of (by kernel_rfl)
instance : TI Tryz.prog 331 (.nilFunc) 1 8 := ti_of (by kernel_rfl)
instance : Und Tryz.prog 340 (.pointer 5) := ⟨Tryz.underlying340⟩
instance : TI Tryz.prog 340 (.pointer none) 1 8 := ti_of (by kernel_rfl)
instance : FnRes Tryz.f3 [ResultVar.tmp 4] := ⟨rfl⟩
instance : FnRes Tryz.f4 [ResultVar.tmp 4] := ⟨rfl⟩
instance : FnRes Tryz.f5 [ResultVar.tmp 4] := ⟨rfl⟩
instance : FnRes Tryz.f6 [ResultVar.tmp 6] := ⟨rfl⟩
instance : FnRes Tryz.f7 [ResultVar.tmp 2] := ⟨rfl⟩
instance : FnRes Tryz.f8 [ResultVar.tmp 6] := ⟨rfl⟩
instance : FnRes Tryz.f9 [ResultVar.tmp 6] := ⟨rfl⟩
instance : FnRes Tryz.f10 [ResultVar.tmp 4] := ⟨rfl⟩
instance : FnRes Tryz.f11 [ResultVar.tmp 6] := ⟨rfl⟩
instance : FnRes Tryz.f12 [ResultVar.tmp 0] := ⟨rfl⟩
instance : FnRes Tryz.f13 [ResultVar.tmp 2] := ⟨rfl⟩
instance : FnRes Tryz.f14 [ResultVar.tmp 2, ResultVar.tmp 3] := ⟨rfl⟩
instance : FnRes Tryz.f15 [ResultVar.tmp 2, ResultVar.tmp 3] := ⟨rfl⟩
instance : FnRes Tryz.f16 [ResultVar.tmp 4] := ⟨rfl⟩
instance : FnRes Tryz.f17 [ResultVar.tmp 0] := ⟨rfl⟩
instance : FnRes Tryz.f18 [ResultVar.tmp 4, ResultVar.tmp 5] := ⟨rfl⟩
instance : FnRes Tryz.f19 [ResultVar.cell 4 26] := ⟨rfl⟩
instance : FnRes Tryz.f20 [ResultVar.cell 4 26] := ⟨rfl⟩
instance : FnRes Tryz.f21 [ResultVar.tmp 2, ResultVar.tmp 3] := ⟨rfl⟩
instance : FnRes Tryz.f22 [ResultVar.tmp 2] := ⟨rfl⟩
instance : FnRes Tryz.f23 [ResultVar.tmp 4] := ⟨rfl⟩
instance : FnRes Tryz.f24 [ResultVar.cell 2 47, ResultVar.cell 3 26] := ⟨rfl⟩
instance : FnRes Tryz.f25 [ResultVar.tmp 4] := ⟨rfl⟩
instance : FnRes Tryz.f26 [ResultVar.tmp 2] := ⟨rfl⟩
instance : FnRes Tryz.f27 [ResultVar.cell 4 43, ResultVar.tmp 5] := ⟨rfl⟩
instance : FnRes Tryz.f28 [ResultVar.tmp 4, ResultVar.tmp 5] := ⟨rfl⟩
instance : FnRes Tryz.f29 [ResultVar.tmp 4] := ⟨rfl⟩
instance : FnRes Tryz.f30 [ResultVar.tmp 2] := ⟨rfl⟩
instance : FnRes Tryz.f31 [ResultVar.tmp 4] := ⟨rfl⟩
instance : FnRes Tryz.f32 [ResultVar.tmp 4] := ⟨rfl⟩
instance : FnRes Tryz.f33 [ResultVar.tmp 0] := ⟨rfl⟩
instance : FnRes Tryz.f34 [ResultVar.cell 2 67] := ⟨rfl⟩
instance : FnRes Tryz.f35 [ResultVar.tmp 2] := ⟨rfl⟩
instance : FnRes Tryz.f36 [ResultVar.tmp 2, ResultVar.tmp 3] := ⟨rfl⟩
instance : FnRes Tryz.f37 [ResultVar.tmp 2] := ⟨rfl⟩
instance : FnRes Tryz.f38 [ResultVar.tmp 4] := ⟨rfl⟩
instance : FnRes Tryz.f39 [ResultVar.tmp 4] := ⟨rfl⟩
instance : FnRes Tryz.f40 [ResultVar.tmp 4] := ⟨rfl⟩
instance : FnRes Tryz.f41 [ResultVar.tmp 4] := ⟨rfl⟩
instance : FnRes Tryz.f42 [ResultVar.tmp 4] := ⟨rfl⟩
instance : FnRes Tryz.f43 [ResultVar.tmp 2] := ⟨rfl⟩
instance : FnRes Tryz.f44 [ResultVar.cell 2 67, ResultVar.tmp 3] := ⟨rfl⟩
instance : FnRes Tryz.f45 [ResultVar.tmp 2, ResultVar.tmp 3] := ⟨rfl⟩
instance : FnRes Tryz.f46 [ResultVar.tmp 6, ResultVar.tmp 7] := ⟨rfl⟩
instance : FnRes Tryz.f47 [ResultVar.cell 2 67] := ⟨rfl⟩
instance : FnRes Tryz.f48 [ResultVar.tmp 4] := ⟨rfl⟩
instance : FnRes Tryz.f49 [ResultVar.cell 4 67] := ⟨rfl⟩
instance : FnRes Tryz.f50 [ResultVar.tmp 4] := ⟨rfl⟩
instance : FnRes Tryz.f51 [ResultVar.tmp 4] := ⟨rfl⟩
instance : FnRes Tryz.f52 [ResultVar.cell 2 84, ResultVar.cell 3 26] := ⟨rfl⟩
instance : FnRes Tryz.f53 [ResultVar.tmp 4] := ⟨rfl⟩
instance : FnRes Tryz.f54 [ResultVar.tmp 2, ResultVar.tmp 3] := ⟨rfl⟩
instance : FnRes Tryz.f55 [ResultVar.cell 2 96, ResultVar.cell 3 26] := ⟨rfl⟩
instance : FnRes Tryz.f56 [ResultVar.tmp 2] := ⟨rfl⟩
instance : FnRes Tryz.f57 [ResultVar.tmp 4] := ⟨rfl⟩
instance : FnRes Tryz.f58 [ResultVar.tmp 4] := ⟨rfl⟩
instance : FnRes Tryz.f59 [ResultVar.cell 2 43] := ⟨rfl⟩
instance : FnRes Tryz.f60 [ResultVar.cell 2 43] := ⟨rfl⟩
instance : FnRes Tryz.f61 [ResultVar.tmp 4] := ⟨rfl⟩
instance : FnRes Tryz.f62 [ResultVar.tmp 6] := ⟨rfl⟩
instance : FnRes Tryz.f63 [ResultVar.tmp 2] := ⟨rfl⟩
instance : FnRes Tryz.f64 [ResultVar.tmp 2, ResultVar.tmp 3] := ⟨rfl⟩
instance : FnRes Tryz.f65 [ResultVar.tmp 4] := ⟨rfl⟩
instance : FnRes Tryz.f66 [ResultVar.tmp 2] := ⟨rfl⟩
instance : FnRes Tryz.f67 [ResultVar.tmp 2] := ⟨rfl⟩
instance : FnRes Tryz.f68 [ResultVar.cell 4 25] := ⟨rfl⟩
instance : FnRes Tryz.f69 [ResultVar.tmp 2] := ⟨rfl⟩
instance : FnRes Tryz.f70 [ResultVar.cell 2 43, ResultVar.cell 3 3, ResultVar.cell 4 26] := ⟨rfl⟩
instance : FnRes Tryz.f71 [ResultVar.tmp 2] := ⟨rfl⟩
instance : FnRes Tryz.f72 [ResultVar.tmp 2] := ⟨rfl⟩
instance : FnRes Tryz.f73 [ResultVar.tmp 4] := ⟨rfl⟩
instance : FnRes Tryz.f74 [ResultVar.cell 6 26] := ⟨rfl⟩
instance : FnRes Tryz.f75 [ResultVar.tmp 4] := ⟨rfl⟩
instance : FnRes Tryz.f76 [ResultVar.tmp 4] := ⟨rfl⟩
instance : FnRes Tryz.f77 [ResultVar.tmp 4] := ⟨rfl⟩
instance : FnRes Tryz.f78 [ResultVar.tmp 2] := ⟨rfl⟩
instance : FnRes Tryz.f79 [] := ⟨rfl⟩
instance : FnRes Tryz.f80 [ResultVar.cell 2 132] := ⟨rfl⟩
instance : FnRes Tryz.f81 [ResultVar.tmp 2] := ⟨rfl⟩
instance : FnRes Tryz.f82 [ResultVar.tmp 6] := ⟨rfl⟩
instance : FnRes Tryz.f83 [ResultVar.cell 8 43, ResultVar.tmp 9, ResultVar.tmp 10, ResultVar.tmp 11] := ⟨rfl⟩
instance : FnRes Tryz.f84 [ResultVar.tmp 2] := ⟨rfl⟩
instance : FnRes Tryz.f85 [ResultVar.tmp 4] := ⟨rfl⟩
instance : FnRes Tryz.f86 [ResultVar.tmp 2] := ⟨rfl⟩
instance : FnRes Tryz.f87 [ResultVar.tmp 4] := ⟨rfl⟩
instance : FnRes Tryz.f88 [ResultVar.tmp 4] := ⟨rfl⟩
instance : FnRes Tryz.f89 [ResultVar.tmp 4] := ⟨rfl⟩
instance : FnRes Tryz.f90 [ResultVar.tmp 4] := ⟨rfl⟩
instance : FnRes Tryz.f91 [ResultVar.tmp 2] := ⟨rfl⟩
instance : FnRes Tryz.f92 [ResultVar.tmp 2] := ⟨rfl⟩
instance : FnRes Tryz.f93 [ResultVar.tmp 4] := ⟨rfl⟩
instance : FnRes Tryz.f94 [ResultVar.tmp 2] := ⟨rfl⟩
instance : FnRes Tryz.f95 [ResultVar.tmp 2] := ⟨rfl⟩
instance : FnRes Tryz.f96 [ResultVar.tmp 2] := ⟨rfl⟩
instance : FnRes Tryz.f97 [ResultVar.tmp 6, ResultVar.tmp 7] := ⟨rfl⟩
instance : FnRes Tryz.f98 [ResultVar.tmp 4] := ⟨rfl⟩
instance : FnRes Tryz.f99 [ResultVar.tmp 2] := ⟨rfl⟩
instance : FnRes Tryz.f100 [ResultVar.tmp 2] := ⟨rfl⟩
instance : FnRes Tryz.f101 [ResultVar.tmp 2] := ⟨rfl⟩
instance : FnRes Tryz.f102 [] := ⟨rfl⟩
instance : FnRes Tryz.f103 [] := ⟨rfl⟩
instance : FnRes Tryz.f104 [ResultVar.tmp 3] := ⟨rfl⟩
instance : FnRes Tryz.f105 [ResultVar.cell 4 43] := ⟨rfl⟩
instance : FnRes Tryz.f106 [ResultVar.tmp 2] := ⟨rfl⟩
instance : FnRes Tryz.f107 [ResultVar.tmp 2] := ⟨rfl⟩
instance : FnRes Tryz.f108 [ResultVar.tmp 2] := ⟨rfl⟩
instance : FnRes Tryz.f109 [ResultVar.tmp 2] := ⟨rfl⟩
instance : FnRes Tryz.f110 [] := ⟨rfl⟩
instance : FnRes Tryz.f111 [] := ⟨rfl⟩
instance : FnRes Tryz.f112 [ResultVar.tmp 4] := ⟨rfl⟩
instance : FnRes Tryz.f113 [ResultVar.tmp 2] := ⟨rfl⟩
instance : FnRes Tryz.f114 [ResultVar.tmp 4] := ⟨rfl⟩
instance : FnRes Tryz.f115 [ResultVar.tmp 2] := ⟨rfl⟩
instance : FnRes Tryz.f116 [ResultVar.tmp 2] := ⟨rfl⟩
instance : FnRes Tryz.f117 [ResultVar.tmp 3] := ⟨rfl⟩
instance : FnRes Tryz.f118 [ResultVar.tmp 4] := ⟨rfl⟩
instance : FnRes Tryz.f119 [ResultVar.tmp 3] := ⟨rfl⟩
instance : FnRes Tryz.f120 [ResultVar.cell 4 179, ResultVar.tmp 5] := ⟨rfl⟩
instance : FnRes Tryz.f121 [ResultVar.tmp 4] := ⟨rfl⟩
instance : FnRes Tryz.f122 [ResultVar.tmp 4] := ⟨rfl⟩
instance : FnRes Tryz.f123 [ResultVar.tmp 4] := ⟨rfl⟩
instance : FnRes Tryz.f124 [ResultVar.tmp 4] := ⟨rfl⟩
instance : FnRes Tryz.f125 [ResultVar.tmp 4] := ⟨rfl⟩
instance : FnRes Tryz.f126 [ResultVar.tmp 4] := ⟨rfl⟩
instance : FnRes Tryz.f127 [ResultVar.cell 4 179, ResultVar.tmp 5] := ⟨rfl⟩
instance : FnRes Tryz.f128 [ResultVar.tmp 4] := ⟨rfl⟩
instance : FnRes Tryz.f129 [ResultVar.tmp 4] := ⟨rfl⟩
instance : FnRes Tryz.f130 [ResultVar.tmp 4] := ⟨rfl⟩
instance : FnRes Tryz.f131 [ResultVar.tmp 6] := ⟨rfl⟩
instance : FnRes Tryz.f132 [ResultVar.tmp 4] := ⟨rfl⟩
instance : FnRes Tryz.f133 [ResultVar.tmp 4] := ⟨rfl⟩
instance : FnRes Tryz.f134 [ResultVar.tmp 2] := ⟨rfl⟩
instance : FnRes Tryz.f135 [ResultVar.tmp 4] := ⟨rfl⟩
instance : FnRes Tryz.f136 [ResultVar.tmp 2] := ⟨rfl⟩
instance : FnRes Tryz.f137 [] := ⟨rfl⟩
instance : FnRes Tryz.f138 [] := ⟨rfl⟩
instance : FnRes Tryz.f139 [ResultVar.tmp 2] := ⟨rfl⟩
instance : FnRes Tryz.f140 [] := ⟨rfl⟩
instance : FnRes Tryz.f141 [] := ⟨rfl⟩
instance : FnRes Tryz.f142 [ResultVar.cell 2 43] := ⟨rfl⟩
instance : FnRes Tryz.f143 [ResultVar.cell 2 67] := ⟨rfl⟩
instance : FnRes Tryz.f144 [] := ⟨rfl⟩
instance : FnRes Tryz.f145 [ResultVar.tmp 6, ResultVar.tmp 7] := ⟨rfl⟩
instance : FnRes Tryz.f146 [ResultVar.cell 2 132, ResultVar.tmp 3] := ⟨rfl⟩
instance : FnRes Tryz.f147 [ResultVar.cell 4 129, ResultVar.tmp 5] := ⟨rfl⟩
instance : FnRes Tryz.f148 [ResultVar.cell 8 25, ResultVar.cell 9 4] := ⟨rfl⟩
instance : FnRes Tryz.f149 [ResultVar.tmp 4] := ⟨rfl⟩
instance : FnRes Tryz.f150 [ResultVar.cell 2 67, ResultVar.tmp 3] := ⟨rfl⟩
instance : FnRes Tryz.f151 [ResultVar.tmp 2] := ⟨rfl⟩
instance : FnRes Tryz.f152 [] := ⟨rfl⟩
instance : FnRes Tryz.f153 [ResultVar.tmp 4] := ⟨rfl⟩
instance : FnRes Tryz.f154 [ResultVar.tmp 2] := ⟨rfl⟩
instance : FnRes Tryz.f155 [ResultVar.tmp 2] := ⟨rfl⟩
instance : FnRes Tryz.f156 [ResultVar.tmp 2] := ⟨rfl⟩
instance : FnRes Tryz.f157 [ResultVar.tmp 2] := ⟨rfl⟩
instance : FnRes Tryz.f158 [ResultVar.tmp 4] := ⟨rfl⟩
instance : FnRes Tryz.f159 [ResultVar.tmp 6] := ⟨rfl⟩
instance : FnRes Tryz.f160 [ResultVar.tmp 2] := ⟨rfl⟩
instance : FnRes Tryz.f161 [ResultVar.tmp 3] := ⟨rfl⟩
instance : FnRes Tryz.f162 [ResultVar.tmp 2] := ⟨rfl⟩
instance : FnRes Tryz.f163 [ResultVar.tmp 4] := ⟨rfl⟩
instance : FnRes Tryz.f164 [ResultVar.tmp 6] := ⟨rfl⟩
instance : FnRes Tryz.f165 [ResultVar.cell 4 239] := ⟨rfl⟩
instance : FnRes Tryz.f166 [] := ⟨rfl⟩
instance : FnRes Tryz.f167 [] := ⟨rfl⟩
instance : FnRes Tryz.f168 [] := ⟨rfl⟩
instance : FnRes Tryz.f169 [ResultVar.cell 4 43] := ⟨rfl⟩
instance : FnRes Tryz.f170 [ResultVar.tmp 2] := ⟨rfl⟩
instance : FnRes Tryz.f171 [ResultVar.tmp 6] := ⟨rfl⟩
instance : FnRes Tryz.f172 [ResultVar.tmp 2] := ⟨rfl⟩
instance : FnRes Tryz.f173 [] := ⟨rfl⟩
instance : FnRes Tryz.f174 [ResultVar.tmp 2] := ⟨rfl⟩
instance : FnRes Tryz.f175 [ResultVar.tmp 1] := ⟨rfl⟩
instance : FnRes Tryz.f176 [ResultVar.cell 4 129] := ⟨rfl⟩
instance : FnRes Tryz.f177 [] := ⟨rfl⟩
instance : FnRes Tryz.f178 [ResultVar.cell 2 129] := ⟨rfl⟩
instance : FnRes Tryz.f179 [ResultVar.tmp 2] := ⟨rfl⟩
instance : FnRes Tryz.f180 [ResultVar.tmp 2] := ⟨rfl⟩
instance : FnRes Tryz.f181 [ResultVar.tmp 2] := ⟨rfl⟩
instance : FnRes Tryz.f182 [ResultVar.tmp 2] := ⟨rfl⟩
instance : FnRes Tryz.f183 [ResultVar.tmp 4] := ⟨rfl⟩
instance : FnRes Tryz.f184 [ResultVar.tmp 4] := ⟨rfl⟩
instance : FnRes Tryz.f185 [ResultVar.tmp 2] := ⟨rfl⟩
instance : FnRes Tryz.f186 [ResultVar.tmp 6] := ⟨rfl⟩
instance : FnRes Tryz.f187 [ResultVar.tmp 6] := ⟨rfl⟩
instance : FnRes Tryz.f188 [] := ⟨rfl⟩
instance : FnRes Tryz.f189 [ResultVar.tmp 4] := ⟨rfl⟩
instance : FnRes Tryz.f190 [] := ⟨rfl⟩
instance : FnRes Tryz.f191 [ResultVar.tmp 2] := ⟨rfl⟩
instance : FnRes Tryz.f192 [ResultVar.tmp 2] := ⟨rfl⟩
instance : FnRes Tryz.f193 [ResultVar.tmp 2] := ⟨rfl⟩
instance : FnRes Tryz.f194 [ResultVar.tmp 2] := ⟨rfl⟩
instance : FnRes Tryz.f195 [ResultVar.tmp 2] := ⟨rfl⟩
instance : FnRes Tryz.f196 [ResultVar.tmp 6] := ⟨rfl⟩
instance : FnRes Tryz.f197 [ResultVar.tmp 4] := ⟨rfl⟩
instance : FnRes Tryz.f198 [ResultVar.tmp 2] := ⟨rfl⟩
instance : FnRes Tryz.f199 [ResultVar.tmp 2] := ⟨rfl⟩
instance : FnRes Tryz.f200 [ResultVar.tmp 2] := ⟨rfl⟩
instance : FnRes Tryz.f201 [ResultVar.tmp 2] := ⟨rfl⟩
instance : FnRes Tryz.f202 [ResultVar.tmp 2] := ⟨rfl⟩
instance : FnRes Tryz.f203 [ResultVar.tmp 2] := ⟨rfl⟩
instance : FnRes Tryz.f204 [ResultVar.tmp 4] := ⟨rfl⟩
instance : FnRes Tryz.f205 [ResultVar.tmp 4, ResultVar.tmp 5] := ⟨rfl⟩
instance : FnRes Tryz.f206 [ResultVar.cell 2 43] := ⟨rfl⟩
instance : FnRes Tryz.f207 [ResultVar.tmp 2] := ⟨rfl⟩
instance : FnRes Tryz.f208 [ResultVar.tmp 4] := ⟨rfl⟩
instance : FnRes Tryz.f209 [ResultVar.tmp 3] := ⟨rfl⟩
instance : FnRes Tryz.f210 [ResultVar.tmp 3] := ⟨rfl⟩
instance : FnRes Tryz.f211 [ResultVar.tmp 4] := ⟨rfl⟩
instance : FnRes Tryz.f212 [ResultVar.tmp 3] := ⟨rfl⟩
instance : FnRes Tryz.f213 [ResultVar.tmp 4] := ⟨rfl⟩
instance : FnRes Tryz.f214 [ResultVar.tmp 3] := ⟨rfl⟩
instance : FnRes Tryz.f215 [ResultVar.tmp 4] := ⟨rfl⟩
instance : FnRes Tryz.f216 [ResultVar.tmp 4] := ⟨rfl⟩
instance : FnRes Tryz.f217 [ResultVar.tmp 2] := ⟨rfl⟩
instance : FnRes Tryz.f218 [ResultVar.tmp 2] := ⟨rfl⟩
instance : FnRes Tryz.f219 [ResultVar.tmp 2] := ⟨rfl⟩
instance : FnRes Tryz.f220 [ResultVar.tmp 2] := ⟨rfl⟩
instance : FnRes Tryz.f221 [ResultVar.cell 2 43] := ⟨rfl⟩
instance : FnRes Tryz.f222 [ResultVar.tmp 8] := ⟨rfl⟩
instance : FnRes Tryz.f223 [] := ⟨rfl⟩
instance : FnRes Tryz.f224 [ResultVar.cell 4 129] := ⟨rfl⟩
instance : FnRes Tryz.f225 [ResultVar.tmp 4] := ⟨rfl⟩
instance : FnRes Tryz.f226 [ResultVar.tmp 4] := ⟨rfl⟩
instance : FnRes Tryz.f227 [ResultVar.cell 2 43] := ⟨rfl⟩
instance : FnRes Tryz.f228 [ResultVar.cell 2 67] := ⟨rfl⟩
instance : FnRes Tryz.f229 [ResultVar.tmp 2] := ⟨rfl⟩
instance : FnRes Tryz.f230 [ResultVar.tmp 6] := ⟨rfl⟩
instance : FnRes Tryz.f231 [ResultVar.tmp 2] := ⟨rfl⟩
instance : FnRes Tryz.f232 [ResultVar.tmp 4] := ⟨rfl⟩
instance : FnRes Tryz.f233 [] := ⟨rfl⟩
instance : FnRes Tryz.f234 [] := ⟨rfl⟩
instance : FnRes Tryz.f235 [ResultVar.tmp 2] := ⟨rfl⟩
instance : FnRes Tryz.f236 [ResultVar.tmp 2] := ⟨rfl⟩
instance : FnRes Tryz.f237 [] := ⟨rfl⟩
instance : FnRes Tryz.f238 [] := ⟨rfl⟩
instance : FnRes Tryz.f239 [ResultVar.tmp 2] := ⟨rfl⟩
instance : FnRes Tryz.f240 [ResultVar.cell 2 296] := ⟨rfl⟩
instance : FnRes Tryz.f241 [ResultVar.tmp 6, ResultVar.tmp 7] := ⟨rfl⟩
instance : FnRes Tryz.f242 [] := ⟨rfl⟩
instance : FnRes Tryz.f243 [] := ⟨rfl⟩
instance : FnRes Tryz.f244 [] := ⟨rfl⟩
instance : FnRes Tryz.f245 [ResultVar.tmp 4] := ⟨rfl⟩
instance : FnRes Tryz.f246 [ResultVar.tmp 2] := ⟨rfl⟩
instance : FnRes Tryz.f247 [ResultVar.tmp 2] := ⟨rfl⟩
instance : FnRes Tryz.f248 [ResultVar.tmp 2] := ⟨rfl⟩
instance : FnRes Tryz.f249 [ResultVar.tmp 6, ResultVar.tmp 7] := ⟨rfl⟩
instance : FnRes Tryz.f250 [ResultVar.tmp 4] := ⟨rfl⟩
instance : FnRes Tryz.f251 [ResultVar.tmp 2] := ⟨rfl⟩
instance : FnRes Tryz.f252 [ResultVar.tmp 4] := ⟨rfl⟩
instance : FnRes Tryz.f253 [ResultVar.tmp 4] := ⟨rfl⟩
instance : FnRes Tryz.f254 [ResultVar.tmp 4] := ⟨rfl⟩
instance : FnRes Tryz.f255 [ResultVar.tmp 6] := ⟨rfl⟩
instance : FnRes Tryz.f256 [ResultVar.tmp 2] := ⟨rfl⟩
instance : FnRes Tryz.f257 [ResultVar.tmp 2] := ⟨rfl⟩
instance : FnRes Tryz.f258 [ResultVar.tmp 2] := ⟨rfl⟩
instance : FnRes Tryz.f259 [ResultVar.tmp 4] := ⟨rfl⟩
instance : FnRes Tryz.f260 [ResultVar.tmp 2] := ⟨rfl⟩
instance : FnRes Tryz.f261 [ResultVar.tmp 2] := ⟨rfl⟩
instance : FnRes Tryz.f262 [ResultVar.cell 0 313] := ⟨rfl⟩
instance : FnRes Tryz.f263 [ResultVar.tmp 2] := ⟨rfl⟩
instance : FnRes Tryz.f264 [ResultVar.cell 4 313] := ⟨rfl⟩
instance : FnRes Tryz.f265 [ResultVar.tmp 2] := ⟨rfl⟩
instance : FnRes Tryz.f266 [] := ⟨rfl⟩
instance : FnRes Tryz.f267 [ResultVar.tmp 2] := ⟨rfl⟩
instance : FnRes Tryz.f268 [ResultVar.tmp 2] := ⟨rfl⟩
instance : FnRes Tryz.f269 [ResultVar.tmp 2] := ⟨rfl⟩
instance : FnRes Tryz.f270 [] := ⟨rfl⟩
instance : FnRes Tryz.f271 [ResultVar.cell 2 43] := ⟨rfl⟩
instance : FnRes Tryz.f272 [ResultVar.tmp 4] := ⟨rfl⟩
instance : FnRes Tryz.f273 [ResultVar.tmp 4] := ⟨rfl⟩
instance : FnRes Tryz.f274 [ResultVar.tmp 4] := ⟨rfl⟩
instance : FnRes Tryz.f275 [ResultVar.cell 0 323] := ⟨rfl⟩
instance : FnRes Tryz.f276 [ResultVar.tmp 4] := ⟨rfl⟩
instance : FnRes Tryz.f277 [ResultVar.tmp 4] := ⟨rfl⟩
instance : FnRes Tryz.f278 [] := ⟨rfl⟩
instance : FnRes Tryz.f279 [ResultVar.tmp 4] := ⟨rfl⟩
instance : FnRes Tryz.f280 [ResultVar.tmp 2] := ⟨rfl⟩
instance : FnRes Tryz.f281 [ResultVar.tmp 6] := ⟨rfl⟩
instance : FnRes Tryz.f282 [ResultVar.tmp 4] := ⟨rfl⟩
instance : EntF Tryz.prog 3 := ⟨enters_of Tryz.func3 (by kernel_rfl) rfl⟩ -- safehouse/safehouselaw19.VaultBack
instance : EntF Tryz.prog 4 := ⟨enters_of Tryz.func4 (by kernel_rfl) rfl⟩ -- safehouse/safehouselaw19.VaultOpens
instance : EntF Tryz.prog 5 := ⟨enters_of Tryz.func5 (by kernel_rfl) rfl⟩ -- safehouse/safehouselaw19.VaultNone
instance : EntF Tryz.prog 6 := ⟨enters_of Tryz.func6 (by kernel_rfl) rfl⟩ -- safehouse/safehouselaw19.VaultLasts
instance : EntF Tryz.prog 7 := ⟨enters_of Tryz.func7 (by kernel_rfl) rfl⟩ -- safehouse/safehouselaw20.MemoryChecks
instance : EntF Tryz.prog 8 := ⟨enters_of Tryz.func8 (by kernel_rfl) rfl⟩ -- safehouse/safehouselaw20.MemoryCovers
instance : EntF Tryz.prog 9 := ⟨enters_of Tryz.func9 (by kernel_rfl) rfl⟩ -- safehouse/safehouselaw20.MemoryBack
instance : EntF Tryz.prog 10 := ⟨enters_of Tryz.func10 (by kernel_rfl) rfl⟩ -- safehouse/safehouselaw20.MemoryKeeps
instance : EntF Tryz.prog 11 := ⟨enters_of Tryz.func11 (by kernel_rfl) rfl⟩ -- safehouse/safehouselaw20.MemoryOpens
instance : EntF Tryz.prog 12 := ⟨enters_of Tryz.func12 (by kernel_rfl) rfl⟩ -- safehouse/safehouselaw19.wakes
instance : EntF Tryz.prog 13 := ⟨enters_of Tryz.func13 (by kernel_rfl) rfl⟩ -- safehouse/safehouselaw19.over
instance : EntF Tryz.prog 14 := ⟨enters_of Tryz.func14 (by kernel_rfl) rfl⟩ -- safehouse/vault.Encode
instance : EntF Tryz.prog 15 := ⟨enters_of Tryz.func15 (by kernel_rfl) rfl⟩ -- safehouse/vault.Decode
instance : EntF Tryz.prog 16 := ⟨enters_of Tryz.func16 (by kernel_rfl) rfl⟩ -- safehouse/safehouselaw19.same
instance : EntF Tryz.prog 17 := ⟨enters_of Tryz.func17 (by kernel_rfl) rfl⟩ -- safehouse/safehouselaw19.fresh
instance : EntF Tryz.prog 18 := ⟨enters_of Tryz.func18 (by kernel_rfl) rfl⟩ -- safehouse/wal.Format
instance : EntF Tryz.prog 19 := ⟨enters_of Tryz.func19 (by kernel_rfl) rfl⟩ -- (*safehouse/wal.Wal).Checkpoint
instance : EntF Tryz.prog 20 := ⟨enters_of Tryz.func20 (by kernel_rfl) rfl⟩ -- (*safehouse/wal.Wal).Append
instance : EntF Tryz.prog 21 := ⟨enters_of Tryz.func21 (by kernel_rfl) rfl⟩ -- safehouse/safehouseref19.Decode
instance : EntF Tryz.prog 22 := ⟨enters_of Tryz.func22 (by kernel_rfl) rfl⟩ -- safehouse/safehouseref19.Gone
instance : EntF Tryz.prog 23 := ⟨enters_of Tryz.func23 (by kernel_rfl) rfl⟩ -- safehouse/safehouseref19.Behind
instance : EntF Tryz.prog 24 := ⟨enters_of Tryz.func24 (by kernel_rfl) rfl⟩ -- safehouse/vault.Open
instance : EntF Tryz.prog 25 := ⟨enters_of Tryz.func25 (by kernel_rfl) rfl⟩ -- safehouse/safehouseref19.Same
instance : EntF Tryz.prog 26 := ⟨enters_of Tryz.func26 (by kernel_rfl) rfl⟩ -- (*safehouse/vault.Vault).Rows
instance : EntF Tryz.prog 27 := ⟨enters_of Tryz.func27 (by kernel_rfl) rfl⟩ -- (*safehouse/vault.Vault).Get
instance : EntF Tryz.prog 28 := ⟨enters_of Tryz.func28 (by kernel_rfl) rfl⟩ -- safehouse/vault.Format
instance : EntF Tryz.prog 29 := ⟨enters_of Tryz.func29 (by kernel_rfl) rfl⟩ -- (*safehouse/vault.Vault).Put
instance : EntF Tryz.prog 30 := ⟨enters_of Tryz.func30 (by kernel_rfl) rfl⟩ -- (*safehouse/vault.Vault).Down
instance : EntF Tryz.prog 31 := ⟨enters_of Tryz.func31 (by kernel_rfl) rfl⟩ -- (*safehouse/disk.Disk).Arm
instance : EntF Tryz.prog 32 := ⟨enters_of Tryz.func32 (by kernel_rfl) rfl⟩ -- (*safehouse/disk.Disk).Crash
instance : EntF Tryz.prog 33 := ⟨enters_of Tryz.func33 (by kernel_rfl) rfl⟩ -- safehouse/safehouselaw20.wakes
instance : EntF Tryz.prog 34 := ⟨enters_of Tryz.func34 (by kernel_rfl) rfl⟩ -- safehouse/safehouselaw20.short
instance : EntF Tryz.prog 35 := ⟨enters_of Tryz.func35 (by kernel_rfl) rfl⟩ -- safehouse/safehouseref20.Right
instance : EntF Tryz.prog 36 := ⟨enters_of Tryz.func36 (by kernel_rfl) rfl⟩ -- safehouse/memory.Encode
instance : EntF Tryz.prog 37 := ⟨enters_of Tryz.func37 (by kernel_rfl) rfl⟩ -- safehouse/memory.Check
instance : EntF Tryz.prog 38 := ⟨enters_of Tryz.func38 (by kernel_rfl) rfl⟩ -- safehouse/memory.Covers
instance : EntF Tryz.prog 39 := ⟨enters_of Tryz.func39 (by kernel_rfl) rfl⟩ -- safehouse/safehouseref20.Covers
instance : EntF Tryz.prog 40 := ⟨enters_of Tryz.func40 (by kernel_rfl) rfl⟩ -- safehouse/memory.Same
instance : EntF Tryz.prog 41 := ⟨enters_of Tryz.func41 (by kernel_rfl) rfl⟩ -- safehouse/safehouseref20.Same
instance : EntF Tryz.prog 42 := ⟨enters_of Tryz.func42 (by kernel_rfl) rfl⟩ -- bytes.Equal
instance : EntF Tryz.prog 43 := ⟨enters_of Tryz.func43 (by kernel_rfl) rfl⟩ -- safehouse/safehouseref20.Bytes
instance : EntF Tryz.prog 44 := ⟨enters_of Tryz.func44 (by kernel_rfl) rfl⟩ -- safehouse/memory.Decode
instance : EntF Tryz.prog 45 := ⟨enters_of Tryz.func45 (by kernel_rfl) rfl⟩ -- safehouse/disk.New
instance : EntF Tryz.prog 46 := ⟨enters_of Tryz.func46 (by kernel_rfl) rfl⟩ -- safehouse/memory.Format
instance : EntF Tryz.prog 47 := ⟨enters_of Tryz.func47 (by kernel_rfl) rfl⟩ -- (*safehouse/memory.Store).Get
instance : EntF Tryz.prog 48 := ⟨enters_of Tryz.func48 (by kernel_rfl) rfl⟩ -- safehouse/safehouselaw20.few
instance : EntF Tryz.prog 49 := ⟨enters_of Tryz.func49 (by kernel_rfl) rfl⟩ -- safehouse/safehouselaw20.over
instance : EntF Tryz.prog 50 := ⟨enters_of Tryz.func50 (by kernel_rfl) rfl⟩ -- (*safehouse/memory.Store).Save
instance : EntF Tryz.prog 51 := ⟨enters_of Tryz.func51 (by kernel_rfl) rfl⟩ -- (*safehouse/disk.Disk).Fail
instance : EntF Tryz.prog 52 := ⟨enters_of Tryz.func52 (by kernel_rfl) rfl⟩ -- safehouse/memory.Open
instance : EntF Tryz.prog 53 := ⟨enters_of Tryz.func53 (by kernel_rfl) rfl⟩ -- safehouse/safehouselaw20.begun
instance : EntF Tryz.prog 54 := ⟨enters_of Tryz.func54 (by kernel_rfl) rfl⟩ -- safehouse/wal.Open
instance : EntF Tryz.prog 55 := ⟨enters_of Tryz.func55 (by kernel_rfl) rfl⟩ -- safehouse/safehouselaw20.open
instance : EntF Tryz.prog 56 := ⟨enters_of Tryz.func56 (by kernel_rfl) rfl⟩ -- (*safehouse/safehouselaw20.pair).agrees
instance : EntF Tryz.prog 57 := ⟨enters_of Tryz.func57 (by kernel_rfl) rfl⟩ -- (*safehouse/safehouselaw20.pair).does
instance : EntF Tryz.prog 58 := ⟨enters_of Tryz.func58 (by kernel_rfl) rfl⟩ -- safehouse/safehouselaw20.alike
instance : EntF Tryz.prog 59 := ⟨enters_of Tryz.func59 (by kernel_rfl) rfl⟩ -- safehouse/term.Text
instance : EntF Tryz.prog 60 := ⟨enters_of Tryz.func60 (by kernel_rfl) rfl⟩ -- safehouse/term.Secret
instance : EntF Tryz.prog 61 := ⟨enters_of Tryz.func61 (by kernel_rfl) rfl⟩ -- safehouse/term.Same
instance : EntF Tryz.prog 62 := ⟨enters_of Tryz.func62 (by kernel_rfl) rfl⟩ -- safehouse/safehouselaw19.large
instance : EntF Tryz.prog 63 := ⟨enters_of Tryz.func63 (by kernel_rfl) rfl⟩ -- safehouse/vault.batch
instance : EntF Tryz.prog 64 := ⟨enters_of Tryz.func64 (by kernel_rfl) rfl⟩ -- safehouse/term.Encode
instance : EntF Tryz.prog 65 := ⟨enters_of Tryz.func65 (by kernel_rfl) rfl⟩ -- safehouse/octet.Put16
instance : EntF Tryz.prog 66 := ⟨enters_of Tryz.func66 (by kernel_rfl) rfl⟩ -- safehouse/octet.Read
instance : EntF Tryz.prog 67 := ⟨enters_of Tryz.func67 (by kernel_rfl) rfl⟩ -- (*safehouse/octet.Reader).U8
instance : EntF Tryz.prog 68 := ⟨enters_of Tryz.func68 (by kernel_rfl) rfl⟩ -- (*safehouse/octet.Reader).Raw
instance : EntF Tryz.prog 69 := ⟨enters_of Tryz.func69 (by kernel_rfl) rfl⟩ -- (*safehouse/octet.Reader).U16
instance : EntF Tryz.prog 70 := ⟨enters_of Tryz.func70 (by kernel_rfl) rfl⟩ -- safehouse/term.Decode
instance : EntF Tryz.prog 71 := ⟨enters_of Tryz.func71 (by kernel_rfl) rfl⟩ -- (*safehouse/octet.Reader).Err
instance : EntF Tryz.prog 72 := ⟨enters_of Tryz.func72 (by kernel_rfl) rfl⟩ -- (*safehouse/octet.Reader).Left
instance : EntF Tryz.prog 73 := ⟨enters_of Tryz.func73 (by kernel_rfl) rfl⟩ -- safehouse/wal.may
instance : EntF Tryz.prog 74 := ⟨enters_of Tryz.func74 (by kernel_rfl) rfl⟩ -- safehouse/wal.lay
instance : EntF Tryz.prog 75 := ⟨enters_of Tryz.func75 (by kernel_rfl) rfl⟩ -- safehouse/wal.only
instance : EntF Tryz.prog 76 := ⟨enters_of Tryz.func76 (by kernel_rfl) rfl⟩ -- (safehouse/wal.book).begin
instance : EntF Tryz.prog 77 := ⟨enters_of Tryz.func77 (by kernel_rfl) rfl⟩ -- (*safehouse/wal.Wal).refuses
instance : EntF Tryz.prog 78 := ⟨enters_of Tryz.func78 (by kernel_rfl) rfl⟩ -- safehouse/wal.Sectors
instance : EntF Tryz.prog 79 := ⟨enters_of Tryz.func79 (by kernel_rfl) rfl⟩ -- (*safehouse/wal.Wal).breaks
instance : EntF Tryz.prog 80 := ⟨enters_of Tryz.func80 (by kernel_rfl) rfl⟩ -- (safehouse/wal.book).next
instance : EntF Tryz.prog 81 := ⟨enters_of Tryz.func81 (by kernel_rfl) rfl⟩ -- (safehouse/wal.book).from
instance : EntF Tryz.prog 82 := ⟨enters_of Tryz.func82 (by kernel_rfl) rfl⟩ -- safehouse/wal.leaves
instance : EntF Tryz.prog 83 := ⟨enters_of Tryz.func83 (by kernel_rfl) rfl⟩ -- safehouse/safehouseref05.Decode
instance : EntF Tryz.prog 84 := ⟨enters_of Tryz.func84 (by kernel_rfl) rfl⟩ -- safehouse/safehouseref19.Right
instance : EntF Tryz.prog 85 := ⟨enters_of Tryz.func85 (by kernel_rfl) rfl⟩ -- safehouse/safehouseref05.Same
instance : EntF Tryz.prog 86 := ⟨enters_of Tryz.func86 (by kernel_rfl) rfl⟩ -- (*safehouse/wal.Wal).Snapshot
instance : EntF Tryz.prog 87 := ⟨enters_of Tryz.func87 (by kernel_rfl) rfl⟩ -- slices.IsSortedFunc[[]safehouse/api.Row,safehouse/api.Row]
instance : EntF Tryz.prog 88 := ⟨enters_of Tryz.func88 (by kernel_rfl) rfl⟩ -- safehouse/vault.Open$1
instance : EntF Tryz.prog 89 := ⟨enters_of Tryz.func89 (by kernel_rfl) rfl⟩ -- strings.Compare
instance : EntF Tryz.prog 90 := ⟨enters_of Tryz.func90 (by kernel_rfl) rfl⟩ -- slices.ContainsFunc[[]safehouse/api.Row,safehouse/api.Row]
instance : EntF Tryz.prog 91 := ⟨enters_of Tryz.func91 (by kernel_rfl) rfl⟩ -- safehouse/vault.Open$2
instance : EntF Tryz.prog 92 := ⟨enters_of Tryz.func92 (by kernel_rfl) rfl⟩ -- (safehouse/vault.row).gone
instance : EntF Tryz.prog 93 := ⟨enters_of Tryz.func93 (by kernel_rfl) rfl⟩ -- safehouse/vault.behind
instance : EntF Tryz.prog 94 := ⟨enters_of Tryz.func94 (by kernel_rfl) rfl⟩ -- (*safehouse/wal.Wal).All
instance : EntF Tryz.prog 95 := ⟨enters_of Tryz.func95 (by kernel_rfl) rfl⟩ -- slices.Collect[safehouse/api.Row]
instance : EntF Tryz.prog 96 := ⟨enters_of Tryz.func96 (by kernel_rfl) rfl⟩ -- safehouse/vault.all
instance : EntF Tryz.prog 97 := ⟨enters_of Tryz.func97 (by kernel_rfl) rfl⟩ -- slices.BinarySearchFunc[[]safehouse/vault.row,safehouse/vault.row,string]
instance : EntF Tryz.prog 98 := ⟨enters_of Tryz.func98 (by kernel_rfl) rfl⟩ -- (safehouse/vault.row).before
instance : EntF Tryz.prog 99 := ⟨enters_of Tryz.func99 (by kernel_rfl) rfl⟩ -- (*safehouse/wal.Wal).Broken
instance : EntF Tryz.prog 100 := ⟨enters_of Tryz.func100 (by kernel_rfl) rfl⟩ -- (*safehouse/wal.Wal).Left
instance : EntF Tryz.prog 101 := ⟨enters_of Tryz.func101 (by kernel_rfl) rfl⟩ -- (*safehouse/disk.Disk).powered
instance : EntF Tryz.prog 102 := ⟨enters_of Tryz.func102 (by kernel_rfl) rfl⟩ -- (*safehouse/disk.count).set
instance : EntF Tryz.prog 103 := ⟨enters_of Tryz.func103 (by kernel_rfl) rfl⟩ -- (*safehouse/disk.stand).settle
instance : EntF Tryz.prog 104 := ⟨enters_of Tryz.func104 (by kernel_rfl) rfl⟩ -- (*safehouse/disk.Disk).Crash$1
instance : EntF Tryz.prog 105 := ⟨enters_of Tryz.func105 (by kernel_rfl) rfl⟩ -- safehouse/safehouselaw20.small
instance : EntF Tryz.prog 106 := ⟨enters_of Tryz.func106 (by kernel_rfl) rfl⟩ -- safehouse/safehouseref20.counted
instance : EntF Tryz.prog 107 := ⟨enters_of Tryz.func107 (by kernel_rfl) rfl⟩ -- safehouse/safehouseref18.Named
instance : EntF Tryz.prog 108 := ⟨enters_of Tryz.func108 (by kernel_rfl) rfl⟩ -- safehouse/safehouseref14.Right
instance : EntF Tryz.prog 109 := ⟨enters_of Tryz.func109 (by kernel_rfl) rfl⟩ -- safehouse/safehouseref16.Right
instance : EntF Tryz.prog 110 := ⟨enters_of Tryz.func110 (by kernel_rfl) rfl⟩ -- safehouse/memory.Encode$1
instance : EntF Tryz.prog 111 := ⟨enters_of Tryz.func111 (by kernel_rfl) rfl⟩ -- safehouse/memory.Encode$2
instance : EntF Tryz.prog 112 := ⟨enters_of Tryz.func112 (by kernel_rfl) rfl⟩ -- safehouse/octet.Put32
instance : EntF Tryz.prog 113 := ⟨enters_of Tryz.func113 (by kernel_rfl) rfl⟩ -- safehouse/memory.counted
instance : EntF Tryz.prog 114 := ⟨enters_of Tryz.func114 (by kernel_rfl) rfl⟩ -- safehouse/memory.named
instance : EntF Tryz.prog 115 := ⟨enters_of Tryz.func115 (by kernel_rfl) rfl⟩ -- safehouse/tree.Check
instance : EntF Tryz.prog 116 := ⟨enters_of Tryz.func116 (by kernel_rfl) rfl⟩ -- safehouse/fresh.Check
instance : EntF Tryz.prog 117 := ⟨enters_of Tryz.func117 (by kernel_rfl) rfl⟩ -- safehouse/memory.Covers$1
instance : EntF Tryz.prog 118 := ⟨enters_of Tryz.func118 (by kernel_rfl) rfl⟩ -- slices.Contains[[]safehouse/api.SeedOf,safehouse/api.SeedOf]
instance : EntF Tryz.prog 119 := ⟨enters_of Tryz.func119 (by kernel_rfl) rfl⟩ -- safehouse/memory.Covers$2
instance : EntF Tryz.prog 120 := ⟨enters_of Tryz.func120 (by kernel_rfl) rfl⟩ -- safehouse/fresh.Find
instance : EntF Tryz.prog 121 := ⟨enters_of Tryz.func121 (by kernel_rfl) rfl⟩ -- cmp.Compare[int]
instance : EntF Tryz.prog 122 := ⟨enters_of Tryz.func122 (by kernel_rfl) rfl⟩ -- safehouse/memory.all[safehouse/api.SeedOf]
instance : EntF Tryz.prog 123 := ⟨enters_of Tryz.func123 (by kernel_rfl) rfl⟩ -- safehouse/fresh.Covers
instance : EntF Tryz.prog 124 := ⟨enters_of Tryz.func124 (by kernel_rfl) rfl⟩ -- safehouse/memory.all[safehouse/api.Seen]
instance : EntF Tryz.prog 125 := ⟨enters_of Tryz.func125 (by kernel_rfl) rfl⟩ -- safehouse/safehouseref20.seeds
instance : EntF Tryz.prog 126 := ⟨enters_of Tryz.func126 (by kernel_rfl) rfl⟩ -- safehouse/safehouseref16.Covers
instance : EntF Tryz.prog 127 := ⟨enters_of Tryz.func127 (by kernel_rfl) rfl⟩ -- safehouse/safehouseref16.Find
instance : EntF Tryz.prog 128 := ⟨enters_of Tryz.func128 (by kernel_rfl) rfl⟩ -- safehouse/memory.Same$1
instance : EntF Tryz.prog 129 := ⟨enters_of Tryz.func129 (by kernel_rfl) rfl⟩ -- slices.Equal[[]safehouse/api.SeedOf,safehouse/api.SeedOf]
instance : EntF Tryz.prog 130 := ⟨enters_of Tryz.func130 (by kernel_rfl) rfl⟩ -- slices.Equal[[]safehouse/api.Mark,safehouse/api.Mark]
instance : EntF Tryz.prog 131 := ⟨enters_of Tryz.func131 (by kernel_rfl) rfl⟩ -- slices.EqualFunc[[]safehouse/api.Seen,[]safehouse/api.Seen,safehouse/api.Seen,safehouse/api.Seen]
instance : EntF Tryz.prog 132 := ⟨enters_of Tryz.func132 (by kernel_rfl) rfl⟩ -- safehouse/safehouseref14.Same
instance : EntF Tryz.prog 133 := ⟨enters_of Tryz.func133 (by kernel_rfl) rfl⟩ -- safehouse/safehouseref16.Same
instance : EntF Tryz.prog 134 := ⟨enters_of Tryz.func134 (by kernel_rfl) rfl⟩ -- safehouse/safehouseref20.two
instance : EntF Tryz.prog 135 := ⟨enters_of Tryz.func135 (by kernel_rfl) rfl⟩ -- safehouse/safehouseref20.some
instance : EntF Tryz.prog 136 := ⟨enters_of Tryz.func136 (by kernel_rfl) rfl⟩ -- safehouse/safehouseref05.Bytes
instance : EntF Tryz.prog 137 := ⟨enters_of Tryz.func137 (by kernel_rfl) rfl⟩ -- (*safehouse/memory.reader).each
instance : EntF Tryz.prog 138 := ⟨enters_of Tryz.func138 (by kernel_rfl) rfl⟩ -- safehouse/memory.Decode$1
instance : EntF Tryz.prog 139 := ⟨enters_of Tryz.func139 (by kernel_rfl) rfl⟩ -- (*safehouse/memory.reader).text
instance : EntF Tryz.prog 140 := ⟨enters_of Tryz.func140 (by kernel_rfl) rfl⟩ -- safehouse/memory.Decode$2
instance : EntF Tryz.prog 141 := ⟨enters_of Tryz.func141 (by kernel_rfl) rfl⟩ -- safehouse/memory.Decode$3
instance : EntF Tryz.prog 142 := ⟨enters_of Tryz.func142 (by kernel_rfl) rfl⟩ -- (*safehouse/memory.reader).root
instance : EntF Tryz.prog 143 := ⟨enters_of Tryz.func143 (by kernel_rfl) rfl⟩ -- safehouse/memory.owned
instance : EntF Tryz.prog 144 := ⟨enters_of Tryz.func144 (by kernel_rfl) rfl⟩ -- safehouse/safehouselaw20.over$1
instance : EntF Tryz.prog 145 := ⟨enters_of Tryz.func145 (by kernel_rfl) rfl⟩ -- safehouse/safehouselaw20.format
instance : EntF Tryz.prog 146 := ⟨enters_of Tryz.func146 (by kernel_rfl) rfl⟩ -- safehouse/wal.counts
instance : EntF Tryz.prog 147 := ⟨enters_of Tryz.func147 (by kernel_rfl) rfl⟩ -- (*safehouse/disk.Disk).Read
instance : EntF Tryz.prog 148 := ⟨enters_of Tryz.func148 (by kernel_rfl) rfl⟩ -- (safehouse/wal.book).stands
instance : EntF Tryz.prog 149 := ⟨enters_of Tryz.func149 (by kernel_rfl) rfl⟩ -- (*safehouse/wal.Wal).clears
instance : EntF Tryz.prog 150 := ⟨enters_of Tryz.func150 (by kernel_rfl) rfl⟩ -- safehouse/safehouseref20.Decode
instance : EntF Tryz.prog 151 := ⟨enters_of Tryz.func151 (by kernel_rfl) rfl⟩ -- (*safehouse/memory.Store).Down
instance : EntF Tryz.prog 152 := ⟨enters_of Tryz.func152 (by kernel_rfl) rfl⟩ -- safehouse/safehouselaw20.spoil
instance : EntF Tryz.prog 153 := ⟨enters_of Tryz.func153 (by kernel_rfl) rfl⟩ -- (*safehouse/safehouselaw20.model).save
instance : EntF Tryz.prog 154 := ⟨enters_of Tryz.func154 (by kernel_rfl) rfl⟩ -- (*safehouse/safehouselaw20.pair).again
instance : EntF Tryz.prog 155 := ⟨enters_of Tryz.func155 (by kernel_rfl) rfl⟩ -- (*safehouse/disk.Disk).Dead
instance : EntF Tryz.prog 156 := ⟨enters_of Tryz.func156 (by kernel_rfl) rfl⟩ -- (*safehouse/disk.Disk).Ops
instance : EntF Tryz.prog 157 := ⟨enters_of Tryz.func157 (by kernel_rfl) rfl⟩ -- (*safehouse/disk.Disk).Pending
instance : EntF Tryz.prog 158 := ⟨enters_of Tryz.func158 (by kernel_rfl) rfl⟩ -- safehouse/safehouselaw20.held
instance : EntF Tryz.prog 159 := ⟨enters_of Tryz.func159 (by kernel_rfl) rfl⟩ -- slices.EqualFunc[[]safehouse/api.Term,[]safehouse/api.Term,safehouse/api.Term,safehouse/api.Term]
instance : EntF Tryz.prog 160 := ⟨enters_of Tryz.func160 (by kernel_rfl) rfl⟩ -- (safehouse/vault.row).right
instance : EntF Tryz.prog 161 := ⟨enters_of Tryz.func161 (by kernel_rfl) rfl⟩ -- safehouse/vault.batch$1
instance : EntF Tryz.prog 162 := ⟨enters_of Tryz.func162 (by kernel_rfl) rfl⟩ -- safehouse/term.size
instance : EntF Tryz.prog 163 := ⟨enters_of Tryz.func163 (by kernel_rfl) rfl⟩ -- safehouse/term.put
instance : EntF Tryz.prog 164 := ⟨enters_of Tryz.func164 (by kernel_rfl) rfl⟩ -- safehouse/octet.lay[uint16]
instance : EntF Tryz.prog 165 := ⟨enters_of Tryz.func165 (by kernel_rfl) rfl⟩ -- (*safehouse/octet.Reader).weigh
instance : EntF Tryz.prog 166 := ⟨enters_of Tryz.func166 (by kernel_rfl) rfl⟩ -- (*safehouse/octet.rest).off
instance : EntF Tryz.prog 167 := ⟨enters_of Tryz.func167 (by kernel_rfl) rfl⟩ -- (*safehouse/octet.Reader).Raw$1
instance : EntF Tryz.prog 168 := ⟨enters_of Tryz.func168 (by kernel_rfl) rfl⟩ -- safehouse/term.Decode$1
instance : EntF Tryz.prog 169 := ⟨enters_of Tryz.func169 (by kernel_rfl) rfl⟩ -- (*safehouse/term.reader).term
instance : EntF Tryz.prog 170 := ⟨enters_of Tryz.func170 (by kernel_rfl) rfl⟩ -- (*safehouse/disk.Disk).Len
instance : EntF Tryz.prog 171 := ⟨enters_of Tryz.func171 (by kernel_rfl) rfl⟩ -- (*safehouse/disk.Disk).Write
instance : EntF Tryz.prog 172 := ⟨enters_of Tryz.func172 (by kernel_rfl) rfl⟩ -- (*safehouse/disk.Disk).Sync
instance : EntF Tryz.prog 173 := ⟨enters_of Tryz.func173 (by kernel_rfl) rfl⟩ -- safehouse/wal.only$1
instance : EntF Tryz.prog 174 := ⟨enters_of Tryz.func174 (by kernel_rfl) rfl⟩ -- (safehouse/wal.book).begin$1
instance : EntF Tryz.prog 175 := ⟨enters_of Tryz.func175 (by kernel_rfl) rfl⟩ -- (safehouse/wal.book).begin$2
instance : EntF Tryz.prog 176 := ⟨enters_of Tryz.func176 (by kernel_rfl) rfl⟩ -- safehouse/wal.title
instance : EntF Tryz.prog 177 := ⟨enters_of Tryz.func177 (by kernel_rfl) rfl⟩ -- safehouse/wal.leaves$1
instance : EntF Tryz.prog 178 := ⟨enters_of Tryz.func178 (by kernel_rfl) rfl⟩ -- safehouse/wal.sealed
instance : EntF Tryz.prog 179 := ⟨enters_of Tryz.func179 (by kernel_rfl) rfl⟩ -- safehouse/safehouseref05.Kids
instance : EntF Tryz.prog 180 := ⟨enters_of Tryz.func180 (by kernel_rfl) rfl⟩ -- safehouse/safehouseref05.User
instance : EntF Tryz.prog 181 := ⟨enters_of Tryz.func181 (by kernel_rfl) rfl⟩ -- safehouse/safehouseref05.Num
instance : EntF Tryz.prog 182 := ⟨enters_of Tryz.func182 (by kernel_rfl) rfl⟩ -- safehouse/safehouseref05.Right
instance : EntF Tryz.prog 183 := ⟨enters_of Tryz.func183 (by kernel_rfl) rfl⟩ -- internal/bytealg.CompareString
instance : EntF Tryz.prog 184 := ⟨enters_of Tryz.func184 (by kernel_rfl) rfl⟩ -- slices.IndexFunc[[]safehouse/api.Row,safehouse/api.Row]
instance : EntF Tryz.prog 185 := ⟨enters_of Tryz.func185 (by kernel_rfl) rfl⟩ -- slices.Clone[[]safehouse/vault.row,safehouse/vault.row]
instance : EntF Tryz.prog 186 := ⟨enters_of Tryz.func186 (by kernel_rfl) rfl⟩ -- slices.Delete[[]safehouse/vault.row,safehouse/vault.row]
instance : EntF Tryz.prog 187 := ⟨enters_of Tryz.func187 (by kernel_rfl) rfl⟩ -- slices.Insert[[]safehouse/vault.row,safehouse/vault.row]
instance : EntF Tryz.prog 188 := ⟨enters_of Tryz.func188 (by kernel_rfl) rfl⟩ -- (*safehouse/wal.Wal).All$1
instance : EntF Tryz.prog 189 := ⟨enters_of Tryz.func189 (by kernel_rfl) rfl⟩ -- slices.AppendSeq[[]safehouse/api.Row,safehouse/api.Row]
instance : EntF Tryz.prog 190 := ⟨enters_of Tryz.func190 (by kernel_rfl) rfl⟩ -- safehouse/vault.all$1
instance : EntF Tryz.prog 191 := ⟨enters_of Tryz.func191 (by kernel_rfl) rfl⟩ -- safehouse/safehouseref15.Name
instance : EntF Tryz.prog 192 := ⟨enters_of Tryz.func192 (by kernel_rfl) rfl⟩ -- safehouse/safehouseref18.user
instance : EntF Tryz.prog 193 := ⟨enters_of Tryz.func193 (by kernel_rfl) rfl⟩ -- safehouse/safehouseref14.One
instance : EntF Tryz.prog 194 := ⟨enters_of Tryz.func194 (by kernel_rfl) rfl⟩ -- safehouse/safehouseref16.user
instance : EntF Tryz.prog 195 := ⟨enters_of Tryz.func195 (by kernel_rfl) rfl⟩ -- safehouse/safehouseref16.counter
instance : EntF Tryz.prog 196 := ⟨enters_of Tryz.func196 (by kernel_rfl) rfl⟩ -- safehouse/octet.lay[uint32]
instance : EntF Tryz.prog 197 := ⟨enters_of Tryz.func197 (by kernel_rfl) rfl⟩ -- slices.ContainsFunc[[]int,int]
instance : EntF Tryz.prog 198 := ⟨enters_of Tryz.func198 (by kernel_rfl) rfl⟩ -- safehouse/memory.counted$1
instance : EntF Tryz.prog 199 := ⟨enters_of Tryz.func199 (by kernel_rfl) rfl⟩ -- safehouse/ideal.CheckOp
instance : EntF Tryz.prog 200 := ⟨enters_of Tryz.func200 (by kernel_rfl) rfl⟩ -- safehouse/tree.marked
instance : EntF Tryz.prog 201 := ⟨enters_of Tryz.func201 (by kernel_rfl) rfl⟩ -- safehouse/fresh.user
instance : EntF Tryz.prog 202 := ⟨enters_of Tryz.func202 (by kernel_rfl) rfl⟩ -- safehouse/fresh.counted
instance : EntF Tryz.prog 203 := ⟨enters_of Tryz.func203 (by kernel_rfl) rfl⟩ -- safehouse/term.Check
instance : EntF Tryz.prog 204 := ⟨enters_of Tryz.func204 (by kernel_rfl) rfl⟩ -- slices.Index[[]safehouse/api.SeedOf,safehouse/api.SeedOf]
instance : EntF Tryz.prog 205 := ⟨enters_of Tryz.func205 (by kernel_rfl) rfl⟩ -- safehouse/fresh.find
instance : EntF Tryz.prog 206 := ⟨enters_of Tryz.func206 (by kernel_rfl) rfl⟩ -- safehouse/fresh.copied
instance : EntF Tryz.prog 207 := ⟨enters_of Tryz.func207 (by kernel_rfl) rfl⟩ -- cmp.isNaN[int]
instance : EntF Tryz.prog 208 := ⟨enters_of Tryz.func208 (by kernel_rfl) rfl⟩ -- slices.ContainsFunc[[]safehouse/api.SeedOf,safehouse/api.SeedOf]
instance : EntF Tryz.prog 209 := ⟨enters_of Tryz.func209 (by kernel_rfl) rfl⟩ -- safehouse/memory.all[safehouse/api.SeedOf]$1
instance : EntF Tryz.prog 210 := ⟨enters_of Tryz.func210 (by kernel_rfl) rfl⟩ -- safehouse/fresh.Covers$1
instance : EntF Tryz.prog 211 := ⟨enters_of Tryz.func211 (by kernel_rfl) rfl⟩ -- slices.ContainsFunc[[]safehouse/api.Mark,safehouse/api.Mark]
instance : EntF Tryz.prog 212 := ⟨enters_of Tryz.func212 (by kernel_rfl) rfl⟩ -- safehouse/fresh.Covers$1$1
instance : EntF Tryz.prog 213 := ⟨enters_of Tryz.func213 (by kernel_rfl) rfl⟩ -- slices.ContainsFunc[[]safehouse/api.Seen,safehouse/api.Seen]
instance : EntF Tryz.prog 214 := ⟨enters_of Tryz.func214 (by kernel_rfl) rfl⟩ -- safehouse/memory.all[safehouse/api.Seen]$1
instance : EntF Tryz.prog 215 := ⟨enters_of Tryz.func215 (by kernel_rfl) rfl⟩ -- safehouse/safehouseref01.High
instance : EntF Tryz.prog 216 := ⟨enters_of Tryz.func216 (by kernel_rfl) rfl⟩ -- safehouse/safehouseref01.Both
instance : EntF Tryz.prog 217 := ⟨enters_of Tryz.func217 (by kernel_rfl) rfl⟩ -- (*safehouse/octet.Reader).U32
instance : EntF Tryz.prog 218 := ⟨enters_of Tryz.func218 (by kernel_rfl) rfl⟩ -- slices.Clone[[]safehouse/api.SeedOf,safehouse/api.SeedOf]
instance : EntF Tryz.prog 219 := ⟨enters_of Tryz.func219 (by kernel_rfl) rfl⟩ -- slices.Clone[[]safehouse/api.Mark,safehouse/api.Mark]
instance : EntF Tryz.prog 220 := ⟨enters_of Tryz.func220 (by kernel_rfl) rfl⟩ -- slices.Clone[[]safehouse/api.Seen,safehouse/api.Seen]
instance : EntF Tryz.prog 221 := ⟨enters_of Tryz.func221 (by kernel_rfl) rfl⟩ -- safehouse/memory.copied
instance : EntF Tryz.prog 222 := ⟨enters_of Tryz.func222 (by kernel_rfl) rfl⟩ -- (*safehouse/disk.Disk).asked
instance : EntF Tryz.prog 223 := ⟨enters_of Tryz.func223 (by kernel_rfl) rfl⟩ -- (*safehouse/disk.Disk).Read$1
instance : EntF Tryz.prog 224 := ⟨enters_of Tryz.func224 (by kernel_rfl) rfl⟩ -- (*safehouse/disk.stand).holds
instance : EntF Tryz.prog 225 := ⟨enters_of Tryz.func225 (by kernel_rfl) rfl⟩ -- (*safehouse/safehouseref20.taker).num
instance : EntF Tryz.prog 226 := ⟨enters_of Tryz.func226 (by kernel_rfl) rfl⟩ -- (*safehouse/safehouseref20.taker).text
instance : EntF Tryz.prog 227 := ⟨enters_of Tryz.func227 (by kernel_rfl) rfl⟩ -- (*safehouse/safehouseref20.taker).root
instance : EntF Tryz.prog 228 := ⟨enters_of Tryz.func228 (by kernel_rfl) rfl⟩ -- safehouse/safehouseref20.Copy
instance : EntF Tryz.prog 229 := ⟨enters_of Tryz.func229 (by kernel_rfl) rfl⟩ -- (*safehouse/disk.Disk).Copy
instance : EntF Tryz.prog 230 := ⟨enters_of Tryz.func230 (by kernel_rfl) rfl⟩ -- safehouse/term.walk
instance : EntF Tryz.prog 231 := ⟨enters_of Tryz.func231 (by kernel_rfl) rfl⟩ -- safehouse/term.fields
instance : EntF Tryz.prog 232 := ⟨enters_of Tryz.func232 (by kernel_rfl) rfl⟩ -- (safehouse/term.field).has
instance : EntF Tryz.prog 233 := ⟨enters_of Tryz.func233 (by kernel_rfl) rfl⟩ -- (*safehouse/octet.Reader).weigh$1
instance : EntF Tryz.prog 234 := ⟨enters_of Tryz.func234 (by kernel_rfl) rfl⟩ -- (*safehouse/term.reader).need
instance : EntF Tryz.prog 235 := ⟨enters_of Tryz.func235 (by kernel_rfl) rfl⟩ -- safehouse/term.known
instance : EntF Tryz.prog 236 := ⟨enters_of Tryz.func236 (by kernel_rfl) rfl⟩ -- (safehouse/term.field).kids
instance : EntF Tryz.prog 237 := ⟨enters_of Tryz.func237 (by kernel_rfl) rfl⟩ -- (*safehouse/disk.Disk).Write$1
instance : EntF Tryz.prog 238 := ⟨enters_of Tryz.func238 (by kernel_rfl) rfl⟩ -- (*safehouse/disk.Disk).Sync$1
instance : EntF Tryz.prog 239 := ⟨enters_of Tryz.func239 (by kernel_rfl) rfl⟩ -- (*safehouse/disk.Disk).Sync$1$1
instance : EntF Tryz.prog 240 := ⟨enters_of Tryz.func240 (by kernel_rfl) rfl⟩ -- safehouse/sha.Sum
instance : EntF Tryz.prog 241 := ⟨enters_of Tryz.func241 (by kernel_rfl) rfl⟩ -- safehouse/safehouseref05.Size
instance : EntF Tryz.prog 244 := ⟨enters_of Tryz.func244 (by kernel_rfl) rfl⟩ -- slices.rotateRight[safehouse/vault.row]
instance : EntF Tryz.prog 245 := ⟨enters_of Tryz.func245 (by kernel_rfl) rfl⟩ -- slices.IndexFunc[[]int,int]
instance : EntF Tryz.prog 246 := ⟨enters_of Tryz.func246 (by kernel_rfl) rfl⟩ -- safehouse/ideal.user
instance : EntF Tryz.prog 247 := ⟨enters_of Tryz.func247 (by kernel_rfl) rfl⟩ -- safehouse/ideal.named
instance : EntF Tryz.prog 248 := ⟨enters_of Tryz.func248 (by kernel_rfl) rfl⟩ -- safehouse/ideal.body
instance : EntF Tryz.prog 249 := ⟨enters_of Tryz.func249 (by kernel_rfl) rfl⟩ -- slices.BinarySearchFunc[[]safehouse/api.Seen,safehouse/api.Seen,int]
instance : EntF Tryz.prog 250 := ⟨enters_of Tryz.func250 (by kernel_rfl) rfl⟩ -- safehouse/fresh.find$1
instance : EntF Tryz.prog 251 := ⟨enters_of Tryz.func251 (by kernel_rfl) rfl⟩ -- slices.Clone[[]safehouse/api.Term,safehouse/api.Term]
instance : EntF Tryz.prog 252 := ⟨enters_of Tryz.func252 (by kernel_rfl) rfl⟩ -- slices.IndexFunc[[]safehouse/api.SeedOf,safehouse/api.SeedOf]
instance : EntF Tryz.prog 253 := ⟨enters_of Tryz.func253 (by kernel_rfl) rfl⟩ -- slices.IndexFunc[[]safehouse/api.Mark,safehouse/api.Mark]
instance : EntF Tryz.prog 254 := ⟨enters_of Tryz.func254 (by kernel_rfl) rfl⟩ -- slices.IndexFunc[[]safehouse/api.Seen,safehouse/api.Seen]
instance : EntF Tryz.prog 255 := ⟨enters_of Tryz.func255 (by kernel_rfl) rfl⟩ -- safehouse/safehouseref01.Byte
instance : EntF Tryz.prog 256 := ⟨enters_of Tryz.func256 (by kernel_rfl) rfl⟩ -- (*safehouse/disk.count).met
instance : EntF Tryz.prog 257 := ⟨enters_of Tryz.func257 (by kernel_rfl) rfl⟩ -- (*safehouse/disk.stand).back
instance : EntF Tryz.prog 258 := ⟨enters_of Tryz.func258 (by kernel_rfl) rfl⟩ -- safehouse/safehouseref01.Number
instance : EntF Tryz.prog 259 := ⟨enters_of Tryz.func259 (by kernel_rfl) rfl⟩ -- (*safehouse/safehouseref20.taker).raw
instance : EntF Tryz.prog 260 := ⟨enters_of Tryz.func260 (by kernel_rfl) rfl⟩ -- safehouse/safehouseref16.Copy
instance : EntF Tryz.prog 261 := ⟨enters_of Tryz.func261 (by kernel_rfl) rfl⟩ -- safehouse/term.plain
instance : EntF Tryz.prog 262 := ⟨enters_of Tryz.func262 (by kernel_rfl) rfl⟩ -- safehouse/sha.Start
instance : EntF Tryz.prog 263 := ⟨enters_of Tryz.func263 (by kernel_rfl) rfl⟩ -- safehouse/sha.Pad
instance : EntF Tryz.prog 264 := ⟨enters_of Tryz.func264 (by kernel_rfl) rfl⟩ -- safehouse/sha.Block
instance : EntF Tryz.prog 265 := ⟨enters_of Tryz.func265 (by kernel_rfl) rfl⟩ -- safehouse/safehouseref05.One
instance : EntF Tryz.prog 266 := ⟨enters_of Tryz.func266 (by kernel_rfl) rfl⟩ -- slices.rotateLeft[safehouse/vault.row]
instance : EntF Tryz.prog 267 := ⟨enters_of Tryz.func267 (by kernel_rfl) rfl⟩ -- safehouse/meta.Name
instance : EntF Tryz.prog 268 := ⟨enters_of Tryz.func268 (by kernel_rfl) rfl⟩ -- safehouse/term.Size
instance : EntF Tryz.prog 269 := ⟨enters_of Tryz.func269 (by kernel_rfl) rfl⟩ -- safehouse/ideal.plain
instance : EntF Tryz.prog 270 := ⟨enters_of Tryz.func270 (by kernel_rfl) rfl⟩ -- (*safehouse/disk.stand).back$1
instance : EntF Tryz.prog 271 := ⟨enters_of Tryz.func271 (by kernel_rfl) rfl⟩ -- safehouse/safehouseref05.Copy
instance : EntF Tryz.prog 272 := ⟨enters_of Tryz.func272 (by kernel_rfl) rfl⟩ -- safehouse/octet.Put64
instance : EntF Tryz.prog 273 := ⟨enters_of Tryz.func273 (by kernel_rfl) rfl⟩ -- safehouse/sha.pushed
instance : EntF Tryz.prog 274 := ⟨enters_of Tryz.func274 (by kernel_rfl) rfl⟩ -- safehouse/sha.turned
instance : EntF Tryz.prog 275 := ⟨enters_of Tryz.func275 (by kernel_rfl) rfl⟩ -- safehouse/sha.Constants
instance : EntF Tryz.prog 276 := ⟨enters_of Tryz.func276 (by kernel_rfl) rfl⟩ -- (safehouse/sha.mix).of
instance : EntF Tryz.prog 277 := ⟨enters_of Tryz.func277 (by kernel_rfl) rfl⟩ -- safehouse/sha.Block$1
instance : EntF Tryz.prog 278 := ⟨enters_of Tryz.func278 (by kernel_rfl) rfl⟩ -- slices.Reverse[[]safehouse/vault.row,safehouse/vault.row]
instance : EntF Tryz.prog 279 := ⟨enters_of Tryz.func279 (by kernel_rfl) rfl⟩ -- slices.ContainsFunc[[]safehouse/api.Term,safehouse/api.Term]
instance : EntF Tryz.prog 280 := ⟨enters_of Tryz.func280 (by kernel_rfl) rfl⟩ -- safehouse/ideal.plain$1
instance : EntF Tryz.prog 281 := ⟨enters_of Tryz.func281 (by kernel_rfl) rfl⟩ -- safehouse/octet.lay[uint64]
instance : EntF Tryz.prog 282 := ⟨enters_of Tryz.func282 (by kernel_rfl) rfl⟩ -- slices.IndexFunc[[]safehouse/api.Term,safehouse/api.Term]
end
end Go.Proofs.YtdakncgafdnjfaaGreat

/- Package octet: numbers laid as bytes. -/
namespace Go.Proofs.YtdakncgafdnjfaaGreat
open Go Go.Wk
set_option synthInstance.maxSize 100000
set_option synthInstance.maxHeartbeats 400000
set_option maxRecDepth 100000

theorem drop_rep (n m : Nat) (z : Value) : ((List.replicate (n + m) [z]).flatten).drop (n * 1) = List.replicate m z := by
  have h : ∀ k, (List.replicate k [z]).flatten = List.replicate k z := fun k => by
    induction k with
    | zero => rfl
    | succ k ih => rw [List.replicate_succ, List.flatten_cons, ih]; rfl
  rw [h, List.drop_replicate]
  congr 1; omega
theorem enc_set1 (l1 l2 : List UInt8) (y y' : UInt8) : (encL (l1 ++ y :: l2)).take l1.length ++ [.int .u8 (y'.toNat : Int)] ++ (encL (l1 ++ y :: l2)).drop (l1.length + 1) = encL (l1 ++ y' :: l2) := by
  have h1 : (encL l1).length = l1.length := by rw [encL_len]; exact Nat.mul_one _
  have e : encL (l1 ++ y :: l2) = encL l1 ++ (.int .u8 (y.toNat : Int) :: encL l2) := by rw [encL_append, encL_cons]; rfl
  rw [e, ← h1, List.take_left, List.drop_append, List.drop_of_length_le (by omega), encL_append, encL_cons]
  simp [Enc.cells]
theorem lay16_c (p : Option Addr) (n c : Nat) (b : List UInt8) (v : Int) (w0 : World) (hn : b.length = n) (hb : n ≤ 1073741824) (hv : 0 ≤ v) (hv' : v ≤ 65535) (hs : Stable (fun _ => False) w0 (SlF p (encL b))) :
    Ret Tryz.prog 164 [.slice p n c, .int .u16 v, .int .i64 2] w0 (fun _ => False) fun r w' => ∃ g, r = .slice (some ⟨g, 0, none⟩) (n + 2) (n + 2) ∧ w0.heap.size ≤ g ∧ w'.ownsRow 0 5 1 (.slice (some ⟨g, 0, none⟩) (n + 2) (n + 2)) (n + 2) (encL (b ++ be 2 v)) := by
  have hln : LenN b n := ⟨hn⟩
  refine enter Tryz.func164 rfl rfl (Wd.begin (fs := [SlF p (encL b)]) (by simpa using hs)) (fun a S => ?_)
  simp only [Tryz.ntmps164, List.length_cons, List.length_nil, Nat.reduceAdd, Nat.reduceSub, List.replicate_succ, List.replicate_zero, List.cons_append, List.nil_append] at S
  refine c_seq ?_
  refine c_region ?_
  refine sq S ?_; clear S; intro a S
  refine wl_nil ?_
  refine xtn ?_
  refine c_seq ?_
  refine c_region ?_
  iterate 4 (refine sq S ?_; clear S; intro a S)
  rw [w64 ((n : Int) + 2) (by omega) (by omega)] at S
  refine smk (n + 2) S (by omega) (by omega) (by omega) (by simp only [maxLen]; omega) ?_; clear S; intro g a w S
  refine sq S ?_; clear S; intro a S
  refine wl_nil ?_
  refine xtn ?_
  refine c_seq ?_
  refine c_region ?_
  iterate 2 (refine sq S ?_; clear S; intro a S)
  refine scp S (by omega) ?_; clear S; intro a w S
  rw [drop_rep] at S
  refine wl_nil ?_
  refine xtn ?_
  iterate 2 (refine c_seq ?_)
  refine c_region ?_
  iterate 2 (refine sq S ?_; clear S; intro a S)
  refine wl_nil ?_
  refine xtn ?_
  refine c_block ?_
  refine c_loop (ι := Nat) (fun k a w => k ≤ 2 ∧ ∃ uu : Nat → Value,  St w0 (fun _ => False) [] a w ((.slice p n c) :: (.int .u16 v) :: (.int .i64 2) :: uu 3 :: uu 4 :: uu 5 :: uu 6 :: (.slice (some ⟨g, 0, none⟩) (n + 2) (n + 2)) :: uu 8 :: uu 9 :: uu 10 :: uu 11 :: uu 12 :: uu 13 :: uu 14 :: uu 15 :: uu 16 :: (.int .i64 2) :: (.int .i64 (k : Nat)) :: uu 19 :: uu 20 :: uu 21 :: uu 22 :: uu 23 :: uu 24 :: uu 25 :: uu 26 :: uu 27 :: uu 28 :: uu 29 :: uu 30 :: uu 31 :: uu 32 :: uu 33 :: uu 34 :: uu 35 :: uu 36 :: uu 37 :: []) [row 5 1 (some ⟨g, 0, none⟩) (n + 2) (n + 2) (encL (b ++ ((be 2 v).take k ++ List.replicate (2 - k) 0)))] [SlF p (encL b)]) (fun k => 2 - k) 0 ?_ ?_
  · rw [show encL b ++ List.replicate 2 (Value.int .u8 0) = encL (b ++ ((be 2 v).take 0 ++ List.replicate (2 - 0) 0)) from by rw [encL_append]; rfl] at S
    exact ⟨Nat.zero_le _, S.uu, S⟩
  · clear S
    rintro k a w ⟨hk, uu, S⟩
    refine c_seq ?_
    refine c_region ?_
    refine sq S ?_; clear S; intro a S
    refine wl_nil ?_
    refine xtn ?_
    refine c_seq ?_
    refine c_cond S (fun h4 => ?_) (fun h4 => ?_)
    · refine c_skip ?_
      refine xtn ?_
      refine c_seq ?_
      refine c_block ?_
      refine c_seq ?_
      refine c_region ?_
      iterate 2 (refine sq S ?_; clear S; intro a S)
      refine wl_nil ?_
      refine xtn ?_
      refine c_region ?_
      iterate 4 (refine sq S ?_; clear S; intro a S)
      have hk2 : k < 2 := by simp at h4; omega
      refine sq S ?_; clear S; intro a S
      rw [w64 ((n : Int) + (k : Int)) (by omega) (by omega), show (n : Int) + (k : Int) = ((n + k : Nat) : Int) from by omega] at S
      iterate 2 (refine sq S ?_; clear S; intro a S)
      rw [wu64 v (by omega) (by omega)] at S
      iterate 2 (refine sq S ?_; clear S; intro a S)
      rw [show IntKind.i64.wrap (2 - 1) = 1 from rfl] at S
      iterate 2 (refine sq S ?_; clear S; intro a S)
      rw [w64 (1 - (k : Int)) (by omega) (by omega)] at S
      refine sq S ?_; clear S; intro a S
      rw [w64 (8 * (1 - (k : Int))) (by omega) (by omega), show 8 * (1 - (k : Int)) = ((8 * (2 - 1 - k) : Nat) : Int) from by omega] at S
      refine sq S ?_; clear S; intro a S
      rw [show min (8 * (2 - 1 - k)) IntKind.u64.bits = 8 * (2 - 1 - k) from Nat.min_eq_left (by simp only [IntKind.bits]; omega)] at S
      refine sq S ?_; clear S; intro a S
      rw [u8_wrap] at S
      have hK : KLt (n + k) (n + 2) := ⟨by omega⟩
      refine sq S ?_; clear S; intro a S
      refine sws S (n + 2) (by omega) (by omega) ?_; clear S; intro a w S
      refine wl_nil ?_
      refine xbn ?_
      refine xtn ?_
      refine c_region ?_
      iterate 2 (refine sq S ?_; clear S; intro a S)
      refine wl_nil ?_
      refine xtn ?_
      rw [w64 ((k : Int) + 1) (by omega) (by omega)] at S
      have e : encL (b ++ ((be 2 v).take (k + 1) ++ List.replicate (2 - (k + 1)) 0)) = (encL (b ++ ((be 2 v).take k ++ List.replicate (2 - k) 0))).take (n + k) ++ [.int .u8 ((Wk.u8 (v.fdiv (2 ^ (8 * (2 - 1 - k))))).toNat : Int)] ++ (encL (b ++ ((be 2 v).take k ++ List.replicate (2 - k) 0))).drop (n + k + 1) := by
        have hk2 : k = 0 ∨ k = 1 := by omega
        rcases hk2 with rfl | rfl
        · have := enc_set1 b [0] 0 (Wk.u8 (v.fdiv (2 ^ (8 * (2 - 1 - 0)))))
          rw [hn] at this
          exact this.symm
        · have := enc_set1 (b ++ [Wk.u8 (v.fdiv (2 ^ 8))]) [] 0 (Wk.u8 (v.fdiv (2 ^ (8 * (2 - 1 - 1)))))
          rw [List.length_append, hn] at this
          simp only [List.append_assoc] at this ⊢
          exact this.symm
      rw [List.length_singleton, ← e] at S
      exact ⟨k + 1, ⟨by omega, S.uu, S⟩, by omega⟩
    · refine c_exit ?_
      iterate 2 (refine xte ?_)
      refine xbe ?_
      refine xtn ?_
      refine c_seq ?_
      refine c_region ?_
      iterate 2 (refine sq S ?_; clear S; intro a S)
      refine wl_nil ?_
      refine xtn ?_
      refine c_ret ?_
      have hk2 : k = 2 := by simp at h4; omega
      subst hk2
      have hrow := S.row (some ⟨g, 0, none⟩) (n + 2)
      have hnew := S.rowNew (some ⟨g, 0, none⟩) (n + 2)
      refine end1 S (fun _ => ⟨g, rfl, ?_, ?_⟩)
      · exact (hnew _ rfl).elim (fun h => h.elim) id
      · rw [List.take_of_length_le (by simp [be]), show List.replicate (2 - 2) (0 : UInt8) = [] from rfl, List.append_nil] at hrow
        exact hrow
theorem put16_c (p : Option Addr) (n c : Nat) (b : List UInt8) (v : Int) (w0 : World) (hn : b.length = n) (hb : n ≤ 1073741824) (hv : 0 ≤ v) (hv' : v ≤ 65535) (hs : Stable (fun _ => False) w0 (SlF p (encL b))) :
    Ret Tryz.prog 65 [.slice p n c, .int .u16 v] w0 (fun _ => False) fun r w' => ∃ g, r = .slice (some ⟨g, 0, none⟩) (n + 2) (n + 2) ∧ w0.heap.size ≤ g ∧ w'.ownsRow 0 5 1 (.slice (some ⟨g, 0, none⟩) (n + 2) (n + 2)) (n + 2) (encL (b ++ be 2 v)) := by
  refine enter Tryz.func65 rfl rfl (Wd.begin (fs := [SlF p (encL b)]) (by simpa using hs)) (fun a S => ?_)
  simp only [Tryz.ntmps65, List.length_cons, List.length_nil, Nat.reduceAdd, Nat.reduceSub, List.replicate_succ, List.replicate_zero, List.cons_append, List.nil_append] at S
  refine c_seq ?_
  refine c_region ?_
  refine sq S ?_; clear S; intro a S
  refine wl_nil ?_
  refine xtn ?_
  refine c_seq ?_
  refine c_region ?_
  iterate 2 (refine sq S ?_; clear S; intro a S)
  refine srn S (lay16_c p n c b v _ hn hb hv hv' ((S.fact (Φ := SlF p (encL b)) (by simp)).less fun _ _ h => h.elim)) ?_; clear S; rintro _ a w1 ⟨g, rfl, hg, hown⟩ - S
  refine sq S ?_; clear S; intro a S
  refine wl_nil ?_
  refine xtn ?_
  refine c_ret ?_
  exact end1 S (fun _ => ⟨g, rfl, hg, hown⟩)
end Go.Proofs.YtdakncgafdnjfaaGreat
