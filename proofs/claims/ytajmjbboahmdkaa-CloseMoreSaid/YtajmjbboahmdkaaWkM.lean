import Derived.Test.YtajmjbboahmdkaaWkL
import Derived.Deep.AppendSrc
namespace Go.Wk
open Go

/-! an item gives way to another one -/
theorem Wd.swap {w0 M0 w w' fs} {pre post : List Item} {x y : Item} (h : Wd w0 M0 w (pre ++ x :: post) fs) (hxo : x.own = true) (ha : Agree x.foot w w') (hy : y.holds w')
    (hf : ∀ k, y.foot k → x.foot k ∨ w.heap.size ≤ k) (hlt : ∀ k, y.foot k → k < w'.heap.size)
    (hloc : ∀ w1 w2 : World, (∀ k, y.foot k → w2.heap[k]? = w1.heap[k]?) → y.holds w1 → y.holds w2) : Wd w0 M0 w' (pre ++ y :: post) fs := by
  have hm : x ∈ pre ++ x :: post := by simp
  have hap := List.pairwise_append.1 h.apart
  have hap2 := List.pairwise_cons.1 hap.2.1
  have hin : ∀ it, it ∈ pre ∨ it ∈ post → it ∈ pre ++ x :: post := fun it hi => by rcases hi with hi | hi <;> simp [hi]
  have hne : ∀ it, it ∈ pre ∨ it ∈ post → ∀ k, it.foot k → ¬ x.foot k := by
    rintro it (hi | hi) k hk hxk
    · exact hap.2.2 it hi x (by simp) k hk hxk
    · exact hap2.1 it hi k hxk hk
  have hney : ∀ it, it ∈ pre ∨ it ∈ post → ∀ k, it.foot k → ¬ y.foot k := fun it hi k hk hyk => by
    rcases hf k hyk with h1 | h1
    · exact hne it hi k hk h1
    · exact absurd (h.lt it (hin it hi) k hk) (by omega)
  have hkeep : ∀ it, it ∈ pre ∨ it ∈ post → it.holds w' := fun it hi =>
    h.loc it (hin it hi) w w' (fun k hk => ha.blk (h.lt it (hin it hi) k hk) (hne it hi k hk)) (h.held it (hin it hi))
  have mem' : ∀ it, it ∈ pre ++ y :: post → it = y ∨ it ∈ pre ∨ it ∈ post := fun it hi => by
    rcases List.mem_append.1 hi with hi | hi
    · exact .inr (.inl hi)
    · rcases List.mem_cons.1 hi with rfl | hi
      · exact .inl rfl
      · exact .inr (.inr hi)
  refine ⟨?_, ?_, ?_, ?_, ?_, ?_, ?_⟩
  · refine h.agree.trans' ha fun k hk hx => ?_
    rcases h.own _ hm hxo k hx with h1 | h1
    · exact h1
    · omega
  · intro it hi
    rcases mem' it hi with rfl | hi
    · exact hy
    · exact hkeep it hi
  · intro it hi k hk
    rcases mem' it hi with rfl | hi
    · exact hlt k hk
    · exact Nat.lt_of_lt_of_le (h.lt it (hin it hi) k hk) ha.size
  · intro it hi ho k hk
    rcases mem' it hi with rfl | hi
    · rcases hf k hk with h1 | h1
      · exact h.own _ hm hxo k h1
      · exact .inr (Nat.le_trans h.agree.size h1)
    · exact h.own it (hin it hi) ho k hk
  · refine List.pairwise_append.2 ⟨hap.1, List.pairwise_cons.2 ⟨fun it hi k hk hk' => hney it (.inr hi) k hk' hk, hap2.2⟩, fun a ha b hb => ?_⟩
    rcases List.mem_cons.1 hb with rfl | hb
    · exact fun k hk hk' => hney a (.inl ha) k hk hk'
    · exact hap.2.2 a ha b (by simp [hb])
  · intro Φ hΦ w'' hw''
    refine h.facts Φ hΦ w'' ⟨hw''.1.trans ha.1, hw''.2.1.trans ha.2.1, hw''.2.2.1.trans ha.2.2.1, Nat.le_trans ha.size hw''.size, fun k hk hn => ?_⟩
    have hnx : ¬ x.foot k := fun hx => hn ⟨x, hm, hx⟩
    rw [hw''.blk (Nat.lt_of_lt_of_le hk ha.size) ?_, ha.blk hk hnx]
    rintro ⟨it, hi, hik⟩
    rcases mem' it hi with rfl | hi
    · rcases hf k hik with h1 | h1
      · exact hnx h1
      · omega
    · exact hn ⟨it, hin it hi, hik⟩
  · intro it hi
    rcases mem' it hi with rfl | hi
    · exact hloc
    · exact h.loc it (hin it hi)
class ReplI (bs : List Item) (x y : Item) (bs' : outParam (List Item)) : Prop where
  ex : ∃ pre post, bs = pre ++ x :: post ∧ bs' = pre ++ y :: post
instance ri0 {x y : Item} {bs : List Item} : ReplI (x :: bs) x y (y :: bs) := ⟨[], bs, rfl, rfl⟩
instance (priority := 900) ri1 {x y u : Item} {bs bs' : List Item} [h : ReplI bs x y bs'] : ReplI (u :: bs) x y (u :: bs') := ⟨by
  obtain ⟨pre, post, e1, e2⟩ := h.ex; exact ⟨u :: pre, post, by rw [e1]; rfl, by rw [e2]; rfl⟩⟩
/-- a new item, in new memory. -/
theorem Wd.more {w0 M0 w bs fs} {y : Item} (h : Wd w0 M0 w bs fs) (hy : y.holds w) (hn : ∀ k, y.foot k → w0.heap.size ≤ k) (hlt : ∀ k, y.foot k → k < w.heap.size) (hap : ∀ it ∈ bs, ∀ k, y.foot k → ¬ it.foot k)
    (hfs : ∀ Φ ∈ fs, Stable (foots (y :: bs)) w Φ) (hloc : ∀ w1 w2 : World, (∀ k, y.foot k → w2.heap[k]? = w1.heap[k]?) → y.holds w1 → y.holds w2) : Wd w0 M0 w (y :: bs) fs := by
  refine ⟨h.agree, ?_, ?_, ?_, List.pairwise_cons.2 ⟨hap, h.apart⟩, hfs, ?_⟩
  · intro it hi; exact (List.mem_cons.1 hi).elim (fun q => by subst q; exact hy) (fun hi => h.held it hi)
  · intro it hi; exact (List.mem_cons.1 hi).elim (fun q => by subst q; exact hlt) (fun hi => h.lt it hi)
  · intro it hi; exact (List.mem_cons.1 hi).elim (fun q => by subst q; exact fun _ k hk => .inr (hn k hk)) (fun hi => h.own it hi)
  · intro it hi; exact (List.mem_cons.1 hi).elim (fun q => by subst q; exact hloc) (fun hi => h.loc it hi)

/-! what lies in a slice's places -/
class Enc (α : Type) where
  sz : Nat
  cells : α → List Value
  len : ∀ x, (cells x).length = sz
  one : ∀ x, ∀ u ∈ cells x, u.oneCell' = true
def encL {α : Type} [Enc α] (xs : List α) : List Value := xs.flatMap Enc.cells
theorem encL_nil {α : Type} [Enc α] : encL (α := α) [] = [] := rfl
theorem encL_cons {α : Type} [Enc α] (x : α) (xs : List α) : encL (x :: xs) = Enc.cells x ++ encL xs := by simp [encL]
theorem encL_append {α : Type} [Enc α] (xs ys : List α) : encL (xs ++ ys) = encL xs ++ encL ys := by simp [encL]
theorem encL_len {α : Type} [Enc α] (xs : List α) : (encL xs).length = xs.length * Enc.sz α := by
  induction xs with
  | nil => simp [encL]
  | cons x xs ih => rw [encL_cons, List.length_append, ih, Enc.len, List.length_cons, Nat.add_mul]; omega
theorem encL_one {α : Type} [Enc α] (xs : List α) : ∀ u ∈ encL xs, u.oneCell' = true := fun u hu => by
  obtain ⟨x, _, hx⟩ := List.mem_flatMap.1 hu
  exact Enc.one x u hx
theorem encL_get {α : Type} [Enc α] : ∀ (xs : List α) (k : Nat) (x : α), xs[k]? = some x → ∀ j, j < Enc.sz α → (encL xs)[k * Enc.sz α + j]? = (Enc.cells x)[j]?
  | [], k, x, h, j, hj => by simp at h
  | y :: ys, 0, x, h, j, hj => by
    simp at h; subst h
    rw [encL_cons, List.getElem?_append_left (by rw [Enc.len]; omega)]
    simp
  | y :: ys, k + 1, x, h, j, hj => by
    rw [encL_cons, List.getElem?_append_right (by rw [Enc.len, Nat.add_mul]; omega), Enc.len]
    have := encL_get ys k x (by simpa using h) j hj
    rw [← this]
    congr 1
    rw [Nat.add_mul]; omega
theorem encL_take {α : Type} [Enc α] (xs : List α) (m : Nat) : (encL xs).take (m * Enc.sz α) = encL (xs.take m) := by
  by_cases hm : m ≤ xs.length
  · conv => lhs; rw [← List.take_append_drop m xs, encL_append]
    rw [List.take_append_of_le_length (by rw [encL_len]; simp [hm]), List.take_of_length_le (by rw [encL_len]; simp [Nat.min_eq_left hm])]
  · rw [List.take_of_length_le (by rw [encL_len]; exact Nat.mul_le_mul_right _ (by omega)), List.take_of_length_le (by omega)]
instance encT : Enc LTerm := ⟨5, LTerm.cells, fun _ => rfl, fun x u hu => by
  simp only [LTerm.cells, List.mem_cons, List.not_mem_nil, or_false] at hu
  rcases hu with rfl | rfl | rfl | rfl | rfl <;> rfl⟩
instance encB : Enc UInt8 := ⟨1, fun b => [.int .u8 b.toNat], fun _ => rfl, fun x u hu => by obtain rfl := List.mem_singleton.1 hu; rfl⟩
instance encI : Enc Int := ⟨1, fun b => [.int .i64 b], fun _ => rfl, fun x u hu => by obtain rfl := List.mem_singleton.1 hu; rfl⟩
instance encS : Enc (List UInt8) := ⟨1, fun s => [str s], fun _ => rfl, fun x u hu => by obtain rfl := List.mem_singleton.1 hu; rfl⟩
/-- the byte that a number is laid as. -/
def u8 (n : Int) : UInt8 := UInt8.ofNat (n % 256).toNat
theorem u8_wrap (n : Int) : IntKind.u8.wrap n = ((u8 n).toNat : Int) := by
  unfold IntKind.wrap u8
  simp only [IntKind.bits, IntKind.signed, Bool.false_and]
  rw [UInt8.toNat_ofNat']
  simp
  omega
/-- these cells are these things. -/
class Dec {α : Type} [Enc α] (cs : List Value) (xs : outParam (List α)) : Prop where eq : cs = encL xs
instance decT {t : LTerm} : Dec (α := LTerm) (t.cells) [t] := ⟨by simp [encL]; rfl⟩
instance decB {n : Int} : Dec (α := UInt8) [.int .u8 (IntKind.u8.wrap n)] [u8 n] := ⟨by simp [encL, Enc.cells, u8_wrap]⟩
instance decB1 {b : UInt8} : Dec (α := UInt8) [.int .u8 (b.toNat : Int)] [b] := ⟨by simp [encL, Enc.cells]⟩
instance decI {n : Int} : Dec (α := Int) [.int .i64 n] [n] := ⟨by simp [encL, Enc.cells]⟩
instance decS {s : List UInt8} : Dec (α := List UInt8) [str s] [s] := ⟨by simp [encL, Enc.cells]⟩
instance decL {α : Type} [Enc α] {xs : List α} : Dec (encL xs) xs := ⟨rfl⟩

class FlatR (xs : List Value) : Prop where all : ∀ u ∈ xs, u.oneCell' = true
instance flatR1 {α : Type} [Enc α] {xs : List α} : FlatR (encL xs) := ⟨encL_one xs⟩
class LenN {α : Type} (xs : List α) (n : Nat) : Prop where eq : xs.length = n
instance lenn {α : Type} {xs : List α} : LenN xs xs.length := ⟨rfl⟩

/-! rows: slices of one's own -/
def row (e : TypeId) (sz : Nat) (p : Option Addr) (n c : Nat) (xs : List Value) : Item where
  foot := fun k => ∃ ad, p = some ad ∧ k = ad.block
  holds := fun w => w.ownsRow 0 e sz (.slice p n c) n xs
theorem row_loc (e : TypeId) (sz : Nat) (p : Option Addr) (n c : Nat) (xs : List Value) (w1 w2 : World) (h : ∀ k, (row e sz p n c xs).foot k → w2.heap[k]? = w1.heap[k]?) (h1 : (row e sz p n c xs).holds w1) : (row e sz p n c xs).holds w2 := by
  obtain ⟨h2, h3⟩ := h1
  refine ⟨h2, ?_⟩
  rcases h3 with h3 | ⟨g, cap, cur, hv, hb, hg, r⟩
  · exact .inl h3
  · refine .inr ⟨g, cap, cur, hv, hb, ?_, r⟩
    cases hv
    rw [h g ⟨_, rfl, rfl⟩]; exact hg
theorem row_foot_lt {e : TypeId} {sz : Nat} {p : Option Addr} {n c : Nat} {xs : List Value} {w : World} (h : (row e sz p n c xs).holds w) : ∀ k, (row e sz p n c xs).foot k → k < w.heap.size := by
  rintro k ⟨ad, rfl, rfl⟩
  rcases h.2 with ⟨h3, _⟩ | ⟨g, cap, cur, hv, _, hg, _⟩
  · cases h3
  · cases hv; exact (Array.getElem?_eq_some_iff.1 hg).1
class HasRow (bs : List Item) (p : Option Addr) (n : Nat) (e : outParam TypeId) (sz c : outParam Nat) (xs : outParam (List Value)) : Prop where mem : row e sz p n c xs ∈ bs
instance hr0 {e : TypeId} {sz : Nat} {p : Option Addr} {n c : Nat} {xs : List Value} {bs : List Item} : HasRow (row e sz p n c xs :: bs) p n e sz c xs := ⟨List.mem_cons_self ..⟩
instance (priority := 900) hr1 {e : TypeId} {sz : Nat} {p : Option Addr} {n c : Nat} {xs : List Value} {x : Item} {bs : List Item} [h : HasRow bs p n e sz c xs] : HasRow (x :: bs) p n e sz c xs := ⟨List.mem_cons_of_mem _ h.mem⟩
section
variable {P : Program} {r : Option Nat} {ops : Array Oper} {Q : Exit → Act → World → Prop} {w0 : World} {M0 : Nat → Prop} {ds : List Deferred} {a : Act} {w : World} {l : List Value} {bs bs' : List Item} {fs : List (World → Prop)}
  {d : Option Nat} {op : Op} {ty : TypeId} {pos : String} {af : Array Edge} {rest : List Oper} {v : Value} {e : TypeId} {sz : Nat} {p : Option Addr} {n c : Nat} {xs : List Value}
theorem St.row (S : St w0 M0 ds a w l bs fs) (p : Option Addr) (n : Nat) {e : TypeId} {sz c : Nat} {xs : List Value} [h : HasRow bs p n e sz c xs] : w.ownsRow 0 e sz (.slice p n c) n xs := S.wd.held _ h.mem
/-- a nil slice is a row. -/
theorem St.addNil (S : St w0 M0 ds a w l bs fs) (e : TypeId) (sz : Nat) : St w0 M0 ds a w l (Wk.row e sz none 0 0 [] :: bs) fs := by
  have hf : ∀ k, ¬ (Wk.row e sz none 0 0 []).foot k := fun k ⟨ad, h, _⟩ => by cases h
  refine ⟨S.slots, S.defers, S.wd.more (World.ownsRow_nil _ _ _ _) (fun k hk => absurd hk (hf k)) (fun k hk => absurd hk (hf k)) (fun _ _ k hk => absurd hk (hf k)) (fun Φ hΦ => ?_) (row_loc _ _ _ _ _ _)⟩
  refine (S.wd.facts Φ hΦ).less fun k _ ⟨it, hi, hk⟩ => ?_
  rcases List.mem_cons.1 hi with rfl | hi
  · exact absurd hk (hf k)
  · exact ⟨it, hi, hk⟩
theorem run_append_row {w : World} {t tx ty : TypeId} {z : Value} {by_ m : Nat} {x : Value} {news : List Value} [ht : Und P t (.slice e)] [hti : TI P e z sz by_] (hz : z.cells.size = sz) (hown : w.ownsRow 0 e sz (.slice p n c) n xs)
    (hs : Src P sz tx x m news w) (h63 : n + m ≤ maxLen) (hb : (n + m) * by_ ≤ 140737488355328) :
    ∃ p' c' w', (Builtin.append_ #[t, tx] ty #[.slice p n c, x]).run P w = .ok (.slice p' (n + m) c') w' ∧ w'.ownsRow 0 e sz (.slice p' (n + m) c') (n + m) (xs ++ news) ∧
      Agree (fun k => ∃ ad, p = some ad ∧ k = ad.block) w w' ∧ (∀ ad, p' = some ad → (p = some ad) ∨ w.heap.size ≤ ad.block) ∧ (0 < m → p'.isSome) := by
  obtain ⟨i, hi, hz', hsize, hby⟩ := hti.ex
  subst hsize hby
  have htu := ht.eq
  have hlen : (xs ++ news).length = (n + m) * i.size := by rw [List.length_append, hown.1, hs.newsLen, Nat.add_mul]
  have hfit : ∀ old, old < n + m → Builtin.nextslicecap (n + m) old * i.bytes ≤ 281474976710656 := fun old ho => growslice_fits ho hb
  have hcells : ∀ old, ((xs ++ news).toArray ++ Builtin.zeroCells z.cells (grownCap w (n + m) old e - (n + m))).size = grownCap w (n + m) old e * i.size := fun old => by
    have := grownCap_ge w (n + m) old e
    rw [Array.size_append, size_zeroCells, hz, List.size_toArray, hlen, ← Nat.add_mul]
    congr 1; omega
  have grown : ∀ old, (w.drew.alloc (.cells ((xs ++ news).toArray ++ Builtin.zeroCells z.cells (grownCap w (n + m) old e - (n + m))) e)).ownsRow 0 e i.size (.slice (some ⟨w.heap.size, 0, none⟩) (n + m) (grownCap w (n + m) old e)) (n + m) (xs ++ news) := fun old => by
    refine ⟨hlen, .inr ⟨w.heap.size, _, _, rfl, Nat.zero_le _, heap_alloc_new w.drew _, grownCap_ge _ _ _ _, grownCap_le_maxLen w (n + m) old e h63, hcells old, ?_⟩⟩
    rw [← hlen, Array.toList_append]
    exact List.take_left
  have hag : ∀ o, Agree (fun k => ∃ ad, p = some ad ∧ k = ad.block) w (w.drew.alloc o) := fun o => (Agree.drawn _ w _).trans (Agree.alloc _ w.drew o)
  rcases hown.2 with ⟨hv, rfl⟩ | ⟨g, cap, cur, hv, hbg, hg, hnc, hcm, hcs, htake⟩
  · cases hv
    have hx : xs = [] := List.eq_nil_of_length_eq_zero (by simpa using hown.1)
    subst hx
    by_cases hm : m = 0
    · subst hm
      have hn : news = [] := List.eq_nil_of_length_eq_zero (by simpa using hs.newsLen)
      subst hn
      refine ⟨none, 0, w, ?_, World.ownsRow_nil w _ _ _, Agree.refl _ _, (fun _ h => by cases h), (fun h => absurd h (by omega))⟩
      rcases hs.kind with ⟨e', hk⟩ | hk <;> simp [Builtin.append_, run_underlying htu, run_underlying hk, sizeOf, typeInfo, hi, hs.len, hs.cells]
    · have hr := run_append_grow_src (P := P) w t tx ty e i z htu hi hz' none 0 0 [] (by simp [Builtin.firstCells]) x m news hs (by omega) (by simp only [maxLen] at h63; omega) (hfit 0 (by omega))
      exact ⟨_, _, _, hr, grown 0, hag _, fun ad h => .inr (by cases h; exact Nat.le_refl _), fun _ => rfl⟩
  · cases hv
    by_cases hroom : n + m ≤ c
    · have hb0 : ∀ j, j < news.length → n * i.size + j < cur.size := fun j hj => by
        have := Nat.mul_le_mul_right i.size hroom
        rw [hs.newsLen] at hj
        rw [hcs]
        have e1 := Nat.add_mul n m i.size
        omega
      have hcell : ∀ j, w.cell? ⟨g, j, none⟩ = cur[j]? := fun j => cell_of_row w g j cur e (0, 0) hg
      have hr := run_append_room_src (P := P) w t tx ty e i htu hi g 0 n c x m news hs hroom
        (fun j hj => by simp only [Nat.zero_add]; rw [hcell]; simpa using hb0 j hj)
        (fun j hj => by simp [World.frozen?, hg])
      simp only [Nat.zero_add] at hr
      have hfit2 : n * i.size + news.length ≤ cur.size := by
        have := Nat.mul_le_mul_right i.size hroom
        rw [hs.newsLen, hcs, ← Nat.add_mul]; exact this
      have hsc : w.setCells g (n * i.size) news = w.setRow g (cur.toList.take (n * i.size) ++ news ++ cur.toList.drop (n * i.size + news.length)).toArray := by
        have h1 := run_storeCells_cells (P := P) g (n * i.size) news 0 w (fun j hj => by rw [hcell]; simpa using hb0 j hj) (fun j hj => by simp [World.frozen?, hg]) hs.one
        have h2 := run_storeCells_at (P := P) g (n * i.size) e news 0 cur w hg (by simpa using hfit2) hs.one
        rw [h1] at h2
        simp only [Nat.add_zero] at h2
        injection h2
      rw [hsc] at hr
      refine ⟨_, _, _, hr, ⟨hlen, .inr ⟨g, c, _, rfl, Nat.zero_le _, setRow_heap w g cur _ e _ hg, hroom, hcm, ?_, ?_⟩⟩, Agree.setRow w g _ ⟨_, rfl, rfl⟩, fun ad h => .inl h, fun _ => rfl⟩
      · simp only [List.size_toArray, List.length_append, List.length_take, List.length_drop, Array.length_toList]
        omega
      · rw [htake, ← hlen]
        exact List.take_left
    · have hr := run_append_grow_src (P := P) w t tx ty e i z htu hi hz' (some ⟨g, 0, none⟩) n c xs (by
          have := run_firstCells_some (P := P) w.drew i.size n ⟨g, 0, none⟩ n c xs hown.1 (fun j u hu => by simpa using hown.cells (g := g) rfl j u hu)
          simpa using this) x m news hs (by omega) (by simp only [maxLen] at h63; omega) (hfit c (by omega))
      exact ⟨_, _, _, hr, grown c, hag _, fun ad h => .inr (by cases h; exact Nat.le_refl _), fun _ => rfl⟩
end
end Go.Wk
