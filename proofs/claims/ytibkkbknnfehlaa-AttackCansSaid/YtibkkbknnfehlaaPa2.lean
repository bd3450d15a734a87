/- 2: a part of this claim's texts, joined: W3 Octet SlicesT TermE TermF CloseA PlainName PlainSize. -/
import Derived.Test.YtibkkbknnfehlaaPa1
import Derived.Deep.AppendSrc
import Derived.Laws.MakeOwn
import Derived.Laws.BytesString
import Derived.MapKept
import Derived.ProofKit
import Derived.OpenShut
import Derived.Carry
import Derived.Deep.Slices
namespace Go.Wk
open Go
theorem Wd.swap {w0 M0 w w' fs} {pre post : List Item} {x y : Item} (h : Wd w0 M0 w (pre ++ x :: post) fs) (hxo : x.own = true) (ha : Agree x.foot w w') (hy : y.holds w')
    (hf : ∀ k, y.foot k → x.foot k ∨ w.heap.size ≤ k) (hlt : ∀ k, y.foot k → k < w'.heap.size)
    (hloc : ∀ w1 w2 : World, (∀ k, y.foot k → w2.heap[k]? = w1.heap[k]?) → y.holds w1 → y.holds w2) : Wd w0 M0 w' (pre ++ y :: post) fs := by
  have hm : x ∈ pre ++ x :: post := by simp
  have hap := List.pairwise_append.1 h.apart
  have hap2 := List.pairwise_cons.1 hap.2.1
  have hin : ∀ it, it ∈ pre ∨ it ∈ post → it ∈ pre ++ x :: post := fun it hi => by rcases hi with hi | hi <;> simp [hi]
  have hne : ∀ it, it ∈ pre ∨ it ∈ post → ∀ k, it.foot k → ¬ x.foot k := by
    rintro it (hi | hi) k hk hxk
    · exact hap.2.2 it hi x (by simp) k hk hxk
    · exact hap2.1 it hi k hxk hk
  have hney : ∀ it, it ∈ pre ∨ it ∈ post → ∀ k, it.foot k → ¬ y.foot k := fun it hi k hk hyk => by
    rcases hf k hyk with h1 | h1
    · exact hne it hi k hk h1
    · exact absurd (h.lt it (hin it hi) k hk) (by omega)
  have hkeep : ∀ it, it ∈ pre ∨ it ∈ post → it.holds w' := fun it hi =>
    h.loc it (hin it hi) w w' (fun k hk => ha.blk (h.lt it (hin it hi) k hk) (hne it hi k hk)) (h.held it (hin it hi))
  have mem' : ∀ it, it ∈ pre ++ y :: post → it = y ∨ it ∈ pre ∨ it ∈ post := fun it hi => by
    rcases List.mem_append.1 hi with hi | hi
    · exact .inr (.inl hi)
    · rcases List.mem_cons.1 hi with rfl | hi
      · exact .inl rfl
      · exact .inr (.inr hi)
  refine ⟨?_, ?_, ?_, ?_, ?_, ?_, ?_⟩
  · refine h.agree.trans' ha fun k hk hx => ?_
    rcases h.own _ hm hxo k hx with h1 | h1
    · exact h1
    · omega
  · intro it hi
    rcases mem' it hi with rfl | hi
    · exact hy
    · exact hkeep it hi
  · intro it hi k hk
    rcases mem' it hi with rfl | hi
    · exact hlt k hk
    · exact Nat.lt_of_lt_of_le (h.lt it (hin it hi) k hk) ha.size
  · intro it hi ho k hk
    rcases mem' it hi with rfl | hi
    · rcases hf k hk with h1 | h1
      · exact h.own _ hm hxo k h1
      · exact .inr (Nat.le_trans h.agree.size h1)
    · exact h.own it (hin it hi) ho k hk
  · refine List.pairwise_append.2 ⟨hap.1, List.pairwise_cons.2 ⟨fun it hi k hk hk' => hney it (.inr hi) k hk' hk, hap2.2⟩, fun a ha b hb => ?_⟩
    rcases List.mem_cons.1 hb with rfl | hb
    · exact fun k hk hk' => hney a (.inl ha) k hk hk'
    · exact hap.2.2 a ha b (by simp [hb])
  · intro Φ hΦ w'' hw''
    refine h.facts Φ hΦ w'' ⟨hw''.1.trans ha.1, hw''.2.1.trans ha.2.1, hw''.2.2.1.trans ha.2.2.1, Nat.le_trans ha.size hw''.size, fun k hk hn => ?_⟩
    have hnx : ¬ x.foot k := fun hx => hn ⟨x, hm, hx⟩
    rw [hw''.blk (Nat.lt_of_lt_of_le hk ha.size) ?_, ha.blk hk hnx]
    rintro ⟨it, hi, hik⟩
    rcases mem' it hi with rfl | hi
    · rcases hf k hik with h1 | h1
      · exact hnx h1
      · omega
    · exact hn ⟨it, hin it hi, hik⟩
  · intro it hi
    rcases mem' it hi with rfl | hi
    · exact hloc
    · exact h.loc it (hin it hi)
class ReplI (bs : List Item) (x y : Item) (bs' : outParam (List Item)) : Prop where
  ex : ∃ pre post, bs = pre ++ x :: post ∧ bs' = pre ++ y :: post
instance ri0 {x y : Item} {bs : List Item} : ReplI (x :: bs) x y (y :: bs) := ⟨[], bs, rfl, rfl⟩
instance (priority := 900) ri1 {x y u : Item} {bs bs' : List Item} [h : ReplI bs x y bs'] : ReplI (u :: bs) x y (u :: bs') := ⟨by
  obtain ⟨pre, post, e1, e2⟩ := h.ex; exact ⟨u :: pre, post, by rw [e1]; rfl, by rw [e2]; rfl⟩⟩
theorem Wd.more {w0 M0 w bs fs} {y : Item} (h : Wd w0 M0 w bs fs) (hy : y.holds w) (hn : ∀ k, y.foot k → w0.heap.size ≤ k) (hlt : ∀ k, y.foot k → k < w.heap.size) (hap : ∀ it ∈ bs, ∀ k, y.foot k → ¬ it.foot k)
    (hfs : ∀ Φ ∈ fs, Stable (foots (y :: bs)) w Φ) (hloc : ∀ w1 w2 : World, (∀ k, y.foot k → w2.heap[k]? = w1.heap[k]?) → y.holds w1 → y.holds w2) : Wd w0 M0 w (y :: bs) fs := by
  refine ⟨h.agree, ?_, ?_, ?_, List.pairwise_cons.2 ⟨hap, h.apart⟩, hfs, ?_⟩
  · intro it hi; exact (List.mem_cons.1 hi).elim (fun q => by subst q; exact hy) (fun hi => h.held it hi)
  · intro it hi; exact (List.mem_cons.1 hi).elim (fun q => by subst q; exact hlt) (fun hi => h.lt it hi)
  · intro it hi; exact (List.mem_cons.1 hi).elim (fun q => by subst q; exact fun _ k hk => .inr (hn k hk)) (fun hi => h.own it hi)
  · intro it hi; exact (List.mem_cons.1 hi).elim (fun q => by subst q; exact hloc) (fun hi => h.loc it hi)
class Enc (α : Type) where
  sz : Nat
  cells : α → List Value
  len : ∀ x, (cells x).length = sz
  one : ∀ x, ∀ u ∈ cells x, u.oneCell' = true
def encL {α : Type} [Enc α] (xs : List α) : List Value := xs.flatMap Enc.cells
theorem encL_nil {α : Type} [Enc α] : encL (α := α) [] = [] := rfl
theorem encL_cons {α : Type} [Enc α] (x : α) (xs : List α) : encL (x :: xs) = Enc.cells x ++ encL xs := by simp [encL]
theorem encL_append {α : Type} [Enc α] (xs ys : List α) : encL (xs ++ ys) = encL xs ++ encL ys := by simp [encL]
theorem encL_len {α : Type} [Enc α] (xs : List α) : (encL xs).length = xs.length * Enc.sz α := by
  induction xs with
  | nil => simp [encL]
  | cons x xs ih => rw [encL_cons, List.length_append, ih, Enc.len, List.length_cons, Nat.add_mul]; omega
theorem encL_one {α : Type} [Enc α] (xs : List α) : ∀ u ∈ encL xs, u.oneCell' = true := fun u hu => by
  obtain ⟨x, _, hx⟩ := List.mem_flatMap.1 hu
  exact Enc.one x u hx
theorem encL_get {α : Type} [Enc α] : ∀ (xs : List α) (k : Nat) (x : α), xs[k]? = some x → ∀ j, j < Enc.sz α → (encL xs)[k * Enc.sz α + j]? = (Enc.cells x)[j]?
  | [], k, x, h, j, hj => by simp at h
  | y :: ys, 0, x, h, j, hj => by
    simp at h; subst h
    rw [encL_cons, List.getElem?_append_left (by rw [Enc.len]; omega)]
    simp
  | y :: ys, k + 1, x, h, j, hj => by
    rw [encL_cons, List.getElem?_append_right (by rw [Enc.len, Nat.add_mul]; omega), Enc.len]
    have := encL_get ys k x (by simpa using h) j hj
    rw [← this]
    congr 1
    rw [Nat.add_mul]; omega
theorem encL_take {α : Type} [Enc α] (xs : List α) (m : Nat) : (encL xs).take (m * Enc.sz α) = encL (xs.take m) := by
  by_cases hm : m ≤ xs.length
  · conv => lhs; rw [← List.take_append_drop m xs, encL_append]
    rw [List.take_append_of_le_length (by rw [encL_len]; simp [hm]), List.take_of_length_le (by rw [encL_len]; simp [Nat.min_eq_left hm])]
  · rw [List.take_of_length_le (by rw [encL_len]; exact Nat.mul_le_mul_right _ (by omega)), List.take_of_length_le (by omega)]
instance encT : Enc LTerm := ⟨5, LTerm.cells, fun _ => rfl, fun x u hu => by
  simp only [LTerm.cells, List.mem_cons, List.not_mem_nil, or_false] at hu
  rcases hu with rfl | rfl | rfl | rfl | rfl <;> rfl⟩
instance encB : Enc UInt8 := ⟨1, fun b => [.int .u8 b.toNat], fun _ => rfl, fun x u hu => by obtain rfl := List.mem_singleton.1 hu; rfl⟩
instance encI : Enc Int := ⟨1, fun b => [.int .i64 b], fun _ => rfl, fun x u hu => by obtain rfl := List.mem_singleton.1 hu; rfl⟩
instance encS : Enc (List UInt8) := ⟨1, fun s => [str s], fun _ => rfl, fun x u hu => by obtain rfl := List.mem_singleton.1 hu; rfl⟩
def u8 (n : Int) : UInt8 := UInt8.ofNat (n % 256).toNat
theorem u8_wrap (n : Int) : IntKind.u8.wrap n = ((u8 n).toNat : Int) := by
  unfold IntKind.wrap u8
  simp only [IntKind.bits, IntKind.signed, Bool.false_and]
  rw [UInt8.toNat_ofNat']
  simp
  omega
class Dec {α : Type} [Enc α] (cs : List Value) (xs : outParam (List α)) : Prop where eq : cs = encL xs
class FlatR (xs : List Value) : Prop where all : ∀ u ∈ xs, u.oneCell' = true
instance flatR1 {α : Type} [Enc α] {xs : List α} : FlatR (encL xs) := ⟨encL_one xs⟩
class LenN {α : Type} (xs : List α) (n : Nat) : Prop where eq : xs.length = n
instance lenn {α : Type} {xs : List α} : LenN xs xs.length := ⟨rfl⟩
def row (e : TypeId) (sz : Nat) (p : Option Addr) (n c : Nat) (xs : List Value) : Item where
  foot := fun k => ∃ ad, p = some ad ∧ k = ad.block
  holds := fun w => w.ownsRow 0 e sz (.slice p n c) n xs
theorem row_loc (e : TypeId) (sz : Nat) (p : Option Addr) (n c : Nat) (xs : List Value) (w1 w2 : World) (h : ∀ k, (row e sz p n c xs).foot k → w2.heap[k]? = w1.heap[k]?) (h1 : (row e sz p n c xs).holds w1) : (row e sz p n c xs).holds w2 := by
  obtain ⟨h2, h3⟩ := h1
  refine ⟨h2, ?_⟩
  rcases h3 with h3 | ⟨g, cap, cur, hv, hb, hg, r⟩
  · exact .inl h3
  · refine .inr ⟨g, cap, cur, hv, hb, ?_, r⟩
    cases hv
    rw [h g ⟨_, rfl, rfl⟩]; exact hg
theorem row_foot_lt {e : TypeId} {sz : Nat} {p : Option Addr} {n c : Nat} {xs : List Value} {w : World} (h : (row e sz p n c xs).holds w) : ∀ k, (row e sz p n c xs).foot k → k < w.heap.size := by
  rintro k ⟨ad, rfl, rfl⟩
  rcases h.2 with ⟨h3, _⟩ | ⟨g, cap, cur, hv, _, hg, _⟩
  · cases h3
  · cases hv; exact (Array.getElem?_eq_some_iff.1 hg).1
class HasRow (bs : List Item) (p : Option Addr) (n : Nat) (e : outParam TypeId) (sz c : outParam Nat) (xs : outParam (List Value)) : Prop where mem : row e sz p n c xs ∈ bs
instance hr0 {e : TypeId} {sz : Nat} {p : Option Addr} {n c : Nat} {xs : List Value} {bs : List Item} : HasRow (row e sz p n c xs :: bs) p n e sz c xs := ⟨List.mem_cons_self ..⟩
instance (priority := 900) hr1 {e : TypeId} {sz : Nat} {p : Option Addr} {n c : Nat} {xs : List Value} {x : Item} {bs : List Item} [h : HasRow bs p n e sz c xs] : HasRow (x :: bs) p n e sz c xs := ⟨List.mem_cons_of_mem _ h.mem⟩
section
variable {P : Program} {r : Option Nat} {ops : Array Oper} {Q : Exit → Act → World → Prop} {w0 : World} {M0 : Nat → Prop} {ds : List Deferred} {a : Act} {w : World} {l : List Value} {bs bs' : List Item} {fs : List (World → Prop)}
  {d : Option Nat} {op : Op} {ty : TypeId} {pos : String} {af : Array Edge} {rest : List Oper} {v : Value} {e : TypeId} {sz : Nat} {p : Option Addr} {n c : Nat} {xs : List Value}
theorem St.row (S : St w0 M0 ds a w l bs fs) (p : Option Addr) (n : Nat) {e : TypeId} {sz c : Nat} {xs : List Value} [h : HasRow bs p n e sz c xs] : w.ownsRow 0 e sz (.slice p n c) n xs := S.wd.held _ h.mem
theorem St.addNil (S : St w0 M0 ds a w l bs fs) (e : TypeId) (sz : Nat) : St w0 M0 ds a w l (Wk.row e sz none 0 0 [] :: bs) fs := by
  have hf : ∀ k, ¬ (Wk.row e sz none 0 0 []).foot k := fun k ⟨ad, h, _⟩ => by cases h
  refine ⟨S.slots, S.defers, S.wd.more (World.ownsRow_nil _ _ _ _) (fun k hk => absurd hk (hf k)) (fun k hk => absurd hk (hf k)) (fun _ _ k hk => absurd hk (hf k)) (fun Φ hΦ => ?_) (row_loc _ _ _ _ _ _)⟩
  refine (S.wd.facts Φ hΦ).less fun k _ ⟨it, hi, hk⟩ => ?_
  rcases List.mem_cons.1 hi with rfl | hi
  · exact absurd hk (hf k)
  · exact ⟨it, hi, hk⟩
theorem run_append_row {w : World} {t tx ty : TypeId} {z : Value} {by_ m : Nat} {x : Value} {news : List Value} [ht : Und P t (.slice e)] [hti : TI P e z sz by_] (hz : z.cells.size = sz) (hown : w.ownsRow 0 e sz (.slice p n c) n xs)
    (hs : Src P sz tx x m news w) (h63 : n + m ≤ maxLen) (hb : (n + m) * by_ ≤ 140737488355328) :
    ∃ p' c' w', (Builtin.append_ #[t, tx] ty #[.slice p n c, x]).run P w = .ok (.slice p' (n + m) c') w' ∧ w'.ownsRow 0 e sz (.slice p' (n + m) c') (n + m) (xs ++ news) ∧
      Agree (fun k => ∃ ad, p = some ad ∧ k = ad.block) w w' ∧ (∀ ad, p' = some ad → (p = some ad) ∨ w.heap.size ≤ ad.block) ∧ (0 < m → p'.isSome) := by
  obtain ⟨i, hi, hz', hsize, hby⟩ := hti.ex
  subst hsize hby
  have htu := ht.eq
  have hlen : (xs ++ news).length = (n + m) * i.size := by rw [List.length_append, hown.1, hs.newsLen, Nat.add_mul]
  have hfit : ∀ old, old < n + m → Builtin.nextslicecap (n + m) old * i.bytes ≤ 281474976710656 := fun old ho => growslice_fits ho hb
  have hcells : ∀ old, ((xs ++ news).toArray ++ Builtin.zeroCells z.cells (grownCap w (n + m) old e - (n + m))).size = grownCap w (n + m) old e * i.size := fun old => by
    have := grownCap_ge w (n + m) old e
    rw [Array.size_append, size_zeroCells, hz, List.size_toArray, hlen, ← Nat.add_mul]
    congr 1; omega
  have grown : ∀ old, (w.drew.alloc (.cells ((xs ++ news).toArray ++ Builtin.zeroCells z.cells (grownCap w (n + m) old e - (n + m))) e)).ownsRow 0 e i.size (.slice (some ⟨w.heap.size, 0, none⟩) (n + m) (grownCap w (n + m) old e)) (n + m) (xs ++ news) := fun old => by
    refine ⟨hlen, .inr ⟨w.heap.size, _, _, rfl, Nat.zero_le _, heap_alloc_new w.drew _, grownCap_ge _ _ _ _, grownCap_le_maxLen w (n + m) old e h63, hcells old, ?_⟩⟩
    rw [← hlen, Array.toList_append]
    exact List.take_left
  have hag : ∀ o, Agree (fun k => ∃ ad, p = some ad ∧ k = ad.block) w (w.drew.alloc o) := fun o => (Agree.drawn _ w _).trans (Agree.alloc _ w.drew o)
  rcases hown.2 with ⟨hv, rfl⟩ | ⟨g, cap, cur, hv, hbg, hg, hnc, hcm, hcs, htake⟩
  · cases hv
    have hx : xs = [] := List.eq_nil_of_length_eq_zero (by simpa using hown.1)
    subst hx
    by_cases hm : m = 0
    · subst hm
      have hn : news = [] := List.eq_nil_of_length_eq_zero (by simpa using hs.newsLen)
      subst hn
      refine ⟨none, 0, w, ?_, World.ownsRow_nil w _ _ _, Agree.refl _ _, (fun _ h => by cases h), (fun h => absurd h (by omega))⟩
      rcases hs.kind with ⟨e', hk⟩ | hk <;> simp [Builtin.append_, run_underlying htu, run_underlying hk, sizeOf, typeInfo, hi, hs.len, hs.cells]
    · have hr := run_append_grow_src (P := P) w t tx ty e i z htu hi hz' none 0 0 [] (by simp [Builtin.firstCells]) x m news hs (by omega) (by simp only [maxLen] at h63; omega) (hfit 0 (by omega))
      exact ⟨_, _, _, hr, grown 0, hag _, fun ad h => .inr (by cases h; exact Nat.le_refl _), fun _ => rfl⟩
  · cases hv
    by_cases hroom : n + m ≤ c
    · have hb0 : ∀ j, j < news.length → n * i.size + j < cur.size := fun j hj => by
        have := Nat.mul_le_mul_right i.size hroom
        rw [hs.newsLen] at hj
        rw [hcs]
        have e1 := Nat.add_mul n m i.size
        omega
      have hcell : ∀ j, w.cell? ⟨g, j, none⟩ = cur[j]? := fun j => cell_of_row w g j cur e (0, 0) hg
      have hr := run_append_room_src (P := P) w t tx ty e i htu hi g 0 n c x m news hs hroom
        (fun j hj => by simp only [Nat.zero_add]; rw [hcell]; simpa using hb0 j hj)
        (fun j hj => by simp [World.frozen?, hg])
      simp only [Nat.zero_add] at hr
      have hfit2 : n * i.size + news.length ≤ cur.size := by
        have := Nat.mul_le_mul_right i.size hroom
        rw [hs.newsLen, hcs, ← Nat.add_mul]; exact this
      have hsc : w.setCells g (n * i.size) news = w.setRow g (cur.toList.take (n * i.size) ++ news ++ cur.toList.drop (n * i.size + news.length)).toArray := by
        have h1 := run_storeCells_cells (P := P) g (n * i.size) news 0 w (fun j hj => by rw [hcell]; simpa using hb0 j hj) (fun j hj => by simp [World.frozen?, hg]) hs.one
        have h2 := run_storeCells_at (P := P) g (n * i.size) e news 0 cur w hg (by simpa using hfit2) hs.one
        rw [h1] at h2
        simp only [Nat.add_zero] at h2
        injection h2
      rw [hsc] at hr
      refine ⟨_, _, _, hr, ⟨hlen, .inr ⟨g, c, _, rfl, Nat.zero_le _, setRow_heap w g cur _ e _ hg, hroom, hcm, ?_, ?_⟩⟩, Agree.setRow w g _ ⟨_, rfl, rfl⟩, fun ad h => .inl h, fun _ => rfl⟩
      · simp only [List.size_toArray, List.length_append, List.length_take, List.length_drop, Array.length_toList]
        omega
      · rw [htake, ← hlen]
        exact List.take_left
    · have hr := run_append_grow_src (P := P) w t tx ty e i z htu hi hz' (some ⟨g, 0, none⟩) n c xs (by
          have := run_firstCells_some (P := P) w.drew i.size n ⟨g, 0, none⟩ n c xs hown.1 (fun j u hu => by simpa using hown.cells (g := g) rfl j u hu)
          simpa using this) x m news hs (by omega) (by simp only [maxLen] at h63; omega) (hfit c (by omega))
      exact ⟨_, _, _, hr, grown c, hag _, fun ad h => .inr (by cases h; exact Nat.le_refl _), fun _ => rfl⟩
end
class SrcV (P : Program) (tx : TypeId) (x : Value) (bs : List Item) (fs : List (World → Prop)) (sz : Nat) (m : outParam Nat) (news : outParam (List Value)) : Prop where
  src : ∀ w, Mem w bs fs → Src P sz tx x m news w
instance srcStr {P : Program} {tx : TypeId} {s : List UInt8} {bs : List Item} {fs : List (World → Prop)} [h : Und P tx .string] : SrcV P tx (str s) bs fs 1 s.length (encL s) := ⟨fun w _ => by
  have e := Src.ofString (P := P) w (tx := tx) h.eq ⟨s.toArray⟩
  have h1 : byteCells ⟨s.toArray⟩ = encL s := by
    clear e
    show s.map _ = s.flatMap _
    induction s with
    | nil => rfl
    | cons x xs ih => rw [List.map_cons, List.flatMap_cons, ih]; rfl
  rw [h1] at e
  exact e⟩
theorem encT_cells {t : LTerm} : encL [t] = t.cells := by simp [encL]; rfl
class TakeC (cs : List Value) (n : Nat) (vs : outParam (List Value)) : Prop where eq : cs.take n = vs ∧ vs.length = n
instance srcBox {P : Program} {tx e : TypeId} {b m c sz n : Nat} {t : TypeId} {cs : List Value} {bs : List Item} {fs : List (World → Prop)} [h : Und P tx (.slice e)] [hb : HasBox bs b t cs] [hm : MulN m sz n] [hl : LenIs cs n] [hf : Flat cs] :
    SrcV P tx (.slice (some ⟨b, 0, none⟩) m c) bs fs sz m cs := ⟨fun w mm => Src.ofSlice w h.eq _ _ _ _ (by rw [hl.eq, hm.eq]) (fun j u hj => by
      have hj' : j < cs.length := (List.getElem?_eq_some_iff.1 hj).1
      have e : (⟨b, 0, none⟩ : Addr).add j = ⟨b, j, none⟩ := by unfold Addr.add; split <;> simp_all
      rw [e, cell_of_row w b j cs.toArray t (0, 0) mm.box]
      simpa using hj) hf.all⟩
theorem lsIn_cells {w : World} {p : Option Addr} {xs : List LTerm} (h : LsIn w p 0 xs) {ad : Addr} (hp : p = some ad) : ∀ j u, (encL xs)[j]? = some u → w.cell? (ad.add j) = some u := by
  intro j u hj
  have hlt : j < xs.length * 5 := by
    have := (List.getElem?_eq_some_iff.1 hj).1
    rw [encL_len] at this; exact this
  have hk : j / 5 < xs.length := by omega
  obtain ⟨ad', hp', hc⟩ := (h.get (nth_get hk)).1
  rw [hp] at hp'
  cases hp'
  have := encL_get xs (j / 5) _ (nth_get hk) (j % 5) (Nat.mod_lt _ (by decide))
  have e : j / 5 * Enc.sz LTerm + j % 5 = j := by show j / 5 * 5 + j % 5 = j; omega
  rw [e, hj] at this
  have := hc (j % 5) u this.symm
  rw [show (0 + j / 5) * 5 + j % 5 = j from by omega] at this
  exact this
instance (priority := 800) srcLs {P : Program} {tx e : TypeId} {p : Option Addr} {m c : Nat} {xs : List LTerm} {bs : List Item} {fs : List (World → Prop)} [h : Und P tx (.slice e)] [hl : HasLs fs p xs] [hn : LenN xs m] :
    SrcV P tx (.slice p m c) bs fs 5 m (encL xs) := ⟨fun w mm => by
  have hs := (hl.of _ _ mm.facts).now
  have hm := hn.eq
  subst hm
  cases hp : p with
  | none =>
    have : xs = [] := by
      cases xs with
      | nil => rfl
      | cons x xs => obtain ⟨⟨ad, h0, _⟩, _⟩ := hs; rw [hp] at h0; cases h0
    subst this
    exact Src.ofNil w h.eq c
  | some ad => exact Src.ofSlice w h.eq _ _ _ _ (by rw [encL_len]; rfl) (lsIn_cells hs hp) (encL_one xs)⟩
section
variable {P : Program} {r : Option Nat} {ops : Array Oper} {Q : Exit → Act → World → Prop} {w0 : World} {M0 : Nat → Prop} {ds : List Deferred} {a : Act} {w : World} {l : List Value} {bs : List Item} {fs : List (World → Prop)}
  {d : Option Nat} {op : Op} {ty : TypeId} {pos : String} {af : Array Edge} {rest : List Oper} {v : Value} {e : TypeId} {sz : Nat} {p : Option Addr} {n c : Nat} {xs : List Value}
theorem sap {x y : Operand} {t tx : TypeId} {z : Value} {by_ m : Nat} {xv : Value} {news : List Value} {l' : Option Addr → Nat → List Value} {bs' : Option Addr → Nat → List Item} (S : St w0 M0 ds a w l bs fs)
    [Ev ⟨[], l⟩ x (.slice p n c)] [Ev ⟨[], l⟩ y xv] [ht : Und P t (.slice e)] [hti : TI P e z sz by_] {zc : List Value} [hzc : Cells z zc] [hzl : LenIs zc sz] [hr : HasRow bs p n e sz c xs] [hs : SrcV P tx xv bs fs sz m news]
    [hp : ∀ p' c', PutO l d (.slice p' (n + m) c') (l' p' c')] [hrep : ∀ p' c', ReplI bs (row e sz p n c xs) (row e sz p' (n + m) c' (xs ++ news)) (bs' p' c')]
    (h63 : n + m ≤ maxLen) (hb : (n + m) * by_ ≤ 140737488355328)
    (K : ∀ p' c' a w, (0 < m → ∃ g, p' = some ⟨g, 0, none⟩) → St w0 M0 ds a w (l' p' c') (bs' p' c') fs → WL P r ops Q rest a w) :
    WL P r ops Q (⟨d, .call { callee := .builtin .append, args := #[x, y], argTypes := #[t, tx] }, ty, pos, af, none⟩ :: rest) a w := by
  refine wl_plain rfl ?_
  rw [semAt_nd rfl]
  obtain ⟨p', c', w', hrun, hown, hag, hnew, hsome⟩ := run_append_row (P := P) (w := w) (t := t) (tx := tx) (ty := ty) (z := z) (by_ := by_) (m := m) (x := xv) (news := news) (by rw [← Array.length_toList, hzc.eq, hzl.eq]) (S.row p n) (hs.src w S.wd.mem) h63 hb
  have e1 : (xop a.eval (.call { callee := .builtin .append, args := #[x, y], argTypes := #[t, tx] }) ty).run P w = .ok (.value (.slice p' (n + m) c')) w' := by
    simp [xop, execOp, resolve, invoke, builtin, S.fr.ev (x := x) (v := .slice p n c), S.fr.ev (x := y) (v := xv), hrun]
  simp only [e1, Oper.uponIn]
  have := hp p' c'
  have S' := S.put (d := d) (v := .slice p' (n + m) c')
  obtain ⟨pre, post, q1, q2⟩ := (hrep p' c').ex
  have hwd := S'.wd
  rw [q1] at hwd
  refine K p' c' _ w' (fun hm => ?_) ⟨S'.slots, S'.defers, ?_⟩
  · rcases hown.2 with ⟨hv, h0⟩ | ⟨g, cap, cur, hv, _⟩
    · omega
    · cases hv; exact ⟨g, rfl⟩
  · rw [q2]
    refine hwd.swap rfl hag hown (fun k ⟨ad, h1, h2⟩ => ?_) (row_foot_lt hown) (row_loc _ _ _ _ _ _)
    rcases hnew ad h1 with h3 | h3
    · exact .inl ⟨ad, h3, h2⟩
    · exact .inr (h2 ▸ h3)
theorem St.boxRow {bs' : List Item} (S : St w0 M0 ds a w l bs fs) (b : Nat) (sz m : Nat) {t : TypeId} {cs : List Value} [HasBox bs b t cs] [hr : ReplI bs (Wk.box b t cs) (Wk.row t sz (some ⟨b, 0, none⟩) m m cs) bs'] (hl : cs.length = m * sz) (hm : m ≤ maxLen) : St w0 M0 ds a w l bs' fs := by
  obtain ⟨pre, post, q1, q2⟩ := hr.ex
  have hwd := S.wd
  have hb := S.box b
  rw [q1] at hwd
  refine ⟨S.slots, S.defers, ?_⟩
  have hown : (Wk.row t sz (some ⟨b, 0, none⟩) m m cs).holds w := ⟨hl, .inr ⟨b, m, _, rfl, Nat.zero_le _, hb, Nat.le_refl _, hm, by simpa using hl, by simp [← hl]⟩⟩
  rw [q2]
  exact hwd.swap rfl (Agree.refl _ _) hown (fun k ⟨ad, h1, h2⟩ => .inl (by cases h1; exact h2)) (row_foot_lt hown) (row_loc _ _ _ _ _ _)
theorem Wd.addRow {w' : World} (hold : Wd w0 M0 w bs fs) (hw : Grow w w') {p : Option Addr} {n c : Nat} {e : TypeId} {sz : Nat} {xs : List Value} (h : w'.ownsRow 0 e sz (.slice p n c) n xs) (hn : ∀ ad, p = some ad → w.heap.size ≤ ad.block) :
    Wd w0 M0 w' (Wk.row e sz p n c xs :: bs) fs := by
  have hfoot : ∀ k, (Wk.row e sz p n c xs).foot k → w.heap.size ≤ k := fun k ⟨ad, h1, h2⟩ => h2 ▸ hn ad h1
  refine (hold.step hw).more h (fun k hk => Nat.le_trans hold.agree.size (hfoot k hk)) (row_foot_lt h) (fun it hi k hk hk' => absurd (hold.lt it hi k hk') (by have := hfoot k hk; omega)) (fun Φ hΦ w'' hw'' => ?_) (row_loc _ _ _ _ _ _)
  refine hold.facts Φ hΦ w'' ((hw.mono (fun _ _ h => h.elim)).trans' hw'' fun i hi ⟨it, hm, hk⟩ => ?_)
  rcases List.mem_cons.1 hm with rfl | hm
  · exact absurd (hfoot i hk) (by omega)
  · exact ⟨it, hm, hk⟩
variable {f : Nat} {x : Operand} {ys : List Operand} {args : List Value} {ts : Array TypeId}
theorem srn {l' : Value → List Value} [EntF P f] [CallTo ⟨[], l⟩ x ys f args] [hp : ∀ v, PutO l d v (l' v)] (S : St w0 M0 ds a w l bs fs) {R : Value → World → Prop} (hc : Ret P f args w (fun _ => False) R)
    (K : ∀ v a w', R v w' → (∀ {p : Option Addr} {n c : Nat} {e : TypeId} {sz : Nat} {xs : List Value}, w'.ownsRow 0 e sz (.slice p n c) n xs → (∀ ad, p = some ad → w.heap.size ≤ ad.block) → St w0 M0 ds a w' (l' v) (Wk.row e sz p n c xs :: bs) fs) → St w0 M0 ds a w' (l' v) bs fs → WL P r ops Q rest a w') :
    WL P r ops Q (⟨d, .call { callee := .value x, args := ys.toArray, argTypes := ts }, ty, pos, af, none⟩ :: rest) a w := by
  refine cv_any S hc ?_
  rintro e w' ⟨v, rfl, ha, hR⟩
  have := hp v
  have S' := S.put (d := d) (v := v)
  exact ⟨v, rfl, K v _ w' hR (fun h hn => ⟨S'.slots, S'.defers, S'.wd.addRow ha h hn⟩) ⟨S'.slots, S'.defers, S'.wd.step ha⟩⟩
theorem sri {l' : Value → List Value} (it : Item) [EntF P f] [CallTo ⟨[], l⟩ x ys f args] [hp : ∀ v, PutO l d v (l' v)] (S : St w0 M0 ds a w l bs fs) {R : Value → World → Prop} (hc : Ret P f args w it.foot R) (ho : it.own = true)
    (K : ∀ v a w', R v w' → (∀ (y : Item) (bs' : List Item), ReplI bs it y bs' → y.holds w' → (∀ k, y.foot k → it.foot k ∨ w.heap.size ≤ k) → (∀ k, y.foot k → k < w'.heap.size) → (∀ w1 w2 : World, (∀ k, y.foot k → w2.heap[k]? = w1.heap[k]?) → y.holds w1 → y.holds w2) → St w0 M0 ds a w' (l' v) bs' fs) → WL P r ops Q rest a w') :
    WL P r ops Q (⟨d, .call { callee := .value x, args := ys.toArray, argTypes := ts }, ty, pos, af, none⟩ :: rest) a w := by
  refine cv_any S hc ?_
  rintro e w' ⟨v, rfl, ha, hR⟩
  have := hp v
  have S' := S.put (d := d) (v := v)
  refine ⟨v, rfl, K v _ w' hR fun y bs' hr hy hf hlt hloc => ⟨S'.slots, S'.defers, ?_⟩⟩
  obtain ⟨pre, post, q1, q2⟩ := hr.ex
  have hwd := S'.wd
  rw [q1] at hwd
  rw [q2]
  exact hwd.swap ho ha hy hf hlt hloc
theorem srg {l' : Value → List Value} (p : Option Addr) (n : Nat) {e : TypeId} {sz c : Nat} {xs : List Value} [HasRow bs p n e sz c xs] [EntF P f] [CallTo ⟨[], l⟩ x ys f args] [hp : ∀ v, PutO l d v (l' v)] (S : St w0 M0 ds a w l bs fs) {R : Value → World → Prop} (hc : Ret P f args w (fun k => ∃ ad, p = some ad ∧ k = ad.block) R)
    (K : ∀ v a w', R v w' → (∀ {p' : Option Addr} {n' c' : Nat} {xs' : List Value} (bs' : List Item) [ReplI bs (Wk.row e sz p n c xs) (Wk.row e sz p' n' c' xs') bs'], w'.ownsRow 0 e sz (.slice p' n' c') n' xs' → (∀ ad, p' = some ad → (∃ ad', p = some ad' ∧ ad.block = ad'.block) ∨ w.heap.size ≤ ad.block) → St w0 M0 ds a w' (l' v) bs' fs) → WL P r ops Q rest a w') :
    WL P r ops Q (⟨d, .call { callee := .value x, args := ys.toArray, argTypes := ts }, ty, pos, af, none⟩ :: rest) a w :=
  sri (Wk.row e sz p n c xs) S hc rfl fun v a w' hR hS => K v a w' hR fun bs' hr h hf => hS _ bs' hr h (fun _k ⟨ad, h1, h2⟩ => (hf ad h1).imp (fun ⟨ad', h3, h4⟩ => ⟨ad', h3, h2.trans h4⟩) (fun h3 => h2 ▸ h3)) (row_foot_lt h) (row_loc _ _ _ _ _ _)
theorem Wd.rowLent {w : World} {p : Option Addr} {n c : Nat} {e : TypeId} {sz : Nat} {xs : List Value} {fs : List (World → Prop)} (h : w.ownsRow 0 e sz (.slice p n c) n xs) (hf : ∀ Φ ∈ fs, Stable (fun k => ∃ ad, p = some ad ∧ k = ad.block) w Φ) :
    Wd w (fun k => ∃ ad, p = some ad ∧ k = ad.block) w [Wk.row e sz p n c xs] fs := by
  refine ⟨Agree.refl _ _, ?_, ?_, ?_, by simp, ?_, ?_⟩
  · intro it hi; obtain rfl := List.mem_singleton.1 hi; exact h
  · intro it hi; obtain rfl := List.mem_singleton.1 hi; exact row_foot_lt h
  · intro it hi _ k hk; obtain rfl := List.mem_singleton.1 hi; exact .inl hk
  · intro Φ hΦ
    refine (hf Φ hΦ).less fun k _ hk => ?_
    obtain ⟨it, hi, hk⟩ := hk
    obtain rfl := List.mem_singleton.1 hi; exact hk
  · intro it hi; obtain rfl := List.mem_singleton.1 hi; exact row_loc _ _ _ _ _ _
theorem St.rowNew (S : St w0 M0 ds a w l bs fs) (p : Option Addr) (n : Nat) {e : TypeId} {sz c : Nat} {xs : List Value} [h : HasRow bs p n e sz c xs] : ∀ ad, p = some ad → M0 ad.block ∨ w0.heap.size ≤ ad.block := fun ad hp => S.wd.own _ h.mem rfl _ ⟨ad, hp, rfl⟩
end
def rAddr (p : Option Addr) (o : Nat) : Addr := (p.getD ⟨0, 0, none⟩).add o
theorem own_cells {w : World} {e : TypeId} {sz : Nat} {p : Option Addr} {n c : Nat} {xs : List Value} (h : w.ownsRow 0 e sz (.slice p n c) n xs) (hn : 0 < n) : ∃ g cur, p = some ⟨g, 0, none⟩ ∧ w.heap[g]? = some (.cells cur e (0, 0)) ∧ n ≤ c ∧ cur.size = c * sz ∧ cur.toList.take (n * sz) = xs ∧ c ≤ maxLen := by
  rcases h.2 with ⟨_, h0⟩ | ⟨g, cap, cur, hv, _, hg, hnc, hcm, hcs, ht⟩
  · omega
  · cases hv; exact ⟨g, cur, rfl, hg, hnc, hcs, ht, hcm⟩
theorem add_lit (g j : Nat) : (⟨g, 0, none⟩ : Addr).add j = ⟨g, j, none⟩ := by unfold Addr.add; split <;> simp_all
theorem own_cell {w : World} {e : TypeId} {sz : Nat} {p : Option Addr} {n c : Nat} {xs : List Value} (h : w.ownsRow 0 e sz (.slice p n c) n xs) {o j : Nat} {u : Value} (hj : xs[o + j]? = some u) : w.cell? ((rAddr p o).add j) = some u := by
  have hlt : o + j < n * sz := by rw [← h.1]; exact (List.getElem?_eq_some_iff.1 hj).1
  have hn : 0 < n := by rcases Nat.eq_zero_or_pos n with h0 | h0; · subst h0; simp at hlt
                        · exact h0
  obtain ⟨g, cur, rfl, hg, _, _, ht, _⟩ := own_cells h hn
  simp only [rAddr, Option.getD_some]
  rw [add_add, add_lit, cell_of_row w g (o + j) cur e (0, 0) hg, ← Array.getElem?_toList]
  rw [← ht, List.getElem?_take] at hj
  rw [if_pos hlt] at hj
  exact hj
theorem take_set (l vs : List Value) (N o : Nat) (h : o + vs.length ≤ N) (hN : N ≤ l.length) : (l.take o ++ vs ++ l.drop (o + vs.length)).take N = (l.take N).take o ++ vs ++ (l.take N).drop (o + vs.length) := by
  have e1 : (l.take o ++ vs).length = o + vs.length := by simp; omega
  rw [List.take_append, e1, List.take_of_length_le (by omega), List.take_take, Nat.min_eq_left (by omega), List.drop_take]
section
variable {P : Program} {r : Option Nat} {ops : Array Oper} {Q : Exit → Act → World → Prop} {w0 : World} {M0 : Nat → Prop} {ds : List Deferred} {a : Act} {w : World} {l l' : List Value} {bs bs' : List Item} {fs : List (World → Prop)}
  {d : Option Nat} {op : Op} {t ty : TypeId} {pos : String} {af : Array Edge} {rest : List Oper} {v z : Value} {e : TypeId} {sz by_ : Nat} {p : Option Addr} {n c k : Nat} {xs : List Value} {x y : Operand} {kk : IntKind} {m : Int} {lc : Cx}
instance (priority := 950) opIdxR [Ev lc x (.slice p n c)] [Ev lc y (.int kk m)] [Und P t (.slice e)] [TI P e z sz by_] [hm : IsNat m k] {e' : TypeId} {sz' : Nat} [hr : HasRow bs p n e' sz' c xs] [hk : KLt k n] {o : Nat} [hmul : MulN k sz o] :
    OpQ P (.indexAddr t x y) ty lc bs fs (.pointer (some (rAddr p o))) := ⟨fun ρ w h mm => by
  have hrow : w.ownsRow 0 e' sz' (.slice p n c) n xs := mm.held _ hr.mem
  have hlt := hk.lt
  obtain ⟨g, cur, rfl, _⟩ := own_cells hrow (by omega)
  have h2 := hm.eq
  subst h2
  simp [xop, execOp, h.ev (x := x) (v := .slice (some ⟨g, 0, none⟩) n c), h.ev (x := y) (v := .int kk (k : Int))]
  simp [run_indexAt (P := P) (t := t) (e := e) (z := z) (sz := sz) (by_ := by_) (Int.natCast_nonneg k) (Int.ofNat_lt.2 hlt), rAddr, hmul.eq]⟩
theorem slrA {o : Nat} (vs : List Value) (S : St w0 M0 ds a w l bs fs) [Ev ⟨[], l⟩ x (.pointer (some (rAddr p o)))] [ha : AggT P t true] [TI P t z sz by_] [hl : LenIs vs sz] [hp : PutO l d (.agg ⟨vs⟩) l']
    (n : Nat) {e' : TypeId} {sz' c : Nat} {xs : List Value} [hr : HasRow bs p n e' sz' c xs] (h : ∀ j v, vs[j]? = some v → xs[o + j]? = some v) (K : ∀ a, St w0 M0 ds a w l' bs fs → WL P r ops Q rest a w) : WL P r ops Q (⟨d, .load t x, ty, pos, af, none⟩ :: rest) a w :=
  slA vs S (fun j v hj => own_cell (S.row p n) (h j v hj)) K
theorem slr1 {o : Nat} (v : Value) (S : St w0 M0 ds a w l bs fs) [Ev ⟨[], l⟩ x (.pointer (some (rAddr p o)))] [ha : AggT P t false] [hp : PutO l d v l']
    (n : Nat) {e' : TypeId} {sz' c : Nat} {xs : List Value} [hr : HasRow bs p n e' sz' c xs] (h : xs[o]? = some v) (K : ∀ a, St w0 M0 ds a w l' bs fs → WL P r ops Q rest a w) : WL P r ops Q (⟨d, .load t x, ty, pos, af, none⟩ :: rest) a w :=
  sl1 v S (by have := own_cell (S.row p n) (o := o) (j := 0) (by simpa using h); simpa [Addr.add] using this) K
theorem St.reput {bs' : List Item} {w' : World} {x y : Item} (S : St w0 M0 ds a w l bs fs) {a' : Act} {l' : List Value} (hs : a'.tmps = l'.toArray) (hd : a'.defers = ds) [hr : ReplI bs x y bs'] (hxo : x.own = true) (ha : Agree x.foot w w') (hy : y.holds w')
    (hf : ∀ k, y.foot k → x.foot k ∨ w.heap.size ≤ k) (hlt : ∀ k, y.foot k → k < w'.heap.size) (hloc : ∀ w1 w2 : World, (∀ k, y.foot k → w2.heap[k]? = w1.heap[k]?) → y.holds w1 → y.holds w2) : St w0 M0 ds a' w' l' bs' fs := by
  obtain ⟨pre, post, q1, q2⟩ := hr.ex
  have hwd := S.wd
  rw [q1] at hwd
  exact ⟨hs, hd, by rw [q2]; exact hwd.swap hxo ha hy hf hlt hloc⟩
theorem own_set {w : World} (h : w.ownsRow 0 e sz (.slice p n c) n xs) {g o : Nat} {vs : List Value} (hp : p = some ⟨g, 0, none⟩) (ho : o + vs.length ≤ n * sz) (hv : ∀ u ∈ vs, u.oneCell' = true) :
    ∃ w', (storeCells ⟨g, o, none⟩ vs).run P w = .ok () w' ∧ Agree (fun k => ∃ ad, p = some ad ∧ k = ad.block) w w' ∧ w'.ownsRow 0 e sz (.slice p n c) n (xs.take o ++ vs ++ xs.drop (o + vs.length)) := by
  subst hp
  rcases h.2 with ⟨hv, _⟩ | ⟨g', cap, cur, hv', hb, hg, hnc, hcm, hcs, ht⟩
  · cases hv
  · cases hv'
    have hle : o + vs.length ≤ cur.size := by
      have := Nat.mul_le_mul_right sz hnc
      rw [hcs]; omega
    have hrun := run_storeCells_at (P := P) g o e vs 0 cur w hg (by simpa using hle) hv
    simp only [Nat.add_zero] at hrun
    refine ⟨_, hrun, Agree.setRow w g _ ⟨_, rfl, rfl⟩, ?_, .inr ⟨g, c, _, rfl, hb, setRow_heap w g cur _ e _ hg, hnc, hcm, ?_, ?_⟩⟩
    · have h1 := h.1
      simp only [List.length_append, List.length_take, List.length_drop]
      omega
    · simp only [List.size_toArray, List.length_append, List.length_take, List.length_drop, Array.length_toList]
      omega
    · have hcl : n * sz ≤ cur.toList.length := by rw [Array.length_toList, hcs]; exact Nat.mul_le_mul_right sz hnc
      rw [← ht]
      exact take_set _ _ _ _ ho hcl
theorem sws {o sz0 : Nat} {vs : List Value} (S : St w0 M0 ds a w l bs fs) [Ev ⟨[], l⟩ x (.pointer (some (rAddr p o)))] [Ev ⟨[], l⟩ y v] [hc : Cells v vs] [TI P t z sz0 by_] [hl : LenIs vs sz0] [hf : Flat vs]
    (n : Nat) {e : TypeId} {sz c : Nat} {xs : List Value} [hr : HasRow bs p n e sz c xs] [hrep : ReplI bs (row e sz p n c xs) (row e sz p n c (xs.take o ++ vs ++ xs.drop (o + vs.length))) bs'] [hp : PutO l d undef l'] (hn : 0 < n) (ho : o + sz0 ≤ n * sz)
    (K : ∀ a w, St w0 M0 ds a w l' bs' fs → WL P r ops Q rest a w) : WL P r ops Q (⟨d, .store t x y, ty, pos, af, none⟩ :: rest) a w := by
  refine wl_plain rfl ?_
  rw [semAt_nd rfl]
  have hrow := S.row p n
  obtain ⟨g, cur, hpp, _⟩ := own_cells hrow hn
  obtain ⟨w', hrun, hag, hown⟩ := own_set (P := P) hrow (vs := vs) hpp (by rw [hl.eq]; exact ho) hf.all
  have hcs : v.cells = vs.toArray := by rw [← hc.eq]
  have e1 : (xop a.eval (.store t x y) ty).run P w = .ok .skip w' := by
    have : rAddr p o = ⟨g, o, none⟩ := by rw [hpp]; simp [rAddr, add_lit]
    have hx := S.fr.ev (x := x) (v := .pointer (some (rAddr p o)))
    rw [this] at hx
    simp [xop, execOp, Instr.storeAt, hx, S.fr.ev (x := y) (v := v), Instr.sureAddr, storeVar, run_size, Sem.run_bind, hcs, hl.eq, hrun]
  simp only [e1, Oper.uponIn]
  have S' := S.put (d := d) (v := undef) (l' := l')
  exact K _ _ (S.reput (x := row e sz p n c xs) (y := row e sz p n c (xs.take o ++ vs ++ xs.drop (o + vs.length))) S'.slots S'.defers rfl hag hown (fun k h => .inl h) (row_foot_lt hown) (row_loc _ _ _ _ _ _))
theorem scut {m : Nat} {mi : Int} (S : St w0 M0 ds a w l bs fs) [Ev ⟨[], l⟩ x (.slice p n c)] [Ev ⟨[], l⟩ y (.int kk mi)] [hm : IsNat mi m] [Und P t (.slice e)] {e' : TypeId} [TI P e z sz by_] {sz' : Nat} [hr : HasRow bs p n e' sz' c xs] [hrep : ReplI bs (row e' sz' p n c xs) (row e' sz' p m c (xs.take (m * sz'))) bs'] [hp : PutO l d (.slice p m c) l']
    (hle : m ≤ n) (K : ∀ a, St w0 M0 ds a w l' bs' fs → WL P r ops Q rest a w) : WL P r ops Q (⟨d, .slice t x none (some y) none, ty, pos, af, none⟩ :: rest) a w := by
  refine wl_plain rfl ?_
  rw [semAt_nd rfl]
  have hrow := S.row p n
  have hown : w.ownsRow 0 e' sz' (.slice p m c) m (xs.take (m * sz')) := by
    refine ⟨by rw [List.length_take, hrow.1, Nat.min_eq_left (Nat.mul_le_mul_right _ hle)], ?_⟩
    rcases hrow.2 with ⟨hv, rfl⟩ | ⟨g, cap, cur, hv, hb, hg, hnc, hcm, hcs, ht⟩
    · cases hv
      exact .inl ⟨by rw [show m = 0 from by omega], by omega⟩
    · cases hv
      exact .inr ⟨g, c, cur, rfl, hb, hg, by omega, hcm, hcs, by rw [← ht, List.take_take, Nat.min_eq_left (Nat.mul_le_mul_right _ hle)]⟩
  have hnc : n ≤ c := by
    rcases hrow.2 with ⟨hv, rfl⟩ | ⟨g, cap, cur, hv, _, _, hnc, _⟩
    · omega
    · cases hv; exact hnc
  have h2 := hm.eq
  subst h2
  have e1 : (xop a.eval (.slice t x none (some y) none) ty).run P w = .ok (.value (.slice p m c)) w := by
    have hsz := run_size (P := P) (t := e) (z := z) (s := sz) (b := by_) w
    have hle' : m ≤ c := by omega
    simp [xop, execOp, Instr.sliceAt, Instr.slice, Instr.sliceBounds, Instr.sliceBound, asIntOf, S.fr.ev (x := x) (v := .slice p n c), S.fr.ev (x := y) (v := .int kk (m : Int)), Sem.run_bind, run_und, hsz, hle']
    cases p <;> simp [Addr.add]
  simp only [e1, Oper.uponIn]
  have S' := S.put (d := d) (v := .slice p m c) (l' := l')
  exact K _ (S.reput (x := row e' sz' p n c xs) (y := row e' sz' p m c (xs.take (m * sz'))) S'.slots S'.defers rfl (Agree.refl _ _) hown (fun k h => .inl h) (row_foot_lt hown) (row_loc _ _ _ _ _ _))
end
section
variable {P : Program} {r : Option Nat} {ops : Array Oper} {Q : Exit → Act → World → Prop} {w0 : World} {M0 : Nat → Prop} {ds : List Deferred} {a : Act} {w : World} {l l' : List Value} {bs bs' : List Item} {fs : List (World → Prop)}
  {d : Option Nat} {op : Op} {t ty : TypeId} {pos : String} {af : Array Edge} {rest : List Oper} {v z : Value} {e : TypeId} {sz by_ : Nat} {p : Option Addr} {n c k : Nat} {xs : List Value} {x y : Operand} {kk kl : IntKind} {m : Int} {lc : Cx}
theorem smk {mi mj : Int} {l' : Nat → List Value} {zc : List Value} (n : Nat) (S : St w0 M0 ds a w l bs fs) [Ev ⟨[], l⟩ x (.int kk mi)] [Ev ⟨[], l⟩ y (.int kl mj)] [ht : Und P t (.slice e)] [hti : TI P e z sz by_] [hzc : Cells z zc] [hzl : LenIs zc sz] [hne : NeN zc]
    [hp : ∀ b, PutO l d (.slice (some ⟨b, 0, none⟩) n n) (l' b)] (hi : mi = n) (hj : mj = n) (hb : by_ * n ≤ 281474976710656) (hm : n ≤ maxLen)
    (K : ∀ b a w, St w0 M0 ds a w (l' b) (row e sz (some ⟨b, 0, none⟩) n n ((List.replicate n zc).flatten) :: bs) fs → WL P r ops Q rest a w) : WL P r ops Q (⟨d, .makeSlice t x y, ty, pos, af, none⟩ :: rest) a w := by
  refine wl_plain rfl ?_
  rw [semAt_nd rfl]
  subst hi hj
  obtain ⟨i, hi, hz, hs, hby⟩ := hti.ex
  have hz' : z.cells = zc.toArray := by rw [← hzc.eq]
  have hlen : zc.length = sz := hzl.eq
  have hb' : (i.bytes : Int) * (n : Int) ≤ 281474976710656 := by
    have h : ((by_ * n : Nat) : Int) ≤ 281474976710656 := by omega
    rw [hby]; rwa [Int.natCast_mul] at h
  have hr := run_make (P := P) w t e i z ht.eq hi hz kk kl n n (by omega) (Int.le_refl _) hb' (by simp only [maxLen] at hm; omega)
  have hcells : madeCells z.cells ((n : Int).toNat * i.size) = ((List.replicate n zc).flatten).toArray := by
    rw [← range_rep n zc hne.ne, hz', hs, ← hlen]; rfl
  rw [hcells] at hr
  simp only [Int.toNat_natCast] at hr
  have e1 : (xop a.eval (.makeSlice t x y) ty).run P w = .ok (.value (.slice (some ⟨w.heap.size, 0, none⟩) n n)) (w.alloc (.cells ((List.replicate n zc).flatten).toArray e)) := by
    simp [xop, execOp, S.fr.ev (x := x) (v := .int kk (n : Int)), S.fr.ev (x := y) (v := .int kl (n : Int)), hr]
  simp only [e1, Oper.uponIn]
  have := hp w.heap.size
  have S' := S.put (d := d) (v := .slice (some ⟨w.heap.size, 0, none⟩) n n)
  have S2 : St w0 M0 ds _ _ (l' w.heap.size) (box w.heap.size e ((List.replicate n zc).flatten) :: bs) fs := ⟨S'.slots, S'.defers, S'.wd.alloc e ((List.replicate n zc).flatten)⟩
  exact K _ _ _ (S2.boxRow w.heap.size sz n (by simp [hlen]) hm)
theorem scp {tx : TypeId} {m : Nat} {xv : Value} {news : List Value} (S : St w0 M0 ds a w l bs fs) [Ev ⟨[], l⟩ x (.slice p n c)] [Ev ⟨[], l⟩ y xv] [ht : Und P t (.slice e)] [hti : TI P e z sz by_] [hr : HasRow bs p n e sz c xs] [hs : SrcV P tx xv bs fs sz m news]
    [hrep : ReplI bs (row e sz p n c xs) (row e sz p n c (news ++ xs.drop (m * sz))) bs'] [hp : PutO l d (.int .i64 m) l'] (hle : m ≤ n) (K : ∀ a w, St w0 M0 ds a w l' bs' fs → WL P r ops Q rest a w) :
    WL P r ops Q (⟨d, .call { callee := .builtin .copy, args := #[x, y], argTypes := #[t, tx] }, ty, pos, af, none⟩ :: rest) a w := by
  refine wl_plain rfl ?_
  rw [semAt_nd rfl]
  have hsrc := hs.src w S.wd.mem
  have hrow := S.row p n
  have S' := S.put (d := d) (v := .int .i64 (m : Int)) (l' := l')
  have hmin : Nat.min m n = m := Nat.min_eq_left hle
  have hlen := hsrc.newsLen
  suffices h : ∃ w', (Builtin.copy_ #[t, tx] ty #[.slice p n c, xv]).run P w = .ok (.int .i64 m) w' ∧ Agree (fun k => ∃ ad, p = some ad ∧ k = ad.block) w w' ∧ w'.ownsRow 0 e sz (.slice p n c) n (news ++ xs.drop (m * sz)) by
    obtain ⟨w', hrun, hag, hown⟩ := h
    have e1 : (xop a.eval (.call { callee := .builtin .copy, args := #[x, y], argTypes := #[t, tx] }) ty).run P w = .ok (.value (.int .i64 m)) w' := by
      simp [xop, execOp, resolve, invoke, builtin, S.fr.ev (x := x) (v := .slice p n c), S.fr.ev (x := y) (v := xv), hrun]
    simp only [e1, Oper.uponIn]
    exact K _ _ (S.reput (x := row e sz p n c xs) (y := row e sz p n c (news ++ xs.drop (m * sz))) S'.slots S'.defers rfl hag hown (fun k h => .inl h) (row_foot_lt hown) (row_loc _ _ _ _ _ _))
  have hpre : ∀ w', (storeCells (p.getD ⟨0, 0, none⟩) news).run P w = .ok () w' → p.isSome = true → (Builtin.copy_ #[t, tx] ty #[.slice p n c, xv]).run P w = .ok (.int .i64 m) w' := by
    intro w' h1 h2
    obtain ⟨ad, rfl⟩ := Option.isSome_iff_exists.1 h2
    simp at h1
    simp [Builtin.copy_, Sem.run_bind, run_und, run_size, hsrc.len, hmin, hsrc.cells, h1, goInt]
  rcases Nat.eq_zero_or_pos n with h0 | h0
  · subst h0
    have hm0 : m = 0 := by omega
    subst hm0
    have hnews : news = [] := List.eq_nil_of_length_eq_zero (by simpa using hlen)
    subst hnews
    refine ⟨w, ?_, Agree.refl _ _, by simpa using hrow⟩
    cases hp : p with
    | none => simp [Builtin.copy_, Sem.run_bind, run_und, run_size, hsrc.len, hsrc.cells, goInt]
    | some ad => rw [← hp]; exact hpre w (by simp [storeCells]) (by simp [hp])
  · obtain ⟨g, cur, hpp, _⟩ := own_cells hrow h0
    obtain ⟨w', hrun, hag, hown⟩ := own_set (P := P) hrow (vs := news) (o := 0) hpp (by rw [hlen]; simpa using Nat.mul_le_mul_right sz hle) hsrc.one
    refine ⟨w', hpre w' (by rw [hpp]; exact hrun) (by simp [hpp]), hag, ?_⟩
    simpa [hlen] using hown
end
def SlF (p : Option Addr) (xs : List Value) : World → Prop := fun w => (p = none → xs = []) ∧ ∀ ad, p = some ad → ∀ j u, xs[j]? = some u → w.cell? (ad.add j) = some u
theorem cell_lt {w : World} {ad : Addr} {v : Value} (hc : w.cell? ad = some v) : ad.block < w.heap.size := by
  rcases Nat.lt_or_ge ad.block w.heap.size with h' | h'
  · exact h'
  · unfold World.cell? at hc; rw [Array.getElem?_eq_none h'] at hc; cases hc
theorem add_block (ad : Addr) (j : Nat) : (ad.add j).block = ad.block := by unfold Addr.add; split <;> rfl
theorem SlF.stable {w : World} {p : Option Addr} {xs : List Value} {M : Nat → Prop} (h : SlF p xs w) (hM : ∀ ad, p = some ad → ¬ M ad.block) : Stable M w (SlF p xs) := fun w' hw' => ⟨h.1, fun ad hp j u hj => by
  have hc := h.2 ad hp j u hj
  have hlt := cell_lt hc
  rw [add_block] at hlt
  rw [World.cell?_of_block (w := w) (by rw [add_block]; exact hw'.blk hlt (hM ad hp))]
  exact hc⟩
theorem own_sl {w : World} {e : TypeId} {sz : Nat} {p : Option Addr} {n c : Nat} {xs : List Value} (h : w.ownsRow 0 e sz (.slice p n c) n xs) : SlF p xs w := by
  refine ⟨fun hp => ?_, fun ad hp j u hj => ?_⟩
  · subst hp
    rcases h.2 with ⟨_, rfl⟩ | ⟨g, cap, cur, hv, _⟩
    · exact List.eq_nil_of_length_eq_zero (by simpa using h.1)
    · cases hv
  · have := own_cell h (o := 0) (j := j) (by simpa using hj)
    subst hp
    simpa [rAddr, Addr.add] using this
class HasSl (fs : List (World → Prop)) (p : Option Addr) (xs : outParam (List Value)) : Prop where mem : SlF p xs ∈ fs
instance hsl0 {p : Option Addr} {xs : List Value} {fs : List (World → Prop)} : HasSl (SlF p xs :: fs) p xs := ⟨List.mem_cons_self ..⟩
theorem src_sl {P : Program} {tx e : TypeId} {w : World} {p : Option Addr} {m c sz : Nat} {xs : List Value} (h : P.underlying tx = some (.slice e)) (hs : SlF p xs w) (hl : xs.length = m * sz) (h1 : ∀ u ∈ xs, u.oneCell' = true) (hz : 0 < sz) : Src P sz tx (.slice p m c) m xs w := by
  cases p with
  | none =>
    have := hs.1 rfl
    subst this
    have hm : m = 0 := by
      rcases Nat.eq_zero_or_pos m with h0 | h0
      · exact h0
      · have := Nat.mul_pos h0 hz; simp at hl; omega
    subst hm
    exact Src.ofNil w h c
  | some ad => exact Src.ofSlice w h _ _ _ _ hl (hs.2 ad rfl) h1
instance (priority := 870) srcSlB {P : Program} {tx e : TypeId} {p : Option Addr} {m c : Nat} {ys : List UInt8} {bs : List Item} {fs : List (World → Prop)} [h : Und P tx (.slice e)] [hr : HasSl fs p (encL ys)] [hn : LenN ys m] : SrcV P tx (.slice p m c) bs fs 1 m (encL ys) := ⟨fun w mm =>
  src_sl h.eq (mm.facts _ hr.mem).now (by rw [encL_len, hn.eq]; rfl) (encL_one ys) (by decide)⟩
section
variable {P : Program} {r : Option Nat} {ops : Array Oper} {Q : Exit → Act → World → Prop} {w0 : World} {M0 : Nat → Prop} {ds : List Deferred} {a : Act} {w : World} {l l' : List Value} {bs bs' : List Item} {fs : List (World → Prop)}
  {d : Option Nat} {op : Op} {t t' ty : TypeId} {pos : String} {af : Array Edge} {rest : List Oper} {v z : Value} {e : TypeId} {sz by_ : Nat} {p : Option Addr} {n c k : Nat} {xs : List Value} {x y : Operand} {kk kl : IntKind} {m j : Int} {lc : Cx}
theorem bytes_foldl (xs : List UInt8) : ∀ (s : ByteArray), ((xs.map fun b => (b.toNat : Int)).foldl (fun s n => s.push (UInt8.ofNat n.toNat)) s) = ⟨s.data ++ xs.toArray⟩ := by
  induction xs with
  | nil => intro s; simp
  | cons x xs ih => intro s; rw [List.map_cons, List.foldl_cons, ih]; simp [ByteArray.push]
theorem encB_map (ys : List UInt8) : encL ys = (ys.map fun b => (b.toNat : Int)).map (Value.int .u8) := by
  induction ys with
  | nil => rfl
  | cons y ys ih => rw [encL_cons, ih]; rfl
theorem run_str {w : World} {ys : List UInt8} (hs : SlF p (encL ys) w) (hn : ys.length = n) : (Conv.bytesToString (.slice p n c)).run P w = .ok (str ys) w := by
  cases p with
  | none =>
    have := hs.1 rfl
    have : ys = [] := by
      cases ys with
      | nil => rfl
      | cons y ys => simp [encL, Enc.cells] at this
    subst this
    simp [Conv.bytesToString, str]; rfl
  | some ad =>
    have h1 := run_loadCells_list (P := P) w ad (encL ys) (hs.2 ad rfl)
    rw [encL_len, encB_map] at h1
    have h2 := run_bytesToString (P := P) w ad n c (ys.map fun b => (b.toNat : Int)) (by rw [← hn]; simpa [Enc.sz] using h1)
    rw [h2, bytes_foldl]
    simp [str, ByteArray.empty, ByteArray.emptyWithCapacity]
    rfl
class HasBytes (bs : List Item) (fs : List (World → Prop)) (p : Option Addr) (n : Nat) (ys : outParam (List UInt8)) : Prop where of : ∀ w, Mem w bs fs → SlF p (encL ys) w
instance hby1 {p : Option Addr} {n c : Nat} {e : TypeId} {ys : List UInt8} {bs : List Item} {fs : List (World → Prop)} [h : HasRow bs p n e 1 c (encL ys)] : HasBytes bs fs p n ys := ⟨fun _ mm => own_sl (mm.held _ h.mem)⟩
instance opBytesStr {ys : List UInt8} [Ev lc x (.slice p n c)] [Und P t (.slice e)] [Und P e (.int .u8)] [Und P t' .string] [hb : HasBytes bs fs p n ys] [hn : LenN ys n] : OpQ P (.convert t t' x) ty lc bs fs (str ys) := ⟨fun ρ w h mm => by
  have h1 := run_str (P := P) (c := c) (hb.of w mm) hn.eq
  cases p <;> simp [xop, execOp, h.ev (x := x) (v := .slice _ n c), convert, Sem.run_bind, run_und, h1]⟩
instance opShr [Ev lc x (.int kk m)] [Ev lc y (.int kl j)] [hj : IsNat j k] : OpQ P (.binOp .shr t x y t') ty lc bs fs (.int kk (m.fdiv (2 ^ (min k kk.bits)))) := ⟨fun ρ w h _ => by
  have h2 := hj.eq
  subst h2
  have h3 : ¬ ((k : Int) < 0) := by omega
  simp [xop, execOp, h.ev (x := x) (v := .int kk m), h.ev (x := y) (v := .int kl (k : Int)), eqGuard, binOp, Op.shift, h3]⟩
end
theorem wu64 (n : Int) (h1 : 0 ≤ n) (h2 : n ≤ 18446744073709551615) : IntKind.u64.wrap n = n := by
  unfold IntKind.wrap
  simp only [IntKind.bits, IntKind.signed, Bool.false_and]
  simp; omega
theorem wu16 (n : Int) (h1 : 0 ≤ n) (h2 : n ≤ 65535) : IntKind.u16.wrap n = n := by
  unfold IntKind.wrap
  simp only [IntKind.bits, IntKind.signed, Bool.false_and]
  simp; omega
def be (k : Nat) (v : Int) : List UInt8 := (List.range k).map fun i => u8 (v.fdiv (2 ^ (8 * (k - 1 - i))))
theorem c_merge {P : Program} {r : Option Nat} {Q : Exit → Act → World → Prop} {a : Act} {w : World} {x y : Code} (I : Act → World → Prop) (hx : Wp P r x (Exit.then I Q) a w) (hy : ∀ a w, I a w → Wp P r y Q a w) : Wp P r (.seq x y) Q a w := by
  refine c_seq (wpIn_mono hx ?_)
  intro e a w h
  cases e <;> first | exact hy _ _ h | exact h
theorem c_drawE {P : Program} {r : Option Nat} {Q : Exit → Act → World → Prop} {w0 : World} {M0 : Nat → Prop} {ds : List Deferred} {a : Act} {w : World} {l : List Value} {bs : List Item} {fs : List (World → Prop)} {id : Nat} {lo : List Oper} (ord : List (Nat × Bool)) (bs0 : List Item) (S : St w0 M0 ds a w l bs fs) (h : ∀ w, St w0 M0 ds a w l bs fs → AQ P lo.toArray (fun w => Wd w0 M0 w bs0 fs) (fun a w => Q .normal a w) ord a w)
    (hm : P.follows .mixedOrders = true := by kernel_rfl) (hd : ((lo.all fun o => !isDefer o.op) && (Nat.beq ord.length lo.length && (Region.noSelect lo.toArray && flowFrom lo.toArray ord (Array.replicate lo.length false)))) = true := by kernel_rfl) : Wp P r (.region id lo.toArray true) Q a w := by
  simp only [Bool.and_eq_true] at hd
  refine wpIn_region_any hm (any_of_ac (C := fun w => Wd w0 M0 w bs0 fs) (fun i o ho => ?_) _ _ _ _ ?_)
  · have := List.all_eq_true.1 hd.1 o (by
      rw [List.getElem?_toArray] at ho
      exact List.mem_of_getElem? ho)
    simpa using this
  · have := h { w with drawn := w.drawn + 1 } ⟨S.slots, S.defers, S.wd.step (Agree.drawn _ w _)⟩ _ hd.2.2.1 hd.2.2.2
    rw [Nat.eq_of_beq_eq_true hd.2.1] at this
    simpa using this
theorem Wd.perm {w0 M0 w fs} {bs bs' : List Item} (h : Wd w0 M0 w bs fs) (hp : bs'.Perm bs) : Wd w0 M0 w bs' fs := by
  have hm : ∀ it, it ∈ bs' → it ∈ bs := fun it hi => hp.mem_iff.1 hi
  refine ⟨h.agree, fun it hi => h.held it (hm it hi), fun it hi => h.lt it (hm it hi), fun it hi => h.own it (hm it hi), ?_, fun Φ hΦ => (h.facts Φ hΦ).less fun _ _ ⟨it, hi, hk⟩ => ⟨it, hm it hi, hk⟩, fun it hi => h.loc it (hm it hi)⟩
  exact (hp.pairwise_iff fun hxy k hk hk' => hxy k hk' hk).2 h.apart
theorem St.swap2 {w0 M0 ds a w l fs} {x y z : Item} (S : St w0 M0 ds a w l [x, y, z] fs) : St w0 M0 ds a w l [y, x] fs :=
  ⟨S.slots, S.defers, (S.wd.sub (bs0 := [x, y]) (fs0 := fs) (by simp) (List.Sublist.refl _)).perm (List.Perm.swap _ _ _)⟩
def kvIdx (k : List UInt8) : List (List UInt8 × Value) → Nat → Option (Nat × Value)
  | [], _ => none
  | (u, v) :: kv, i => if k = u then some (i, v) else kvIdx k kv (i + 1)
def kvGet (k : List UInt8) (kv : List (List UInt8 × Value)) : Option Value := (kvIdx k kv 0).map (·.2)
def kvPut (k : List UInt8) (v : Value) : List (List UInt8 × Value) → List (List UInt8 × Value)
  | [] => [(k, v)]
  | (u, x) :: kv => if k = u then (u, v) :: kv else (u, x) :: kvPut k v kv
def ents (es : Array MapEntry) : List (Value × Value) := es.toList.map fun e => (e.key, e.val)
def mp (b : Nat) (kv : List (List UInt8 × Value)) : Item where
  foot := fun k => k = b
  holds := fun w => ∃ es clock, w.heap[b]? = some (.map es clock) ∧ ents es = (kv.map fun x => (str x.1, x.2)) ∧ (∀ e ∈ es.toList, e.born < clock) ∧ (es.toList.map (·.born)).Nodup
theorem mp_loc (b : Nat) (kv : List (List UInt8 × Value)) (w1 w2 : World) (h : ∀ k, (mp b kv).foot k → w2.heap[k]? = w1.heap[k]?) (h1 : (mp b kv).holds w1) : (mp b kv).holds w2 := by
  obtain ⟨es, clock, h2, h3⟩ := h1
  exact ⟨es, clock, by rw [h b rfl]; exact h2, h3⟩
class HasMp (bs : List Item) (b : Nat) (kv : outParam (List (List UInt8 × Value))) : Prop where mem : mp b kv ∈ bs
instance hmp0 {b : Nat} {kv : List (List UInt8 × Value)} {bs : List Item} : HasMp (mp b kv :: bs) b kv := ⟨List.mem_cons_self ..⟩
instance (priority := 900) hmp1 {b : Nat} {kv : List (List UInt8 × Value)} {x : Item} {bs : List Item} [h : HasMp bs b kv] : HasMp (x :: bs) b kv := ⟨List.mem_cons_of_mem _ h.mem⟩
def MpF (b : Nat) (kv : List (List UInt8 × Value)) : World → Prop := (mp b kv).holds
class HasMpF (fs : List (World → Prop)) (b : Nat) (kv : outParam (List (List UInt8 × Value))) : Prop where mem : MpF b kv ∈ fs
instance hmpf0 {b : Nat} {kv : List (List UInt8 × Value)} {fs : List (World → Prop)} : HasMpF (MpF b kv :: fs) b kv := ⟨List.mem_cons_self ..⟩
instance (priority := 900) hmpf1 {b : Nat} {kv : List (List UInt8 × Value)} {Φ : World → Prop} {fs : List (World → Prop)} [h : HasMpF fs b kv] : HasMpF (Φ :: fs) b kv := ⟨List.mem_cons_of_mem _ h.mem⟩
class KvOf (bs : List Item) (fs : List (World → Prop)) (b : Nat) (kv : outParam (List (List UInt8 × Value))) : Prop where of : ∀ w, Mem w bs fs → (mp b kv).holds w
instance kvof0 {b : Nat} {kv : List (List UInt8 × Value)} {bs : List Item} {fs : List (World → Prop)} [h : HasMp bs b kv] : KvOf bs fs b kv := ⟨fun _ mm => mm.held _ h.mem⟩
instance (priority := 900) kvof1 {b : Nat} {kv : List (List UInt8 × Value)} {bs : List Item} {fs : List (World → Prop)} [h : HasMpF fs b kv] : KvOf bs fs b kv := ⟨fun _ mm => (mm.facts _ h.mem).now⟩
theorem MpF.stable {w : World} {b : Nat} {kv : List (List UInt8 × Value)} {M : Nat → Prop} (h : MpF b kv w) (hM : ¬ M b) : Stable M w (MpF b kv) := fun w' hw' => by
  obtain ⟨es, clock, hb, he⟩ := h
  exact ⟨es, clock, by rw [hw'.blk (Array.getElem?_eq_some_iff.1 hb).1 hM]; exact hb, he⟩
theorem str_inj {s u : List UInt8} : str s = str u ↔ s = u := by
  constructor
  · intro h; simpa [str] using h
  · rintro rfl; rfl
theorem same_str (s u : List UInt8) : Instr.sameNow .string (str s) (str u) = some (decide (s = u)) := by
  obtain ⟨r, hr, hiff⟩ := MapKept.sameNow_of_keys (d := .string) (a := str s) (b := str u) (by simp [MapKept.IsKey, str]) (by simp [MapKept.IsKey, str])
  rw [hr]
  congr 1
  rw [Bool.eq_iff_iff, hiff, str_inj]; simp
theorem find_kv (k : List UInt8) : ∀ (l : List MapEntry) (kv : List (List UInt8 × Value)) (i : Nat), (l.map fun e => (e.key, e.val)) = (kv.map fun x => (str x.1, x.2)) → Instr.findNow .string (str k) l i = some (kvIdx k kv i)
  | [], [], i, _ => rfl
  | [], _ :: _, _, h => by simp at h
  | _ :: _, [], _, h => by simp at h
  | e :: l, (u, v) :: kv, i, h => by
    simp only [List.map_cons, List.cons.injEq, Prod.mk.injEq] at h
    obtain ⟨⟨h1, h2⟩, h3⟩ := h
    have hs : Instr.sameNow .string (str k) e.key = some (decide (k = u)) := by
      rw [h1, same_str]
    rw [Instr.findNow, hs, kvIdx]
    by_cases hk : k = u
    · rw [if_pos hk]; simp [hk, h2]
    · rw [if_neg hk]; simp only [hk, decide_false]
      exact find_kv k l kv (i + 1) h3
theorem kvIdx_some {k : List UInt8} : ∀ {kv : List (List UInt8 × Value)} {i j : Nat} {v : Value}, kvIdx k kv i = some (j, v) → i ≤ j ∧ kv[j - i]? = some (k, v)
  | [], i, j, v, h => by simp [kvIdx] at h
  | (u, x) :: kv, i, j, v, h => by
    rw [kvIdx] at h
    split at h
    · rename_i hk
      simp at h
      obtain ⟨rfl, rfl⟩ := h
      simp [hk]
    · have := kvIdx_some h
      refine ⟨by omega, ?_⟩
      rw [show j - i = j - (i + 1) + 1 from by omega]
      simpa using this.2
theorem kvPut_idx {k : List UInt8} {v : Value} : ∀ {kv : List (List UInt8 × Value)} {i j : Nat} {x : Value}, kvIdx k kv i = some (j, x) → kvPut k v kv = kv.set (j - i) (k, v)
  | [], i, j, x, h => by simp [kvIdx] at h
  | (u, y) :: kv, i, j, x, h => by
    rw [kvIdx] at h
    rw [kvPut]
    split at h
    · rename_i hk
      simp at h
      obtain ⟨rfl, rfl⟩ := h
      rw [if_pos hk]; simp [hk]
    · rename_i hk
      rw [if_neg hk]
      have h1 := kvIdx_some h
      rw [kvPut_idx h, show j - i = j - (i + 1) + 1 from by omega]
      simp
theorem kvPut_none {k : List UInt8} {v : Value} : ∀ {kv : List (List UInt8 × Value)} {i : Nat}, kvIdx k kv i = none → kvPut k v kv = kv ++ [(k, v)]
  | [], i, h => rfl
  | (u, y) :: kv, i, h => by
    rw [kvIdx] at h
    split at h
    · cases h
    · rename_i hk
      rw [kvPut, if_neg hk, kvPut_none h]; rfl
section
variable {P : Program} {r : Option Nat} {ops : Array Oper} {Q : Exit → Act → World → Prop} {w0 : World} {M0 : Nat → Prop} {ds : List Deferred} {a : Act} {w : World} {l l' : List Value} {bs bs' : List Item} {fs : List (World → Prop)}
  {d : Option Nat} {op : Op} {t ty : TypeId} {pos : String} {af : Array Edge} {rest : List Oper} {v z : Value} {e kt et : TypeId} {sz by_ b : Nat} {x y u : Operand} {lc : Cx} {k : List UInt8} {kv : List (List UInt8 × Value)}
theorem run_key (hk : P.underlying kt = some .string) (em : Bool) (w : World) : (Instr.checkKey em 10000 kt (str k)).run P w = .ok () w := MapKept.run_checkKey (k := str k) hk (by simp [MapKept.IsKey, str]) em 9999
instance opLookOk [Ev lc x (.map (some b))] [Ev lc y (str k)] [ht : Und P t (.map kt et)] [hk : Und P kt .string] [hz : TI P et z sz by_] [hm : KvOf bs fs b kv] :
    OpQ P (.lookup t x y true) ty lc bs fs (.tuple ⟨[(kvGet k kv).getD z, .bool (kvGet k kv).isSome]⟩) := ⟨fun ρ w h mm => by
  obtain ⟨es, clock, hb, he, _⟩ := hm.of w mm
  have hf := find_kv k es.toList kv 0 he
  have h1 := MapKept.run_getObj_map (P := P) hb
  have h2 := run_key (P := P) (k := k) hk.eq es.isEmpty w
  have h3 := MapKept.run_findKey (P := P) (w := w) hk.eq hf
  have h4 : (Instr.lookup t (.map (some b)) (str k) true).run P w = .ok (.tuple ⟨[(kvGet k kv).getD z, .bool (kvGet k kv).isSome]⟩) w := by
    unfold kvGet
    simp [Instr.lookup, Sem.run_bind, run_und, h1, h2, h3, Result.andThen]
    cases kvIdx k kv 0 with
    | none => simp [run_zero (P := P) (t := et) (z := z) (s := sz) (b := by_)]
    | some q => simp
  simp [xop, execOp, h.ev (x := x) (v := .map (some b)), h.ev (x := y) (v := str k), Sem.run_bind, h4]⟩
instance opLook [Ev lc x (.map (some b))] [Ev lc y (str k)] [ht : Und P t (.map kt et)] [hk : Und P kt .string] [hz : TI P et z sz by_] [hm : KvOf bs fs b kv] :
    OpQ P (.lookup t x y false) ty lc bs fs ((kvGet k kv).getD z) := ⟨fun ρ w h mm => by
  obtain ⟨es, clock, hb, he, _⟩ := hm.of w mm
  have hf := find_kv k es.toList kv 0 he
  have h1 := MapKept.run_getObj_map (P := P) hb
  have h2 := run_key (P := P) (k := k) hk.eq es.isEmpty w
  have h3 := MapKept.run_findKey (P := P) (w := w) hk.eq hf
  have h4 : (Instr.lookup t (.map (some b)) (str k) false).run P w = .ok ((kvGet k kv).getD z) w := by
    unfold kvGet
    simp [Instr.lookup, Sem.run_bind, run_und, h1, h2, h3, Result.andThen]
    cases kvIdx k kv 0 with
    | none => simp [run_zero (P := P) (t := et) (z := z) (s := sz) (b := by_)]
    | some q => simp
  simp [xop, execOp, h.ev (x := x) (v := .map (some b)), h.ev (x := y) (v := str k), Sem.run_bind, h4]⟩
theorem smm {l' : Nat → List Value} (S : St w0 M0 ds a w l bs fs) [hp : ∀ b, PutO l d (.map (some b)) (l' b)] (K : ∀ b a w, St w0 M0 ds a w (l' b) (mp b [] :: bs) fs → WL P r ops Q rest a w) : WL P r ops Q (⟨d, .makeMap t none, ty, pos, af, none⟩ :: rest) a w := by
  refine wl_plain rfl ?_
  rw [semAt_nd rfl]
  have e1 : (xop a.eval (.makeMap t none) ty).run P w = .ok (.value (.map (some w.heap.size))) (w.alloc (.map #[] 0)) := by
    simp [xop, execOp, Instr.makeMap, newObj, Sem.run]
  simp only [e1, Oper.uponIn]
  have := hp w.heap.size
  have S' := S.put (d := d) (v := .map (some w.heap.size))
  have hfoot : ∀ k, (mp w.heap.size []).foot k → k = w.heap.size := fun _ h => h
  refine K _ _ _ ⟨S'.slots, S'.defers, (S'.wd.step (Agree.alloc _ w _)).more ⟨#[], 0, heap_alloc_new w _, rfl, by simp, by simp⟩ (fun k hk => by rw [hfoot k hk]; exact S'.wd.agree.size) (fun k hk => by rw [hfoot k hk]; simp) (fun it hi k hk hk' => ?_) (fun Φ hΦ w'' hw'' => ?_) (mp_loc _ _)⟩
  · have := S'.wd.lt it hi k hk'
    rw [hfoot k hk] at this; omega
  · refine S'.wd.facts Φ hΦ w'' (((Agree.alloc _ w _ : Grow w _).mono (fun _ _ h => h.elim)).trans' hw'' fun i hi ⟨it, hm, hk⟩ => ?_)
    rcases List.mem_cons.1 hm with rfl | hm
    · rw [hfoot i hk] at hi; omega
    · exact ⟨it, hm, hk⟩
theorem smu (S : St w0 M0 ds a w l bs fs) [Ev ⟨[], l⟩ x (.map (some b))] [Ev ⟨[], l⟩ y (str k)] [Ev ⟨[], l⟩ u v] [ht : Und P t (.map kt et)] [hk : Und P kt .string] [hm : HasMp bs b kv] [hrep : ReplI bs (mp b kv) (mp b (kvPut k v kv)) bs'] [hp : PutO l d undef l']
    (K : ∀ a w, St w0 M0 ds a w l' bs' fs → WL P r ops Q rest a w) : WL P r ops Q (⟨d, .mapUpdate t x y u, ty, pos, af, none⟩ :: rest) a w := by
  refine wl_plain rfl ?_
  rw [semAt_nd rfl]
  obtain ⟨es, clock, hb, he, hbn, hnd⟩ : (mp b kv).holds w := S.wd.held _ hm.mem
  have hf := find_kv k es.toList kv 0 he
  have h1 := MapKept.run_getObj_map (P := P) hb
  have h2 := run_key (P := P) (k := k) hk.eq false w
  have h3 := MapKept.run_findKey (P := P) (w := w) hk.eq hf
  have S' := S.put (d := d) (v := undef) (l' := l')
  have key : ∃ es' clock', (Instr.mapUpdate t (.map (some b)) (str k) v).run P w = .ok () { w with heap := w.heap.setIfInBounds b (.map es' clock') } ∧ ents es' = ((kvPut k v kv).map fun x => (str x.1, x.2)) ∧ (∀ e ∈ es'.toList, e.born < clock') ∧ (es'.toList.map (·.born)).Nodup := by
    cases hi : kvIdx k kv 0 with
    | none =>
      rw [hi] at h3
      refine ⟨es.push { key := str k, val := v, born := clock }, clock + 1, ?_, ?_, ?_, ?_⟩
      · simp [Instr.mapUpdate, Sem.run_bind, run_und, h1, h2, h3, MapKept.run_setObj_map _ hb]
      · rw [kvPut_none hi, List.map_append, ← he]; simp [ents]
      · intro e hem
        simp only [Array.toList_push, List.mem_append, List.mem_singleton] at hem
        rcases hem with hem | rfl
        · have := hbn e hem; omega
        · exact Nat.lt_succ_self _
      · simp only [Array.toList_push, List.map_append, List.map_cons, List.map_nil]
        refine List.nodup_append.2 ⟨hnd, by simp, fun x hx y hy hxy => ?_⟩
        obtain ⟨e, hem, rfl⟩ := List.mem_map.1 hx
        have := hbn e hem
        obtain rfl := List.mem_singleton.1 hy
        omega
    | some q =>
      obtain ⟨j, x0⟩ := q
      rw [hi] at h3
      have h5 := kvIdx_some hi
      have hje : (ents es)[j]? = some (str k, x0) := by
        rw [he, List.getElem?_map]
        have := h5.2
        simp at this
        simp [this]
      obtain ⟨en, hen, hen2⟩ : ∃ en, es[j]? = some en ∧ en.key = str k := by
        simp only [ents, List.getElem?_map] at hje
        obtain ⟨en, q1, q2⟩ := Option.map_eq_some_iff.1 hje
        simp at q2
        exact ⟨en, by simpa using q1, q2.1⟩
      have hsb : Instr.sameBits 10000 (str k) (str k) = true := by simp only [Instr.sameBits]; exact (MapKept.bytes_beq _ _).2 rfl
      have hborn : (es.modify j fun e => { e with key := str k, val := v }).toList.map (·.born) = es.toList.map (·.born) := by
        apply List.ext_getElem?
        intro i
        simp only [List.getElem?_map, Array.getElem?_toList, Array.getElem?_modify]
        by_cases hij : j = i
        · subst hij; rw [if_pos rfl, Option.map_map]; rfl
        · rw [if_neg hij]
      refine ⟨es.modify j fun e => { e with key := str k, val := v }, clock, ?_, ?_, fun e hem => ?_, by rw [hborn]; exact hnd⟩
      · simp [Instr.mapUpdate, Sem.run_bind, run_und, h1, h2, h3, hen, hen2, Instr.keyThatStays, hsb, MapKept.run_setObj_map _ hb]
      · rw [kvPut_idx hi, List.map_set, ← he]
        apply List.ext_getElem?
        intro i
        simp only [ents, List.getElem?_map, Array.getElem?_toList, Array.getElem?_modify, List.getElem?_set, Nat.sub_zero]
        by_cases hij : j = i
        · subst hij
          have hlt : j < es.size := (Array.getElem?_eq_some_iff.1 hen).1
          simp [hlt]
        · simp [hij]
      · have hm1 : e.born ∈ es.toList.map (·.born) := by rw [← hborn]; exact List.mem_map.2 ⟨e, hem, rfl⟩
        obtain ⟨e0, he0, h0⟩ := List.mem_map.1 hm1
        rw [← h0]; exact hbn e0 he0
  obtain ⟨es', clock', hrun, hen⟩ := key
  have e1 : (xop a.eval (.mapUpdate t x y u) ty).run P w = .ok .skip { w with heap := w.heap.setIfInBounds b (.map es' clock') } := by
    simp [xop, execOp, S.fr.ev (x := x) (v := .map (some b)), S.fr.ev (x := y) (v := str k), S.fr.ev (x := u) (v := v), Sem.run_bind, hrun]
  simp only [e1, Oper.uponIn]
  have hset := MapKept.heap_set (o' := .map es' clock') hb
  have hlt : b < w.heap.size := (Array.getElem?_eq_some_iff.1 hb).1
  exact K _ _ (S.reput (x := mp b kv) (y := mp b (kvPut k v kv)) S'.slots S'.defers rfl ⟨rfl, rfl, rfl, by simp, fun i _ hn => hset.2 i hn⟩ ⟨es', clock', hset.1, hen⟩ (fun i h => .inl h) (fun i h => by cases h; simpa using hlt) (mp_loc _ _))
end
def BoxF (b : Nat) (t : TypeId) (cs : List Value) : World → Prop := (box b t cs).holds
class HasBoxF (fs : List (World → Prop)) (b : Nat) (t : outParam TypeId) (cs : outParam (List Value)) : Prop where mem : BoxF b t cs ∈ fs
instance hbf0 {b : Nat} {t : TypeId} {cs : List Value} {fs : List (World → Prop)} : HasBoxF (BoxF b t cs :: fs) b t cs := ⟨List.mem_cons_self ..⟩
instance (priority := 900) hbf1 {b : Nat} {t : TypeId} {cs : List Value} {Φ : World → Prop} {fs : List (World → Prop)} [h : HasBoxF fs b t cs] : HasBoxF (Φ :: fs) b t cs := ⟨List.mem_cons_of_mem _ h.mem⟩
theorem BoxF.stable {w : World} {b : Nat} {t : TypeId} {cs : List Value} {M : Nat → Prop} (h : BoxF b t cs w) (hM : ¬ M b) : Stable M w (BoxF b t cs) := fun w' hw' => by
  show w'.heap[b]? = some (.cells cs.toArray t (0, 0))
  rw [hw'.blk (Array.getElem?_eq_some_iff.1 h).1 hM]; exact h
instance (priority := 800) opLoadF {P : Program} {ty t bt : TypeId} {l : Cx} {bs : List Item} {fs : List (World → Prop)} {x : Operand} {b off : Nat} {cs : List Value} {v : Value} [Ev l x (.pointer (some ⟨b, off, none⟩))] [hb : HasBoxF fs b bt cs] [ha : AggT P t false] [hn : Nth cs off v] : OpQ P (.load t x) ty l bs fs v := ⟨fun ρ w h m => by
  have hbox : w.heap[b]? = some (.cells cs.toArray bt (0, 0)) := (m.facts _ hb.mem).now
  have hc : w.cell? ⟨b, off, none⟩ = some v := by rw [cell_of_row w b off cs.toArray bt (0, 0) hbox]; simpa using hn.eq
  simp [xop, execOp, Instr.loadAt, h.ev (x := x) (v := .pointer (some ⟨b, off, none⟩)), Instr.sureAddr, loadVar, Sem.run_bind, ha.run, load, Sem.run, hc]⟩
instance (priority := 800) opLoadFA {P : Program} {ty t bt : TypeId} {l : Cx} {bs : List Item} {fs : List (World → Prop)} {x : Operand} {b off n by_ : Nat} {cs vs : List Value} {z : Value} [Ev l x (.pointer (some ⟨b, off, none⟩))] [hb : HasBoxF fs b bt cs] [ha : AggT P t true] [TI P t z n by_] [hn : Seg cs off n vs] : OpQ P (.load t x) ty l bs fs (.agg ⟨vs⟩) := ⟨fun ρ w h m => by
  have hbox : w.heap[b]? = some (.cells cs.toArray bt (0, 0)) := (m.facts _ hb.mem).now
  have hl : (loadCells ⟨b, off, none⟩ n).run P w = .ok vs.toArray w := by
    have := run_loadCells_list (P := P) w ⟨b, off, none⟩ vs (fun j v hj => by
      have hjn : j < n := by rw [← hn.eq.1]; exact (List.getElem?_eq_some_iff.1 hj).1
      have e : (⟨b, off, none⟩ : Addr).add j = ⟨b, off + j, none⟩ := by unfold Addr.add; split <;> simp_all
      have h2 := hn.eq.2 j hjn
      rw [e, cell_of_row w b (off + j) cs.toArray bt (0, 0) hbox]
      simpa [hj] using h2)
    rw [hn.eq.1] at this
    exact this
  simp [xop, execOp, Instr.loadAt, h.ev (x := x) (v := .pointer (some ⟨b, off, none⟩)), Instr.sureAddr, loadVar, Sem.run_bind, ha.run, run_size, hl]⟩
theorem St.boxF {w0 M0 ds a w l bs fs} (S : St w0 M0 ds a w l bs fs) (b : Nat) {t : TypeId} {cs : List Value} [h : HasBox bs b t cs] : BoxF b t cs w := S.box b
open Go Go.Deep Go.ChangeShapes Go.WideShapes Go.ChangeAt Go.RowKit
section
variable {H : Type} {enc : TypeId × Value → H} {P : Program}
theorem Agree.below {W W' : World} (h : Agree (fun _ => False) W W') : Below W.heap.size W W' := by
  obtain ⟨h1, h2, h3, h4, h5⟩ := h
  exact ⟨h1, h2, h3, h4, fun k hk => h5 k hk id⟩
theorem trodAll_below (hl : laidOutB P = true) {W W' : World} (hb : Below W.heap.size W W') : ∀ (ts : List TypeId) (vs : List Value) (ds : List (DataW H)) (ps : List MemPlace), (ts.all fun t => P.readableRec t && decide (t < P.types.size)) = true →
    DataW.TrodAll enc P W 0 (fun _ => true) true ts vs ds ps → (∀ x ∈ ps, x.block < W.heap.size) → DataW.TrodAll enc P W' 0 (fun b => decide (b < W.heap.size)) true ts vs ds ps
  | [], [], [], ps, _, h, _ => h
  | t :: ts, v :: vs, d :: ds, ps, hr, ⟨p, q, h1, h2, h3⟩, hlt => by
    simp only [List.all_cons, Bool.and_eq_true, decide_eq_true_eq] at hr
    subst h3
    exact ⟨p, q, Below.trod hl hr.1.1 hr.1.2 h1 hb (fun x hx => hlt x (List.mem_append.2 (.inl hx))), trodAll_below hl hb ts vs ds q (by simpa using hr.2) h2 (fun x hx => hlt x (List.mem_append.2 (.inr hx))), rfl⟩
theorem law_post {f : Func} {s : ChangeSpec} {B : TypeId} {W W' : World} {args : Array Value} {ds gs : List (DataW H)} {before : List MemPlace} (hl : laidOutB P = true) (hp : (f.params.toList.all fun t => P.readableRec t && decide (t < P.types.size)) = true)
    (hB : P.underlying B = some .bool) (hrt : f.resultTypes = #[B]) (hv : s.vars = [])
    (hW : DataW.Whole enc P f.params.toList s.vars false W args.toList ds gs before) (hres : (s.fn H (ds ++ gs)).results = [.lit (.bool true)]) (hargs : (s.fn H (ds ++ gs)).args = ds) (hvars : (s.fn H (ds ++ gs)).vars = [])
    (hA : Agree (fun _ => False) W W') : s.post enc P f false true false false W args (.bool true) W' := by
  have hW' := hW
  obtain ⟨p, q, hA0, hV, rfl, _, _⟩ := hW
  have hlt := hW'.lt
  refine ⟨ds, gs, _, [], p, [], hW', ?_, ?_, ?_, hA.below.frame _, fun h => by cases h⟩
  · rw [hres, hrt]; exact trodAll_mk1 (shut_bool hB _)
  · rw [hargs]; exact trodAll_below hl hA.below _ _ _ _ hp hA0 (fun x hx => hlt x (List.mem_append.2 (.inl hx)))
  · rw [hv, hvars]; exact rfl
end
theorem Ret.law {P : Program} {f : Nat} {args : List Value} {W : World} {R : Ending → World → Prop} (h : Ret P f args W (fun _ => False) fun v _ => v = .bool true)
    (hR : ∀ W', Agree (fun _ => False) W W' → R (.returned (.bool true)) W') : Calls P f args.toArray W R :=
  Calls.mono (show Calls P f args.toArray W _ from h) fun e W' he => by
    obtain ⟨v, rfl, hag, rfl⟩ := he
    exact hR W' hag
class TermTy (P : Program) (T : TypeId) : Prop where
  ex : ∃ fs I S L, P.underlying T = some (.struct fs) ∧ fs.toList.map (fun f => (f.type, f.offset)) = [(I, 0), (I, 1), (I, 2), (S, 3), (L, 4)] ∧ P.underlying I = some (.int .i64) ∧ P.underlying S = some .string ∧ P.underlying L = some (.slice T) ∧
    P.cellsOf T = 5 ∧ P.cellsOf I = 1 ∧ P.cellsOf S = 1 ∧ P.cellsOf L = 1
theorem LsIn.of_all {w : World} {ad : Addr} : ∀ {i : Nat} {ks : List LTerm}, (∀ k t, ks[k]? = some t → (∀ j v, t.cells[j]? = some v → w.cell? (ad.add ((i + k) * 5 + j)) = some v) ∧ LtIn w t) → LsIn w (some ad) i ks
  | i, [], _ => trivial
  | i, x :: xs, h => by
    have h0 := h 0 x rfl
    refine ⟨⟨ad, rfl, by simpa using h0.1⟩, h0.2, LsIn.of_all fun k t hk => ?_⟩
    have h1 := h (k + 1) t (by simpa using hk)
    rw [show i + (k + 1) = i + 1 + k from by omega] at h1
    exact h1
instance : Inhabited LTerm := ⟨zeroL⟩
theorem len5 {α : Type} {l : List α} (h : l.length = 5) : ∃ a b c d e, l = [a, b, c, d, e] := by
  match l, h with
  | [a, b, c, d, e], _ => exact ⟨a, b, c, d, e, rfl⟩
section
variable {H : Type} {enc : TypeId × Value → H} {P : Program} {w : World} {base : Nat} {spare : Nat → Bool} {held : Bool} {T : TypeId}
theorem term_of_trod [hT : TermTy P T] : ∀ (fuel : Nat) (cs : List Value) (x : DataW H × List MemPlace), DataW.trod enc P w base spare held fuel T cs = some x → ∃ t : LTerm, cs = t.cells ∧ LtIn w t := by
  obtain ⟨fs, I, S, L, hu, hf, hI, hS, hL, c1, c2, c3, c4⟩ := hT.ex
  intro fuel
  induction fuel using Nat.strongRecOn with
  | _ fuel ih =>
  intro cs x h
  obtain ⟨xs, n, rfl, rfl, hlen, hxl, hx⟩ := DataW.trod_struct hu h
  rw [c1] at hlen
  obtain ⟨a, b, c, d, e, rfl⟩ := len5 hlen
  have hfl : fs.size = 5 := by
    have := congrArg List.length hf
    simpa using this
  rw [hfl] at hxl
  obtain ⟨x0, x1, x2, x3, x4, rfl⟩ := len5 hxl
  have fld : ∀ (i : Nat) (t o : Nat), (fs.toList.map (fun f => (f.type, f.offset)))[i]? = some (t, o) → ∃ f, fs[i]? = some f ∧ f.type = t ∧ f.offset = o := by
    intro i t o hi
    rw [List.getElem?_map] at hi
    obtain ⟨f, hf1, hf2⟩ := Option.map_eq_some_iff.1 hi
    simp only [Prod.mk.injEq] at hf2
    exact ⟨f, by simpa using hf1, hf2.1, hf2.2⟩
  rw [hf] at fld
  obtain ⟨f0, q0, t0, o0⟩ := fld 0 I 0 rfl
  obtain ⟨f1, q1, t1, o1⟩ := fld 1 I 1 rfl
  obtain ⟨f2, q2, t2, o2⟩ := fld 2 I 2 rfl
  obtain ⟨f3, q3, t3, o3⟩ := fld 3 S 3 rfl
  obtain ⟨f4, q4, t4, o4⟩ := fld 4 L 4 rfl
  have r0 := hx 0 f0 q0
  have r1 := hx 1 f1 q1
  have r2 := hx 2 f2 q2
  have r3 := hx 3 f3 q3
  have r4 := hx 4 f4 q4
  rw [t0, o0, c2] at r0
  rw [t1, o1, c2] at r1
  rw [t2, o2, c2] at r2
  rw [t3, o3, c3] at r3
  rw [t4, o4, c4] at r4
  obtain ⟨k, e0, _, _⟩ := DataW.trod_int hI r0
  obtain ⟨u, e1, _, _⟩ := DataW.trod_int hI r1
  obtain ⟨m, e2, _, _⟩ := DataW.trod_int hI r2
  obtain ⟨s, e3, _, _⟩ := DataW.trod_string hS r3
  simp at e0 e1 e2 e3
  subst e0 e1 e2 e3
  have hstr : ∀ s : ByteArray, Value.string s = str s.data.toList := fun s => by simp [str]
  rcases DataW.trod_slice hL r4 with ⟨e4, _⟩ | ⟨ad, len, cap, elems, rest, n', rfl, e4, _, _, hlc, hcm, hel, hem, _, _⟩
  · simp at e4
    subst e4
    exact ⟨.mk k u m s.data.toList none 0 [], by simp [LTerm.cells, LTerm.kind, LTerm.user, LTerm.num, LTerm.text, LTerm.p, LTerm.cap, LTerm.kids, hstr], by simp [LtIn, LsIn]⟩
  · simp at e4
    subst e4
    obtain ⟨g, hg⟩ := choose_lt (α := LTerm) (p := fun i t => w.cells? base (ad.add (i * 5)) 5 = some t.cells ∧ LtIn w t) (n := len) (fun i hi => by
      have h1 := hem i hi
      rw [c1, List.getElem?_eq_getElem (by omega)] at h1
      obtain ⟨cs', h2, h3⟩ := Option.bind_eq_some_iff.1 h1
      obtain ⟨t, rfl, ht⟩ := ih n' (by omega) cs' _ h3
      exact ⟨t, h2, ht⟩)
    refine ⟨.mk k u m s.data.toList (some ad) cap ((List.range len).map g), by simp [LTerm.cells, LTerm.kind, LTerm.user, LTerm.num, LTerm.text, LTerm.p, LTerm.cap, LTerm.kids, hstr], ?_⟩
    rw [LtIn]
    refine ⟨by simpa using hlc, hcm, LsIn.of_all fun i t ht => ?_⟩
    have hi : i < len := by
      rcases Nat.lt_or_ge i len with h | h
      · exact h
      · rw [List.getElem?_eq_none (by simpa using h)] at ht; cases ht
    have : t = g i := by simpa [hi] using ht.symm
    subst this
    obtain ⟨hc, hin⟩ := hg i hi
    refine ⟨fun j v hj => ?_, hin⟩
    obtain ⟨_, _, h5⟩ := World.cells?_some hc
    have hj5 : j < 5 := by
      have := (List.getElem?_eq_some_iff.1 hj).1
      simpa [LTerm.cells] using this
    have := h5 j hj5
    rw [Go.Deep.add_add, hj] at this
    simpa using this
end
mutual
theorem LtIn.mono {w w' : World} (h : ∀ ad v, w.cell? ad = some v → w'.cell? ad = some v) : ∀ t : LTerm, LtIn w t → LtIn w' t
  | .mk _ _ _ _ _ _ kids, ⟨h1, h2, h3⟩ => ⟨h1, h2, LsIn.mono h kids h3⟩
theorem LsIn.mono {w w' : World} (h : ∀ ad v, w.cell? ad = some v → w'.cell? ad = some v) : ∀ {p : Option Addr} {i : Nat} (ts : List LTerm), LsIn w p i ts → LsIn w' p i ts
  | _, _, [], _ => trivial
  | _, _, t :: ts, ⟨⟨ad, hp, hc⟩, h2, h3⟩ => ⟨⟨ad, hp, fun j v hj => h _ _ (hc j v hj)⟩, LtIn.mono h t h2, LsIn.mono h ts h3⟩
end
theorem cell_agree {w w' : World} (h : Agree (fun _ => False) w w') {ad : Addr} {v : Value} (hc : w.cell? ad = some v) : w'.cell? ad = some v := by
  have hlt : ad.block < w.heap.size := by
    rcases Nat.lt_or_ge ad.block w.heap.size with h' | h'
    · exact h'
    · unfold World.cell? at hc; rw [Array.getElem?_eq_none h'] at hc; cases hc
  rw [World.cell?_of_block (w := w) (h.below.block _ hlt)]
  exact hc
end Go.Wk
namespace Go.Proofs.Ytibkkbknnfehlaa
open Go Go.Wk
set_option synthInstance.maxSize 100000
set_option synthInstance.maxHeartbeats 400000
set_option maxRecDepth 100000
theorem drop_rep (n m : Nat) (z : Value) : ((List.replicate (n + m) [z]).flatten).drop (n * 1) = List.replicate m z := by
  have h : ∀ k, (List.replicate k [z]).flatten = List.replicate k z := fun k => by
    induction k with
    | zero => rfl
    | succ k ih => rw [List.replicate_succ, List.flatten_cons, ih]; rfl
  rw [h, List.drop_replicate]
  congr 1; omega
theorem enc_set1 (l1 l2 : List UInt8) (y y' : UInt8) : (encL (l1 ++ y :: l2)).take l1.length ++ [.int .u8 (y'.toNat : Int)] ++ (encL (l1 ++ y :: l2)).drop (l1.length + 1) = encL (l1 ++ y' :: l2) := by
  have h1 : (encL l1).length = l1.length := by rw [encL_len]; exact Nat.mul_one _
  have e : encL (l1 ++ y :: l2) = encL l1 ++ (.int .u8 (y.toNat : Int) :: encL l2) := by rw [encL_append, encL_cons]; rfl
  rw [e, ← h1, List.take_left, List.drop_append, List.drop_of_length_le (by omega), encL_append, encL_cons]
  simp [Enc.cells]
theorem lay16_c (p : Option Addr) (n c : Nat) (b : List UInt8) (v : Int) (w0 : World) (hn : b.length = n) (hb : n ≤ 1073741824) (hv : 0 ≤ v) (hv' : v ≤ 65535) (hs : Stable (fun _ => False) w0 (SlF p (encL b))) :
    Ret Try.prog 85 [.slice p n c, .int .u16 v, .int .i64 2] w0 (fun _ => False) fun r w' => ∃ g, r = .slice (some ⟨g, 0, none⟩) (n + 2) (n + 2) ∧ w0.heap.size ≤ g ∧ w'.ownsRow 0 5 1 (.slice (some ⟨g, 0, none⟩) (n + 2) (n + 2)) (n + 2) (encL (b ++ be 2 v)) := by
  have hln : LenN b n := ⟨hn⟩
  refine enter Try.func85 rfl rfl (Wd.begin (fs := [SlF p (encL b)]) (by simpa using hs)) (fun a S => ?_)
  simp only [Try.ntmps85, List.length_cons, List.length_nil, Nat.reduceAdd, Nat.reduceSub, List.replicate_succ, List.replicate_zero, List.cons_append, List.nil_append] at S
  refine c_seq ?_; refine c_region ?_; refine sq S ?_; clear S; intro a S; refine wl_nil ?_; refine xtn ?_; refine c_seq ?_; refine c_region ?_; (iterate 4 (refine sq S ?_; clear S; intro a S))
  rw [w64 ((n : Int) + 2) (by omega) (by omega)] at S
  refine smk (n + 2) S (by omega) (by omega) (by omega) (by simp only [maxLen]; omega) ?_; clear S; intro g a w S
  refine sq S ?_; clear S; intro a S; refine wl_nil ?_; refine xtn ?_; refine c_seq ?_; refine c_region ?_; (iterate 2 (refine sq S ?_; clear S; intro a S))
  refine scp S (by omega) ?_; clear S; intro a w S
  rw [drop_rep] at S
  refine wl_nil ?_; refine xtn ?_; (iterate 2 (refine c_seq ?_)); refine c_region ?_; (iterate 2 (refine sq S ?_; clear S; intro a S)); refine wl_nil ?_; refine xtn ?_; refine c_block ?_
  refine c_loop (ι := Nat) (fun k a w => k ≤ 2 ∧ ∃ uu : Nat → Value,  St w0 (fun _ => False) [] a w ((.slice p n c) :: (.int .u16 v) :: (.int .i64 2) :: uu 3 :: uu 4 :: uu 5 :: uu 6 :: (.slice (some ⟨g, 0, none⟩) (n + 2) (n + 2)) :: uu 8 :: uu 9 :: uu 10 :: uu 11 :: uu 12 :: uu 13 :: uu 14 :: uu 15 :: uu 16 :: (.int .i64 2) :: (.int .i64 (k : Nat)) :: uu 19 :: uu 20 :: uu 21 :: uu 22 :: uu 23 :: uu 24 :: uu 25 :: uu 26 :: uu 27 :: uu 28 :: uu 29 :: uu 30 :: uu 31 :: uu 32 :: uu 33 :: uu 34 :: uu 35 :: uu 36 :: uu 37 :: []) [row 5 1 (some ⟨g, 0, none⟩) (n + 2) (n + 2) (encL (b ++ ((be 2 v).take k ++ List.replicate (2 - k) 0)))] [SlF p (encL b)]) (fun k => 2 - k) 0 ?_ ?_
  · rw [show encL b ++ List.replicate 2 (Value.int .u8 0) = encL (b ++ ((be 2 v).take 0 ++ List.replicate (2 - 0) 0)) from by rw [encL_append]; rfl] at S
    exact ⟨Nat.zero_le _, S.uu, S⟩
  · clear S
    rintro k a w ⟨hk, uu, S⟩
    refine c_seq ?_; refine c_region ?_; refine sq S ?_; clear S; intro a S; refine wl_nil ?_; refine xtn ?_; refine c_seq ?_
    refine c_cond S (fun h4 => ?_) (fun h4 => ?_)
    · refine c_skip ?_; refine xtn ?_; refine c_seq ?_; refine c_block ?_; refine c_seq ?_; refine c_region ?_; (iterate 2 (refine sq S ?_; clear S; intro a S)); refine wl_nil ?_; refine xtn ?_; refine c_region ?_; (iterate 4 (refine sq S ?_; clear S; intro a S))
      have hk2 : k < 2 := by simp at h4; omega
      refine sq S ?_; clear S; intro a S
      rw [w64 ((n : Int) + (k : Int)) (by omega) (by omega), show (n : Int) + (k : Int) = ((n + k : Nat) : Int) from by omega] at S
      (iterate 2 (refine sq S ?_; clear S; intro a S))
      rw [wu64 v (by omega) (by omega)] at S
      (iterate 2 (refine sq S ?_; clear S; intro a S))
      rw [show IntKind.i64.wrap (2 - 1) = 1 from rfl] at S
      (iterate 2 (refine sq S ?_; clear S; intro a S))
      rw [w64 (1 - (k : Int)) (by omega) (by omega)] at S
      refine sq S ?_; clear S; intro a S
      rw [w64 (8 * (1 - (k : Int))) (by omega) (by omega), show 8 * (1 - (k : Int)) = ((8 * (2 - 1 - k) : Nat) : Int) from by omega] at S
      refine sq S ?_; clear S; intro a S
      rw [show min (8 * (2 - 1 - k)) IntKind.u64.bits = 8 * (2 - 1 - k) from Nat.min_eq_left (by simp only [IntKind.bits]; omega)] at S
      refine sq S ?_; clear S; intro a S
      rw [u8_wrap] at S
      have hK : KLt (n + k) (n + 2) := ⟨by omega⟩
      refine sq S ?_; clear S; intro a S
      refine sws S (n + 2) (by omega) (by omega) ?_; clear S; intro a w S
      refine wl_nil ?_; refine xbn ?_; refine xtn ?_; refine c_region ?_; (iterate 2 (refine sq S ?_; clear S; intro a S)); refine wl_nil ?_; refine xtn ?_
      rw [w64 ((k : Int) + 1) (by omega) (by omega)] at S
      have e : encL (b ++ ((be 2 v).take (k + 1) ++ List.replicate (2 - (k + 1)) 0)) = (encL (b ++ ((be 2 v).take k ++ List.replicate (2 - k) 0))).take (n + k) ++ [.int .u8 ((Wk.u8 (v.fdiv (2 ^ (8 * (2 - 1 - k))))).toNat : Int)] ++ (encL (b ++ ((be 2 v).take k ++ List.replicate (2 - k) 0))).drop (n + k + 1) := by
        have hk2 : k = 0 ∨ k = 1 := by omega
        rcases hk2 with rfl | rfl
        · have := enc_set1 b [0] 0 (Wk.u8 (v.fdiv (2 ^ (8 * (2 - 1 - 0)))))
          rw [hn] at this
          exact this.symm
        · have := enc_set1 (b ++ [Wk.u8 (v.fdiv (2 ^ 8))]) [] 0 (Wk.u8 (v.fdiv (2 ^ (8 * (2 - 1 - 1)))))
          rw [List.length_append, hn] at this
          simp only [List.append_assoc] at this ⊢
          exact this.symm
      rw [List.length_singleton, ← e] at S
      exact ⟨k + 1, ⟨by omega, S.uu, S⟩, by omega⟩
    · refine c_exit ?_; (iterate 2 (refine xte ?_)); refine xbe ?_; refine xtn ?_; refine c_seq ?_; refine c_region ?_; (iterate 2 (refine sq S ?_; clear S; intro a S)); refine wl_nil ?_; refine xtn ?_; refine c_ret ?_
      have hk2 : k = 2 := by simp at h4; omega
      subst hk2
      have hrow := S.row (some ⟨g, 0, none⟩) (n + 2)
      have hnew := S.rowNew (some ⟨g, 0, none⟩) (n + 2)
      refine end1 S (fun _ => ⟨g, rfl, ?_, ?_⟩)
      · exact (hnew _ rfl).elim (fun h => h.elim) id
      · rw [List.take_of_length_le (by simp [be]), show List.replicate (2 - 2) (0 : UInt8) = [] from rfl, List.append_nil] at hrow
        exact hrow
theorem put16_c (p : Option Addr) (n c : Nat) (b : List UInt8) (v : Int) (w0 : World) (hn : b.length = n) (hb : n ≤ 1073741824) (hv : 0 ≤ v) (hv' : v ≤ 65535) (hs : Stable (fun _ => False) w0 (SlF p (encL b))) :
    Ret Try.prog 82 [.slice p n c, .int .u16 v] w0 (fun _ => False) fun r w' => ∃ g, r = .slice (some ⟨g, 0, none⟩) (n + 2) (n + 2) ∧ w0.heap.size ≤ g ∧ w'.ownsRow 0 5 1 (.slice (some ⟨g, 0, none⟩) (n + 2) (n + 2)) (n + 2) (encL (b ++ be 2 v)) := by
  refine enter Try.func82 rfl rfl (Wd.begin (fs := [SlF p (encL b)]) (by simpa using hs)) (fun a S => ?_)
  simp only [Try.ntmps82, List.length_cons, List.length_nil, Nat.reduceAdd, Nat.reduceSub, List.replicate_succ, List.replicate_zero, List.cons_append, List.nil_append] at S
  refine c_seq ?_; refine c_region ?_; refine sq S ?_; clear S; intro a S; refine wl_nil ?_; refine xtn ?_; refine c_seq ?_; refine c_region ?_; (iterate 2 (refine sq S ?_; clear S; intro a S))
  refine srn S (lay16_c p n c b v _ hn hb hv hv' ((S.fact (Φ := SlF p (encL b)) (by simp)).less fun _ _ h => h.elim)) ?_; clear S; rintro _ a w1 ⟨g, rfl, hg, hown⟩ - S
  refine sq S ?_; clear S; intro a S; refine wl_nil ?_; refine xtn ?_; refine c_ret ?_
  exact end1 S (fun _ => ⟨g, rfl, hg, hown⟩)
def idxQ (q : LTerm → Bool) : List LTerm → Int → Int
  | [], _ => -1
  | x :: xs, i => if q x then i else idxQ q xs (i + 1)
theorem idxQ_any (q : LTerm → Bool) : ∀ (xs : List LTerm) (i : Int), 0 ≤ i → (decide (0 ≤ idxQ q xs i) = xs.any q)
  | [], i, h => by simp [idxQ]
  | x :: xs, i, h => by
    rw [idxQ, List.any_cons]
    cases hq : q x with
    | true => simp [h]
    | false => simpa using idxQ_any q xs (i + 1) (by omega)
theorem index_c (F : Nat) [EntF Try.prog F] (ca : List Value) (q : LTerm → Bool) (xs : List LTerm) (p : Option Addr) (n c : Nat) (w0 : World) (hn : xs.length = n) (hl : n ≤ 9223372036854775807) (hx : Stable (fun _ => False) w0 (LsF p 0 xs))
    (hF : ∀ x ∈ xs, ∀ w, Agree (fun _ => False) w0 w → Ret Try.prog F (vL x :: ca) w (fun _ => False) fun v _ => v = .bool (q x)) :
    Ret Try.prog 60 [.slice p n c, .func (.func F) #[] ⟨ca⟩] w0 (fun _ => False) fun v _ => v = .int .i64 (idxQ q xs 0) := by
  refine enter Try.func60 rfl rfl (Wd.begin (fs := [LsF p 0 xs]) (by simpa using hx)) (fun a S => ?_)
  simp only [Try.ntmps60, List.length_cons, List.length_nil, Nat.reduceAdd, Nat.reduceSub, List.replicate_succ, List.replicate_zero, List.cons_append, List.nil_append] at S
  refine c_seq ?_; refine c_region ?_; refine sq S ?_; clear S; intro a S; refine wl_nil ?_; refine xtn ?_; (iterate 2 (refine c_seq ?_)); refine c_region ?_; (iterate 3 (refine sq S ?_; clear S; intro a S)); refine wl_nil ?_; refine xtn ?_; refine c_block ?_
  refine c_loop (ι := Nat) (fun k a w => k ≤ n ∧ idxQ q (xs.drop k) k = idxQ q xs 0 ∧ ∃ uu : Nat → Value,  St w0 (fun _ => False) [] a w ((.slice p n c) :: (.func (.func F) #[] ⟨ca⟩) :: uu 2 :: uu 3 :: uu 4 :: uu 5 :: uu 6 :: (.int .i64 n) :: (.int .i64 (k : Nat)) :: uu 9 :: uu 10 :: uu 11 :: uu 12 :: uu 13 :: uu 14 :: uu 15 :: uu 16 :: uu 17 :: uu 18 :: []) [] [LsF p 0 xs]) (fun k => n - k) 0 ?_ ?_
  · exact ⟨Nat.zero_le _, rfl, S.uu, S⟩
  · clear S
    rintro k a w ⟨hk, hrel, uu, S⟩
    refine c_seq ?_; refine c_region ?_; refine sq S ?_; clear S; intro a S; refine wl_nil ?_; refine xtn ?_; refine c_seq ?_
    refine c_cond S (fun h2 => ?_) (fun h2 => ?_)
    · refine c_skip ?_; refine xtn ?_; refine c_seq ?_; refine c_block ?_; refine c_seq ?_; refine c_region ?_; (iterate 2 (refine sq S ?_; clear S; intro a S)); refine wl_nil ?_; refine xtn ?_; refine c_seq ?_; refine c_region ?_; (iterate 3 (refine sq S ?_; clear S; intro a S))
      have hkl : k < n := by simp at h2; omega
      have hK : KLt k n := ⟨hkl⟩
      have hK2 : KLt k xs.length := ⟨by omega⟩
      (iterate 2 (refine sq S ?_; clear S; intro a S))
      rw [nth_drop (show k < xs.length by omega), idxQ] at hrel
      refine sr S (hF (nthL xs k) (nth_mem (by omega)) w S.wd.agree) ?_; clear S; rintro _ a w rfl S
      refine wl_nil ?_; refine xtn ?_
      refine c_cond S (fun h4 => ?_) (fun h4 => ?_)
      · refine c_seq ?_; refine c_region ?_; (iterate 2 (refine sq S ?_; clear S; intro a S)); refine wl_nil ?_; refine xtn ?_; refine c_ret ?_; refine xbr ?_; (iterate 2 (refine xtr ?_)); refine xbr ?_; refine xtr ?_
        refine end1 S (fun _ => ?_)
        rw [if_pos (by simpa using h4)] at hrel
        rw [← hrel]
      · refine c_skip ?_; refine xbn ?_; refine xtn ?_; refine c_region ?_; (iterate 2 (refine sq S ?_; clear S; intro a S)); refine wl_nil ?_; refine xtn ?_
        rw [if_neg (by simpa using h4)] at hrel
        rw [w64 ((k : Int) + 1) (by omega) (by omega)] at S
        exact ⟨k + 1, ⟨hkl, by rw [← hrel]; rfl, S.uu, S⟩, by omega⟩
    · refine c_exit ?_; (iterate 2 (refine xte ?_)); refine xbe ?_; refine xtn ?_; refine c_seq ?_; refine c_region ?_; refine sq S ?_; clear S; intro a S; refine wl_nil ?_; refine xtn ?_; refine c_ret ?_
      refine end1 S (fun _ => ?_)
      have h6 : n ≤ k := by simp at h2; omega
      rw [List.drop_of_length_le (by omega), idxQ] at hrel
      rw [← hrel]
theorem contains_c (F : Nat) [EntF Try.prog F] (ca : List Value) (q : LTerm → Bool) (xs : List LTerm) (p : Option Addr) (n c : Nat) (w0 : World) (hn : xs.length = n) (hl : n ≤ 9223372036854775807) (hx : Stable (fun _ => False) w0 (LsF p 0 xs))
    (hF : ∀ x ∈ xs, ∀ w, Agree (fun _ => False) w0 w → Ret Try.prog F (vL x :: ca) w (fun _ => False) fun v _ => v = .bool (q x)) :
    Ret Try.prog 41 [.slice p n c, .func (.func F) #[] ⟨ca⟩] w0 (fun _ => False) fun v _ => v = .bool (xs.any q) := by
  refine enter Try.func41 rfl rfl (Wd.begin (fs := [LsF p 0 xs]) (by simpa using hx)) (fun a S => ?_)
  simp only [Try.ntmps41, List.length_cons, List.length_nil, Nat.reduceAdd, Nat.reduceSub, List.replicate_succ, List.replicate_zero, List.cons_append, List.nil_append] at S
  refine c_seq ?_; refine c_region ?_; refine sq S ?_; clear S; intro a S; refine wl_nil ?_; refine xtn ?_; refine c_seq ?_; refine c_region ?_; (iterate 2 (refine sq S ?_; clear S; intro a S))
  refine sr S (index_c F ca q xs p n c _ hn hl (S.mem.fact0 (LsF p 0 xs)) (fun x hx w' hw' => hF x hx w' (S.wd.agree.trans hw'))) ?_; clear S; rintro _ a w rfl S
  (iterate 2 (refine sq S ?_; clear S; intro a S)); refine wl_nil ?_; refine xtn ?_; refine c_ret ?_
  refine end1 S (fun _ => ?_)
  rw [← idxQ_any q xs 0 (by omega)]
def put1 (k : Int) (s : List UInt8) : List UInt8 := if hasF (fieldsOf k) 1 then Wk.u8 s.length :: s else []
def put2 (k u : Int) : List UInt8 := if hasF (fieldsOf k) 2 then [Wk.u8 u] else []
def put4 (k n : Int) : List UInt8 := if hasF (fieldsOf k) 4 then be 2 (IntKind.u16.wrap n) else []
def headF (k u n : Int) (s : List UInt8) : List UInt8 := [Wk.u8 k] ++ put1 k s ++ put2 k u ++ put4 k n
mutual
def bytesF : Term → List UInt8
  | .mk k u n s ks => headF k u n s ++ bytesLF ks
def bytesLF : List Term → List UInt8
  | [] => []
  | t :: ts => bytesF t ++ bytesLF ts
end
theorem wu16_range (n : Int) : 0 ≤ IntKind.u16.wrap n ∧ IntKind.u16.wrap n ≤ 65535 := by
  unfold IntKind.wrap
  simp only [IntKind.bits, IntKind.signed, Bool.false_and]
  simp; omega
theorem sl_stable {w : World} {e : TypeId} {sz : Nat} {p : Option Addr} {n c : Nat} {xs : List Value} (h : w.ownsRow 0 e sz (.slice p n c) n xs) : Stable (fun _ => False) w (SlF p xs) := (own_sl h).stable fun _ _ h => h
def Grew (w0 w' : World) (p : Option Addr) (b : List UInt8) (v : Value) : Prop := ∃ p' c', v = .slice p' b.length c' ∧ w'.ownsRow 0 5 1 (.slice p' b.length c') b.length (encL b) ∧ ∀ ad, p' = some ad → (∃ ad', p = some ad' ∧ ad.block = ad'.block) ∨ w0.heap.size ≤ ad.block
theorem put_c (N : Nat) : ∀ (t : LTerm) (p : Option Addr) (n c : Nat) (b : List UInt8) (w0 : World), SizeOf.sizeOf t ≤ N → b.length = n → n + (bytesF t.t).length ≤ 1073741824 → w0.ownsRow 0 5 1 (.slice p n c) n (encL b) → Stable (fun k => ∃ ad, p = some ad ∧ k = ad.block) w0 (LtF t) →
    Ret Try.prog 76 [.slice p n c, vL t] w0 (fun k => ∃ ad, p = some ad ∧ k = ad.block) fun v w' => Grew w0 w' p (b ++ bytesF t.t) v := by
  induction N with
  | zero => intro t _ _ _ _ _ h; cases t; simp at h
  | succ N ih =>
  intro t p n c b w0 hN hbn hbd hown hf
  have hlen := LTerm.len_le hf
  have e0 : bytesF t.t = headF t.kind t.user t.num t.text ++ bytesLF (t.kids.map LTerm.t) := by rw [t.t_eq, bytesF]
  have hL : n + (1 + (put1 t.kind t.text).length + (put2 t.kind t.user).length + (put4 t.kind t.num).length + (bytesLF (t.kids.map LTerm.t)).length) ≤ 1073741824 := by
    rw [e0] at hbd; simp only [headF, List.length_append, List.length_singleton] at hbd; omega
  refine enter Try.func76 rfl rfl (Wd.rowLent (fs := [LtF t]) hown (by simpa using hf)) (fun a S => ?_)
  simp only [Try.ntmps76, List.length_cons, List.length_nil, Nat.reduceAdd, Nat.reduceSub, List.replicate_succ, List.replicate_zero, List.cons_append, List.nil_append] at S
  refine c_seq ?_; refine c_region ?_
  refine sa S ?_; clear S; intro b3 a w S
  refine sq S ?_; clear S; intro a S; refine wl_nil ?_; refine xtn ?_; refine c_seq ?_; refine c_region ?_; (iterate 2 (refine sq S ?_; clear S; intro a S)); refine sc S ?_; clear S; intro a w S; refine sq S ?_; clear S; intro a S; refine wl_nil ?_; refine xtn ?_; refine c_seq ?_; refine c_region ?_; (iterate 4 (refine sq S ?_; clear S; intro a S))
  refine sn S ?_; clear S; intro b15 a w S
  refine sap S (by simp only [maxLen]; omega) (by omega) ?_; clear S; intro p1 c1 a w _ S
  rw [show encL b ++ [Value.int .u8 (IntKind.u8.wrap t.kind)] = encL (b ++ ([Wk.u8 t.kind])) from by rw [encL_append, u8_wrap]; rfl] at S
  refine sq S ?_; clear S; intro a S; refine wl_nil ?_; refine xtn ?_
  have hm1 : n + 1 = (b ++ ([Wk.u8 t.kind])).length := by rw [List.length_append, hbn]; rfl
  generalize n + 1 = m1 at S hm1
  refine c_merge (fun a w => ∃ (p' : Option Addr) (c' m : Nat), m = (b ++ ([Wk.u8 t.kind] ++ put1 t.kind t.text)).length ∧ ∃ uu : Nat → Value,  St w0 (fun k => ∃ ad, p = some ad ∧ k = ad.block) [] a w ((.slice p' m c') :: (vL t) :: uu 2 :: (.pointer (some ⟨b3, 0, none⟩)) :: (.slice none 0 0) :: (.int .i64 (fieldsOf t.kind)) :: uu 6 :: uu 7 :: uu 8 :: uu 9 :: uu 10 :: uu 11 :: uu 12 :: uu 13 :: uu 14 :: uu 15 :: uu 16 :: uu 17 :: uu 18 :: uu 19 :: uu 20 :: uu 21 :: uu 22 :: uu 23 :: uu 24 :: uu 25 :: uu 26 :: uu 27 :: uu 28 :: uu 29 :: uu 30 :: uu 31 :: uu 32 :: uu 33 :: uu 34 :: uu 35 :: uu 36 :: uu 37 :: uu 38 :: uu 39 :: uu 40 :: uu 41 :: uu 42 :: uu 43 :: uu 44 :: uu 45 :: uu 46 :: uu 47 :: uu 48 :: uu 49 :: uu 50 :: uu 51 :: uu 52 :: uu 53 :: uu 54 :: uu 55 :: []) [box b3 37 t.cells, row 5 1 p' m c' (encL (b ++ ([Wk.u8 t.kind] ++ put1 t.kind t.text)))] [LtF t]) ?_ ?_
  · refine c_seq ?_; refine c_region ?_; refine sq S ?_; clear S; intro a S; refine sc S ?_; clear S; intro a w S; refine wl_nil ?_; refine xtn ?_
    refine c_cond S (fun h3 => ?_) (fun h3 => ?_)
    · refine c_drawE [(0, true), (1, true), (2, true), (3, true), (4, true), (7, true), (8, true), (5, false), (6, false), (9, false), (10, true)] [box b3 37 t.cells] S ?_; clear S; intro w S
      (iterate 7 (refine dq S ?_; clear S; intro a S)); refine dl ?_
      refine sn S ?_; clear S; intro b24 a w S
      refine de S ?_; refine dl ?_
      have h3' : hasF (fieldsOf t.kind) 1 = true := h3
      have e1 : put1 t.kind t.text = Wk.u8 t.text.length :: t.text := by rw [put1, if_pos h3']
      have hl1 : (put1 t.kind t.text).length = t.text.length + 1 := by rw [e1]; rfl
      have hm2 : m1 = n + 1 := by rw [hm1, List.length_append, hbn]; rfl
      refine sap S (by simp only [maxLen]; omega) (by omega) ?_; clear S; intro p2 c2 a w _ S
      refine de S ?_; refine dl ?_
      refine sap S (by simp only [maxLen]; omega) (by omega) ?_; clear S; intro p3 c3 a w _ S
      rw [show encL (b ++ ([Wk.u8 t.kind])) ++ [Value.int .u8 (IntKind.u8.wrap (t.text.length : Int))] ++ encL t.text = encL (b ++ ([Wk.u8 t.kind] ++ put1 t.kind t.text)) from by rw [e1, u8_wrap]; simp [encL, Enc.cells]] at S
      refine de S ?_; refine dq S ?_; clear S; intro a S; refine dn ?_; refine xtn ?_
      replace S := S.sub [box b3 37 t.cells, row 5 1 p3 (m1 + 1 + t.text.length) c3 (encL (b ++ ([Wk.u8 t.kind] ++ put1 t.kind t.text)))] [LtF t]
      exact ⟨p3, c3, _, by rw [hm2, List.length_append, List.length_append, hl1, hbn]; simp; omega, S.uu, S⟩
    · refine c_skip ?_; refine xtn ?_
      have h3' : ¬ hasF (fieldsOf t.kind) 1 = true := by simpa using h3
      have e1 : put1 t.kind t.text = [] := by rw [put1, if_neg h3']
      rw [show b ++ ([Wk.u8 t.kind]) = b ++ ([Wk.u8 t.kind] ++ put1 t.kind t.text) from by rw [e1, List.append_nil]] at S hm1
      replace S := S.sub [box b3 37 t.cells, row 5 1 p1 m1 c1 (encL (b ++ ([Wk.u8 t.kind] ++ put1 t.kind t.text)))] [LtF t]
      exact ⟨p1, c1, m1, hm1, S.uu, S⟩
  · clear S; rintro a w ⟨p', c', m, hm, uu, S⟩
    have hlm : m = n + 1 + (put1 t.kind t.text).length := by rw [hm]; simp [hbn]; omega
    refine c_merge (fun a w => ∃ (p' : Option Addr) (c' m : Nat), m = (b ++ ([Wk.u8 t.kind] ++ put1 t.kind t.text ++ put2 t.kind t.user)).length ∧ ∃ uu : Nat → Value,  St w0 (fun k => ∃ ad, p = some ad ∧ k = ad.block) [] a w ((.slice p' m c') :: (vL t) :: uu 2 :: (.pointer (some ⟨b3, 0, none⟩)) :: (.slice none 0 0) :: (.int .i64 (fieldsOf t.kind)) :: uu 6 :: uu 7 :: uu 8 :: uu 9 :: uu 10 :: uu 11 :: uu 12 :: uu 13 :: uu 14 :: uu 15 :: uu 16 :: uu 17 :: uu 18 :: uu 19 :: uu 20 :: uu 21 :: uu 22 :: uu 23 :: uu 24 :: uu 25 :: uu 26 :: uu 27 :: uu 28 :: uu 29 :: uu 30 :: uu 31 :: uu 32 :: uu 33 :: uu 34 :: uu 35 :: uu 36 :: uu 37 :: uu 38 :: uu 39 :: uu 40 :: uu 41 :: uu 42 :: uu 43 :: uu 44 :: uu 45 :: uu 46 :: uu 47 :: uu 48 :: uu 49 :: uu 50 :: uu 51 :: uu 52 :: uu 53 :: uu 54 :: uu 55 :: []) [box b3 37 t.cells, row 5 1 p' m c' (encL (b ++ ([Wk.u8 t.kind] ++ put1 t.kind t.text ++ put2 t.kind t.user)))] [LtF t]) ?_ ?_
    · refine c_seq ?_; refine c_region ?_; refine sq S ?_; clear S; intro a S; refine sc S ?_; clear S; intro a w S; refine wl_nil ?_; refine xtn ?_
      refine c_cond S (fun h5 => ?_) (fun h5 => ?_)
      · refine c_region ?_; (iterate 4 (refine sq S ?_; clear S; intro a S))
        have h5' : hasF (fieldsOf t.kind) 2 = true := h5
        have e2 : put2 t.kind t.user = [Wk.u8 t.user] := by rw [put2, if_pos h5']
        have hl2 : (put2 t.kind t.user).length = 1 := by rw [e2]; rfl
        refine sn S ?_; clear S; intro b35 a w S
        refine sap S (by simp only [maxLen]; omega) (by omega) ?_; clear S; intro p2 c2 a w _ S
        rw [show encL (b ++ ([Wk.u8 t.kind] ++ put1 t.kind t.text)) ++ [Value.int .u8 (IntKind.u8.wrap t.user)] = encL (b ++ ([Wk.u8 t.kind] ++ put1 t.kind t.text ++ put2 t.kind t.user)) from by rw [e2, u8_wrap]; simp [encL, Enc.cells]] at S
        refine sq S ?_; clear S; intro a S; refine wl_nil ?_; refine xtn ?_
        replace S := S.sub [box b3 37 t.cells, row 5 1 p2 (m + 1) c2 (encL (b ++ ([Wk.u8 t.kind] ++ put1 t.kind t.text ++ put2 t.kind t.user)))] [LtF t]
        exact ⟨p2, c2, _, by rw [hm]; simp [hl2]; omega, S.uu, S⟩
      · refine c_skip ?_; refine xtn ?_
        have h5' : ¬ hasF (fieldsOf t.kind) 2 = true := by simpa using h5
        have e2 : put2 t.kind t.user = [] := by rw [put2, if_neg h5']
        rw [show b ++ ([Wk.u8 t.kind] ++ put1 t.kind t.text) = b ++ ([Wk.u8 t.kind] ++ put1 t.kind t.text ++ put2 t.kind t.user) from by rw [e2, List.append_nil]] at S hm
        exact ⟨p', c', m, hm, S.uu, S⟩
    · clear S; clear hlm hm; clear m; rintro a w ⟨p', c', m, hm, uu, S⟩
      have hlm : m = n + 1 + (put1 t.kind t.text).length + (put2 t.kind t.user).length := by rw [hm]; simp [hbn]; omega
      refine c_merge (fun a w => ∃ (p' : Option Addr) (c' m : Nat), m = (b ++ (headF t.kind t.user t.num t.text)).length ∧ ∃ uu : Nat → Value,  St w0 (fun k => ∃ ad, p = some ad ∧ k = ad.block) [] a w ((.slice p' m c') :: (vL t) :: uu 2 :: (.pointer (some ⟨b3, 0, none⟩)) :: (.slice none 0 0) :: (.int .i64 (fieldsOf t.kind)) :: uu 6 :: uu 7 :: uu 8 :: uu 9 :: uu 10 :: uu 11 :: uu 12 :: uu 13 :: uu 14 :: uu 15 :: uu 16 :: uu 17 :: uu 18 :: uu 19 :: uu 20 :: uu 21 :: uu 22 :: uu 23 :: uu 24 :: uu 25 :: uu 26 :: uu 27 :: uu 28 :: uu 29 :: uu 30 :: uu 31 :: uu 32 :: uu 33 :: uu 34 :: uu 35 :: uu 36 :: uu 37 :: uu 38 :: uu 39 :: uu 40 :: uu 41 :: uu 42 :: uu 43 :: uu 44 :: uu 45 :: uu 46 :: uu 47 :: uu 48 :: uu 49 :: uu 50 :: uu 51 :: uu 52 :: uu 53 :: uu 54 :: uu 55 :: []) [box b3 37 t.cells, row 5 1 p' m c' (encL (b ++ (headF t.kind t.user t.num t.text)))] [LtF t]) ?_ ?_
      · refine c_seq ?_; refine c_region ?_; refine sq S ?_; clear S; intro a S; refine sc S ?_; clear S; intro a w S; refine wl_nil ?_; refine xtn ?_
        refine c_cond S (fun h7 => ?_) (fun h7 => ?_)
        · refine c_region ?_; (iterate 4 (refine sq S ?_; clear S; intro a S))
          have h7' : hasF (fieldsOf t.kind) 4 = true := h7
          have e4 : put4 t.kind t.num = be 2 (IntKind.u16.wrap t.num) := by rw [put4, if_pos h7']
          have hwr := wu16_range t.num
          refine srn S (put16_c p' m c' (b ++ ([Wk.u8 t.kind] ++ put1 t.kind t.text ++ put2 t.kind t.user)) (IntKind.u16.wrap t.num) w hm.symm (by omega) hwr.1 hwr.2 (sl_stable (S.row p' m))) ?_; clear S; rintro _ a w ⟨g, rfl, hg, hown2⟩ hS -
          have S := hS hown2 (fun ad h => by cases h; exact hg)
          clear hS
          rw [show b ++ ([Wk.u8 t.kind] ++ put1 t.kind t.text ++ put2 t.kind t.user) ++ be 2 (IntKind.u16.wrap t.num) = b ++ (headF t.kind t.user t.num t.text) from by rw [headF, e4, List.append_assoc]] at S
          refine sq S ?_; clear S; intro a S; refine wl_nil ?_; refine xtn ?_
          have S2 : St w0 (fun k => ∃ ad, p = some ad ∧ k = ad.block) [] _ _ _ [box b3 37 t.cells, row 5 1 (some ⟨g, 0, none⟩) (m + 2) (m + 2) (encL (b ++ (headF t.kind t.user t.num t.text)))] [LtF t] := S.swap2
          exact ⟨_, _, _, by rw [hm, headF, e4]; simp [be]; omega, S.uu, S2⟩
        · refine c_skip ?_; refine xtn ?_
          have h7' : ¬ hasF (fieldsOf t.kind) 4 = true := by simpa using h7
          have e4 : put4 t.kind t.num = [] := by rw [put4, if_neg h7']
          rw [show b ++ ([Wk.u8 t.kind] ++ put1 t.kind t.text ++ put2 t.kind t.user) = b ++ (headF t.kind t.user t.num t.text) from by rw [headF, e4, List.append_nil]] at S hm
          exact ⟨p', c', m, hm, S.uu, S⟩
      · clear S; clear hlm hm; clear m; rintro a w ⟨p', c', m, hm, uu, S⟩
        (iterate 2 (refine c_seq ?_)); refine c_region ?_; (iterate 4 (refine sq S ?_; clear S; intro a S)); refine wl_nil ?_; refine xtn ?_; refine c_block ?_
        refine c_loop (ι := Nat) (fun k a w => k ≤ t.kids.length ∧ ∃ (p' : Option Addr) (c' m : Nat) (b' : List UInt8), m = b'.length ∧ b' ++ bytesLF ((t.kids.drop k).map LTerm.t) = b ++ bytesF t.t ∧ ∃ uu : Nat → Value,  St w0 (fun k => ∃ ad, p = some ad ∧ k = ad.block) [] a w ((.slice p' m c') :: (vL t) :: uu 2 :: (.pointer (some ⟨b3, 0, none⟩)) :: (.slice none 0 0) :: (.int .i64 (fieldsOf t.kind)) :: uu 6 :: uu 7 :: uu 8 :: uu 9 :: uu 10 :: uu 11 :: uu 12 :: uu 13 :: uu 14 :: uu 15 :: uu 16 :: uu 17 :: uu 18 :: uu 19 :: uu 20 :: uu 21 :: uu 22 :: uu 23 :: uu 24 :: uu 25 :: uu 26 :: uu 27 :: uu 28 :: uu 29 :: uu 30 :: uu 31 :: uu 32 :: uu 33 :: uu 34 :: uu 35 :: uu 36 :: uu 37 :: uu 38 :: uu 39 :: uu 40 :: uu 41 :: uu 42 :: uu 43 :: uu 44 :: (.slice t.p t.kids.length t.cap) :: (.int .i64 t.kids.length) :: (.int .i64 (k : Nat)) :: uu 48 :: uu 49 :: uu 50 :: uu 51 :: uu 52 :: uu 53 :: uu 54 :: uu 55 :: []) [box b3 37 t.cells, row 5 1 p' m c' (encL b')] [LtF t]) (fun k => t.kids.length - k) 0 ?_ ?_
        · exact ⟨Nat.zero_le _, p', c', m, _, hm, by rw [e0, List.append_assoc]; rfl, S.uu, S⟩
        · clear S; clear hm; clear m p' c'
          rintro k a w ⟨hk, p', c', m, b', hm, hrel, uu, S⟩
          refine c_seq ?_; refine c_region ?_; refine sq S ?_; clear S; intro a S; refine wl_nil ?_; refine xtn ?_; refine c_seq ?_
          refine c_cond S (fun h10 => ?_) (fun h10 => ?_)
          · refine c_skip ?_; refine xtn ?_; refine c_seq ?_; refine c_block ?_; refine c_seq ?_; refine c_region ?_
            have hkl : k < t.kids.length := by simpa using h10
            have hK : KLt k t.kids.length := ⟨hkl⟩
            (iterate 2 (refine sq S ?_; clear S; intro a S))
            refine sa S ?_; clear S; intro b7 a w S
            refine sw S ?_; clear S; intro a w S; refine wl_nil ?_; refine xtn ?_; refine c_region ?_; (iterate 2 (refine sq S ?_; clear S; intro a S))
            rw [nth_drop hkl, List.map_cons, bytesLF] at hrel
            have hbl := congrArg List.length hrel
            simp only [List.length_append, hbn] at hbl
            refine srg p' m S (ih (nthL t.kids k) p' m c' b' w (by have := LTerm.kid_lt (nth_mem hkl); omega) hm.symm (by omega) (S.row p' m) ((S.t _).less fun _ _ hk => ⟨_, HasRow.mem (p := p') (n := m), hk⟩)) ?_; clear S; rintro _ a w ⟨p2, c2, rfl, hown2, hnew2⟩ hS
            have S := hS _ hown2 hnew2
            clear hS
            refine sq S ?_; clear S; intro a S; refine wl_nil ?_; refine xbn ?_; refine xtn ?_; refine c_region ?_; (iterate 2 (refine sq S ?_; clear S; intro a S)); refine wl_nil ?_; refine xtn ?_
            rw [w64 ((k : Int) + 1) (by omega) (by omega)] at S
            replace S := S.sub [box b3 37 t.cells, row 5 1 p2 (b' ++ bytesF (nthL t.kids k).t).length c2 (encL (b' ++ bytesF (nthL t.kids k).t))] [LtF t]
            exact ⟨k + 1, ⟨hkl, p2, c2, _, _, rfl, by rw [List.append_assoc]; exact hrel, S.uu, S⟩, by omega⟩
          · refine c_exit ?_; (iterate 2 (refine xte ?_)); refine xbe ?_; refine xtn ?_; refine c_seq ?_; refine c_region ?_; (iterate 2 (refine sq S ?_; clear S; intro a S)); refine wl_nil ?_; refine xtn ?_; refine c_ret ?_
            have h9 : t.kids.length ≤ k := by simpa using h10
            rw [List.drop_of_length_le h9, List.map_nil, bytesLF, List.append_nil] at hrel
            subst hrel hm
            have hrow := S.row p' (b ++ bytesF t.t).length
            have hnew := S.rowNew p' (b ++ bytesF t.t).length
            exact end1 S (fun _ => ⟨p', c', rfl, hrow, hnew⟩)
theorem head_le {k u n : Int} {s : List UInt8} {m : Nat} (h : plainF k u n s m = true) : (headF k u n s).length ≤ 69 := by
  have h1 : s.length ≤ 64 := by
    simp only [plainF, Bool.and_eq_true, decide_eq_true_eq] at h
    omega
  have h2 : (put1 k s).length ≤ 65 := by unfold put1; split <;> simp <;> omega
  have h3 : (put2 k u).length ≤ 1 := by unfold put2; split <;> simp
  have h4 : (put4 k n).length ≤ 2 := by unfold put4; split <;> simp [be]
  simp only [headF, List.length_append, List.length_singleton]
  omega
mutual
theorem bytes_le : ∀ (t : Term) (deep left : Int), (walkF t deep left).1 = true → ((bytesF t).length : Int) ≤ 70 * (left - (walkF t deep left).2)
  | .mk k u n s ks, deep, left => by
    intro h
    rw [walkF] at h ⊢
    split at h
    · simp at h
    · rename_i hc
      rw [if_neg hc]
      have hp : plainF k u n s ks.length = true := by
        cases hb : plainF k u n s ks.length with
        | true => rfl
        | false => exact absurd (.inr (.inr hb)) hc
      have h1 := head_le hp
      have h2 := bytesL_le ks (deep + 1) (left - 1) h
      rw [bytesF, List.length_append]
      omega
theorem bytesL_le : ∀ (ts : List Term) (deep left : Int), (walkLF ts deep left).1 = true → ((bytesLF ts).length : Int) ≤ 70 * (left - (walkLF ts deep left).2)
  | [], deep, left => by intro _; simp [bytesLF, walkLF]
  | t :: ts, deep, left => by
    intro h
    rw [walkLF] at h ⊢
    split at h
    · rename_i hc
      rw [if_pos hc]
      have h1 := bytes_le t deep left hc
      have h2 := bytesL_le ts deep _ h
      rw [bytesLF, List.length_append]
      omega
    · simp at h
end
theorem bytes_small {t : Term} (h : sizeF t ≠ 0) : (bytesF t).length ≤ 84000 := by
  unfold sizeF at h
  split at h
  · rename_i hc
    have h1 := bytes_le t 1 1200 hc
    have h2 := walkF_ge t 1 1200 (by omega) hc
    omega
  · exact absurd rfl h
def nameF (t : Term) : List UInt8 := if sizeF t = 0 then [] else bytesF t
theorem encode_c (t : LTerm) (w0 : World) (hf : Stable (fun _ => False) w0 (LtF t)) : Ret Try.prog 59 [vL t] w0 (fun _ => False) fun v w' =>
    ∃ p c, v = .tuple ⟨[.slice p (nameF t.t).length c, .int .i64 (checkF t.t)]⟩ ∧ w'.ownsRow 0 5 1 (.slice p (nameF t.t).length c) (nameF t.t).length (encL (nameF t.t)) ∧ ∀ ad, p = some ad → w0.heap.size ≤ ad.block := by
  refine enter Try.func59 rfl rfl (Wd.begin (fs := [LtF t]) (by simpa using hf)) (fun a S => ?_)
  simp only [Try.ntmps59, List.length_cons, List.length_nil, Nat.reduceAdd, Nat.reduceSub, List.replicate_succ, List.replicate_zero, List.cons_append, List.nil_append] at S
  refine c_seq ?_; refine c_region ?_
  refine sa S ?_; clear S; intro b1 a w S
  (iterate 2 (refine sq S ?_; clear S; intro a S)); refine wl_nil ?_; refine xtn ?_; (iterate 2 (refine c_seq ?_)); refine c_region ?_; refine sq S ?_; clear S; intro a S; refine sc S ?_; clear S; intro a w S; refine sq S ?_; clear S; intro a S; refine wl_nil ?_; refine xtn ?_
  refine c_cond S (fun h1 => ?_) (fun h1 => ?_)
  · refine c_seq ?_; refine c_region ?_; (iterate 2 (refine sq S ?_; clear S; intro a S)); refine wl_nil ?_; refine xtn ?_; refine c_ret ?_; refine xtr ?_
    have hz : sizeF t.t = 0 := by simpa using h1
    have e1 : nameF t.t = [] := by rw [nameF, if_pos hz]
    have e2 : checkF t.t = 150 := by rw [checkF, if_pos hz]
    refine end2 S (fun _ => ?_)
    rw [e1, e2]
    exact ⟨none, 0, rfl, World.ownsRow_nil _ _ _ _, fun _ h => by cases h⟩
  · refine c_skip ?_; refine xtn ?_; refine c_seq ?_; refine c_region ?_; refine sq S ?_; clear S; intro a S
    have hz : sizeF t.t ≠ 0 := by simpa using h1
    have hsm := bytes_small hz
    have e1 : nameF t.t = bytesF t.t := by rw [nameF, if_neg hz]
    have e2 : checkF t.t = 0 := by rw [checkF, if_neg hz]
    replace S := S.addNil 5 1
    refine srg none 0 S (put_c _ t none 0 0 [] w (Nat.le_refl _) rfl (by omega) (S.row none 0) ((S.t t).less fun _ _ ⟨_, h, _⟩ => by cases h)) ?_; clear S; rintro _ a w ⟨p2, c2, rfl, hown2, hnew2⟩ hS
    have S := hS _ hown2 hnew2
    clear hS
    rw [List.nil_append] at S
    (iterate 2 (refine sq S ?_; clear S; intro a S)); refine wl_nil ?_; refine xtn ?_; refine c_ret ?_
    have hrow := S.row p2 (bytesF t.t).length
    have hnew := S.rowNew p2 (bytesF t.t).length
    refine end2 S (fun _ => ?_)
    rw [e1, e2]
    exact ⟨p2, c2, rfl, hrow, fun ad h => (hnew ad h).elim (fun h => h.elim) id⟩
theorem name_c (t : LTerm) (w0 : World) (hf : Stable (fun _ => False) w0 (LtF t)) : Ret Try.prog 62 [vL t] w0 (fun _ => False) fun v _ => v = str (nameF t.t) := by
  refine enter Try.func62 rfl rfl (Wd.begin (fs := [LtF t]) (by simpa using hf)) (fun a S => ?_)
  simp only [Try.ntmps62, List.length_cons, List.length_nil, Nat.reduceAdd, Nat.reduceSub, List.replicate_succ, List.replicate_zero, List.cons_append, List.nil_append] at S
  refine c_seq ?_; refine c_region ?_
  refine sa S ?_; clear S; intro b1 a w S
  refine sq S ?_; clear S; intro a S; refine wl_nil ?_; refine xtn ?_; refine c_seq ?_; refine c_region ?_; refine sq S ?_; clear S; intro a S
  refine srn S (encode_c t _ (S.t0 t)) ?_; clear S; rintro _ a w ⟨p, c, rfl, hown, hnew⟩ hS -
  have S := hS hown hnew
  clear hS
  (iterate 5 (refine sq S ?_; clear S; intro a S)); refine wl_nil ?_; refine xtn ?_; refine c_seq ?_; refine c_region ?_; (iterate 3 (refine sq S ?_; clear S; intro a S)); refine wl_nil ?_; refine xtn ?_; refine c_ret ?_
  refine end1 S (fun _ => rfl)
instance {t : LTerm} {bs fs} [HasT fs t] : CallV Try.prog 62 [vL t] bs fs (str (nameF t.t)) := ⟨fun w m => name_c t w (m.t0 _)⟩
theorem plain_shape {k u n : Int} {s : List UInt8} {m : Nat} (h : plainF k u n s m = true) :
    (k = 1 ∧ u = 0 ∧ n = 0 ∧ s.length ≤ 64 ∧ m = 0) ∨ (k = 2 ∧ 1 ≤ u ∧ u ≤ 6 ∧ 0 ≤ n ∧ n ≤ 65535 ∧ s = [] ∧ m = 0) ∨ (k = 3 ∧ 1 ≤ u ∧ u ≤ 6 ∧ n = 0 ∧ s = [] ∧ m = 0) ∨
    ((k = 4 ∨ k = 6) ∧ u = 0 ∧ n = 0 ∧ s = [] ∧ m = 2) ∨ (k = 5 ∧ u = 0 ∧ n = 0 ∧ s = [] ∧ m = 1) ∨ (k = 7 ∧ 1 ≤ u ∧ u ≤ 6 ∧ n = 0 ∧ s = [] ∧ m = 1) ∨ (k = 8 ∧ 1 ≤ u ∧ u ≤ 6 ∧ 0 ≤ n ∧ n ≤ 65535 ∧ s = [] ∧ m = 1) := by
  have h0 : fieldsOf k ≠ 0 := by
    intro h0
    simp [plainF, h0] at h
  have hk : k = 1 ∨ k = 2 ∨ k = 3 ∨ k = 4 ∨ k = 5 ∨ k = 6 ∨ k = 7 ∨ k = 8 := by
    unfold fieldsOf at h0
    by_cases hk : k = 1 ∨ k = 2 ∨ k = 3 ∨ k = 4 ∨ k = 5 ∨ k = 6 ∨ k = 7 ∨ k = 8
    · exact hk
    · exact absurd (by repeat (first | rw [if_neg (by omega)] | rfl)) h0
  have t1 : fieldsOf 1 = 1 := rfl
  have t2 : fieldsOf 2 = 6 := rfl
  have t3 : fieldsOf 3 = 2 := rfl
  have t4 : fieldsOf 4 = 16 := rfl
  have t5 : fieldsOf 5 = 8 := rfl
  have t6 : fieldsOf 6 = 16 := rfl
  have t7 : fieldsOf 7 = 10 := rfl
  have t8 : fieldsOf 8 = 14 := rfl
  have f11 : hasF 1 1 = true := rfl
  have f12 : hasF 1 2 = false := rfl
  have f14 : hasF 1 4 = false := rfl
  have f61 : hasF 6 1 = false := rfl
  have f62 : hasF 6 2 = true := rfl
  have f64 : hasF 6 4 = true := rfl
  have f21 : hasF 2 1 = false := rfl
  have f22 : hasF 2 2 = true := rfl
  have f24 : hasF 2 4 = false := rfl
  have g1 : hasF 16 1 = false := rfl
  have g2 : hasF 16 2 = false := rfl
  have g4 : hasF 16 4 = false := rfl
  have i1 : hasF 8 1 = false := rfl
  have i2 : hasF 8 2 = false := rfl
  have i4 : hasF 8 4 = false := rfl
  have j1 : hasF 10 1 = false := rfl
  have j2 : hasF 10 2 = true := rfl
  have j4 : hasF 10 4 = false := rfl
  have l1 : hasF 14 1 = false := rfl
  have l2 : hasF 14 2 = true := rfl
  have l4 : hasF 14 4 = true := rfl
  have k1 : kidsF 1 = 0 := rfl
  have k6 : kidsF 6 = 0 := rfl
  have k2 : kidsF 2 = 0 := rfl
  have k16 : kidsF 16 = 2 := rfl
  have k8 : kidsF 8 = 1 := rfl
  have k10 : kidsF 10 = 1 := rfl
  have k14 : kidsF 14 = 1 := rfl
  by_cases hs : s = []
  · subst hs
    rcases hk with rfl | rfl | rfl | rfl | rfl | rfl | rfl | rfl <;> simp [plainF, t1, t2, t3, t4, t5, t6, t7, t8, f11, f12, f14, f61, f62, f64, f21, f22, f24, g1, g2, g4, i1, i2, i4, j1, j2, j4, l1, l2, l4, k1, k6, k2, k16, k8, k10, k14, knownF] at h ⊢ <;> omega
  · rcases hk with rfl | rfl | rfl | rfl | rfl | rfl | rfl | rfl <;> simp [plainF, t1, t2, t3, t4, t5, t6, t7, t8, f11, f12, f14, f61, f62, f64, f21, f22, f24, g1, g2, g4, i1, i2, i4, j1, j2, j4, l1, l2, l4, k1, k6, k2, k16, k8, k10, k14, knownF, hs] at h ⊢
    omega
inductive Ok : Term → Prop where
  | mk {k u n : Int} {s : List UInt8} {ks : List Term} (h : plainF k u n s ks.length = true) (hk : ∀ t ∈ ks, Ok t) : Ok (.mk k u n s ks)
mutual
theorem ok_of_walk : ∀ (t : Term) (deep left : Int), (walkF t deep left).1 = true → Ok t
  | .mk k u n s ks, deep, left => by
    intro h
    rw [walkF] at h
    split at h
    · cases h
    · rename_i hc
      refine .mk (by cases hp : plainF k u n s ks.length with
        | true => rfl
        | false => exact absurd (.inr (.inr hp)) hc) (okL_of_walk ks _ _ h)
theorem okL_of_walk : ∀ (ts : List Term) (deep left : Int), (walkLF ts deep left).1 = true → ∀ t ∈ ts, Ok t
  | [], _, _ => by intro _ t ht; cases ht
  | x :: xs, deep, left => by
    intro h t ht
    rw [walkLF] at h
    split at h
    · rename_i hc
      rcases List.mem_cons.1 ht with he | ht
      · rw [he]; exact ok_of_walk x deep left hc
      · exact okL_of_walk xs deep _ h t ht
    · cases h
end
theorem ok_of_size {t : Term} (h : sizeF t ≠ 0) : Ok t := by
  unfold sizeF at h
  split at h
  · rename_i hc; exact ok_of_walk t 1 1200 hc
  · exact absurd rfl h
theorem u8_inj {a b : Int} (ha : 0 ≤ a ∧ a ≤ 255) (hb : 0 ≤ b ∧ b ≤ 255) (h : Wk.u8 a = Wk.u8 b) : a = b := by
  have h1 := congrArg UInt8.toNat h
  unfold Wk.u8 at h1
  rw [UInt8.toNat_ofNat', UInt8.toNat_ofNat'] at h1
  simp at h1
  omega
theorem be2_inj {a b : Int} (ha : 0 ≤ a ∧ a ≤ 65535) (hb : 0 ≤ b ∧ b ≤ 65535) {r r' : List UInt8} (h : be 2 (IntKind.u16.wrap a) ++ r = be 2 (IntKind.u16.wrap b) ++ r') : a = b ∧ r = r' := by
  rw [wu16 a ha.1 ha.2, wu16 b hb.1 hb.2] at h
  have hl : (be 2 a).length = (be 2 b).length := by simp [be]
  obtain ⟨h1, h2⟩ := List.append_inj h hl
  refine ⟨?_, h2⟩
  simp only [be, List.range_succ, List.range_zero, List.nil_append, List.map_append, List.map_cons, List.map_nil, List.cons_append, List.cons.injEq, and_true] at h1
  obtain ⟨h3, h4⟩ := h1
  have e1 := congrArg UInt8.toNat h3
  have e2 := congrArg UInt8.toNat h4
  unfold Wk.u8 at e1 e2
  rw [UInt8.toNat_ofNat', UInt8.toNat_ofNat'] at e1 e2
  simp at e1 e2
  have f1 : a.fdiv 256 = a / 256 := by rw [Int.fdiv_eq_ediv_of_nonneg]; omega
  have f2 : b.fdiv 256 = b / 256 := by rw [Int.fdiv_eq_ediv_of_nonneg]; omega
  rw [f1, f2] at e1
  omega
theorem head1 (s : List UInt8) : headF 1 0 0 s = Wk.u8 1 :: Wk.u8 s.length :: s := by
  show [Wk.u8 1] ++ (Wk.u8 s.length :: s) ++ [] ++ [] = _
  simp
theorem head2 (u n : Int) : headF 2 u n [] = Wk.u8 2 :: Wk.u8 u :: be 2 (IntKind.u16.wrap n) := rfl
theorem head3 (u : Int) : headF 3 u 0 [] = [Wk.u8 3, Wk.u8 u] := rfl
theorem head7 (u : Int) : headF 7 u 0 [] = [Wk.u8 7, Wk.u8 u] := rfl
theorem head8 (u n : Int) : headF 8 u n [] = Wk.u8 8 :: Wk.u8 u :: be 2 (IntKind.u16.wrap n) := rfl
theorem head_first (k u n : Int) (s : List UInt8) : ∃ r, headF k u n s = Wk.u8 k :: r := ⟨_, rfl⟩
theorem head_inj {k u n k' u' n' : Int} {s s' : List UInt8} {m m' : Nat} {r r' : List UInt8} (h : plainF k u n s m = true) (h' : plainF k' u' n' s' m' = true) (he : headF k u n s ++ r = headF k' u' n' s' ++ r') : k = k' ∧ u = u' ∧ n = n' ∧ s = s' ∧ m = m' ∧ r = r' := by
  have hk : k = k' := by
    obtain ⟨q, hq⟩ := head_first k u n s
    obtain ⟨q', hq'⟩ := head_first k' u' n' s'
    rw [hq, hq'] at he
    have := (List.cons.inj he).1
    have s1 := plain_shape h
    have s2 := plain_shape h'
    exact u8_inj (by omega) (by omega) this
  subst hk
  rcases plain_shape h with ⟨rfl, rfl, rfl, hs, rfl⟩ | ⟨rfl, h1, h2, h3, h4, rfl, rfl⟩ | ⟨rfl, h1, h2, rfl, rfl, rfl⟩ | ⟨hk, rfl, rfl, rfl, rfl⟩ | ⟨rfl, rfl, rfl, rfl, rfl⟩ | ⟨rfl, h1, h2, rfl, rfl, rfl⟩ | ⟨rfl, h1, h2, h3, h4, rfl, rfl⟩ <;>
  rcases plain_shape h' with ⟨e, rfl, rfl, hs', rfl⟩ | ⟨e, g1, g2, g3, g4, rfl, rfl⟩ | ⟨e, g1, g2, rfl, rfl, rfl⟩ | ⟨e, rfl, rfl, rfl, rfl⟩ | ⟨e, rfl, rfl, rfl, rfl⟩ | ⟨e, g1, g2, rfl, rfl, rfl⟩ | ⟨e, g1, g2, g3, g4, rfl, rfl⟩ <;> first | (exfalso; omega) | skip
  · rw [head1, head1] at he
    simp only [List.cons_append, List.cons.injEq] at he
    have hl := u8_inj (by omega) (by omega) he.2.1
    obtain ⟨q1, q2⟩ := List.append_inj he.2.2 (by omega)
    exact ⟨rfl, rfl, rfl, q1, rfl, q2⟩
  · rw [head2, head2] at he
    simp only [List.cons_append, List.cons.injEq] at he
    have hu := u8_inj (by omega) (by omega) he.2.1
    obtain ⟨q1, q2⟩ := be2_inj ⟨h3, h4⟩ ⟨g3, g4⟩ he.2.2
    exact ⟨rfl, hu, q1, rfl, rfl, q2⟩
  · rw [head3, head3] at he
    simp only [List.cons_append, List.nil_append, List.cons.injEq] at he
    have hu := u8_inj (by omega) (by omega) he.2.1
    exact ⟨rfl, hu, rfl, rfl, rfl, he.2.2⟩
  · exact ⟨rfl, rfl, rfl, rfl, rfl, List.append_cancel_left he⟩
  · exact ⟨rfl, rfl, rfl, rfl, rfl, List.append_cancel_left he⟩
  · rw [head7, head7] at he
    simp only [List.cons_append, List.nil_append, List.cons.injEq] at he
    have hu := u8_inj (by omega) (by omega) he.2.1
    exact ⟨rfl, hu, rfl, rfl, rfl, he.2.2⟩
  · rw [head8, head8] at he
    simp only [List.cons_append, List.cons.injEq] at he
    have hu := u8_inj (by omega) (by omega) he.2.1
    obtain ⟨q1, q2⟩ := be2_inj ⟨h3, h4⟩ ⟨g3, g4⟩ he.2.2
    exact ⟨rfl, hu, q1, rfl, rfl, q2⟩
mutual
theorem bytes_inj : ∀ (t t' : Term) (r r' : List UInt8), Ok t → Ok t' → bytesF t ++ r = bytesF t' ++ r' → t = t' ∧ r = r'
  | .mk k u n s ks, .mk k' u' n' s' ks', r, r' => by
    rintro ⟨h, hk⟩ ⟨h', hk'⟩ he
    rw [bytesF, bytesF, List.append_assoc, List.append_assoc] at he
    obtain ⟨rfl, rfl, rfl, rfl, hm, he2⟩ := head_inj h h' he
    obtain ⟨e1, e2⟩ := bytesL_inj ks ks' r r' hk hk' hm he2
    exact ⟨by rw [e1], e2⟩
theorem bytesL_inj : ∀ (ts ts' : List Term) (r r' : List UInt8), (∀ t ∈ ts, Ok t) → (∀ t ∈ ts', Ok t) → ts.length = ts'.length → bytesLF ts ++ r = bytesLF ts' ++ r' → ts = ts' ∧ r = r'
  | [], [], r, r' => by intro _ _ _ h; exact ⟨rfl, h⟩
  | [], _ :: _, _, _ => by intro _ _ h; cases h
  | _ :: _, [], _, _ => by intro _ _ h; cases h
  | t :: ts, t' :: ts', r, r' => by
    intro h h' hl he
    rw [bytesLF, bytesLF, List.append_assoc, List.append_assoc] at he
    obtain ⟨e1, e2⟩ := bytes_inj t t' _ _ (h t (by simp)) (h' t' (by simp)) he
    obtain ⟨e3, e4⟩ := bytesL_inj ts ts' r r' (fun x hx => h x (by simp [hx])) (fun x hx => h' x (by simp [hx])) (by simpa using hl) e2
    exact ⟨by rw [e1, e3], e4⟩
end
def Good (t : Term) : Prop := sizeF t ≠ 0
theorem name_inj {t t' : Term} (h : Good t) (h' : Good t') (he : nameF t = nameF t') : t = t' := by
  rw [nameF, nameF, if_neg h, if_neg h'] at he
  exact (bytes_inj t t' [] [] (ok_of_size h) (ok_of_size h') (by simpa using he)).1
mutual
def cnt : Term → Nat
  | .mk _ _ _ _ ks => 1 + cntL ks
def cntL : List Term → Nat
  | [] => 0
  | t :: ts => cnt t + cntL ts
end
theorem cntL_append (xs ys : List Term) : cntL (xs ++ ys) = cntL xs + cntL ys := by
  induction xs with
  | nil => simp [cntL]
  | cons x xs ih => simp only [List.cons_append, cntL, ih]; omega
theorem cnt_pos (t : Term) : 0 < cnt t := by cases t; simp [cnt]; omega
theorem cntL_mem {t : Term} {ts : List Term} (h : t ∈ ts) : cnt t ≤ cntL ts := by
  induction ts with
  | nil => cases h
  | cons x xs ih =>
    simp only [cntL]
    rcases List.mem_cons.1 h with rfl | h
    · omega
    · have := ih h; omega
mutual
theorem walk_more : ∀ (t : Term) (d l d' l' : Int), (walkF t d l).1 = true → d' ≤ d → l ≤ l' → (walkF t d' l').1 = true ∧ (walkF t d' l').2 = l' - cnt t
  | .mk k u n s ks, d, l, d', l' => by
    intro h hd hl
    rw [walkF] at h ⊢
    split at h
    · cases h
    · rename_i hc
      rw [if_neg (fun hn => hc (hn.elim (fun q => .inl (by omega)) (fun q => .inr (q.elim (fun q => .inl (by omega)) .inr))))]
      obtain ⟨h1, h2⟩ := walkL_more ks (d + 1) (l - 1) (d' + 1) (l' - 1) h (by omega) (by omega)
      refine ⟨h1, ?_⟩
      rw [h2, cnt]; omega
theorem walkL_more : ∀ (ts : List Term) (d l d' l' : Int), (walkLF ts d l).1 = true → d' ≤ d → l ≤ l' → (walkLF ts d' l').1 = true ∧ (walkLF ts d' l').2 = l' - cntL ts
  | [], d, l, d', l' => by intro _ _ _; simp [walkLF, cntL]
  | t :: ts, d, l, d', l' => by
    intro h hd hl
    rw [walkLF] at h ⊢
    split at h
    · rename_i hc
      obtain ⟨h1, h2⟩ := walk_more t d l d' l' hc hd hl
      obtain ⟨_, h2'⟩ := walk_more t d l d l hc (Int.le_refl _) (Int.le_refl _)
      rw [if_pos h1]
      obtain ⟨h3, h4⟩ := walkL_more ts d _ d' (walkF t d' l').2 h hd (by omega)
      refine ⟨h3, ?_⟩
      rw [h4, h2, cntL]; omega
    · cases h
end
theorem good_walk {t : Term} : Good t ↔ (walkF t 1 1200).1 = true := by
  constructor
  · intro h
    unfold Good sizeF at h
    split at h
    · assumption
    · exact absurd rfl h
  · intro h
    unfold Good sizeF
    rw [if_pos h]
    obtain ⟨_, h2⟩ := walk_more t 1 1200 1 1200 h (Int.le_refl _) (Int.le_refl _)
    have := cnt_pos t
    omega
theorem walkL_mem : ∀ (ts : List Term) (d l : Int), (walkLF ts d l).1 = true → ∀ t ∈ ts, ∃ l', l' ≤ l ∧ (walkF t d l').1 = true
  | [], _, _ => by intro _ t ht; cases ht
  | x :: xs, d, l => by
    intro h t ht
    rw [walkLF] at h
    split at h
    · rename_i hc
      rcases List.mem_cons.1 ht with he | ht
      · exact ⟨l, Int.le_refl _, by rw [he]; exact hc⟩
      · obtain ⟨l', h1, h2⟩ := walkL_mem xs d _ h t ht
        have := walkF_le x d l
        exact ⟨l', by omega, h2⟩
    · cases h
theorem good_kid {k u n : Int} {s : List UInt8} {ks : List Term} (h : Good (.mk k u n s ks)) {t : Term} (ht : t ∈ ks) : Good t := by
  have h1 := good_walk.1 h
  rw [walkF] at h1
  split at h1
  · cases h1
  · obtain ⟨l', h2, h3⟩ := walkL_mem ks _ _ h1 t ht
    exact good_walk.2 (walk_more t (1 + 1) l' 1 1200 h3 (by omega) (by omega)).1
theorem good_le {t : Term} (h : Good t) : cnt t ≤ 1200 := by
  have h1 := good_walk.1 h
  obtain ⟨_, h2⟩ := walk_more t 1 1200 1 1200 h1 (Int.le_refl _) (Int.le_refl _)
  have := walkF_ge t 1 1200 (by omega) h1
  omega
theorem good_check {t : Term} : checkF t = 0 ↔ Good t := by
  unfold checkF Good
  split <;> simp_all
theorem good_secret {u : Int} (h : 1 ≤ u ∧ u ≤ 6) : Good (.mk 3 u 0 [] []) := by
  refine good_walk.2 ?_
  have hp : plainF 3 u 0 [] 0 = true := by
    have f2 : fieldsOf 3 = 2 := rfl
    have f21 : hasF 2 1 = false := rfl
    have f22 : hasF 2 2 = true := rfl
    have f24 : hasF 2 4 = false := rfl
    have k2 : kidsF 2 = 0 := rfl
    simp [plainF, f2, f21, f22, f24, k2, knownF, h.1, h.2]
  rw [walkF, if_neg (by simp [hp])]
  rfl
mutual
def dpt : Term → Nat
  | .mk _ _ _ _ ks => 1 + dptL ks
def dptL : List Term → Nat
  | [] => 0
  | t :: ts => max (dpt t) (dptL ts)
end
mutual
theorem walk_fit : ∀ (t : Term) (d l d' l' : Int), (walkF t d l).1 = true → (cnt t : Int) ≤ l' → d' + dpt t ≤ 61 → (walkF t d' l').1 = true ∧ (walkF t d' l').2 = l' - cnt t
  | .mk k u n s ks, d, l, d', l' => by
    intro h hl hd
    rw [walkF] at h ⊢
    split at h
    · cases h
    · rename_i hc
      rw [cnt] at hl
      rw [dpt] at hd
      rw [if_neg (fun hn => hc (hn.elim (fun q => absurd q (by omega)) (fun q => .inr (q.elim (fun q => absurd q (by omega)) .inr))))]
      obtain ⟨h1, h2⟩ := walkL_fit ks (d + 1) (l - 1) (d' + 1) (l' - 1) h (by omega) (by omega)
      refine ⟨h1, ?_⟩
      rw [h2, cnt]; omega
theorem walkL_fit : ∀ (ts : List Term) (d l d' l' : Int), (walkLF ts d l).1 = true → (cntL ts : Int) ≤ l' → d' + dptL ts ≤ 61 → (walkLF ts d' l').1 = true ∧ (walkLF ts d' l').2 = l' - cntL ts
  | [], d, l, d', l' => by intro _ _ _; simp [walkLF, cntL]
  | t :: ts, d, l, d', l' => by
    intro h hl hd
    rw [walkLF] at h ⊢
    rw [cntL] at hl
    rw [dptL] at hd
    split at h
    · rename_i hc
      obtain ⟨h1, h2⟩ := walk_fit t d l d' l' hc (by omega) (by omega)
      rw [if_pos h1]
      obtain ⟨h3, h4⟩ := walkL_fit ts d _ d' (walkF t d' l').2 h (by omega) (by omega)
      refine ⟨h3, ?_⟩
      rw [h4, h2, cntL]; omega
    · cases h
end
theorem walkL_good : ∀ (ts : List Term) (d l : Int), (∀ t ∈ ts, Good t) → (cntL ts : Int) ≤ l → d + dptL ts ≤ 61 → (walkLF ts d l).1 = true
  | [], d, l => by intro _ _ _; simp [walkLF]
  | t :: ts, d, l => by
    intro h hl hd
    rw [cntL] at hl
    rw [dptL] at hd
    obtain ⟨h1, h2⟩ := walk_fit t 1 1200 d l (good_walk.1 (h t (by simp))) (by omega) (by omega)
    rw [walkLF, if_pos h1]
    exact walkL_good ts d _ (fun x hx => h x (by simp [hx])) (by omega) (by omega)
theorem good_mk {k u n : Int} {s : List UInt8} {ks : List Term} (hp : plainF k u n s ks.length = true) (h : ∀ t ∈ ks, Good t) (hc : cntL ks ≤ 1199) (hd : dptL ks ≤ 59) : Good (.mk k u n s ks) := by
  refine good_walk.2 ?_
  rw [walkF, if_neg (by simp [hp])]
  exact walkL_good ks _ _ h (by omega) (by omega)
theorem good_fresh {u n : Int} (hu : 1 ≤ u ∧ u ≤ 6) (hn : 0 ≤ n ∧ n ≤ 65535) : Good (.mk 2 u n [] []) := by
  refine good_mk ?_ (by simp) (by simp [cntL]) (by simp [dptL])
  simp [plainF, show fieldsOf 2 = 6 from rfl, show hasF 6 1 = false from by decide, show hasF 6 2 = true from by decide, show hasF 6 4 = true from by decide, show kidsF 6 = 0 from by decide, knownF, hu.1, hu.2, hn.1, hn.2]
end Go.Proofs.Ytibkkbknnfehlaa