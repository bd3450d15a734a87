import Derived.Test.YtajmjbboahmdkaaWkO
import Derived.Laws.BytesString
namespace Go.Wk
open Go
section
variable {P : Program} {r : Option Nat} {ops : Array Oper} {Q : Exit → Act → World → Prop} {w0 : World} {M0 : Nat → Prop} {ds : List Deferred} {a : Act} {w : World} {l l' : List Value} {bs bs' : List Item} {fs : List (World → Prop)}
  {d : Option Nat} {op : Op} {t ty : TypeId} {pos : String} {af : Array Edge} {rest : List Oper} {v z : Value} {e : TypeId} {sz by_ : Nat} {p : Option Addr} {n c k : Nat} {xs : List Value} {x y : Operand} {kk kl : IntKind} {m : Int} {lc : Cx}
/-- a slice is made. -/
theorem smk {mi mj : Int} {l' : Nat → List Value} {zc : List Value} (n : Nat) (S : St w0 M0 ds a w l bs fs) [Ev ⟨[], l⟩ x (.int kk mi)] [Ev ⟨[], l⟩ y (.int kl mj)] [ht : Und P t (.slice e)] [hti : TI P e z sz by_] [hzc : Cells z zc] [hzl : LenIs zc sz] [hne : NeN zc]
    [hp : ∀ b, PutO l d (.slice (some ⟨b, 0, none⟩) n n) (l' b)] (hi : mi = n) (hj : mj = n) (hb : by_ * n ≤ 281474976710656) (hm : n ≤ maxLen)
    (K : ∀ b a w, St w0 M0 ds a w (l' b) (row e sz (some ⟨b, 0, none⟩) n n ((List.replicate n zc).flatten) :: bs) fs → WL P r ops Q rest a w) : WL P r ops Q (⟨d, .makeSlice t x y, ty, pos, af, none⟩ :: rest) a w := by
  refine wl_plain rfl ?_
  rw [semAt_nd rfl]
  subst hi hj
  obtain ⟨i, hi, hz, hs, hby⟩ := hti.ex
  have hz' : z.cells = zc.toArray := by rw [← hzc.eq]
  have hlen : zc.length = sz := hzl.eq
  have hb' : (i.bytes : Int) * (n : Int) ≤ 281474976710656 := by
    have h : ((by_ * n : Nat) : Int) ≤ 281474976710656 := by omega
    rw [hby]; rwa [Int.natCast_mul] at h
  have hr := run_make (P := P) w t e i z ht.eq hi hz kk kl n n (by omega) (Int.le_refl _) hb' (by simp only [maxLen] at hm; omega)
  have hcells : madeCells z.cells ((n : Int).toNat * i.size) = ((List.replicate n zc).flatten).toArray := by
    rw [← range_rep n zc hne.ne, hz', hs, ← hlen]; rfl
  rw [hcells] at hr
  simp only [Int.toNat_natCast] at hr
  have e1 : (xop a.eval (.makeSlice t x y) ty).run P w = .ok (.value (.slice (some ⟨w.heap.size, 0, none⟩) n n)) (w.alloc (.cells ((List.replicate n zc).flatten).toArray e)) := by
    simp [xop, execOp, S.fr.ev (x := x) (v := .int kk (n : Int)), S.fr.ev (x := y) (v := .int kl (n : Int)), Sem.run_bind, hr]
  simp only [e1, Oper.uponIn]
  have := hp w.heap.size
  have S' := S.put (d := d) (v := .slice (some ⟨w.heap.size, 0, none⟩) n n)
  have S2 : St w0 M0 ds _ _ (l' w.heap.size) (box w.heap.size e ((List.replicate n zc).flatten) :: bs) fs := ⟨S'.slots, S'.defers, S'.wd.alloc e ((List.replicate n zc).flatten)⟩
  exact K _ _ _ (S2.boxRow w.heap.size sz n (by simp [hlen]) hm)
/-- bytes are copied to a row's begin. -/
theorem scp {tx : TypeId} {m : Nat} {xv : Value} {news : List Value} (S : St w0 M0 ds a w l bs fs) [Ev ⟨[], l⟩ x (.slice p n c)] [Ev ⟨[], l⟩ y xv] [ht : Und P t (.slice e)] [hti : TI P e z sz by_] [hr : HasRow bs p n e sz c xs] [hs : SrcV P tx xv bs fs sz m news]
    [hrep : ReplI bs (row e sz p n c xs) (row e sz p n c (news ++ xs.drop (m * sz))) bs'] [hp : PutO l d (.int .i64 m) l'] (hle : m ≤ n) (K : ∀ a w, St w0 M0 ds a w l' bs' fs → WL P r ops Q rest a w) :
    WL P r ops Q (⟨d, .call { callee := .builtin .copy, args := #[x, y], argTypes := #[t, tx] }, ty, pos, af, none⟩ :: rest) a w := by
  refine wl_plain rfl ?_
  rw [semAt_nd rfl]
  have hsrc := hs.src w S.wd.mem
  have hrow := S.row p n
  have S' := S.put (d := d) (v := .int .i64 (m : Int)) (l' := l')
  have hmin : Nat.min m n = m := Nat.min_eq_left hle
  have hlen := hsrc.newsLen
  suffices h : ∃ w', (Builtin.copy_ #[t, tx] ty #[.slice p n c, xv]).run P w = .ok (.int .i64 m) w' ∧ Agree (fun k => ∃ ad, p = some ad ∧ k = ad.block) w w' ∧ w'.ownsRow 0 e sz (.slice p n c) n (news ++ xs.drop (m * sz)) by
    obtain ⟨w', hrun, hag, hown⟩ := h
    have e1 : (xop a.eval (.call { callee := .builtin .copy, args := #[x, y], argTypes := #[t, tx] }) ty).run P w = .ok (.value (.int .i64 m)) w' := by
      simp [xop, execOp, resolve, invoke, builtin, S.fr.ev (x := x) (v := .slice p n c), S.fr.ev (x := y) (v := xv), Sem.run_bind, hrun]
    simp only [e1, Oper.uponIn]
    exact K _ _ (S.reput (x := row e sz p n c xs) (y := row e sz p n c (news ++ xs.drop (m * sz))) S'.slots S'.defers rfl hag hown (fun k h => .inl h) (row_foot_lt hown) (row_loc _ _ _ _ _ _))
  have hpre : ∀ w', (storeCells (p.getD ⟨0, 0, none⟩) news).run P w = .ok () w' → p.isSome = true → (Builtin.copy_ #[t, tx] ty #[.slice p n c, xv]).run P w = .ok (.int .i64 m) w' := by
    intro w' h1 h2
    obtain ⟨ad, rfl⟩ := Option.isSome_iff_exists.1 h2
    simp at h1
    simp [Builtin.copy_, Sem.run_bind, run_und, run_size, hsrc.len, hmin, hsrc.cells, h1, goInt]
  rcases Nat.eq_zero_or_pos n with h0 | h0
  · subst h0
    have hm0 : m = 0 := by omega
    subst hm0
    have hnews : news = [] := List.eq_nil_of_length_eq_zero (by simpa using hlen)
    subst hnews
    refine ⟨w, ?_, Agree.refl _ _, by simpa using hrow⟩
    cases hp : p with
    | none => simp [Builtin.copy_, Sem.run_bind, run_und, run_size, hsrc.len, hsrc.cells, goInt]
    | some ad => rw [← hp]; exact hpre w (by simp [storeCells]) (by simp [hp])
  · obtain ⟨g, cur, hpp, _⟩ := own_cells hrow h0
    obtain ⟨w', hrun, hag, hown⟩ := own_set (P := P) hrow (vs := news) (o := 0) hpp (by rw [hlen]; simpa using Nat.mul_le_mul_right sz hle) hsrc.one
    refine ⟨w', hpre w' (by rw [hpp]; exact hrun) (by simp [hpp]), hag, ?_⟩
    simpa [hlen] using hown
end
/-- what a slice shows, whoever owns it. -/
def SlF (p : Option Addr) (xs : List Value) : World → Prop := fun w => (p = none → xs = []) ∧ ∀ ad, p = some ad → ∀ j u, xs[j]? = some u → w.cell? (ad.add j) = some u
theorem cell_lt {w : World} {ad : Addr} {v : Value} (hc : w.cell? ad = some v) : ad.block < w.heap.size := by
  rcases Nat.lt_or_ge ad.block w.heap.size with h' | h'
  · exact h'
  · unfold World.cell? at hc; rw [Array.getElem?_eq_none h'] at hc; cases hc
theorem add_block (ad : Addr) (j : Nat) : (ad.add j).block = ad.block := by unfold Addr.add; split <;> rfl
theorem SlF.stable {w : World} {p : Option Addr} {xs : List Value} {M : Nat → Prop} (h : SlF p xs w) (hM : ∀ ad, p = some ad → ¬ M ad.block) : Stable M w (SlF p xs) := fun w' hw' => ⟨h.1, fun ad hp j u hj => by
  have hc := h.2 ad hp j u hj
  have hlt := cell_lt hc
  rw [add_block] at hlt
  rw [World.cell?_of_block (w := w) (by rw [add_block]; exact hw'.blk hlt (hM ad hp))]
  exact hc⟩
theorem own_sl {w : World} {e : TypeId} {sz : Nat} {p : Option Addr} {n c : Nat} {xs : List Value} (h : w.ownsRow 0 e sz (.slice p n c) n xs) : SlF p xs w := by
  refine ⟨fun hp => ?_, fun ad hp j u hj => ?_⟩
  · subst hp
    rcases h.2 with ⟨_, rfl⟩ | ⟨g, cap, cur, hv, _⟩
    · exact List.eq_nil_of_length_eq_zero (by simpa using h.1)
    · cases hv
  · have := own_cell h (o := 0) (j := j) (by simpa using hj)
    subst hp
    simpa [rAddr, Addr.add] using this
class HasSl (fs : List (World → Prop)) (p : Option Addr) (xs : outParam (List Value)) : Prop where mem : SlF p xs ∈ fs
instance hsl0 {p : Option Addr} {xs : List Value} {fs : List (World → Prop)} : HasSl (SlF p xs :: fs) p xs := ⟨List.mem_cons_self ..⟩
instance (priority := 900) hsl1 {p : Option Addr} {xs : List Value} {Φ : World → Prop} {fs : List (World → Prop)} [h : HasSl fs p xs] : HasSl (Φ :: fs) p xs := ⟨List.mem_cons_of_mem _ h.mem⟩
theorem src_sl {P : Program} {tx e : TypeId} {w : World} {p : Option Addr} {m c sz : Nat} {xs : List Value} (h : P.underlying tx = some (.slice e)) (hs : SlF p xs w) (hl : xs.length = m * sz) (h1 : ∀ u ∈ xs, u.oneCell' = true) (hz : 0 < sz) : Src P sz tx (.slice p m c) m xs w := by
  cases p with
  | none =>
    have := hs.1 rfl
    subst this
    have hm : m = 0 := by
      rcases Nat.eq_zero_or_pos m with h0 | h0
      · exact h0
      · have := Nat.mul_pos h0 hz; simp at hl; omega
    subst hm
    exact Src.ofNil w h c
  | some ad => exact Src.ofSlice w h _ _ _ _ hl (hs.2 ad rfl) h1
instance (priority := 870) srcSlB {P : Program} {tx e : TypeId} {p : Option Addr} {m c : Nat} {ys : List UInt8} {bs : List Item} {fs : List (World → Prop)} [h : Und P tx (.slice e)] [hr : HasSl fs p (encL ys)] [hn : LenN ys m] : SrcV P tx (.slice p m c) bs fs 1 m (encL ys) := ⟨fun w mm =>
  src_sl h.eq (mm.facts _ hr.mem).now (by rw [encL_len, hn.eq]; rfl) (encL_one ys) (by decide)⟩
section
variable {P : Program} {r : Option Nat} {ops : Array Oper} {Q : Exit → Act → World → Prop} {w0 : World} {M0 : Nat → Prop} {ds : List Deferred} {a : Act} {w : World} {l l' : List Value} {bs bs' : List Item} {fs : List (World → Prop)}
  {d : Option Nat} {op : Op} {t t' ty : TypeId} {pos : String} {af : Array Edge} {rest : List Oper} {v z : Value} {e : TypeId} {sz by_ : Nat} {p : Option Addr} {n c k : Nat} {xs : List Value} {x y : Operand} {kk kl : IntKind} {m j : Int} {lc : Cx}
/-- bytes, as a string. -/
theorem bytes_foldl (xs : List UInt8) : ∀ (s : ByteArray), ((xs.map fun b => (b.toNat : Int)).foldl (fun s n => s.push (UInt8.ofNat n.toNat)) s) = ⟨s.data ++ xs.toArray⟩ := by
  induction xs with
  | nil => intro s; simp
  | cons x xs ih => intro s; rw [List.map_cons, List.foldl_cons, ih]; simp [ByteArray.push]
theorem encB_map (ys : List UInt8) : encL ys = (ys.map fun b => (b.toNat : Int)).map (Value.int .u8) := by
  induction ys with
  | nil => rfl
  | cons y ys ih => rw [encL_cons, ih]; rfl
theorem run_str {w : World} {ys : List UInt8} (hs : SlF p (encL ys) w) (hn : ys.length = n) : (Conv.bytesToString (.slice p n c)).run P w = .ok (str ys) w := by
  cases p with
  | none =>
    have := hs.1 rfl
    have : ys = [] := by
      cases ys with
      | nil => rfl
      | cons y ys => simp [encL, Enc.cells] at this
    subst this
    simp [Conv.bytesToString, str]; rfl
  | some ad =>
    have h1 := run_loadCells_list (P := P) w ad (encL ys) (hs.2 ad rfl)
    rw [encL_len, encB_map] at h1
    have h2 := run_bytesToString (P := P) w ad n c (ys.map fun b => (b.toNat : Int)) (by rw [← hn]; simpa [Enc.sz] using h1)
    rw [h2, bytes_foldl]
    simp [str, ByteArray.empty, ByteArray.emptyWithCapacity]
    rfl
class HasBytes (bs : List Item) (fs : List (World → Prop)) (p : Option Addr) (n : Nat) (ys : outParam (List UInt8)) : Prop where of : ∀ w, Mem w bs fs → SlF p (encL ys) w
instance hby1 {p : Option Addr} {n c : Nat} {e : TypeId} {ys : List UInt8} {bs : List Item} {fs : List (World → Prop)} [h : HasRow bs p n e 1 c (encL ys)] : HasBytes bs fs p n ys := ⟨fun _ mm => own_sl (mm.held _ h.mem)⟩
instance (priority := 900) hby2 {p : Option Addr} {n : Nat} {ys : List UInt8} {bs : List Item} {fs : List (World → Prop)} [h : HasSl fs p (encL ys)] : HasBytes bs fs p n ys := ⟨fun _ mm => (mm.facts _ h.mem).now⟩
instance (priority := 950) hby3 {bs : List Item} {fs : List (World → Prop)} : HasBytes bs fs none 0 [] := ⟨fun _ _ => ⟨fun _ => rfl, fun _ h => by cases h⟩⟩
instance opBytesStr {ys : List UInt8} [Ev lc x (.slice p n c)] [Und P t (.slice e)] [Und P e (.int .u8)] [Und P t' .string] [hb : HasBytes bs fs p n ys] [hn : LenN ys n] : OpQ P (.convert t t' x) ty lc bs fs (str ys) := ⟨fun ρ w h mm => by
  have h1 := run_str (P := P) (c := c) (hb.of w mm) hn.eq
  cases p <;> simp [xop, execOp, h.ev (x := x) (v := .slice _ n c), convert, Sem.run_bind, run_und, h1]⟩
instance opShr [Ev lc x (.int kk m)] [Ev lc y (.int kl j)] [hj : IsNat j k] : OpQ P (.binOp .shr t x y t') ty lc bs fs (.int kk (m.fdiv (2 ^ (min k kk.bits)))) := ⟨fun ρ w h _ => by
  have h2 := hj.eq
  subst h2
  have h3 : ¬ ((k : Int) < 0) := by omega
  simp [xop, execOp, h.ev (x := x) (v := .int kk m), h.ev (x := y) (v := .int kl (k : Int)), eqGuard, binOp, Op.shift, h3]⟩
end
theorem wu64 (n : Int) (h1 : 0 ≤ n) (h2 : n ≤ 18446744073709551615) : IntKind.u64.wrap n = n := by
  unfold IntKind.wrap
  simp only [IntKind.bits, IntKind.signed, Bool.false_and]
  simp; omega
theorem wu16 (n : Int) (h1 : 0 ≤ n) (h2 : n ≤ 65535) : IntKind.u16.wrap n = n := by
  unfold IntKind.wrap
  simp only [IntKind.bits, IntKind.signed, Bool.false_and]
  simp; omega
/-- a number, most weighty byte first. -/
def be (k : Nat) (v : Int) : List UInt8 := (List.range k).map fun i => u8 (v.fdiv (2 ^ (8 * (k - 1 - i))))
theorem c_merge {P : Program} {r : Option Nat} {Q : Exit → Act → World → Prop} {a : Act} {w : World} {x y : Code} (I : Act → World → Prop) (hx : Wp P r x (Exit.then I Q) a w) (hy : ∀ a w, I a w → Wp P r y Q a w) : Wp P r (.seq x y) Q a w := by
  refine c_seq (wpIn_mono hx ?_)
  intro e a w h
  cases e <;> first | exact hy _ _ h | exact h
theorem c_drawE {P : Program} {r : Option Nat} {Q : Exit → Act → World → Prop} {w0 : World} {M0 : Nat → Prop} {ds : List Deferred} {a : Act} {w : World} {l : List Value} {bs : List Item} {fs : List (World → Prop)} {id : Nat} {lo : List Oper} (ord : List (Nat × Bool)) (bs0 : List Item) (S : St w0 M0 ds a w l bs fs) (h : ∀ w, St w0 M0 ds a w l bs fs → AQ P lo.toArray (fun w => Wd w0 M0 w bs0 fs) (fun a w => Q .normal a w) ord a w)
    (hm : P.follows .mixedOrders = true := by kernel_rfl) (hd : ((lo.all fun o => !isDefer o.op) && (Nat.beq ord.length lo.length && (Region.noSelect lo.toArray && flowFrom lo.toArray ord (Array.replicate lo.length false)))) = true := by kernel_rfl) : Wp P r (.region id lo.toArray true) Q a w := by
  simp only [Bool.and_eq_true] at hd
  refine wpIn_region_any hm (any_of_ac (C := fun w => Wd w0 M0 w bs0 fs) (fun i o ho => ?_) _ _ _ _ ?_)
  · have := List.all_eq_true.1 hd.1 o (by
      rw [List.getElem?_toArray] at ho
      exact List.mem_of_getElem? ho)
    simpa using this
  · have := h { w with drawn := w.drawn + 1 } ⟨S.slots, S.defers, S.wd.step (Agree.drawn _ w _)⟩ _ hd.2.2.1 hd.2.2.2
    rw [Nat.eq_of_beq_eq_true hd.2.1] at this
    simpa using this
/-- items in another order. -/
theorem Wd.perm {w0 M0 w fs} {bs bs' : List Item} (h : Wd w0 M0 w bs fs) (hp : bs'.Perm bs) : Wd w0 M0 w bs' fs := by
  have hm : ∀ it, it ∈ bs' → it ∈ bs := fun it hi => hp.mem_iff.1 hi
  refine ⟨h.agree, fun it hi => h.held it (hm it hi), fun it hi => h.lt it (hm it hi), fun it hi => h.own it (hm it hi), ?_, fun Φ hΦ => (h.facts Φ hΦ).less fun _ _ ⟨it, hi, hk⟩ => ⟨it, hm it hi, hk⟩, fun it hi => h.loc it (hm it hi)⟩
  exact (hp.pairwise_iff fun hxy k hk hk' => hxy k hk' hk).2 h.apart
theorem St.swap2 {w0 M0 ds a w l fs} {x y z : Item} (S : St w0 M0 ds a w l [x, y, z] fs) : St w0 M0 ds a w l [y, x] fs :=
  ⟨S.slots, S.defers, (S.wd.sub (bs0 := [x, y]) (fs0 := fs) (by simp) (List.Sublist.refl _)).perm (List.Perm.swap _ _ _)⟩
end Go.Wk
