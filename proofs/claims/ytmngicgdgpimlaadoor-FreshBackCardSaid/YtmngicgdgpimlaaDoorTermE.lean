/- Package term: a term's bytes. -/
import Derived.Test.YtmngicgdgpimlaaDoorTermC
import Derived.Test.YtmngicgdgpimlaaDoorOctet
namespace Go.Proofs.YtmngicgdgpimlaaDoor
open Go Go.Wk
set_option synthInstance.maxSize 100000
set_option synthInstance.maxHeartbeats 400000
set_option maxRecDepth 100000

def put1 (k : Int) (s : List UInt8) : List UInt8 := if hasF (fieldsOf k) 1 then Wk.u8 s.length :: s else []
def put2 (k u : Int) : List UInt8 := if hasF (fieldsOf k) 2 then [Wk.u8 u] else []
def put4 (k n : Int) : List UInt8 := if hasF (fieldsOf k) 4 then be 2 (IntKind.u16.wrap n) else []
def headF (k u n : Int) (s : List UInt8) : List UInt8 := [Wk.u8 k] ++ put1 k s ++ put2 k u ++ put4 k n
mutual
def bytesF : Term → List UInt8
  | .mk k u n s ks => headF k u n s ++ bytesLF ks
def bytesLF : List Term → List UInt8
  | [] => []
  | t :: ts => bytesF t ++ bytesLF ts
end
theorem wu16_range (n : Int) : 0 ≤ IntKind.u16.wrap n ∧ IntKind.u16.wrap n ≤ 65535 := by
  unfold IntKind.wrap
  simp only [IntKind.bits, IntKind.signed, Bool.false_and]
  simp; omega
theorem sl_stable {w : World} {e : TypeId} {sz : Nat} {p : Option Addr} {n c : Nat} {xs : List Value} (h : w.ownsRow 0 e sz (.slice p n c) n xs) : Stable (fun _ => False) w (SlF p xs) := (own_sl h).stable fun _ _ h => h
/-- the row has grown. -/
def Grew (w0 w' : World) (p : Option Addr) (b : List UInt8) (v : Value) : Prop := ∃ p' c', v = .slice p' b.length c' ∧ w'.ownsRow 0 5 1 (.slice p' b.length c') b.length (encL b) ∧ ∀ ad, p' = some ad → (∃ ad', p = some ad' ∧ ad.block = ad'.block) ∨ w0.heap.size ≤ ad.block
end Go.Proofs.YtmngicgdgpimlaaDoor
