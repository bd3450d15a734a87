/- 1: a part of this claim's texts, joined: ShelfP W1 W2 W3. -/
import Derived.Test.YtdakncgafdnjfaaGreatProg
import Derived.Shelf.Small.Strs
import Derived.WalkKit
import Derived.RangeFuncNested
import Derived.OwnWalkIn
import Derived.Laws.CopyRow
import Derived.Shelf.Abstract
import Derived.OrdersIn
import Derived.Still
import Derived.Deep.AppendSrc
import Derived.Laws.MakeOwn
import Derived.Laws.BytesString
import Derived.MapKept
import Derived.ProofKit
import Derived.OpenShut
import Derived.Carry
import Derived.Deep.Slices
namespace Go.Wk
open Go
theorem U9 {p q:Prop} (k:q) (h:q→p:=by with_reducible first|exact kS|exact kR|exact kN|exact kB|exact kK|exact kT|exact kE|exact aQ|exact tG|exact fT|exact qw|exact Ac|exact mM):p:=h k
theorem U8 {p q:Prop} (k:q) (h:q→p:=by first|exact jS S|exact tH S):p:=h k
theorem J1 {p:Prop} {C D:Act→Prop} (k:∀ a,C a→D a) (h:(∀ a,C a→D a)→p:=by intro K;(iterate 1 first|(refine sq S ?_;intro a S)|refine U9 ?_|(refine gQ S ?_;intro a S)|(refine dq S ?_;intro a S)|refine U8 ?_);exact K a S):p:=h k
theorem J2 {p:Prop} {C D:Act→Prop} (k:∀ a,C a→D a) (h:(∀ a,C a→D a)→p:=by intro K;(iterate 2 first|(refine sq S ?_;intro a S)|refine U9 ?_|(refine gQ S ?_;intro a S)|(refine dq S ?_;intro a S)|refine U8 ?_);exact K a S):p:=h k
theorem J3 {p:Prop} {C D:Act→Prop} (k:∀ a,C a→D a) (h:(∀ a,C a→D a)→p:=by intro K;(iterate 3 first|(refine sq S ?_;intro a S)|refine U9 ?_|(refine gQ S ?_;intro a S)|(refine dq S ?_;intro a S)|refine U8 ?_);exact K a S):p:=h k
theorem J4 {p:Prop} {C D:Act→Prop} (k:∀ a,C a→D a) (h:(∀ a,C a→D a)→p:=by intro K;(iterate 4 first|(refine sq S ?_;intro a S)|refine U9 ?_|(refine gQ S ?_;intro a S)|(refine dq S ?_;intro a S)|refine U8 ?_);exact K a S):p:=h k
theorem J5 {p:Prop} {C D:Act→Prop} (k:∀ a,C a→D a) (h:(∀ a,C a→D a)→p:=by intro K;(iterate 5 first|(refine sq S ?_;intro a S)|refine U9 ?_|(refine gQ S ?_;intro a S)|(refine dq S ?_;intro a S)|refine U8 ?_);exact K a S):p:=h k
theorem J6 {p:Prop} {C D:Act→Prop} (k:∀ a,C a→D a) (h:(∀ a,C a→D a)→p:=by intro K;(iterate 6 first|(refine sq S ?_;intro a S)|refine U9 ?_|(refine gQ S ?_;intro a S)|(refine dq S ?_;intro a S)|refine U8 ?_);exact K a S):p:=h k
theorem J7 {p:Prop} {C D:Act→Prop} (k:∀ a,C a→D a) (h:(∀ a,C a→D a)→p:=by intro K;(iterate 7 first|(refine sq S ?_;intro a S)|refine U9 ?_|(refine gQ S ?_;intro a S)|(refine dq S ?_;intro a S)|refine U8 ?_);exact K a S):p:=h k
theorem J8 {p:Prop} {C D:Act→Prop} (k:∀ a,C a→D a) (h:(∀ a,C a→D a)→p:=by intro K;(iterate 8 first|(refine sq S ?_;intro a S)|refine U9 ?_|(refine gQ S ?_;intro a S)|(refine dq S ?_;intro a S)|refine U8 ?_);exact K a S):p:=h k
theorem J9 {p:Prop} {C D:Act→Prop} (k:∀ a,C a→D a) (h:(∀ a,C a→D a)→p:=by intro K;(iterate 9 first|(refine sq S ?_;intro a S)|refine U9 ?_|(refine gQ S ?_;intro a S)|(refine dq S ?_;intro a S)|refine U8 ?_);exact K a S):p:=h k
theorem mJ {p:Prop} {C D:Act→Prop} (k:∀ a,C a→D a) (h:(∀ a,C a→D a)→p:=by intro K;(iterate 10 first|(refine sq S ?_;intro a S)|refine U9 ?_|(refine gQ S ?_;intro a S)|(refine dq S ?_;intro a S)|refine U8 ?_);exact K a S):p:=h k
theorem gM {p:Prop} {C D:Act→Prop} (k:∀ a,C a→D a) (h:(∀ a,C a→D a)→p:=by intro K;(iterate 11 first|(refine sq S ?_;intro a S)|refine U9 ?_|(refine gQ S ?_;intro a S)|(refine dq S ?_;intro a S)|refine U8 ?_);exact K a S):p:=h k
theorem jq {p:Prop} {C D:Act→Prop} (k:∀ a,C a→D a) (h:(∀ a,C a→D a)→p:=by intro K;(iterate 12 first|(refine sq S ?_;intro a S)|refine U9 ?_|(refine gQ S ?_;intro a S)|(refine dq S ?_;intro a S)|refine U8 ?_);exact K a S):p:=h k
theorem rP {p:Prop} {C D:Act→Prop} (k:∀ a,C a→D a) (h:(∀ a,C a→D a)→p:=by intro K;(iterate 13 first|(refine sq S ?_;intro a S)|refine U9 ?_|(refine gQ S ?_;intro a S)|(refine dq S ?_;intro a S)|refine U8 ?_);exact K a S):p:=h k
theorem ug {p:Prop} {C D:Act→Prop} (k:∀ a,C a→D a) (h:(∀ a,C a→D a)→p:=by intro K;(iterate 14 first|(refine sq S ?_;intro a S)|refine U9 ?_|(refine gQ S ?_;intro a S)|(refine dq S ?_;intro a S)|refine U8 ?_);exact K a S):p:=h k
theorem tI {p:Prop} {C D:Act→Prop} (k:∀ a,C a→D a) (h:(∀ a,C a→D a)→p:=by intro K;(iterate 15 first|(refine sq S ?_;intro a S)|refine U9 ?_|(refine gQ S ?_;intro a S)|(refine dq S ?_;intro a S)|refine U8 ?_);exact K a S):p:=h k
theorem FF {p:Prop} {C D:Act→Prop} (k:∀ a,C a→D a) (h:(∀ a,C a→D a)→p:=by intro K;(iterate 16 first|(refine sq S ?_;intro a S)|refine U9 ?_|(refine gQ S ?_;intro a S)|(refine dq S ?_;intro a S)|refine U8 ?_);exact K a S):p:=h k
theorem D8 {p:Prop} {C D:Act→Prop} (k:∀ a,C a→D a) (h:(∀ a,C a→D a)→p:=by intro K;(iterate 17 first|(refine sq S ?_;intro a S)|refine U9 ?_|(refine gQ S ?_;intro a S)|(refine dq S ?_;intro a S)|refine U8 ?_);exact K a S):p:=h k
theorem Lh {p:Prop} {C D:Act→Prop} (k:∀ a,C a→D a) (h:(∀ a,C a→D a)→p:=by intro K;(iterate 18 first|(refine sq S ?_;intro a S)|refine U9 ?_|(refine gQ S ?_;intro a S)|(refine dq S ?_;intro a S)|refine U8 ?_);exact K a S):p:=h k
theorem OP {p:Prop} {C D:Act→Prop} (k:∀ a,C a→D a) (h:(∀ a,C a→D a)→p:=by intro K;(iterate 19 first|(refine sq S ?_;intro a S)|refine U9 ?_|(refine gQ S ?_;intro a S)|(refine dq S ?_;intro a S)|refine U8 ?_);exact K a S):p:=h k
theorem mK {p:Prop} {C D:Act→Prop} (k:∀ a,C a→D a) (h:(∀ a,C a→D a)→p:=by intro K;(iterate 20 first|(refine sq S ?_;intro a S)|refine U9 ?_|(refine gQ S ?_;intro a S)|(refine dq S ?_;intro a S)|refine U8 ?_);exact K a S):p:=h k
theorem R_ {p:Prop} {C D:Act→Prop} (k:∀ a,C a→D a) (h:(∀ a,C a→D a)→p:=by intro K;(iterate 21 first|(refine sq S ?_;intro a S)|refine U9 ?_|(refine gQ S ?_;intro a S)|(refine dq S ?_;intro a S)|refine U8 ?_);exact K a S):p:=h k
theorem J22 {p:Prop} {C D:Act→Prop} (k:∀ a,C a→D a) (h:(∀ a,C a→D a)→p:=by intro K;(iterate 22 first|(refine sq S ?_;intro a S)|refine U9 ?_|(refine gQ S ?_;intro a S)|(refine dq S ?_;intro a S)|refine U8 ?_);exact K a S):p:=h k
theorem Y1 {p:Prop} {C D:Act→World→Prop} (k:∀ a w,C a w→D a w) (h:(∀ a w,C a w→D a w)→p:=by intro K;(iterate 1 first|(refine sq S ?_;intro a S)|refine U9 ?_|(refine gQ S ?_;intro a S)|(refine dq S ?_;intro a S)|refine U8 ?_|(refine sw S ?_;intro a w S)|(refine sc S ?_;intro a w S)|(refine gC S ?_;intro a w S));exact K a w S):p:=h k
theorem Y2 {p:Prop} {C D:Act→World→Prop} (k:∀ a w,C a w→D a w) (h:(∀ a w,C a w→D a w)→p:=by intro K;(iterate 2 first|(refine sq S ?_;intro a S)|refine U9 ?_|(refine gQ S ?_;intro a S)|(refine dq S ?_;intro a S)|refine U8 ?_|(refine sw S ?_;intro a w S)|(refine sc S ?_;intro a w S)|(refine gC S ?_;intro a w S));exact K a w S):p:=h k
theorem Y3 {p:Prop} {C D:Act→World→Prop} (k:∀ a w,C a w→D a w) (h:(∀ a w,C a w→D a w)→p:=by intro K;(iterate 3 first|(refine sq S ?_;intro a S)|refine U9 ?_|(refine gQ S ?_;intro a S)|(refine dq S ?_;intro a S)|refine U8 ?_|(refine sw S ?_;intro a w S)|(refine sc S ?_;intro a w S)|(refine gC S ?_;intro a w S));exact K a w S):p:=h k
theorem Y4 {p:Prop} {C D:Act→World→Prop} (k:∀ a w,C a w→D a w) (h:(∀ a w,C a w→D a w)→p:=by intro K;(iterate 4 first|(refine sq S ?_;intro a S)|refine U9 ?_|(refine gQ S ?_;intro a S)|(refine dq S ?_;intro a S)|refine U8 ?_|(refine sw S ?_;intro a w S)|(refine sc S ?_;intro a w S)|(refine gC S ?_;intro a w S));exact K a w S):p:=h k
theorem Y5 {p:Prop} {C D:Act→World→Prop} (k:∀ a w,C a w→D a w) (h:(∀ a w,C a w→D a w)→p:=by intro K;(iterate 5 first|(refine sq S ?_;intro a S)|refine U9 ?_|(refine gQ S ?_;intro a S)|(refine dq S ?_;intro a S)|refine U8 ?_|(refine sw S ?_;intro a w S)|(refine sc S ?_;intro a w S)|(refine gC S ?_;intro a w S));exact K a w S):p:=h k
theorem Y6 {p:Prop} {C D:Act→World→Prop} (k:∀ a w,C a w→D a w) (h:(∀ a w,C a w→D a w)→p:=by intro K;(iterate 6 first|(refine sq S ?_;intro a S)|refine U9 ?_|(refine gQ S ?_;intro a S)|(refine dq S ?_;intro a S)|refine U8 ?_|(refine sw S ?_;intro a w S)|(refine sc S ?_;intro a w S)|(refine gC S ?_;intro a w S));exact K a w S):p:=h k
theorem Y7 {p:Prop} {C D:Act→World→Prop} (k:∀ a w,C a w→D a w) (h:(∀ a w,C a w→D a w)→p:=by intro K;(iterate 7 first|(refine sq S ?_;intro a S)|refine U9 ?_|(refine gQ S ?_;intro a S)|(refine dq S ?_;intro a S)|refine U8 ?_|(refine sw S ?_;intro a w S)|(refine sc S ?_;intro a w S)|(refine gC S ?_;intro a w S));exact K a w S):p:=h k
theorem Y8 {p:Prop} {C D:Act→World→Prop} (k:∀ a w,C a w→D a w) (h:(∀ a w,C a w→D a w)→p:=by intro K;(iterate 8 first|(refine sq S ?_;intro a S)|refine U9 ?_|(refine gQ S ?_;intro a S)|(refine dq S ?_;intro a S)|refine U8 ?_|(refine sw S ?_;intro a w S)|(refine sc S ?_;intro a w S)|(refine gC S ?_;intro a w S));exact K a w S):p:=h k
theorem Y9 {p:Prop} {C D:Act→World→Prop} (k:∀ a w,C a w→D a w) (h:(∀ a w,C a w→D a w)→p:=by intro K;(iterate 9 first|(refine sq S ?_;intro a S)|refine U9 ?_|(refine gQ S ?_;intro a S)|(refine dq S ?_;intro a S)|refine U8 ?_|(refine sw S ?_;intro a w S)|(refine sc S ?_;intro a w S)|(refine gC S ?_;intro a w S));exact K a w S):p:=h k
theorem NJ {p:Prop} {C D:Act→World→Prop} (k:∀ a w,C a w→D a w) (h:(∀ a w,C a w→D a w)→p:=by intro K;(iterate 10 first|(refine sq S ?_;intro a S)|refine U9 ?_|(refine gQ S ?_;intro a S)|(refine dq S ?_;intro a S)|refine U8 ?_|(refine sw S ?_;intro a w S)|(refine sc S ?_;intro a w S)|(refine gC S ?_;intro a w S));exact K a w S):p:=h k
theorem yA {p:Prop} {C D:Act→World→Prop} (k:∀ a w,C a w→D a w) (h:(∀ a w,C a w→D a w)→p:=by intro K;(iterate 11 first|(refine sq S ?_;intro a S)|refine U9 ?_|(refine gQ S ?_;intro a S)|(refine dq S ?_;intro a S)|refine U8 ?_|(refine sw S ?_;intro a w S)|(refine sc S ?_;intro a w S)|(refine gC S ?_;intro a w S));exact K a w S):p:=h k
theorem uh {p:Prop} {C D:Act→World→Prop} (k:∀ a w,C a w→D a w) (h:(∀ a w,C a w→D a w)→p:=by intro K;(iterate 12 first|(refine sq S ?_;intro a S)|refine U9 ?_|(refine gQ S ?_;intro a S)|(refine dq S ?_;intro a S)|refine U8 ?_|(refine sw S ?_;intro a w S)|(refine sc S ?_;intro a w S)|(refine gC S ?_;intro a w S));exact K a w S):p:=h k
theorem Hi {p:Prop} {C D:Act→World→Prop} (k:∀ a w,C a w→D a w) (h:(∀ a w,C a w→D a w)→p:=by intro K;(iterate 13 first|(refine sq S ?_;intro a S)|refine U9 ?_|(refine gQ S ?_;intro a S)|(refine dq S ?_;intro a S)|refine U8 ?_|(refine sw S ?_;intro a w S)|(refine sc S ?_;intro a w S)|(refine gC S ?_;intro a w S));exact K a w S):p:=h k
theorem Li {p:Prop} {C D:Act→World→Prop} (k:∀ a w,C a w→D a w) (h:(∀ a w,C a w→D a w)→p:=by intro K;(iterate 14 first|(refine sq S ?_;intro a S)|refine U9 ?_|(refine gQ S ?_;intro a S)|(refine dq S ?_;intro a S)|refine U8 ?_|(refine sw S ?_;intro a w S)|(refine sc S ?_;intro a w S)|(refine gC S ?_;intro a w S));exact K a w S):p:=h k
theorem Sa {p:Prop} {C D:Act→World→Prop} (k:∀ a w,C a w→D a w) (h:(∀ a w,C a w→D a w)→p:=by intro K;(iterate 15 first|(refine sq S ?_;intro a S)|refine U9 ?_|(refine gQ S ?_;intro a S)|(refine dq S ?_;intro a S)|refine U8 ?_|(refine sw S ?_;intro a w S)|(refine sc S ?_;intro a w S)|(refine gC S ?_;intro a w S));exact K a w S):p:=h k
theorem WQ {p:Prop} {C D:Act→World→Prop} (k:∀ a w,C a w→D a w) (h:(∀ a w,C a w→D a w)→p:=by intro K;(iterate 16 first|(refine sq S ?_;intro a S)|refine U9 ?_|(refine gQ S ?_;intro a S)|(refine dq S ?_;intro a S)|refine U8 ?_|(refine sw S ?_;intro a w S)|(refine sc S ?_;intro a w S)|(refine gC S ?_;intro a w S));exact K a w S):p:=h k
theorem CD {p:Prop} {C D:Act→World→Prop} (k:∀ a w,C a w→D a w) (h:(∀ a w,C a w→D a w)→p:=by intro K;(iterate 17 first|(refine sq S ?_;intro a S)|refine U9 ?_|(refine gQ S ?_;intro a S)|(refine dq S ?_;intro a S)|refine U8 ?_|(refine sw S ?_;intro a w S)|(refine sc S ?_;intro a w S)|(refine gC S ?_;intro a w S));exact K a w S):p:=h k
theorem Y18 {p:Prop} {C D:Act→World→Prop} (k:∀ a w,C a w→D a w) (h:(∀ a w,C a w→D a w)→p:=by intro K;(iterate 18 first|(refine sq S ?_;intro a S)|refine U9 ?_|(refine gQ S ?_;intro a S)|(refine dq S ?_;intro a S)|refine U8 ?_|(refine sw S ?_;intro a w S)|(refine sc S ?_;intro a w S)|(refine gC S ?_;intro a w S));exact K a w S):p:=h k
theorem Rs {p:Prop} {C D:Act→World→Prop} (k:∀ a w,C a w→D a w) (h:(∀ a w,C a w→D a w)→p:=by intro K;(iterate 19 first|(refine sq S ?_;intro a S)|refine U9 ?_|(refine gQ S ?_;intro a S)|(refine dq S ?_;intro a S)|refine U8 ?_|(refine sw S ?_;intro a w S)|(refine sc S ?_;intro a w S)|(refine gC S ?_;intro a w S));exact K a w S):p:=h k
theorem sP {p:Prop} {C D:Act→World→Prop} (k:∀ a w,C a w→D a w) (h:(∀ a w,C a w→D a w)→p:=by intro K;(iterate 20 first|(refine sq S ?_;intro a S)|refine U9 ?_|(refine gQ S ?_;intro a S)|(refine dq S ?_;intro a S)|refine U8 ?_|(refine sw S ?_;intro a w S)|(refine sc S ?_;intro a w S)|(refine gC S ?_;intro a w S));exact K a w S):p:=h k
theorem Y21 {p:Prop} {C D:Act→World→Prop} (k:∀ a w,C a w→D a w) (h:(∀ a w,C a w→D a w)→p:=by intro K;(iterate 21 first|(refine sq S ?_;intro a S)|refine U9 ?_|(refine gQ S ?_;intro a S)|(refine dq S ?_;intro a S)|refine U8 ?_|(refine sw S ?_;intro a w S)|(refine sc S ?_;intro a w S)|(refine gC S ?_;intro a w S));exact K a w S):p:=h k
theorem WR {p:Prop} {C D:Act→World→Prop} (k:∀ a w,C a w→D a w) (h:(∀ a w,C a w→D a w)→p:=by intro K;(iterate 22 first|(refine sq S ?_;intro a S)|refine U9 ?_|(refine gQ S ?_;intro a S)|(refine dq S ?_;intro a S)|refine U8 ?_|(refine sw S ?_;intro a w S)|(refine sc S ?_;intro a w S)|(refine gC S ?_;intro a w S));exact K a w S):p:=h k
theorem E0 {n m:Nat} {p C D:Prop} (e:n=m) (k:C→D) (h:n=m→(C→D)→p:=by intro e K;simp only[e,jb,FG,Nat.reduceAdd,Nat.reduceSub,rQ,Lj,Cl,j6]at S;exact K S):p:=h e k
abbrev T9(n:Nat):Nat × Bool:=(n,true)
abbrev F9(n:Nat):Nat × Bool:=(n,false)
end Go.Wk
namespace Go.Wk
theorem jb {α : Type _} {a : α} {l : List α} : (a :: l).length = l.length + 1 := List.length_cons
theorem FG {α : Type _} : ([] : List α).length = 0 := List.length_nil
theorem rQ {α : Type _} {a : α} {n : Nat} : List.replicate (n + 1) a = a :: List.replicate n a := List.replicate_succ
theorem Lj {α : Type _} {a : α} : List.replicate 0 a = [] := List.replicate_zero
theorem Cl {α : Type _} {a : α} {l m : List α} : (a :: l) ++ m = a :: (l ++ m) := List.cons_append
theorem j6 {α : Type _} (l : List α) : [] ++ l = l := List.nil_append l
end Go.Wk
namespace Go.Proofs
open Go.Shelf
end Go.Proofs
namespace Go.Wk
open Go
structure Item where
 aj:Nat→Prop
 holds:World→Prop
 own:Bool:=true
def aJ (M:Nat→Prop)(w w':World):Prop:=
 w'.os=w.os∧w'.tape=w.tape∧w'.output=w.output∧w.heap.size≤w'.heap.size∧∀ k,k < w.heap.size→¬M k→w'.heap[k]? = w.heap[k]?
theorem aJ.refl (M:Nat→Prop)(w:World):aJ M w w:=⟨rfl,rfl,rfl,Nat.le_refl _,fun _ _ _=>rfl⟩
theorem aJ.size {M:Nat→Prop}{a b:World}(h:aJ M a b):a.heap.size≤b.heap.size:=h.2.2.2.1
theorem aJ.iB {M:Nat→Prop}{a b:World}(h:aJ M a b){k:Nat}(hk:k < a.heap.size)(hm:¬M k):b.heap[k]? = a.heap[k]?:=h.2.2.2.2 k hk hm
theorem aJ.trans' {M N:Nat→Prop}{a b c:World}(h:aJ M a b)(k:aJ N b c)(hN:∀ i,i < a.heap.size→N i→M i):aJ M a c:=
 ⟨k.1.trans h.1,k.2.1.trans h.2.1,k.2.2.1.trans h.2.2.1,Nat.le_trans h.2.2.2.1 k.2.2.2.1,fun i hi hm=>(k.2.2.2.2 i (Nat.lt_of_lt_of_le hi h.2.2.2.1) (fun hn=>hm (hN i hi hn))).trans (h.2.2.2.2 i hi hm)⟩
theorem aJ.trans {M:Nat→Prop}{a b c:World}(h:aJ M a b)(k:aJ M b c):aJ M a c:=h.trans' k fun _ _ h=>h
theorem aJ.mono {M N:Nat→Prop}{a b:World}(h:aJ M a b)(hN:∀ i,i < a.heap.size→M i→N i):aJ N a b:=
 ⟨h.1,h.2.1,h.2.2.1,h.2.2.2.1,fun i hi hn=>h.2.2.2.2 i hi (fun hm=>hn (hN i hi hm))⟩
theorem aJ.alloc (M:Nat→Prop)(w:World)(o:Obj):aJ M w (w.alloc o):=
 ⟨rfl,rfl,rfl,by simp,fun k hk _=>RowKit.Below.heap_alloc _ _ _ hk⟩
theorem aJ.drawn (M:Nat→Prop)(w:World)(n:Nat):aJ M w { w with drawn:=n }:=⟨rfl,rfl,rfl,Nat.le_refl _,fun _ _ _=>rfl⟩
theorem aJ.setRow {M:Nat→Prop}(w:World)(g:Nat)(c:Array Value)(hg:M g):aJ M w (w.setRow g c):=by
 refine ⟨rfl,rfl,rfl,by simp[World.setRow],fun k hk hm=>?_⟩;have:g≠k:=fun e=>hm (e▸hg)
 simp[World.setRow,Array.getElem?_modify,this]
abbrev yB (w w':World):Prop:=aJ (fun _=>False) w w'
def ag (M:Nat→Prop)(w:World)(Φ:World→Prop):Prop:=∀ w',aJ M w w'→Φ w'
abbrev Fx (w:World) (Φ:World→Prop):Prop:=ag (fun _=>False) w Φ
theorem ag.now {M:Nat→Prop}{w:World}{Φ:World→Prop}(h:ag M w Φ):Φ w:=h w (aJ.refl _ _)
theorem ag.later {M:Nat→Prop}{w w':World}{Φ:World→Prop}(h:ag M w Φ)(hw:aJ M w w'):ag M w' Φ:=fun w'' h'=>h w'' (hw.trans h')
theorem ag.less {M N:Nat→Prop}{w:World}{Φ:World→Prop}(h:ag M w Φ)(hN:∀ k,k < w.heap.size→N k→M k):ag N w Φ:=fun w' h'=>h w' (h'.mono hN)
def dR (bs:List Item)(k:Nat):Prop:=∃ it∈bs,it.aj k
def box (b:Nat)(ty:TypeId)(cs:List Value):Item where
 aj:=fun k=>k=b
 holds:=fun w=>w.heap[b]? = some (.cells cs.toArray ty (0,0))
structure Wd (w0:World)(M0:Nat→Prop)(w:World)(bs:List Item)(fs:List (World→Prop)):Prop where
 agree:aJ M0 w0 w
 held:∀ it∈bs,it.holds w
 lt:∀ it∈bs,∀ k,it.aj k→k < w.heap.size
 own:∀ it∈bs,it.own=true→∀ k,it.aj k→M0 k∨w0.heap.size≤k
 apart:bs.Pairwise (fun x y=>∀ k,x.aj k→¬y.aj k)
 facts:∀ Φ∈fs,ag (dR bs) w Φ
 loc:∀ it∈bs,∀ w1 w2:World,(∀ k,it.aj k→w2.heap[k]? = w1.heap[k]?)→it.holds w1→it.holds w2
structure St (w0:World)(M0:Nat→Prop)(ds:List Deferred)(a:Act)(w:World)(l:List Value)(bs:List Item)(fs:List (World→Prop)):Prop where
 slots:a.tmps=l.toArray
 defers:a.defers=ds
 wd:Wd w0 M0 w bs fs
abbrev FW (r:Option Nat):Fence:={ fn:=fun _=>True,depth:=none,alive:=false,round:=r }
abbrev Wp (P:Program)(r:Option Nat)(c:Code)(Q:Exit→Act→World→Prop)(a:Act)(w:World):Prop:=c.wpIn (FW r) 0 P Q a w
abbrev WL (P:Program)(r:Option Nat)(ops:Array Oper)(Q:Exit→Act→World→Prop)(l:List Oper)(a:Act)(w:World):Prop:=wpListIn (FW r) 0 P ops Q l a w
class pF (l:List Value)(n:Nat)(v:outParam Value):Prop where eq:l[n]? = some v
instance nth0 {v:Value}{l:List Value} : pF (v::l) 0 v:=⟨rfl⟩
instance nthS {u v:Value}{l:List Value}{n:Nat}[h:pF l n v]:pF (u::l) (n+1) v:=⟨by simpa using h.eq⟩
class qy (l:List Value)(n:Nat)(v:Value)(l':outParam (List Value)):Prop where
 eq:l.set n v=l'
instance put0 {u v:Value}{l:List Value} : qy (u::l) 0 v (v::l):=⟨rfl⟩
instance putS {u v:Value}{l l':List Value}{n:Nat}[h:qy l n v l']:qy (u::l) (n+1) v (u::l'):=⟨by simp[h.eq]⟩
class cZ (l:List Value)(d:Option Nat)(v:Value)(l':outParam (List Value)):Prop where
 eq:∀ ds,(Act.mk l.toArray ds).put d v=Act.mk l'.toArray ds
instance puto0 {l:List Value}{v:Value} : cZ l none v l:=⟨fun _=>rfl⟩
instance NK {l l':List Value}{v:Value}{n:Nat}[h:qy l n v l']:cZ l (some n) v l':=⟨fun ds=>by simp[Act.put,←h.eq]⟩
def An (c:Bool)(v:Value):Value:=bif c then v else undef
class uj (cs:List Bool)(v:Value)(v':outParam Value):Prop where eq:(∀ c∈cs,c=true)→v=v'
instance (priority:=1100) WT {v:Value} : uj [] v v:=⟨fun _=>rfl⟩
instance WU {c:Bool}{cs:List Bool}{v v':Value}[h:uj cs v v']:uj (c::cs) (An c v) v':=⟨fun hc=>by
 have:c=true:=hc c (by simp);subst this;simp only[An,cond_true];exact h.eq fun d hd=>hc d (by simp[hd])⟩
instance (priority:=500) WV {cs:List Bool}{v:Value} : uj cs v v:=⟨fun _=>rfl⟩
structure Cx where
 cs:List Bool
 l:List Value
class Ev (l:Cx)(x:Operand)(v:outParam Value):Prop where eq:(∀ c∈l.cs,c=true)→∀ ds,(Act.mk l.l.toArray ds).eval x=v
instance evT {cs:List Bool}{l:List Value}{n:Nat}{v v':Value}[h:pF l n v][hs:uj cs v v']:Ev ⟨cs,l⟩ (.tmp n) v':=⟨fun hc ds=>by
 have:=h.eq;rw[←hs.eq hc];simp[Act.eval,Array.getD_eq_getD_getElem?,this]⟩
instance evC {l:Cx}{v:Value} : Ev l (.const v) v:=⟨fun _ _=>rfl⟩
instance evF {l:Cx}{f:Nat} : Ev l (.func f) (.func (.func f) #[] #[]):=⟨fun _ _=>rfl⟩
class Hv (l:Cx)(xs:List Operand)(vs:outParam (List Value)):Prop where eq:(∀ c∈l.cs,c=true)→∀ ds,xs.map (Act.mk l.l.toArray ds).eval=vs
instance evl0 {l:Cx} : Hv l [] []:=⟨fun _ _=>rfl⟩
instance evl1 {l:Cx}{x:Operand}{xs:List Operand}{v:Value}{vs:List Value}[h:Ev l x v][h':Hv l xs vs]:Hv l (x::xs) (v::vs):=⟨fun hc ds=>by simp[h.eq hc,h'.eq hc]⟩
def Fr (ρ:Operand→Value)(l:Cx):Prop:=(∀ c∈l.cs,c=true)∧∃ ds,ρ=(Act.mk l.l.toArray ds).eval
theorem Fr.ev {ρ:Operand→Value}{l:Cx}(h:Fr ρ l){x:Operand}{v:Value}[e:Ev l x v]:ρ x=v:=by obtain ⟨hc,ds,rfl⟩:=h;exact e.eq hc ds
theorem Fr.Sb {ρ:Operand→Value}{l:Cx}(h:Fr ρ l){xs:List Operand}{vs:List Value}[e:Hv l xs vs]:xs.map ρ=vs:=by obtain ⟨hc,ds,rfl⟩:=h;exact e.eq hc ds
theorem St.Vk {w0 M0 ds a w l bs fs}(S:St w0 M0 ds a w l bs fs){cs:List Bool}(hc:∀ c∈cs,c=true):Fr a.eval ⟨cs,l⟩:=by
 obtain ⟨t,d⟩:=a;have:=S.slots;simp at this;subst this;exact ⟨hc,d,rfl⟩
theorem St.fr {w0 M0 ds a w l bs fs}(S:St w0 M0 ds a w l bs fs):Fr a.eval ⟨[],l⟩:=S.Vk (by simp)
def cu (ρ : Operand → Value)(op : Op)(ty : TypeId) : Sem Next := execOp ρ { dst := none, op := op, type := ty, pos := "", after := #[], guard := none }
theorem gN (ρ:Operand→Value)(o:Oper):execOp ρ o=cu ρ o.op o.type:=by
 obtain ⟨d,op,ty,pos,af,g⟩:=o;cases op <;> rfl
def cE:Op→Bool
 | .defer _=>true
 | _=>false
theorem bQ {r:Option Nat}{o:Oper}{ρ:Operand→Value}(h:cE o.op=false):o.semAt r ρ=cu ρ o.op o.type:=by
 rw[←gN];cases r with
 | none=>rfl
 | some k=>exact Oper.semAt_some k ρ o (by intro c hc;rw[hc]at h;cases h)
structure Mem (w:World)(bs:List Item)(fs:List (World→Prop)):Prop where
 held:∀ it∈bs,it.holds w
 facts:∀ Φ∈fs,ag (dR bs) w Φ
theorem Wd.mem {w0 M0 w bs fs}(h:Wd w0 M0 w bs fs):Mem w bs fs:=⟨h.held,h.facts⟩
class dO (P:Program)(op:Op)(ty:TypeId)(l:Cx)(bs:List Item)(fs:List (World→Prop))(v:outParam Value):Prop where
 run:∀ (ρ:Operand→Value) (w:World),Fr ρ l→Mem w bs fs→(cu ρ op ty).run P w=.ok (.value v) w
class WW (P:Program)(op:Op)(ty:TypeId)(l:Cx)(t:outParam TypeId)(cs:outParam (List Value)):Prop where
 run:∀ (ρ:Operand→Value) (w:World),Fr ρ l→(cu ρ op ty).run P w=.ok (.value (.pointer (some ⟨w.heap.size,0,none⟩))) (w.alloc (.cells cs.toArray t))
theorem St.put {w0 M0 ds a w l bs fs}(S:St w0 M0 ds a w l bs fs){d:Option Nat}{v:Value}{l':List Value}[h:cZ l d v l']:St w0 M0 ds (a.put d v) w l' bs fs:=by
 obtain ⟨t,dd⟩:=a;have:=S.slots;simp at this;subst this;have hd:=S.defers;simp at hd;subst hd;rw[h.eq];exact ⟨rfl,rfl,S.wd⟩
theorem Wd.step {w0 M0 w w' bs fs}(h:Wd w0 M0 w bs fs)(hw:yB w w'):Wd w0 M0 w' bs fs where
 agree:=h.agree.trans' hw fun _ _ h=>h.elim
 held:=fun it hi=>h.loc it hi w w' (fun k hk=>hw.iB (h.lt it hi k hk) id) (h.held it hi)
 lt:=fun it hi k hk=>Nat.lt_of_lt_of_le (h.lt it hi k hk) hw.size
 own:=h.own
 apart:=h.apart
 facts:=fun Φ hΦ=>(h.facts Φ hΦ).later (hw.mono fun _ _ h=>h.elim)
 loc:=h.loc
theorem qz (b:Nat)(t:TypeId)(cs:List Value)(w1 w2:World)(h:∀ k,(box b t cs).aj k→w2.heap[k]? = w1.heap[k]?)(h1:(box b t cs).holds w1):(box b t cs).holds w2:=by
 have:=h b rfl;simp only[box]at *;rw[this];exact h1
theorem Wd.alloc {w0 M0 w bs fs}(h:Wd w0 M0 w bs fs)(t:TypeId)(cs:List Value):Wd w0 M0 (w.alloc (.cells cs.toArray t)) (box w.heap.size t cs::bs) fs:=by
 have h1:=h.step (aJ.alloc _ w (.cells cs.toArray t));refine ⟨h1.agree,?_,?_,?_,?_,?_,?_⟩;intro it hi;rcases List.mem_cons.1 hi with rfl | hi
 exact heap_alloc_new w _;exact h1.held it hi;intro it hi k hk;rcases List.mem_cons.1 hi with rfl | hi
 simp only[box]at hk;subst hk;simp;exact h1.lt it hi k hk;intro it hi ho k hk;rcases List.mem_cons.1 hi with rfl | hi
 simp only[box]at hk;subst hk;exact .inr h.agree.size;exact h.own it hi ho k hk;refine List.pairwise_cons.2 ⟨fun it hi k hk hk'=>?_,h.apart⟩;simp only[box]at hk;subst hk;exact absurd (h.lt it hi _ hk') (Nat.lt_irrefl _);intro Φ hΦ w' bP;refine h.facts Φ hΦ w' ((aJ.alloc _ w (.cells cs.toArray t)).trans' bP fun i hi=>?_);rintro ⟨it,hm,hf⟩;rcases List.mem_cons.1 hm with rfl | hm
 simp only[box]at hf;omega;exact ⟨it,hm,hf⟩;intro it hi;rcases List.mem_cons.1 hi with rfl | hi
 exact qz _ _ _;exact h.loc it hi
section
variable {P:Program}{r:Option Nat}{ops:Array Oper}{Q:Exit→Act→World→Prop}{w0:World}{M0:Nat→Prop}{ds:List Deferred}{a:Act}{w:World}{l l':List Value}{bs:List Item}{fs:List (World→Prop)}
 {d:Option Nat} {op:Op} {ty:TypeId} {pos:String} {af:Array Edge} {rest:List Oper} {v:Value}
theorem bR {o:Oper}(hg:o.guard=none)(h:o.uponIn (FW r) 0 P a (WL P r ops Q rest) Q ((o.semAt r a.eval).run P w)):WL P r ops Q (o::rest) a w:=
 wpListIn_plain hg fun K hK=>⟨fun _ _=>trivial,by
  revert h
  generalize (o.semAt (FW r).round a.eval).run P w=q
  intro h;cases q with
  | ok n w'=>
   cases n <;> simp only[Oper.uponIn]at h⊢<;> first | exact hK _ _ h | skip
   case enter f args=>
    refine ⟨h.1,h.2.1,fun cs hr=>?_⟩;obtain ⟨e,w',fr,hR,hc,hl⟩:=h.2.2 cs hr;refine ⟨e,w',fr,?_,hc,hl⟩;cases e <;> first | exact hK _ _ hR | exact hR
   case row row args=>
    exact ⟨h.1,h.2.mono fun v w' hv=>hK _ _ hv⟩
   case round l f tmps assign body=>
    refine ⟨h.1,h.2.mono fun e w' hv=>?_⟩;cases e <;> first | exact hK _ _ hv | exact hv
   all_goals exact h
  | halt x w'=>cases x <;> exact h⟩
theorem sq [hq:dO P op ty ⟨[],l⟩ bs fs v][hp:cZ l d v l'](S:St w0 M0 ds a w l bs fs)(K:∀ a,St w0 M0 ds a w l' bs fs→WL P r ops Q rest a w)(k_:cE op=false:=by rfl):WL P r ops Q (⟨d,op,ty,pos,af,none⟩::rest) a w:=by
 refine bR rfl ?_;rw[bQ k_];simp only[hq.run a.eval w S.fr S.wd.mem,Oper.uponIn];exact K _ S.put
theorem sa {t:TypeId}{cs:List Value}{l':Nat→List Value}[hq:WW P op ty ⟨[],l⟩ t cs][hp:∀ b,cZ l d (.pointer (some ⟨b,0,none⟩)) (l' b)](S:St w0 M0 ds a w l bs fs)
  (K:∀ b a w,St w0 M0 ds a w (l' b) (box b t cs::bs) fs→WL P r ops Q rest a w) (k_:cE op=false:=by rfl):WL P r ops Q (⟨d,op,ty,pos,af,none⟩::rest) a w:=by
 refine bR rfl ?_;rw[bQ k_];simp only[hq.run a.eval w S.fr,Oper.uponIn];have:=hp w.heap.size;have S':=S.put (d:=d) (v:=.pointer (some ⟨w.heap.size,0,none⟩));exact K _ _ _ ⟨S'.slots,S'.defers,S'.wd.alloc t cs⟩
class dN (P:Program)(t:TypeId)(d:outParam TypeDesc):Prop where eq:P.underlying t=some d
class TI (P:Program)(t:TypeId)(z:outParam Value)(size bytes:outParam Nat):Prop where
 ex:∃ i,P.info? t=some i∧i.zero=some z∧i.size=size∧i.bytes=bytes
theorem bZ {P:Program}{t:TypeId}{z:Value}{s b:Nat}(h:(P.info? t).map (fun i=>(i.zero,i.size,i.bytes))=some (some z,s,b)):TI P t z s b:=by
 cases hi:P.info? t with
 | none=>simp[hi]at h
 | some i=>simp[hi]at h;exact ⟨i,hi▸rfl,h.1,h.2.1,h.2.2⟩
theorem cv {P:Program}{t:TypeId}{z:Value}{s b:Nat}[h:TI P t z s b](w:World):(sizeOf t).run P w=.ok s w:=by
 obtain ⟨i,hi,hz,hs,hb⟩:=h.ex;simp[sizeOf,typeInfo,Sem.run_bind,program,Sem.run,hi,hs]
theorem nK {P:Program}{t:TypeId}{z:Value}{s b:Nat}[h:TI P t z s b](w:World):(zeroValue t).run P w=.ok z w:=by
 obtain ⟨i,hi,hz,hs,hb⟩:=h.ex;simp[zeroValue,typeInfo,Sem.run_bind,program,Sem.run,hi,hz]
theorem cp {P:Program}{t:TypeId}{d:TypeDesc}[h:dN P t d](w:World):(underlying t).run P w=.ok d w:=run_underlying h.eq w
class Cells (v:Value)(cs:outParam (List Value)):Prop where eq:v.cells.toList=cs
instance WX {cs:List Value} : Cells (.agg ⟨cs⟩) cs:=⟨rfl⟩
instance WY {k:IntKind}{n:Int} : Cells (.int k n) [.int k n]:=⟨rfl⟩
instance WZ {b:Bool} : Cells (.bool b) [.bool b]:=⟨rfl⟩
instance W2 {s:ByteArray} : Cells (.string s) [.string s]:=⟨rfl⟩
instance W3 {p:Option Addr} : Cells (.pointer p) [.pointer p]:=⟨rfl⟩
instance Vl {p:Option Addr}{n c:Nat} : Cells (.slice p n c) [.slice p n c]:=⟨rfl⟩
instance W4 {p:Option Nat} : Cells (.map p) [.map p]:=⟨rfl⟩
instance W5 {f:Fn}{x y:Array Value} : Cells (.func f x y) [.func f x y]:=⟨rfl⟩
end
def Sc:List Value→Nat→Value
 | [],_=>undef
 | v::_,0=>v
 | _::l,n+1=>Sc l n
def St.uu {w0:World}{M0:Nat→Prop}{ds:List Deferred}{a:Act}{w:World}{l:List Value}{bs:List Item}{fs:List (World→Prop)}(_:St w0 M0 ds a w l bs fs):Nat→Value:=Sc l
instance W6 {P ty}{l:Cx}{bs fs x v}[Ev l x v]:dO P (.move x) ty l bs fs v:=⟨fun ρ w h _=>by simp[cu,execOp,h.ev (x:=x) (v:=v)]⟩
instance Sd {P ty l bs fs x v}[Ev l x v]:dO P (.assign x) ty l bs fs v:=⟨fun ρ w h _=>by simp[cu,execOp,h.ev (x:=x) (v:=v)]⟩
instance (priority:=1100) Vm {P ty l bs fs c x y v}[Ev l c (.bool true)][Ev l x v]:dO P (.pick c x y) ty l bs fs v:=⟨fun ρ w h _=>by
 simp[cu,execOp,asBool,h.ev (x:=x) (v:=v),h.ev (x:=c) (v:=.bool true)]⟩
instance (priority:=1100) Vn {P ty l bs fs c x y v}[Ev l c (.bool false)][Ev l y v]:dO P (.pick c x y) ty l bs fs v:=⟨fun ρ w h _=>by
 simp[cu,execOp,asBool,h.ev (x:=y) (v:=v),h.ev (x:=c) (v:=.bool false)]⟩
instance Vo {P:Program}{t ty:TypeId}{l:Cx}{z:Value}{s b:Nat}{cs:List Value}[TI P t z s b][hc:Cells z cs]:WW P (.alloc t) ty l t cs:=⟨fun ρ w h=>by
 have:=hc.eq;simp[cu,execOp,Instr.alloc,nK,newVar,newRow,←this]⟩
instance opBox {P:Program}{t ty:TypeId}{l:Cx}{x:Operand}{v:Value}{cs:List Value}[Ev l x v][hc:Cells v cs]:WW P (.box t x) ty l t cs:=⟨fun ρ w h=>by
 have:=hc.eq;simp[cu,execOp,Instr.box,newVar,newRow,←this,h.ev (x:=x) (v:=v)]⟩
class Ao (d:TypeDesc)(b:outParam Bool):Prop where eq:(match d with | .struct _ | .array _ _=>true | _=>false)=b
instance {n e} : Ao (.array n e) true:=⟨rfl⟩
instance {k} : Ao (.int k) false:=⟨rfl⟩
instance:Ao .bool false:=⟨rfl⟩
instance:Ao .string false:=⟨rfl⟩
instance {e} : Ao (.pointer e) false:=⟨rfl⟩
instance {e} : Ao (.slice e) false:=⟨rfl⟩
instance {k e} : Ao (.map k e) false:=⟨rfl⟩
class eU (P:Program)(t:TypeId)(b:outParam Bool):Prop where run:∀ w,(isAgg t).run P w=.ok b w
instance {P t d b}[h:dN P t d][hb:Ao d b]:eU P t b:=⟨fun w=>by
 have:=hb.eq;subst this;cases d <;> simp[isAgg,cp,Sem.run_bind]⟩
class fZ (P:Program)(s f:Nat)(off ft:outParam Nat):Prop where
 ex:∃ fields F,P.underlying s=some (.struct fields)∧fields[f]? = some F∧F.offset=off∧F.type=ft∧((P.info? ft).map (fun i=>decide (i.size=0)))=some false
class e9 (bs:List Item)(b:Nat)(t:outParam TypeId)(cs:outParam (List Value)):Prop where mem:box b t cs∈bs
instance hb0 {b t cs bs} : e9 (box b t cs::bs) b t cs:=⟨List.mem_cons_self ..⟩
instance (priority:=900) Vp {b t cs x bs}[h:e9 bs b t cs]:e9 (x::bs) b t cs:=⟨List.mem_cons_of_mem _ h.mem⟩
theorem Mem.box {w bs fs}(h:Mem w bs fs){b t cs}[hb:e9 bs b t cs]:w.heap[b]? = some (.cells cs.toArray t (0,0)):=h.held _ hb.mem
theorem Mem.cell {w bs fs}(h:Mem w bs fs){b t cs}[hb:e9 bs b t cs](i:Nat):w.cell? ⟨b,i,none⟩=cs[i]?:=by
 have:=cell_of_row w b i cs.toArray t (0,0) h.box;simpa using this
class Ap (cs:List Value)(n:Nat)(vs:outParam (List Value)):Prop where eq:vs.length=n∧vs <+: cs
instance take0 {cs} : Ap cs 0 []:=⟨rfl,List.nil_prefix⟩
instance takeS {c:Value}{cs vs n}[h:Ap cs n vs]:Ap (c::cs) (n+1) (c::vs):=⟨by simp[h.eq.1],by
 obtain ⟨t,ht⟩:=h.eq.2;exact ⟨t,by simp[ht]⟩⟩
class Lk (cs:List Value)(off n:Nat)(vs:outParam (List Value)):Prop where eq:vs.length=n∧∀ j,j < n→cs[off+j]? = vs[j]?
instance seg0 {cs n vs}[h:Ap cs n vs]:Lk cs 0 n vs:=⟨h.eq.1,fun j hj=>by
 obtain ⟨t,rfl⟩:=h.eq.2;have:=h.eq.1;simp[List.getElem?_append,this,hj]⟩
instance segS {c:Value}{cs vs off n}[h:Lk cs off n vs]:Lk (c::cs) (off+1) n vs:=⟨h.eq.1,fun j hj=>by
 rw[←h.eq.2 j hj,show off+1+j=(off+j)+1 from by omega];rfl⟩
instance Vq {P ty l bs fs t x b off bt cs v}[Ev l x (.pointer (some ⟨b,off,none⟩))][e9 bs b bt cs][ha:eU P t false][hn:pF cs off v]:dO P (.load t x) ty l bs fs v:=⟨fun ρ w h m=>by
 have hc:=m.cell (b:=b) (t:=bt) (cs:=cs) off;rw[hn.eq]at hc;simp[cu,execOp,Instr.loadAt,h.ev (x:=x) (v:=.pointer (some ⟨b,off,none⟩)),Instr.sureAddr,loadVar,Sem.run_bind,ha.run,load,Sem.run,hc]⟩
instance Vr {P ty l bs fs t x b off bt cs vs z n dy}[Ev l x (.pointer (some ⟨b,off,none⟩))][e9 bs b bt cs][ha:eU P t true][TI P t z n dy][hn:Lk cs off n vs]:dO P (.load t x) ty l bs fs (.agg ⟨vs⟩):=⟨fun ρ w h m=>by
 have hl:(loadCells ⟨b,off,none⟩ n).run P w=.ok vs.toArray w:=by
  have:=run_loadCells_list (P:=P) w ⟨b,off,none⟩ vs (fun j v hj=>by
   have hjn:j < n:=by rw[←hn.eq.1];exact (List.getElem?_eq_some_iff.1 hj).1
   have e:(⟨b,off,none⟩:Addr).add j=⟨b,off+j,none⟩:=by unfold Addr.add;split <;> simp_all
   rw[e,m.cell (b:=b) (t:=bt) (cs:=cs),hn.eq.2 j hjn,hj])
  rw[hn.eq.1]at this;exact this
 simp[cu,execOp,Instr.loadAt,h.ev (x:=x) (v:=.pointer (some ⟨b,off,none⟩)),Instr.sureAddr,loadVar,Sem.run_bind,ha.run,cv,hl]⟩
theorem ld {P:Program}{s f off ft:Nat}[h:fZ P s f off ft](a:Addr)(w:World):(Instr.fieldAt s (.pointer (some a)) f).run P w=.ok (.pointer (some (a.add off))) w:=by
 obtain ⟨fields,F,hu,hf,rfl,rfl,hs⟩:=h.ex;cases hi:P.info? F.type with
 | none=>simp[hi]at hs
 | some i=>
  simp[hi]at hs;simp[Instr.fieldAt,run_underlying hu,Sem.run_bind,hf,Instr.sureAddr,fieldPlace,sizeOf,typeInfo,program,Sem.run,hi,hs]
instance (priority:=1100) Ll {P ty l bs fs s f x b off ft}[Ev l x (.pointer (some ⟨b,0,none⟩))][hf:fZ P s f off ft]:dO P (.fieldAddr s x f) ty l bs fs (.pointer (some ⟨b,off,none⟩)):=⟨fun ρ w h _=>by
 have e:(⟨b,0,none⟩:Addr).add off=⟨b,off,none⟩:=by unfold Addr.add;split <;> simp_all
 simp[cu,execOp,h.ev (x:=x) (v:=.pointer (some ⟨b,0,none⟩)),ld (P:=P) (s:=s) (f:=f) (off:=off) (ft:=ft),e]⟩
instance NL {P ty l bs fs s f x b k off ft}[Ev l x (.pointer (some ⟨b,k,none⟩))][hf:fZ P s f off ft]:dO P (.fieldAddr s x f) ty l bs fs (.pointer (some ⟨b,k+off,none⟩)):=⟨fun ρ w h _=>by
 have e:(⟨b,k,none⟩:Addr).add off=⟨b,k+off,none⟩:=by unfold Addr.add;split <;> simp_all
 simp[cu,execOp,h.ev (x:=x) (v:=.pointer (some ⟨b,k,none⟩)),ld (P:=P) (s:=s) (f:=f) (off:=off) (ft:=ft),e]⟩
instance W7 {P ty l bs fs x p}[Ev l x (.pointer (some p))]:dO P (.nilCheck x) ty l bs fs (.pointer (some p)):=⟨fun ρ w h _=>by
 simp[cu,execOp,h.ev (x:=x) (v:=.pointer (some p))]⟩
section ints
variable {P:Program}{ty:TypeId}{l:Cx}{bs:List Item}{fs:List (World→Prop)}{x y:Operand}{t t':TypeId}{k:IntKind}{m n:Int}
instance opAdd [Ev l x (.int k m)][Ev l y (.int k n)]:dO P (.binOp .add t x y t') ty l bs fs (.int k (k.wrap (m+n))):=⟨fun ρ w h _=>by
 simp[cu,execOp,h.ev (x:=x) (v:=.int k m),h.ev (x:=y) (v:=.int k n),eqGuard,binOp,Op.intArith]⟩
instance opSub [Ev l x (.int k m)][Ev l y (.int k n)]:dO P (.binOp .sub t x y t') ty l bs fs (.int k (k.wrap (m - n))):=⟨fun ρ w h _=>by
 simp[cu,execOp,h.ev (x:=x) (v:=.int k m),h.ev (x:=y) (v:=.int k n),eqGuard,binOp,Op.intArith]⟩
instance opMul [Ev l x (.int k m)][Ev l y (.int k n)]:dO P (.binOp .mul t x y t') ty l bs fs (.int k (k.wrap (m*n))):=⟨fun ρ w h _=>by
 simp[cu,execOp,h.ev (x:=x) (v:=.int k m),h.ev (x:=y) (v:=.int k n),eqGuard,binOp,Op.intArith]⟩
instance opEql [Ev l x (.int k m)][Ev l y (.int k n)]:dO P (.binOp .eql t x y t') ty l bs fs (.bool (decide (m=n))):=⟨fun ρ w h _=>by
 simp[cu,execOp,h.ev (x:=x) (v:=.int k m),h.ev (x:=y) (v:=.int k n),eqGuard,binOp,Op.intCmp];rfl⟩
instance opNeq [Ev l x (.int k m)][Ev l y (.int k n)]:dO P (.binOp .neq t x y t') ty l bs fs (.bool (!decide (m=n))):=⟨fun ρ w h _=>by
 simp[cu,execOp,h.ev (x:=x) (v:=.int k m),h.ev (x:=y) (v:=.int k n),eqGuard,binOp,Op.intCmp,bne,BEq.beq]⟩
instance opLss [Ev l x (.int k m)][Ev l y (.int k n)]:dO P (.binOp .lss t x y t') ty l bs fs (.bool (decide (m < n))):=⟨fun ρ w h _=>by
 simp[cu,execOp,h.ev (x:=x) (v:=.int k m),h.ev (x:=y) (v:=.int k n),eqGuard,binOp,Op.intCmp]⟩
instance opLeq [Ev l x (.int k m)][Ev l y (.int k n)]:dO P (.binOp .leq t x y t') ty l bs fs (.bool (decide (m≤n))):=⟨fun ρ w h _=>by
 simp[cu,execOp,h.ev (x:=x) (v:=.int k m),h.ev (x:=y) (v:=.int k n),eqGuard,binOp,Op.intCmp]⟩
instance opGtr [Ev l x (.int k m)][Ev l y (.int k n)]:dO P (.binOp .gtr t x y t') ty l bs fs (.bool (decide (n < m))):=⟨fun ρ w h _=>by
 simp[cu,execOp,h.ev (x:=x) (v:=.int k m),h.ev (x:=y) (v:=.int k n),eqGuard,binOp,Op.intCmp]⟩
instance opGeq [Ev l x (.int k m)][Ev l y (.int k n)]:dO P (.binOp .geq t x y t') ty l bs fs (.bool (decide (n≤m))):=⟨fun ρ w h _=>by
 simp[cu,execOp,h.ev (x:=x) (v:=.int k m),h.ev (x:=y) (v:=.int k n),eqGuard,binOp,Op.intCmp]⟩
instance opNot {b:Bool}[Ev l x (.bool b)]:dO P (.unOp .not t x) ty l bs fs (.bool (!b)):=⟨fun ρ w h _=>by
 simp[cu,execOp,h.ev (x:=x) (v:=.bool b),Op.unary]⟩
end ints
class Aq (v:Value):Prop where eq:v.oneCell'=true
instance {b} : Aq (.bool b):=⟨rfl⟩
instance {k n} : Aq (.int k n):=⟨rfl⟩
instance {s} : Aq (.string s):=⟨rfl⟩
instance {p} : Aq (.pointer p):=⟨rfl⟩
instance {p n c} : Aq (.slice p n c):=⟨rfl⟩
instance {p} : Aq (.map p):=⟨rfl⟩
instance {f x y} : Aq (.func f x y):=⟨rfl⟩
class Flat (vs:List Value):Prop where all:∀ v∈vs,v.oneCell'=true
instance flat0:Flat []:=⟨fun _ h=>by cases h⟩
instance flat1 {v vs}[h:Aq v][h':Flat vs]:Flat (v::vs):=⟨fun u hu=>by
 rcases List.mem_cons.1 hu with rfl | hu
 exact h.eq;exact h'.all u hu⟩
class iC (cs vs:List Value)(cs':outParam (List Value)):Prop where eq:vs.length≤cs.length∧vs++cs.drop vs.length=cs'
instance sf0 {cs} : iC cs [] cs:=⟨by simp⟩
instance sfS {c v cs vs cs'}[h:iC cs vs cs']:iC (c::cs) (v::vs) (v::cs'):=⟨by simpa using h.eq⟩
class rR (cs:List Value)(off:Nat)(vs:List Value)(cs':outParam (List Value)):Prop where eq:off+vs.length≤cs.length∧cs.take off++vs++cs.drop (off+vs.length)=cs'
instance ss0 {cs vs cs'}[h:iC cs vs cs']:rR cs 0 vs cs':=⟨by simpa using h.eq⟩
instance ssS {c cs off vs cs'}[h:rR cs off vs cs']:rR (c::cs) (off+1) vs (c::cs'):=⟨by
 obtain ⟨h1,h2⟩:=h.eq;refine ⟨by simp;omega,?_⟩;rw[←h2,show off+1+vs.length=(off+vs.length)+1 from by omega];simp⟩
class FH (bs:List Item)(b:Nat)(t:outParam TypeId)(cs:outParam (List Value))(cs':List Value)(bs':outParam (List Item)):Prop where
 ex:∃ pre post,bs=pre++box b t cs::post∧bs'=pre++box b t cs'::post
instance rp0 {b t cs cs' bs} : FH (box b t cs::bs) b t cs cs' (box b t cs'::bs):=⟨[],bs,rfl,rfl⟩
instance (priority:=900) rp1 {x b t cs cs' bs bs'}[h:FH bs b t cs cs' bs']:FH (x::bs) b t cs cs' (x::bs'):=⟨by
 obtain ⟨pre,post,rfl,rfl⟩:=h.ex;exact ⟨x::pre,post,rfl,rfl⟩⟩
theorem pP {pre post:List Item}{x y:Item}(h:x.aj=y.aj):dR (pre++x::post)=dR (pre++y::post):=by
 funext k
 simp only[dR,List.mem_append,List.mem_cons,or_and_right,exists_or,exists_eq_left,h]
theorem Wd.store {w0 M0 w fs}{pre post:List Item}{b:Nat}{t:TypeId}{cs cs':List Value}(h:Wd w0 M0 w (pre++box b t cs::post) fs):Wd w0 M0 (w.setRow b cs'.toArray) (pre++box b t cs'::post) fs:=by
 have hm:box b t cs∈pre++box b t cs::post:=by simp
 have hb:w.heap[b]? = some (.cells cs.toArray t (0,0)):=h.held _ hm;have hsz:(w.setRow b cs'.toArray).heap.size=w.heap.size:=by simp[World.setRow]
 have W8:∀ k,k≠b→(w.setRow b cs'.toArray).heap[k]? = w.heap[k]?:=fun k hk=>by
  simp[World.setRow,Array.getElem?_modify,Ne.symm hk]
 have hap:=List.pairwise_append.1 h.apart;have s9:=List.pairwise_cons.1 hap.2.1;have hne:∀ it,it∈pre∨it∈post→∀ k,it.aj k→k≠b:=by
  rintro it (hi | hi) k hk rfl;exact hap.2.2 it hi (box k t cs) (by simp) k hk rfl;exact s9.1 it hi k rfl hk
 have hin:∀ it,it∈pre∨it∈post→it∈pre++box b t cs::post:=fun it hi=>by rcases hi with hi | hi <;> simp[hi]
 have hkeep:∀ it,it∈pre∨it∈post→it.holds (w.setRow b cs'.toArray):=fun it hi=>
  h.loc it (hin it hi) w _ (fun k hk=>W8 k (hne it hi k hk)) (h.held it (hin it hi))
 have hfe:dR (pre++box b t cs'::post)=dR (pre++box b t cs::post):=pP rfl;refine ⟨?_,?_,?_,?_,?_,?_,?_⟩;refine h.agree.trans' (N:=fun k=>k=b) (aJ.setRow w b _ rfl) fun k hk e=>?_
 subst e;rcases h.own _ hm rfl k rfl with h1 | h1
 exact h1;omega;intro it hi;rcases List.mem_append.1 hi with hi | hi
 exact hkeep it (.inl hi);rcases List.mem_cons.1 hi with rfl | hi
 exact setRow_heap w b cs.toArray _ t _ hb;exact hkeep it (.inr hi);intro it hi k hk;rw[hsz];rcases List.mem_append.1 hi with hi | hi
 exact h.lt it (by simp[hi]) k hk;rcases List.mem_cons.1 hi with rfl | hi
 exact h.lt _ hm k hk;exact h.lt it (by simp[hi]) k hk;intro it hi ho k hk;rcases List.mem_append.1 hi with hi | hi
 exact h.own it (by simp[hi]) ho k hk;rcases List.mem_cons.1 hi with rfl | hi
 exact h.own _ hm rfl k hk;exact h.own it (by simp[hi]) ho k hk;exact List.pairwise_append.2 ⟨hap.1,List.pairwise_cons.2 s9,fun x hx y hy=>by
  rcases List.mem_cons.1 hy with rfl | hy
  exact hap.2.2 x hx (box b t cs) (by simp);exact hap.2.2 x hx y (by simp[hy])⟩
 intro Φ hΦ;rw[hfe];refine (h.facts Φ hΦ).later (aJ.setRow w b _ ⟨_,hm,rfl⟩);intro it hi;rcases List.mem_append.1 hi with hi | hi
 exact h.loc it (by simp[hi]);rcases List.mem_cons.1 hi with rfl | hi
 exact qz _ _ _;exact h.loc it (by simp[hi])
class gW (vs:List Value)(n:Nat):Prop where eq:vs.length=n
instance li0:gW [] 0:=⟨rfl⟩
instance liS {v vs n}[h:gW vs n]:gW (v::vs) (n+1):=⟨by simp[h.eq]⟩
class OpW (P:Program)(op:Op)(ty:TypeId)(l:Cx)(bs:List Item)(b:outParam Nat)(t:outParam TypeId)(cs cs':outParam (List Value))(bs':outParam (List Item)):Prop where
 run:∀ (ρ:Operand→Value) (w:World),Fr ρ l→w.heap[b]? = some (.cells cs.toArray t (0,0))→(cu ρ op ty).run P w=.ok .skip (w.setRow b cs'.toArray)
 W9:FH bs b t cs cs' bs'
instance Vs {P:Program}{t ty bt:TypeId}{x y:Operand}{l:Cx}{bs bs':List Item}{b off n dy:Nat}{v z:Value}{vs cs cs':List Value}[Ev l x (.pointer (some ⟨b,off,none⟩))][Ev l y v][hc:Cells v vs][TI P t z n dy][hl:gW vs n][hf:Flat vs]
  [e9 bs b bt cs] [hs:rR cs off vs cs'] [hr:FH bs b bt cs cs' bs']:OpW P (.store t x y) ty l bs b bt cs cs' bs':=⟨fun ρ w h hb=>by
 have e:=run_storeCells_at (P:=P) b off bt vs 0 cs.toArray w hb (by simpa using hs.eq.1) hf.all;simp only[Nat.add_zero]at e;rw[hs.eq.2]at e;have hcs:v.cells=vs.toArray:=by rw[←hc.eq]
 simp[cu,execOp,Instr.storeAt,h.ev (x:=x) (v:=.pointer (some ⟨b,off,none⟩)),h.ev (x:=y) (v:=v),Instr.sureAddr,storeVar,cv,Sem.run_bind,hcs,hl.eq,e],hr⟩
section
variable {P:Program}{r:Option Nat}{ops:Array Oper}{Q:Exit→Act→World→Prop}{w0:World}{M0:Nat→Prop}{ds:List Deferred}{a:Act}{w:World}{l l':List Value}{bs bs':List Item}{fs:List (World→Prop)}
 {d:Option Nat} {op:Op} {ty:TypeId} {pos:String} {af:Array Edge} {rest:List Oper} {v:Value}
theorem sw {b:Nat}{t:TypeId}{cs cs':List Value}[hq:OpW P op ty ⟨[],l⟩ bs b t cs cs' bs'][hp:cZ l d undef l'](S:St w0 M0 ds a w l bs fs)
  (K:∀ a w,St w0 M0 ds a w l' bs' fs→WL P r ops Q rest a w) (k_:cE op=false:=by rfl):WL P r ops Q (⟨d,op,ty,pos,af,none⟩::rest) a w:=by
 refine bR rfl ?_;rw[bQ k_];obtain ⟨pre,post,e1,e2⟩:=hq.W9.ex;have hb:w.heap[b]? = some (.cells cs.toArray t (0,0)):=S.wd.held (box b t cs) (by rw[e1];simp);simp only[hq.run a.eval w S.fr hb,Oper.uponIn];have S':=S.put (d:=d) (v:=undef) (l':=l');have hO:=S'.wd;rw[e1]at hO;exact K _ _ ⟨S'.slots,S'.defers,by rw[e2];exact hO.store⟩
theorem kN (h:Q .normal a w):WL P r ops Q [] a w:=h
theorem kS {x y:Code}(h:Wp P r x (Exit.then (Wp P r y Q) Q) a w):Wp P r (.seq x y) Q a w:=wpIn_seq h
theorem kR {id:Nat}{lo:List Oper}(h:WL P r lo.toArray Q lo a w):Wp P r (.region id lo.toArray false) Q a w:=wpIn_region_lit h
theorem kK (h:Q .normal a w):Wp P r .skip Q a w:=wpIn_skip h
theorem kT (h:Q .ret a w):Wp P r .ret Q a w:=wpIn_ret h
theorem kE {id:Nat}(h:Q (.exit id) a w):Wp P r (.exit id) Q a w:=wpIn_exit h
theorem kB {id:Nat}{c:Code}(h:Wp P r c (Exit.inBlock id Q) a w):Wp P r (.block id c) Q a w:=wpIn_block h
theorem kC {c:Operand}{x y:Code}{b:Bool}[he:Ev ⟨[],l⟩ c (.bool b)](S:St w0 M0 ds a w l bs fs)(ht:b=true→Wp P r x Q a w)(hf:b=false→Wp P r y Q a w):Wp P r (.cond c x y) Q a w:=
 wpIn_cond_split (t:=b) (S.fr.ev) ht hf
theorem enter {f:Nat}{fn:Func}{c:Code}{args:List Value}{l:List Value}{R:Ending→World→Prop}{M0:Nat→Prop}{bs:List Item}{fs:List (World→Prop)}
  (hf:P.funcs[f]? = some fn) (hb:fn.body=some c) (hl:args++List.replicate (fn.ntmps - args.length) undef=l) (hw:Wd w M0 w bs fs)
  (h:∀ a,St w M0 [] a w l bs fs→Wp P none c (bodyPost P fn R) a w):Calls P f args.toArray w R:=by
 refine calls_of_wp hf hb (wpIn_wide (n:=0).1 (h _ ⟨?_,rfl,hw⟩));simp[←hl]
theorem E1 {P:Program} {f:Nat} {fn:Func} {c:Code} {args:List Value} {m:Nat} {w:World} {M0:Nat→Prop} {bs:List Item} {fs:List (World→Prop)} {R:Ending→World→Prop} {C D:Act→Prop} (hf:P.funcs[f]? = some fn) (hb:fn.body=some c) (e:fn.ntmps=m) (hw:Wd w M0 w bs fs) (k:∀ a,C a→D a) (h:fn.ntmps=m→(∀ a,C a→D a)→∀ a,St w M0 [] a w (args++List.replicate (fn.ntmps-args.length) undef) bs fs→Wp P none c (bodyPost P fn R) a w:=by intro e K a S;simp only[e,jb,FG,Nat.reduceAdd,Nat.reduceSub,rQ,Lj,Cl,j6]at S;exact K a S):Calls P f args.toArray w R:=enter hf hb rfl hw (h e k)
theorem Wd.start (w:World):Wd w (fun _=>False) w [] []:=⟨aJ.refl _ _,by simp,by simp,by simp,.nil,by simp,by simp⟩
def aT (P:Program)(f:Nat)(args:List Value)(w:World)(M:Nat→Prop)(R:Value→World→Prop):Prop:=
 Calls P f args.toArray w fun e w'=>∃ v,e=.returned v∧aJ M w w'∧R v w'
theorem aT.mono {P:Program}{f:Nat}{args:List Value}{w:World}{M:Nat→Prop}{R R':Value→World→Prop}(h:aT P f args w M R)(hr:∀ v w',R v w'→R' v w'):aT P f args w M R':=
 Calls.mono h fun _ _ ⟨v,e,ha,hv⟩=>⟨v,e,ha,hr _ _ hv⟩
theorem kY {fn:Func}{t:Nat}{R:Value→World→Prop}{M0:Nat→Prop}{v:Value}[hn:pF l t v](S:St w0 M0 [] a w l bs fs)(h:aJ M0 w0 w→R v w)(hres:fn.results = #[.tmp t]:=by rfl) :
  bodyPost P fn (fun e w'=>∃ v,e=.returned v∧aJ M0 w0 w'∧R v w') .ret a w:=by
 refine bodyPost_ret (results_tmp hres _ _ _) S.defers ⟨_,rfl,S.wd.agree,?_⟩;have:=hn.eq;rw[S.slots];simpa [Array.getD_eq_getD_getElem?,this] using h S.wd.agree
theorem aQ {next:Act→World→Prop}(h:next a w):Exit.then next Q .normal a w:=h
theorem tG {next:Act→World→Prop}(h:Q .ret a w):Exit.then next Q .ret a w:=h
theorem fT {next:Act→World→Prop}{id:Nat}(h:Q (.exit id) a w):Exit.then next Q (.exit id) a w:=h
theorem qw {id:Nat}(h:Q .normal a w):Exit.inBlock id Q .normal a w:=h
theorem Ac {id:Nat}(h:Q .ret a w):Exit.inBlock id Q .ret a w:=h
theorem mM {id:Nat}(h:Q .normal a w):Exit.inBlock id Q (.exit id) a w:=by simp only[Exit.inBlock,↓reduceIte];exact h
theorem Rt {id id':Nat}(h:Q (.exit id') a w)(hne:Nat.beq id' id=false:=by rfl):Exit.inBlock id Q (.exit id') a w:=by
 have:¬id'=id:=fun e=>by subst e;simp at hne
 simp only[Exit.inBlock,this,↓reduceIte];exact h
theorem tH {c:Operand}{x y:Code}[he:Ev ⟨[],l⟩ c (.bool true)](S:St w0 M0 ds a w l bs fs)(h:Wp P r x Q a w):Wp P r (.cond c x y) Q a w:=
 kC S (fun _=>h) (fun h=>by cases h)
theorem jS {c:Operand}{x y:Code}[he:Ev ⟨[],l⟩ c (.bool false)](S:St w0 M0 ds a w l bs fs)(h:Wp P r y Q a w):Wp P r (.cond c x y) Q a w:=
 kC S (fun h=>by cases h) (fun _=>h)
theorem D9 {n:Nat}(h:Q .normal a w):Wp P r (.label n) Q a w:=wpIn_label h
end
class aF (P:Program)(f:Nat):Prop where run:Go.Proofs.Enters P f
class cB (P:Program)(f:Nat)(args:List Value)(bs:List Item)(fs:List (World→Prop))(v:outParam Value):Prop where
 run:∀ w,Mem w bs fs→aT P f args w (fun _=>False) (fun u _=>u=v)
instance Ru {P ty l bs fs x i vs v}[Ev l x (.tuple ⟨vs⟩)][hn:pF vs i v]:dO P (.extract x i) ty l bs fs v:=⟨fun ρ w h _=>by
 have:=hn.eq;simp[cu,execOp,h.ev (x:=x) (v:=.tuple ⟨vs⟩),Instr.extract,this]⟩
section
variable {P:Program}{r:Option Nat}{ops:Array Oper}{Q:Exit→Act→World→Prop}{w0:World}{M0:Nat→Prop}{ds:List Deferred}{a:Act}{w:World}{l l':List Value}{bs bs':List Item}{fs:List (World→Prop)}
 {d:Option Nat} {op:Op} {ty:TypeId} {pos:String} {af:Array Edge} {rest:List Oper} {v:Value} {f:Nat} {xs:List Operand} {args:List Value} {ts:Array TypeId}
theorem Wd.Se {pre post:List Item}{b:Nat}{t:TypeId}{cs cs':List Value}{w':World}(h:Wd w0 M0 w (pre++box b t cs::post) fs)(ha:aJ (fun k=>k=b) w w')(hb':w'.heap[b]? = some (.cells cs'.toArray t (0,0))) :
  Wd w0 M0 w' (pre++box b t cs'::post) fs:=by
 have hm:box b t cs∈pre++box b t cs::post:=by simp
 have h1:=h.store (cs':=cs');have hb:w.heap[b]? = some (.cells cs.toArray t (0,0)):=h.held _ hm;have hsz:(w.setRow b cs'.toArray).heap.size=w.heap.size:=by simp[World.setRow]
 refine h1.step ⟨ha.1,ha.2.1,ha.2.2.1,by rw[hsz];exact ha.size,fun k hk _=>?_⟩;rw[hsz]at hk
 by_cases e:k=b
 subst e;rw[hb',setRow_heap w k cs.toArray _ t _ hb];rw[ha.iB hk e];simp[World.setRow,Array.getElem?_modify,Ne.symm e]
theorem least {p:Nat→Prop} : ∀ n,p n→∃ m,p m∧∀ k,p k→m≤k:=by
 intro n
 induction n using Nat.strongRecOn with
 | _ n ih=>
  intro hn
  by_cases h:∃ k,k < n∧p k
  ·obtain ⟨k,hk,hp⟩:=h;exact ih k hk hp
  ·exact ⟨n,hn,fun k hk=>Nat.le_of_not_lt fun hlt=>h ⟨k,hlt,hk⟩⟩
theorem eR {c:Code}{ι:Type}(I:ι→Act→World→Prop)(μ:ι→Nat)(i:ι)(h0:I i a w)
  (hr:∀ i a w,I i a w→Wp P r c (Exit.then (fun a' w'=>∃ j,I j a' w'∧μ j < μ i) Q) a w):Wp P r (.loop c) Q a w:=by
 let p:Act→World→Nat→Prop:=fun a w n=>∃ i,I i a w∧μ i=n
 have hmin:∀ a w,(∃ i,I i a w)→∃ m,p a w m∧∀ k,p a w k→m≤k:=fun a w ⟨i,hi⟩=>least (μ i) ⟨i,hi,rfl⟩
 let m:Act→World→Nat:=fun a w=>open Classical in if h:∃ i,I i a w then Classical.choose (hmin a w h) else 0
 have hm:∀ a w (h:∃ i,I i a w),p a w (m a w)∧∀ k,p a w k→m a w≤k:=fun a w h=>by
  have e:m a w=Classical.choose (hmin a w h):=by simp only[m];rw[dif_pos h]
  rw[e];exact Classical.choose_spec (hmin a w h)
 refine wpIn_loop (fun a w=>∃ i,I i a w) m ⟨i,h0⟩ fun a w h=>?_
 obtain ⟨⟨i,hi,hmi⟩,_⟩:=hm a w h;refine wpIn_mono (hr i a w hi) fun e a' w' hq=>?_
 cases e <;> first | exact hq | skip
 obtain ⟨j,hj,hlt⟩:=hq;exact ⟨⟨j,hj⟩,by have:=(hm a' w' ⟨j,hj⟩).2 (μ j) ⟨j,hj,rfl⟩;omega⟩
end
theorem fO {P:Program}{t:TypeId}{b:Bool}(h:(P.underlying t).map (fun d=>match d with | .struct _ | .array _ _=>true | _=>false)=some b):eU P t b:=⟨fun w=>by
 cases hu:P.underlying t with
 | none=>simp[hu]at h
 | some d=>simp[hu]at h;subst h;cases d <;> simp[isAgg,run_underlying hu,Sem.run_bind]⟩
theorem aX {P:Program}{s f off ft:Nat}(h:((P.underlying s).bind fun d=>match d with | .struct fs=>(fs[f]?).map (fun F=>(F.offset,F.type,((P.info? F.type).map (fun i=>decide (i.size=0))))) | _=>none)=some (off,ft,some false)):fZ P s f off ft:=by
 cases hu:P.underlying s with
 | none=>simp[hu]at h
 | some d=>
  simp only[hu,Option.bind_some]at h;cases d <;> simp only[reduceCtorEq]at h
  rename_i fs
  cases hf:fs[f]? with
  | none=>simp[hf]at h
  | some F=>simp[hf]at h;exact ⟨fs,F,hu,hf,h.1,h.2.1,by obtain ⟨rfl,rfl,x,hx,hx'⟩:=h;simp[hx];simpa using hx'⟩
class nq (G:Value)(kZ:Bool)(cs:outParam (List Bool)):Prop where
 eq:(match G with | .bool b=>some b | _=>none)=some kZ↔∀ c∈cs,c=true
instance W_ {b:Bool} : nq (.bool b) true [b]:=⟨by simp⟩
instance Xa {b:Bool} : nq (.bool b) false [!b]:=⟨by simp⟩
instance Xb {c:Bool}{G:Value}{kZ:Bool}{cs:List Bool}[h:nq G kZ cs]:nq (An c G) kZ (c::cs):=⟨by
 cases c;simp[An,undef];simpa [An] using h.eq⟩
class CE (cs:List Bool)(v:Value)(v':outParam Value):Prop where eq:v'=if ∀ c∈cs,c=true then v else undef
instance gif0 {v:Value} : CE [] v v:=⟨by simp⟩
instance gifS {c:Bool}{cs:List Bool}{v v':Value}[h:CE cs v v']:CE (c::cs) v (An c v'):=⟨by
 rw[h.eq];cases c <;> simp[An]⟩
instance Rv {P ty l bs fs c x y b e}[Ev l c (.bool b)][Ev l x (An b (.bool e))][Ev l y (.bool false)]:dO P (.pick c x y) ty l bs fs (.bool (b&&e)):=⟨fun ρ w h _=>by
 cases b <;> simp[cu,execOp,asBool,h.ev (x:=x) (v:=An _ (.bool e)),h.ev (x:=y) (v:=.bool false),h.ev (x:=c) (v:=.bool _),An]⟩
instance Sf {P ty l bs fs c x y b e}[Ev l c (.bool b)][Ev l x (.bool true)][Ev l y (An (!b) (.bool e))]:dO P (.pick c x y) ty l bs fs (.bool (b||e)):=⟨fun ρ w h _=>by
 cases b <;> simp[cu,execOp,asBool,h.ev (x:=y) (v:=An _ (.bool e)),h.ev (x:=x) (v:=.bool true),h.ev (x:=c) (v:=.bool _),An]⟩
class D_ (lo:List Oper)(j:Nat)(g:outParam Nat):Prop where eq:(lo[j]?).bind (·.dst)=some g
instance dst0 {g:Nat}{op:Op}{ty:TypeId}{pos:String}{af:Array Edge}{gd:Option (Nat × Bool)}{lo:List Oper} : D_ (⟨some g,op,ty,pos,af,gd⟩::lo) 0 g:=⟨rfl⟩
instance dstS {o:Oper}{lo:List Oper}{j g:Nat}[h:D_ lo j g]:D_ (o::lo) (j+1) g:=⟨by simpa using h.eq⟩
class nr (ops:Array Oper)(j:Nat)(g:outParam Nat):Prop where eq:(ops[j]?).bind (·.dst)=some g
instance gslot {lo:List Oper}{j g:Nat}[h:D_ lo j g]:nr lo.toArray j g:=⟨by simpa using h.eq⟩
section
variable {P:Program}{r:Option Nat}{ops:Array Oper}{Q:Exit→Act→World→Prop}{w0:World}{M0:Nat→Prop}{ds:List Deferred}{a:Act}{w:World}{l l':List Value}{bs bs':List Item}{fs:List (World→Prop)}
 {d:Option Nat} {op:Op} {ty:TypeId} {pos:String} {af:Array Edge} {rest:List Oper} {v v' G:Value} {j g:Nat} {kZ:Bool} {cs:List Bool}
theorem e_ (S:St w0 M0 ds a w l bs fs)(hg:(ops[j]?).bind (·.dst)=some g)[hn:pF l g G][hc:nq G kZ cs] :
  Region.wanted ⟨d,op,ty,pos,af,some (j,kZ)⟩ (yielded ops a.tmps)=true↔∀ c∈cs,c=true:=by
 rw[←hc.eq];have e:a.tmps[g]? = some G:=by rw[S.slots];simpa using hn.eq
 have hy:yielded ops a.tmps j=match G with | .bool b=>some b | _=>none:=by
  simp only[yielded,hg,Option.bind_some,e];cases G <;> rfl
 simp only[Region.wanted,hy];cases G <;> simp
theorem ko {o:Oper}(ht:Region.wanted o (yielded ops a.tmps)=true→WL P r ops Q ({ o with guard:=none }::rest) a w)
  (hf:Region.wanted o (yielded ops a.tmps)=false→WL P r ops Q rest (a.put o.dst undef) w):WL P r ops Q (o::rest) a w:=by
 by_cases hw:Region.wanted o (yielded ops a.tmps)=true
 have:=ht hw;simp only[WL,wpListIn]at this⊢;rw[if_pos hw];rw[if_pos (by simp[Region.wanted])]at this;obtain ⟨d,op,ty,pos,af,gd⟩:=o;exact ⟨fun _ _=>trivial,by have h2:=this.2;rw[show ∀ ro ρ,Oper.semAt ro ρ ⟨d,op,ty,pos,af,none⟩=Oper.semAt ro ρ ⟨d,op,ty,pos,af,gd⟩ from fun ro ρ=>by cases ro <;> cases op <;> rfl]at h2;exact h2⟩;have bP:Region.wanted o (yielded ops a.tmps)=false:=by simpa using hw
 simp only[WL,wpListIn];rw[if_neg hw];exact ⟨fun _ _=>trivial,hf bP⟩
theorem gT (S:St w0 M0 ds a w l bs fs)(h:WL P r ops Q (⟨d,op,ty,pos,af,none⟩::rest) a w)[hg:nr ops j g][hn:pF l g (.bool true)]:WL P r ops Q (⟨d,op,ty,pos,af,some (j,true)⟩::rest) a w:=
 ko (fun _=>h) fun hf=>by
  have:=(e_ (ops:=ops) (d:=d) (op:=op) (ty:=ty) (pos:=pos) (af:=af) (kZ:=true) S hg.eq).2 (by simp);rw[this]at hf;cases hf
theorem jr (S:St w0 M0 ds a w l bs fs)(h:WL P r ops Q (⟨d,op,ty,pos,af,none⟩::rest) a w)[hg:nr ops j g][hn:pF l g (.bool false)]:WL P r ops Q (⟨d,op,ty,pos,af,some (j,false)⟩::rest) a w:=
 ko (fun _=>h) fun hf=>by
  have:=(e_ (ops:=ops) (d:=d) (op:=op) (ty:=ty) (pos:=pos) (af:=af) (kZ:=false) S hg.eq).2 (by simp);rw[this]at hf;cases hf
theorem gF (S:St w0 M0 ds a w l bs fs)[hp:cZ l d undef l'][hg:nr ops j g][hn:pF l g (.bool false)](h:∀ a,St w0 M0 ds a w l' bs fs→WL P r ops Q rest a w):WL P r ops Q (⟨d,op,ty,pos,af,some (j,true)⟩::rest) a w:=
 ko (fun ht=>by
  have:=(e_ (ops:=ops) (d:=d) (op:=op) (ty:=ty) (pos:=pos) (af:=af) (kZ:=true) S hg.eq).1 ht;simp at this) fun _=>h _ S.put
theorem Hj (S:St w0 M0 ds a w l bs fs)[hp:cZ l d undef l'][hg:nr ops j g][hn:pF l g (.bool true)](h:∀ a,St w0 M0 ds a w l' bs fs→WL P r ops Q rest a w):WL P r ops Q (⟨d,op,ty,pos,af,some (j,false)⟩::rest) a w:=
 ko (fun ht=>by
  have:=(e_ (ops:=ops) (d:=d) (op:=op) (ty:=ty) (pos:=pos) (af:=af) (kZ:=false) S hg.eq).1 ht;simp at this) fun _=>h _ S.put
theorem gQ [hg:nr ops j g][hn:pF l g G][hc:nq G kZ cs][hq:dO P op ty ⟨cs,l⟩ bs fs v][hv:CE cs v v'][hp:cZ l d v' l'](S:St w0 M0 ds a w l bs fs)(K:∀ a,St w0 M0 ds a w l' bs fs→WL P r ops Q rest a w)
  (k_:cE op=false:=by rfl):WL P r ops Q (⟨d,op,ty,pos,af,some (j,kZ)⟩::rest) a w:=by
 have hw:=e_ (ops:=ops) (d:=d) (op:=op) (ty:=ty) (pos:=pos) (af:=af) (kZ:=kZ) S hg.eq;have S':=S.put (d:=d) (v:=v') (l':=l');refine ko (fun ht=>?_) (fun hf=>?_);have hall:=hw.1 ht;refine bR rfl ?_;rw[bQ k_];simp only[hq.run a.eval w (S.Vk hall) S.wd.mem,Oper.uponIn];rw[show v=v' from by rw[hv.eq,if_pos hall]];exact K _ S';have hall:¬∀ c∈cs,c=true:=fun h=>by rw[hw.2 h]at hf;cases hf
 have e:=hv.eq;rw[if_neg hall]at e;rw[←e];exact K _ S'
end
section
variable {P:Program}{ops:Array Oper}{md:Region.Mode}{C:World→Prop}
abbrev WN (P:Program)(ops:Array Oper)(i:Nat)(K:Act→World→Prop)(a:Act)(w:World):Prop:=wpOpIn (FW none) 0 P ops (fun _ _ _=>False) i K a w
def dG (P:Program)(ops:Array Oper)(C:World→Prop)(o:Oper)(v:Value)(a:Act):Prop:=
 (Region.wanted o (yielded ops a.tmps)=true∧∀ w,C w→(execOp a.eval o).run P w=.ok (.value v) w)∨
 (Region.wanted o (yielded ops a.tmps)=false∧v=undef)
theorem dG.wn {i:Nat}{o:Oper}{v:Value}{a:Act}(hi:ops[i]? = some o)(hy:dG P ops C o v a)
  {K:Act→World→Prop} {w:World} (hC:C w) (h:K (a.put o.dst v) w):WN P ops i K a w:=by
 unfold WN wpOpIn;simp only[hi];rcases hy with ⟨hw,hv⟩ | ⟨hw,rfl⟩
 simp only[hw,if_true,Oper.wpIn,Oper.semAt_none,hv w hC,Oper.uponIn];exact ⟨fun _ _=>trivial,h⟩;simp only[hw,Bool.false_eq_true,if_false];exact ⟨fun _ _=>trivial,h⟩
theorem dG.of_same {o:Oper}{v:Value}{a a':Act}(hy:dG P ops C o v a)(he:execOp a'.eval o=execOp a.eval o)
  (hw:Region.wanted o (yielded ops a'.tmps)=Region.wanted o (yielded ops a.tmps)):dG P ops C o v a':=by
 unfold dG at *;rw[he,hw];exact hy
theorem CF {j:Nat}{oi oj:Oper}{v:Value}(hj:ops[j]? = some oj)(hap:oi.apart ops oj=true)
  (hsi:∀ cs b,oi.op≠.select cs b) (hsj:∀ cs b,oj.op≠.select cs b) {K:Act→World→Prop} {a:Act} {w:World}
  (hy:dG P ops C oi v a) (h:WN P ops j K (a.put oi.dst v) w) :
  WN P ops j (fun a' w'=>dG P ops C oi v a'∧K (a'.put oi.dst v) w') a w:=by
 obtain ⟨h1,h2,h3⟩:=Oper.apart_spec hap;have keep:∀ (a:Act),dG P ops C oi v a→∀ u,dG P ops C oi v (a.put oj.dst u):=fun a hy u=>
  hy.of_same (execOp_put oi hsi a oj.dst u h3) (wanted_put oi a oj.dst u h3)
 have Hw:∀ d,dG P ops C oi v { a with defers:=d::a.defers }:=fun d=>hy.of_same rfl rfl
 unfold WN wpOpIn at *;simp only[hj]at *;rw[wanted_put oj a oi.dst v h1]at h;split
 ·rename_i hw
  simp only[hw,if_true]at h;unfold Oper.wpIn at *;refine ⟨fun _ _=>trivial,?_⟩;have h:=h.2;rw[Oper.semAt_none,execOp_put oj hsj a oi.dst v h1]at h;rw[Oper.semAt_none]
  generalize (execOp a.eval oj).run P w=r at *
  cases r with
  | ok x w'=>
   cases x <;> simp only[Oper.uponIn]at h⊢
   case value u=>exact ⟨keep a hy u,by rw[←Act.put_comm a v u h2];exact h⟩
   case skip=>exact ⟨keep a hy _,by rw[←Act.put_comm a v undef h2];exact h⟩
   case defer d=>
    refine ⟨keep _ (Hw d) _,?_⟩;rw[←Act.put_comm _ v undef h2,←Act.put_defers];exact h
   case enter f args=>
    refine ⟨h.1,CallsIn.mono h.2 fun e w'' he=>?_⟩;cases e with
    | returned u=>exact ⟨keep a hy u,by rw[←Act.put_comm a v u h2];exact he⟩
    | panicked c=>exact he
    | outgrown=>exact he
   case row row args=>exact ⟨h.1,RowsIn.mono h.2 fun u w'' he=>⟨keep a hy u,by rw[←Act.put_comm a v u h2];exact he⟩⟩
   case round l f tmps assign body=>
    refine ⟨h.1,RoundIn.mono h.2 fun e w'' he=>?_⟩;cases e with
    | returned u=>exact ⟨keep a hy u,by rw[←Act.put_comm a v u h2];exact he⟩
    | panicked c=>exact he
    | outgrown=>exact he
  | halt x w'=>
   cases x <;> simp only[Oper.uponIn]at h⊢
 ·rename_i hw
  simp only[hw]at h;exact ⟨fun _ _=>trivial,keep a hy _,by rw[←Act.put_comm a v undef h2];exact h.2⟩
def AC (P:Program)(ops:Array Oper)(C:World→Prop)(R:Act→World→Prop):Nat→Array Bool→Act→World→Prop
 | 0,listed,a,w=>Region.ready .any ops listed=[]∧R a w
 | fuel+1,listed,a,w=>
  (Region.ready .any ops listed=[]→R a w)∧
  ∀ i∈Region.ready .any ops listed,WN P ops i (fun a' w'=>C w'∧AC P ops C R fuel (listed.setIfInBounds i true) a' w') a w
variable {R:Act→World→Prop}
theorem nL {i:Nat}{oi:Oper}{v:Value}(hi:ops[i]? = some oi)(hsel:∀ (j:Nat) (o:Oper) cs b,ops[j]? = some o→o.op≠.select cs b) :
  ∀ (fuel:Nat) (listed:Array Bool) (a:Act) (w:World),
   (∀ j oj,ops[j]? = some oj→j≠i→listed.getD j true=false→(∀ e∈oj.after,Region.binds .any e=true→e.on≠i)→oi.apart ops oj=true)→
   i∈Region.ready .any ops listed→dG P ops C oi v a→C w→
   AC P ops C R fuel (listed.setIfInBounds i true) (a.put oi.dst v) w→AC P ops C R (fuel+1) listed a w:=by
 intro fuel
 induction fuel with
 | zero=>
  intro listed a w _ hr hy hS H;refine ⟨fun h=>(by rw[h]at hr;cases hr),fun j hj=>?_⟩
  by_cases hji:j=i
  ·subst hji;exact hy.wn hi hS ⟨hS,H⟩
  ·have:=ready_mono hj hji
   rw[H.1]at this;cases this
 | succ fuel ih=>
  intro listed a w hfree hr hy hS H;refine ⟨fun h=>(by rw[h]at hr;cases hr),fun j hj=>?_⟩
  by_cases hji:j=i
  ·subst hji;exact hy.wn hi hS ⟨hS,H⟩
  ·have h1:=H.2 j (ready_mono hj hji)
   obtain ⟨uk,oj,tJ,hall⟩:=mem_ready.1 hj;have hnot:∀ e∈oj.after,Region.binds .any e=true→e.on≠i:=fun e he hb heq=>by
    have h1:=hall e he hb;have h0:=(mem_ready.1 hr).1;rw[heq]at h1;rcases Nat.lt_or_ge i listed.size with h' | h'
    ·simp[h']at h0 h1;rw[h0]at h1;cases h1
    ·simp[Array.getElem?_eq_none h']at h1
   have h2:=CF tJ (hfree j oj tJ hji uk hnot) (fun cs b=>hsel i oi cs b hi) (fun cs b=>hsel j oj cs b tJ) hy h1;have pQ:∀ k ok,ops[k]? = some ok→k≠i→(listed.setIfInBounds j true).getD k true=false→
     (∀ e∈ok.after,Region.binds .any e=true→e.on≠i)→oi.apart ops ok=true:=fun k ok hk hki hun hno=>by
    refine hfree k ok hk hki ?_ hno
    by_cases Hx:j=k
    ·subst Hx;exact uk
    ·rw[getD_set_ne true Hx]at hun;exact hun
   refine wpOpIn_mono (fun a' w' h3=>⟨h3.2.1,ih (listed.setIfInBounds j true) a' w' pQ (ready_mono hr (Ne.symm hji)) h3.1 h3.2.1 ?_⟩) h2;rw[Array.setIfInBounds_comm _ _ hji];exact h3.2.2
class jL (ops:Array Oper)(i:Nat)(o:outParam Oper):Prop where eq:ops[i]? = some o
class Ea (lo:List Oper)(i:Nat)(o:outParam Oper):Prop where eq:lo[i]? = some o
instance opat0 {o:Oper}{lo:List Oper} : Ea (o::lo) 0 o:=⟨rfl⟩
instance opatS {o o':Oper}{lo:List Oper}{i:Nat}[h:Ea lo i o]:Ea (o'::lo) (i+1) o:=⟨by simpa using h.eq⟩
instance opat {lo:List Oper}{i:Nat}{o:Oper}[h:Ea lo i o]:jL lo.toArray i o:=⟨by simpa using h.eq⟩
class dj {α:Type}(x y:List α):Prop where sub:x.Sublist y
instance subLr {α:Type}{x:List α} : dj x x:=⟨.refl _⟩
instance subLn {α:Type}{y:List α} : dj [] y:=⟨List.nil_sublist _⟩
instance (priority:=950) subLm {α:Type}{x y:List α}{u:α}[h:dj x y]:dj (u::x) (u::y):=⟨.cons_cons _ h.sub⟩
instance (priority:=900) subLc {α:Type}{x y:List α}{u:α}[h:dj x y]:dj x (u::y):=⟨.cons _ h.sub⟩
theorem Wd.sub {w0 M0 w bs fs}{eD:List Item}{dz:List (World→Prop)}(h:Wd w0 M0 w bs fs)(hb:eD.Sublist bs)(hf:dz.Sublist fs):Wd w0 M0 w eD dz:=
 ⟨h.agree,fun it hi=>h.held it (hb.subset hi),fun it hi=>h.lt it (hb.subset hi),fun it hi=>h.own it (hb.subset hi),h.apart.sublist hb,
  fun Φ hΦ=>(h.facts Φ (hf.subset hΦ)).less fun _ _ ⟨it,hi,hk⟩=>⟨it,hb.subset hi,hk⟩,fun it hi=>h.loc it (hb.subset hi)⟩
variable {r:Option Nat}{Q:Exit→Act→World→Prop}{w0:World}{M0:Nat→Prop}{ds:List Deferred}{a:Act}{w:World}{l l':List Value}{bs bs' eD:List Item}{fs dz:List (World→Prop)}
 {d:Option Nat} {op:Op} {ty:TypeId} {pos:String} {af:Array Edge} {rest:List Oper} {v v' G:Value} {j g:Nat} {kZ:Bool} {cs:List Bool} {n:Nat} {listed:Array Bool}
def hU (ops:Array Oper):List (Nat × Bool)→Array Bool→Bool
 | [],listed=>(Region.ready .any ops listed).isEmpty
 | (i,true)::ord,listed=>((Region.ready .any ops listed).contains i&&Region.free .any ops listed i)&&hU ops ord (listed.setIfInBounds i true)
 | (i,false)::ord,listed=>(match Region.ready .any ops listed with | [j]=>Nat.beq j i | _=>false)&&hU ops ord (listed.setIfInBounds i true)
def AQ (P:Program)(ops:Array Oper)(C:World→Prop)(R:Act→World→Prop)(ord:List (Nat × Bool))(a:Act)(w:World):Prop:=
 ∀ listed,Region.noSelect ops=true→hU ops ord listed=true→AC P ops C R ord.length listed a w
variable {ord:List (Nat × Bool)}{i:Nat}
theorem dq (S:St w0 M0 ds a w l bs fs)[hb:dj eD bs][hf:dj dz fs][ho:jL ops i ⟨d,op,ty,pos,af,none⟩][hq:dO P op ty ⟨[],l⟩ eD dz v][hp:cZ l d v l']
  (K:∀ a,St w0 M0 ds a w l' bs fs→AQ P ops (fun w=>Wd w0 M0 w eD dz) R ord a w) :
  AQ P ops (fun w=>Wd w0 M0 w eD dz) R ((i,true)::ord) a w:=by
 intro listed hs aS;simp only[hU,Bool.and_eq_true]at aS;refine nL ho.eq (Region.noSelect_spec hs) _ listed a w (Region.free_spec ho.eq aS.1.2) (by simpa using aS.1.1) (v:=v) (.inl ⟨rfl,fun w' bP=>?_⟩) (S.wd.sub hb.sub hf.sub) (K _ S.put _ hs aS.2);rw[gN];exact hq.run a.eval w' S.fr bP.mem
theorem iX (S:St w0 M0 ds a w l bs fs)[hb:dj eD bs][hf:dj dz fs][ho:jL ops i ⟨d,op,ty,pos,af,some (j,kZ)⟩][hg:nr ops j g][hn:pF l g G][hc:nq G kZ cs][hq:dO P op ty ⟨cs,l⟩ eD dz v][hv:CE cs v v'][hp:cZ l d v' l']
  (K:∀ a,St w0 M0 ds a w l' bs fs→AQ P ops (fun w=>Wd w0 M0 w eD dz) R ord a w) :
  AQ P ops (fun w=>Wd w0 M0 w eD dz) R ((i,true)::ord) a w:=by
 intro listed hs aS;simp only[hU,Bool.and_eq_true]at aS;have hw:=e_ (ops:=ops) (d:=d) (op:=op) (ty:=ty) (pos:=pos) (af:=af) (kZ:=kZ) S hg.eq;refine nL ho.eq (Region.noSelect_spec hs) _ listed a w (Region.free_spec ho.eq aS.1.2) (by simpa using aS.1.1) (v:=v') ?_ (S.wd.sub hb.sub hf.sub) (K _ S.put _ hs aS.2)
 by_cases hall:∀ c∈cs,c=true
 refine .inl ⟨hw.2 hall,fun w' bP=>?_⟩;rw[gN,hv.eq,if_pos hall];exact hq.run a.eval w' (S.Vk hall) bP.mem;exact .inr ⟨by
  cases hx:Region.wanted _ (yielded ops a.tmps) with
  | true=>exact absurd (hw.1 hx) hall
  | false=>rfl,by rw[hv.eq,if_neg hall]⟩
theorem dl {o:Oper}{C:World→Prop}[ho:jL ops i o](h:WL P none ops (fun e a' w'=>e=.normal∧C w'∧AQ P ops C R ord a' w') [o] a w):AQ P ops C R ((i,false)::ord) a w:=by
 intro listed hs aS;simp only[hU,Bool.and_eq_true]at aS;have hr:Region.ready .any ops listed=[i]:=by
  have:=aS.1;split at this
  ·rename_i k hk;rw[hk,Nat.eq_of_beq_eq_true this]
  ·cases this
 refine ⟨fun h0=>(by rw[h0]at hr;cases hr),fun k hk=>?_⟩;rw[hr]at hk;obtain rfl:k=i:=by simpa using hk
 unfold WN wpOpIn;simp only[ho.eq];simp only[WL,wpListIn]at h;split
 ·rename_i hw
  rw[if_pos hw]at h;refine ⟨fun _ _=>trivial,?_⟩;have h:=h.2
  generalize (o.semAt (FW none).round a.eval).run P w=q at *
  cases q with
  | ok x w'=>
   cases x <;> simp only[Oper.uponIn]at h⊢
   case value u=>exact ⟨h.2.1,h.2.2 _ hs aS.2⟩
   case skip=>exact ⟨h.2.1,h.2.2 _ hs aS.2⟩
   case defer d=>exact ⟨h.2.1,h.2.2 _ hs aS.2⟩
   case enter f args=>
    refine ⟨h.1,CallsIn.mono h.2 fun e w'' he=>?_⟩;cases e with
    | returned u=>exact ⟨he.2.1,he.2.2 _ hs aS.2⟩
    | panicked c=>exact absurd he.1 (by simp)
    | outgrown=>obtain ⟨_,_,he,_⟩:=he;exact absurd he (by simp)
   case row row args=>exact ⟨h.1,RowsIn.mono h.2 fun u w'' he=>⟨he.2.1,he.2.2 _ hs aS.2⟩⟩
   case round l f tmps assign body=>
    refine ⟨h.1,RoundIn.mono h.2 fun e w'' he=>?_⟩;cases e with
    | returned u=>exact ⟨he.2.1,he.2.2 _ hs aS.2⟩
    | panicked c=>exact absurd he.1 (by simp)
    | outgrown=>obtain ⟨_,_,he,_⟩:=he;exact absurd he (by simp)
  | halt x w'=>
   cases x <;> simp only[Oper.uponIn]at h⊢
   case panic u=>exact absurd h.1 (by simp)
 ·rename_i hw
  rw[if_neg hw]at h;exact ⟨fun _ _=>trivial,h.2.2.1,h.2.2.2 _ hs aS.2⟩
theorem de [hb:dj eD bs][hf:dj dz fs](S:St w0 M0 ds a w l bs fs)(h:AQ P ops (fun w=>Wd w0 M0 w eD dz) R ord a w):WL P none ops (fun e a' w'=>e=.normal∧Wd w0 M0 w' eD dz∧AQ P ops (fun w=>Wd w0 M0 w eD dz) R ord a' w') [] a w:=
 kN ⟨rfl,S.wd.sub hb.sub hf.sub,h⟩
theorem dn {C:World→Prop}(h:R a w):AQ P ops C R [] a w:=by
 intro listed hs aS;have hr:Region.ready .any ops listed=[]:=by simpa [hU] using aS
 exact ⟨hr,h⟩
theorem w8 {o:Oper}{ρ:Operand→Value}(h:cE o.op=false):o.semAt r ρ=o.semAt none ρ:=by rw[bQ h,bQ h]
theorem um {i:Nat}{K:Act→World→Prop}(hd:∀ (i:Nat) o,ops[i]? = some o→cE o.op=false)(h:WN P ops i K a w):wpOpIn (FW r) 0 P ops Q i K a w:=by
 unfold WN wpOpIn at *;cases ho:ops[i]? with
 | none=>simp only[ho]at h⊢;exact h
 | some o=>
  simp only[ho]at h⊢;split
  ·rename_i hw
   rw[if_pos hw]at h;refine ⟨fun _ _=>trivial,?_⟩;have h:=h.2;rw[show (FW none).round=none from rfl]at h;rw[show (FW r).round=r from rfl,w8 (hd i o ho)]
   generalize (o.semAt none a.eval).run P w=q at *
   cases q with
   | ok x w'=>
    cases x <;> simp only[Oper.uponIn]at h⊢<;> first | exact h | skip
    case enter f args=>
     refine ⟨fun h=>(by cases h),trivial,fun cs _=>?_⟩;obtain ⟨e,w',fr,hR,nM,h1,h2⟩:=h.2.2 cs (room_wide _);refine ⟨e,w',fr,?_,nM,h1,h2⟩;cases e with
     | returned v=>exact hR
     | panicked c=>exact hR.elim
     | outgrown=>obtain ⟨_,_,hR⟩:=hR;exact hR.elim
    case round l f tmps assign body=>
     refine ⟨fun h=>(by cases h),trivial,fun c cs _=>?_⟩;obtain ⟨e,w',hR,nM⟩:=h.2.2 c cs (room_wide _);refine ⟨e,w',?_,nM⟩;cases e with
     | returned v=>exact hR
     | panicked c=>exact hR.elim
     | outgrown=>obtain ⟨_,_,hR⟩:=hR;exact hR.elim
   | halt x w'=>cases x <;> simp only[Oper.uponIn]at h⊢
  ·rename_i hw
   rw[if_neg hw]at h;exact ⟨fun _ _=>trivial,h.2⟩
theorem lS (hd:∀ (i:Nat) o,ops[i]? = some o→cE o.op=false):∀ (fuel:Nat) (listed:Array Bool) (a:Act) (w:World),AC P ops C (fun a w=>Q .normal a w) fuel listed a w→wpAnyIn (FW r) 0 P .any ops Q fuel listed a w
 | 0,_,_,_,h=>h
 | fuel+1,_,_,_,h=>⟨h.1,fun i hi=>um hd (wpOpIn_mono (fun a' w' h'=>lS hd fuel _ a' w' h'.2) (h.2 i hi))⟩
end
abbrev str (s:List UInt8):Value:=.string ⟨s.toArray⟩
def yC (k:IntKind)(x y:Int):Int:=k.wrap (BitVec.ofInt k.bits x&&& BitVec.ofInt k.bits y).toNat
def Sg (k:IntKind)(x y:Int):Int:=k.wrap (BitVec.ofInt k.bits x ||| BitVec.ofInt k.bits y).toNat
def FI (k:IntKind)(x y:Int):Int:=k.wrap (BitVec.ofInt k.bits x ^^^ BitVec.ofInt k.bits y).toNat
section ints
variable {P:Program}{ty:TypeId}{l:Cx}{bs:List Item}{fs:List (World→Prop)}{x y:Operand}{t t':TypeId}{k k':IntKind}{m n:Int}{s u:List UInt8}
instance opAnd [Ev l x (.int k m)][Ev l y (.int k n)]:dO P (.binOp .and t x y t') ty l bs fs (.int k (yC k m n)):=⟨fun ρ w h _=>by
 simp[cu,execOp,h.ev (x:=x) (v:=.int k m),h.ev (x:=y) (v:=.int k n),eqGuard,binOp,Op.intBits,yC]⟩
instance opOr [Ev l x (.int k m)][Ev l y (.int k n)]:dO P (.binOp .or t x y t') ty l bs fs (.int k (Sg k m n)):=⟨fun ρ w h _=>by
 simp[cu,execOp,h.ev (x:=x) (v:=.int k m),h.ev (x:=y) (v:=.int k n),eqGuard,binOp,Op.intBits,Sg]⟩
instance opXor [Ev l x (.int k m)][Ev l y (.int k n)]:dO P (.binOp .xor t x y t') ty l bs fs (.int k (FI k m n)):=⟨fun ρ w h _=>by
 simp[cu,execOp,h.ev (x:=x) (v:=.int k m),h.ev (x:=y) (v:=.int k n),eqGuard,binOp,Op.intBits,FI]⟩
class NZ (n:Int):Prop where ne:n≠0
instance opQuo [Ev l x (.int k m)][Ev l y (.int k n)][hz:NZ n]:dO P (.binOp .quo t x y t') ty l bs fs (.int k (k.wrap (m.tdiv n))):=⟨fun ρ w h _=>by
 simp[cu,execOp,h.ev (x:=x) (v:=.int k m),h.ev (x:=y) (v:=.int k n),eqGuard,binOp,Op.intDiv,hz.ne]⟩
instance opRem [Ev l x (.int k m)][Ev l y (.int k n)][hz:NZ n]:dO P (.binOp .rem t x y t') ty l bs fs (.int k (m.tmod n)):=⟨fun ρ w h _=>by
 simp[cu,execOp,h.ev (x:=x) (v:=.int k m),h.ev (x:=y) (v:=.int k n),eqGuard,binOp,Op.intDiv,hz.ne]⟩
instance Vt {k0:IntKind}[Ev l x (.int k m)][dN P t (.int k0)][dN P t' (.int k')]:dO P (.convert t t' x) ty l bs fs (.int k' (k'.wrap m)):=⟨fun ρ w h _=>by
 simp[cu,execOp,h.ev (x:=x) (v:=.int k m),convert,Sem.run_bind,cp,Conv.intToInt]⟩
instance Xc [Ev l x (str s)][Ev l y (str u)]:dO P (.binOp .eql t x y t') ty l bs fs (.bool (decide (s=u))):=⟨fun ρ w h _=>by
 simp[cu,execOp,h.ev (x:=x) (v:=str s),h.ev (x:=y) (v:=str u),eqGuard,binOp,Op.stringOp];rw[Bool.eq_iff_iff];simp⟩
instance Xd [Ev l x (str s)][Ev l y (str u)]:dO P (.binOp .neq t x y t') ty l bs fs (.bool (!decide (s=u))):=⟨fun ρ w h _=>by
 simp[cu,execOp,h.ev (x:=x) (v:=str s),h.ev (x:=y) (v:=str u),eqGuard,binOp,Op.stringOp];rw[Bool.eq_iff_iff];simp⟩
instance Xe [Ev l x (str s)][dN P t .string]:dO P (.call { callee:=.builtin .len,args:=#[x],argTypes:=#[t] }) ty l bs fs (.int .i64 s.length):=⟨fun ρ w h _=>by
 simp[cu,execOp,resolve,invoke,builtin,Builtin.len_,h.ev (x:=x) (v:=str s),Sem.run_bind,cp,goInt];rfl⟩
instance Vu {p:Option Addr}{a c:Nat}{e:TypeId}[Ev l x (.slice p a c)][dN P t (.slice e)]:dO P (.call { callee:=.builtin .len,args:=#[x],argTypes:=#[t] }) ty l bs fs (.int .i64 a):=⟨fun ρ w h _=>by
 simp[cu,execOp,resolve,invoke,builtin,Builtin.len_,h.ev (x:=x) (v:=.slice p a c),Sem.run_bind,cp,goInt]⟩
end ints
theorem gD {P:Program}{t e:TypeId}{z:Value}{sz dy:Nat}{ad:Addr}{n c:Nat}{k:IntKind}{m:Int}[dN P t (.slice e)][TI P e z sz dy](h0:0≤m)(h1:m < n)(w:World) :
  (Instr.indexAt t (.slice (some ad) n c) (.int k m)).run P w=.ok (.pointer (some (ad.add (m.toNat*sz)))) w:=by
 simp[Instr.indexAt,asIntOf,Sem.run_bind,cp,h0,h1,cv]
section
variable {P:Program}{r:Option Nat}{ops:Array Oper}{Q:Exit→Act→World→Prop}{w0:World}{M0:Nat→Prop}{ds:List Deferred}{a:Act}{w:World}{l l':List Value}{bs bs':List Item}{fs:List (World→Prop)}
 {d:Option Nat} {op:Op} {ty:TypeId} {pos:String} {af:Array Edge} {rest:List Oper} {v:Value}
theorem sv (v:Value)[hp:cZ l d v l'](S:St w0 M0 ds a w l bs fs)(hrun:Fr a.eval ⟨[],l⟩→(cu a.eval op ty).run P w=.ok (.value v) w)(K:∀ a,St w0 M0 ds a w l' bs fs→WL P r ops Q rest a w)(k_:cE op=false:=by rfl) :
  WL P r ops Q (⟨d,op,ty,pos,af,none⟩::rest) a w:=by
 refine bR rfl ?_;rw[bQ k_];simp only[hrun S.fr,Oper.uponIn];exact K _ S.put
theorem si {t e:TypeId}{x y:Operand}{z:Value}{sz dy n c:Nat}{p:Option Addr}{k:IntKind}{m:Int}(S:St w0 M0 ds a w l bs fs)[Ev ⟨[],l⟩ x (.slice p n c)][Ev ⟨[],l⟩ y (.int k m)][dN P t (.slice e)][TI P e z sz dy](ad:Addr)[hp:cZ l d (.pointer (some (ad.add (m.toNat*sz)))) l']
  (hp:p=some ad) (h0:0≤m) (h1:m < n) (K:∀ a,St w0 M0 ds a w l' bs fs→WL P r ops Q rest a w):WL P r ops Q (⟨d,.indexAddr t x y,ty,pos,af,none⟩::rest) a w:=by
 subst hp;refine sv (.pointer (some (ad.add (m.toNat*sz)))) S (fun hf=>?_) K;simp[cu,execOp,hf.ev (x:=x) (v:=.slice (some ad) n c),hf.ev (x:=y) (v:=.int k m),gD (P:=P) (t:=t) (e:=e) (z:=z) (sz:=sz) (dy:=dy) h0 h1]
theorem Sh {t:TypeId}{x:Operand}{ad:Addr}{z:Value}{n dy:Nat}(vs:List Value)(S:St w0 M0 ds a w l bs fs)[Ev ⟨[],l⟩ x (.pointer (some ad))][ha:eU P t true][TI P t z n dy][hl:gW vs n][hp:cZ l d (.agg ⟨vs⟩) l']
  (h:∀ j v,vs[j]? = some v→w.cell? (ad.add j)=some v) (K:∀ a,St w0 M0 ds a w l' bs fs→WL P r ops Q rest a w):WL P r ops Q (⟨d,.load t x,ty,pos,af,none⟩::rest) a w:=by
 refine sv (.agg ⟨vs⟩) S (fun hf=>?_) K;have hlc:=run_loadCells_list (P:=P) w ad vs h;rw[hl.eq]at hlc;simp[cu,execOp,Instr.loadAt,hf.ev (x:=x) (v:=.pointer (some ad)),Instr.sureAddr,loadVar,Sem.run_bind,ha.run,cv,hlc]
theorem Vv {t:TypeId}{x:Operand}{ad:Addr}(v:Value)(S:St w0 M0 ds a w l bs fs)[Ev ⟨[],l⟩ x (.pointer (some ad))][ha:eU P t false][hp:cZ l d v l']
  (h:w.cell? ad=some v) (K:∀ a,St w0 M0 ds a w l' bs fs→WL P r ops Q rest a w):WL P r ops Q (⟨d,.load t x,ty,pos,af,none⟩::rest) a w:=by
 refine sv v S (fun hf=>?_) K;simp[cu,execOp,Instr.loadAt,hf.ev (x:=x) (v:=.pointer (some ad)),Instr.sureAddr,loadVar,Sem.run_bind,ha.run,load,Sem.run,h]
theorem St.fact (S:St w0 M0 ds a w l bs fs){Φ:World→Prop}(h:Φ∈fs):ag (dR bs) w Φ:=S.wd.facts Φ h
theorem ag.imp {M:Nat→Prop}{w:World}{Φ Ψ:World→Prop}(h:ag M w Φ)(hi:∀ w,Φ w→Ψ w):ag M w Ψ:=fun w' hw=>hi _ (h w' hw)
theorem St.add (S:St w0 M0 ds a w l bs fs){Φ:World→Prop}(h:ag (dR bs) w Φ):St w0 M0 ds a w l bs (Φ::fs):=
 ⟨S.slots,S.defers,S.wd.agree,S.wd.held,S.wd.lt,S.wd.own,S.wd.apart,fun Ψ hΨ=>by
  rcases List.mem_cons.1 hΨ with rfl | hΨ
  exact h;exact S.wd.facts Ψ hΨ,S.wd.loc⟩
end
theorem Wd.Xf {w:World}{b:Nat}{t:TypeId}{cs:List Value}{fs:List (World→Prop)}(hb:w.heap[b]? = some (.cells cs.toArray t (0,0)))(hf:∀ Φ∈fs,ag (fun k=>k=b) w Φ) :
  Wd w (fun k=>k=b) w [box b t cs] fs:=by
 refine ⟨aJ.refl _ _,?_,?_,?_,by simp,?_,?_⟩;intro it hi;obtain rfl:=List.mem_singleton.1 hi;exact hb;intro it hi k hk;obtain rfl:=List.mem_singleton.1 hi;simp only[box]at hk;subst hk;exact (Array.getElem?_eq_some_iff.1 hb).1;intro it hi _ k hk;obtain rfl:=List.mem_singleton.1 hi;exact .inl hk;intro Φ hΦ;refine (hf Φ hΦ).less fun k _ hk=>?_
 obtain ⟨it,hi,hk⟩:=hk;obtain rfl:=List.mem_singleton.1 hi;exact hk;intro it hi;obtain rfl:=List.mem_singleton.1 hi;exact qz _ _ _
theorem Wd.begin {w:World}{fs:List (World→Prop)}(hf:∀ Φ∈fs,Fx w Φ):Wd w (fun _=>False) w [] fs:=
 ⟨aJ.refl _ _,by simp,by simp,by simp,.nil,fun Φ hΦ=>(hf Φ hΦ).less fun k _ hk=>(by obtain ⟨it,hi,_⟩:=hk;cases hi),by simp⟩
def ext (M:Nat→Prop):Item where
 aj:=M
 holds:=fun _=>True
 own:=false
theorem Wd.fE {w:World}{M:Nat→Prop}{fs:List (World→Prop)}(hM:∀ k,M k→k < w.heap.size)(hf:∀ Φ∈fs,ag M w Φ):Wd w (fun _=>False) w [ext M] fs:=by
 refine ⟨aJ.refl _ _,?_,?_,?_,by simp,?_,?_⟩;intro it hi;obtain rfl:=List.mem_singleton.1 hi;trivial;intro it hi k hk;obtain rfl:=List.mem_singleton.1 hi;exact hM k hk;intro it hi ho;obtain rfl:=List.mem_singleton.1 hi;cases ho;intro Φ hΦ;refine (hf Φ hΦ).less fun k _ hk=>?_
 obtain ⟨it,hi,hk⟩:=hk;obtain rfl:=List.mem_singleton.1 hi;exact hk;intro it hi w1 w2 _ _;obtain rfl:=List.mem_singleton.1 hi;trivial
class lG (bs:List Item)(M:outParam (Nat→Prop)):Prop where mem:ext M∈bs
instance Ad {M:Nat→Prop}{bs:List Item} : lG (ext M::bs) M:=⟨List.mem_cons_self ..⟩
instance (priority:=900) he1 {M:Nat→Prop}{x:Item}{bs:List Item}[h:lG bs M]:lG (x::bs) M:=⟨List.mem_cons_of_mem _ h.mem⟩
theorem a_ {w0 M0 ds a w l bs fs}(S:St w0 M0 ds a w l bs fs):∀ k,dR bs k→k < w.heap.size:=fun k ⟨it,hi,hk⟩=>S.wd.lt it hi k hk
theorem Hy {bs:List Item}(h:bs.Pairwise (fun x y=>∀ k,x.aj k→¬y.aj k)){x y:Item}(hx:x∈bs)(hy:y∈bs)(hne:x.own≠y.own)(k:Nat)(hk:x.aj k):¬y.aj k:=by
 induction h with
 | nil=>cases hx
 | cons h0 _ ih=>
  rcases List.mem_cons.1 hx with hx1 | hx1
  ·rcases List.mem_cons.1 hy with hy1 | hy1
   ·exact absurd (by rw[hx1,hy1]) hne
   ·exact h0 _ hy1 k (hx1▸hk)
  ·rcases List.mem_cons.1 hy with hy1 | hy1
   ·exact fun hk'=>h0 _ hx1 k (hy1▸hk') hk
   ·exact ih hx1 hy1
theorem St.fY {w0 M0 ds a w l bs fs}(S:St w0 M0 ds a w l bs fs){M:Nat→Prop}[he:lG bs M]{Φ:World→Prop}(hΦ:Φ∈fs):ag M w Φ:=(S.wd.facts Φ hΦ).less fun _ _ hk=>⟨_,he.mem,hk⟩
inductive Term where
 | mk (kind user num:Int) (text:List UInt8) (kids:List Term)
inductive ak where
 | mk (kind user num:Int) (text:List UInt8) (p:Option Addr) (cap:Nat) (kids:List ak)
namespace ak
def kind:ak→Int | .mk k _ _ _ _ _ _=>k
def user:ak→Int | .mk _ u _ _ _ _ _=>u
def num:ak→Int | .mk _ _ n _ _ _ _=>n
def text:ak→List UInt8 | .mk _ _ _ s _ _ _=>s
def p:ak→Option Addr | .mk _ _ _ _ p _ _=>p
def cap:ak→Nat | .mk _ _ _ _ _ c _=>c
def kids:ak→List ak | .mk _ _ _ _ _ _ ks=>ks
mutual
def t:ak→Term
 | .mk k u n s _ _ ks=>.mk k u n s (ts ks)
def ts:List ak→List Term
 | []=>[]
 | x::xs=>t x::ts xs
end
theorem Hz:∀ ks:List ak,ts ks=ks.map t
 | []=>rfl
 | x::xs=>by simp[ts,Hz xs]
abbrev cells (t:ak):List Value:=[.int .i64 t.kind,.int .i64 t.user,.int .i64 t.num,str t.text,.slice t.p t.kids.length t.cap]
end ak
abbrev vL (t:ak):Value:=.agg #[.int .i64 t.kind,.int .i64 t.user,.int .i64 t.num,str t.text,.slice t.p t.kids.length t.cap]
mutual
def f_ (w:World):ak→Prop
 | .mk _ _ _ _ p cap kids=>kids.length≤cap∧cap≤maxLen∧iS w p 0 kids
def iS (w:World):Option Addr→Nat→List ak→Prop
 | _,_,[]=>True
 | p,i,t::ts=>(∃ ad,p=some ad∧∀ j v,t.cells[j]? = some v→w.cell? (ad.add (i*5+j))=some v)∧f_ w t∧iS w p (i+1) ts
end
def dc (t:ak):World→Prop:=fun w=>f_ w t
def Ae (p:Option Addr)(i:Nat)(ts:List ak):World→Prop:=fun w=>iS w p i ts
theorem f_.iff {w:World}{t:ak} : f_ w t↔t.kids.length≤t.cap∧t.cap≤maxLen∧iS w t.p 0 t.kids:=by cases t;simp[f_,ak.kids,ak.cap,ak.p]
theorem iS.get {w:World}{p:Option Addr} : ∀ {i:Nat} {ts:List ak} {k:Nat} {t:ak},iS w p i ts→ts[k]? = some t→(∃ ad,p=some ad∧∀ j v,t.cells[j]? = some v→w.cell? (ad.add ((i+k)*5+j))=some v)∧f_ w t
 | i,[],k,t,_,hk=>by simp at hk
 | i,x::xs,0,t,h,hk=>by
  simp at hk;subst hk;exact ⟨by simpa using h.1,h.2.1⟩
 | i,x::xs,k+1,t,h,hk=>by
  have:=iS.get (k:=k) h.2.2 (by simpa using hk);rw[show i+1+k=i+(k+1) from by omega]at this;exact this
theorem add_add (ad:Addr)(i j:Nat):(ad.add i).add j=ad.add (i+j):=by
 unfold Addr.add
 by_cases hi:i=0 <;> by_cases hj:j=0 <;> simp[hi,hj,Nat.add_assoc]
end Go.Wk
namespace Go.Wk
theorem Ar (n:Int)(h1 : -9223372036854775808≤n)(h2:n≤9223372036854775807):IntKind.i64.wrap n=n:=by
 unfold IntKind.wrap;simp only[IntKind.bits,IntKind.signed,Bool.true_and]
 by_cases h:n % (2 ^ 64:Int) ≥ (2 ^ (64 - 1):Int)
 rw[if_pos (by simpa using h)];omega;rw[if_neg (by simpa using h)];omega
theorem w6 (n:Int)(h1:-9223372036854775808≤n:=by omega)(h2:n≤9223372036854775807:=by omega):IntKind.i64.wrap n=n:=Ar n h1 h2
theorem ak.lH {t x:ak}(h:x∈t.kids):SizeOf.sizeOf x < SizeOf.sizeOf t:=by
 cases t;simp only[ak.kids]at h;have:=List.sizeOf_lt_of_mem h;simp;omega
theorem St.sub {w0 M0 ds a w l bs fs}(S:St w0 M0 ds a w l bs fs)(eD:List Item)(dz:List (World→Prop))[hb:dj eD bs][hf:dj dz fs]:St w0 M0 ds a w l eD dz:=⟨S.slots,S.defers,S.wd.sub hb.sub hf.sub⟩
theorem St.box {w0 M0 ds a w l bs fs}(S:St w0 M0 ds a w l bs fs)(b:Nat){t:TypeId}{cs:List Value}[h:e9 bs b t cs]:w.heap[b]? = some (.cells cs.toArray t (0,0)):=S.wd.held _ h.mem
theorem ak.Rw {M:Nat→Prop}{w:World}{t:ak}(h:ag M w (dc t)){k:Nat}(hk:k < t.kids.length):∃ x ad,t.kids[k]? = some x∧x∈t.kids∧t.p=some ad∧(∀ j v,x.cells[j]? = some v→w.cell? ((ad.add (k*5)).add j)=some v)∧ag M w (dc x):=by
 have hx:t.kids[k]? = some t.kids[k]:=List.getElem?_eq_getElem hk;obtain ⟨ad,hp,hc⟩:=((f_.iff.1 h.now).2.2.get hx).1;refine ⟨_,ad,hx,List.getElem_mem hk,hp,fun j v hj=>?_,h.imp fun w' bP=>((f_.iff.1 bP).2.2.get hx).2⟩;rw[add_add];simpa using hc j v hj
theorem ak.mN (t:ak):t.t=.mk t.kind t.user t.num t.text (t.kids.map ak.t):=by
 cases t;simp[ak.t,ak.Hz,ak.kind,ak.user,ak.num,ak.text,ak.kids]
theorem St.fb {w0 M0 ds a w l bs fs}(S:St w0 M0 ds a w l bs fs)(b:Nat){t:TypeId}{cs:List Value}[h:e9 bs b t cs]{Φ:World→Prop}(hΦ:Φ∈fs):ag (fun k=>k=b) w Φ:=
 (S.wd.facts Φ hΦ).less fun _ _ hk=>⟨_,h.mem,hk⟩
theorem ak.pR {M:Nat→Prop}{w:World}{t:ak}(h:ag M w (dc t)):t.kids.length≤9223372036854775807:=by
 have:=f_.iff.1 h.now;unfold maxLen at this;omega
open Go
class As {α:Type}(x y:List α)(z:outParam (List α)):Prop where eq:x++y=z
instance appl0 {α:Type}{y:List α} : As [] y y:=⟨rfl⟩
instance appl1 {α:Type}{u:α}{x y z:List α}[h:As x y z]:As (u::x) y (u::z):=⟨by simp[h.eq]⟩
class fP (l:Cx)(x:Operand)(xs:List Operand)(f:outParam Nat)(args:outParam (List Value)):Prop where
 ex:∃ fi ca vs,Ev l x (.func (.func f) ⟨fi⟩ ⟨ca⟩)∧Hv l xs vs∧fi++vs++ca=args
instance (priority:=1100) Vw {l:Cx}{f:Nat}{xs:List Operand}{vs:List Value}[h:Hv l xs vs]:fP l (.func f) xs f vs:=⟨[],[],vs,evF,h,by simp⟩
instance Vx {l:Cx}{x:Operand}{f:Nat}{xs:List Operand}{fi ca vs u args:List Value}[h0:Ev l x (.func (.func f) ⟨fi⟩ ⟨ca⟩)][h:Hv l xs vs][h1:As fi vs u][h2:As u ca args]:fP l x xs f args:=⟨fi,ca,vs,h0,h,by rw[h1.eq,h2.eq]⟩
theorem uo {P:Program}{ρ:Operand→Value}{x:Operand}{f:Nat}{xs:List Operand}{l:Cx}{args:List Value}{ts:Array TypeId}{ty:TypeId}[he:aF P f][hc:fP l x xs f args](h:Fr ρ l)(w:World) :
  (cu ρ (.call { callee:=.value x,args:=xs.toArray,argTypes:=ts }) ty).run P w=.ok (.enter f args.toArray) w:=by
 obtain ⟨fi,ca,vs,h0,h1,rfl⟩:=hc.ex;have e:=h.Sb (xs:=xs) (vs:=vs);have hf:ρ x=.func (.func f) ⟨fi⟩ ⟨ca⟩:=h.ev;have:=he.run (fi++vs++ca).toArray w;simp[cu,execOp,resolve,hf,Deferred.ofValue,invoke,e];simpa using this
section
variable {P:Program}{r:Option Nat}{ops:Array Oper}{Q:Exit→Act→World→Prop}{w0:World}{M0:Nat→Prop}{ds:List Deferred}{a:Act}{w:World}{l l':List Value}{bs bs':List Item}{fs:List (World→Prop)}
 {d:Option Nat} {op:Op} {ty:TypeId} {pos:String} {af:Array Edge} {rest:List Oper} {v v' G:Value} {f:Nat} {x:Operand} {xs:List Operand} {args:List Value} {ts:Array TypeId} {j g:Nat} {kZ:Bool} {cs:List Bool}
theorem pS [aF P f][fP ⟨[],l⟩ x xs f args](S:St w0 M0 ds a w l bs fs){R:Ending→World→Prop}(hc:Calls P f args.toArray w R)(K:∀ e w',R e w'→∃ v,e=.returned v∧WL P r ops Q rest (a.put d v) w') :
  WL P r ops Q (⟨d,.call { callee:=.value x,args:=xs.toArray,argTypes:=ts },ty,pos,af,none⟩::rest) a w:=by
 refine bR rfl ?_;rw[bQ rfl];simp only[uo (f:=f) (args:=args) S.fr,Oper.uponIn];refine ⟨fun h=>(by cases h),trivial,fun cs _=>?_⟩;obtain ⟨e,w',fr,hR,nM,h1,h2⟩:=hc cs;obtain ⟨v,rfl,hk⟩:=K e w' hR;exact ⟨.returned v,w',fr,hk,(comesIn_wide (m:=lone (Frame.enter P f args.toArray .normal) cs w) (e:=.returned v)).2 nM,h1,h2⟩
theorem sr {l':Value→List Value}[aF P f][fP ⟨[],l⟩ x xs f args][hp:∀ v,cZ l d v (l' v)](S:St w0 M0 ds a w l bs fs){R:Value→World→Prop}(hc:aT P f args w (fun _=>False) R)
  (K:∀ v a w',R v w'→St w0 M0 ds a w' (l' v) bs fs→WL P r ops Q rest a w') :
  WL P r ops Q (⟨d,.call { callee:=.value x,args:=xs.toArray,argTypes:=ts },ty,pos,af,none⟩::rest) a w:=by
 refine pS S hc ?_;rintro e w' ⟨v,rfl,ha,hR⟩;have:=hp v;have S':=S.put (d:=d) (v:=v);exact ⟨v,rfl,K v _ w' hR ⟨S'.slots,S'.defers,S'.wd.step ha⟩⟩
theorem sc [aF P f][fP ⟨[],l⟩ x xs f args][hv:cB P f args bs fs v][hp:cZ l d v l'](S:St w0 M0 ds a w l bs fs)
  (K:∀ a w,St w0 M0 ds a w l' bs fs→WL P r ops Q rest a w) :
  WL P r ops Q (⟨d,.call { callee:=.value x,args:=xs.toArray,argTypes:=ts },ty,pos,af,none⟩::rest) a w:=by
 refine pS S (hv.run w S.wd.mem) ?_;rintro e w' ⟨u,rfl,ha,rfl⟩;have S':=S.put (d:=d) (v:=u) (l':=l');exact ⟨u,rfl,K _ w' ⟨S'.slots,S'.defers,S'.wd.step ha⟩⟩
theorem sb {l':Value→List Value}{b:Nat}{t:TypeId}{cs:List Value}[aF P f][fP ⟨[],l⟩ x xs f args][hp:∀ v,cZ l d v (l' v)][e9 bs b t cs](S:St w0 M0 ds a w l bs fs){R:Value→World→Prop}(hc:aT P f args w (fun k=>k=b) R)
  (K:∀ v a w',R v w'→(∀ cs' bs',FH bs b t cs cs' bs'→w'.heap[b]? = some (.cells cs'.toArray t (0,0))→St w0 M0 ds a w' (l' v) bs' fs)→WL P r ops Q rest a w') :
  WL P r ops Q (⟨d,.call { callee:=.value x,args:=xs.toArray,argTypes:=ts },ty,pos,af,none⟩::rest) a w:=by
 refine pS S hc ?_;rintro e w' ⟨v,rfl,ha,hR⟩;have:=hp v;have S':=S.put (d:=d) (v:=v);refine ⟨v,rfl,K v _ w' hR fun cs' bs' k4 hb'=>⟨S'.slots,S'.defers,?_⟩⟩;obtain ⟨pre,post,e1,e2⟩:=k4.ex;have hO:=S'.wd;rw[e1]at hO;rw[e2];exact hO.Se ha hb'
theorem gC [hg:nr ops j g][hn:pF l g G][hc:nq G kZ cs][aF P f][he:fP ⟨cs,l⟩ x xs f args][hq:cB P f args bs fs v][hv:CE cs v v'][hp:cZ l d v' l'](S:St w0 M0 ds a w l bs fs)
  (K:∀ a w,St w0 M0 ds a w l' bs fs→WL P r ops Q rest a w):WL P r ops Q (⟨d,.call { callee:=.value x,args:=xs.toArray,argTypes:=ts },ty,pos,af,some (j,kZ)⟩::rest) a w:=by
 have hw:=e_ (ops:=ops) (d:=d) (op:=.call { callee:=.value x,args:=xs.toArray,argTypes:=ts }) (ty:=ty) (pos:=pos) (af:=af) (kZ:=kZ) S hg.eq;have S':=S.put (d:=d) (v:=v') (l':=l');refine ko (fun ht=>?_) (fun hf=>?_);have hall:=hw.1 ht;have:fP ⟨[],l⟩ x xs f args:=⟨by
  obtain ⟨fi,ca,vs,h0,h1,h2⟩:=he.ex;exact ⟨fi,ca,vs,⟨fun _ ds=>h0.eq hall ds⟩,⟨fun _ ds=>h1.eq hall ds⟩,h2⟩⟩
 refine sc S (v:=v) (l':=l') (K:=K) (hp:=⟨fun ds=>?_⟩);rw[←hp.eq,hv.eq,if_pos hall];have hall:¬∀ c∈cs,c=true:=fun h=>by rw[hw.2 h]at hf;cases hf
 have e:=hv.eq;rw[if_neg hall]at e;rw[←e];exact K _ _ S'
theorem gS {c:Bool}{lt lf:List Value}[hg:nr ops j g][hn:pF l g (.bool c)][h1:qy l g (.bool true) lt][h2:qy l g (.bool false) lf](S:St w0 M0 ds a w l bs fs)
  (ht:c=true→St w0 M0 ds a w lt bs fs→WL P r ops Q (⟨d,op,ty,pos,af,some (j,kZ)⟩::rest) a w)
  (hf:c=false→St w0 M0 ds a w lf bs fs→WL P r ops Q (⟨d,op,ty,pos,af,some (j,kZ)⟩::rest) a w):WL P r ops Q (⟨d,op,ty,pos,af,some (j,kZ)⟩::rest) a w:=by
 have key:∀ b,c=b→l.set g (.bool b)=l:=fun b hb=>by
  subst hb;apply List.ext_getElem?;intro k;rw[List.getElem?_set];split
  subst_vars
  have:=hn.eq;split <;> simp_all
  rfl
 cases c;exact hf rfl (by rw[←h2.eq,key false rfl];exact S);exact ht rfl (by rw[←h1.eq,key true rfl];exact S)
end
class mP (P:Program)(l:List Value)(bs:List Item)(rv:ResultVar)(v:outParam Value):Prop where
 run:∀ (w:World),(∀ it∈bs,it.holds w)→(match rv with | .tmp t=>(pure (l.toArray.getD t undef):Sem Value) | .cell a t=>do loadVar t (←asAddr (l.toArray.getD a undef))).run P w=.ok v w
instance resT {P l bs t v}[h:pF l t v]:mP P l bs (.tmp t) v:=⟨fun w _=>by
 have:=h.eq;simp[Array.getD_eq_getD_getElem?,this]⟩
instance resC1 {P l bs a t b bt cs v}[h:pF l a (.pointer (some ⟨b,0,none⟩))][hb:e9 bs b bt cs][ha:eU P t false][hn:pF cs 0 v]:mP P l bs (.cell a t) v:=⟨fun w hh=>by
 have e:=h.eq;have hc:w.cell? ⟨b,0,none⟩=some v:=by rw[cell_of_row w b 0 cs.toArray bt (0,0) (hh _ hb.mem)];simpa using hn.eq
 simp[Array.getD_eq_getD_getElem?,e,asAddr,loadVar,Sem.run_bind,ha.run,load,Sem.run,hc]⟩
instance resCA {P l bs a t b bt cs z n dy vs}[h:pF l a (.pointer (some ⟨b,0,none⟩))][hb:e9 bs b bt cs][ha:eU P t true][TI P t z n dy][hn:Lk cs 0 n vs]:mP P l bs (.cell a t) (.agg ⟨vs⟩):=⟨fun w hh=>by
 have e:=h.eq;have hl:(loadCells ⟨b,0,none⟩ n).run P w=.ok vs.toArray w:=by
  have:=run_loadCells_list (P:=P) w ⟨b,0,none⟩ vs (fun j v hj=>by
   have hjn:j < n:=by rw[←hn.eq.1];exact (List.getElem?_eq_some_iff.1 hj).1
   have e:(⟨b,0,none⟩:Addr).add j=⟨b,j,none⟩:=by unfold Addr.add;split <;> simp_all
   have h2:=hn.eq.2 j hjn;rw[e,cell_of_row w b j cs.toArray bt (0,0) (hh _ hb.mem)];simpa [hj] using h2)
  rw[hn.eq.1]at this;exact this
 simp[Array.getD_eq_getD_getElem?,e,asAddr,loadVar,Sem.run_bind,ha.run,cv,hl]⟩
class ax (fn:Func)(rs:outParam (List ResultVar)):Prop where eq:fn.results=rs.toArray
def HA (l:List Value)(rv:ResultVar):Sem Value:=match rv with | .tmp t=>pure (l.toArray.getD t undef) | .cell a t=>do loadVar t (←asAddr (l.toArray.getD a undef))
theorem fQ {P:Program}{l:List Value}{bs:List Item}{rv:ResultVar}{v:Value}[h:mP P l bs rv v](w:World)(hh:∀ it∈bs,it.holds w):(HA l rv).run P w=.ok v w:=h.run w hh
theorem eE {fn:Func}{rs:List ResultVar}[hr:ax fn rs](l:List Value):results fn l.toArray=(do let vs ←rs.toArray.mapM (HA l);pure (if h:vs.size=1 then vs[0] else .tuple vs)):=by
 unfold results;rw[hr.eq];rfl
section
variable {P:Program}{fn:Func}{R:Value→World→Prop}{w0:World}{M0:Nat→Prop}{a:Act}{w:World}{l:List Value}{bs:List Item}{fs:List (World→Prop)}{e:Exit}
theorem tK {v:Value}(S:St w0 M0 [] a w l bs fs)(hv:(results fn l.toArray).run P w=.ok v w)(h:aJ M0 w0 w→R v w)(he:e=.ret∨e=.normal:=by simp):bodyPost P fn (fun e w'=>∃ v,e=.returned v∧aJ M0 w0 w'∧R v w') e a w:=by
 rw[←S.slots]at hv;rcases he with rfl | rfl
 exact bodyPost_ret hv S.defers ⟨_,rfl,S.wd.agree,h S.wd.agree⟩;exact bodyPost_end hv S.defers ⟨_,rfl,S.wd.agree,h S.wd.agree⟩
theorem iD [hr:ax fn []](S:St w0 M0 [] a w l bs fs)(h:aJ M0 w0 w→R (.tuple #[]) w)(he:e=.ret∨e=.normal:=by simp):bodyPost P fn (fun e w'=>∃ v,e=.returned v∧aJ M0 w0 w'∧R v w') e a w:=
 tK S (by rw[eE (rs:=[])];simp) h he
theorem aD {r1:ResultVar}{v1:Value}[hr:ax fn [r1]][h1:mP P l bs r1 v1](S:St w0 M0 [] a w l bs fs)(h:aJ M0 w0 w→R v1 w)(he:e=.ret∨e=.normal:=by simp):bodyPost P fn (fun e w'=>∃ v,e=.returned v∧aJ M0 w0 w'∧R v w') e a w:=
 tK S (by rw[eE (rs:=[r1])];simp[fQ (P:=P) (l:=l) (bs:=bs) (rv:=r1) (v:=v1) w S.wd.held]) h he
theorem gO {r1 r2:ResultVar}{v1 v2:Value}[hr:ax fn [r1,r2]][h1:mP P l bs r1 v1][h2:mP P l bs r2 v2](S:St w0 M0 [] a w l bs fs)(h:aJ M0 w0 w→R (.tuple ⟨[v1,v2]⟩) w)(he:e=.ret∨e=.normal:=by simp):bodyPost P fn (fun e w'=>∃ v,e=.returned v∧aJ M0 w0 w'∧R v w') e a w:=
 tK S (by rw[eE (rs:=[r1,r2])];simp[fQ (P:=P) (l:=l) (bs:=bs) (rv:=r1) (v:=v1) w S.wd.held,fQ (P:=P) (l:=l) (bs:=bs) (rv:=r2) (v:=v2) w S.wd.held]) h he
theorem wM {r1 r2 r3 r4:ResultVar}{v1 v2 v3 v4:Value}[hr:ax fn [r1,r2,r3,r4]][h1:mP P l bs r1 v1][h2:mP P l bs r2 v2][h3:mP P l bs r3 v3][h4:mP P l bs r4 v4](S:St w0 M0 [] a w l bs fs)(h:aJ M0 w0 w→R (.tuple ⟨[v1,v2,v3,v4]⟩) w)(he:e=.ret∨e=.normal:=by simp):bodyPost P fn (fun e w'=>∃ v,e=.returned v∧aJ M0 w0 w'∧R v w') e a w:=
 tK S (by rw[eE (rs:=[r1,r2,r3,r4])];simp[fQ (P:=P) (l:=l) (bs:=bs) (rv:=r1) (v:=v1) w S.wd.held,fQ (P:=P) (l:=l) (bs:=bs) (rv:=r2) (v:=v2) w S.wd.held,fQ (P:=P) (l:=l) (bs:=bs) (rv:=r3) (v:=v3) w S.wd.held,fQ (P:=P) (l:=l) (bs:=bs) (rv:=r4) (v:=v4) w S.wd.held]) h he
end
class jT (P:Program)(t:TypeId)(pl:outParam (List (Nat × Nat))):Prop where
 ex:∃ fields,P.underlying t=some (.struct fields)∧(fields.map fun f=>(f.offset,(P.info? f.type).map (·.size)))=(pl.map fun x=>(x.1,some x.2)).toArray
theorem dH {P:Program}{t:TypeId}{pl:List (Nat × Nat)}(h:(P.underlying t).bind (fun d=>match d with | .struct fs=>some (fs.map fun f=>(f.offset,(P.info? f.type).map (·.size))) | _=>none)=some (pl.map fun x=>(x.1,some x.2)).toArray):jT P t pl:=⟨by
 cases hu:P.underlying t with
 | none=>simp[hu]at h
 | some d=>cases d <;> simp[hu]at h;exact ⟨_,rfl,by simpa using h⟩⟩
class Lm (pl:List (Nat × Nat))(i:Nat)(o s:outParam Nat):Prop where eq:pl[i]? = some (o,s)
instance nthp0 {o s:Nat}{pl:List (Nat × Nat)} : Lm ((o,s)::pl) 0 o s:=⟨rfl⟩
instance nthpS {x:Nat × Nat}{pl:List (Nat × Nat)}{i o s:Nat}[h:Lm pl i o s]:Lm (x::pl) (i+1) o s:=⟨by simpa using h.eq⟩
class uq (i s:Nat)(o:outParam Nat):Prop where eq:i*s=o
instance (priority:=1100) muln1 {i:Nat} : uq i 1 i:=⟨by simp⟩
instance muln0 {s:Nat} : uq 0 s 0:=⟨by simp⟩
class OQ (a b:Nat)(c:outParam Nat):Prop where eq:a+b=c
instance mulnS {i s o o':Nat}[h:uq i s o][h':OQ o s o']:uq (i+1) s o':=⟨by rw[←h'.eq,←h.eq];simp[Nat.add_mul]⟩
class oB (place:Nat→Option (Nat × Nat))(l:Cx)(cs:List Value)(parts:List (Nat × Operand))(cs':outParam (List Value)):Prop where
 run:∀ ρ:Operand→Value,Fr ρ l→Instr.fill place cs.toArray (parts.map fun (i,x)=>(i,ρ x))=some cs'.toArray
instance setm0 {place l cs} : oB place l cs [] cs:=⟨fun _ _=>rfl⟩
class yD (place:Nat→Option (Nat × Nat))(i:Nat)(o s:outParam Nat):Prop where eq:place i=some (o,s)
instance Xg {pl:List (Nat × Nat)}{i o s:Nat}[h:Lm pl i o s]:yD (fun i=>pl[i]?) i o s:=⟨h.eq⟩
instance Xh {i o s:Nat}[h:uq i s o]:yD (fun i=>some (i*s,s)) i o s:=⟨by rw[h.eq]⟩
theorem HB (vs:List Value)(cs:List Value)(off:Nat)(h:off+vs.length≤cs.length):((vs.toArray.zipIdx.foldl (fun cs (c,j)=>cs.setIfInBounds (off+j) c) cs.toArray))=(cs.take off++vs++cs.drop (off+vs.length)).toArray:=by
 have key:∀ (vs:List Value) (k:Nat) (cs:List Value),off+k+vs.length≤cs.length→((vs.zipIdx k).foldl (fun(cs:Array Value) (x:Value × Nat)=>cs.setIfInBounds (off+x.2) x.1) cs.toArray)=(cs.take (off+k)++vs++cs.drop (off+k+vs.length)).toArray:=by
  intro vs
  induction vs with
  | nil=>intro k cs _;simp
  | cons v vs ih=>
   intro k cs h;simp only[jb]at h;simp only[List.zipIdx_cons,List.foldl_cons,List.setIfInBounds_toArray];rw[ih (k+1) (cs.set (off+k) v) (by simp;omega)]
   congr 1
   have e1:(cs.set (off+k) v).take (off+(k+1))=cs.take (off+k)++[v]:=by
    rw[show off+(k+1)=(off+k)+1 from by omega,List.take_set,List.take_succ_eq_append_getElem (by omega),List.set_append_right _ _ (by simp;omega)];simp[List.length_take,Nat.min_eq_left (show off+k≤cs.length from by omega)]
   rw[e1,List.drop_set_of_lt (by omega)];simp only[List.append_assoc,Cl,j6,jb];rw[show off+(k+1)+vs.length=off+k+(vs.length+1) from by omega]
 have:=key vs 0 cs (by simpa using h);rw[←Array.foldl_toList,Array.toList_zipIdx];simpa using this
instance setmS {place:Nat→Option (Nat × Nat)}{l:Cx}{cs cs1 cs' vs:List Value}{i o s:Nat}{x:Operand}{v:Value}{parts:List (Nat × Operand)}[hp:yD place i o s][hv:Ev l x v][hc:Cells v vs][hl:gW vs s][hs:rR cs o vs cs1][h:oB place l cs1 parts cs']:oB place l cs ((i,x)::parts) cs':=⟨fun ρ hf=>by
 have e:=hf.ev (x:=x) (v:=v);have hcs:v.cells=vs.toArray:=by rw[←hc.eq]
 simp only[List.map_cons,Instr.fill,hp.eq,e,hcs];have h1:=hs.eq;rw[if_neg (by simp[hl.eq];have:=hl.eq;omega)];have h2:=HB vs cs o h1.1;rw[h1.2]at h2;rw[h2];exact h.run ρ hf⟩
theorem run_places {P:Program}(w:World):∀ (fl:List Field) (pl:List (Nat × Nat)),fl.map (fun f=>(f.offset,(P.info? f.type).map (·.size)))=pl.map (fun x=>(x.1,some x.2))→
  (fl.mapM (fun f=>do pure (f.offset,←sizeOf f.type):Field→Sem (Nat × Nat))).run P w=.ok pl w
 | [],[],_=>by simp
 | [],x::pl,h=>by simp at h
 | f::fl,[],h=>by simp at h
 | f::fl,x::pl,h=>by
  simp only[List.map_cons,List.cons.injEq,Prod.mk.injEq]at h;obtain ⟨⟨h1,h2⟩,h3⟩:=h;have ih:=run_places w fl pl h3;cases hi:P.info? f.type with
  | none=>simp[hi]at h2
  | some i=>
   simp[hi]at h2;have hs:(sizeOf f.type).run P w=.ok x.2 w:=by simp[sizeOf,typeInfo,program,Sem.run,Sem.run_bind,hi,h2]
   simp only[List.mapM_cons,Sem.run_bind,hs,Result.andThen_ok,Sem.run_pure,ih,h1]
instance Si {P:Program}{t ty:TypeId}{l:Cx}{bs:List Item}{fs:List (World→Prop)}{parts:List (Nat × Operand)}{pl:List (Nat × Nat)}{z:Value}{n dy:Nat}{zs cs:List Value}[hp:jT P t pl][TI P t z n dy][hc:Cells z zs][hs:oB (fun i=>pl[i]?) l zs parts cs]:dO P (.build t parts.toArray) ty l bs fs (.agg ⟨cs⟩):=⟨fun ρ w h _=>by
 obtain ⟨fields,hu,hpl⟩:=hp.ex;have h1:=hs.run ρ h;have hz:z.cells=zs.toArray:=by rw[←hc.eq]
 have h2:=run_places (P:=P) w fields.toList pl (by
  have:=congrArg Array.toList hpl;simpa using this)
 have h3:(fields.mapM (fun f=>do pure (f.offset,←sizeOf f.type):Field→Sem (Nat × Nat))).run P w=.ok pl.toArray w:=by
  rw[Array.mapM_eq_mapM_toList];simp only[map_eq_pure_bind,Sem.run_bind,h2,Result.andThen_ok,Sem.run_pure]
 simp only[cu,execOp,Instr.build,Sem.run_bind,nK,Result.andThen_ok,run_underlying hu,h3,hz,List.map_toArray];simp[h1]⟩
class HC (n:Nat)(zs:List Value)(r:outParam (List Value)):Prop where eq:(List.replicate n zs).flatten=r
instance repl0 {zs:List Value} : HC 0 zs []:=⟨by simp⟩
instance replS {n:Nat}{zs r r':List Value}[h:HC n zs r][h':As zs r r']:HC (n+1) zs r':=⟨by rw[←h'.eq,←h.eq];simp[rQ]⟩
class OR (n k:Nat):Prop where le:n≤k
instance les0 {k:Nat} : OR 0 k:=⟨Nat.zero_le _⟩
instance lesS {n k:Nat}[h:OR n k]:OR (n+1) (k+1):=⟨Nat.succ_le_succ h.le⟩
theorem rS (n:Nat)(zs:List Value)(hz:zs≠[]):((Array.range (n*zs.length)).map (fun i=>zs.toArray[i % zs.toArray.size]!))=((List.replicate n zs).flatten).toArray:=by
 apply Array.ext';simp only[Array.toList_map,Array.toList_range]
 induction n with
 | zero=>simp
 | succ n ih=>
  have hpos:0 < zs.length:=List.length_pos_iff.2 hz;rw[Nat.add_mul,Nat.one_mul,List.range_add,List.map_append,ih,List.replicate_succ',List.flatten_append]
  congr 1
  simp only[List.map_map,List.flatten_cons,List.flatten_nil,List.append_nil];apply List.ext_getElem?;intro k
  by_cases hk:k < zs.length
  ·simp[hk,Nat.mul_add_mod_self_right,Nat.mod_eq_of_lt hk]
  ·simp[hk]
class OpB (P:Program)(op:Op)(ty:TypeId)(l:Cx)(t:outParam TypeId)(cs:outParam (List Value))(val:outParam (Nat→Value)):Prop where
 run:∀ (ρ:Operand→Value) (w:World),Fr ρ l→(cu ρ op ty).run P w=.ok (.value (val w.heap.size)) (w.alloc (.cells cs.toArray t))
section
variable {P:Program}{r:Option Nat}{ops:Array Oper}{Q:Exit→Act→World→Prop}{w0:World}{M0:Nat→Prop}{ds:List Deferred}{a:Act}{w:World}{l:List Value}{bs bs':List Item}{fs:List (World→Prop)}
 {d:Option Nat} {op:Op} {ty:TypeId} {pos:String} {af:Array Edge} {rest:List Oper} {v:Value}
theorem sn {t:TypeId}{cs:List Value}{val:Nat→Value}{l':Nat→List Value}[hq:OpB P op ty ⟨[],l⟩ t cs val][hp:∀ b,cZ l d (val b) (l' b)](S:St w0 M0 ds a w l bs fs)
  (K:∀ b a w,St w0 M0 ds a w (l' b) (box b t cs::bs) fs→WL P r ops Q rest a w) (k_:cE op=false:=by rfl):WL P r ops Q (⟨d,op,ty,pos,af,none⟩::rest) a w:=by
 refine bR rfl ?_;rw[bQ k_];simp only[hq.run a.eval w S.fr,Oper.uponIn];have:=hp w.heap.size;have S':=S.put (d:=d) (v:=val w.heap.size);exact K _ _ _ ⟨S'.slots,S'.defers,S'.wd.alloc t cs⟩
end
class Vy (zs:List Value):Prop where ne:zs≠[]
instance {z:Value}{zs:List Value} : Vy (z::zs):=⟨by simp⟩
instance Ln {P:Program}{t e ty:TypeId}{n sz dy:Nat}{l:Cx}{parts:List (Nat × Operand)}{z:Value}{zs rs cs:List Value}[dN P t (.slice e)][TI P e z sz dy][hc:Cells z zs][hne:Vy zs][hls:gW zs sz][h1n:OR n 4096][h1s:OR sz 4096][hr:HC n zs rs][hs:oB (fun i=>some (i*sz,sz)) l rs parts cs] :
  OpB P (.buildSlice t n parts.toArray) ty l e cs (fun b=>.slice (some ⟨b,0,none⟩) n n):=⟨fun ρ w h=>by
 have hz:z.cells=zs.toArray:=by rw[←hc.eq]
 have h1:=hs.run ρ h;have hle:¬n*sz > 2 ^ 24:=by
  have:=Nat.mul_le_mul h1n.le h1s.le;omega
 have h2:=rS n zs hne.ne;rw[hr.eq,hls.eq]at h2;simp only[cu,execOp,Instr.buildSlice,Sem.run_bind,cp,Result.andThen_ok,cv,List.map_toArray];rw[if_neg hle]
 by_cases h0:n*sz=0
 rw[if_pos h0];have e:rs=[]:=by
  have:rs.length=n*sz:=by rw[←hr.eq,←hls.eq];simp
  exact List.eq_nil_of_length_eq_zero (by omega)
 subst e;have Sj:Instr.fill (fun i=>some (i*sz,sz)) #[] (parts.map fun x=>(x.1,ρ x.2))=some cs.toArray:=h1;have e0:(Array.range 0).map (fun _=>(default:Value)) = #[]:=by simp
 simp[h0,e0,Sj,newRow];rw[if_neg h0];simp only[Sem.run_bind,nK,Result.andThen_ok,Sem.run_pure,hz,h2];simp[h1,newRow]⟩
class gu (fs:List (World→Prop))(Φ:World→Prop):Prop where mem:Φ∈fs
instance hf0 {Φ:World→Prop}{fs:List (World→Prop)} : gu (Φ::fs) Φ:=⟨List.mem_cons_self ..⟩
instance (priority:=900) kr {Φ Ψ:World→Prop}{fs:List (World→Prop)}[h:gu fs Φ]:gu (Ψ::fs) Φ:=⟨List.mem_cons_of_mem _ h.mem⟩
theorem Mem.fact {w bs fs}(m:Mem w bs fs)(Φ:World→Prop)[h:gu fs Φ]:ag (dR bs) w Φ:=m.facts Φ h.mem
theorem Mem.HD {w bs fs}(m:Mem w bs fs)(Φ:World→Prop)[h:gu fs Φ]:Fx w Φ:=(m.facts Φ h.mem).less fun _ _ h=>h.elim
theorem St.mem {w0 M0 ds a w l bs fs}(S:St w0 M0 ds a w l bs fs):Mem w bs fs:=S.wd.mem
def Term.text (s:List UInt8):Term:=.mk 1 0 0 s []
def Term.fresh (u n:Int):Term:=.mk 2 u n [] []
def Term.pair (a b:Term):Term:=.mk 4 0 0 [] [a,b]
theorem HE {M:Nat→Prop}{w:World}{p:Option Addr}{xs:List ak}(h:ag M w (Ae p 0 xs)){k:Nat}(hk:k < xs.length):∃ x ad,xs[k]? = some x∧x∈xs∧xs.drop k=x::xs.drop (k+1)∧p=some ad∧(∀ j v,x.cells[j]? = some v→w.cell? ((ad.add (k*5)).add j)=some v)∧ag M w (dc x):=by
 have hx:xs[k]? = some xs[k]:=List.getElem?_eq_getElem hk;obtain ⟨ad,hp,hc⟩:=(h.now.get hx).1;refine ⟨_,ad,hx,List.getElem_mem hk,List.drop_eq_getElem_cons hk,hp,fun j v hj=>?_,h.imp fun w' bP=>(iS.get bP hx).2⟩;rw[add_add];simpa using hc j v hj
theorem lT {M:Nat→Prop}{w:World}{t:ak}(h:ag M w (dc t)):ag M w (Ae t.p 0 t.kids):=h.imp fun _ hw=>(f_.iff.1 hw).2.2
def Xi (M:Nat→Prop)(w:World)(v:Value)(T:Term):Prop:=∃ r:ak,v=vL r∧r.t=T∧ag M w (dc r)
class ur (bs:List Item)(ids:List Nat)(eD:outParam (List Item)):Prop where sub:eD.Sublist bs
instance Vz {bs:List Item} : ur bs [] bs:=⟨.refl _⟩
class Eb (bs:List Item)(b:Nat)(eD:outParam (List Item)):Prop where sub:eD.Sublist bs
instance Xj {b:Nat}{t:TypeId}{cs:List Value}{bs:List Item} : Eb (box b t cs::bs) b bs:=⟨.cons _ (.refl _)⟩
instance (priority:=900) Xk {b:Nat}{x:Item}{bs eD:List Item}[h:Eb bs b eD]:Eb (x::bs) b (x::eD):=⟨.cons_cons _ h.sub⟩
instance VA {b:Nat}{ids:List Nat}{bs fU eD:List Item}[h:Eb bs b fU][h':ur fU ids eD]:ur bs (b::ids) eD:=⟨h'.sub.trans h.sub⟩
section
variable {P:Program}{r:Option Nat}{Q:Exit→Act→World→Prop}{w0:World}{M0:Nat→Prop}{ds:List Deferred}{a:Act}{w:World}{l:List Value}{bs eD:List Item}{fs:List (World→Prop)}
theorem bM {id:Nat}{lo:List Oper}(ord:List (Nat × Bool))(ids:List Nat)[ur bs ids eD](S:St w0 M0 ds a w l bs fs)(h:∀ w,St w0 M0 ds a w l bs fs→AQ P lo.toArray (fun w=>Wd w0 M0 w eD fs) (fun a w=>Q .normal a w) ord a w)
  (hm:P.follows .mixedOrders=true:=by kernel_rfl) (hd:((lo.all fun o=>!cE o.op)&&(Nat.beq ord.length lo.length&&(Region.noSelect lo.toArray&&hU lo.toArray ord (Array.replicate lo.length false))))=true:=by kernel_rfl):Wp P r (.region id lo.toArray true) Q a w:=by
 simp only[Bool.and_eq_true]at hd;refine wpIn_region_any hm (lS (C:=fun w=>Wd w0 M0 w eD fs) (fun i o ho=>?_) _ _ _ _ ?_);have:=List.all_eq_true.1 hd.1 o (by
  rw[List.getElem?_toArray]at ho;exact List.mem_of_getElem? ho)
 simpa using this;have:=h { w with drawn:=w.drawn+1 } ⟨S.slots,S.defers,S.wd.step (aJ.drawn _ w _)⟩ _ hd.2.2.1 hd.2.2.2;rw[Nat.eq_of_beq_eq_true hd.2.1]at this;simpa using this
end
abbrev eO:ak:=.mk 0 0 0 [] none 0 []
def At:Term:=.mk 0 0 0 [] []
theorem eF (w:World):f_ w eO:=by simp[f_,iS]
class cx (k n:Nat):Prop where lt:k < n
class ey (m:Int)(k:outParam Nat):Prop where eq:m=(k:Int)
instance Xl {k:Nat} : ey (k:Int) k:=⟨rfl⟩
def gP (xs:List ak)(k:Nat):ak:=xs.getD k eO
def pT (p:Option Addr)(k:Nat):Addr:=(p.getD ⟨0,0,none⟩).add (k*5)
class uv (fs:List (World→Prop))(p:Option Addr)(xs:outParam (List ak)):Prop where
 of:∀ (M:Nat→Prop) (w:World),(∀ Φ∈fs,ag M w Φ)→ag M w (Ae p 0 xs)
instance Xm {fs:List (World→Prop)}{p:Option Addr}{xs:List ak} : uv (Ae p 0 xs::fs) p xs:=⟨fun _ _ h=>h _ (by simp)⟩
instance Xn {fs:List (World→Prop)}{t:ak} : uv (dc t::fs) t.p t.kids:=⟨fun _ _ h=>lT (h _ (by simp))⟩
instance (priority:=900) Xo {fs:List (World→Prop)}{Φ:World→Prop}{p:Option Addr}{xs:List ak}[h:uv fs p xs]:uv (Φ::fs) p xs:=⟨fun M w hf=>h.of M w fun Ψ hΨ=>hf Ψ (by simp[hΨ])⟩
class Ec (fs:List (World→Prop))(xs:List ak):Prop where
 of:∀ (M:Nat→Prop) (w:World),(∀ Φ∈fs,ag M w Φ)→∃ p,ag M w (Ae p 0 xs)
instance Xp {fs:List (World→Prop)}{t:ak} : Ec (dc t::fs) t.kids:=⟨fun _ _ h=>⟨t.p,lT (h _ (by simp))⟩⟩
instance (priority:=900) Xq {fs:List (World→Prop)}{Φ:World→Prop}{xs:List ak}[h:Ec fs xs]:Ec (Φ::fs) xs:=⟨fun M w hf=>h.of M w fun Ψ hΨ=>hf Ψ (by simp[hΨ])⟩
class qA (fs:List (World→Prop))(t:ak):Prop where
 of:∀ (M:Nat→Prop) (w:World),(∀ Φ∈fs,ag M w Φ)→ag M w (dc t)
instance hast0 {fs:List (World→Prop)}{t:ak}[h:gu fs (dc t)]:qA fs t:=⟨fun _ _ hf=>hf _ h.mem⟩
theorem jn {xs:List ak}{k:Nat}(h:k < xs.length):xs[k]? = some (gP xs k):=by
 simp[gP,h]
theorem fC {xs:List ak}{k:Nat}(h:k < xs.length):gP xs k∈xs:=List.mem_of_getElem? (jn h)
theorem js {xs:List ak}{k:Nat}(h:k < xs.length):xs.drop k=gP xs k::xs.drop (k+1):=by
 rw[List.drop_eq_getElem_cons h]
 congr 1
 simp[gP,h]
instance (priority:=900) hast1 {fs:List (World→Prop)}{xs:List ak}{k:Nat}[h:Ec fs xs][hk:cx k xs.length]:qA fs (gP xs k):=⟨fun M w hf=>by
 obtain ⟨p,hp⟩:=h.of M w hf;exact hp.imp fun w' bP=>(iS.get bP (jn hk.lt)).2⟩
theorem St.t {w0 M0 ds a w l bs fs}(S:St w0 M0 ds a w l bs fs)(t:ak)[h:qA fs t]:ag (dR bs) w (dc t):=h.of _ _ S.wd.facts
theorem St.t0 {w0 M0 ds a w l bs fs}(S:St w0 M0 ds a w l bs fs)(t:ak)[h:qA fs t]:Fx w (dc t):=(S.t t).less fun _ _ h=>h.elim
theorem Mem.t {w bs fs}(m:Mem w bs fs)(t:ak)[h:qA fs t]:ag (dR bs) w (dc t):=h.of _ _ m.facts
theorem Mem.t0 {w bs fs}(m:Mem w bs fs)(t:ak)[h:qA fs t]:Fx w (dc t):=(m.t t).less fun _ _ h=>h.elim
theorem St.CG {w0 M0 ds a w l bs fs}(S:St w0 M0 ds a w l bs fs){M:Nat→Prop}[he:lG bs M](t:ak)[h:qA fs t]:ag M w (dc t):=(S.t t).less fun _ _ hk=>⟨_,he.mem,hk⟩
theorem Ed {w:World}{p:Option Addr}{xs:List ak}(h:iS w p 0 xs){k:Nat}(hk:k < xs.length):p=some (p.getD ⟨0,0,none⟩)∧∀ j v,(gP xs k).cells[j]? = some v→w.cell? ((pT p k).add j)=some v:=by
 obtain ⟨ad,rfl,hc⟩:=(h.get (jn hk)).1;refine ⟨rfl,fun j v hj=>?_⟩;simp only[pT,Option.getD_some,add_add];simpa using hc j v hj
instance (priority:=900) Xr {P:Program}{t ty:TypeId}{e:TypeId}{z:Value}{dy:Nat}{l:Cx}{bs:List Item}{fs:List (World→Prop)}{x y:Operand}{p:Option Addr}{n c k:Nat}{kk:IntKind}{m:Int}{xs:List ak}[Ev l x (.slice p n c)][Ev l y (.int kk m)][dN P t (.slice e)][TI P e z 5 dy][hm:ey m k][hl:uv fs p xs][hk:cx k n][hk':cx k xs.length] :
  dO P (.indexAddr t x y) ty l bs fs (.pointer (some (pT p k))):=⟨fun ρ w h mm=>by
 have h1:=(Ed (hl.of _ _ mm.facts).now hk'.lt).1;have h2:=hm.eq;subst h2;rw[h1];have hlt:=hk.lt;simp[cu,execOp,h.ev (x:=x) (v:=.slice p n c),h.ev (x:=y) (v:=.int kk (k:Int))];rw[h1];simp[gD (P:=P) (t:=t) (e:=e) (z:=z) (sz:=5) (dy:=dy) (Int.natCast_nonneg k) (Int.ofNat_lt.2 hlt),pT]⟩
instance (priority:=900) VB {P:Program}{t ty:TypeId}{z:Value}{dy:Nat}{l:Cx}{bs:List Item}{fs:List (World→Prop)}{x:Operand}{p:Option Addr}{k:Nat}{xs:List ak}[Ev l x (.pointer (some (pT p k)))][ha:eU P t true][TI P t z 5 dy][hl:uv fs p xs][hk:cx k xs.length] :
  dO P (.load t x) ty l bs fs (vL (gP xs k)):=⟨fun ρ w h mm=>by
 have h1:=(Ed (hl.of _ _ mm.facts).now hk.lt).2;have hlc:=run_loadCells_list (P:=P) w (pT p k) (gP xs k).cells h1;have hlen:(gP xs k).cells.length=5:=rfl;rw[hlen]at hlc;simp[cu,execOp,Instr.loadAt,h.ev (x:=x) (v:=.pointer (some (pT p k))),Instr.sureAddr,loadVar,Sem.run_bind,ha.run,cv,hlc]⟩
instance (priority:=1200) Xs:nq (.bool true) true []:=⟨by simp⟩
instance (priority:=1200) Xt:nq (.bool false) false []:=⟨by simp⟩
instance:NZ 2:=⟨by decide⟩
instance:NZ 5:=⟨by decide⟩
instance:NZ 16:=⟨by decide⟩
instance:NZ 64:=⟨by decide⟩
section
variable {P:Program}{l:Cx}{bs:List Item}{fs:List (World→Prop)}{x y:Operand}{k:IntKind}{m n:Int}{ty t t':TypeId}
instance opMax [Ev l x (.int k m)][Ev l y (.int k n)]:dO P (.call { callee:=.builtin .max,args:=#[x,y],argTypes:=#[t,t'] }) ty l bs fs (.int k (max m n)):=⟨fun ρ w h _=>by
 simp[cu,execOp,resolve,invoke,builtin,Builtin.max_,Builtin.max2,h.ev (x:=x) (v:=.int k m),h.ev (x:=y) (v:=.int k n)];split <;> omega⟩
instance opMin [Ev l x (.int k m)][Ev l y (.int k n)]:dO P (.call { callee:=.builtin .min,args:=#[x,y],argTypes:=#[t,t'] }) ty l bs fs (.int k (min m n)):=⟨fun ρ w h _=>by
 simp[cu,execOp,resolve,invoke,builtin,Builtin.min_,Builtin.min2,h.ev (x:=x) (v:=.int k m),h.ev (x:=y) (v:=.int k n)];split <;> omega⟩
variable {p q:Bool}
theorem j7 {u:Value}{v:Value}{d:TypeDesc}[hu:dN P t d](w:World){b:Bool}(h:(match d,u,v with
  | .bool,.bool a,.bool b=>some (a == b)
  | .slice _,.slice none _ _,.slice b _ _=>some b.isNone
  | .slice _,.slice (some _) _ _,.slice none _ _=>some false
  | .map _ _,.map none,.map b=>some b.isNone
  | .map _ _,.map (some _),.map none=>some false
  | .func _ _ _,.nilFunc,.nilFunc=>some true
  | .func _ _ _,.nilFunc,.func _ _ _ | .func _ _ _,.func _ _ _,.nilFunc=>some false
  | .pointer _,.pointer none,.pointer b=>some b.isNone
  | .pointer _,.pointer (some _),.pointer none=>some false
  | _,_,_=>none)=some b):(Op.equal t u v).run P w=.ok b w:=by
 show (Op.equalIn (9999+1) t u v).run P w=.ok b w
 rw[Op.equalIn];simp only[Sem.run_bind,cp,Result.andThen_ok];split at h <;> first | (simp at h;done) | (simp only[Option.some.injEq]at h;subst h;rfl)
instance Xu [Ev l x (.bool p)][Ev l y (.bool q)][dN P t .bool]:dO P (.binOp .neq t x y t') ty l bs fs (.bool (!decide (p=q))):=⟨fun ρ w h _=>by
 simp[cu,execOp,h.ev (x:=x) (v:=.bool p),h.ev (x:=y) (v:=.bool q),eqGuard,binOp,Sem.run_bind,j7 (P:=P) (t:=t) (u:=.bool p) (v:=.bool q) (d:=.bool) (b:=decide (p=q)) w (by cases p <;> cases q <;> rfl)]⟩
variable {a:Option Addr}{j c:Nat}{e:TypeId}
instance VD [Ev l x (.slice a j c)][Ev l y (.slice none 0 0)][dN P t (.slice e)]:dO P (.binOp .eql t x y t') ty l bs fs (.bool a.isNone):=⟨fun ρ w h _=>by
 simp[cu,execOp,h.ev (x:=x) (v:=.slice a j c),h.ev (x:=y) (v:=.slice none 0 0),eqGuard,binOp,j7 (P:=P) (t:=t) (u:=.slice a j c) (v:=.slice none 0 0) (d:=.slice e) (b:=a.isNone) w (by cases a <;> rfl)]⟩
end
theorem Wd.swap {w0 M0 w w' fs}{pre post:List Item}{x y:Item}(h:Wd w0 M0 w (pre++x::post) fs)(Rx:x.own=true)(ha:aJ x.aj w w')(hy:y.holds w')
  (hf:∀ k,y.aj k→x.aj k∨w.heap.size≤k) (hlt:∀ k,y.aj k→k < w'.heap.size)
  (yE:∀ w1 w2:World,(∀ k,y.aj k→w2.heap[k]? = w1.heap[k]?)→y.holds w1→y.holds w2):Wd w0 M0 w' (pre++y::post) fs:=by
 have hm:x∈pre++x::post:=by simp
 have hap:=List.pairwise_append.1 h.apart;have s9:=List.pairwise_cons.1 hap.2.1;have hin:∀ it,it∈pre∨it∈post→it∈pre++x::post:=fun it hi=>by rcases hi with hi | hi <;> simp[hi]
 have hne:∀ it,it∈pre∨it∈post→∀ k,it.aj k→¬x.aj k:=by
  rintro it (hi | hi) k hk VE
  ·exact hap.2.2 it hi x (by simp) k hk VE
  ·exact s9.1 it hi k VE hk
 have Sk:∀ it,it∈pre∨it∈post→∀ k,it.aj k→¬y.aj k:=fun it hi k hk Sm=>by
  rcases hf k Sm with h1 | h1
  ·exact hne it hi k hk h1
  ·exact absurd (h.lt it (hin it hi) k hk) (by omega)
 have hkeep:∀ it,it∈pre∨it∈post→it.holds w':=fun it hi=>
  h.loc it (hin it hi) w w' (fun k hk=>ha.iB (h.lt it (hin it hi) k hk) (hne it hi k hk)) (h.held it (hin it hi))
 have mem':∀ it,it∈pre++y::post→it=y∨it∈pre∨it∈post:=fun it hi=>by
  rcases List.mem_append.1 hi with hi | hi
  ·exact .inr (.inl hi)
  ·rcases List.mem_cons.1 hi with rfl | hi
   ·exact .inl rfl
   ·exact .inr (.inr hi)
 refine ⟨?_,?_,?_,?_,?_,?_,?_⟩
 ·refine h.agree.trans' ha fun k hk hx=>?_
  rcases h.own _ hm Rx k hx with h1 | h1
  ·exact h1
  ·omega
 ·intro it hi
  rcases mem' it hi with rfl | hi
  ·exact hy
  ·exact hkeep it hi
 ·intro it hi k hk
  rcases mem' it hi with rfl | hi
  ·exact hlt k hk
  ·exact Nat.lt_of_lt_of_le (h.lt it (hin it hi) k hk) ha.size
 ·intro it hi ho k hk
  rcases mem' it hi with rfl | hi
  ·rcases hf k hk with h1 | h1
   ·exact h.own _ hm Rx k h1
   ·exact .inr (Nat.le_trans h.agree.size h1)
  ·exact h.own it (hin it hi) ho k hk
 ·refine List.pairwise_append.2 ⟨hap.1,List.pairwise_cons.2 ⟨fun it hi k hk hk'=>Sk it (.inr hi) k hk' hk,s9.2⟩,fun a ha b hb=>?_⟩
  rcases List.mem_cons.1 hb with rfl | hb
  ·exact fun k hk hk'=>Sk a (.inl ha) k hk hk'
  ·exact hap.2.2 a ha b (by simp[hb])
 ·intro Φ hΦ w'' mQ
  refine h.facts Φ hΦ w'' ⟨mQ.1.trans ha.1,mQ.2.1.trans ha.2.1,mQ.2.2.1.trans ha.2.2.1,Nat.le_trans ha.size mQ.size,fun k hk hn=>?_⟩;have hnx:¬x.aj k:=fun hx=>hn ⟨x,hm,hx⟩
  rw[mQ.iB (Nat.lt_of_lt_of_le hk ha.size) ?_,ha.iB hk hnx];rintro ⟨it,hi,hik⟩;rcases mem' it hi with rfl | hi
  ·rcases hf k hik with h1 | h1
   ·exact hnx h1
   ·omega
  ·exact hn ⟨it,hin it hi,hik⟩
 ·intro it hi
  rcases mem' it hi with rfl | hi
  ·exact yE
  ·exact h.loc it (hin it hi)
class dD (bs:List Item)(x y:Item)(bs':outParam (List Item)):Prop where
 ex:∃ pre post,bs=pre++x::post∧bs'=pre++y::post
instance ri0 {x y:Item}{bs:List Item} : dD (x::bs) x y (y::bs):=⟨[],bs,rfl,rfl⟩
instance (priority:=900) ri1 {x y u:Item}{bs bs':List Item}[h:dD bs x y bs']:dD (u::bs) x y (u::bs'):=⟨by
 obtain ⟨pre,post,e1,e2⟩:=h.ex;exact ⟨u::pre,post,by rw[e1];rfl,by rw[e2];rfl⟩⟩
theorem Wd.more {w0 M0 w bs fs}{y:Item}(h:Wd w0 M0 w bs fs)(hy:y.holds w)(hn:∀ k,y.aj k→w0.heap.size≤k)(hlt:∀ k,y.aj k→k < w.heap.size)(hap:∀ it∈bs,∀ k,y.aj k→¬it.aj k)
  (Au:∀ Φ∈fs,ag (dR (y::bs)) w Φ) (yE:∀ w1 w2:World,(∀ k,y.aj k→w2.heap[k]? = w1.heap[k]?)→y.holds w1→y.holds w2):Wd w0 M0 w (y::bs) fs:=by
 refine ⟨h.agree,?_,?_,?_,List.pairwise_cons.2 ⟨hap,h.apart⟩,Au,?_⟩;intro it hi;exact (List.mem_cons.1 hi).elim (fun q=>by subst q;exact hy) (fun hi=>h.held it hi);intro it hi;exact (List.mem_cons.1 hi).elim (fun q=>by subst q;exact hlt) (fun hi=>h.lt it hi);intro it hi;exact (List.mem_cons.1 hi).elim (fun q=>by subst q;exact fun _ k hk=>.inr (hn k hk)) (fun hi=>h.own it hi);intro it hi;exact (List.mem_cons.1 hi).elim (fun q=>by subst q;exact yE) (fun hi=>h.loc it hi)
class cX (α:Type) where
 sz:Nat
 cells:α→List Value
 len:∀ x,(cells x).length=sz
 one:∀ x,∀ u∈cells x,u.oneCell'=true
def aa {α:Type}[cX α](xs:List α):List Value:=xs.flatMap cX.cells
theorem HF {α:Type}[cX α]:aa (α:=α) []=[]:=rfl
theorem bf {α:Type}[cX α](x:α)(xs:List α):aa (x::xs)=cX.cells x++aa xs:=by simp[aa]
theorem aC {α:Type}[cX α](xs ys:List α):aa (xs++ys)=aa xs++aa ys:=by simp[aa]
theorem aU {α:Type}[cX α](xs:List α):(aa xs).length=xs.length*cX.sz α:=by
 induction xs with
 | nil=>simp[aa]
 | cons x xs ih=>rw[bf,List.length_append,ih,cX.len,jb,Nat.add_mul];omega
theorem hY {α:Type}[cX α](xs:List α):∀ u∈aa xs,u.oneCell'=true:=fun u hu=>by
 obtain ⟨x,_,hx⟩:=List.mem_flatMap.1 hu;exact cX.one x u hx
theorem eV {α:Type}[cX α]:∀ (xs:List α) (k:Nat) (x:α),xs[k]? = some x→∀ j,j < cX.sz α→(aa xs)[k*cX.sz α+j]? = (cX.cells x)[j]?
 | [],k,x,h,j,hj=>by simp at h
 | y::ys,0,x,h,j,hj=>by
  simp at h;subst h;rw[bf,List.getElem?_append_left (by rw[cX.len];omega)];simp
 | y::ys,k+1,x,h,j,hj=>by
  rw[bf,List.getElem?_append_right (by rw[cX.len,Nat.add_mul];omega),cX.len];have:=eV ys k x (by simpa using h) j hj;rw[←this]
  congr 1
  rw[Nat.add_mul];omega
theorem lU {α:Type}[cX α](xs:List α)(m:Nat):(aa xs).take (m*cX.sz α)=aa (xs.take m):=by
 by_cases hm:m≤xs.length
 conv=>lhs;rw[←List.take_append_drop m xs,aC]
 rw[List.take_append_of_le_length (by rw[aU];simp[hm]),List.take_of_length_le (by rw[aU];simp[Nat.min_eq_left hm])];rw[List.take_of_length_le (by rw[aU];exact Nat.mul_le_mul_right _ (by omega)),List.take_of_length_le (by omega)]
instance Sn:cX ak:=⟨5,ak.cells,fun _=>rfl,fun x u hu=>by
 simp only[ak.cells,List.mem_cons,List.not_mem_nil,or_false]at hu;rcases hu with rfl | rfl | rfl | rfl | rfl <;> rfl⟩
instance Xv:cX UInt8:=⟨1,fun b=>[.int .u8 b.toNat],fun _=>rfl,fun x u hu=>by obtain rfl:=List.mem_singleton.1 hu;rfl⟩
instance Xw:cX Int:=⟨1,fun b=>[.int .i64 b],fun _=>rfl,fun x u hu=>by obtain rfl:=List.mem_singleton.1 hu;rfl⟩
instance Xx:cX (List UInt8):=⟨1,fun s=>[str s],fun _=>rfl,fun x u hu=>by obtain rfl:=List.mem_singleton.1 hu;rfl⟩
def u8 (n:Int):UInt8:=UInt8.ofNat (n % 256).toNat
theorem cF (n:Int):IntKind.u8.wrap n=((u8 n).toNat:Int):=by
 unfold IntKind.wrap u8;simp only[IntKind.bits,IntKind.signed,Bool.false_and];rw[UInt8.toNat_ofNat'];simp;omega
class Dec {α:Type}[cX α](cs:List Value)(xs:outParam (List α)):Prop where eq:cs=aa xs
instance iq {t:ak} : Dec (α:=ak) (t.cells) [t]:=⟨by simp[aa];rfl⟩
instance o9 {n:Int} : Dec (α:=UInt8) [.int .u8 (IntKind.u8.wrap n)] [u8 n]:=⟨by simp[aa,cX.cells,cF]⟩
class NM (xs:List Value):Prop where all:∀ u∈xs,u.oneCell'=true
instance Xy {α:Type}[cX α]{xs:List α} : NM (aa xs):=⟨hY xs⟩
class eu {α:Type}(xs:List α)(n:Nat):Prop where eq:xs.length=n
instance lenn {α:Type}{xs:List α} : eu xs xs.length:=⟨rfl⟩
def row (e:TypeId)(sz:Nat)(p:Option Addr)(n c:Nat)(xs:List Value):Item where
 aj:=fun k=>∃ ad,p=some ad∧k=ad.block
 holds:=fun w=>w.ownsRow 0 e sz (.slice p n c) n xs
theorem gv (e:TypeId)(sz:Nat)(p:Option Addr)(n c:Nat)(xs:List Value)(w1 w2:World)(h:∀ k,(row e sz p n c xs).aj k→w2.heap[k]? = w1.heap[k]?)(h1:(row e sz p n c xs).holds w1):(row e sz p n c xs).holds w2:=by
 obtain ⟨h2,h3⟩:=h1;refine ⟨h2,?_⟩;rcases h3 with h3 | ⟨g,cap,cur,hv,hb,hg,r⟩
 exact .inl h3;refine .inr ⟨g,cap,cur,hv,hb,?_,r⟩;cases hv;rw[h g ⟨_,rfl,rfl⟩];exact hg
theorem bS {e:TypeId}{sz:Nat}{p:Option Addr}{n c:Nat}{xs:List Value}{w:World}(h:(row e sz p n c xs).holds w):∀ k,(row e sz p n c xs).aj k→k < w.heap.size:=by
 rintro k ⟨ad,rfl,rfl⟩;rcases h.2 with ⟨h3,_⟩ | ⟨g,cap,cur,hv,_,hg,_⟩
 cases h3;cases hv;exact (Array.getElem?_eq_some_iff.1 hg).1
class gE (bs:List Item)(p:Option Addr)(n:Nat)(e:outParam TypeId)(sz c:outParam Nat)(xs:outParam (List Value)):Prop where mem:row e sz p n c xs∈bs
instance Af {e:TypeId}{sz:Nat}{p:Option Addr}{n c:Nat}{xs:List Value}{bs:List Item} : gE (row e sz p n c xs::bs) p n e sz c xs:=⟨List.mem_cons_self ..⟩
instance (priority:=900) Av {e:TypeId}{sz:Nat}{p:Option Addr}{n c:Nat}{xs:List Value}{x:Item}{bs:List Item}[h:gE bs p n e sz c xs]:gE (x::bs) p n e sz c xs:=⟨List.mem_cons_of_mem _ h.mem⟩
section
variable {P:Program}{r:Option Nat}{ops:Array Oper}{Q:Exit→Act→World→Prop}{w0:World}{M0:Nat→Prop}{ds:List Deferred}{a:Act}{w:World}{l:List Value}{bs bs':List Item}{fs:List (World→Prop)}
 {d:Option Nat} {op:Op} {ty:TypeId} {pos:String} {af:Array Edge} {rest:List Oper} {v:Value} {e:TypeId} {sz:Nat} {p:Option Addr} {n c:Nat} {xs:List Value}
theorem St.row (S:St w0 M0 ds a w l bs fs)(p:Option Addr)(n:Nat){e:TypeId}{sz c:Nat}{xs:List Value}[h:gE bs p n e sz c xs]:w.ownsRow 0 e sz (.slice p n c) n xs:=S.wd.held _ h.mem
theorem St.cP (S:St w0 M0 ds a w l bs fs)(e:TypeId)(sz:Nat):St w0 M0 ds a w l (Wk.row e sz none 0 0 []::bs) fs:=by
 have hf:∀ k,¬(Wk.row e sz none 0 0 []).aj k:=fun k ⟨ad,h,_⟩=>by cases h
 refine ⟨S.slots,S.defers,S.wd.more (World.ownsRow_nil _ _ _ _) (fun k hk=>absurd hk (hf k)) (fun k hk=>absurd hk (hf k)) (fun _ _ k hk=>absurd hk (hf k)) (fun Φ hΦ=>?_) (gv _ _ _ _ _ _)⟩;refine (S.wd.facts Φ hΦ).less fun k _ ⟨it,hi,hk⟩=>?_
 rcases List.mem_cons.1 hi with rfl | hi
 exact absurd hk (hf k);exact ⟨it,hi,hk⟩
theorem uw {w:World}{t tx ty:TypeId}{z:Value}{dy m:Nat}{x:Value}{news:List Value}[ht:dN P t (.slice e)][o_:TI P e z sz dy](hz:z.cells.size=sz)(hown:w.ownsRow 0 e sz (.slice p n c) n xs)
  (hs:Src P sz tx x m news w) (h63:n+m≤maxLen) (hb:(n+m)*dy≤140737488355328) :
  ∃ p' c' w',(Builtin.append_ #[t,tx] ty #[.slice p n c,x]).run P w=.ok (.slice p' (n+m) c') w'∧w'.ownsRow 0 e sz (.slice p' (n+m) c') (n+m) (xs++news)∧
   aJ (fun k=>∃ ad,p=some ad∧k=ad.block) w w'∧(∀ ad,p'=some ad→(p=some ad)∨w.heap.size≤ad.block)∧(0 < m→p'.isSome):=by
 obtain ⟨i,hi,Lo,hsize,hby⟩:=o_.ex;subst hsize hby;have htu:=ht.eq;have hlen:(xs++news).length=(n+m)*i.size:=by rw[List.length_append,hown.1,hs.newsLen,Nat.add_mul]
 have hfit:∀ old,old < n+m→Builtin.nextslicecap (n+m) old*i.bytes≤281474976710656:=fun old ho=>growslice_fits ho hb
 have pU:∀ old,((xs++news).toArray++Builtin.zeroCells z.cells (grownCap w (n+m) old e - (n+m))).size=grownCap w (n+m) old e*i.size:=fun old=>by
  have:=grownCap_ge w (n+m) old e;rw[Array.size_append,size_zeroCells,hz,List.size_toArray,hlen,←Nat.add_mul]
  congr 1;omega
 have grown:∀ old,(w.drew.alloc (.cells ((xs++news).toArray++Builtin.zeroCells z.cells (grownCap w (n+m) old e - (n+m))) e)).ownsRow 0 e i.size (.slice (some ⟨w.heap.size,0,none⟩) (n+m) (grownCap w (n+m) old e)) (n+m) (xs++news):=fun old=>by
  refine ⟨hlen,.inr ⟨w.heap.size,_,_,rfl,Nat.zero_le _,heap_alloc_new w.drew _,grownCap_ge _ _ _ _,grownCap_le_maxLen w (n+m) old e h63,pU old,?_⟩⟩;rw[←hlen,Array.toList_append];exact List.take_left
 have iR:∀ o,aJ (fun k=>∃ ad,p=some ad∧k=ad.block) w (w.drew.alloc o):=fun o=>(aJ.drawn _ w _).trans (aJ.alloc _ w.drew o)
 rcases hown.2 with ⟨hv,rfl⟩ | ⟨g,cap,cur,hv,hbg,hg,hnc,nM,hcs,NN⟩
 cases hv;have hx:xs=[]:=List.eq_nil_of_length_eq_zero (by simpa using hown.1);subst hx
 by_cases hm:m=0
 subst hm;have hn:news=[]:=List.eq_nil_of_length_eq_zero (by simpa using hs.newsLen);subst hn;refine ⟨none,0,w,?_,World.ownsRow_nil w _ _ _,aJ.refl _ _,(fun _ h=>by cases h),(fun h=>absurd h (by omega))⟩;rcases hs.kind with ⟨e',hk⟩ | hk <;> simp[Builtin.append_,run_underlying htu,run_underlying hk,sizeOf,typeInfo,hi,hs.len,hs.cells]
 have hr:=run_append_grow_src (P:=P) w t tx ty e i z htu hi Lo none 0 0 [] (by simp[Builtin.firstCells]) x m news hs (by omega) (by simp only[maxLen]at h63;omega) (hfit 0 (by omega));exact ⟨_,_,_,hr,grown 0,iR _,fun ad h=>.inr (by cases h;exact Nat.le_refl _),fun _=>rfl⟩;cases hv
 by_cases hroom:n+m≤c
 have hb0:∀ j,j < news.length→n*i.size+j < cur.size:=fun j hj=>by
  have:=Nat.mul_le_mul_right i.size hroom;rw[hs.newsLen]at hj;rw[hcs];have e1:=Nat.add_mul n m i.size;omega
 have hcell:∀ j,w.cell? ⟨g,j,none⟩=cur[j]?:=fun j=>cell_of_row w g j cur e (0,0) hg
 have hr:=run_append_room_src (P:=P) w t tx ty e i htu hi g 0 n c x m news hs hroom
  (fun j hj=>by simp only[Nat.zero_add];rw[hcell];simpa using hb0 j hj)
  (fun j hj=>by simp[World.frozen?,hg])
 simp only[Nat.zero_add]at hr;have lV:n*i.size+news.length≤cur.size:=by
  have:=Nat.mul_le_mul_right i.size hroom;rw[hs.newsLen,hcs,←Nat.add_mul];exact this
 have hsc:w.setCells g (n*i.size) news=w.setRow g (cur.toList.take (n*i.size)++news++cur.toList.drop (n*i.size+news.length)).toArray:=by
  have h1:=run_storeCells_cells (P:=P) g (n*i.size) news 0 w (fun j hj=>by rw[hcell];simpa using hb0 j hj) (fun j hj=>by simp[World.frozen?,hg]) hs.one;have h2:=run_storeCells_at (P:=P) g (n*i.size) e news 0 cur w hg (by simpa using lV) hs.one;rw[h1]at h2;simp only[Nat.add_zero]at h2
  injection h2
 rw[hsc]at hr;refine ⟨_,_,_,hr,⟨hlen,.inr ⟨g,c,_,rfl,Nat.zero_le _,setRow_heap w g cur _ e _ hg,hroom,nM,?_,?_⟩⟩,aJ.setRow w g _ ⟨_,rfl,rfl⟩,fun ad h=>.inl h,fun _=>rfl⟩;simp only[List.size_toArray,List.length_append,List.length_take,List.length_drop,Array.length_toList];omega;rw[NN,←hlen];exact List.take_left;have hr:=run_append_grow_src (P:=P) w t tx ty e i z htu hi Lo (some ⟨g,0,none⟩) n c xs (by
   have:=run_firstCells_some (P:=P) w.drew i.size n ⟨g,0,none⟩ n c xs hown.1 (fun j u hu=>by simpa using hown.cells (g:=g) rfl j u hu);simpa using this) x m news hs (by omega) (by simp only[maxLen]at h63;omega) (hfit c (by omega))
 exact ⟨_,_,_,hr,grown c,iR _,fun ad h=>.inr (by cases h;exact Nat.le_refl _),fun _=>rfl⟩
end
class yF (P:Program)(tx:TypeId)(x:Value)(bs:List Item)(fs:List (World→Prop))(sz:Nat)(m:outParam Nat)(news:outParam (List Value)):Prop where
 src:∀ w,Mem w bs fs→Src P sz tx x m news w
instance Xz {P:Program}{tx:TypeId}{s:List UInt8}{bs:List Item}{fs:List (World→Prop)}[h:dN P tx .string]:yF P tx (str s) bs fs 1 s.length (aa s):=⟨fun w _=>by
 have e:=Src.ofString (P:=P) w (tx:=tx) h.eq ⟨s.toArray⟩;have h1:byteCells ⟨s.toArray⟩=aa s:=by
  clear e
  show s.map _=s.flatMap _
  induction s with
  | nil=>rfl
  | cons x xs ih=>rw[List.map_cons,List.flatMap_cons,ih];rfl
 rw[h1]at e;exact e⟩
theorem CH {t:ak} : aa [t]=t.cells:=by simp[aa];rfl
class TakeC (cs:List Value)(n:Nat)(vs:outParam (List Value)):Prop where eq:cs.take n=vs∧vs.length=n
instance XA {P:Program}{tx e:TypeId}{b m c sz n:Nat}{t:TypeId}{cs:List Value}{bs:List Item}{fs:List (World→Prop)}[h:dN P tx (.slice e)][hb:e9 bs b t cs][hm:uq m sz n][hl:gW cs n][hf:Flat cs] :
  yF P tx (.slice (some ⟨b,0,none⟩) m c) bs fs sz m cs:=⟨fun w mm=>Src.ofSlice w h.eq _ _ _ _ (by rw[hl.eq,hm.eq]) (fun j u hj=>by
   have hj':j < cs.length:=(List.getElem?_eq_some_iff.1 hj).1;have e:(⟨b,0,none⟩:Addr).add j=⟨b,j,none⟩:=by unfold Addr.add;split <;> simp_all
   rw[e,cell_of_row w b j cs.toArray t (0,0) mm.box];simpa using hj) hf.all⟩
theorem CI {w:World}{p:Option Addr}{xs:List ak}(h:iS w p 0 xs){ad:Addr}(hp:p=some ad):∀ j u,(aa xs)[j]? = some u→w.cell? (ad.add j)=some u:=by
 intro j u hj;have hlt:j < xs.length*5:=by
  have:=(List.getElem?_eq_some_iff.1 hj).1;rw[aU]at this;exact this
 have hk:j / 5 < xs.length:=by omega
 obtain ⟨Ee,hp',hc⟩:=(h.get (jn hk)).1;rw[hp]at hp';cases hp';have:=eV xs (j / 5) _ (jn hk) (j % 5) (Nat.mod_lt _ (by decide));have e:j / 5*cX.sz ak+j % 5=j:=by show j / 5*5+j % 5=j;omega
 rw[e,hj]at this;have:=hc (j % 5) u this.symm;rw[show (0+j / 5)*5+j % 5=j from by omega]at this;exact this
instance (priority:=800) srcLs {P:Program}{tx e:TypeId}{p:Option Addr}{m c:Nat}{xs:List ak}{bs:List Item}{fs:List (World→Prop)}[h:dN P tx (.slice e)][hl:uv fs p xs][hn:eu xs m] :
  yF P tx (.slice p m c) bs fs 5 m (aa xs):=⟨fun w mm=>by
 have hs:=(hl.of _ _ mm.facts).now;have hm:=hn.eq;subst hm;cases hp:p with
 | none=>
  have:xs=[]:=by
   cases xs with
   | nil=>rfl
   | cons x xs=>obtain ⟨⟨ad,h0,_⟩,_⟩:=hs;rw[hp]at h0;cases h0
  subst this;exact Src.ofNil w h.eq c
 | some ad=>exact Src.ofSlice w h.eq _ _ _ _ (by rw[aU];rfl) (CI hs hp) (hY xs)⟩
instance (priority:=850) XB {P:Program}{tx e e':TypeId}{p:Option Addr}{m c sz:Nat}{xs:List Value}{bs:List Item}{fs:List (World→Prop)}[h:dN P tx (.slice e)][hr:gE bs p m e' sz c xs][hf:NM xs] :
  yF P tx (.slice p m c) bs fs sz m xs:=⟨fun w mm=>by
 have hr':w.ownsRow 0 e' sz (.slice p m c) m xs:=mm.held _ hr.mem;rcases hr'.2 with ⟨hv,rfl⟩ | ⟨g,cap,cur,hv,_,hg,hnc,_,hcs,NN⟩
 cases hv;have hx:xs=[]:=List.eq_nil_of_length_eq_zero (by simpa using hr'.1);subst hx;exact Src.ofNil w h.eq _;cases hv;exact Src.ofSlice w h.eq _ _ _ _ hr'.1 (hr'.cells (g:=g) rfl) hf.all⟩
section
variable {P:Program}{r:Option Nat}{ops:Array Oper}{Q:Exit→Act→World→Prop}{w0:World}{M0:Nat→Prop}{ds:List Deferred}{a:Act}{w:World}{l:List Value}{bs:List Item}{fs:List (World→Prop)}
 {d:Option Nat} {op:Op} {ty:TypeId} {pos:String} {af:Array Edge} {rest:List Oper} {v:Value} {e:TypeId} {sz:Nat} {p:Option Addr} {n c:Nat} {xs:List Value}
theorem gA {x y:Operand}{t tx:TypeId}{z:Value}{dy m:Nat}{xv:Value}{news:List Value}{l':Option Addr→Nat→List Value}{bs':Option Addr→Nat→List Item}(S:St w0 M0 ds a w l bs fs)
  [Ev ⟨[],l⟩ x (.slice p n c)] [Ev ⟨[],l⟩ y xv] [ht:dN P t (.slice e)] [o_:TI P e z sz dy] {zc:List Value} [So:Cells z zc] [hzl:gW zc sz] [hr:gE bs p n e sz c xs] [hs:yF P tx xv bs fs sz m news]
  [hp:∀ p' c',cZ l d (.slice p' (n+m) c') (l' p' c')] [k4:∀ p' c',dD bs (row e sz p n c xs) (row e sz p' (n+m) c' (xs++news)) (bs' p' c')]
  (h63:n+m≤maxLen) (hb:(n+m)*dy≤140737488355328)
  (K:∀ p' c' a w,(0 < m→∃ g,p'=some ⟨g,0,none⟩)→St w0 M0 ds a w (l' p' c') (bs' p' c') fs→WL P r ops Q rest a w) :
  WL P r ops Q (⟨d,.call { callee:=.builtin .append,args:=#[x,y],argTypes:=#[t,tx] },ty,pos,af,none⟩::rest) a w:=by
 refine bR rfl ?_;rw[bQ rfl];obtain ⟨p',c',w',hrun,hown,iR,hnew,hsome⟩:=uw (P:=P) (w:=w) (t:=t) (tx:=tx) (ty:=ty) (z:=z) (dy:=dy) (m:=m) (x:=xv) (news:=news) (by rw[←Array.length_toList,So.eq,hzl.eq]) (S.row p n) (hs.src w S.wd.mem) h63 hb;have e1:(cu a.eval (.call { callee:=.builtin .append,args:=#[x,y],argTypes:=#[t,tx] }) ty).run P w=.ok (.value (.slice p' (n+m) c')) w':=by
  simp[cu,execOp,resolve,invoke,builtin,S.fr.ev (x:=x) (v:=.slice p n c),S.fr.ev (x:=y) (v:=xv),hrun]
 simp only[e1,Oper.uponIn];have:=hp p' c';have S':=S.put (d:=d) (v:=.slice p' (n+m) c');obtain ⟨pre,post,q1,q2⟩:=(k4 p' c').ex;have hO:=S'.wd;rw[q1]at hO;refine K p' c' _ w' (fun hm=>?_) ⟨S'.slots,S'.defers,?_⟩
 ·rcases hown.2 with ⟨hv,h0⟩ | ⟨g,cap,cur,hv,_⟩
  ·omega
  ·cases hv;exact ⟨g,rfl⟩
 ·rw[q2]
  refine hO.swap rfl iR hown (fun k ⟨ad,h1,h2⟩=>?_) (bS hown) (gv _ _ _ _ _ _);rcases hnew ad h1 with h3 | h3
  ·exact .inl ⟨ad,h3,h2⟩
  ·exact .inr (h2▸h3)
theorem St.bT {bs':List Item}(S:St w0 M0 ds a w l bs fs)(b:Nat)(sz m:Nat){t:TypeId}{cs:List Value}[e9 bs b t cs][hr:dD bs (Wk.box b t cs) (Wk.row t sz (some ⟨b,0,none⟩) m m cs) bs'](hl:cs.length=m*sz)(hm:m≤maxLen):St w0 M0 ds a w l bs' fs:=by
 obtain ⟨pre,post,q1,q2⟩:=hr.ex;have hO:=S.wd;have hb:=S.box b;rw[q1]at hO;refine ⟨S.slots,S.defers,?_⟩;have hown:(Wk.row t sz (some ⟨b,0,none⟩) m m cs).holds w:=⟨hl,.inr ⟨b,m,_,rfl,Nat.zero_le _,hb,Nat.le_refl _,hm,by simpa using hl,by simp[←hl]⟩⟩;rw[q2];exact hO.swap rfl (aJ.refl _ _) hown (fun k ⟨ad,h1,h2⟩=>.inl (by cases h1;exact h2)) (bS hown) (gv _ _ _ _ _ _)
theorem Wd.HG {w':World}(hold:Wd w0 M0 w bs fs)(hw:yB w w'){p:Option Addr}{n c:Nat}{e:TypeId}{sz:Nat}{xs:List Value}(h:w'.ownsRow 0 e sz (.slice p n c) n xs)(hn:∀ ad,p=some ad→w.heap.size≤ad.block) :
  Wd w0 M0 w' (Wk.row e sz p n c xs::bs) fs:=by
 have nt:∀ k,(Wk.row e sz p n c xs).aj k→w.heap.size≤k:=fun k ⟨ad,h1,h2⟩=>h2▸hn ad h1
 refine (hold.step hw).more h (fun k hk=>Nat.le_trans hold.agree.size (nt k hk)) (bS h) (fun it hi k hk hk'=>absurd (hold.lt it hi k hk') (by have:=nt k hk;omega)) (fun Φ hΦ w'' mQ=>?_) (gv _ _ _ _ _ _);refine hold.facts Φ hΦ w'' ((hw.mono (fun _ _ h=>h.elim)).trans' mQ fun i hi ⟨it,hm,hk⟩=>?_);rcases List.mem_cons.1 hm with rfl | hm
 exact absurd (nt i hk) (by omega);exact ⟨it,hm,hk⟩
variable {f:Nat}{x:Operand}{ys:List Operand}{args:List Value}{ts:Array TypeId}
theorem jU {l':Value→List Value}[aF P f][fP ⟨[],l⟩ x ys f args][hp:∀ v,cZ l d v (l' v)](S:St w0 M0 ds a w l bs fs){R:Value→World→Prop}(hc:aT P f args w (fun _=>False) R)
  (K:∀ v a w',R v w'→(∀ {p:Option Addr} {n c:Nat} {e:TypeId} {sz:Nat} {xs:List Value},w'.ownsRow 0 e sz (.slice p n c) n xs→(∀ ad,p=some ad→w.heap.size≤ad.block)→St w0 M0 ds a w' (l' v) (Wk.row e sz p n c xs::bs) fs)→St w0 M0 ds a w' (l' v) bs fs→WL P r ops Q rest a w') :
  WL P r ops Q (⟨d,.call { callee:=.value x,args:=ys.toArray,argTypes:=ts },ty,pos,af,none⟩::rest) a w:=by
 refine pS S hc ?_;rintro e w' ⟨v,rfl,ha,hR⟩;have:=hp v;have S':=S.put (d:=d) (v:=v);exact ⟨v,rfl,K v _ w' hR (fun h hn=>⟨S'.slots,S'.defers,S'.wd.HG ha h hn⟩) ⟨S'.slots,S'.defers,S'.wd.step ha⟩⟩
theorem sri {l':Value→List Value}(it:Item)[aF P f][fP ⟨[],l⟩ x ys f args][hp:∀ v,cZ l d v (l' v)](S:St w0 M0 ds a w l bs fs){R:Value→World→Prop}(hc:aT P f args w it.aj R)(ho:it.own=true)
  (K:∀ v a w',R v w'→(∀ (y:Item) (bs':List Item),dD bs it y bs'→y.holds w'→(∀ k,y.aj k→it.aj k∨w.heap.size≤k)→(∀ k,y.aj k→k < w'.heap.size)→(∀ w1 w2:World,(∀ k,y.aj k→w2.heap[k]? = w1.heap[k]?)→y.holds w1→y.holds w2)→St w0 M0 ds a w' (l' v) bs' fs)→WL P r ops Q rest a w') :
  WL P r ops Q (⟨d,.call { callee:=.value x,args:=ys.toArray,argTypes:=ts },ty,pos,af,none⟩::rest) a w:=by
 refine pS S hc ?_;rintro e w' ⟨v,rfl,ha,hR⟩;have:=hp v;have S':=S.put (d:=d) (v:=v);refine ⟨v,rfl,K v _ w' hR fun y bs' hr hy hf hlt yE=>⟨S'.slots,S'.defers,?_⟩⟩;obtain ⟨pre,post,q1,q2⟩:=hr.ex;have hO:=S'.wd;rw[q1]at hO;rw[q2];exact hO.swap ho ha hy hf hlt yE
theorem srg {l':Value→List Value}(p:Option Addr)(n:Nat){e:TypeId}{sz c:Nat}{xs:List Value}[gE bs p n e sz c xs][aF P f][fP ⟨[],l⟩ x ys f args][hp:∀ v,cZ l d v (l' v)](S:St w0 M0 ds a w l bs fs){R:Value→World→Prop}(hc:aT P f args w (fun k=>∃ ad,p=some ad∧k=ad.block) R)
  (K:∀ v a w',R v w'→(∀ {p':Option Addr} {n' c':Nat} {xs':List Value} (bs':List Item) [dD bs (Wk.row e sz p n c xs) (Wk.row e sz p' n' c' xs') bs'],w'.ownsRow 0 e sz (.slice p' n' c') n' xs'→(∀ ad,p'=some ad→(∃ Ee,p=some Ee∧ad.block=Ee.block)∨w.heap.size≤ad.block)→St w0 M0 ds a w' (l' v) bs' fs)→WL P r ops Q rest a w') :
  WL P r ops Q (⟨d,.call { callee:=.value x,args:=ys.toArray,argTypes:=ts },ty,pos,af,none⟩::rest) a w:=
 sri (Wk.row e sz p n c xs) S hc rfl fun v a w' hR hS=>K v a w' hR fun bs' hr h hf=>hS _ bs' hr h (fun _k ⟨ad,h1,h2⟩=>(hf ad h1).imp (fun⟨Ee,h3,h4⟩=>⟨Ee,h3,h2.trans h4⟩) (fun h3=>h2▸h3)) (bS h) (gv _ _ _ _ _ _)
theorem Wd.Lp {w:World}{p:Option Addr}{n c:Nat}{e:TypeId}{sz:Nat}{xs:List Value}{fs:List (World→Prop)}(h:w.ownsRow 0 e sz (.slice p n c) n xs)(hf:∀ Φ∈fs,ag (fun k=>∃ ad,p=some ad∧k=ad.block) w Φ) :
  Wd w (fun k=>∃ ad,p=some ad∧k=ad.block) w [Wk.row e sz p n c xs] fs:=by
 refine ⟨aJ.refl _ _,?_,?_,?_,by simp,?_,?_⟩;intro it hi;obtain rfl:=List.mem_singleton.1 hi;exact h;intro it hi;obtain rfl:=List.mem_singleton.1 hi;exact bS h;intro it hi _ k hk;obtain rfl:=List.mem_singleton.1 hi;exact .inl hk;intro Φ hΦ;refine (hf Φ hΦ).less fun k _ hk=>?_
 obtain ⟨it,hi,hk⟩:=hk;obtain rfl:=List.mem_singleton.1 hi;exact hk;intro it hi;obtain rfl:=List.mem_singleton.1 hi;exact gv _ _ _ _ _ _
theorem St.cQ (S:St w0 M0 ds a w l bs fs)(p:Option Addr)(n:Nat){e:TypeId}{sz c:Nat}{xs:List Value}[h:gE bs p n e sz c xs]:∀ ad,p=some ad→M0 ad.block∨w0.heap.size≤ad.block:=fun ad hp=>S.wd.own _ h.mem rfl _ ⟨ad,hp,rfl⟩
end
def dx (p:Option Addr)(o:Nat):Addr:=(p.getD ⟨0,0,none⟩).add o
theorem eB {w:World}{e:TypeId}{sz:Nat}{p:Option Addr}{n c:Nat}{xs:List Value}(h:w.ownsRow 0 e sz (.slice p n c) n xs)(hn:0 < n):∃ g cur,p=some ⟨g,0,none⟩∧w.heap[g]? = some (.cells cur e (0,0))∧n≤c∧cur.size=c*sz∧cur.toList.take (n*sz)=xs∧c≤maxLen:=by
 rcases h.2 with ⟨_,h0⟩ | ⟨g,cap,cur,hv,_,hg,hnc,nM,hcs,ht⟩
 omega;cases hv;exact ⟨g,cur,rfl,hg,hnc,hcs,ht,nM⟩
theorem add_lit (g j:Nat):(⟨g,0,none⟩:Addr).add j=⟨g,j,none⟩:=by unfold Addr.add;split <;> simp_all
theorem nN {w:World}{e:TypeId}{sz:Nat}{p:Option Addr}{n c:Nat}{xs:List Value}(h:w.ownsRow 0 e sz (.slice p n c) n xs){o j:Nat}{u:Value}(hj:xs[o+j]? = some u):w.cell? ((dx p o).add j)=some u:=by
  have hlt:o+j < n*sz:=by rw[←h.1];exact (List.getElem?_eq_some_iff.1 hj).1
  have hn : 0 < n := by rcases Nat.eq_zero_or_pos n with h0 | h0; · subst h0; simp at hlt
                        · exact h0
  obtain ⟨g,cur,rfl,hg,_,_,ht,_⟩:=eB h hn;simp only[dx,Option.getD_some];rw[add_add,add_lit,cell_of_row w g (o+j) cur e (0,0) hg,←Array.getElem?_toList];rw[←ht,List.getElem?_take]at hj;rw[if_pos hlt]at hj;exact hj
theorem take_set (l vs:List Value)(N o:Nat)(h:o+vs.length≤N)(hN:N≤l.length):(l.take o++vs++l.drop (o+vs.length)).take N=(l.take N).take o++vs++(l.take N).drop (o+vs.length):=by
 have e1:(l.take o++vs).length=o+vs.length:=by simp;omega
 rw[List.take_append,e1,List.take_of_length_le (by omega),List.take_take,Nat.min_eq_left (by omega),List.drop_take]
section
variable {P:Program}{r:Option Nat}{ops:Array Oper}{Q:Exit→Act→World→Prop}{w0:World}{M0:Nat→Prop}{ds:List Deferred}{a:Act}{w:World}{l l':List Value}{bs bs':List Item}{fs:List (World→Prop)}
 {d:Option Nat} {op:Op} {t ty:TypeId} {pos:String} {af:Array Edge} {rest:List Oper} {v z:Value} {e:TypeId} {sz dy:Nat} {p:Option Addr} {n c k:Nat} {xs:List Value} {x y:Operand} {kk:IntKind} {m:Int} {lc:Cx}
instance (priority:=950) XC [Ev lc x (.slice p n c)][Ev lc y (.int kk m)][dN P t (.slice e)][TI P e z sz dy][hm:ey m k]{e':TypeId}{sz':Nat}[hr:gE bs p n e' sz' c xs][hk:cx k n]{o:Nat}[hmul:uq k sz o] :
  dO P (.indexAddr t x y) ty lc bs fs (.pointer (some (dx p o))):=⟨fun ρ w h mm=>by
 have hrow:w.ownsRow 0 e' sz' (.slice p n c) n xs:=mm.held _ hr.mem;have hlt:=hk.lt;obtain ⟨g,cur,rfl,_⟩:=eB hrow (by omega);have h2:=hm.eq;subst h2;simp[cu,execOp,h.ev (x:=x) (v:=.slice (some ⟨g,0,none⟩) n c),h.ev (x:=y) (v:=.int kk (k:Int))];simp[gD (P:=P) (t:=t) (e:=e) (z:=z) (sz:=sz) (dy:=dy) (Int.natCast_nonneg k) (Int.ofNat_lt.2 hlt),dx,hmul.eq]⟩
theorem Lq {o:Nat}(vs:List Value)(S:St w0 M0 ds a w l bs fs)[Ev ⟨[],l⟩ x (.pointer (some (dx p o)))][ha:eU P t true][TI P t z sz dy][hl:gW vs sz][hp:cZ l d (.agg ⟨vs⟩) l']
  (n:Nat) {e':TypeId} {sz' c:Nat} {xs:List Value} [hr:gE bs p n e' sz' c xs] (h:∀ j v,vs[j]? = some v→xs[o+j]? = some v) (K:∀ a,St w0 M0 ds a w l' bs fs→WL P r ops Q rest a w):WL P r ops Q (⟨d,.load t x,ty,pos,af,none⟩::rest) a w:=
 Sh vs S (fun j v hj=>nN (S.row p n) (h j v hj)) K
theorem OS {o:Nat}(v:Value)(S:St w0 M0 ds a w l bs fs)[Ev ⟨[],l⟩ x (.pointer (some (dx p o)))][ha:eU P t false][hp:cZ l d v l']
  (n:Nat) {e':TypeId} {sz' c:Nat} {xs:List Value} [hr:gE bs p n e' sz' c xs] (h:xs[o]? = some v) (K:∀ a,St w0 M0 ds a w l' bs fs→WL P r ops Q rest a w):WL P r ops Q (⟨d,.load t x,ty,pos,af,none⟩::rest) a w:=
 Vv v S (by have:=nN (S.row p n) (o:=o) (j:=0) (by simpa using h);simpa [Addr.add] using this) K
theorem St.lg {bs':List Item}{w':World}{x y:Item}(S:St w0 M0 ds a w l bs fs){a':Act}{l':List Value}(hs:a'.tmps=l'.toArray)(hd:a'.defers=ds)[hr:dD bs x y bs'](Rx:x.own=true)(ha:aJ x.aj w w')(hy:y.holds w')
  (hf:∀ k,y.aj k→x.aj k∨w.heap.size≤k) (hlt:∀ k,y.aj k→k < w'.heap.size) (yE:∀ w1 w2:World,(∀ k,y.aj k→w2.heap[k]? = w1.heap[k]?)→y.holds w1→y.holds w2):St w0 M0 ds a' w' l' bs' fs:=by
 obtain ⟨pre,post,q1,q2⟩:=hr.ex;have hO:=S.wd;rw[q1]at hO;exact ⟨hs,hd,by rw[q2];exact hO.swap Rx ha hy hf hlt yE⟩
theorem tL {w:World}(h:w.ownsRow 0 e sz (.slice p n c) n xs){g o:Nat}{vs:List Value}(hp:p=some ⟨g,0,none⟩)(ho:o+vs.length≤n*sz)(hv:∀ u∈vs,u.oneCell'=true) :
  ∃ w',(storeCells ⟨g,o,none⟩ vs).run P w=.ok () w'∧aJ (fun k=>∃ ad,p=some ad∧k=ad.block) w w'∧w'.ownsRow 0 e sz (.slice p n c) n (xs.take o++vs++xs.drop (o+vs.length)):=by
 subst hp;rcases h.2 with ⟨hv,_⟩ | ⟨g',cap,cur,Hl,hb,hg,hnc,nM,hcs,ht⟩
 cases hv;cases Hl;have hle:o+vs.length≤cur.size:=by
  have:=Nat.mul_le_mul_right sz hnc;rw[hcs];omega
 have hrun:=run_storeCells_at (P:=P) g o e vs 0 cur w hg (by simpa using hle) hv;simp only[Nat.add_zero]at hrun;refine ⟨_,hrun,aJ.setRow w g _ ⟨_,rfl,rfl⟩,?_,.inr ⟨g,c,_,rfl,hb,setRow_heap w g cur _ e _ hg,hnc,nM,?_,?_⟩⟩;have h1:=h.1;simp only[List.length_append,List.length_take,List.length_drop];omega;simp only[List.size_toArray,List.length_append,List.length_take,List.length_drop,Array.length_toList];omega;have pg:n*sz≤cur.toList.length:=by rw[Array.length_toList,hcs];exact Nat.mul_le_mul_right sz hnc
 rw[←ht];exact take_set _ _ _ _ ho pg
theorem CJ {o OT:Nat}{vs:List Value}(S:St w0 M0 ds a w l bs fs)[Ev ⟨[],l⟩ x (.pointer (some (dx p o)))][Ev ⟨[],l⟩ y v][hc:Cells v vs][TI P t z OT dy][hl:gW vs OT][hf:Flat vs]
  (n:Nat) {e:TypeId} {sz c:Nat} {xs:List Value} [hr:gE bs p n e sz c xs] [k4:dD bs (row e sz p n c xs) (row e sz p n c (xs.take o++vs++xs.drop (o+vs.length))) bs'] [hp:cZ l d undef l'] (hn:0 < n) (ho:o+OT≤n*sz)
  (K:∀ a w,St w0 M0 ds a w l' bs' fs→WL P r ops Q rest a w):WL P r ops Q (⟨d,.store t x y,ty,pos,af,none⟩::rest) a w:=by
 refine bR rfl ?_;rw[bQ rfl];have hrow:=S.row p n;obtain ⟨g,cur,Ef,_⟩:=eB hrow hn;obtain ⟨w',hrun,iR,hown⟩:=tL (P:=P) hrow (vs:=vs) Ef (by rw[hl.eq];exact ho) hf.all;have hcs:v.cells=vs.toArray:=by rw[←hc.eq]
 have e1:(cu a.eval (.store t x y) ty).run P w=.ok .skip w':=by
  have:dx p o=⟨g,o,none⟩:=by rw[Ef];simp[dx,add_lit]
  have hx:=S.fr.ev (x:=x) (v:=.pointer (some (dx p o)));rw[this]at hx;simp[cu,execOp,Instr.storeAt,hx,S.fr.ev (x:=y) (v:=v),Instr.sureAddr,storeVar,cv,Sem.run_bind,hcs,hl.eq,hrun]
 simp only[e1,Oper.uponIn];have S':=S.put (d:=d) (v:=undef) (l':=l');exact K _ _ (S.lg (x:=row e sz p n c xs) (y:=row e sz p n c (xs.take o++vs++xs.drop (o+vs.length))) S'.slots S'.defers rfl iR hown (fun k h=>.inl h) (bS hown) (gv _ _ _ _ _ _))
end
section
variable {P:Program}{r:Option Nat}{ops:Array Oper}{Q:Exit→Act→World→Prop}{w0:World}{M0:Nat→Prop}{ds:List Deferred}{a:Act}{w:World}{l l':List Value}{bs bs':List Item}{fs:List (World→Prop)}
 {d:Option Nat} {op:Op} {t ty:TypeId} {pos:String} {af:Array Edge} {rest:List Oper} {v z:Value} {e:TypeId} {sz dy:Nat} {p:Option Addr} {n c k:Nat} {xs:List Value} {x y:Operand} {kk kl:IntKind} {m:Int} {lc:Cx}
theorem NO {mi mj:Int}{l':Nat→List Value}{zc:List Value}(n:Nat)(S:St w0 M0 ds a w l bs fs)[Ev ⟨[],l⟩ x (.int kk mi)][Ev ⟨[],l⟩ y (.int kl mj)][ht:dN P t (.slice e)][o_:TI P e z sz dy][So:Cells z zc][hzl:gW zc sz][hne:Vy zc]
  [hp:∀ b,cZ l d (.slice (some ⟨b,0,none⟩) n n) (l' b)] (hi:mi=n) (hj:mj=n) (hb:dy*n≤281474976710656) (hm:n≤maxLen)
  (K:∀ b a w,St w0 M0 ds a w (l' b) (row e sz (some ⟨b,0,none⟩) n n ((List.replicate n zc).flatten)::bs) fs→WL P r ops Q rest a w):WL P r ops Q (⟨d,.makeSlice t x y,ty,pos,af,none⟩::rest) a w:=by
 refine bR rfl ?_;rw[bQ rfl];subst hi hj;obtain ⟨i,hi,hz,hs,hby⟩:=o_.ex;have Lo:z.cells=zc.toArray:=by rw[←So.eq]
 have hlen:zc.length=sz:=hzl.eq;have hb':(i.bytes:Int)*(n:Int)≤281474976710656:=by
  have h:((dy*n:Nat):Int)≤281474976710656:=by omega
  rw[hby];rwa [Int.natCast_mul]at h
 have hr:=run_make (P:=P) w t e i z ht.eq hi hz kk kl n n (by omega) (Int.le_refl _) hb' (by simp only[maxLen]at hm;omega);have pU:madeCells z.cells ((n:Int).toNat*i.size)=((List.replicate n zc).flatten).toArray:=by
  rw[←rS n zc hne.ne,Lo,hs,←hlen];rfl
 rw[pU]at hr;simp only[Int.toNat_natCast]at hr;have e1:(cu a.eval (.makeSlice t x y) ty).run P w=.ok (.value (.slice (some ⟨w.heap.size,0,none⟩) n n)) (w.alloc (.cells ((List.replicate n zc).flatten).toArray e)):=by
  simp[cu,execOp,S.fr.ev (x:=x) (v:=.int kk (n:Int)),S.fr.ev (x:=y) (v:=.int kl (n:Int)),hr]
 simp only[e1,Oper.uponIn];have:=hp w.heap.size;have S':=S.put (d:=d) (v:=.slice (some ⟨w.heap.size,0,none⟩) n n);have S2:St w0 M0 ds _ _ (l' w.heap.size) (box w.heap.size e ((List.replicate n zc).flatten)::bs) fs:=⟨S'.slots,S'.defers,S'.wd.alloc e ((List.replicate n zc).flatten)⟩;exact K _ _ _ (S2.bT w.heap.size sz n (by simp[hlen]) hm)
theorem scp {tx:TypeId}{m:Nat}{xv:Value}{news:List Value}(S:St w0 M0 ds a w l bs fs)[Ev ⟨[],l⟩ x (.slice p n c)][Ev ⟨[],l⟩ y xv][ht:dN P t (.slice e)][o_:TI P e z sz dy][hr:gE bs p n e sz c xs][hs:yF P tx xv bs fs sz m news]
  [k4:dD bs (row e sz p n c xs) (row e sz p n c (news++xs.drop (m*sz))) bs'] [hp:cZ l d (.int .i64 m) l'] (hle:m≤n) (K:∀ a w,St w0 M0 ds a w l' bs' fs→WL P r ops Q rest a w) :
  WL P r ops Q (⟨d,.call { callee:=.builtin .copy,args:=#[x,y],argTypes:=#[t,tx] },ty,pos,af,none⟩::rest) a w:=by
 refine bR rfl ?_;rw[bQ rfl];have hsrc:=hs.src w S.wd.mem;have hrow:=S.row p n;have S':=S.put (d:=d) (v:=.int .i64 (m:Int)) (l':=l');have hmin:Nat.min m n=m:=Nat.min_eq_left hle;have hlen:=hsrc.newsLen
 suffices h:∃ w',(Builtin.copy_ #[t,tx] ty #[.slice p n c,xv]).run P w=.ok (.int .i64 m) w'∧aJ (fun k=>∃ ad,p=some ad∧k=ad.block) w w'∧w'.ownsRow 0 e sz (.slice p n c) n (news++xs.drop (m*sz)) by
  obtain ⟨w',hrun,iR,hown⟩:=h;have e1:(cu a.eval (.call { callee:=.builtin .copy,args:=#[x,y],argTypes:=#[t,tx] }) ty).run P w=.ok (.value (.int .i64 m)) w':=by
   simp[cu,execOp,resolve,invoke,builtin,S.fr.ev (x:=x) (v:=.slice p n c),S.fr.ev (x:=y) (v:=xv),hrun]
  simp only[e1,Oper.uponIn];exact K _ _ (S.lg (x:=row e sz p n c xs) (y:=row e sz p n c (news++xs.drop (m*sz))) S'.slots S'.defers rfl iR hown (fun k h=>.inl h) (bS hown) (gv _ _ _ _ _ _))
 have hpre:∀ w',(storeCells (p.getD ⟨0,0,none⟩) news).run P w=.ok () w'→p.isSome=true→(Builtin.copy_ #[t,tx] ty #[.slice p n c,xv]).run P w=.ok (.int .i64 m) w':=by
  intro w' h1 h2;obtain ⟨ad,rfl⟩:=Option.isSome_iff_exists.1 h2;simp at h1;simp[Builtin.copy_,Sem.run_bind,cp,cv,hsrc.len,hmin,hsrc.cells,h1,goInt]
 rcases Nat.eq_zero_or_pos n with h0 | h0
 subst h0;have hm0:m=0:=by omega
 subst hm0;have hnews:news=[]:=List.eq_nil_of_length_eq_zero (by simpa using hlen);subst hnews;refine ⟨w,?_,aJ.refl _ _,by simpa using hrow⟩;cases hp:p with
 | none=>simp[Builtin.copy_,Sem.run_bind,cp,cv,hsrc.len,hsrc.cells,goInt]
 | some ad=>rw[←hp];exact hpre w (by simp[storeCells]) (by simp[hp])
 obtain ⟨g,cur,Ef,_⟩:=eB hrow h0;obtain ⟨w',hrun,iR,hown⟩:=tL (P:=P) hrow (vs:=news) (o:=0) Ef (by rw[hlen];simpa using Nat.mul_le_mul_right sz hle) hsrc.one;refine ⟨w',hpre w' (by rw[Ef];exact hrun) (by simp[Ef]),iR,?_⟩;simpa [hlen] using hown
end
def iE (p:Option Addr)(xs:List Value):World→Prop:=fun w=>(p=none→xs=[])∧∀ ad,p=some ad→∀ j u,xs[j]? = some u→w.cell? (ad.add j)=some u
theorem Eg {w:World}{ad:Addr}{v:Value}(hc:w.cell? ad=some v):ad.block < w.heap.size:=by
 rcases Nat.lt_or_ge ad.block w.heap.size with h' | h'
 exact h';unfold World.cell? at hc;rw[Array.getElem?_eq_none h']at hc;cases hc
theorem w9 (ad:Addr)(j:Nat):(ad.add j).block=ad.block:=by unfold Addr.add;split <;> rfl
theorem iE.aO {w:World}{p:Option Addr}{xs:List Value}{M:Nat→Prop}(h:iE p xs w)(hM:∀ ad,p=some ad→¬M ad.block):ag M w (iE p xs):=fun w' bP=>⟨h.1,fun ad hp j u hj=>by
 have hc:=h.2 ad hp j u hj;have hlt:=Eg hc;rw[w9]at hlt;rw[World.cell?_of_block (w:=w) (by rw[w9];exact bP.iB hlt (hM ad hp))];exact hc⟩
theorem jc {w:World}{e:TypeId}{sz:Nat}{p:Option Addr}{n c:Nat}{xs:List Value}(h:w.ownsRow 0 e sz (.slice p n c) n xs):iE p xs w:=by
 refine ⟨fun hp=>?_,fun ad hp j u hj=>?_⟩;subst hp;rcases h.2 with ⟨_,rfl⟩ | ⟨g,cap,cur,hv,_⟩
 exact List.eq_nil_of_length_eq_zero (by simpa using h.1);cases hv;have:=nN h (o:=0) (j:=j) (by simpa using hj);subst hp;simpa [dx,Addr.add] using this
class Aw (fs:List (World→Prop))(p:Option Addr)(xs:outParam (List Value)):Prop where mem:iE p xs∈fs
instance hsl0 {p:Option Addr}{xs:List Value}{fs:List (World→Prop)} : Aw (iE p xs::fs) p xs:=⟨List.mem_cons_self ..⟩
instance (priority:=900) hsl1 {p:Option Addr}{xs:List Value}{Φ:World→Prop}{fs:List (World→Prop)}[h:Aw fs p xs]:Aw (Φ::fs) p xs:=⟨List.mem_cons_of_mem _ h.mem⟩
theorem HH {P:Program}{tx e:TypeId}{w:World}{p:Option Addr}{m c sz:Nat}{xs:List Value}(h:P.underlying tx=some (.slice e))(hs:iE p xs w)(hl:xs.length=m*sz)(h1:∀ u∈xs,u.oneCell'=true)(hz:0 < sz):Src P sz tx (.slice p m c) m xs w:=by
 cases p with
 | none=>
  have:=hs.1 rfl;subst this;have hm:m=0:=by
   rcases Nat.eq_zero_or_pos m with h0 | h0
   exact h0;have:=Nat.mul_pos h0 hz;simp at hl;omega
  subst hm;exact Src.ofNil w h c
 | some ad=>exact Src.ofSlice w h _ _ _ _ hl (hs.2 ad rfl) h1
instance (priority:=870) XD {P:Program}{tx e:TypeId}{p:Option Addr}{m c:Nat}{ys:List UInt8}{bs:List Item}{fs:List (World→Prop)}[h:dN P tx (.slice e)][hr:Aw fs p (aa ys)][hn:eu ys m]:yF P tx (.slice p m c) bs fs 1 m (aa ys):=⟨fun w mm=>
 HH h.eq (mm.facts _ hr.mem).now (by rw[aU,hn.eq];rfl) (hY ys) (by decide)⟩
section
variable {P:Program}{r:Option Nat}{ops:Array Oper}{Q:Exit→Act→World→Prop}{w0:World}{M0:Nat→Prop}{ds:List Deferred}{a:Act}{w:World}{l l':List Value}{bs bs':List Item}{fs:List (World→Prop)}
 {d:Option Nat} {op:Op} {t t' ty:TypeId} {pos:String} {af:Array Edge} {rest:List Oper} {v z:Value} {e:TypeId} {sz dy:Nat} {p:Option Addr} {n c k:Nat} {xs:List Value} {x y:Operand} {kk kl:IntKind} {m j:Int} {lc:Cx}
theorem Ay (xs:List UInt8):∀ (s:ByteArray),((xs.map fun b=>(b.toNat:Int)).foldl (fun s n=>s.push (UInt8.ofNat n.toNat)) s)=⟨s.data++xs.toArray⟩:=by
 induction xs with
 | nil=>intro s;simp
 | cons x xs ih=>intro s;rw[List.map_cons,List.foldl_cons,ih];simp[ByteArray.push]
theorem Az (ys:List UInt8):aa ys=(ys.map fun b=>(b.toNat:Int)).map (Value.int .u8):=by
 induction ys with
 | nil=>rfl
 | cons y ys ih=>rw[bf,ih];rfl
theorem Lr {w:World}{ys:List UInt8}(hs:iE p (aa ys) w)(hn:ys.length=n):(Conv.bytesToString (.slice p n c)).run P w=.ok (str ys) w:=by
 cases p with
 | none=>
  have:=hs.1 rfl;have:ys=[]:=by
   cases ys with
   | nil=>rfl
   | cons y ys=>simp[aa,cX.cells]at this
  subst this;simp[Conv.bytesToString,str];rfl
 | some ad=>
  have h1:=run_loadCells_list (P:=P) w ad (aa ys) (hs.2 ad rfl);rw[aU,Az]at h1;have h2:=run_bytesToString (P:=P) w ad n c (ys.map fun b=>(b.toNat:Int)) (by rw[←hn];simpa [cX.sz] using h1);rw[h2,Ay];simp[str,ByteArray.empty,ByteArray.emptyWithCapacity];rfl
class ux (bs:List Item)(fs:List (World→Prop))(p:Option Addr)(n:Nat)(ys:outParam (List UInt8)):Prop where of:∀ w,Mem w bs fs→iE p (aa ys) w
instance hby1 {p:Option Addr}{n c:Nat}{e:TypeId}{ys:List UInt8}{bs:List Item}{fs:List (World→Prop)}[h:gE bs p n e 1 c (aa ys)]:ux bs fs p n ys:=⟨fun _ mm=>jc (mm.held _ h.mem)⟩
instance (priority:=900) hby2 {p:Option Addr}{n:Nat}{ys:List UInt8}{bs:List Item}{fs:List (World→Prop)}[h:Aw fs p (aa ys)]:ux bs fs p n ys:=⟨fun _ mm=>(mm.facts _ h.mem).now⟩
instance OU {ys:List UInt8}[Ev lc x (.slice p n c)][dN P t (.slice e)][dN P e (.int .u8)][dN P t' .string][hb:ux bs fs p n ys][hn:eu ys n]:dO P (.convert t t' x) ty lc bs fs (str ys):=⟨fun ρ w h mm=>by
 have h1:=Lr (P:=P) (c:=c) (hb.of w mm) hn.eq;cases p <;> simp[cu,execOp,h.ev (x:=x) (v:=.slice _ n c),convert,Sem.run_bind,cp,h1]⟩
instance opShr [Ev lc x (.int kk m)][Ev lc y (.int kl j)][hj:ey j k]:dO P (.binOp .shr t x y t') ty lc bs fs (.int kk (m.fdiv (2 ^ (min k kk.bits)))):=⟨fun ρ w h _=>by
 have h2:=hj.eq;subst h2;have h3:¬((k:Int) < 0):=by omega
 simp[cu,execOp,h.ev (x:=x) (v:=.int kk m),h.ev (x:=y) (v:=.int kl (k:Int)),eqGuard,binOp,Op.shift,h3]⟩
end
theorem jV (n:Int)(h1:0≤n)(h2:n≤18446744073709551615):IntKind.u64.wrap n=n:=by
 unfold IntKind.wrap;simp only[IntKind.bits,IntKind.signed,Bool.false_and];simp;omega
theorem FJ (n:Int)(h1:0≤n)(h2:n≤65535):IntKind.u16.wrap n=n:=by
 unfold IntKind.wrap;simp only[IntKind.bits,IntKind.signed,Bool.false_and];simp;omega
def be (k:Nat)(v:Int):List UInt8:=(List.range k).map fun i=>u8 (v.fdiv (2 ^ (8*(k - 1 - i))))
theorem oC {P:Program}{r:Option Nat}{Q:Exit→Act→World→Prop}{a:Act}{w:World}{x y:Code}(I:Act→World→Prop)(hx:Wp P r x (Exit.then I Q) a w)(hy:∀ a w,I a w→Wp P r y Q a w):Wp P r (.seq x y) Q a w:=by
 refine kS (wpIn_mono hx ?_);intro e a w h;cases e <;> first | exact hy _ _ h | exact h
theorem eY {P:Program}{r:Option Nat}{Q:Exit→Act→World→Prop}{w0:World}{M0:Nat→Prop}{ds:List Deferred}{a:Act}{w:World}{l:List Value}{bs:List Item}{fs:List (World→Prop)}{id:Nat}{lo:List Oper}(ord:List (Nat × Bool))(eD:List Item)(S:St w0 M0 ds a w l bs fs)(h:∀ w,St w0 M0 ds a w l bs fs→AQ P lo.toArray (fun w=>Wd w0 M0 w eD fs) (fun a w=>Q .normal a w) ord a w)
  (hm:P.follows .mixedOrders=true:=by kernel_rfl) (hd:((lo.all fun o=>!cE o.op)&&(Nat.beq ord.length lo.length&&(Region.noSelect lo.toArray&&hU lo.toArray ord (Array.replicate lo.length false))))=true:=by kernel_rfl):Wp P r (.region id lo.toArray true) Q a w:=by
 simp only[Bool.and_eq_true]at hd;refine wpIn_region_any hm (lS (C:=fun w=>Wd w0 M0 w eD fs) (fun i o ho=>?_) _ _ _ _ ?_);have:=List.all_eq_true.1 hd.1 o (by
  rw[List.getElem?_toArray]at ho;exact List.mem_of_getElem? ho)
 simpa using this;have:=h { w with drawn:=w.drawn+1 } ⟨S.slots,S.defers,S.wd.step (aJ.drawn _ w _)⟩ _ hd.2.2.1 hd.2.2.2;rw[Nat.eq_of_beq_eq_true hd.2.1]at this;simpa using this
theorem Wd.perm {w0 M0 w fs}{bs bs':List Item}(h:Wd w0 M0 w bs fs)(hp:bs'.Perm bs):Wd w0 M0 w bs' fs:=by
 have hm:∀ it,it∈bs'→it∈bs:=fun it hi=>hp.mem_iff.1 hi
 refine ⟨h.agree,fun it hi=>h.held it (hm it hi),fun it hi=>h.lt it (hm it hi),fun it hi=>h.own it (hm it hi),?_,fun Φ hΦ=>(h.facts Φ hΦ).less fun _ _ ⟨it,hi,hk⟩=>⟨it,hm it hi,hk⟩,fun it hi=>h.loc it (hm it hi)⟩;exact (hp.pairwise_iff fun hxy k hk hk'=>hxy k hk' hk).2 h.apart
theorem St.Sq {w0 M0 ds a w l fs}{x y z:Item}(S:St w0 M0 ds a w l [x,y,z] fs):St w0 M0 ds a w l [y,x] fs:=
 ⟨S.slots,S.defers,(S.wd.sub (eD:=[x,y]) (dz:=fs) (by simp) (List.Sublist.refl _)).perm (List.Perm.swap _ _ _)⟩
def CK (es:Array MapEntry):List (Value × Value):=es.toList.map fun e=>(e.key,e.val)
def mp (b:Nat)(kv:List (List UInt8 × Value)):Item where
 aj:=fun k=>k=b
 holds:=fun w=>∃ es clock,w.heap[b]? = some (.map es clock)∧CK es=(kv.map fun x=>(str x.1,x.2))∧(∀ e∈es.toList,e.born < clock)∧(es.toList.map (·.born)).Nodup
class HasMp (bs:List Item)(b:Nat)(kv:outParam (List (List UInt8 × Value))):Prop where mem:mp b kv∈bs
def MpF (b:Nat)(kv:List (List UInt8 × Value)):World→Prop:=(mp b kv).holds
class XE (fs:List (World→Prop))(b:Nat)(kv:outParam (List (List UInt8 × Value))):Prop where mem:MpF b kv∈fs
class KvOf (bs:List Item)(fs:List (World→Prop))(b:Nat)(kv:outParam (List (List UInt8 × Value))):Prop where of:∀ w,Mem w bs fs→(mp b kv).holds w
section
variable {P:Program}{r:Option Nat}{ops:Array Oper}{Q:Exit→Act→World→Prop}{w0:World}{M0:Nat→Prop}{ds:List Deferred}{a:Act}{w:World}{l l':List Value}{bs bs':List Item}{fs:List (World→Prop)}
 {d:Option Nat} {op:Op} {t ty:TypeId} {pos:String} {af:Array Edge} {rest:List Oper} {v z:Value} {e kt et:TypeId} {sz dy b:Nat} {x y u:Operand} {lc:Cx} {k:List UInt8} {kv:List (List UInt8 × Value)}
end
def az (b:Nat)(t:TypeId)(cs:List Value):World→Prop:=(box b t cs).holds
class qB (fs:List (World→Prop))(b:Nat)(t:outParam TypeId)(cs:outParam (List Value)):Prop where mem:az b t cs∈fs
instance hbf0 {b:Nat}{t:TypeId}{cs:List Value}{fs:List (World→Prop)} : qB (az b t cs::fs) b t cs:=⟨List.mem_cons_self ..⟩
instance (priority:=900) hbf1 {b:Nat}{t:TypeId}{cs:List Value}{Φ:World→Prop}{fs:List (World→Prop)}[h:qB fs b t cs]:qB (Φ::fs) b t cs:=⟨List.mem_cons_of_mem _ h.mem⟩
theorem az.aO {w:World}{b:Nat}{t:TypeId}{cs:List Value}{M:Nat→Prop}(h:az b t cs w)(hM:¬M b):ag M w (az b t cs):=fun w' bP=>by
 show w'.heap[b]? = some (.cells cs.toArray t (0,0))
 rw[bP.iB (Array.getElem?_eq_some_iff.1 h).1 hM];exact h
instance (priority:=800) VF {P:Program}{ty t bt:TypeId}{l:Cx}{bs:List Item}{fs:List (World→Prop)}{x:Operand}{b off:Nat}{cs:List Value}{v:Value}[Ev l x (.pointer (some ⟨b,off,none⟩))][hb:qB fs b bt cs][ha:eU P t false][hn:pF cs off v]:dO P (.load t x) ty l bs fs v:=⟨fun ρ w h m=>by
 have OV:w.heap[b]? = some (.cells cs.toArray bt (0,0)):=(m.facts _ hb.mem).now;have hc:w.cell? ⟨b,off,none⟩=some v:=by rw[cell_of_row w b off cs.toArray bt (0,0) OV];simpa using hn.eq
 simp[cu,execOp,Instr.loadAt,h.ev (x:=x) (v:=.pointer (some ⟨b,off,none⟩)),Instr.sureAddr,loadVar,Sem.run_bind,ha.run,load,Sem.run,hc]⟩
instance (priority:=800) Sr {P:Program}{ty t bt:TypeId}{l:Cx}{bs:List Item}{fs:List (World→Prop)}{x:Operand}{b off n dy:Nat}{cs vs:List Value}{z:Value}[Ev l x (.pointer (some ⟨b,off,none⟩))][hb:qB fs b bt cs][ha:eU P t true][TI P t z n dy][hn:Lk cs off n vs]:dO P (.load t x) ty l bs fs (.agg ⟨vs⟩):=⟨fun ρ w h m=>by
 have OV:w.heap[b]? = some (.cells cs.toArray bt (0,0)):=(m.facts _ hb.mem).now;have hl:(loadCells ⟨b,off,none⟩ n).run P w=.ok vs.toArray w:=by
  have:=run_loadCells_list (P:=P) w ⟨b,off,none⟩ vs (fun j v hj=>by
   have hjn:j < n:=by rw[←hn.eq.1];exact (List.getElem?_eq_some_iff.1 hj).1
   have e:(⟨b,off,none⟩:Addr).add j=⟨b,off+j,none⟩:=by unfold Addr.add;split <;> simp_all
   have h2:=hn.eq.2 j hjn;rw[e,cell_of_row w b (off+j) cs.toArray bt (0,0) OV];simpa [hj] using h2)
  rw[hn.eq.1]at this;exact this
 simp[cu,execOp,Instr.loadAt,h.ev (x:=x) (v:=.pointer (some ⟨b,off,none⟩)),Instr.sureAddr,loadVar,Sem.run_bind,ha.run,cv,hl]⟩
theorem St.ir {w0 M0 ds a w l bs fs}(S:St w0 M0 ds a w l bs fs)(b:Nat){t:TypeId}{cs:List Value}[h:e9 bs b t cs]:az b t cs w:=S.box b
open Go Go.Deep Go.ChangeShapes Go.WideShapes Go.ChangeAt Go.RowKit
section
variable {H:Type}{enc:TypeId × Value→H}{P:Program}
theorem aJ.below {W W':World}(h:aJ (fun _=>False) W W'):Below W.heap.size W W':=by
 obtain ⟨h1,h2,h3,h4,h5⟩:=h;exact ⟨h1,h2,h3,h4,fun k hk=>h5 k hk id⟩
theorem pG (hl:laidOutB P=true){W W':World}(hb:Below W.heap.size W W'):∀ (ts:List TypeId) (vs:List Value) (ds:List (DataW H)) (ps:List MemPlace),(ts.all fun t=>P.readableRec t&&decide (t < P.types.size))=true→
  DataW.TrodAll enc P W 0 (fun _=>true) true ts vs ds ps→(∀ x∈ps,x.block < W.heap.size)→DataW.TrodAll enc P W' 0 (fun b=>decide (b < W.heap.size)) true ts vs ds ps
 | [],[],[],ps,_,h,_=>h
 | t::ts,v::vs,d::ds,ps,hr,⟨p,q,h1,h2,h3⟩,hlt=>by
  simp only[List.all_cons,Bool.and_eq_true,decide_eq_true_eq]at hr;subst h3;exact ⟨p,q,Below.trod hl hr.1.1 hr.1.2 h1 hb (fun x hx=>hlt x (List.mem_append.2 (.inl hx))),pG hl hb ts vs ds q (by simpa using hr.2) h2 (fun x hx=>hlt x (List.mem_append.2 (.inr hx))),rfl⟩
theorem HI {f:Func}{s:ChangeSpec}{B:TypeId}{W W':World}{args:Array Value}{ds gs:List (DataW H)}{before:List MemPlace}(hl:laidOutB P=true)(hp:(f.params.toList.all fun t=>P.readableRec t&&decide (t < P.types.size))=true)
  (hB:P.underlying B=some .bool) (Ry:f.resultTypes = #[B]) (hv:s.vars=[])
  (hW:DataW.Whole enc P f.params.toList s.vars false W args.toList ds gs before) (hres:(s.fn H (ds++gs)).results=[.lit (.bool true)]) (hargs:(s.fn H (ds++gs)).args=ds) (hvars:(s.fn H (ds++gs)).vars=[])
  (hA:aJ (fun _=>False) W W'):s.post enc P f false true false false W args (.bool true) W':=by
 have hW':=hW;obtain ⟨p,q,XF,hV,rfl,_,_⟩:=hW;have hlt:=hW'.lt;refine ⟨ds,gs,_,[],p,[],hW',?_,?_,?_,hA.below.frame _,fun h=>by cases h⟩;rw[hres,Ry];exact trodAll_mk1 (shut_bool hB _);rw[hargs];exact pG hl hA.below _ _ _ _ hp XF (fun x hx=>hlt x (List.mem_append.2 (.inl hx)));rw[hv,hvars];exact rfl
end
theorem aT.law {P:Program}{f:Nat}{args:List Value}{W:World}{R:Ending→World→Prop}(h:aT P f args W (fun _=>False) fun v _=>v=.bool true)
  (hR:∀ W',aJ (fun _=>False) W W'→R (.returned (.bool true)) W'):Calls P f args.toArray W R:=
 Calls.mono (show Calls P f args.toArray W _ from h) fun e W' he=>by
  obtain ⟨v,rfl,iR,rfl⟩:=he;exact hR W' iR
class CL (P:Program)(T:TypeId):Prop where
 ex:∃ fs I S L,P.underlying T=some (.struct fs)∧fs.toList.map (fun f=>(f.type,f.offset))=[(I,0),(I,1),(I,2),(S,3),(L,4)]∧P.underlying I=some (.int .i64)∧P.underlying S=some .string∧P.underlying L=some (.slice T)∧
  P.cellsOf T=5∧P.cellsOf I=1∧P.cellsOf S=1∧P.cellsOf L=1
theorem iS.HJ {w:World}{ad:Addr} : ∀ {i:Nat} {ks:List ak},(∀ k t,ks[k]? = some t→(∀ j v,t.cells[j]? = some v→w.cell? (ad.add ((i+k)*5+j))=some v)∧f_ w t)→iS w (some ad) i ks
 | i,[],_=>trivial
 | i,x::xs,h=>by
  have h0:=h 0 x rfl;refine ⟨⟨ad,rfl,by simpa using h0.1⟩,h0.2,iS.HJ fun k t hk=>?_⟩;have h1:=h (k+1) t (by simpa using hk);rw[show i+(k+1)=i+1+k from by omega]at h1;exact h1
instance:Inhabited ak:=⟨eO⟩
theorem Ss {α:Type}{l:List α}(h:l.length=5):∃ a b c d e,l=[a,b,c,d,e]:=by
 match l,h with
 | [a,b,c,d,e],_=>exact ⟨a,b,c,d,e,rfl⟩
section
variable {H:Type}{enc:TypeId × Value→H}{P:Program}{w:World}{base:Nat}{spare:Nat→Bool}{held:Bool}{T:TypeId}
theorem yG [hT:CL P T]:∀ (fuel:Nat) (cs:List Value) (x:DataW H × List MemPlace),DataW.trod enc P w base spare held fuel T cs=some x→∃ t:ak,cs=t.cells∧f_ w t:=by
 obtain ⟨fs,I,S,L,hu,hf,hI,hS,hL,c1,c2,c3,c4⟩:=hT.ex;intro fuel
 induction fuel using Nat.strongRecOn with
 | _ fuel ih=>
 intro cs x h;obtain ⟨xs,n,rfl,rfl,hlen,Ag,hx⟩:=DataW.trod_struct hu h;rw[c1]at hlen;obtain ⟨a,b,c,d,e,rfl⟩:=Ss hlen;have hfl:fs.size=5:=by
  have:=congrArg List.length hf;simpa using this
 rw[hfl]at Ag;obtain ⟨x0,x1,x2,x3,x4,rfl⟩:=Ss Ag;have Rz:∀ (i:Nat) (t o:Nat),(fs.toList.map (fun f=>(f.type,f.offset)))[i]? = some (t,o)→∃ f,fs[i]? = some f∧f.type=t∧f.offset=o:=by
  intro i t o hi;rw[List.getElem?_map]at hi;obtain ⟨f,kr,iF⟩:=Option.map_eq_some_iff.1 hi;simp only[Prod.mk.injEq]at iF;exact ⟨f,by simpa using kr,iF.1,iF.2⟩
 rw[hf]at Rz;obtain ⟨f0,q0,t0,o0⟩:=Rz 0 I 0 rfl;obtain ⟨f1,q1,t1,o1⟩:=Rz 1 I 1 rfl;obtain ⟨f2,q2,t2,o2⟩:=Rz 2 I 2 rfl;obtain ⟨f3,q3,t3,o3⟩:=Rz 3 S 3 rfl;obtain ⟨f4,q4,t4,o4⟩:=Rz 4 L 4 rfl;have r0:=hx 0 f0 q0;have r1:=hx 1 f1 q1;have r2:=hx 2 f2 q2;have r3:=hx 3 f3 q3;have r4:=hx 4 f4 q4;rw[t0,o0,c2]at r0;rw[t1,o1,c2]at r1;rw[t2,o2,c2]at r2;rw[t3,o3,c3]at r3;rw[t4,o4,c4]at r4;obtain ⟨k,e0,_,_⟩:=DataW.trod_int hI r0;obtain ⟨u,e1,_,_⟩:=DataW.trod_int hI r1;obtain ⟨m,e2,_,_⟩:=DataW.trod_int hI r2;obtain ⟨s,e3,_,_⟩:=DataW.trod_string hS r3;simp at e0 e1 e2 e3;subst e0 e1 e2 e3;have Su:∀ s:ByteArray,Value.string s=str s.data.toList:=fun s=>by simp[str]
 rcases DataW.trod_slice hL r4 with ⟨e4,_⟩ | ⟨ad,len,cap,elems,rest,n',rfl,e4,_,_,hlc,nM,hel,hem,_,_⟩
 ·simp at e4
  subst e4;exact ⟨.mk k u m s.data.toList none 0 [],by simp[ak.cells,ak.kind,ak.user,ak.num,ak.text,ak.p,ak.cap,ak.kids,Su],by simp[f_,iS]⟩
 ·simp at e4
  subst e4;obtain ⟨g,hg⟩:=choose_lt (α:=ak) (p:=fun i t=>w.cells? base (ad.add (i*5)) 5=some t.cells∧f_ w t) (n:=len) (fun i hi=>by
   have h1:=hem i hi;rw[c1,List.getElem?_eq_getElem (by omega)]at h1;obtain ⟨cs',h2,h3⟩:=Option.bind_eq_some_iff.1 h1;obtain ⟨t,rfl,ht⟩:=ih n' (by omega) cs' _ h3;exact ⟨t,h2,ht⟩)
  refine ⟨.mk k u m s.data.toList (some ad) cap ((List.range len).map g),by simp[ak.cells,ak.kind,ak.user,ak.num,ak.text,ak.p,ak.cap,ak.kids,Su],?_⟩;rw[f_];refine ⟨by simpa using hlc,nM,iS.HJ fun i t ht=>?_⟩;have hi:i < len:=by
   rcases Nat.lt_or_ge i len with h | h
   ·exact h
   ·rw[List.getElem?_eq_none (by simpa using h)]at ht;cases ht
  have:t=g i:=by simpa [hi] using ht.symm
  subst this;obtain ⟨hc,hin⟩:=hg i hi;refine ⟨fun j v hj=>?_,hin⟩;obtain ⟨_,_,h5⟩:=World.cells?_some hc;have Cm:j < 5:=by
   have:=(List.getElem?_eq_some_iff.1 hj).1;simpa [ak.cells] using this
  have:=h5 j Cm;rw[Go.Deep.add_add,hj]at this;simpa using this
end
mutual
theorem f_.mono {w w':World}(h:∀ ad v,w.cell? ad=some v→w'.cell? ad=some v):∀ t:ak,f_ w t→f_ w' t
 | .mk _ _ _ _ _ _ kids,⟨h1,h2,h3⟩=>⟨h1,h2,iS.mono h kids h3⟩
theorem iS.mono {w w':World}(h:∀ ad v,w.cell? ad=some v→w'.cell? ad=some v):∀ {p:Option Addr} {i:Nat} (ts:List ak),iS w p i ts→iS w' p i ts
 | _,_,[],_=>trivial
 | _,_,t::ts,⟨⟨ad,hp,hc⟩,h2,h3⟩=>⟨⟨ad,hp,fun j v hj=>h _ _ (hc j v hj)⟩,f_.mono h t h2,iS.mono h ts h3⟩
end
theorem uy {w w':World}(h:aJ (fun _=>False) w w'){ad:Addr}{v:Value}(hc:w.cell? ad=some v):w'.cell? ad=some v:=by
 have hlt:ad.block < w.heap.size:=by
  rcases Nat.lt_or_ge ad.block w.heap.size with h' | h'
  exact h';unfold World.cell? at hc;rw[Array.getElem?_eq_none h']at hc;cases hc
 rw[World.cell?_of_block (w:=w) (h.below.block _ hlt)];exact hc
end Go.Wk