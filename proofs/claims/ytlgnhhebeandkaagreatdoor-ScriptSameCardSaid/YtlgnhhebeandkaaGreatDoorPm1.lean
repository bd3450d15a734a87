/- 1: a part of this claim's texts, joined: ShelfP W1 W2. -/
import Derived.Test.YtlgnhhebeandkaaGreatDoorProg
import Derived.Shelf.Strconv.Itoa3
import Derived.Shelf.Small.Strs
import Derived.Shelf.Strings.Search2
import Derived.Shelf.Strconv.AtoiAll
import Derived.Shelf.Strconv.ErrVarAll
import Derived.WalkKit
import Derived.RangeFuncNested
import Derived.OwnWalkIn
import Derived.Laws.CopyRow
import Derived.Shelf.Abstract
import Derived.OrdersIn
import Derived.Still
namespace Go.Wk
open Go
theorem U9 {p q:Prop} (k:q) (h:q→p:=by with_reducible first|exact kS|exact kR|exact kN|exact kB|exact kK|exact kT|exact kE|exact xtn|exact xtr|exact xte|exact xbn|exact xbr|exact xbe):p:=h k
theorem U8 {p q:Prop} (k:q) (h:q→p:=by first|exact c_condF S|exact c_condT S):p:=h k
theorem J1 {p:Prop} {C D:Act→Prop} (k:∀ a,C a→D a) (h:(∀ a,C a→D a)→p:=by intro K;(iterate 1 first|(refine sq S ?_;intro a S)|refine U9 ?_|(refine gQ S ?_;intro a S)|(refine dq S ?_;intro a S)|refine U8 ?_);exact K a S):p:=h k
theorem J2 {p:Prop} {C D:Act→Prop} (k:∀ a,C a→D a) (h:(∀ a,C a→D a)→p:=by intro K;(iterate 2 first|(refine sq S ?_;intro a S)|refine U9 ?_|(refine gQ S ?_;intro a S)|(refine dq S ?_;intro a S)|refine U8 ?_);exact K a S):p:=h k
theorem J3 {p:Prop} {C D:Act→Prop} (k:∀ a,C a→D a) (h:(∀ a,C a→D a)→p:=by intro K;(iterate 3 first|(refine sq S ?_;intro a S)|refine U9 ?_|(refine gQ S ?_;intro a S)|(refine dq S ?_;intro a S)|refine U8 ?_);exact K a S):p:=h k
theorem J4 {p:Prop} {C D:Act→Prop} (k:∀ a,C a→D a) (h:(∀ a,C a→D a)→p:=by intro K;(iterate 4 first|(refine sq S ?_;intro a S)|refine U9 ?_|(refine gQ S ?_;intro a S)|(refine dq S ?_;intro a S)|refine U8 ?_);exact K a S):p:=h k
theorem J5 {p:Prop} {C D:Act→Prop} (k:∀ a,C a→D a) (h:(∀ a,C a→D a)→p:=by intro K;(iterate 5 first|(refine sq S ?_;intro a S)|refine U9 ?_|(refine gQ S ?_;intro a S)|(refine dq S ?_;intro a S)|refine U8 ?_);exact K a S):p:=h k
theorem J6 {p:Prop} {C D:Act→Prop} (k:∀ a,C a→D a) (h:(∀ a,C a→D a)→p:=by intro K;(iterate 6 first|(refine sq S ?_;intro a S)|refine U9 ?_|(refine gQ S ?_;intro a S)|(refine dq S ?_;intro a S)|refine U8 ?_);exact K a S):p:=h k
theorem J7 {p:Prop} {C D:Act→Prop} (k:∀ a,C a→D a) (h:(∀ a,C a→D a)→p:=by intro K;(iterate 7 first|(refine sq S ?_;intro a S)|refine U9 ?_|(refine gQ S ?_;intro a S)|(refine dq S ?_;intro a S)|refine U8 ?_);exact K a S):p:=h k
theorem J8 {p:Prop} {C D:Act→Prop} (k:∀ a,C a→D a) (h:(∀ a,C a→D a)→p:=by intro K;(iterate 8 first|(refine sq S ?_;intro a S)|refine U9 ?_|(refine gQ S ?_;intro a S)|(refine dq S ?_;intro a S)|refine U8 ?_);exact K a S):p:=h k
theorem J9 {p:Prop} {C D:Act→Prop} (k:∀ a,C a→D a) (h:(∀ a,C a→D a)→p:=by intro K;(iterate 9 first|(refine sq S ?_;intro a S)|refine U9 ?_|(refine gQ S ?_;intro a S)|(refine dq S ?_;intro a S)|refine U8 ?_);exact K a S):p:=h k
theorem J10 {p:Prop} {C D:Act→Prop} (k:∀ a,C a→D a) (h:(∀ a,C a→D a)→p:=by intro K;(iterate 10 first|(refine sq S ?_;intro a S)|refine U9 ?_|(refine gQ S ?_;intro a S)|(refine dq S ?_;intro a S)|refine U8 ?_);exact K a S):p:=h k
theorem J11 {p:Prop} {C D:Act→Prop} (k:∀ a,C a→D a) (h:(∀ a,C a→D a)→p:=by intro K;(iterate 11 first|(refine sq S ?_;intro a S)|refine U9 ?_|(refine gQ S ?_;intro a S)|(refine dq S ?_;intro a S)|refine U8 ?_);exact K a S):p:=h k
theorem J12 {p:Prop} {C D:Act→Prop} (k:∀ a,C a→D a) (h:(∀ a,C a→D a)→p:=by intro K;(iterate 12 first|(refine sq S ?_;intro a S)|refine U9 ?_|(refine gQ S ?_;intro a S)|(refine dq S ?_;intro a S)|refine U8 ?_);exact K a S):p:=h k
theorem J13 {p:Prop} {C D:Act→Prop} (k:∀ a,C a→D a) (h:(∀ a,C a→D a)→p:=by intro K;(iterate 13 first|(refine sq S ?_;intro a S)|refine U9 ?_|(refine gQ S ?_;intro a S)|(refine dq S ?_;intro a S)|refine U8 ?_);exact K a S):p:=h k
theorem J14 {p:Prop} {C D:Act→Prop} (k:∀ a,C a→D a) (h:(∀ a,C a→D a)→p:=by intro K;(iterate 14 first|(refine sq S ?_;intro a S)|refine U9 ?_|(refine gQ S ?_;intro a S)|(refine dq S ?_;intro a S)|refine U8 ?_);exact K a S):p:=h k
theorem J15 {p:Prop} {C D:Act→Prop} (k:∀ a,C a→D a) (h:(∀ a,C a→D a)→p:=by intro K;(iterate 15 first|(refine sq S ?_;intro a S)|refine U9 ?_|(refine gQ S ?_;intro a S)|(refine dq S ?_;intro a S)|refine U8 ?_);exact K a S):p:=h k
theorem J16 {p:Prop} {C D:Act→Prop} (k:∀ a,C a→D a) (h:(∀ a,C a→D a)→p:=by intro K;(iterate 16 first|(refine sq S ?_;intro a S)|refine U9 ?_|(refine gQ S ?_;intro a S)|(refine dq S ?_;intro a S)|refine U8 ?_);exact K a S):p:=h k
theorem J17 {p:Prop} {C D:Act→Prop} (k:∀ a,C a→D a) (h:(∀ a,C a→D a)→p:=by intro K;(iterate 17 first|(refine sq S ?_;intro a S)|refine U9 ?_|(refine gQ S ?_;intro a S)|(refine dq S ?_;intro a S)|refine U8 ?_);exact K a S):p:=h k
theorem J18 {p:Prop} {C D:Act→Prop} (k:∀ a,C a→D a) (h:(∀ a,C a→D a)→p:=by intro K;(iterate 18 first|(refine sq S ?_;intro a S)|refine U9 ?_|(refine gQ S ?_;intro a S)|(refine dq S ?_;intro a S)|refine U8 ?_);exact K a S):p:=h k
theorem J19 {p:Prop} {C D:Act→Prop} (k:∀ a,C a→D a) (h:(∀ a,C a→D a)→p:=by intro K;(iterate 19 first|(refine sq S ?_;intro a S)|refine U9 ?_|(refine gQ S ?_;intro a S)|(refine dq S ?_;intro a S)|refine U8 ?_);exact K a S):p:=h k
theorem J20 {p:Prop} {C D:Act→Prop} (k:∀ a,C a→D a) (h:(∀ a,C a→D a)→p:=by intro K;(iterate 20 first|(refine sq S ?_;intro a S)|refine U9 ?_|(refine gQ S ?_;intro a S)|(refine dq S ?_;intro a S)|refine U8 ?_);exact K a S):p:=h k
theorem J21 {p:Prop} {C D:Act→Prop} (k:∀ a,C a→D a) (h:(∀ a,C a→D a)→p:=by intro K;(iterate 21 first|(refine sq S ?_;intro a S)|refine U9 ?_|(refine gQ S ?_;intro a S)|(refine dq S ?_;intro a S)|refine U8 ?_);exact K a S):p:=h k
theorem J22 {p:Prop} {C D:Act→Prop} (k:∀ a,C a→D a) (h:(∀ a,C a→D a)→p:=by intro K;(iterate 22 first|(refine sq S ?_;intro a S)|refine U9 ?_|(refine gQ S ?_;intro a S)|(refine dq S ?_;intro a S)|refine U8 ?_);exact K a S):p:=h k
theorem Y2 {p:Prop} {C D:Act→World→Prop} (k:∀ a w,C a w→D a w) (h:(∀ a w,C a w→D a w)→p:=by intro K;(iterate 2 first|(refine sq S ?_;intro a S)|refine U9 ?_|(refine gQ S ?_;intro a S)|(refine dq S ?_;intro a S)|refine U8 ?_|(refine sw S ?_;intro a w S)|(refine sc S ?_;intro a w S)|(refine gC S ?_;intro a w S));exact K a w S):p:=h k
theorem Y4 {p:Prop} {C D:Act→World→Prop} (k:∀ a w,C a w→D a w) (h:(∀ a w,C a w→D a w)→p:=by intro K;(iterate 4 first|(refine sq S ?_;intro a S)|refine U9 ?_|(refine gQ S ?_;intro a S)|(refine dq S ?_;intro a S)|refine U8 ?_|(refine sw S ?_;intro a w S)|(refine sc S ?_;intro a w S)|(refine gC S ?_;intro a w S));exact K a w S):p:=h k
theorem Y5 {p:Prop} {C D:Act→World→Prop} (k:∀ a w,C a w→D a w) (h:(∀ a w,C a w→D a w)→p:=by intro K;(iterate 5 first|(refine sq S ?_;intro a S)|refine U9 ?_|(refine gQ S ?_;intro a S)|(refine dq S ?_;intro a S)|refine U8 ?_|(refine sw S ?_;intro a w S)|(refine sc S ?_;intro a w S)|(refine gC S ?_;intro a w S));exact K a w S):p:=h k
theorem Y6 {p:Prop} {C D:Act→World→Prop} (k:∀ a w,C a w→D a w) (h:(∀ a w,C a w→D a w)→p:=by intro K;(iterate 6 first|(refine sq S ?_;intro a S)|refine U9 ?_|(refine gQ S ?_;intro a S)|(refine dq S ?_;intro a S)|refine U8 ?_|(refine sw S ?_;intro a w S)|(refine sc S ?_;intro a w S)|(refine gC S ?_;intro a w S));exact K a w S):p:=h k
theorem Y7 {p:Prop} {C D:Act→World→Prop} (k:∀ a w,C a w→D a w) (h:(∀ a w,C a w→D a w)→p:=by intro K;(iterate 7 first|(refine sq S ?_;intro a S)|refine U9 ?_|(refine gQ S ?_;intro a S)|(refine dq S ?_;intro a S)|refine U8 ?_|(refine sw S ?_;intro a w S)|(refine sc S ?_;intro a w S)|(refine gC S ?_;intro a w S));exact K a w S):p:=h k
theorem Y8 {p:Prop} {C D:Act→World→Prop} (k:∀ a w,C a w→D a w) (h:(∀ a w,C a w→D a w)→p:=by intro K;(iterate 8 first|(refine sq S ?_;intro a S)|refine U9 ?_|(refine gQ S ?_;intro a S)|(refine dq S ?_;intro a S)|refine U8 ?_|(refine sw S ?_;intro a w S)|(refine sc S ?_;intro a w S)|(refine gC S ?_;intro a w S));exact K a w S):p:=h k
theorem Y9 {p:Prop} {C D:Act→World→Prop} (k:∀ a w,C a w→D a w) (h:(∀ a w,C a w→D a w)→p:=by intro K;(iterate 9 first|(refine sq S ?_;intro a S)|refine U9 ?_|(refine gQ S ?_;intro a S)|(refine dq S ?_;intro a S)|refine U8 ?_|(refine sw S ?_;intro a w S)|(refine sc S ?_;intro a w S)|(refine gC S ?_;intro a w S));exact K a w S):p:=h k
theorem Y10 {p:Prop} {C D:Act→World→Prop} (k:∀ a w,C a w→D a w) (h:(∀ a w,C a w→D a w)→p:=by intro K;(iterate 10 first|(refine sq S ?_;intro a S)|refine U9 ?_|(refine gQ S ?_;intro a S)|(refine dq S ?_;intro a S)|refine U8 ?_|(refine sw S ?_;intro a w S)|(refine sc S ?_;intro a w S)|(refine gC S ?_;intro a w S));exact K a w S):p:=h k
theorem Y11 {p:Prop} {C D:Act→World→Prop} (k:∀ a w,C a w→D a w) (h:(∀ a w,C a w→D a w)→p:=by intro K;(iterate 11 first|(refine sq S ?_;intro a S)|refine U9 ?_|(refine gQ S ?_;intro a S)|(refine dq S ?_;intro a S)|refine U8 ?_|(refine sw S ?_;intro a w S)|(refine sc S ?_;intro a w S)|(refine gC S ?_;intro a w S));exact K a w S):p:=h k
theorem Y12 {p:Prop} {C D:Act→World→Prop} (k:∀ a w,C a w→D a w) (h:(∀ a w,C a w→D a w)→p:=by intro K;(iterate 12 first|(refine sq S ?_;intro a S)|refine U9 ?_|(refine gQ S ?_;intro a S)|(refine dq S ?_;intro a S)|refine U8 ?_|(refine sw S ?_;intro a w S)|(refine sc S ?_;intro a w S)|(refine gC S ?_;intro a w S));exact K a w S):p:=h k
theorem Y13 {p:Prop} {C D:Act→World→Prop} (k:∀ a w,C a w→D a w) (h:(∀ a w,C a w→D a w)→p:=by intro K;(iterate 13 first|(refine sq S ?_;intro a S)|refine U9 ?_|(refine gQ S ?_;intro a S)|(refine dq S ?_;intro a S)|refine U8 ?_|(refine sw S ?_;intro a w S)|(refine sc S ?_;intro a w S)|(refine gC S ?_;intro a w S));exact K a w S):p:=h k
theorem Y14 {p:Prop} {C D:Act→World→Prop} (k:∀ a w,C a w→D a w) (h:(∀ a w,C a w→D a w)→p:=by intro K;(iterate 14 first|(refine sq S ?_;intro a S)|refine U9 ?_|(refine gQ S ?_;intro a S)|(refine dq S ?_;intro a S)|refine U8 ?_|(refine sw S ?_;intro a w S)|(refine sc S ?_;intro a w S)|(refine gC S ?_;intro a w S));exact K a w S):p:=h k
theorem Y15 {p:Prop} {C D:Act→World→Prop} (k:∀ a w,C a w→D a w) (h:(∀ a w,C a w→D a w)→p:=by intro K;(iterate 15 first|(refine sq S ?_;intro a S)|refine U9 ?_|(refine gQ S ?_;intro a S)|(refine dq S ?_;intro a S)|refine U8 ?_|(refine sw S ?_;intro a w S)|(refine sc S ?_;intro a w S)|(refine gC S ?_;intro a w S));exact K a w S):p:=h k
theorem Y16 {p:Prop} {C D:Act→World→Prop} (k:∀ a w,C a w→D a w) (h:(∀ a w,C a w→D a w)→p:=by intro K;(iterate 16 first|(refine sq S ?_;intro a S)|refine U9 ?_|(refine gQ S ?_;intro a S)|(refine dq S ?_;intro a S)|refine U8 ?_|(refine sw S ?_;intro a w S)|(refine sc S ?_;intro a w S)|(refine gC S ?_;intro a w S));exact K a w S):p:=h k
theorem Y17 {p:Prop} {C D:Act→World→Prop} (k:∀ a w,C a w→D a w) (h:(∀ a w,C a w→D a w)→p:=by intro K;(iterate 17 first|(refine sq S ?_;intro a S)|refine U9 ?_|(refine gQ S ?_;intro a S)|(refine dq S ?_;intro a S)|refine U8 ?_|(refine sw S ?_;intro a w S)|(refine sc S ?_;intro a w S)|(refine gC S ?_;intro a w S));exact K a w S):p:=h k
theorem Y18 {p:Prop} {C D:Act→World→Prop} (k:∀ a w,C a w→D a w) (h:(∀ a w,C a w→D a w)→p:=by intro K;(iterate 18 first|(refine sq S ?_;intro a S)|refine U9 ?_|(refine gQ S ?_;intro a S)|(refine dq S ?_;intro a S)|refine U8 ?_|(refine sw S ?_;intro a w S)|(refine sc S ?_;intro a w S)|(refine gC S ?_;intro a w S));exact K a w S):p:=h k
theorem Y19 {p:Prop} {C D:Act→World→Prop} (k:∀ a w,C a w→D a w) (h:(∀ a w,C a w→D a w)→p:=by intro K;(iterate 19 first|(refine sq S ?_;intro a S)|refine U9 ?_|(refine gQ S ?_;intro a S)|(refine dq S ?_;intro a S)|refine U8 ?_|(refine sw S ?_;intro a w S)|(refine sc S ?_;intro a w S)|(refine gC S ?_;intro a w S));exact K a w S):p:=h k
theorem Y20 {p:Prop} {C D:Act→World→Prop} (k:∀ a w,C a w→D a w) (h:(∀ a w,C a w→D a w)→p:=by intro K;(iterate 20 first|(refine sq S ?_;intro a S)|refine U9 ?_|(refine gQ S ?_;intro a S)|(refine dq S ?_;intro a S)|refine U8 ?_|(refine sw S ?_;intro a w S)|(refine sc S ?_;intro a w S)|(refine gC S ?_;intro a w S));exact K a w S):p:=h k
theorem Y21 {p:Prop} {C D:Act→World→Prop} (k:∀ a w,C a w→D a w) (h:(∀ a w,C a w→D a w)→p:=by intro K;(iterate 21 first|(refine sq S ?_;intro a S)|refine U9 ?_|(refine gQ S ?_;intro a S)|(refine dq S ?_;intro a S)|refine U8 ?_|(refine sw S ?_;intro a w S)|(refine sc S ?_;intro a w S)|(refine gC S ?_;intro a w S));exact K a w S):p:=h k
theorem Y22 {p:Prop} {C D:Act→World→Prop} (k:∀ a w,C a w→D a w) (h:(∀ a w,C a w→D a w)→p:=by intro K;(iterate 22 first|(refine sq S ?_;intro a S)|refine U9 ?_|(refine gQ S ?_;intro a S)|(refine dq S ?_;intro a S)|refine U8 ?_|(refine sw S ?_;intro a w S)|(refine sc S ?_;intro a w S)|(refine gC S ?_;intro a w S));exact K a w S):p:=h k
theorem E0 {n m:Nat} {p C D:Prop} (e:n=m) (k:C→D) (h:n=m→(C→D)→p:=by intro e K;simp only[e,qqA,qqB,Nat.reduceAdd,Nat.reduceSub,qqC,qqD,qqE,qqF]at S;exact K S):p:=h e k
abbrev T9(n:Nat):Nat × Bool:=(n,true)
abbrev F9(n:Nat):Nat × Bool:=(n,false)
end Go.Wk
namespace Go.Wk
theorem qqA {α : Type _} {a : α} {l : List α} : (a :: l).length = l.length + 1 := List.length_cons
theorem qqB {α : Type _} : ([] : List α).length = 0 := List.length_nil
theorem qqC {α : Type _} {a : α} {n : Nat} : List.replicate (n + 1) a = a :: List.replicate n a := List.replicate_succ
theorem qqD {α : Type _} {a : α} : List.replicate 0 a = [] := List.replicate_zero
theorem qqE {α : Type _} {a : α} {l m : List α} : (a :: l) ++ m = a :: (l ++ m) := List.cons_append
theorem qqF {α : Type _} (l : List α) : [] ++ l = l := List.nil_append l
end Go.Wk
namespace Go.Proofs
open Go.Shelf
def Tryz.lays137_ren:Go.Shelf.Ren:=⟨fun | 137=>224 | 217=>150 | 266=>199 | n=>n,fun | 9=>9 | 5=>5 | 3=>3 | n=>n,fun | n=>n⟩
theorem Tryz.lays137:Go.Proofs.Lays.n137 Tryz.prog Tryz.lays137_ren:={
 mixed:=by kernel_rfl
 f137:=Tryz.func224.trans (congrArg some (by kernel_rfl))
 f217:=Tryz.func150.trans (congrArg some (by kernel_rfl))
 f266:=Tryz.func199.trans (congrArg some (by kernel_rfl))
 t3:=Tryz.underlying3
 a3:=Tryz.isAgg3
 z3:=Tryz.sizeOf3
 v3:=Tryz.zeroValue3
 t5:=Tryz.underlying5
 a5:=Tryz.isAgg5
 z5:=Tryz.sizeOf5
 v5:=Tryz.zeroValue5
 t9:=Tryz.underlying9
 a9:=Tryz.isAgg9
 z9:=Tryz.sizeOf9
 v9:=Tryz.zeroValue9 }
def Tryz.lays219_ren:Go.Shelf.Ren:=⟨fun | 219=>107 | 217=>150 | 225=>151 | 224=>152 | 267=>153 | 266=>199 | 314=>200 | n=>n,fun | 9=>9 | 3=>3 | 4=>4 | 5=>5 | 46=>86 | 146=>261 | 51=>238 | n=>n,fun | 1=>0 | n=>n⟩
theorem Tryz.lays219:Go.Proofs.Lays.n219 Tryz.prog Tryz.lays219_ren:={
 mixed:=by kernel_rfl
 f217:=Tryz.func150.trans (congrArg some (by kernel_rfl))
 f219:=Tryz.func107.trans (congrArg some (by kernel_rfl))
 f224:=Tryz.func152.trans (congrArg some (by kernel_rfl))
 f225:=Tryz.func151.trans (congrArg some (by kernel_rfl))
 f266:=Tryz.func199.trans (congrArg some (by kernel_rfl))
 f267:=Tryz.func153.trans (congrArg some (by kernel_rfl))
 f314:=Tryz.func200.trans (congrArg some (by kernel_rfl))
 t3:=Tryz.underlying3
 a3:=Tryz.isAgg3
 z3:=Tryz.sizeOf3
 v3:=Tryz.zeroValue3
 t4:=Tryz.underlying4
 a4:=Tryz.isAgg4
 z4:=Tryz.sizeOf4
 v4:=Tryz.zeroValue4
 t5:=Tryz.underlying5
 a5:=Tryz.isAgg5
 z5:=Tryz.sizeOf5
 v5:=Tryz.zeroValue5
 t9:=Tryz.underlying9
 a9:=Tryz.isAgg9
 z9:=Tryz.sizeOf9
 v9:=Tryz.zeroValue9
 t46:=Tryz.underlying86
 a46:=Tryz.isAgg86
 z46:=Tryz.sizeOf86
 v46:=Tryz.zeroValue86
 t51:=Tryz.underlying238
 a51:=Tryz.isAgg238
 z51:=Tryz.sizeOf238
 v51:=Tryz.zeroValue238
 t146:=Tryz.underlying261
 a146:=Tryz.isAgg261
 z146:=Tryz.sizeOf261
 v146:=Tryz.zeroValue261
 g1:=by kernel_rfl }
def Tryz.laysM171_ren:Go.Shelf.Ren:=⟨fun | 171=>96 | 243=>144 | 246=>195 | 283=>220 | 284=>221 | 285=>222 | 286=>223 | 129=>173 | 317=>237 | 318=>238 | 319=>239 | 320=>240 | 337=>245 | 338=>246 | n=>n,fun | 3=>3 | 9=>9 | 2=>2 | 4=>4 | 171=>280 | 0=>0 | 53=>133 | 37=>61 | 5=>5 | 173=>282 | 212=>300 | 51=>238 | 20=>20 | 213=>301 | 46=>86 | 232=>310 | 233=>311 | n=>n,fun | 17=>3 | 18=>4 | 19=>5 | n=>n⟩
theorem Tryz.laysM171:Go.Proofs.LaysM.n171 Tryz.prog Tryz.laysM171_ren:={
 mixed:=by kernel_rfl
 f129:=Tryz.func173.trans (congrArg some (by kernel_rfl))
 f171:=Tryz.func96.trans (congrArg some (by kernel_rfl))
 f243:=Tryz.func144.trans (congrArg some (by kernel_rfl))
 f246:=Tryz.func195.trans (congrArg some (by kernel_rfl))
 f283:=Tryz.func220.trans (congrArg some (by kernel_rfl))
 f284:=Tryz.func221.trans (congrArg some (by kernel_rfl))
 f285:=Tryz.func222.trans (congrArg some (by kernel_rfl))
 f286:=Tryz.func223.trans (congrArg some (by kernel_rfl))
 f317:=Tryz.func237.trans (congrArg some (by kernel_rfl))
 f318:=Tryz.func238.trans (congrArg some (by kernel_rfl))
 f319:=Tryz.func239.trans (congrArg some (by kernel_rfl))
 f320:=Tryz.func240.trans (congrArg some (by kernel_rfl))
 f337:=Tryz.func245.trans (congrArg some (by kernel_rfl))
 f338:=Tryz.func246.trans (congrArg some (by kernel_rfl))
 t0:=Tryz.underlying0
 a0:=Tryz.isAgg0
 z0:=Tryz.sizeOf0
 v0:=Tryz.zeroValue0
 t2:=Tryz.underlying2
 a2:=Tryz.isAgg2
 z2:=Tryz.sizeOf2
 v2:=Tryz.zeroValue2
 t3:=Tryz.underlying3
 a3:=Tryz.isAgg3
 z3:=Tryz.sizeOf3
 v3:=Tryz.zeroValue3
 t4:=Tryz.underlying4
 a4:=Tryz.isAgg4
 z4:=Tryz.sizeOf4
 v4:=Tryz.zeroValue4
 t5:=Tryz.underlying5
 a5:=Tryz.isAgg5
 z5:=Tryz.sizeOf5
 v5:=Tryz.zeroValue5
 t9:=Tryz.underlying9
 a9:=Tryz.isAgg9
 z9:=Tryz.sizeOf9
 v9:=Tryz.zeroValue9
 t20:=Tryz.underlying20
 a20:=Tryz.isAgg20
 z20:=Tryz.sizeOf20
 v20:=Tryz.zeroValue20
 t37:=Tryz.underlying61
 a37:=Tryz.isAgg61
 z37:=Tryz.sizeOf61
 v37:=Tryz.zeroValue61
 t46:=Tryz.underlying86
 a46:=Tryz.isAgg86
 z46:=Tryz.sizeOf86
 v46:=Tryz.zeroValue86
 t51:=Tryz.underlying238
 a51:=Tryz.isAgg238
 z51:=Tryz.sizeOf238
 v51:=Tryz.zeroValue238
 t53:=Tryz.underlying133
 a53:=Tryz.isAgg133
 z53:=Tryz.sizeOf133
 v53:=Tryz.zeroValue133
 t171:=Tryz.underlying280
 a171:=Tryz.isAgg280
 z171:=Tryz.sizeOf280
 v171:=Tryz.zeroValue280
 t173:=Tryz.underlying282
 a173:=Tryz.isAgg282
 z173:=Tryz.sizeOf282
 v173:=Tryz.zeroValue282
 t212:=Tryz.underlying300
 a212:=Tryz.isAgg300
 z212:=Tryz.sizeOf300
 v212:=Tryz.zeroValue300
 t213:=Tryz.underlying301
 a213:=Tryz.isAgg301
 z213:=Tryz.sizeOf301
 t232:=Tryz.underlying310
 a232:=Tryz.isAgg310
 z232:=Tryz.sizeOf310
 v232:=Tryz.zeroValue310
 t233:=Tryz.underlying311
 a233:=Tryz.isAgg311
 z233:=Tryz.sizeOf311
 v233:=Tryz.zeroValue311
 g17:=by kernel_rfl
 g18:=by kernel_rfl
 g19:=by kernel_rfl
 i0:=by kernel_rfl
 i2:=by kernel_rfl
 i3:=by kernel_rfl
 i4:=by kernel_rfl
 i5:=by kernel_rfl
 i9:=by kernel_rfl
 i20:=by kernel_rfl
 i37:=by kernel_rfl
 i46:=by kernel_rfl
 i51:=by kernel_rfl
 i53:=by kernel_rfl
 i171:=by kernel_rfl
 i173:=by kernel_rfl
 i212:=by kernel_rfl
 i232:=by kernel_rfl
 i233:=by kernel_rfl
 m17:=by kernel_rfl
 m18:=by kernel_rfl
 m19:=by kernel_rfl }
def Tryz.laysC172_ren:Go.Shelf.Ren:=⟨fun | 172=>136 | 244=>181 | 245=>182 | 247=>211 | 279=>212 | 280=>213 | 281=>214 | 282=>215 | 287=>233 | 316=>234 | 171=>96 | 205=>235 | 321=>243 | 322=>244 | 243=>144 | 246=>195 | 283=>220 | 284=>221 | 285=>222 | 286=>223 | 129=>173 | 317=>237 | 318=>238 | 319=>239 | 320=>240 | 337=>245 | 338=>246 | n=>n,fun | 9=>9 | 3=>3 | 75=>108 | 76=>109 | 4=>4 | 5=>5 | 167=>272 | 37=>61 | 0=>0 | 85=>273 | 2=>2 | 168=>275 | 53=>133 | 175=>293 | 46=>86 | 210=>296 | 127=>171 | 145=>308 | 143=>306 | 21=>21 | 171=>280 | 173=>282 | 212=>300 | 51=>238 | 20=>20 | 213=>301 | 232=>310 | 233=>311 | 80=>115 | n=>n,fun | 15=>1 | 16=>2 | 17=>3 | 18=>4 | 19=>5 | n=>n⟩
theorem Tryz.laysC172:Go.Proofs.LaysC.n172 Tryz.prog Tryz.laysC172_ren:={
 mixed:=by kernel_rfl
 f129:=Tryz.func173.trans (congrArg some (by kernel_rfl))
 f171:=Tryz.func96.trans (congrArg some (by kernel_rfl))
 f172:=Tryz.func136.trans (congrArg some (by kernel_rfl))
 f205:=Tryz.func235.trans (congrArg some (by kernel_rfl))
 f243:=Tryz.func144.trans (congrArg some (by kernel_rfl))
 f244:=Tryz.func181.trans (congrArg some (by kernel_rfl))
 f245:=Tryz.func182.trans (congrArg some (by kernel_rfl))
 f246:=Tryz.func195.trans (congrArg some (by kernel_rfl))
 f247:=Tryz.func211.trans (congrArg some (by kernel_rfl))
 f279:=Tryz.func212.trans (congrArg some (by kernel_rfl))
 f280:=Tryz.func213.trans (congrArg some (by kernel_rfl))
 f281:=Tryz.func214.trans (congrArg some (by kernel_rfl))
 f282:=Tryz.func215.trans (congrArg some (by kernel_rfl))
 f283:=Tryz.func220.trans (congrArg some (by kernel_rfl))
 f284:=Tryz.func221.trans (congrArg some (by kernel_rfl))
 f285:=Tryz.func222.trans (congrArg some (by kernel_rfl))
 f286:=Tryz.func223.trans (congrArg some (by kernel_rfl))
 f287:=Tryz.func233.trans (congrArg some (by kernel_rfl))
 f316:=Tryz.func234.trans (congrArg some (by kernel_rfl))
 f317:=Tryz.func237.trans (congrArg some (by kernel_rfl))
 f318:=Tryz.func238.trans (congrArg some (by kernel_rfl))
 f319:=Tryz.func239.trans (congrArg some (by kernel_rfl))
 f320:=Tryz.func240.trans (congrArg some (by kernel_rfl))
 f321:=Tryz.func243.trans (congrArg some (by kernel_rfl))
 f322:=Tryz.func244.trans (congrArg some (by kernel_rfl))
 f337:=Tryz.func245.trans (congrArg some (by kernel_rfl))
 f338:=Tryz.func246.trans (congrArg some (by kernel_rfl))
 t0:=Tryz.underlying0
 a0:=Tryz.isAgg0
 z0:=Tryz.sizeOf0
 v0:=Tryz.zeroValue0
 t2:=Tryz.underlying2
 a2:=Tryz.isAgg2
 z2:=Tryz.sizeOf2
 v2:=Tryz.zeroValue2
 t3:=Tryz.underlying3
 a3:=Tryz.isAgg3
 z3:=Tryz.sizeOf3
 v3:=Tryz.zeroValue3
 t4:=Tryz.underlying4
 a4:=Tryz.isAgg4
 z4:=Tryz.sizeOf4
 v4:=Tryz.zeroValue4
 t5:=Tryz.underlying5
 a5:=Tryz.isAgg5
 z5:=Tryz.sizeOf5
 v5:=Tryz.zeroValue5
 t9:=Tryz.underlying9
 a9:=Tryz.isAgg9
 z9:=Tryz.sizeOf9
 v9:=Tryz.zeroValue9
 t20:=Tryz.underlying20
 a20:=Tryz.isAgg20
 z20:=Tryz.sizeOf20
 v20:=Tryz.zeroValue20
 t21:=Tryz.underlying21
 a21:=Tryz.isAgg21
 z21:=Tryz.sizeOf21
 v21:=Tryz.zeroValue21
 t37:=Tryz.underlying61
 a37:=Tryz.isAgg61
 z37:=Tryz.sizeOf61
 v37:=Tryz.zeroValue61
 t46:=Tryz.underlying86
 a46:=Tryz.isAgg86
 z46:=Tryz.sizeOf86
 v46:=Tryz.zeroValue86
 t51:=Tryz.underlying238
 a51:=Tryz.isAgg238
 z51:=Tryz.sizeOf238
 v51:=Tryz.zeroValue238
 t53:=Tryz.underlying133
 a53:=Tryz.isAgg133
 z53:=Tryz.sizeOf133
 v53:=Tryz.zeroValue133
 t75:=Tryz.underlying108
 a75:=Tryz.isAgg108
 z75:=Tryz.sizeOf108
 v75:=Tryz.zeroValue108
 t76:=Tryz.underlying109
 a76:=Tryz.isAgg109
 z76:=Tryz.sizeOf109
 v76:=Tryz.zeroValue109
 t85:=Tryz.underlying273
 a85:=Tryz.isAgg273
 z85:=Tryz.sizeOf273
 v85:=Tryz.zeroValue273
 t127:=Tryz.underlying171
 a127:=Tryz.isAgg171
 z127:=Tryz.sizeOf171
 v127:=Tryz.zeroValue171
 t143:=Tryz.underlying306
 a143:=Tryz.isAgg306
 z143:=Tryz.sizeOf306
 v143:=Tryz.zeroValue306
 t145:=Tryz.underlying308
 a145:=Tryz.isAgg308
 z145:=Tryz.sizeOf308
 v145:=Tryz.zeroValue308
 t167:=Tryz.underlying272
 a167:=Tryz.isAgg272
 z167:=Tryz.sizeOf272
 v167:=Tryz.zeroValue272
 t168:=Tryz.underlying275
 a168:=Tryz.isAgg275
 z168:=Tryz.sizeOf275
 v168:=Tryz.zeroValue275
 t171:=Tryz.underlying280
 a171:=Tryz.isAgg280
 z171:=Tryz.sizeOf280
 v171:=Tryz.zeroValue280
 t173:=Tryz.underlying282
 a173:=Tryz.isAgg282
 z173:=Tryz.sizeOf282
 v173:=Tryz.zeroValue282
 t175:=Tryz.underlying293
 a175:=Tryz.isAgg293
 z175:=Tryz.sizeOf293
 v175:=Tryz.zeroValue293
 t210:=Tryz.underlying296
 a210:=Tryz.isAgg296
 z210:=Tryz.sizeOf296
 v210:=Tryz.zeroValue296
 t212:=Tryz.underlying300
 a212:=Tryz.isAgg300
 z212:=Tryz.sizeOf300
 v212:=Tryz.zeroValue300
 t213:=Tryz.underlying301
 a213:=Tryz.isAgg301
 z213:=Tryz.sizeOf301
 t232:=Tryz.underlying310
 a232:=Tryz.isAgg310
 z232:=Tryz.sizeOf310
 v232:=Tryz.zeroValue310
 t233:=Tryz.underlying311
 a233:=Tryz.isAgg311
 z233:=Tryz.sizeOf311
 v233:=Tryz.zeroValue311
 g15:=by kernel_rfl
 g16:=by kernel_rfl
 g17:=by kernel_rfl
 g18:=by kernel_rfl
 g19:=by kernel_rfl
 t80:=Tryz.underlying115
 a80:=Tryz.isAgg115
 z80:=Tryz.sizeOf115
 v80:=Tryz.zeroValue115
 i0:=by kernel_rfl
 i2:=by kernel_rfl
 i3:=by kernel_rfl
 i4:=by kernel_rfl
 i5:=by kernel_rfl
 i9:=by kernel_rfl
 i20:=by kernel_rfl
 i21:=by kernel_rfl
 i37:=by kernel_rfl
 i46:=by kernel_rfl
 i51:=by kernel_rfl
 i53:=by kernel_rfl
 i75:=by kernel_rfl
 i76:=by kernel_rfl
 i80:=by kernel_rfl
 i85:=by kernel_rfl
 i127:=by kernel_rfl
 i143:=by kernel_rfl
 i145:=by kernel_rfl
 i167:=by kernel_rfl
 i168:=by kernel_rfl
 i171:=by kernel_rfl
 i173:=by kernel_rfl
 i175:=by kernel_rfl
 i210:=by kernel_rfl
 i212:=by kernel_rfl
 i232:=by kernel_rfl
 i233:=by kernel_rfl
 m15:=by kernel_rfl
 m16:=by kernel_rfl
 m17:=by kernel_rfl
 m18:=by kernel_rfl
 m19:=by kernel_rfl
 c0:=by kernel_rfl
 c2:=by kernel_rfl
 c3:=by kernel_rfl
 c4:=by kernel_rfl
 c5:=by kernel_rfl
 c9:=by kernel_rfl
 c20:=by kernel_rfl
 c21:=by kernel_rfl
 c37:=by kernel_rfl
 c46:=by kernel_rfl
 c51:=by kernel_rfl
 c53:=by kernel_rfl
 c75:=by kernel_rfl
 c76:=by kernel_rfl
 c80:=by kernel_rfl
 c85:=by kernel_rfl
 c127:=by kernel_rfl
 c143:=by kernel_rfl
 c145:=by kernel_rfl
 c167:=by kernel_rfl
 c168:=by kernel_rfl
 c171:=by kernel_rfl
 c173:=by kernel_rfl
 c175:=by kernel_rfl
 c210:=by kernel_rfl
 c212:=by kernel_rfl
 c213:=by kernel_rfl
 c232:=by kernel_rfl
 c233:=by kernel_rfl }
end Go.Proofs
namespace Go.Wk
open Go
structure Item where
 foot:Nat→Prop
 holds:World→Prop
 own:Bool:=true
def Agree (M:Nat→Prop)(w w':World):Prop:=
 w'.os=w.os∧w'.tape=w.tape∧w'.output=w.output∧w.heap.size≤w'.heap.size∧∀ k,k < w.heap.size→¬M k→w'.heap[k]? = w.heap[k]?
theorem Agree.refl (M:Nat→Prop)(w:World):Agree M w w:=⟨rfl,rfl,rfl,Nat.le_refl _,fun _ _ _=>rfl⟩
theorem Agree.size {M:Nat→Prop}{a b:World}(h:Agree M a b):a.heap.size≤b.heap.size:=h.2.2.2.1
theorem Agree.blk {M:Nat→Prop}{a b:World}(h:Agree M a b){k:Nat}(hk:k < a.heap.size)(hm:¬M k):b.heap[k]? = a.heap[k]?:=h.2.2.2.2 k hk hm
theorem Agree.trans' {M N:Nat→Prop}{a b c:World}(h:Agree M a b)(k:Agree N b c)(hN:∀ i,i < a.heap.size→N i→M i):Agree M a c:=
 ⟨k.1.trans h.1,k.2.1.trans h.2.1,k.2.2.1.trans h.2.2.1,Nat.le_trans h.2.2.2.1 k.2.2.2.1,fun i hi hm=>(k.2.2.2.2 i (Nat.lt_of_lt_of_le hi h.2.2.2.1) (fun hn=>hm (hN i hi hn))).trans (h.2.2.2.2 i hi hm)⟩
theorem Agree.trans {M:Nat→Prop}{a b c:World}(h:Agree M a b)(k:Agree M b c):Agree M a c:=h.trans' k fun _ _ h=>h
theorem Agree.mono {M N:Nat→Prop}{a b:World}(h:Agree M a b)(hN:∀ i,i < a.heap.size→M i→N i):Agree N a b:=
 ⟨h.1,h.2.1,h.2.2.1,h.2.2.2.1,fun i hi hn=>h.2.2.2.2 i hi (fun hm=>hn (hN i hi hm))⟩
theorem Agree.alloc (M:Nat→Prop)(w:World)(o:Obj):Agree M w (w.alloc o):=
 ⟨rfl,rfl,rfl,by simp,fun k hk _=>RowKit.Below.heap_alloc _ _ _ hk⟩
theorem Agree.drawn (M:Nat→Prop)(w:World)(n:Nat):Agree M w { w with drawn:=n }:=⟨rfl,rfl,rfl,Nat.le_refl _,fun _ _ _=>rfl⟩
theorem Agree.setRow {M:Nat→Prop}(w:World)(g:Nat)(c:Array Value)(hg:M g):Agree M w (w.setRow g c):=by
 refine ⟨rfl,rfl,rfl,by simp[World.setRow],fun k hk hm=>?_⟩;have:g≠k:=fun e=>hm (e▸hg)
 simp[World.setRow,Array.getElem?_modify,this]
abbrev Grow (w w':World):Prop:=Agree (fun _=>False) w w'
def Stable (M:Nat→Prop)(w:World)(Φ:World→Prop):Prop:=∀ w',Agree M w w'→Φ w'
abbrev Fx (w:World) (Φ:World→Prop):Prop:=Stable (fun _=>False) w Φ
theorem Stable.now {M:Nat→Prop}{w:World}{Φ:World→Prop}(h:Stable M w Φ):Φ w:=h w (Agree.refl _ _)
theorem Stable.later {M:Nat→Prop}{w w':World}{Φ:World→Prop}(h:Stable M w Φ)(hw:Agree M w w'):Stable M w' Φ:=fun w'' h'=>h w'' (hw.trans h')
theorem Stable.less {M N:Nat→Prop}{w:World}{Φ:World→Prop}(h:Stable M w Φ)(hN:∀ k,k < w.heap.size→N k→M k):Stable N w Φ:=fun w' h'=>h w' (h'.mono hN)
def foots (bs:List Item)(k:Nat):Prop:=∃ it∈bs,it.foot k
def box (b:Nat)(ty:TypeId)(cs:List Value):Item where
 foot:=fun k=>k=b
 holds:=fun w=>w.heap[b]? = some (.cells cs.toArray ty (0,0))
structure Wd (w0:World)(M0:Nat→Prop)(w:World)(bs:List Item)(fs:List (World→Prop)):Prop where
 agree:Agree M0 w0 w
 held:∀ it∈bs,it.holds w
 lt:∀ it∈bs,∀ k,it.foot k→k < w.heap.size
 own:∀ it∈bs,it.own=true→∀ k,it.foot k→M0 k∨w0.heap.size≤k
 apart:bs.Pairwise (fun x y=>∀ k,x.foot k→¬y.foot k)
 facts:∀ Φ∈fs,Stable (foots bs) w Φ
 loc:∀ it∈bs,∀ w1 w2:World,(∀ k,it.foot k→w2.heap[k]? = w1.heap[k]?)→it.holds w1→it.holds w2
structure St (w0:World)(M0:Nat→Prop)(ds:List Deferred)(a:Act)(w:World)(l:List Value)(bs:List Item)(fs:List (World→Prop)):Prop where
 slots:a.tmps=l.toArray
 defers:a.defers=ds
 wd:Wd w0 M0 w bs fs
abbrev FW (r:Option Nat):Fence:={ fn:=fun _=>True,depth:=none,alive:=false,round:=r }
abbrev Wp (P:Program)(r:Option Nat)(c:Code)(Q:Exit→Act→World→Prop)(a:Act)(w:World):Prop:=c.wpIn (FW r) 0 P Q a w
abbrev WL (P:Program)(r:Option Nat)(ops:Array Oper)(Q:Exit→Act→World→Prop)(l:List Oper)(a:Act)(w:World):Prop:=wpListIn (FW r) 0 P ops Q l a w
class Nth (l:List Value)(n:Nat)(v:outParam Value):Prop where eq:l[n]? = some v
instance nth0 {v:Value}{l:List Value} : Nth (v::l) 0 v:=⟨rfl⟩
instance nthS {u v:Value}{l:List Value}{n:Nat}[h:Nth l n v]:Nth (u::l) (n+1) v:=⟨by simpa using h.eq⟩
class PutAt (l:List Value)(n:Nat)(v:Value)(l':outParam (List Value)):Prop where
 eq:l.set n v=l'
instance put0 {u v:Value}{l:List Value} : PutAt (u::l) 0 v (v::l):=⟨rfl⟩
instance putS {u v:Value}{l l':List Value}{n:Nat}[h:PutAt l n v l']:PutAt (u::l) (n+1) v (u::l'):=⟨by simp[h.eq]⟩
class PutO (l:List Value)(d:Option Nat)(v:Value)(l':outParam (List Value)):Prop where
 eq:∀ ds,(Act.mk l.toArray ds).put d v=Act.mk l'.toArray ds
instance puto0 {l:List Value}{v:Value} : PutO l none v l:=⟨fun _=>rfl⟩
instance puto1 {l l':List Value}{v:Value}{n:Nat}[h:PutAt l n v l']:PutO l (some n) v l':=⟨fun ds=>by simp[Act.put,←h.eq]⟩
def gif (c:Bool)(v:Value):Value:=bif c then v else undef
class StripV (cs:List Bool)(v:Value)(v':outParam Value):Prop where eq:(∀ c∈cs,c=true)→v=v'
instance (priority:=1100) strip0 {v:Value} : StripV [] v v:=⟨fun _=>rfl⟩
instance stripS {c:Bool}{cs:List Bool}{v v':Value}[h:StripV cs v v']:StripV (c::cs) (gif c v) v':=⟨fun hc=>by
 have:c=true:=hc c (by simp);subst this;simp only[gif,cond_true];exact h.eq fun d hd=>hc d (by simp[hd])⟩
instance (priority:=500) stripN {cs:List Bool}{v:Value} : StripV cs v v:=⟨fun _=>rfl⟩
structure Cx where
 cs:List Bool
 l:List Value
class Ev (l:Cx)(x:Operand)(v:outParam Value):Prop where eq:(∀ c∈l.cs,c=true)→∀ ds,(Act.mk l.l.toArray ds).eval x=v
instance evT {cs:List Bool}{l:List Value}{n:Nat}{v v':Value}[h:Nth l n v][hs:StripV cs v v']:Ev ⟨cs,l⟩ (.tmp n) v':=⟨fun hc ds=>by
 have:=h.eq;rw[←hs.eq hc];simp[Act.eval,Array.getD_eq_getD_getElem?,this]⟩
instance evC {l:Cx}{v:Value} : Ev l (.const v) v:=⟨fun _ _=>rfl⟩
instance evF {l:Cx}{f:Nat} : Ev l (.func f) (.func (.func f) #[] #[]):=⟨fun _ _=>rfl⟩
class EvL (l:Cx)(xs:List Operand)(vs:outParam (List Value)):Prop where eq:(∀ c∈l.cs,c=true)→∀ ds,xs.map (Act.mk l.l.toArray ds).eval=vs
instance evl0 {l:Cx} : EvL l [] []:=⟨fun _ _=>rfl⟩
instance evl1 {l:Cx}{x:Operand}{xs:List Operand}{v:Value}{vs:List Value}[h:Ev l x v][h':EvL l xs vs]:EvL l (x::xs) (v::vs):=⟨fun hc ds=>by simp[h.eq hc,h'.eq hc]⟩
def Fr (ρ:Operand→Value)(l:Cx):Prop:=(∀ c∈l.cs,c=true)∧∃ ds,ρ=(Act.mk l.l.toArray ds).eval
theorem Fr.ev {ρ:Operand→Value}{l:Cx}(h:Fr ρ l){x:Operand}{v:Value}[e:Ev l x v]:ρ x=v:=by obtain ⟨hc,ds,rfl⟩:=h;exact e.eq hc ds
theorem Fr.evl {ρ:Operand→Value}{l:Cx}(h:Fr ρ l){xs:List Operand}{vs:List Value}[e:EvL l xs vs]:xs.map ρ=vs:=by obtain ⟨hc,ds,rfl⟩:=h;exact e.eq hc ds
theorem St.frc {w0 M0 ds a w l bs fs}(S:St w0 M0 ds a w l bs fs){cs:List Bool}(hc:∀ c∈cs,c=true):Fr a.eval ⟨cs,l⟩:=by
 obtain ⟨t,d⟩:=a;have:=S.slots;simp at this;subst this;exact ⟨hc,d,rfl⟩
theorem St.fr {w0 M0 ds a w l bs fs}(S:St w0 M0 ds a w l bs fs):Fr a.eval ⟨[],l⟩:=S.frc (by simp)
def xop (ρ : Operand → Value)(op : Op)(ty : TypeId) : Sem Next := execOp ρ { dst := none, op := op, type := ty, pos := "", after := #[], guard := none }
theorem execOp_eq (ρ:Operand→Value)(o:Oper):execOp ρ o=xop ρ o.op o.type:=by
 obtain ⟨d,op,ty,pos,af,g⟩:=o;cases op <;> rfl
def isDefer:Op→Bool
 | .defer _=>true
 | _=>false
theorem semAt_nd {r:Option Nat}{o:Oper}{ρ:Operand→Value}(h:isDefer o.op=false):o.semAt r ρ=xop ρ o.op o.type:=by
 rw[←execOp_eq];cases r with
 | none=>rfl
 | some k=>exact Oper.semAt_some k ρ o (by intro c hc;rw[hc]at h;cases h)
structure Mem (w:World)(bs:List Item)(fs:List (World→Prop)):Prop where
 held:∀ it∈bs,it.holds w
 facts:∀ Φ∈fs,Stable (foots bs) w Φ
theorem Wd.mem {w0 M0 w bs fs}(h:Wd w0 M0 w bs fs):Mem w bs fs:=⟨h.held,h.facts⟩
class OpQ (P:Program)(op:Op)(ty:TypeId)(l:Cx)(bs:List Item)(fs:List (World→Prop))(v:outParam Value):Prop where
 run:∀ (ρ:Operand→Value) (w:World),Fr ρ l→Mem w bs fs→(xop ρ op ty).run P w=.ok (.value v) w
class OpA (P:Program)(op:Op)(ty:TypeId)(l:Cx)(t:outParam TypeId)(cs:outParam (List Value)):Prop where
 run:∀ (ρ:Operand→Value) (w:World),Fr ρ l→(xop ρ op ty).run P w=.ok (.value (.pointer (some ⟨w.heap.size,0,none⟩))) (w.alloc (.cells cs.toArray t))
theorem St.put {w0 M0 ds a w l bs fs}(S:St w0 M0 ds a w l bs fs){d:Option Nat}{v:Value}{l':List Value}[h:PutO l d v l']:St w0 M0 ds (a.put d v) w l' bs fs:=by
 obtain ⟨t,dd⟩:=a;have:=S.slots;simp at this;subst this;have hd:=S.defers;simp at hd;subst hd;rw[h.eq];exact ⟨rfl,rfl,S.wd⟩
theorem Wd.step {w0 M0 w w' bs fs}(h:Wd w0 M0 w bs fs)(hw:Grow w w'):Wd w0 M0 w' bs fs where
 agree:=h.agree.trans' hw fun _ _ h=>h.elim
 held:=fun it hi=>h.loc it hi w w' (fun k hk=>hw.blk (h.lt it hi k hk) id) (h.held it hi)
 lt:=fun it hi k hk=>Nat.lt_of_lt_of_le (h.lt it hi k hk) hw.size
 own:=h.own
 apart:=h.apart
 facts:=fun Φ hΦ=>(h.facts Φ hΦ).later (hw.mono fun _ _ h=>h.elim)
 loc:=h.loc
theorem box_loc (b:Nat)(t:TypeId)(cs:List Value)(w1 w2:World)(h:∀ k,(box b t cs).foot k→w2.heap[k]? = w1.heap[k]?)(h1:(box b t cs).holds w1):(box b t cs).holds w2:=by
 have:=h b rfl;simp only[box]at *;rw[this];exact h1
theorem Wd.alloc {w0 M0 w bs fs}(h:Wd w0 M0 w bs fs)(t:TypeId)(cs:List Value):Wd w0 M0 (w.alloc (.cells cs.toArray t)) (box w.heap.size t cs::bs) fs:=by
 have h1:=h.step (Agree.alloc _ w (.cells cs.toArray t));refine ⟨h1.agree,?_,?_,?_,?_,?_,?_⟩;intro it hi;rcases List.mem_cons.1 hi with rfl | hi
 exact heap_alloc_new w _;exact h1.held it hi;intro it hi k hk;rcases List.mem_cons.1 hi with rfl | hi
 simp only[box]at hk;subst hk;simp;exact h1.lt it hi k hk;intro it hi ho k hk;rcases List.mem_cons.1 hi with rfl | hi
 simp only[box]at hk;subst hk;exact .inr h.agree.size;exact h.own it hi ho k hk;refine List.pairwise_cons.2 ⟨fun it hi k hk hk'=>?_,h.apart⟩;simp only[box]at hk;subst hk;exact absurd (h.lt it hi _ hk') (Nat.lt_irrefl _);intro Φ hΦ w' hw';refine h.facts Φ hΦ w' ((Agree.alloc _ w (.cells cs.toArray t)).trans' hw' fun i hi=>?_);rintro ⟨it,hm,hf⟩;rcases List.mem_cons.1 hm with rfl | hm
 simp only[box]at hf;omega;exact ⟨it,hm,hf⟩;intro it hi;rcases List.mem_cons.1 hi with rfl | hi
 exact box_loc _ _ _;exact h.loc it hi
section
variable {P:Program}{r:Option Nat}{ops:Array Oper}{Q:Exit→Act→World→Prop}{w0:World}{M0:Nat→Prop}{ds:List Deferred}{a:Act}{w:World}{l l':List Value}{bs:List Item}{fs:List (World→Prop)}
 {d:Option Nat} {op:Op} {ty:TypeId} {pos:String} {af:Array Edge} {rest:List Oper} {v:Value}
theorem wl_plain {o:Oper}(hg:o.guard=none)(h:o.uponIn (FW r) 0 P a (WL P r ops Q rest) Q ((o.semAt r a.eval).run P w)):WL P r ops Q (o::rest) a w:=
 wpListIn_plain hg fun K hK=>⟨fun _ _=>trivial,by
  revert h
  generalize (o.semAt (FW r).round a.eval).run P w=q
  intro h;cases q with
  | ok n w'=>
   cases n <;> simp only[Oper.uponIn]at h⊢<;> first | exact hK _ _ h | skip
   case enter f args=>
    refine ⟨h.1,h.2.1,fun cs hr=>?_⟩;obtain ⟨e,w',fr,hR,hc,hl⟩:=h.2.2 cs hr;refine ⟨e,w',fr,?_,hc,hl⟩;cases e <;> first | exact hK _ _ hR | exact hR
   case row row args=>
    exact ⟨h.1,h.2.mono fun v w' hv=>hK _ _ hv⟩
   case round l f tmps assign body=>
    refine ⟨h.1,h.2.mono fun e w' hv=>?_⟩;cases e <;> first | exact hK _ _ hv | exact hv
   all_goals exact h
  | halt x w'=>cases x <;> exact h⟩
theorem sq [hq:OpQ P op ty ⟨[],l⟩ bs fs v][hp:PutO l d v l'](S:St w0 M0 ds a w l bs fs)(K:∀ a,St w0 M0 ds a w l' bs fs→WL P r ops Q rest a w)(hnd:isDefer op=false:=by rfl):WL P r ops Q (⟨d,op,ty,pos,af,none⟩::rest) a w:=by
 refine wl_plain rfl ?_;rw[semAt_nd hnd];simp only[hq.run a.eval w S.fr S.wd.mem,Oper.uponIn];exact K _ S.put
theorem sa {t:TypeId}{cs:List Value}{l':Nat→List Value}[hq:OpA P op ty ⟨[],l⟩ t cs][hp:∀ b,PutO l d (.pointer (some ⟨b,0,none⟩)) (l' b)](S:St w0 M0 ds a w l bs fs)
  (K:∀ b a w,St w0 M0 ds a w (l' b) (box b t cs::bs) fs→WL P r ops Q rest a w) (hnd:isDefer op=false:=by rfl):WL P r ops Q (⟨d,op,ty,pos,af,none⟩::rest) a w:=by
 refine wl_plain rfl ?_;rw[semAt_nd hnd];simp only[hq.run a.eval w S.fr,Oper.uponIn];have:=hp w.heap.size;have S':=S.put (d:=d) (v:=.pointer (some ⟨w.heap.size,0,none⟩));exact K _ _ _ ⟨S'.slots,S'.defers,S'.wd.alloc t cs⟩
class Und (P:Program)(t:TypeId)(d:outParam TypeDesc):Prop where eq:P.underlying t=some d
class TI (P:Program)(t:TypeId)(z:outParam Value)(size bytes:outParam Nat):Prop where
 ex:∃ i,P.info? t=some i∧i.zero=some z∧i.size=size∧i.bytes=bytes
theorem ti_of {P:Program}{t:TypeId}{z:Value}{s b:Nat}(h:(P.info? t).map (fun i=>(i.zero,i.size,i.bytes))=some (some z,s,b)):TI P t z s b:=by
 cases hi:P.info? t with
 | none=>simp[hi]at h
 | some i=>simp[hi]at h;exact ⟨i,hi▸rfl,h.1,h.2.1,h.2.2⟩
theorem run_size {P:Program}{t:TypeId}{z:Value}{s b:Nat}[h:TI P t z s b](w:World):(sizeOf t).run P w=.ok s w:=by
 obtain ⟨i,hi,hz,hs,hb⟩:=h.ex;simp[sizeOf,typeInfo,Sem.run_bind,program,Sem.run,hi,hs]
theorem run_zero {P:Program}{t:TypeId}{z:Value}{s b:Nat}[h:TI P t z s b](w:World):(zeroValue t).run P w=.ok z w:=by
 obtain ⟨i,hi,hz,hs,hb⟩:=h.ex;simp[zeroValue,typeInfo,Sem.run_bind,program,Sem.run,hi,hz]
theorem run_und {P:Program}{t:TypeId}{d:TypeDesc}[h:Und P t d](w:World):(underlying t).run P w=.ok d w:=run_underlying h.eq w
class Cells (v:Value)(cs:outParam (List Value)):Prop where eq:v.cells.toList=cs
instance cellsA {cs:List Value} : Cells (.agg ⟨cs⟩) cs:=⟨rfl⟩
instance cellsI {k:IntKind}{n:Int} : Cells (.int k n) [.int k n]:=⟨rfl⟩
instance cellsB {b:Bool} : Cells (.bool b) [.bool b]:=⟨rfl⟩
instance cellsS {s:ByteArray} : Cells (.string s) [.string s]:=⟨rfl⟩
instance cellsP {p:Option Addr} : Cells (.pointer p) [.pointer p]:=⟨rfl⟩
instance cellsSl {p:Option Addr}{n c:Nat} : Cells (.slice p n c) [.slice p n c]:=⟨rfl⟩
end
def nthV:List Value→Nat→Value
 | [],_=>undef
 | v::_,0=>v
 | _::l,n+1=>nthV l n
def St.uu {w0:World}{M0:Nat→Prop}{ds:List Deferred}{a:Act}{w:World}{l:List Value}{bs:List Item}{fs:List (World→Prop)}(_:St w0 M0 ds a w l bs fs):Nat→Value:=nthV l
instance opMove {P ty}{l:Cx}{bs fs x v}[Ev l x v]:OpQ P (.move x) ty l bs fs v:=⟨fun ρ w h _=>by simp[xop,execOp,h.ev (x:=x) (v:=v)]⟩
instance opAssign {P ty l bs fs x v}[Ev l x v]:OpQ P (.assign x) ty l bs fs v:=⟨fun ρ w h _=>by simp[xop,execOp,h.ev (x:=x) (v:=v)]⟩
instance (priority:=1100) opPickF {P ty l bs fs c x y v}[Ev l c (.bool false)][Ev l y v]:OpQ P (.pick c x y) ty l bs fs v:=⟨fun ρ w h _=>by
 simp[xop,execOp,asBool,h.ev (x:=y) (v:=v),h.ev (x:=c) (v:=.bool false)]⟩
instance opAlloc {P:Program}{t ty:TypeId}{l:Cx}{z:Value}{s b:Nat}{cs:List Value}[TI P t z s b][hc:Cells z cs]:OpA P (.alloc t) ty l t cs:=⟨fun ρ w h=>by
 have:=hc.eq;simp[xop,execOp,Instr.alloc,run_zero,newVar,newRow,←this]⟩
instance opBox {P:Program}{t ty:TypeId}{l:Cx}{x:Operand}{v:Value}{cs:List Value}[Ev l x v][hc:Cells v cs]:OpA P (.box t x) ty l t cs:=⟨fun ρ w h=>by
 have:=hc.eq;simp[xop,execOp,Instr.box,newVar,newRow,←this,h.ev (x:=x) (v:=v)]⟩
class AggB (d:TypeDesc)(b:outParam Bool):Prop where eq:(match d with | .struct _ | .array _ _=>true | _=>false)=b
instance {k} : AggB (.int k) false:=⟨rfl⟩
instance:AggB .bool false:=⟨rfl⟩
instance:AggB .string false:=⟨rfl⟩
instance {e} : AggB (.pointer e) false:=⟨rfl⟩
instance {e} : AggB (.slice e) false:=⟨rfl⟩
class AggT (P:Program)(t:TypeId)(b:outParam Bool):Prop where run:∀ w,(isAgg t).run P w=.ok b w
instance {P t d b}[h:Und P t d][hb:AggB d b]:AggT P t b:=⟨fun w=>by
 have:=hb.eq;subst this;cases d <;> simp[isAgg,run_und,Sem.run_bind]⟩
class Fld (P:Program)(s f:Nat)(off ft:outParam Nat):Prop where
 ex:∃ fields F,P.underlying s=some (.struct fields)∧fields[f]? = some F∧F.offset=off∧F.type=ft∧((P.info? ft).map (fun i=>decide (i.size=0)))=some false
class HasBox (bs:List Item)(b:Nat)(t:outParam TypeId)(cs:outParam (List Value)):Prop where mem:box b t cs∈bs
instance hb0 {b t cs bs} : HasBox (box b t cs::bs) b t cs:=⟨List.mem_cons_self ..⟩
instance (priority:=900) hb1 {b t cs x bs}[h:HasBox bs b t cs]:HasBox (x::bs) b t cs:=⟨List.mem_cons_of_mem _ h.mem⟩
theorem Mem.box {w bs fs}(h:Mem w bs fs){b t cs}[hb:HasBox bs b t cs]:w.heap[b]? = some (.cells cs.toArray t (0,0)):=h.held _ hb.mem
theorem Mem.cell {w bs fs}(h:Mem w bs fs){b t cs}[hb:HasBox bs b t cs](i:Nat):w.cell? ⟨b,i,none⟩=cs[i]?:=by
 have:=cell_of_row w b i cs.toArray t (0,0) h.box;simpa using this
class TakeN (cs:List Value)(n:Nat)(vs:outParam (List Value)):Prop where eq:vs.length=n∧vs <+: cs
instance take0 {cs} : TakeN cs 0 []:=⟨rfl,List.nil_prefix⟩
instance takeS {c:Value}{cs vs n}[h:TakeN cs n vs]:TakeN (c::cs) (n+1) (c::vs):=⟨by simp[h.eq.1],by
 obtain ⟨t,ht⟩:=h.eq.2;exact ⟨t,by simp[ht]⟩⟩
class Seg (cs:List Value)(off n:Nat)(vs:outParam (List Value)):Prop where eq:vs.length=n∧∀ j,j < n→cs[off+j]? = vs[j]?
instance seg0 {cs n vs}[h:TakeN cs n vs]:Seg cs 0 n vs:=⟨h.eq.1,fun j hj=>by
 obtain ⟨t,rfl⟩:=h.eq.2;have:=h.eq.1;simp[List.getElem?_append,this,hj]⟩
instance segS {c:Value}{cs vs off n}[h:Seg cs off n vs]:Seg (c::cs) (off+1) n vs:=⟨h.eq.1,fun j hj=>by
 rw[←h.eq.2 j hj,show off+1+j=(off+j)+1 from by omega];rfl⟩
instance opLoad1 {P ty l bs fs t x b off bt cs v}[Ev l x (.pointer (some ⟨b,off,none⟩))][HasBox bs b bt cs][ha:AggT P t false][hn:Nth cs off v]:OpQ P (.load t x) ty l bs fs v:=⟨fun ρ w h m=>by
 have hc:=m.cell (b:=b) (t:=bt) (cs:=cs) off;rw[hn.eq]at hc;simp[xop,execOp,Instr.loadAt,h.ev (x:=x) (v:=.pointer (some ⟨b,off,none⟩)),Instr.sureAddr,loadVar,Sem.run_bind,ha.run,load,Sem.run,hc]⟩
instance opLoadA {P ty l bs fs t x b off bt cs vs z n by_}[Ev l x (.pointer (some ⟨b,off,none⟩))][HasBox bs b bt cs][ha:AggT P t true][TI P t z n by_][hn:Seg cs off n vs]:OpQ P (.load t x) ty l bs fs (.agg ⟨vs⟩):=⟨fun ρ w h m=>by
 have hl:(loadCells ⟨b,off,none⟩ n).run P w=.ok vs.toArray w:=by
  have:=run_loadCells_list (P:=P) w ⟨b,off,none⟩ vs (fun j v hj=>by
   have hjn:j < n:=by rw[←hn.eq.1];exact (List.getElem?_eq_some_iff.1 hj).1
   have e:(⟨b,off,none⟩:Addr).add j=⟨b,off+j,none⟩:=by unfold Addr.add;split <;> simp_all
   rw[e,m.cell (b:=b) (t:=bt) (cs:=cs),hn.eq.2 j hjn,hj])
  rw[hn.eq.1]at this;exact this
 simp[xop,execOp,Instr.loadAt,h.ev (x:=x) (v:=.pointer (some ⟨b,off,none⟩)),Instr.sureAddr,loadVar,Sem.run_bind,ha.run,run_size,hl]⟩
theorem run_fieldAt {P:Program}{s f off ft:Nat}[h:Fld P s f off ft](a:Addr)(w:World):(Instr.fieldAt s (.pointer (some a)) f).run P w=.ok (.pointer (some (a.add off))) w:=by
 obtain ⟨fields,F,hu,hf,rfl,rfl,hs⟩:=h.ex;cases hi:P.info? F.type with
 | none=>simp[hi]at hs
 | some i=>
  simp[hi]at hs;simp[Instr.fieldAt,run_underlying hu,Sem.run_bind,hf,Instr.sureAddr,fieldPlace,sizeOf,typeInfo,program,Sem.run,hi,hs]
instance (priority:=1100) opFieldAddr0 {P ty l bs fs s f x b off ft}[Ev l x (.pointer (some ⟨b,0,none⟩))][hf:Fld P s f off ft]:OpQ P (.fieldAddr s x f) ty l bs fs (.pointer (some ⟨b,off,none⟩)):=⟨fun ρ w h _=>by
 have e:(⟨b,0,none⟩:Addr).add off=⟨b,off,none⟩:=by unfold Addr.add;split <;> simp_all
 simp[xop,execOp,h.ev (x:=x) (v:=.pointer (some ⟨b,0,none⟩)),run_fieldAt (P:=P) (s:=s) (f:=f) (off:=off) (ft:=ft),e]⟩
instance opFieldAddr {P ty l bs fs s f x b k off ft}[Ev l x (.pointer (some ⟨b,k,none⟩))][hf:Fld P s f off ft]:OpQ P (.fieldAddr s x f) ty l bs fs (.pointer (some ⟨b,k+off,none⟩)):=⟨fun ρ w h _=>by
 have e:(⟨b,k,none⟩:Addr).add off=⟨b,k+off,none⟩:=by unfold Addr.add;split <;> simp_all
 simp[xop,execOp,h.ev (x:=x) (v:=.pointer (some ⟨b,k,none⟩)),run_fieldAt (P:=P) (s:=s) (f:=f) (off:=off) (ft:=ft),e]⟩
instance opNilP {P ty l bs fs x p}[Ev l x (.pointer (some p))]:OpQ P (.nilCheck x) ty l bs fs (.pointer (some p)):=⟨fun ρ w h _=>by
 simp[xop,execOp,h.ev (x:=x) (v:=.pointer (some p))]⟩
section ints
variable {P:Program}{ty:TypeId}{l:Cx}{bs:List Item}{fs:List (World→Prop)}{x y:Operand}{t t':TypeId}{k:IntKind}{m n:Int}
instance opAdd [Ev l x (.int k m)][Ev l y (.int k n)]:OpQ P (.binOp .add t x y t') ty l bs fs (.int k (k.wrap (m+n))):=⟨fun ρ w h _=>by
 simp[xop,execOp,h.ev (x:=x) (v:=.int k m),h.ev (x:=y) (v:=.int k n),eqGuard,binOp,Op.intArith]⟩
instance opSub [Ev l x (.int k m)][Ev l y (.int k n)]:OpQ P (.binOp .sub t x y t') ty l bs fs (.int k (k.wrap (m - n))):=⟨fun ρ w h _=>by
 simp[xop,execOp,h.ev (x:=x) (v:=.int k m),h.ev (x:=y) (v:=.int k n),eqGuard,binOp,Op.intArith]⟩
instance opMul [Ev l x (.int k m)][Ev l y (.int k n)]:OpQ P (.binOp .mul t x y t') ty l bs fs (.int k (k.wrap (m*n))):=⟨fun ρ w h _=>by
 simp[xop,execOp,h.ev (x:=x) (v:=.int k m),h.ev (x:=y) (v:=.int k n),eqGuard,binOp,Op.intArith]⟩
instance opEql [Ev l x (.int k m)][Ev l y (.int k n)]:OpQ P (.binOp .eql t x y t') ty l bs fs (.bool (decide (m=n))):=⟨fun ρ w h _=>by
 simp[xop,execOp,h.ev (x:=x) (v:=.int k m),h.ev (x:=y) (v:=.int k n),eqGuard,binOp,Op.intCmp];rfl⟩
instance opNeq [Ev l x (.int k m)][Ev l y (.int k n)]:OpQ P (.binOp .neq t x y t') ty l bs fs (.bool (!decide (m=n))):=⟨fun ρ w h _=>by
 simp[xop,execOp,h.ev (x:=x) (v:=.int k m),h.ev (x:=y) (v:=.int k n),eqGuard,binOp,Op.intCmp,bne,BEq.beq]⟩
instance opLss [Ev l x (.int k m)][Ev l y (.int k n)]:OpQ P (.binOp .lss t x y t') ty l bs fs (.bool (decide (m < n))):=⟨fun ρ w h _=>by
 simp[xop,execOp,h.ev (x:=x) (v:=.int k m),h.ev (x:=y) (v:=.int k n),eqGuard,binOp,Op.intCmp]⟩
instance opLeq [Ev l x (.int k m)][Ev l y (.int k n)]:OpQ P (.binOp .leq t x y t') ty l bs fs (.bool (decide (m≤n))):=⟨fun ρ w h _=>by
 simp[xop,execOp,h.ev (x:=x) (v:=.int k m),h.ev (x:=y) (v:=.int k n),eqGuard,binOp,Op.intCmp]⟩
instance opGtr [Ev l x (.int k m)][Ev l y (.int k n)]:OpQ P (.binOp .gtr t x y t') ty l bs fs (.bool (decide (n < m))):=⟨fun ρ w h _=>by
 simp[xop,execOp,h.ev (x:=x) (v:=.int k m),h.ev (x:=y) (v:=.int k n),eqGuard,binOp,Op.intCmp]⟩
instance opGeq [Ev l x (.int k m)][Ev l y (.int k n)]:OpQ P (.binOp .geq t x y t') ty l bs fs (.bool (decide (n≤m))):=⟨fun ρ w h _=>by
 simp[xop,execOp,h.ev (x:=x) (v:=.int k m),h.ev (x:=y) (v:=.int k n),eqGuard,binOp,Op.intCmp]⟩
instance opNot {b:Bool}[Ev l x (.bool b)]:OpQ P (.unOp .not t x) ty l bs fs (.bool (!b)):=⟨fun ρ w h _=>by
 simp[xop,execOp,h.ev (x:=x) (v:=.bool b),Op.unary]⟩
end ints
class OneC (v:Value):Prop where eq:v.oneCell'=true
instance {b} : OneC (.bool b):=⟨rfl⟩
instance {k n} : OneC (.int k n):=⟨rfl⟩
instance {s} : OneC (.string s):=⟨rfl⟩
instance {p} : OneC (.pointer p):=⟨rfl⟩
instance {p n c} : OneC (.slice p n c):=⟨rfl⟩
class Flat (vs:List Value):Prop where all:∀ v∈vs,v.oneCell'=true
instance flat0:Flat []:=⟨fun _ h=>by cases h⟩
instance flat1 {v vs}[h:OneC v][h':Flat vs]:Flat (v::vs):=⟨fun u hu=>by
 rcases List.mem_cons.1 hu with rfl | hu
 exact h.eq;exact h'.all u hu⟩
class SetFront (cs vs:List Value)(cs':outParam (List Value)):Prop where eq:vs.length≤cs.length∧vs++cs.drop vs.length=cs'
instance sf0 {cs} : SetFront cs [] cs:=⟨by simp⟩
instance sfS {c v cs vs cs'}[h:SetFront cs vs cs']:SetFront (c::cs) (v::vs) (v::cs'):=⟨by simpa using h.eq⟩
class SetSeg (cs:List Value)(off:Nat)(vs:List Value)(cs':outParam (List Value)):Prop where eq:off+vs.length≤cs.length∧cs.take off++vs++cs.drop (off+vs.length)=cs'
instance ss0 {cs vs cs'}[h:SetFront cs vs cs']:SetSeg cs 0 vs cs':=⟨by simpa using h.eq⟩
instance ssS {c cs off vs cs'}[h:SetSeg cs off vs cs']:SetSeg (c::cs) (off+1) vs (c::cs'):=⟨by
 obtain ⟨h1,h2⟩:=h.eq;refine ⟨by simp;omega,?_⟩;rw[←h2,show off+1+vs.length=(off+vs.length)+1 from by omega];simp⟩
class Repl (bs:List Item)(b:Nat)(t:outParam TypeId)(cs:outParam (List Value))(cs':List Value)(bs':outParam (List Item)):Prop where
 ex:∃ pre post,bs=pre++box b t cs::post∧bs'=pre++box b t cs'::post
instance rp0 {b t cs cs' bs} : Repl (box b t cs::bs) b t cs cs' (box b t cs'::bs):=⟨[],bs,rfl,rfl⟩
instance (priority:=900) rp1 {x b t cs cs' bs bs'}[h:Repl bs b t cs cs' bs']:Repl (x::bs) b t cs cs' (x::bs'):=⟨by
 obtain ⟨pre,post,rfl,rfl⟩:=h.ex;exact ⟨x::pre,post,rfl,rfl⟩⟩
theorem foots_repl {pre post:List Item}{x y:Item}(h:x.foot=y.foot):foots (pre++x::post)=foots (pre++y::post):=by
 funext k
 simp only[foots,List.mem_append,List.mem_cons,or_and_right,exists_or,exists_eq_left,h]
theorem Wd.store {w0 M0 w fs}{pre post:List Item}{b:Nat}{t:TypeId}{cs cs':List Value}(h:Wd w0 M0 w (pre++box b t cs::post) fs):Wd w0 M0 (w.setRow b cs'.toArray) (pre++box b t cs'::post) fs:=by
 have hm:box b t cs∈pre++box b t cs::post:=by simp
 have hb:w.heap[b]? = some (.cells cs.toArray t (0,0)):=h.held _ hm;have hsz:(w.setRow b cs'.toArray).heap.size=w.heap.size:=by simp[World.setRow]
 have hoth:∀ k,k≠b→(w.setRow b cs'.toArray).heap[k]? = w.heap[k]?:=fun k hk=>by
  simp[World.setRow,Array.getElem?_modify,Ne.symm hk]
 have hap:=List.pairwise_append.1 h.apart;have hap2:=List.pairwise_cons.1 hap.2.1;have hne:∀ it,it∈pre∨it∈post→∀ k,it.foot k→k≠b:=by
  rintro it (hi | hi) k hk rfl;exact hap.2.2 it hi (box k t cs) (by simp) k hk rfl;exact hap2.1 it hi k rfl hk
 have hin:∀ it,it∈pre∨it∈post→it∈pre++box b t cs::post:=fun it hi=>by rcases hi with hi | hi <;> simp[hi]
 have hkeep:∀ it,it∈pre∨it∈post→it.holds (w.setRow b cs'.toArray):=fun it hi=>
  h.loc it (hin it hi) w _ (fun k hk=>hoth k (hne it hi k hk)) (h.held it (hin it hi))
 have hfe:foots (pre++box b t cs'::post)=foots (pre++box b t cs::post):=foots_repl rfl;refine ⟨?_,?_,?_,?_,?_,?_,?_⟩;refine h.agree.trans' (N:=fun k=>k=b) (Agree.setRow w b _ rfl) fun k hk e=>?_
 subst e;rcases h.own _ hm rfl k rfl with h1 | h1
 exact h1;omega;intro it hi;rcases List.mem_append.1 hi with hi | hi
 exact hkeep it (.inl hi);rcases List.mem_cons.1 hi with rfl | hi
 exact setRow_heap w b cs.toArray _ t _ hb;exact hkeep it (.inr hi);intro it hi k hk;rw[hsz];rcases List.mem_append.1 hi with hi | hi
 exact h.lt it (by simp[hi]) k hk;rcases List.mem_cons.1 hi with rfl | hi
 exact h.lt _ hm k hk;exact h.lt it (by simp[hi]) k hk;intro it hi ho k hk;rcases List.mem_append.1 hi with hi | hi
 exact h.own it (by simp[hi]) ho k hk;rcases List.mem_cons.1 hi with rfl | hi
 exact h.own _ hm rfl k hk;exact h.own it (by simp[hi]) ho k hk;exact List.pairwise_append.2 ⟨hap.1,List.pairwise_cons.2 hap2,fun x hx y hy=>by
  rcases List.mem_cons.1 hy with rfl | hy
  exact hap.2.2 x hx (box b t cs) (by simp);exact hap.2.2 x hx y (by simp[hy])⟩
 intro Φ hΦ;rw[hfe];refine (h.facts Φ hΦ).later (Agree.setRow w b _ ⟨_,hm,rfl⟩);intro it hi;rcases List.mem_append.1 hi with hi | hi
 exact h.loc it (by simp[hi]);rcases List.mem_cons.1 hi with rfl | hi
 exact box_loc _ _ _;exact h.loc it (by simp[hi])
class LenIs (vs:List Value)(n:Nat):Prop where eq:vs.length=n
instance li0:LenIs [] 0:=⟨rfl⟩
instance liS {v vs n}[h:LenIs vs n]:LenIs (v::vs) (n+1):=⟨by simp[h.eq]⟩
class OpW (P:Program)(op:Op)(ty:TypeId)(l:Cx)(bs:List Item)(b:outParam Nat)(t:outParam TypeId)(cs cs':outParam (List Value))(bs':outParam (List Item)):Prop where
 run:∀ (ρ:Operand→Value) (w:World),Fr ρ l→w.heap[b]? = some (.cells cs.toArray t (0,0))→(xop ρ op ty).run P w=.ok .skip (w.setRow b cs'.toArray)
 repl:Repl bs b t cs cs' bs'
instance opStore {P:Program}{t ty bt:TypeId}{x y:Operand}{l:Cx}{bs bs':List Item}{b off n by_:Nat}{v z:Value}{vs cs cs':List Value}[Ev l x (.pointer (some ⟨b,off,none⟩))][Ev l y v][hc:Cells v vs][TI P t z n by_][hl:LenIs vs n][hf:Flat vs]
  [HasBox bs b bt cs] [hs:SetSeg cs off vs cs'] [hr:Repl bs b bt cs cs' bs']:OpW P (.store t x y) ty l bs b bt cs cs' bs':=⟨fun ρ w h hb=>by
 have e:=run_storeCells_at (P:=P) b off bt vs 0 cs.toArray w hb (by simpa using hs.eq.1) hf.all;simp only[Nat.add_zero]at e;rw[hs.eq.2]at e;have hcs:v.cells=vs.toArray:=by rw[←hc.eq]
 simp[xop,execOp,Instr.storeAt,h.ev (x:=x) (v:=.pointer (some ⟨b,off,none⟩)),h.ev (x:=y) (v:=v),Instr.sureAddr,storeVar,run_size,Sem.run_bind,hcs,hl.eq,e],hr⟩
section
variable {P:Program}{r:Option Nat}{ops:Array Oper}{Q:Exit→Act→World→Prop}{w0:World}{M0:Nat→Prop}{ds:List Deferred}{a:Act}{w:World}{l l':List Value}{bs bs':List Item}{fs:List (World→Prop)}
 {d:Option Nat} {op:Op} {ty:TypeId} {pos:String} {af:Array Edge} {rest:List Oper} {v:Value}
theorem sw {b:Nat}{t:TypeId}{cs cs':List Value}[hq:OpW P op ty ⟨[],l⟩ bs b t cs cs' bs'][hp:PutO l d undef l'](S:St w0 M0 ds a w l bs fs)
  (K:∀ a w,St w0 M0 ds a w l' bs' fs→WL P r ops Q rest a w) (hnd:isDefer op=false:=by rfl):WL P r ops Q (⟨d,op,ty,pos,af,none⟩::rest) a w:=by
 refine wl_plain rfl ?_;rw[semAt_nd hnd];obtain ⟨pre,post,e1,e2⟩:=hq.repl.ex;have hb:w.heap[b]? = some (.cells cs.toArray t (0,0)):=S.wd.held (box b t cs) (by rw[e1];simp);simp only[hq.run a.eval w S.fr hb,Oper.uponIn];have S':=S.put (d:=d) (v:=undef) (l':=l');have hwd:=S'.wd;rw[e1]at hwd;exact K _ _ ⟨S'.slots,S'.defers,by rw[e2];exact hwd.store⟩
theorem kN (h:Q .normal a w):WL P r ops Q [] a w:=h
theorem kS {x y:Code}(h:Wp P r x (Exit.then (Wp P r y Q) Q) a w):Wp P r (.seq x y) Q a w:=wpIn_seq h
theorem kR {id:Nat}{lo:List Oper}(h:WL P r lo.toArray Q lo a w):Wp P r (.region id lo.toArray false) Q a w:=wpIn_region_lit h
theorem kK (h:Q .normal a w):Wp P r .skip Q a w:=wpIn_skip h
theorem kT (h:Q .ret a w):Wp P r .ret Q a w:=wpIn_ret h
theorem kE {id:Nat}(h:Q (.exit id) a w):Wp P r (.exit id) Q a w:=wpIn_exit h
theorem kB {id:Nat}{c:Code}(h:Wp P r c (Exit.inBlock id Q) a w):Wp P r (.block id c) Q a w:=wpIn_block h
theorem kC {c:Operand}{x y:Code}{b:Bool}[he:Ev ⟨[],l⟩ c (.bool b)](S:St w0 M0 ds a w l bs fs)(ht:b=true→Wp P r x Q a w)(hf:b=false→Wp P r y Q a w):Wp P r (.cond c x y) Q a w:=
 wpIn_cond_split (t:=b) (S.fr.ev) ht hf
theorem enter {f:Nat}{fn:Func}{c:Code}{args:List Value}{l:List Value}{R:Ending→World→Prop}{M0:Nat→Prop}{bs:List Item}{fs:List (World→Prop)}
  (hf:P.funcs[f]? = some fn) (hb:fn.body=some c) (hl:args++List.replicate (fn.ntmps - args.length) undef=l) (hw:Wd w M0 w bs fs)
  (h:∀ a,St w M0 [] a w l bs fs→Wp P none c (bodyPost P fn R) a w):Calls P f args.toArray w R:=by
 refine calls_of_wp hf hb (wpIn_wide (n:=0).1 (h _ ⟨?_,rfl,hw⟩));simp[←hl]
theorem E1 {P:Program} {f:Nat} {fn:Func} {c:Code} {args:List Value} {m:Nat} {w:World} {M0:Nat→Prop} {bs:List Item} {fs:List (World→Prop)} {R:Ending→World→Prop} {C D:Act→Prop} (hf:P.funcs[f]? = some fn) (hb:fn.body=some c) (e:fn.ntmps=m) (hw:Wd w M0 w bs fs) (k:∀ a,C a→D a) (h:fn.ntmps=m→(∀ a,C a→D a)→∀ a,St w M0 [] a w (args++List.replicate (fn.ntmps-args.length) undef) bs fs→Wp P none c (bodyPost P fn R) a w:=by intro e K a S;simp only[e,qqA,qqB,Nat.reduceAdd,Nat.reduceSub,qqC,qqD,qqE,qqF]at S;exact K a S):Calls P f args.toArray w R:=enter hf hb rfl hw (h e k)
theorem Wd.start (w:World):Wd w (fun _=>False) w [] []:=⟨Agree.refl _ _,by simp,by simp,by simp,.nil,by simp,by simp⟩
def Ret (P:Program)(f:Nat)(args:List Value)(w:World)(M:Nat→Prop)(R:Value→World→Prop):Prop:=
 Calls P f args.toArray w fun e w'=>∃ v,e=.returned v∧Agree M w w'∧R v w'
theorem Ret.mono {P:Program}{f:Nat}{args:List Value}{w:World}{M:Nat→Prop}{R R':Value→World→Prop}(h:Ret P f args w M R)(hr:∀ v w',R v w'→R' v w'):Ret P f args w M R':=
 Calls.mono h fun _ _ ⟨v,e,ha,hv⟩=>⟨v,e,ha,hr _ _ hv⟩
theorem fin1 {fn:Func}{t:Nat}{R:Value→World→Prop}{M0:Nat→Prop}{v:Value}[hn:Nth l t v](S:St w0 M0 [] a w l bs fs)(h:Agree M0 w0 w→R v w)(hres:fn.results = #[.tmp t]:=by rfl) :
  bodyPost P fn (fun e w'=>∃ v,e=.returned v∧Agree M0 w0 w'∧R v w') .ret a w:=by
 refine bodyPost_ret (results_tmp hres _ _ _) S.defers ⟨_,rfl,S.wd.agree,?_⟩;have:=hn.eq;rw[S.slots];simpa [Array.getD_eq_getD_getElem?,this] using h S.wd.agree
theorem xtn {next:Act→World→Prop}(h:next a w):Exit.then next Q .normal a w:=h
theorem xtr {next:Act→World→Prop}(h:Q .ret a w):Exit.then next Q .ret a w:=h
theorem xte {next:Act→World→Prop}{id:Nat}(h:Q (.exit id) a w):Exit.then next Q (.exit id) a w:=h
theorem xbn {id:Nat}(h:Q .normal a w):Exit.inBlock id Q .normal a w:=h
theorem xbr {id:Nat}(h:Q .ret a w):Exit.inBlock id Q .ret a w:=h
theorem xbe {id:Nat}(h:Q .normal a w):Exit.inBlock id Q (.exit id) a w:=by simp only[Exit.inBlock,↓reduceIte];exact h
theorem xbx {id id':Nat}(h:Q (.exit id') a w)(hne:Nat.beq id' id=false:=by rfl):Exit.inBlock id Q (.exit id') a w:=by
 have:¬id'=id:=fun e=>by subst e;simp at hne
 simp only[Exit.inBlock,this,↓reduceIte];exact h
theorem c_condT {c:Operand}{x y:Code}[he:Ev ⟨[],l⟩ c (.bool true)](S:St w0 M0 ds a w l bs fs)(h:Wp P r x Q a w):Wp P r (.cond c x y) Q a w:=
 kC S (fun _=>h) (fun h=>by cases h)
theorem c_condF {c:Operand}{x y:Code}[he:Ev ⟨[],l⟩ c (.bool false)](S:St w0 M0 ds a w l bs fs)(h:Wp P r y Q a w):Wp P r (.cond c x y) Q a w:=
 kC S (fun h=>by cases h) (fun _=>h)
theorem c_label {n:Nat}(h:Q .normal a w):Wp P r (.label n) Q a w:=wpIn_label h
end
class EntF (P:Program)(f:Nat):Prop where run:Go.Proofs.Enters P f
class CallV (P:Program)(f:Nat)(args:List Value)(bs:List Item)(fs:List (World→Prop))(v:outParam Value):Prop where
 run:∀ w,Mem w bs fs→Ret P f args w (fun _=>False) (fun u _=>u=v)
instance opExtract {P ty l bs fs x i vs v}[Ev l x (.tuple ⟨vs⟩)][hn:Nth vs i v]:OpQ P (.extract x i) ty l bs fs v:=⟨fun ρ w h _=>by
 have:=hn.eq;simp[xop,execOp,h.ev (x:=x) (v:=.tuple ⟨vs⟩),Instr.extract,this]⟩
section
variable {P:Program}{r:Option Nat}{ops:Array Oper}{Q:Exit→Act→World→Prop}{w0:World}{M0:Nat→Prop}{ds:List Deferred}{a:Act}{w:World}{l l':List Value}{bs bs':List Item}{fs:List (World→Prop)}
 {d:Option Nat} {op:Op} {ty:TypeId} {pos:String} {af:Array Edge} {rest:List Oper} {v:Value} {f:Nat} {xs:List Operand} {args:List Value} {ts:Array TypeId}
theorem Wd.touch {pre post:List Item}{b:Nat}{t:TypeId}{cs cs':List Value}{w':World}(h:Wd w0 M0 w (pre++box b t cs::post) fs)(ha:Agree (fun k=>k=b) w w')(hb':w'.heap[b]? = some (.cells cs'.toArray t (0,0))) :
  Wd w0 M0 w' (pre++box b t cs'::post) fs:=by
 have hm:box b t cs∈pre++box b t cs::post:=by simp
 have h1:=h.store (cs':=cs');have hb:w.heap[b]? = some (.cells cs.toArray t (0,0)):=h.held _ hm;have hsz:(w.setRow b cs'.toArray).heap.size=w.heap.size:=by simp[World.setRow]
 refine h1.step ⟨ha.1,ha.2.1,ha.2.2.1,by rw[hsz];exact ha.size,fun k hk _=>?_⟩;rw[hsz]at hk
 by_cases e:k=b
 subst e;rw[hb',setRow_heap w k cs.toArray _ t _ hb];rw[ha.blk hk e];simp[World.setRow,Array.getElem?_modify,Ne.symm e]
theorem least {p:Nat→Prop} : ∀ n,p n→∃ m,p m∧∀ k,p k→m≤k:=by
 intro n
 induction n using Nat.strongRecOn with
 | _ n ih=>
  intro hn
  by_cases h:∃ k,k < n∧p k
  ·obtain ⟨k,hk,hp⟩:=h;exact ih k hk hp
  ·exact ⟨n,hn,fun k hk=>Nat.le_of_not_lt fun hlt=>h ⟨k,hlt,hk⟩⟩
theorem c_loop {c:Code}{ι:Type}(I:ι→Act→World→Prop)(μ:ι→Nat)(i:ι)(h0:I i a w)
  (hr:∀ i a w,I i a w→Wp P r c (Exit.then (fun a' w'=>∃ j,I j a' w'∧μ j < μ i) Q) a w):Wp P r (.loop c) Q a w:=by
 let p:Act→World→Nat→Prop:=fun a w n=>∃ i,I i a w∧μ i=n
 have hmin:∀ a w,(∃ i,I i a w)→∃ m,p a w m∧∀ k,p a w k→m≤k:=fun a w ⟨i,hi⟩=>least (μ i) ⟨i,hi,rfl⟩
 let m:Act→World→Nat:=fun a w=>open Classical in if h:∃ i,I i a w then Classical.choose (hmin a w h) else 0
 have hm:∀ a w (h:∃ i,I i a w),p a w (m a w)∧∀ k,p a w k→m a w≤k:=fun a w h=>by
  have e:m a w=Classical.choose (hmin a w h):=by simp only[m];rw[dif_pos h]
  rw[e];exact Classical.choose_spec (hmin a w h)
 refine wpIn_loop (fun a w=>∃ i,I i a w) m ⟨i,h0⟩ fun a w h=>?_
 obtain ⟨⟨i,hi,hmi⟩,_⟩:=hm a w h;refine wpIn_mono (hr i a w hi) fun e a' w' hq=>?_
 cases e <;> first | exact hq | skip
 obtain ⟨j,hj,hlt⟩:=hq;exact ⟨⟨j,hj⟩,by have:=(hm a' w' ⟨j,hj⟩).2 (μ j) ⟨j,hj,rfl⟩;omega⟩
end
theorem aggT_of {P:Program}{t:TypeId}{b:Bool}(h:(P.underlying t).map (fun d=>match d with | .struct _ | .array _ _=>true | _=>false)=some b):AggT P t b:=⟨fun w=>by
 cases hu:P.underlying t with
 | none=>simp[hu]at h
 | some d=>simp[hu]at h;subst h;cases d <;> simp[isAgg,run_underlying hu,Sem.run_bind]⟩
theorem fld_of {P:Program}{s f off ft:Nat}(h:((P.underlying s).bind fun d=>match d with | .struct fs=>(fs[f]?).map (fun F=>(F.offset,F.type,((P.info? F.type).map (fun i=>decide (i.size=0))))) | _=>none)=some (off,ft,some false)):Fld P s f off ft:=by
 cases hu:P.underlying s with
 | none=>simp[hu]at h
 | some d=>
  simp only[hu,Option.bind_some]at h;cases d <;> simp only[reduceCtorEq]at h
  rename_i fs
  cases hf:fs[f]? with
  | none=>simp[hf]at h
  | some F=>simp[hf]at h;exact ⟨fs,F,hu,hf,h.1,h.2.1,by obtain ⟨rfl,rfl,x,hx,hx'⟩:=h;simp[hx];simpa using hx'⟩
class Conds (G:Value)(pol:Bool)(cs:outParam (List Bool)):Prop where
 eq:(match G with | .bool b=>some b | _=>none)=some pol↔∀ c∈cs,c=true
instance conds1 {b:Bool} : Conds (.bool b) true [b]:=⟨by simp⟩
instance conds2 {b:Bool} : Conds (.bool b) false [!b]:=⟨by simp⟩
instance condsS {c:Bool}{G:Value}{pol:Bool}{cs:List Bool}[h:Conds G pol cs]:Conds (gif c G) pol (c::cs):=⟨by
 cases c;simp[gif,undef];simpa [gif] using h.eq⟩
class GifV (cs:List Bool)(v:Value)(v':outParam Value):Prop where eq:v'=if ∀ c∈cs,c=true then v else undef
instance gif0 {v:Value} : GifV [] v v:=⟨by simp⟩
instance gifS {c:Bool}{cs:List Bool}{v v':Value}[h:GifV cs v v']:GifV (c::cs) v (gif c v'):=⟨by
 rw[h.eq];cases c <;> simp[gif]⟩
instance opPickAnd {P ty l bs fs c x y b e}[Ev l c (.bool b)][Ev l x (gif b (.bool e))][Ev l y (.bool false)]:OpQ P (.pick c x y) ty l bs fs (.bool (b&&e)):=⟨fun ρ w h _=>by
 cases b <;> simp[xop,execOp,asBool,h.ev (x:=x) (v:=gif _ (.bool e)),h.ev (x:=y) (v:=.bool false),h.ev (x:=c) (v:=.bool _),gif]⟩
instance opPickOr {P ty l bs fs c x y b e}[Ev l c (.bool b)][Ev l x (.bool true)][Ev l y (gif (!b) (.bool e))]:OpQ P (.pick c x y) ty l bs fs (.bool (b||e)):=⟨fun ρ w h _=>by
 cases b <;> simp[xop,execOp,asBool,h.ev (x:=y) (v:=gif _ (.bool e)),h.ev (x:=x) (v:=.bool true),h.ev (x:=c) (v:=.bool _),gif]⟩
class DstAt (lo:List Oper)(j:Nat)(g:outParam Nat):Prop where eq:(lo[j]?).bind (·.dst)=some g
instance dst0 {g:Nat}{op:Op}{ty:TypeId}{pos:String}{af:Array Edge}{gd:Option (Nat × Bool)}{lo:List Oper} : DstAt (⟨some g,op,ty,pos,af,gd⟩::lo) 0 g:=⟨rfl⟩
instance dstS {o:Oper}{lo:List Oper}{j g:Nat}[h:DstAt lo j g]:DstAt (o::lo) (j+1) g:=⟨by simpa using h.eq⟩
class GSlot (ops:Array Oper)(j:Nat)(g:outParam Nat):Prop where eq:(ops[j]?).bind (·.dst)=some g
instance gslot {lo:List Oper}{j g:Nat}[h:DstAt lo j g]:GSlot lo.toArray j g:=⟨by simpa using h.eq⟩
section
variable {P:Program}{r:Option Nat}{ops:Array Oper}{Q:Exit→Act→World→Prop}{w0:World}{M0:Nat→Prop}{ds:List Deferred}{a:Act}{w:World}{l l':List Value}{bs bs':List Item}{fs:List (World→Prop)}
 {d:Option Nat} {op:Op} {ty:TypeId} {pos:String} {af:Array Edge} {rest:List Oper} {v v' G:Value} {j g:Nat} {pol:Bool} {cs:List Bool}
theorem wanted_iff (S:St w0 M0 ds a w l bs fs)(hg:(ops[j]?).bind (·.dst)=some g)[hn:Nth l g G][hc:Conds G pol cs] :
  Region.wanted ⟨d,op,ty,pos,af,some (j,pol)⟩ (yielded ops a.tmps)=true↔∀ c∈cs,c=true:=by
 rw[←hc.eq];have e:a.tmps[g]? = some G:=by rw[S.slots];simpa using hn.eq
 have hy:yielded ops a.tmps j=match G with | .bool b=>some b | _=>none:=by
  simp only[yielded,hg,Option.bind_some,e];cases G <;> rfl
 simp only[Region.wanted,hy];cases G <;> simp
theorem wl_guard {o:Oper}(ht:Region.wanted o (yielded ops a.tmps)=true→WL P r ops Q ({ o with guard:=none }::rest) a w)
  (hf:Region.wanted o (yielded ops a.tmps)=false→WL P r ops Q rest (a.put o.dst undef) w):WL P r ops Q (o::rest) a w:=by
 by_cases hw:Region.wanted o (yielded ops a.tmps)=true
 have:=ht hw;simp only[WL,wpListIn]at this⊢;rw[if_pos hw];rw[if_pos (by simp[Region.wanted])]at this;obtain ⟨d,op,ty,pos,af,gd⟩:=o;exact ⟨fun _ _=>trivial,by have h2:=this.2;rw[show ∀ ro ρ,Oper.semAt ro ρ ⟨d,op,ty,pos,af,none⟩=Oper.semAt ro ρ ⟨d,op,ty,pos,af,gd⟩ from fun ro ρ=>by cases ro <;> cases op <;> rfl]at h2;exact h2⟩;have hw':Region.wanted o (yielded ops a.tmps)=false:=by simpa using hw
 simp only[WL,wpListIn];rw[if_neg hw];exact ⟨fun _ _=>trivial,hf hw'⟩
theorem gQ [hg:GSlot ops j g][hn:Nth l g G][hc:Conds G pol cs][hq:OpQ P op ty ⟨cs,l⟩ bs fs v][hv:GifV cs v v'][hp:PutO l d v' l'](S:St w0 M0 ds a w l bs fs)(K:∀ a,St w0 M0 ds a w l' bs fs→WL P r ops Q rest a w)
  (hnd:isDefer op=false:=by rfl):WL P r ops Q (⟨d,op,ty,pos,af,some (j,pol)⟩::rest) a w:=by
 have hw:=wanted_iff (ops:=ops) (d:=d) (op:=op) (ty:=ty) (pos:=pos) (af:=af) (pol:=pol) S hg.eq;have S':=S.put (d:=d) (v:=v') (l':=l');refine wl_guard (fun ht=>?_) (fun hf=>?_);have hall:=hw.1 ht;refine wl_plain rfl ?_;rw[semAt_nd hnd];simp only[hq.run a.eval w (S.frc hall) S.wd.mem,Oper.uponIn];rw[show v=v' from by rw[hv.eq,if_pos hall]];exact K _ S';have hall:¬∀ c∈cs,c=true:=fun h=>by rw[hw.2 h]at hf;cases hf
 have e:=hv.eq;rw[if_neg hall]at e;rw[←e];exact K _ S'
end
section
variable {P:Program}{ops:Array Oper}{md:Region.Mode}{C:World→Prop}
abbrev WN (P:Program)(ops:Array Oper)(i:Nat)(K:Act→World→Prop)(a:Act)(w:World):Prop:=wpOpIn (FW none) 0 P ops (fun _ _ _=>False) i K a w
def YieldsC (P:Program)(ops:Array Oper)(C:World→Prop)(o:Oper)(v:Value)(a:Act):Prop:=
 (Region.wanted o (yielded ops a.tmps)=true∧∀ w,C w→(execOp a.eval o).run P w=.ok (.value v) w)∨
 (Region.wanted o (yielded ops a.tmps)=false∧v=undef)
theorem YieldsC.wn {i:Nat}{o:Oper}{v:Value}{a:Act}(hi:ops[i]? = some o)(hy:YieldsC P ops C o v a)
  {K:Act→World→Prop} {w:World} (hC:C w) (h:K (a.put o.dst v) w):WN P ops i K a w:=by
 unfold WN wpOpIn;simp only[hi];rcases hy with ⟨hw,hv⟩ | ⟨hw,rfl⟩
 simp only[hw,if_true,Oper.wpIn,Oper.semAt_none,hv w hC,Oper.uponIn];exact ⟨fun _ _=>trivial,h⟩;simp only[hw,Bool.false_eq_true,if_false];exact ⟨fun _ _=>trivial,h⟩
theorem YieldsC.of_same {o:Oper}{v:Value}{a a':Act}(hy:YieldsC P ops C o v a)(he:execOp a'.eval o=execOp a.eval o)
  (hw:Region.wanted o (yielded ops a'.tmps)=Region.wanted o (yielded ops a.tmps)):YieldsC P ops C o v a':=by
 unfold YieldsC at *;rw[he,hw];exact hy
theorem wn_put {j:Nat}{oi oj:Oper}{v:Value}(hj:ops[j]? = some oj)(hap:oi.apart ops oj=true)
  (hsi:∀ cs b,oi.op≠.select cs b) (hsj:∀ cs b,oj.op≠.select cs b) {K:Act→World→Prop} {a:Act} {w:World}
  (hy:YieldsC P ops C oi v a) (h:WN P ops j K (a.put oi.dst v) w) :
  WN P ops j (fun a' w'=>YieldsC P ops C oi v a'∧K (a'.put oi.dst v) w') a w:=by
 obtain ⟨h1,h2,h3⟩:=Oper.apart_spec hap;have keep:∀ (a:Act),YieldsC P ops C oi v a→∀ u,YieldsC P ops C oi v (a.put oj.dst u):=fun a hy u=>
  hy.of_same (execOp_put oi hsi a oj.dst u h3) (wanted_put oi a oj.dst u h3)
 have keepD:∀ d,YieldsC P ops C oi v { a with defers:=d::a.defers }:=fun d=>hy.of_same rfl rfl
 unfold WN wpOpIn at *;simp only[hj]at *;rw[wanted_put oj a oi.dst v h1]at h;split
 ·rename_i hw
  simp only[hw,if_true]at h;unfold Oper.wpIn at *;refine ⟨fun _ _=>trivial,?_⟩;have h:=h.2;rw[Oper.semAt_none,execOp_put oj hsj a oi.dst v h1]at h;rw[Oper.semAt_none]
  generalize (execOp a.eval oj).run P w=r at *
  cases r with
  | ok x w'=>
   cases x <;> simp only[Oper.uponIn]at h⊢
   case value u=>exact ⟨keep a hy u,by rw[←Act.put_comm a v u h2];exact h⟩
   case skip=>exact ⟨keep a hy _,by rw[←Act.put_comm a v undef h2];exact h⟩
   case defer d=>
    refine ⟨keep _ (keepD d) _,?_⟩;rw[←Act.put_comm _ v undef h2,←Act.put_defers];exact h
   case enter f args=>
    refine ⟨h.1,CallsIn.mono h.2 fun e w'' he=>?_⟩;cases e with
    | returned u=>exact ⟨keep a hy u,by rw[←Act.put_comm a v u h2];exact he⟩
    | panicked c=>exact he
    | outgrown=>exact he
   case row row args=>exact ⟨h.1,RowsIn.mono h.2 fun u w'' he=>⟨keep a hy u,by rw[←Act.put_comm a v u h2];exact he⟩⟩
   case round l f tmps assign body=>
    refine ⟨h.1,RoundIn.mono h.2 fun e w'' he=>?_⟩;cases e with
    | returned u=>exact ⟨keep a hy u,by rw[←Act.put_comm a v u h2];exact he⟩
    | panicked c=>exact he
    | outgrown=>exact he
  | halt x w'=>
   cases x <;> simp only[Oper.uponIn]at h⊢
 ·rename_i hw
  simp only[hw]at h;exact ⟨fun _ _=>trivial,keep a hy _,by rw[←Act.put_comm a v undef h2];exact h.2⟩
def AC (P:Program)(ops:Array Oper)(C:World→Prop)(R:Act→World→Prop):Nat→Array Bool→Act→World→Prop
 | 0,listed,a,w=>Region.ready .any ops listed=[]∧R a w
 | fuel+1,listed,a,w=>
  (Region.ready .any ops listed=[]→R a w)∧
  ∀ i∈Region.ready .any ops listed,WN P ops i (fun a' w'=>C w'∧AC P ops C R fuel (listed.setIfInBounds i true) a' w') a w
variable {R:Act→World→Prop}
theorem ac_first {i:Nat}{oi:Oper}{v:Value}(hi:ops[i]? = some oi)(hsel:∀ (j:Nat) (o:Oper) cs b,ops[j]? = some o→o.op≠.select cs b) :
  ∀ (fuel:Nat) (listed:Array Bool) (a:Act) (w:World),
   (∀ j oj,ops[j]? = some oj→j≠i→listed.getD j true=false→(∀ e∈oj.after,Region.binds .any e=true→e.on≠i)→oi.apart ops oj=true)→
   i∈Region.ready .any ops listed→YieldsC P ops C oi v a→C w→
   AC P ops C R fuel (listed.setIfInBounds i true) (a.put oi.dst v) w→AC P ops C R (fuel+1) listed a w:=by
 intro fuel
 induction fuel with
 | zero=>
  intro listed a w _ hr hy hS H;refine ⟨fun h=>(by rw[h]at hr;cases hr),fun j hj=>?_⟩
  by_cases hji:j=i
  ·subst hji;exact hy.wn hi hS ⟨hS,H⟩
  ·have:=ready_mono hj hji
   rw[H.1]at this;cases this
 | succ fuel ih=>
  intro listed a w hfree hr hy hS H;refine ⟨fun h=>(by rw[h]at hr;cases hr),fun j hj=>?_⟩
  by_cases hji:j=i
  ·subst hji;exact hy.wn hi hS ⟨hS,H⟩
  ·have h1:=H.2 j (ready_mono hj hji)
   obtain ⟨hjun,oj,hoj,hall⟩:=mem_ready.1 hj;have hnot:∀ e∈oj.after,Region.binds .any e=true→e.on≠i:=fun e he hb heq=>by
    have h1:=hall e he hb;have h0:=(mem_ready.1 hr).1;rw[heq]at h1;rcases Nat.lt_or_ge i listed.size with h' | h'
    ·simp[h']at h0 h1;rw[h0]at h1;cases h1
    ·simp[Array.getElem?_eq_none h']at h1
   have h2:=wn_put hoj (hfree j oj hoj hji hjun hnot) (fun cs b=>hsel i oi cs b hi) (fun cs b=>hsel j oj cs b hoj) hy h1;have hfree':∀ k ok,ops[k]? = some ok→k≠i→(listed.setIfInBounds j true).getD k true=false→
     (∀ e∈ok.after,Region.binds .any e=true→e.on≠i)→oi.apart ops ok=true:=fun k ok hk hki hun hno=>by
    refine hfree k ok hk hki ?_ hno
    by_cases hjk:j=k
    ·subst hjk;exact hjun
    ·rw[getD_set_ne true hjk]at hun;exact hun
   refine wpOpIn_mono (fun a' w' h3=>⟨h3.2.1,ih (listed.setIfInBounds j true) a' w' hfree' (ready_mono hr (Ne.symm hji)) h3.1 h3.2.1 ?_⟩) h2;rw[Array.setIfInBounds_comm _ _ hji];exact h3.2.2
class OpAt (ops:Array Oper)(i:Nat)(o:outParam Oper):Prop where eq:ops[i]? = some o
class OpAtL (lo:List Oper)(i:Nat)(o:outParam Oper):Prop where eq:lo[i]? = some o
instance opat0 {o:Oper}{lo:List Oper} : OpAtL (o::lo) 0 o:=⟨rfl⟩
instance opatS {o o':Oper}{lo:List Oper}{i:Nat}[h:OpAtL lo i o]:OpAtL (o'::lo) (i+1) o:=⟨by simpa using h.eq⟩
instance opat {lo:List Oper}{i:Nat}{o:Oper}[h:OpAtL lo i o]:OpAt lo.toArray i o:=⟨by simpa using h.eq⟩
class SubL {α:Type}(x y:List α):Prop where sub:x.Sublist y
instance subLr {α:Type}{x:List α} : SubL x x:=⟨.refl _⟩
instance subLn {α:Type}{y:List α} : SubL [] y:=⟨List.nil_sublist _⟩
instance (priority:=950) subLm {α:Type}{x y:List α}{u:α}[h:SubL x y]:SubL (u::x) (u::y):=⟨.cons_cons _ h.sub⟩
instance (priority:=900) subLc {α:Type}{x y:List α}{u:α}[h:SubL x y]:SubL x (u::y):=⟨.cons _ h.sub⟩
theorem Wd.sub {w0 M0 w bs fs}{bs0:List Item}{fs0:List (World→Prop)}(h:Wd w0 M0 w bs fs)(hb:bs0.Sublist bs)(hf:fs0.Sublist fs):Wd w0 M0 w bs0 fs0:=
 ⟨h.agree,fun it hi=>h.held it (hb.subset hi),fun it hi=>h.lt it (hb.subset hi),fun it hi=>h.own it (hb.subset hi),h.apart.sublist hb,
  fun Φ hΦ=>(h.facts Φ (hf.subset hΦ)).less fun _ _ ⟨it,hi,hk⟩=>⟨it,hb.subset hi,hk⟩,fun it hi=>h.loc it (hb.subset hi)⟩
variable {r:Option Nat}{Q:Exit→Act→World→Prop}{w0:World}{M0:Nat→Prop}{ds:List Deferred}{a:Act}{w:World}{l l':List Value}{bs bs' bs0:List Item}{fs fs0:List (World→Prop)}
 {d:Option Nat} {op:Op} {ty:TypeId} {pos:String} {af:Array Edge} {rest:List Oper} {v v' G:Value} {j g:Nat} {pol:Bool} {cs:List Bool} {n:Nat} {listed:Array Bool}
def flowFrom (ops:Array Oper):List (Nat × Bool)→Array Bool→Bool
 | [],listed=>(Region.ready .any ops listed).isEmpty
 | (i,true)::ord,listed=>((Region.ready .any ops listed).contains i&&Region.free .any ops listed i)&&flowFrom ops ord (listed.setIfInBounds i true)
 | (i,false)::ord,listed=>(match Region.ready .any ops listed with | [j]=>Nat.beq j i | _=>false)&&flowFrom ops ord (listed.setIfInBounds i true)
def AQ (P:Program)(ops:Array Oper)(C:World→Prop)(R:Act→World→Prop)(ord:List (Nat × Bool))(a:Act)(w:World):Prop:=
 ∀ listed,Region.noSelect ops=true→flowFrom ops ord listed=true→AC P ops C R ord.length listed a w
variable {ord:List (Nat × Bool)}{i:Nat}
theorem dq (S:St w0 M0 ds a w l bs fs)[hb:SubL bs0 bs][hf:SubL fs0 fs][ho:OpAt ops i ⟨d,op,ty,pos,af,none⟩][hq:OpQ P op ty ⟨[],l⟩ bs0 fs0 v][hp:PutO l d v l']
  (K:∀ a,St w0 M0 ds a w l' bs fs→AQ P ops (fun w=>Wd w0 M0 w bs0 fs0) R ord a w) :
  AQ P ops (fun w=>Wd w0 M0 w bs0 fs0) R ((i,true)::ord) a w:=by
 intro listed hs hflow;simp only[flowFrom,Bool.and_eq_true]at hflow;refine ac_first ho.eq (Region.noSelect_spec hs) _ listed a w (Region.free_spec ho.eq hflow.1.2) (by simpa using hflow.1.1) (v:=v) (.inl ⟨rfl,fun w' hw'=>?_⟩) (S.wd.sub hb.sub hf.sub) (K _ S.put _ hs hflow.2);rw[execOp_eq];exact hq.run a.eval w' S.fr hw'.mem
theorem dqG (S:St w0 M0 ds a w l bs fs)[hb:SubL bs0 bs][hf:SubL fs0 fs][ho:OpAt ops i ⟨d,op,ty,pos,af,some (j,pol)⟩][hg:GSlot ops j g][hn:Nth l g G][hc:Conds G pol cs][hq:OpQ P op ty ⟨cs,l⟩ bs0 fs0 v][hv:GifV cs v v'][hp:PutO l d v' l']
  (K:∀ a,St w0 M0 ds a w l' bs fs→AQ P ops (fun w=>Wd w0 M0 w bs0 fs0) R ord a w) :
  AQ P ops (fun w=>Wd w0 M0 w bs0 fs0) R ((i,true)::ord) a w:=by
 intro listed hs hflow;simp only[flowFrom,Bool.and_eq_true]at hflow;have hw:=wanted_iff (ops:=ops) (d:=d) (op:=op) (ty:=ty) (pos:=pos) (af:=af) (pol:=pol) S hg.eq;refine ac_first ho.eq (Region.noSelect_spec hs) _ listed a w (Region.free_spec ho.eq hflow.1.2) (by simpa using hflow.1.1) (v:=v') ?_ (S.wd.sub hb.sub hf.sub) (K _ S.put _ hs hflow.2)
 by_cases hall:∀ c∈cs,c=true
 refine .inl ⟨hw.2 hall,fun w' hw'=>?_⟩;rw[execOp_eq,hv.eq,if_pos hall];exact hq.run a.eval w' (S.frc hall) hw'.mem;exact .inr ⟨by
  cases hx:Region.wanted _ (yielded ops a.tmps) with
  | true=>exact absurd (hw.1 hx) hall
  | false=>rfl,by rw[hv.eq,if_neg hall]⟩
theorem dl {o:Oper}{C:World→Prop}[ho:OpAt ops i o](h:WL P none ops (fun e a' w'=>e=.normal∧C w'∧AQ P ops C R ord a' w') [o] a w):AQ P ops C R ((i,false)::ord) a w:=by
 intro listed hs hflow;simp only[flowFrom,Bool.and_eq_true]at hflow;have hr:Region.ready .any ops listed=[i]:=by
  have:=hflow.1;split at this
  ·rename_i k hk;rw[hk,Nat.eq_of_beq_eq_true this]
  ·cases this
 refine ⟨fun h0=>(by rw[h0]at hr;cases hr),fun k hk=>?_⟩;rw[hr]at hk;obtain rfl:k=i:=by simpa using hk
 unfold WN wpOpIn;simp only[ho.eq];simp only[WL,wpListIn]at h;split
 ·rename_i hw
  rw[if_pos hw]at h;refine ⟨fun _ _=>trivial,?_⟩;have h:=h.2
  generalize (o.semAt (FW none).round a.eval).run P w=q at *
  cases q with
  | ok x w'=>
   cases x <;> simp only[Oper.uponIn]at h⊢
   case value u=>exact ⟨h.2.1,h.2.2 _ hs hflow.2⟩
   case skip=>exact ⟨h.2.1,h.2.2 _ hs hflow.2⟩
   case defer d=>exact ⟨h.2.1,h.2.2 _ hs hflow.2⟩
   case enter f args=>
    refine ⟨h.1,CallsIn.mono h.2 fun e w'' he=>?_⟩;cases e with
    | returned u=>exact ⟨he.2.1,he.2.2 _ hs hflow.2⟩
    | panicked c=>exact absurd he.1 (by simp)
    | outgrown=>obtain ⟨_,_,he,_⟩:=he;exact absurd he (by simp)
   case row row args=>exact ⟨h.1,RowsIn.mono h.2 fun u w'' he=>⟨he.2.1,he.2.2 _ hs hflow.2⟩⟩
   case round l f tmps assign body=>
    refine ⟨h.1,RoundIn.mono h.2 fun e w'' he=>?_⟩;cases e with
    | returned u=>exact ⟨he.2.1,he.2.2 _ hs hflow.2⟩
    | panicked c=>exact absurd he.1 (by simp)
    | outgrown=>obtain ⟨_,_,he,_⟩:=he;exact absurd he (by simp)
  | halt x w'=>
   cases x <;> simp only[Oper.uponIn]at h⊢
   case panic u=>exact absurd h.1 (by simp)
 ·rename_i hw
  rw[if_neg hw]at h;exact ⟨fun _ _=>trivial,h.2.2.1,h.2.2.2 _ hs hflow.2⟩
theorem de [hb:SubL bs0 bs][hf:SubL fs0 fs](S:St w0 M0 ds a w l bs fs)(h:AQ P ops (fun w=>Wd w0 M0 w bs0 fs0) R ord a w):WL P none ops (fun e a' w'=>e=.normal∧Wd w0 M0 w' bs0 fs0∧AQ P ops (fun w=>Wd w0 M0 w bs0 fs0) R ord a' w') [] a w:=
 kN ⟨rfl,S.wd.sub hb.sub hf.sub,h⟩
theorem dn {C:World→Prop}(h:R a w):AQ P ops C R [] a w:=by
 intro listed hs hflow;have hr:Region.ready .any ops listed=[]:=by simpa [flowFrom] using hflow
 exact ⟨hr,h⟩
theorem semAt_any {o:Oper}{ρ:Operand→Value}(h:isDefer o.op=false):o.semAt r ρ=o.semAt none ρ:=by rw[semAt_nd h,semAt_nd h]
theorem wn_round {i:Nat}{K:Act→World→Prop}(hd:∀ (i:Nat) o,ops[i]? = some o→isDefer o.op=false)(h:WN P ops i K a w):wpOpIn (FW r) 0 P ops Q i K a w:=by
 unfold WN wpOpIn at *;cases ho:ops[i]? with
 | none=>simp only[ho]at h⊢;exact h
 | some o=>
  simp only[ho]at h⊢;split
  ·rename_i hw
   rw[if_pos hw]at h;refine ⟨fun _ _=>trivial,?_⟩;have h:=h.2;rw[show (FW none).round=none from rfl]at h;rw[show (FW r).round=r from rfl,semAt_any (hd i o ho)]
   generalize (o.semAt none a.eval).run P w=q at *
   cases q with
   | ok x w'=>
    cases x <;> simp only[Oper.uponIn]at h⊢<;> first | exact h | skip
    case enter f args=>
     refine ⟨fun h=>(by cases h),trivial,fun cs _=>?_⟩;obtain ⟨e,w',fr,hR,hcm,h1,h2⟩:=h.2.2 cs (room_wide _);refine ⟨e,w',fr,?_,hcm,h1,h2⟩;cases e with
     | returned v=>exact hR
     | panicked c=>exact hR.elim
     | outgrown=>obtain ⟨_,_,hR⟩:=hR;exact hR.elim
    case round l f tmps assign body=>
     refine ⟨fun h=>(by cases h),trivial,fun c cs _=>?_⟩;obtain ⟨e,w',hR,hcm⟩:=h.2.2 c cs (room_wide _);refine ⟨e,w',?_,hcm⟩;cases e with
     | returned v=>exact hR
     | panicked c=>exact hR.elim
     | outgrown=>obtain ⟨_,_,hR⟩:=hR;exact hR.elim
   | halt x w'=>cases x <;> simp only[Oper.uponIn]at h⊢
  ·rename_i hw
   rw[if_neg hw]at h;exact ⟨fun _ _=>trivial,h.2⟩
theorem any_of_ac (hd:∀ (i:Nat) o,ops[i]? = some o→isDefer o.op=false):∀ (fuel:Nat) (listed:Array Bool) (a:Act) (w:World),AC P ops C (fun a w=>Q .normal a w) fuel listed a w→wpAnyIn (FW r) 0 P .any ops Q fuel listed a w
 | 0,_,_,_,h=>h
 | fuel+1,_,_,_,h=>⟨h.1,fun i hi=>wn_round hd (wpOpIn_mono (fun a' w' h'=>any_of_ac hd fuel _ a' w' h'.2) (h.2 i hi))⟩
end
abbrev str (s:List UInt8):Value:=.string ⟨s.toArray⟩
def iand (k:IntKind)(x y:Int):Int:=k.wrap (BitVec.ofInt k.bits x&&& BitVec.ofInt k.bits y).toNat
def ior (k:IntKind)(x y:Int):Int:=k.wrap (BitVec.ofInt k.bits x ||| BitVec.ofInt k.bits y).toNat
section ints
variable {P:Program}{ty:TypeId}{l:Cx}{bs:List Item}{fs:List (World→Prop)}{x y:Operand}{t t':TypeId}{k k':IntKind}{m n:Int}{s u:List UInt8}
instance opAnd [Ev l x (.int k m)][Ev l y (.int k n)]:OpQ P (.binOp .and t x y t') ty l bs fs (.int k (iand k m n)):=⟨fun ρ w h _=>by
 simp[xop,execOp,h.ev (x:=x) (v:=.int k m),h.ev (x:=y) (v:=.int k n),eqGuard,binOp,Op.intBits,iand]⟩
instance opOr [Ev l x (.int k m)][Ev l y (.int k n)]:OpQ P (.binOp .or t x y t') ty l bs fs (.int k (ior k m n)):=⟨fun ρ w h _=>by
 simp[xop,execOp,h.ev (x:=x) (v:=.int k m),h.ev (x:=y) (v:=.int k n),eqGuard,binOp,Op.intBits,ior]⟩
class NZ (n:Int):Prop where ne:n≠0
instance opConvI {k0:IntKind}[Ev l x (.int k m)][Und P t (.int k0)][Und P t' (.int k')]:OpQ P (.convert t t' x) ty l bs fs (.int k' (k'.wrap m)):=⟨fun ρ w h _=>by
 simp[xop,execOp,h.ev (x:=x) (v:=.int k m),convert,Sem.run_bind,run_und,Conv.intToInt]⟩
instance opSEql [Ev l x (str s)][Ev l y (str u)]:OpQ P (.binOp .eql t x y t') ty l bs fs (.bool (decide (s=u))):=⟨fun ρ w h _=>by
 simp[xop,execOp,h.ev (x:=x) (v:=str s),h.ev (x:=y) (v:=str u),eqGuard,binOp,Op.stringOp];rw[Bool.eq_iff_iff];simp⟩
instance opSNeq [Ev l x (str s)][Ev l y (str u)]:OpQ P (.binOp .neq t x y t') ty l bs fs (.bool (!decide (s=u))):=⟨fun ρ w h _=>by
 simp[xop,execOp,h.ev (x:=x) (v:=str s),h.ev (x:=y) (v:=str u),eqGuard,binOp,Op.stringOp];rw[Bool.eq_iff_iff];simp⟩
instance opLenS [Ev l x (str s)][Und P t .string]:OpQ P (.call { callee:=.builtin .len,args:=#[x],argTypes:=#[t] }) ty l bs fs (.int .i64 s.length):=⟨fun ρ w h _=>by
 simp[xop,execOp,resolve,invoke,builtin,Builtin.len_,h.ev (x:=x) (v:=str s),Sem.run_bind,run_und,goInt];rfl⟩
instance opLenSl {p:Option Addr}{a c:Nat}{e:TypeId}[Ev l x (.slice p a c)][Und P t (.slice e)]:OpQ P (.call { callee:=.builtin .len,args:=#[x],argTypes:=#[t] }) ty l bs fs (.int .i64 a):=⟨fun ρ w h _=>by
 simp[xop,execOp,resolve,invoke,builtin,Builtin.len_,h.ev (x:=x) (v:=.slice p a c),Sem.run_bind,run_und,goInt]⟩
end ints
theorem run_indexAt {P:Program}{t e:TypeId}{z:Value}{sz by_:Nat}{ad:Addr}{n c:Nat}{k:IntKind}{m:Int}[Und P t (.slice e)][TI P e z sz by_](h0:0≤m)(h1:m < n)(w:World) :
  (Instr.indexAt t (.slice (some ad) n c) (.int k m)).run P w=.ok (.pointer (some (ad.add (m.toNat*sz)))) w:=by
 simp[Instr.indexAt,asIntOf,Sem.run_bind,run_und,h0,h1,run_size]
section
variable {P:Program}{r:Option Nat}{ops:Array Oper}{Q:Exit→Act→World→Prop}{w0:World}{M0:Nat→Prop}{ds:List Deferred}{a:Act}{w:World}{l l':List Value}{bs bs':List Item}{fs:List (World→Prop)}
 {d:Option Nat} {op:Op} {ty:TypeId} {pos:String} {af:Array Edge} {rest:List Oper} {v:Value}
theorem sv (v:Value)[hp:PutO l d v l'](S:St w0 M0 ds a w l bs fs)(hrun:Fr a.eval ⟨[],l⟩→(xop a.eval op ty).run P w=.ok (.value v) w)(K:∀ a,St w0 M0 ds a w l' bs fs→WL P r ops Q rest a w)(hnd:isDefer op=false:=by rfl) :
  WL P r ops Q (⟨d,op,ty,pos,af,none⟩::rest) a w:=by
 refine wl_plain rfl ?_;rw[semAt_nd hnd];simp only[hrun S.fr,Oper.uponIn];exact K _ S.put
theorem si {t e:TypeId}{x y:Operand}{z:Value}{sz by_ n c:Nat}{p:Option Addr}{k:IntKind}{m:Int}(S:St w0 M0 ds a w l bs fs)[Ev ⟨[],l⟩ x (.slice p n c)][Ev ⟨[],l⟩ y (.int k m)][Und P t (.slice e)][TI P e z sz by_](ad:Addr)[hp:PutO l d (.pointer (some (ad.add (m.toNat*sz)))) l']
  (hp:p=some ad) (h0:0≤m) (h1:m < n) (K:∀ a,St w0 M0 ds a w l' bs fs→WL P r ops Q rest a w):WL P r ops Q (⟨d,.indexAddr t x y,ty,pos,af,none⟩::rest) a w:=by
 subst hp;refine sv (.pointer (some (ad.add (m.toNat*sz)))) S (fun hf=>?_) K;simp[xop,execOp,hf.ev (x:=x) (v:=.slice (some ad) n c),hf.ev (x:=y) (v:=.int k m),run_indexAt (P:=P) (t:=t) (e:=e) (z:=z) (sz:=sz) (by_:=by_) h0 h1]
theorem slA {t:TypeId}{x:Operand}{ad:Addr}{z:Value}{n by_:Nat}(vs:List Value)(S:St w0 M0 ds a w l bs fs)[Ev ⟨[],l⟩ x (.pointer (some ad))][ha:AggT P t true][TI P t z n by_][hl:LenIs vs n][hp:PutO l d (.agg ⟨vs⟩) l']
  (h:∀ j v,vs[j]? = some v→w.cell? (ad.add j)=some v) (K:∀ a,St w0 M0 ds a w l' bs fs→WL P r ops Q rest a w):WL P r ops Q (⟨d,.load t x,ty,pos,af,none⟩::rest) a w:=by
 refine sv (.agg ⟨vs⟩) S (fun hf=>?_) K;have hlc:=run_loadCells_list (P:=P) w ad vs h;rw[hl.eq]at hlc;simp[xop,execOp,Instr.loadAt,hf.ev (x:=x) (v:=.pointer (some ad)),Instr.sureAddr,loadVar,Sem.run_bind,ha.run,run_size,hlc]
theorem St.fact (S:St w0 M0 ds a w l bs fs){Φ:World→Prop}(h:Φ∈fs):Stable (foots bs) w Φ:=S.wd.facts Φ h
theorem Stable.imp {M:Nat→Prop}{w:World}{Φ Ψ:World→Prop}(h:Stable M w Φ)(hi:∀ w,Φ w→Ψ w):Stable M w Ψ:=fun w' hw=>hi _ (h w' hw)
theorem St.add (S:St w0 M0 ds a w l bs fs){Φ:World→Prop}(h:Stable (foots bs) w Φ):St w0 M0 ds a w l bs (Φ::fs):=
 ⟨S.slots,S.defers,S.wd.agree,S.wd.held,S.wd.lt,S.wd.own,S.wd.apart,fun Ψ hΨ=>by
  rcases List.mem_cons.1 hΨ with rfl | hΨ
  exact h;exact S.wd.facts Ψ hΨ,S.wd.loc⟩
end
theorem Wd.lent {w:World}{b:Nat}{t:TypeId}{cs:List Value}{fs:List (World→Prop)}(hb:w.heap[b]? = some (.cells cs.toArray t (0,0)))(hf:∀ Φ∈fs,Stable (fun k=>k=b) w Φ) :
  Wd w (fun k=>k=b) w [box b t cs] fs:=by
 refine ⟨Agree.refl _ _,?_,?_,?_,by simp,?_,?_⟩;intro it hi;obtain rfl:=List.mem_singleton.1 hi;exact hb;intro it hi k hk;obtain rfl:=List.mem_singleton.1 hi;simp only[box]at hk;subst hk;exact (Array.getElem?_eq_some_iff.1 hb).1;intro it hi _ k hk;obtain rfl:=List.mem_singleton.1 hi;exact .inl hk;intro Φ hΦ;refine (hf Φ hΦ).less fun k _ hk=>?_
 obtain ⟨it,hi,hk⟩:=hk;obtain rfl:=List.mem_singleton.1 hi;exact hk;intro it hi;obtain rfl:=List.mem_singleton.1 hi;exact box_loc _ _ _
theorem Wd.begin {w:World}{fs:List (World→Prop)}(hf:∀ Φ∈fs,Fx w Φ):Wd w (fun _=>False) w [] fs:=
 ⟨Agree.refl _ _,by simp,by simp,by simp,.nil,fun Φ hΦ=>(hf Φ hΦ).less fun k _ hk=>(by obtain ⟨it,hi,_⟩:=hk;cases hi),by simp⟩
def ext (M:Nat→Prop):Item where
 foot:=M
 holds:=fun _=>True
 own:=false
theorem Wd.beginM {w:World}{M:Nat→Prop}{fs:List (World→Prop)}(hM:∀ k,M k→k < w.heap.size)(hf:∀ Φ∈fs,Stable M w Φ):Wd w (fun _=>False) w [ext M] fs:=by
 refine ⟨Agree.refl _ _,?_,?_,?_,by simp,?_,?_⟩;intro it hi;obtain rfl:=List.mem_singleton.1 hi;trivial;intro it hi k hk;obtain rfl:=List.mem_singleton.1 hi;exact hM k hk;intro it hi ho;obtain rfl:=List.mem_singleton.1 hi;cases ho;intro Φ hΦ;refine (hf Φ hΦ).less fun k _ hk=>?_
 obtain ⟨it,hi,hk⟩:=hk;obtain rfl:=List.mem_singleton.1 hi;exact hk;intro it hi w1 w2 _ _;obtain rfl:=List.mem_singleton.1 hi;trivial
class HasExt (bs:List Item)(M:outParam (Nat→Prop)):Prop where mem:ext M∈bs
instance he0 {M:Nat→Prop}{bs:List Item} : HasExt (ext M::bs) M:=⟨List.mem_cons_self ..⟩
instance (priority:=900) he1 {M:Nat→Prop}{x:Item}{bs:List Item}[h:HasExt bs M]:HasExt (x::bs) M:=⟨List.mem_cons_of_mem _ h.mem⟩
theorem foots_lt {w0 M0 ds a w l bs fs}(S:St w0 M0 ds a w l bs fs):∀ k,foots bs k→k < w.heap.size:=fun k ⟨it,hi,hk⟩=>S.wd.lt it hi k hk
theorem St.laterFact {w0 M0 ds a w l bs fs}(S:St w0 M0 ds a w l bs fs){M:Nat→Prop}[he:HasExt bs M]{Φ:World→Prop}(hΦ:Φ∈fs):Stable M w Φ:=(S.wd.facts Φ hΦ).less fun _ _ hk=>⟨_,he.mem,hk⟩
inductive Term where
 | mk (kind user num:Int) (text:List UInt8) (kids:List Term)
inductive LTerm where
 | mk (kind user num:Int) (text:List UInt8) (p:Option Addr) (cap:Nat) (kids:List LTerm)
namespace LTerm
def kind:LTerm→Int | .mk k _ _ _ _ _ _=>k
def user:LTerm→Int | .mk _ u _ _ _ _ _=>u
def num:LTerm→Int | .mk _ _ n _ _ _ _=>n
def text:LTerm→List UInt8 | .mk _ _ _ s _ _ _=>s
def p:LTerm→Option Addr | .mk _ _ _ _ p _ _=>p
def cap:LTerm→Nat | .mk _ _ _ _ _ c _=>c
def kids:LTerm→List LTerm | .mk _ _ _ _ _ _ ks=>ks
mutual
def t:LTerm→Term
 | .mk k u n s _ _ ks=>.mk k u n s (ts ks)
def ts:List LTerm→List Term
 | []=>[]
 | x::xs=>t x::ts xs
end
theorem ts_map:∀ ks:List LTerm,ts ks=ks.map t
 | []=>rfl
 | x::xs=>by simp[ts,ts_map xs]
abbrev cells (t:LTerm):List Value:=[.int .i64 t.kind,.int .i64 t.user,.int .i64 t.num,str t.text,.slice t.p t.kids.length t.cap]
end LTerm
abbrev vL (t:LTerm):Value:=.agg #[.int .i64 t.kind,.int .i64 t.user,.int .i64 t.num,str t.text,.slice t.p t.kids.length t.cap]
mutual
def LtIn (w:World):LTerm→Prop
 | .mk _ _ _ _ p cap kids=>kids.length≤cap∧cap≤maxLen∧LsIn w p 0 kids
def LsIn (w:World):Option Addr→Nat→List LTerm→Prop
 | _,_,[]=>True
 | p,i,t::ts=>(∃ ad,p=some ad∧∀ j v,t.cells[j]? = some v→w.cell? (ad.add (i*5+j))=some v)∧LtIn w t∧LsIn w p (i+1) ts
end
def LtF (t:LTerm):World→Prop:=fun w=>LtIn w t
def LsF (p:Option Addr)(i:Nat)(ts:List LTerm):World→Prop:=fun w=>LsIn w p i ts
theorem LtIn.iff {w:World}{t:LTerm} : LtIn w t↔t.kids.length≤t.cap∧t.cap≤maxLen∧LsIn w t.p 0 t.kids:=by cases t;simp[LtIn,LTerm.kids,LTerm.cap,LTerm.p]
theorem LsIn.get {w:World}{p:Option Addr} : ∀ {i:Nat} {ts:List LTerm} {k:Nat} {t:LTerm},LsIn w p i ts→ts[k]? = some t→(∃ ad,p=some ad∧∀ j v,t.cells[j]? = some v→w.cell? (ad.add ((i+k)*5+j))=some v)∧LtIn w t
 | i,[],k,t,_,hk=>by simp at hk
 | i,x::xs,0,t,h,hk=>by
  simp at hk;subst hk;exact ⟨by simpa using h.1,h.2.1⟩
 | i,x::xs,k+1,t,h,hk=>by
  have:=LsIn.get (k:=k) h.2.2 (by simpa using hk);rw[show i+1+k=i+(k+1) from by omega]at this;exact this
theorem add_add (ad:Addr)(i j:Nat):(ad.add i).add j=ad.add (i+j):=by
 unfold Addr.add
 by_cases hi:i=0 <;> by_cases hj:j=0 <;> simp[hi,hj,Nat.add_assoc]
end Go.Wk
namespace Go.Wk
theorem w64 (n:Int)(h1 : -9223372036854775808≤n)(h2:n≤9223372036854775807):IntKind.i64.wrap n=n:=by
 unfold IntKind.wrap;simp only[IntKind.bits,IntKind.signed,Bool.true_and]
 by_cases h:n % (2 ^ 64:Int) ≥ (2 ^ (64 - 1):Int)
 rw[if_pos (by simpa using h)];omega;rw[if_neg (by simpa using h)];omega
theorem w6 (n:Int)(h1:-9223372036854775808≤n:=by omega)(h2:n≤9223372036854775807:=by omega):IntKind.i64.wrap n=n:=w64 n h1 h2
theorem LTerm.kid_lt {t x:LTerm}(h:x∈t.kids):SizeOf.sizeOf x < SizeOf.sizeOf t:=by
 cases t;simp only[LTerm.kids]at h;have:=List.sizeOf_lt_of_mem h;simp;omega
theorem St.sub {w0 M0 ds a w l bs fs}(S:St w0 M0 ds a w l bs fs)(bs0:List Item)(fs0:List (World→Prop))[hb:SubL bs0 bs][hf:SubL fs0 fs]:St w0 M0 ds a w l bs0 fs0:=⟨S.slots,S.defers,S.wd.sub hb.sub hf.sub⟩
theorem St.box {w0 M0 ds a w l bs fs}(S:St w0 M0 ds a w l bs fs)(b:Nat){t:TypeId}{cs:List Value}[h:HasBox bs b t cs]:w.heap[b]? = some (.cells cs.toArray t (0,0)):=S.wd.held _ h.mem
theorem LTerm.kid {M:Nat→Prop}{w:World}{t:LTerm}(h:Stable M w (LtF t)){k:Nat}(hk:k < t.kids.length):∃ x ad,t.kids[k]? = some x∧x∈t.kids∧t.p=some ad∧(∀ j v,x.cells[j]? = some v→w.cell? ((ad.add (k*5)).add j)=some v)∧Stable M w (LtF x):=by
 have hx:t.kids[k]? = some t.kids[k]:=List.getElem?_eq_getElem hk;obtain ⟨ad,hp,hc⟩:=((LtIn.iff.1 h.now).2.2.get hx).1;refine ⟨_,ad,hx,List.getElem_mem hk,hp,fun j v hj=>?_,h.imp fun w' hw'=>((LtIn.iff.1 hw').2.2.get hx).2⟩;rw[add_add];simpa using hc j v hj
theorem LTerm.t_eq (t:LTerm):t.t=.mk t.kind t.user t.num t.text (t.kids.map LTerm.t):=by
 cases t;simp[LTerm.t,LTerm.ts_map,LTerm.kind,LTerm.user,LTerm.num,LTerm.text,LTerm.kids]
theorem St.fb {w0 M0 ds a w l bs fs}(S:St w0 M0 ds a w l bs fs)(b:Nat){t:TypeId}{cs:List Value}[h:HasBox bs b t cs]{Φ:World→Prop}(hΦ:Φ∈fs):Stable (fun k=>k=b) w Φ:=
 (S.wd.facts Φ hΦ).less fun _ _ hk=>⟨_,h.mem,hk⟩
theorem LTerm.len_le {M:Nat→Prop}{w:World}{t:LTerm}(h:Stable M w (LtF t)):t.kids.length≤9223372036854775807:=by
 have:=LtIn.iff.1 h.now;unfold maxLen at this;omega
open Go
class AppL {α:Type}(x y:List α)(z:outParam (List α)):Prop where eq:x++y=z
instance appl0 {α:Type}{y:List α} : AppL [] y y:=⟨rfl⟩
instance appl1 {α:Type}{u:α}{x y z:List α}[h:AppL x y z]:AppL (u::x) y (u::z):=⟨by simp[h.eq]⟩
class CallTo (l:Cx)(x:Operand)(xs:List Operand)(f:outParam Nat)(args:outParam (List Value)):Prop where
 ex:∃ fi ca vs,Ev l x (.func (.func f) ⟨fi⟩ ⟨ca⟩)∧EvL l xs vs∧fi++vs++ca=args
instance (priority:=1100) callto0 {l:Cx}{f:Nat}{xs:List Operand}{vs:List Value}[h:EvL l xs vs]:CallTo l (.func f) xs f vs:=⟨[],[],vs,evF,h,by simp⟩
instance callto1 {l:Cx}{x:Operand}{f:Nat}{xs:List Operand}{fi ca vs u args:List Value}[h0:Ev l x (.func (.func f) ⟨fi⟩ ⟨ca⟩)][h:EvL l xs vs][h1:AppL fi vs u][h2:AppL u ca args]:CallTo l x xs f args:=⟨fi,ca,vs,h0,h,by rw[h1.eq,h2.eq]⟩
theorem run_callto {P:Program}{ρ:Operand→Value}{x:Operand}{f:Nat}{xs:List Operand}{l:Cx}{args:List Value}{ts:Array TypeId}{ty:TypeId}[he:EntF P f][hc:CallTo l x xs f args](h:Fr ρ l)(w:World) :
  (xop ρ (.call { callee:=.value x,args:=xs.toArray,argTypes:=ts }) ty).run P w=.ok (.enter f args.toArray) w:=by
 obtain ⟨fi,ca,vs,h0,h1,rfl⟩:=hc.ex;have e:=h.evl (xs:=xs) (vs:=vs);have hf:ρ x=.func (.func f) ⟨fi⟩ ⟨ca⟩:=h.ev;have:=he.run (fi++vs++ca).toArray w;simp[xop,execOp,resolve,hf,Deferred.ofValue,invoke,e];simpa using this
section
variable {P:Program}{r:Option Nat}{ops:Array Oper}{Q:Exit→Act→World→Prop}{w0:World}{M0:Nat→Prop}{ds:List Deferred}{a:Act}{w:World}{l l':List Value}{bs bs':List Item}{fs:List (World→Prop)}
 {d:Option Nat} {op:Op} {ty:TypeId} {pos:String} {af:Array Edge} {rest:List Oper} {v v' G:Value} {f:Nat} {x:Operand} {xs:List Operand} {args:List Value} {ts:Array TypeId} {j g:Nat} {pol:Bool} {cs:List Bool}
theorem cv_any [EntF P f][CallTo ⟨[],l⟩ x xs f args](S:St w0 M0 ds a w l bs fs){R:Ending→World→Prop}(hc:Calls P f args.toArray w R)(K:∀ e w',R e w'→∃ v,e=.returned v∧WL P r ops Q rest (a.put d v) w') :
  WL P r ops Q (⟨d,.call { callee:=.value x,args:=xs.toArray,argTypes:=ts },ty,pos,af,none⟩::rest) a w:=by
 refine wl_plain rfl ?_;rw[semAt_nd rfl];simp only[run_callto (f:=f) (args:=args) S.fr,Oper.uponIn];refine ⟨fun h=>(by cases h),trivial,fun cs _=>?_⟩;obtain ⟨e,w',fr,hR,hcm,h1,h2⟩:=hc cs;obtain ⟨v,rfl,hk⟩:=K e w' hR;exact ⟨.returned v,w',fr,hk,(comesIn_wide (m:=lone (Frame.enter P f args.toArray .normal) cs w) (e:=.returned v)).2 hcm,h1,h2⟩
theorem sr {l':Value→List Value}[EntF P f][CallTo ⟨[],l⟩ x xs f args][hp:∀ v,PutO l d v (l' v)](S:St w0 M0 ds a w l bs fs){R:Value→World→Prop}(hc:Ret P f args w (fun _=>False) R)
  (K:∀ v a w',R v w'→St w0 M0 ds a w' (l' v) bs fs→WL P r ops Q rest a w') :
  WL P r ops Q (⟨d,.call { callee:=.value x,args:=xs.toArray,argTypes:=ts },ty,pos,af,none⟩::rest) a w:=by
 refine cv_any S hc ?_;rintro e w' ⟨v,rfl,ha,hR⟩;have:=hp v;have S':=S.put (d:=d) (v:=v);exact ⟨v,rfl,K v _ w' hR ⟨S'.slots,S'.defers,S'.wd.step ha⟩⟩
theorem sc [EntF P f][CallTo ⟨[],l⟩ x xs f args][hv:CallV P f args bs fs v][hp:PutO l d v l'](S:St w0 M0 ds a w l bs fs)
  (K:∀ a w,St w0 M0 ds a w l' bs fs→WL P r ops Q rest a w) :
  WL P r ops Q (⟨d,.call { callee:=.value x,args:=xs.toArray,argTypes:=ts },ty,pos,af,none⟩::rest) a w:=by
 refine cv_any S (hv.run w S.wd.mem) ?_;rintro e w' ⟨u,rfl,ha,rfl⟩;have S':=S.put (d:=d) (v:=u) (l':=l');exact ⟨u,rfl,K _ w' ⟨S'.slots,S'.defers,S'.wd.step ha⟩⟩
theorem sb {l':Value→List Value}{b:Nat}{t:TypeId}{cs:List Value}[EntF P f][CallTo ⟨[],l⟩ x xs f args][hp:∀ v,PutO l d v (l' v)][HasBox bs b t cs](S:St w0 M0 ds a w l bs fs){R:Value→World→Prop}(hc:Ret P f args w (fun k=>k=b) R)
  (K:∀ v a w',R v w'→(∀ cs' bs',Repl bs b t cs cs' bs'→w'.heap[b]? = some (.cells cs'.toArray t (0,0))→St w0 M0 ds a w' (l' v) bs' fs)→WL P r ops Q rest a w') :
  WL P r ops Q (⟨d,.call { callee:=.value x,args:=xs.toArray,argTypes:=ts },ty,pos,af,none⟩::rest) a w:=by
 refine cv_any S hc ?_;rintro e w' ⟨v,rfl,ha,hR⟩;have:=hp v;have S':=S.put (d:=d) (v:=v);refine ⟨v,rfl,K v _ w' hR fun cs' bs' hrep hb'=>⟨S'.slots,S'.defers,?_⟩⟩;obtain ⟨pre,post,e1,e2⟩:=hrep.ex;have hwd:=S'.wd;rw[e1]at hwd;rw[e2];exact hwd.touch ha hb'
theorem gC [hg:GSlot ops j g][hn:Nth l g G][hc:Conds G pol cs][EntF P f][he:CallTo ⟨cs,l⟩ x xs f args][hq:CallV P f args bs fs v][hv:GifV cs v v'][hp:PutO l d v' l'](S:St w0 M0 ds a w l bs fs)
  (K:∀ a w,St w0 M0 ds a w l' bs fs→WL P r ops Q rest a w):WL P r ops Q (⟨d,.call { callee:=.value x,args:=xs.toArray,argTypes:=ts },ty,pos,af,some (j,pol)⟩::rest) a w:=by
 have hw:=wanted_iff (ops:=ops) (d:=d) (op:=.call { callee:=.value x,args:=xs.toArray,argTypes:=ts }) (ty:=ty) (pos:=pos) (af:=af) (pol:=pol) S hg.eq;have S':=S.put (d:=d) (v:=v') (l':=l');refine wl_guard (fun ht=>?_) (fun hf=>?_);have hall:=hw.1 ht;have:CallTo ⟨[],l⟩ x xs f args:=⟨by
  obtain ⟨fi,ca,vs,h0,h1,h2⟩:=he.ex;exact ⟨fi,ca,vs,⟨fun _ ds=>h0.eq hall ds⟩,⟨fun _ ds=>h1.eq hall ds⟩,h2⟩⟩
 refine sc S (v:=v) (l':=l') (K:=K) (hp:=⟨fun ds=>?_⟩);rw[←hp.eq,hv.eq,if_pos hall];have hall:¬∀ c∈cs,c=true:=fun h=>by rw[hw.2 h]at hf;cases hf
 have e:=hv.eq;rw[if_neg hall]at e;rw[←e];exact K _ _ S'
end
class ResV (P:Program)(l:List Value)(bs:List Item)(rv:ResultVar)(v:outParam Value):Prop where
 run:∀ (w:World),(∀ it∈bs,it.holds w)→(match rv with | .tmp t=>(pure (l.toArray.getD t undef):Sem Value) | .cell a t=>do loadVar t (←asAddr (l.toArray.getD a undef))).run P w=.ok v w
instance resT {P l bs t v}[h:Nth l t v]:ResV P l bs (.tmp t) v:=⟨fun w _=>by
 have:=h.eq;simp[Array.getD_eq_getD_getElem?,this]⟩
instance resC1 {P l bs a t b bt cs v}[h:Nth l a (.pointer (some ⟨b,0,none⟩))][hb:HasBox bs b bt cs][ha:AggT P t false][hn:Nth cs 0 v]:ResV P l bs (.cell a t) v:=⟨fun w hh=>by
 have e:=h.eq;have hc:w.cell? ⟨b,0,none⟩=some v:=by rw[cell_of_row w b 0 cs.toArray bt (0,0) (hh _ hb.mem)];simpa using hn.eq
 simp[Array.getD_eq_getD_getElem?,e,asAddr,loadVar,Sem.run_bind,ha.run,load,Sem.run,hc]⟩
instance resCA {P l bs a t b bt cs z n by_ vs}[h:Nth l a (.pointer (some ⟨b,0,none⟩))][hb:HasBox bs b bt cs][ha:AggT P t true][TI P t z n by_][hn:Seg cs 0 n vs]:ResV P l bs (.cell a t) (.agg ⟨vs⟩):=⟨fun w hh=>by
 have e:=h.eq;have hl:(loadCells ⟨b,0,none⟩ n).run P w=.ok vs.toArray w:=by
  have:=run_loadCells_list (P:=P) w ⟨b,0,none⟩ vs (fun j v hj=>by
   have hjn:j < n:=by rw[←hn.eq.1];exact (List.getElem?_eq_some_iff.1 hj).1
   have e:(⟨b,0,none⟩:Addr).add j=⟨b,j,none⟩:=by unfold Addr.add;split <;> simp_all
   have h2:=hn.eq.2 j hjn;rw[e,cell_of_row w b j cs.toArray bt (0,0) (hh _ hb.mem)];simpa [hj] using h2)
  rw[hn.eq.1]at this;exact this
 simp[Array.getD_eq_getD_getElem?,e,asAddr,loadVar,Sem.run_bind,ha.run,run_size,hl]⟩
class FnRes (fn:Func)(rs:outParam (List ResultVar)):Prop where eq:fn.results=rs.toArray
def resSem (l:List Value)(rv:ResultVar):Sem Value:=match rv with | .tmp t=>pure (l.toArray.getD t undef) | .cell a t=>do loadVar t (←asAddr (l.toArray.getD a undef))
theorem run_res {P:Program}{l:List Value}{bs:List Item}{rv:ResultVar}{v:Value}[h:ResV P l bs rv v](w:World)(hh:∀ it∈bs,it.holds w):(resSem l rv).run P w=.ok v w:=h.run w hh
theorem results_eq {fn:Func}{rs:List ResultVar}[hr:FnRes fn rs](l:List Value):results fn l.toArray=(do let vs ←rs.toArray.mapM (resSem l);pure (if h:vs.size=1 then vs[0] else .tuple vs)):=by
 unfold results;rw[hr.eq];rfl
section
variable {P:Program}{fn:Func}{R:Value→World→Prop}{w0:World}{M0:Nat→Prop}{a:Act}{w:World}{l:List Value}{bs:List Item}{fs:List (World→Prop)}{e:Exit}
theorem fin_any {v:Value}(S:St w0 M0 [] a w l bs fs)(hv:(results fn l.toArray).run P w=.ok v w)(h:Agree M0 w0 w→R v w)(he:e=.ret∨e=.normal:=by simp):bodyPost P fn (fun e w'=>∃ v,e=.returned v∧Agree M0 w0 w'∧R v w') e a w:=by
 rw[←S.slots]at hv;rcases he with rfl | rfl
 exact bodyPost_ret hv S.defers ⟨_,rfl,S.wd.agree,h S.wd.agree⟩;exact bodyPost_end hv S.defers ⟨_,rfl,S.wd.agree,h S.wd.agree⟩
theorem end0 [hr:FnRes fn []](S:St w0 M0 [] a w l bs fs)(h:Agree M0 w0 w→R (.tuple #[]) w)(he:e=.ret∨e=.normal:=by simp):bodyPost P fn (fun e w'=>∃ v,e=.returned v∧Agree M0 w0 w'∧R v w') e a w:=
 fin_any S (by rw[results_eq (rs:=[])];simp) h he
theorem end1 {r1:ResultVar}{v1:Value}[hr:FnRes fn [r1]][h1:ResV P l bs r1 v1](S:St w0 M0 [] a w l bs fs)(h:Agree M0 w0 w→R v1 w)(he:e=.ret∨e=.normal:=by simp):bodyPost P fn (fun e w'=>∃ v,e=.returned v∧Agree M0 w0 w'∧R v w') e a w:=
 fin_any S (by rw[results_eq (rs:=[r1])];simp[run_res (P:=P) (l:=l) (bs:=bs) (rv:=r1) (v:=v1) w S.wd.held]) h he
theorem end2 {r1 r2:ResultVar}{v1 v2:Value}[hr:FnRes fn [r1,r2]][h1:ResV P l bs r1 v1][h2:ResV P l bs r2 v2](S:St w0 M0 [] a w l bs fs)(h:Agree M0 w0 w→R (.tuple ⟨[v1,v2]⟩) w)(he:e=.ret∨e=.normal:=by simp):bodyPost P fn (fun e w'=>∃ v,e=.returned v∧Agree M0 w0 w'∧R v w') e a w:=
 fin_any S (by rw[results_eq (rs:=[r1,r2])];simp[run_res (P:=P) (l:=l) (bs:=bs) (rv:=r1) (v:=v1) w S.wd.held,run_res (P:=P) (l:=l) (bs:=bs) (rv:=r2) (v:=v2) w S.wd.held]) h he
theorem end3 {r1 r2 r3:ResultVar}{v1 v2 v3:Value}[hr:FnRes fn [r1,r2,r3]][h1:ResV P l bs r1 v1][h2:ResV P l bs r2 v2][h3:ResV P l bs r3 v3](S:St w0 M0 [] a w l bs fs)(h:Agree M0 w0 w→R (.tuple ⟨[v1,v2,v3]⟩) w)(he:e=.ret∨e=.normal:=by simp):bodyPost P fn (fun e w'=>∃ v,e=.returned v∧Agree M0 w0 w'∧R v w') e a w:=
 fin_any S (by rw[results_eq (rs:=[r1,r2,r3])];simp[run_res (P:=P) (l:=l) (bs:=bs) (rv:=r1) (v:=v1) w S.wd.held,run_res (P:=P) (l:=l) (bs:=bs) (rv:=r2) (v:=v2) w S.wd.held,run_res (P:=P) (l:=l) (bs:=bs) (rv:=r3) (v:=v3) w S.wd.held]) h he
end
class PlOf (P:Program)(t:TypeId)(pl:outParam (List (Nat × Nat))):Prop where
 ex:∃ fields,P.underlying t=some (.struct fields)∧(fields.map fun f=>(f.offset,(P.info? f.type).map (·.size)))=(pl.map fun x=>(x.1,some x.2)).toArray
theorem plof_of {P:Program}{t:TypeId}{pl:List (Nat × Nat)}(h:(P.underlying t).bind (fun d=>match d with | .struct fs=>some (fs.map fun f=>(f.offset,(P.info? f.type).map (·.size))) | _=>none)=some (pl.map fun x=>(x.1,some x.2)).toArray):PlOf P t pl:=⟨by
 cases hu:P.underlying t with
 | none=>simp[hu]at h
 | some d=>cases d <;> simp[hu]at h;exact ⟨_,rfl,by simpa using h⟩⟩
class NthP (pl:List (Nat × Nat))(i:Nat)(o s:outParam Nat):Prop where eq:pl[i]? = some (o,s)
instance nthp0 {o s:Nat}{pl:List (Nat × Nat)} : NthP ((o,s)::pl) 0 o s:=⟨rfl⟩
instance nthpS {x:Nat × Nat}{pl:List (Nat × Nat)}{i o s:Nat}[h:NthP pl i o s]:NthP (x::pl) (i+1) o s:=⟨by simpa using h.eq⟩
class MulN (i s:Nat)(o:outParam Nat):Prop where eq:i*s=o
instance (priority:=1100) muln1 {i:Nat} : MulN i 1 i:=⟨by simp⟩
instance muln0 {s:Nat} : MulN 0 s 0:=⟨by simp⟩
class AddN (a b:Nat)(c:outParam Nat):Prop where eq:a+b=c
instance mulnS {i s o o':Nat}[h:MulN i s o][h':AddN o s o']:MulN (i+1) s o':=⟨by rw[←h'.eq,←h.eq];simp[Nat.add_mul]⟩
class SetMany (place:Nat→Option (Nat × Nat))(l:Cx)(cs:List Value)(parts:List (Nat × Operand))(cs':outParam (List Value)):Prop where
 run:∀ ρ:Operand→Value,Fr ρ l→Instr.fill place cs.toArray (parts.map fun (i,x)=>(i,ρ x))=some cs'.toArray
instance setm0 {place l cs} : SetMany place l cs [] cs:=⟨fun _ _=>rfl⟩
class PlaceAt (place:Nat→Option (Nat × Nat))(i:Nat)(o s:outParam Nat):Prop where eq:place i=some (o,s)
instance placeS {pl:List (Nat × Nat)}{i o s:Nat}[h:NthP pl i o s]:PlaceAt (fun i=>pl[i]?) i o s:=⟨h.eq⟩
instance placeA {i o s:Nat}[h:MulN i s o]:PlaceAt (fun i=>some (i*s,s)) i o s:=⟨by rw[h.eq]⟩
theorem fold_set (vs:List Value)(cs:List Value)(off:Nat)(h:off+vs.length≤cs.length):((vs.toArray.zipIdx.foldl (fun cs (c,j)=>cs.setIfInBounds (off+j) c) cs.toArray))=(cs.take off++vs++cs.drop (off+vs.length)).toArray:=by
 have key:∀ (vs:List Value) (k:Nat) (cs:List Value),off+k+vs.length≤cs.length→((vs.zipIdx k).foldl (fun(cs:Array Value) (x:Value × Nat)=>cs.setIfInBounds (off+x.2) x.1) cs.toArray)=(cs.take (off+k)++vs++cs.drop (off+k+vs.length)).toArray:=by
  intro vs
  induction vs with
  | nil=>intro k cs _;simp
  | cons v vs ih=>
   intro k cs h;simp only[qqA]at h;simp only[List.zipIdx_cons,List.foldl_cons,List.setIfInBounds_toArray];rw[ih (k+1) (cs.set (off+k) v) (by simp;omega)]
   congr 1
   have e1:(cs.set (off+k) v).take (off+(k+1))=cs.take (off+k)++[v]:=by
    rw[show off+(k+1)=(off+k)+1 from by omega,List.take_set,List.take_succ_eq_append_getElem (by omega),List.set_append_right _ _ (by simp;omega)];simp[List.length_take,Nat.min_eq_left (show off+k≤cs.length from by omega)]
   rw[e1,List.drop_set_of_lt (by omega)];simp only[List.append_assoc,qqE,qqF,qqA];rw[show off+(k+1)+vs.length=off+k+(vs.length+1) from by omega]
 have:=key vs 0 cs (by simpa using h);rw[←Array.foldl_toList,Array.toList_zipIdx];simpa using this
instance setmS {place:Nat→Option (Nat × Nat)}{l:Cx}{cs cs1 cs' vs:List Value}{i o s:Nat}{x:Operand}{v:Value}{parts:List (Nat × Operand)}[hp:PlaceAt place i o s][hv:Ev l x v][hc:Cells v vs][hl:LenIs vs s][hs:SetSeg cs o vs cs1][h:SetMany place l cs1 parts cs']:SetMany place l cs ((i,x)::parts) cs':=⟨fun ρ hf=>by
 have e:=hf.ev (x:=x) (v:=v);have hcs:v.cells=vs.toArray:=by rw[←hc.eq]
 simp only[List.map_cons,Instr.fill,hp.eq,e,hcs];have h1:=hs.eq;rw[if_neg (by simp[hl.eq];have:=hl.eq;omega)];have h2:=fold_set vs cs o h1.1;rw[h1.2]at h2;rw[h2];exact h.run ρ hf⟩
theorem run_places {P:Program}(w:World):∀ (fl:List Field) (pl:List (Nat × Nat)),fl.map (fun f=>(f.offset,(P.info? f.type).map (·.size)))=pl.map (fun x=>(x.1,some x.2))→
  (fl.mapM (fun f=>do pure (f.offset,←sizeOf f.type):Field→Sem (Nat × Nat))).run P w=.ok pl w
 | [],[],_=>by simp
 | [],x::pl,h=>by simp at h
 | f::fl,[],h=>by simp at h
 | f::fl,x::pl,h=>by
  simp only[List.map_cons,List.cons.injEq,Prod.mk.injEq]at h;obtain ⟨⟨h1,h2⟩,h3⟩:=h;have ih:=run_places w fl pl h3;cases hi:P.info? f.type with
  | none=>simp[hi]at h2
  | some i=>
   simp[hi]at h2;have hs:(sizeOf f.type).run P w=.ok x.2 w:=by simp[sizeOf,typeInfo,program,Sem.run,Sem.run_bind,hi,h2]
   simp only[List.mapM_cons,Sem.run_bind,hs,Result.andThen_ok,Sem.run_pure,ih,h1]
instance opBuildS {P:Program}{t ty:TypeId}{l:Cx}{bs:List Item}{fs:List (World→Prop)}{parts:List (Nat × Operand)}{pl:List (Nat × Nat)}{z:Value}{n by_:Nat}{zs cs:List Value}[hp:PlOf P t pl][TI P t z n by_][hc:Cells z zs][hs:SetMany (fun i=>pl[i]?) l zs parts cs]:OpQ P (.build t parts.toArray) ty l bs fs (.agg ⟨cs⟩):=⟨fun ρ w h _=>by
 obtain ⟨fields,hu,hpl⟩:=hp.ex;have h1:=hs.run ρ h;have hz:z.cells=zs.toArray:=by rw[←hc.eq]
 have h2:=run_places (P:=P) w fields.toList pl (by
  have:=congrArg Array.toList hpl;simpa using this)
 have h3:(fields.mapM (fun f=>do pure (f.offset,←sizeOf f.type):Field→Sem (Nat × Nat))).run P w=.ok pl.toArray w:=by
  rw[Array.mapM_eq_mapM_toList];simp only[map_eq_pure_bind,Sem.run_bind,h2,Result.andThen_ok,Sem.run_pure]
 simp only[xop,execOp,Instr.build,Sem.run_bind,run_zero,Result.andThen_ok,run_underlying hu,h3,hz,List.map_toArray];simp[h1]⟩
class RepL (n:Nat)(zs:List Value)(r:outParam (List Value)):Prop where eq:(List.replicate n zs).flatten=r
instance repl0 {zs:List Value} : RepL 0 zs []:=⟨by simp⟩
instance replS {n:Nat}{zs r r':List Value}[h:RepL n zs r][h':AppL zs r r']:RepL (n+1) zs r':=⟨by rw[←h'.eq,←h.eq];simp[qqC]⟩
class LeS (n k:Nat):Prop where le:n≤k
instance les0 {k:Nat} : LeS 0 k:=⟨Nat.zero_le _⟩
instance lesS {n k:Nat}[h:LeS n k]:LeS (n+1) (k+1):=⟨Nat.succ_le_succ h.le⟩
theorem range_rep (n:Nat)(zs:List Value)(hz:zs≠[]):((Array.range (n*zs.length)).map (fun i=>zs.toArray[i % zs.toArray.size]!))=((List.replicate n zs).flatten).toArray:=by
 apply Array.ext';simp only[Array.toList_map,Array.toList_range]
 induction n with
 | zero=>simp
 | succ n ih=>
  have hpos:0 < zs.length:=List.length_pos_iff.2 hz;rw[Nat.add_mul,Nat.one_mul,List.range_add,List.map_append,ih,List.replicate_succ',List.flatten_append]
  congr 1
  simp only[List.map_map,List.flatten_cons,List.flatten_nil,List.append_nil];apply List.ext_getElem?;intro k
  by_cases hk:k < zs.length
  ·simp[hk,Nat.mul_add_mod_self_right,Nat.mod_eq_of_lt hk]
  ·simp[hk]
class OpB (P:Program)(op:Op)(ty:TypeId)(l:Cx)(t:outParam TypeId)(cs:outParam (List Value))(val:outParam (Nat→Value)):Prop where
 run:∀ (ρ:Operand→Value) (w:World),Fr ρ l→(xop ρ op ty).run P w=.ok (.value (val w.heap.size)) (w.alloc (.cells cs.toArray t))
section
variable {P:Program}{r:Option Nat}{ops:Array Oper}{Q:Exit→Act→World→Prop}{w0:World}{M0:Nat→Prop}{ds:List Deferred}{a:Act}{w:World}{l:List Value}{bs bs':List Item}{fs:List (World→Prop)}
 {d:Option Nat} {op:Op} {ty:TypeId} {pos:String} {af:Array Edge} {rest:List Oper} {v:Value}
theorem sn {t:TypeId}{cs:List Value}{val:Nat→Value}{l':Nat→List Value}[hq:OpB P op ty ⟨[],l⟩ t cs val][hp:∀ b,PutO l d (val b) (l' b)](S:St w0 M0 ds a w l bs fs)
  (K:∀ b a w,St w0 M0 ds a w (l' b) (box b t cs::bs) fs→WL P r ops Q rest a w) (hnd:isDefer op=false:=by rfl):WL P r ops Q (⟨d,op,ty,pos,af,none⟩::rest) a w:=by
 refine wl_plain rfl ?_;rw[semAt_nd hnd];simp only[hq.run a.eval w S.fr,Oper.uponIn];have:=hp w.heap.size;have S':=S.put (d:=d) (v:=val w.heap.size);exact K _ _ _ ⟨S'.slots,S'.defers,S'.wd.alloc t cs⟩
end
class NeN (zs:List Value):Prop where ne:zs≠[]
instance {z:Value}{zs:List Value} : NeN (z::zs):=⟨by simp⟩
instance opBuildSlice {P:Program}{t e ty:TypeId}{n sz by_:Nat}{l:Cx}{parts:List (Nat × Operand)}{z:Value}{zs rs cs:List Value}[Und P t (.slice e)][TI P e z sz by_][hc:Cells z zs][hne:NeN zs][hls:LenIs zs sz][h1n:LeS n 4096][h1s:LeS sz 4096][hr:RepL n zs rs][hs:SetMany (fun i=>some (i*sz,sz)) l rs parts cs] :
  OpB P (.buildSlice t n parts.toArray) ty l e cs (fun b=>.slice (some ⟨b,0,none⟩) n n):=⟨fun ρ w h=>by
 have hz:z.cells=zs.toArray:=by rw[←hc.eq]
 have h1:=hs.run ρ h;have hle:¬n*sz > 2 ^ 24:=by
  have:=Nat.mul_le_mul h1n.le h1s.le;omega
 have h2:=range_rep n zs hne.ne;rw[hr.eq,hls.eq]at h2;simp only[xop,execOp,Instr.buildSlice,Sem.run_bind,run_und,Result.andThen_ok,run_size,List.map_toArray];rw[if_neg hle]
 by_cases h0:n*sz=0
 rw[if_pos h0];have e:rs=[]:=by
  have:rs.length=n*sz:=by rw[←hr.eq,←hls.eq];simp
  exact List.eq_nil_of_length_eq_zero (by omega)
 subst e;have h1':Instr.fill (fun i=>some (i*sz,sz)) #[] (parts.map fun x=>(x.1,ρ x.2))=some cs.toArray:=h1;have e0:(Array.range 0).map (fun _=>(default:Value)) = #[]:=by simp
 simp[h0,e0,h1',newRow];rw[if_neg h0];simp only[Sem.run_bind,run_zero,Result.andThen_ok,Sem.run_pure,hz,h2];simp[h1,newRow]⟩
class HasFact (fs:List (World→Prop))(Φ:World→Prop):Prop where mem:Φ∈fs
instance hf0 {Φ:World→Prop}{fs:List (World→Prop)} : HasFact (Φ::fs) Φ:=⟨List.mem_cons_self ..⟩
instance (priority:=900) hf1 {Φ Ψ:World→Prop}{fs:List (World→Prop)}[h:HasFact fs Φ]:HasFact (Ψ::fs) Φ:=⟨List.mem_cons_of_mem _ h.mem⟩
theorem Mem.fact {w bs fs}(m:Mem w bs fs)(Φ:World→Prop)[h:HasFact fs Φ]:Stable (foots bs) w Φ:=m.facts Φ h.mem
theorem Mem.fact0 {w bs fs}(m:Mem w bs fs)(Φ:World→Prop)[h:HasFact fs Φ]:Fx w Φ:=(m.facts Φ h.mem).less fun _ _ h=>h.elim
theorem St.mem {w0 M0 ds a w l bs fs}(S:St w0 M0 ds a w l bs fs):Mem w bs fs:=S.wd.mem
def Term.text (s:List UInt8):Term:=.mk 1 0 0 s []
def Term.hash (t:Term):Term:=.mk 5 0 0 [] [t]
def Term.pair (a b:Term):Term:=.mk 4 0 0 [] [a,b]
theorem ls_kid {M:Nat→Prop}{w:World}{p:Option Addr}{xs:List LTerm}(h:Stable M w (LsF p 0 xs)){k:Nat}(hk:k < xs.length):∃ x ad,xs[k]? = some x∧x∈xs∧xs.drop k=x::xs.drop (k+1)∧p=some ad∧(∀ j v,x.cells[j]? = some v→w.cell? ((ad.add (k*5)).add j)=some v)∧Stable M w (LtF x):=by
 have hx:xs[k]? = some xs[k]:=List.getElem?_eq_getElem hk;obtain ⟨ad,hp,hc⟩:=(h.now.get hx).1;refine ⟨_,ad,hx,List.getElem_mem hk,List.drop_eq_getElem_cons hk,hp,fun j v hj=>?_,h.imp fun w' hw'=>(LsIn.get hw' hx).2⟩;rw[add_add];simpa using hc j v hj
theorem ls_of_lt {M:Nat→Prop}{w:World}{t:LTerm}(h:Stable M w (LtF t)):Stable M w (LsF t.p 0 t.kids):=h.imp fun _ hw=>(LtIn.iff.1 hw).2.2
def IsT (M:Nat→Prop)(w:World)(v:Value)(T:Term):Prop:=∃ r:LTerm,v=vL r∧r.t=T∧Stable M w (LtF r)
class DropBs (bs:List Item)(ids:List Nat)(bs0:outParam (List Item)):Prop where sub:bs0.Sublist bs
instance dropbs0 {bs:List Item} : DropBs bs [] bs:=⟨.refl _⟩
class DropB (bs:List Item)(b:Nat)(bs0:outParam (List Item)):Prop where sub:bs0.Sublist bs
instance dropb0 {b:Nat}{t:TypeId}{cs:List Value}{bs:List Item} : DropB (box b t cs::bs) b bs:=⟨.cons _ (.refl _)⟩
instance (priority:=900) dropb1 {b:Nat}{x:Item}{bs bs0:List Item}[h:DropB bs b bs0]:DropB (x::bs) b (x::bs0):=⟨.cons_cons _ h.sub⟩
instance dropbsS {b:Nat}{ids:List Nat}{bs bs1 bs0:List Item}[h:DropB bs b bs1][h':DropBs bs1 ids bs0]:DropBs bs (b::ids) bs0:=⟨h'.sub.trans h.sub⟩
section
variable {P:Program}{r:Option Nat}{Q:Exit→Act→World→Prop}{w0:World}{M0:Nat→Prop}{ds:List Deferred}{a:Act}{w:World}{l:List Value}{bs bs0:List Item}{fs:List (World→Prop)}
theorem c_drawD {id:Nat}{lo:List Oper}(ord:List (Nat × Bool))(ids:List Nat)[DropBs bs ids bs0](S:St w0 M0 ds a w l bs fs)(h:∀ w,St w0 M0 ds a w l bs fs→AQ P lo.toArray (fun w=>Wd w0 M0 w bs0 fs) (fun a w=>Q .normal a w) ord a w)
  (hm:P.follows .mixedOrders=true:=by kernel_rfl) (hd:((lo.all fun o=>!isDefer o.op)&&(Nat.beq ord.length lo.length&&(Region.noSelect lo.toArray&&flowFrom lo.toArray ord (Array.replicate lo.length false))))=true:=by kernel_rfl):Wp P r (.region id lo.toArray true) Q a w:=by
 simp only[Bool.and_eq_true]at hd;refine wpIn_region_any hm (any_of_ac (C:=fun w=>Wd w0 M0 w bs0 fs) (fun i o ho=>?_) _ _ _ _ ?_);have:=List.all_eq_true.1 hd.1 o (by
  rw[List.getElem?_toArray]at ho;exact List.mem_of_getElem? ho)
 simpa using this;have:=h { w with drawn:=w.drawn+1 } ⟨S.slots,S.defers,S.wd.step (Agree.drawn _ w _)⟩ _ hd.2.2.1 hd.2.2.2;rw[Nat.eq_of_beq_eq_true hd.2.1]at this;simpa using this
end
abbrev zeroL:LTerm:=.mk 0 0 0 [] none 0 []
def zeroT:Term:=.mk 0 0 0 [] []
theorem zeroL_in (w:World):LtIn w zeroL:=by simp[LtIn,LsIn]
class KLt (k n:Nat):Prop where lt:k < n
class IsNat (m:Int)(k:outParam Nat):Prop where eq:m=(k:Int)
instance isnat1 {k:Nat} : IsNat (k:Int) k:=⟨rfl⟩
def nthL (xs:List LTerm)(k:Nat):LTerm:=xs.getD k zeroL
def elAddr (p:Option Addr)(k:Nat):Addr:=(p.getD ⟨0,0,none⟩).add (k*5)
class HasLs (fs:List (World→Prop))(p:Option Addr)(xs:outParam (List LTerm)):Prop where
 of:∀ (M:Nat→Prop) (w:World),(∀ Φ∈fs,Stable M w Φ)→Stable M w (LsF p 0 xs)
instance hasls1 {fs:List (World→Prop)}{t:LTerm} : HasLs (LtF t::fs) t.p t.kids:=⟨fun _ _ h=>ls_of_lt (h _ (by simp))⟩
instance (priority:=900) haslsS {fs:List (World→Prop)}{Φ:World→Prop}{p:Option Addr}{xs:List LTerm}[h:HasLs fs p xs]:HasLs (Φ::fs) p xs:=⟨fun M w hf=>h.of M w fun Ψ hΨ=>hf Ψ (by simp[hΨ])⟩
class HasLx (fs:List (World→Prop))(xs:List LTerm):Prop where
 of:∀ (M:Nat→Prop) (w:World),(∀ Φ∈fs,Stable M w Φ)→∃ p,Stable M w (LsF p 0 xs)
instance haslx1 {fs:List (World→Prop)}{t:LTerm} : HasLx (LtF t::fs) t.kids:=⟨fun _ _ h=>⟨t.p,ls_of_lt (h _ (by simp))⟩⟩
instance (priority:=900) haslxS {fs:List (World→Prop)}{Φ:World→Prop}{xs:List LTerm}[h:HasLx fs xs]:HasLx (Φ::fs) xs:=⟨fun M w hf=>h.of M w fun Ψ hΨ=>hf Ψ (by simp[hΨ])⟩
class HasT (fs:List (World→Prop))(t:LTerm):Prop where
 of:∀ (M:Nat→Prop) (w:World),(∀ Φ∈fs,Stable M w Φ)→Stable M w (LtF t)
instance hast0 {fs:List (World→Prop)}{t:LTerm}[h:HasFact fs (LtF t)]:HasT fs t:=⟨fun _ _ hf=>hf _ h.mem⟩
theorem nth_get {xs:List LTerm}{k:Nat}(h:k < xs.length):xs[k]? = some (nthL xs k):=by
 simp[nthL,h]
theorem nth_mem {xs:List LTerm}{k:Nat}(h:k < xs.length):nthL xs k∈xs:=List.mem_of_getElem? (nth_get h)
theorem nth_drop {xs:List LTerm}{k:Nat}(h:k < xs.length):xs.drop k=nthL xs k::xs.drop (k+1):=by
 rw[List.drop_eq_getElem_cons h]
 congr 1
 simp[nthL,h]
instance (priority:=900) hast1 {fs:List (World→Prop)}{xs:List LTerm}{k:Nat}[h:HasLx fs xs][hk:KLt k xs.length]:HasT fs (nthL xs k):=⟨fun M w hf=>by
 obtain ⟨p,hp⟩:=h.of M w hf;exact hp.imp fun w' hw'=>(LsIn.get hw' (nth_get hk.lt)).2⟩
instance (priority:=800) hastZero {fs:List (World→Prop)} : HasT fs zeroL:=⟨fun _ _ _ w _=>zeroL_in w⟩
theorem St.t {w0 M0 ds a w l bs fs}(S:St w0 M0 ds a w l bs fs)(t:LTerm)[h:HasT fs t]:Stable (foots bs) w (LtF t):=h.of _ _ S.wd.facts
theorem St.t0 {w0 M0 ds a w l bs fs}(S:St w0 M0 ds a w l bs fs)(t:LTerm)[h:HasT fs t]:Fx w (LtF t):=(S.t t).less fun _ _ h=>h.elim
theorem Mem.t {w bs fs}(m:Mem w bs fs)(t:LTerm)[h:HasT fs t]:Stable (foots bs) w (LtF t):=h.of _ _ m.facts
theorem Mem.t0 {w bs fs}(m:Mem w bs fs)(t:LTerm)[h:HasT fs t]:Fx w (LtF t):=(m.t t).less fun _ _ h=>h.elim
theorem St.laterT {w0 M0 ds a w l bs fs}(S:St w0 M0 ds a w l bs fs){M:Nat→Prop}[he:HasExt bs M](t:LTerm)[h:HasT fs t]:Stable M w (LtF t):=(S.t t).less fun _ _ hk=>⟨_,he.mem,hk⟩
theorem ls_addr {w:World}{p:Option Addr}{xs:List LTerm}(h:LsIn w p 0 xs){k:Nat}(hk:k < xs.length):p=some (p.getD ⟨0,0,none⟩)∧∀ j v,(nthL xs k).cells[j]? = some v→w.cell? ((elAddr p k).add j)=some v:=by
 obtain ⟨ad,rfl,hc⟩:=(h.get (nth_get hk)).1;refine ⟨rfl,fun j v hj=>?_⟩;simp only[elAddr,Option.getD_some,add_add];simpa using hc j v hj
instance (priority:=900) opIdxT {P:Program}{t ty:TypeId}{e:TypeId}{z:Value}{by_:Nat}{l:Cx}{bs:List Item}{fs:List (World→Prop)}{x y:Operand}{p:Option Addr}{n c k:Nat}{kk:IntKind}{m:Int}{xs:List LTerm}[Ev l x (.slice p n c)][Ev l y (.int kk m)][Und P t (.slice e)][TI P e z 5 by_][hm:IsNat m k][hl:HasLs fs p xs][hk:KLt k n][hk':KLt k xs.length] :
  OpQ P (.indexAddr t x y) ty l bs fs (.pointer (some (elAddr p k))):=⟨fun ρ w h mm=>by
 have h1:=(ls_addr (hl.of _ _ mm.facts).now hk'.lt).1;have h2:=hm.eq;subst h2;rw[h1];have hlt:=hk.lt;simp[xop,execOp,h.ev (x:=x) (v:=.slice p n c),h.ev (x:=y) (v:=.int kk (k:Int))];rw[h1];simp[run_indexAt (P:=P) (t:=t) (e:=e) (z:=z) (sz:=5) (by_:=by_) (Int.natCast_nonneg k) (Int.ofNat_lt.2 hlt),elAddr]⟩
instance (priority:=900) opLoadT {P:Program}{t ty:TypeId}{z:Value}{by_:Nat}{l:Cx}{bs:List Item}{fs:List (World→Prop)}{x:Operand}{p:Option Addr}{k:Nat}{xs:List LTerm}[Ev l x (.pointer (some (elAddr p k)))][ha:AggT P t true][TI P t z 5 by_][hl:HasLs fs p xs][hk:KLt k xs.length] :
  OpQ P (.load t x) ty l bs fs (vL (nthL xs k)):=⟨fun ρ w h mm=>by
 have h1:=(ls_addr (hl.of _ _ mm.facts).now hk.lt).2;have hlc:=run_loadCells_list (P:=P) w (elAddr p k) (nthL xs k).cells h1;have hlen:(nthL xs k).cells.length=5:=rfl;rw[hlen]at hlc;simp[xop,execOp,Instr.loadAt,h.ev (x:=x) (v:=.pointer (some (elAddr p k))),Instr.sureAddr,loadVar,Sem.run_bind,ha.run,run_size,hlc]⟩
section
variable {P:Program}{l:Cx}{bs:List Item}{fs:List (World→Prop)}{x y:Operand}{k:IntKind}{m n:Int}{ty t t':TypeId}
instance opMin [Ev l x (.int k m)][Ev l y (.int k n)]:OpQ P (.call { callee:=.builtin .min,args:=#[x,y],argTypes:=#[t,t'] }) ty l bs fs (.int k (min m n)):=⟨fun ρ w h _=>by
 simp[xop,execOp,resolve,invoke,builtin,Builtin.min_,Builtin.min2,h.ev (x:=x) (v:=.int k m),h.ev (x:=y) (v:=.int k n)];split <;> omega⟩
variable {p q:Bool}
theorem run_equal {u:Value}{v:Value}{d:TypeDesc}[hu:Und P t d](w:World){b:Bool}(h:(match d,u,v with
  | .bool,.bool a,.bool b=>some (a == b)
  | .slice _,.slice none _ _,.slice b _ _=>some b.isNone
  | .slice _,.slice (some _) _ _,.slice none _ _=>some false
  | .map _ _,.map none,.map b=>some b.isNone
  | .map _ _,.map (some _),.map none=>some false
  | .func _ _ _,.nilFunc,.nilFunc=>some true
  | .func _ _ _,.nilFunc,.func _ _ _ | .func _ _ _,.func _ _ _,.nilFunc=>some false
  | .pointer _,.pointer none,.pointer b=>some b.isNone
  | .pointer _,.pointer (some _),.pointer none=>some false
  | _,_,_=>none)=some b):(Op.equal t u v).run P w=.ok b w:=by
 show (Op.equalIn (9999+1) t u v).run P w=.ok b w
 rw[Op.equalIn];simp only[Sem.run_bind,run_und,Result.andThen_ok];split at h <;> first | (simp at h;done) | (simp only[Option.some.injEq]at h;subst h;rfl)
instance opBEql [Ev l x (.bool p)][Ev l y (.bool q)][Und P t .bool]:OpQ P (.binOp .eql t x y t') ty l bs fs (.bool (decide (p=q))):=⟨fun ρ w h _=>by
 simp[xop,execOp,h.ev (x:=x) (v:=.bool p),h.ev (x:=y) (v:=.bool q),eqGuard,binOp,run_equal (P:=P) (t:=t) (u:=.bool p) (v:=.bool q) (d:=.bool) (b:=decide (p=q)) w (by cases p <;> cases q <;> rfl)]⟩
instance opBNeq [Ev l x (.bool p)][Ev l y (.bool q)][Und P t .bool]:OpQ P (.binOp .neq t x y t') ty l bs fs (.bool (!decide (p=q))):=⟨fun ρ w h _=>by
 simp[xop,execOp,h.ev (x:=x) (v:=.bool p),h.ev (x:=y) (v:=.bool q),eqGuard,binOp,run_equal (P:=P) (t:=t) (u:=.bool p) (v:=.bool q) (d:=.bool) (b:=decide (p=q)) w (by cases p <;> cases q <;> rfl)]⟩
variable {a:Option Addr}{j c:Nat}{e:TypeId}
end
end Go.Wk