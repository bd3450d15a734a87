/- 2: a part of this claim's texts, joined: Inst Octet TermA TermB TermC SlicesT TermD RefTerm PlainRight Regress TermE TermF CloseA PlainName PlainSize W4 CloseB CloseC PlainClose SlicesV CloseD CloseE CloseF PlainSafe W5. -/
import Derived.Test.YtibkkbknnfehlaaGreatDoorPb1
import Derived.Test.YtibkkbknnfehlaaGreatDoorProg
import Derived.Scope
import Derived.Lib.AppendZeros
import Derived.Maps.RangeRun
namespace Go.Proofs.YtibkkbknnfehlaaGreatDoor
open Go Go.Wk
section
set_option maxRecDepth 100000
instance : Und Tryz.prog 3 (.int .i64) := ⟨Tryz.underlying3⟩
instance : TI Tryz.prog 3 (.int .i64 0) 1 8 := ti_of (by kernel_rfl)
instance : Und Tryz.prog 4 (.bool) := ⟨Tryz.underlying4⟩
instance : TI Tryz.prog 4 (.bool false) 1 1 := ti_of (by kernel_rfl)
instance : Und Tryz.prog 9 (.string) := ⟨Tryz.underlying9⟩
instance : TI Tryz.prog 9 (.string ⟨#[]⟩) 1 16 := ti_of (by kernel_rfl)
instance : Und Tryz.prog 21 (.int .i32) := ⟨Tryz.underlying21⟩
instance : Und Tryz.prog 22 (.slice 24) := ⟨Tryz.underlying22⟩
instance : TI Tryz.prog 22 (.slice none 0 0) 1 24 := ti_of (by kernel_rfl)
instance : AggT Tryz.prog 24 true := aggT_of (by kernel_rfl)
instance : Fld Tryz.prog 24 0 0 3 := fld_of (by kernel_rfl)
instance : Fld Tryz.prog 24 1 1 3 := fld_of (by kernel_rfl)
instance : Fld Tryz.prog 24 2 2 3 := fld_of (by kernel_rfl)
instance : Fld Tryz.prog 24 3 3 9 := fld_of (by kernel_rfl)
instance : Fld Tryz.prog 24 4 4 22 := fld_of (by kernel_rfl)
instance : PlOf Tryz.prog 24 [(0, 1), (1, 1), (2, 1), (3, 1), (4, 1)] := plof_of (by kernel_rfl)
instance : TI Tryz.prog 24 (.agg #[.int .i64 0, .int .i64 0, .int .i64 0, .string ⟨#[]⟩, .slice none 0 0]) 5 64 := ti_of (by kernel_rfl)
instance : Und Tryz.prog 27 (.slice 3) := ⟨Tryz.underlying27⟩
instance : TI Tryz.prog 27 (.slice none 0 0) 1 24 := ti_of (by kernel_rfl)
instance : AggT Tryz.prog 29 true := aggT_of (by kernel_rfl)
instance : Fld Tryz.prog 29 0 0 3 := fld_of (by kernel_rfl)
instance : Fld Tryz.prog 29 1 1 3 := fld_of (by kernel_rfl)
instance : Fld Tryz.prog 29 2 2 27 := fld_of (by kernel_rfl)
instance : Fld Tryz.prog 29 3 3 27 := fld_of (by kernel_rfl)
instance : Fld Tryz.prog 29 4 4 27 := fld_of (by kernel_rfl)
instance : PlOf Tryz.prog 29 [(0, 1), (1, 1), (2, 1), (3, 1), (4, 1)] := plof_of (by kernel_rfl)
instance : TI Tryz.prog 29 (.agg #[.int .i64 0, .int .i64 0, .slice none 0 0, .slice none 0 0, .slice none 0 0]) 5 88 := ti_of (by kernel_rfl)
instance : Und Tryz.prog 30 (.slice 27) := ⟨Tryz.underlying30⟩
instance : TI Tryz.prog 30 (.slice none 0 0) 1 24 := ti_of (by kernel_rfl)
instance : AggT Tryz.prog 32 true := aggT_of (by kernel_rfl)
instance : Fld Tryz.prog 32 0 0 9 := fld_of (by kernel_rfl)
instance : Fld Tryz.prog 32 1 1 3 := fld_of (by kernel_rfl)
instance : Fld Tryz.prog 32 2 2 29 := fld_of (by kernel_rfl)
instance : Fld Tryz.prog 32 3 7 30 := fld_of (by kernel_rfl)
instance : Fld Tryz.prog 32 4 8 24 := fld_of (by kernel_rfl)
instance : PlOf Tryz.prog 32 [(0, 1), (1, 1), (2, 5), (7, 1), (8, 5)] := plof_of (by kernel_rfl)
instance : TI Tryz.prog 32 (.agg #[.string ⟨#[]⟩, .int .i64 0, .int .i64 0, .int .i64 0, .slice none 0 0, .slice none 0 0, .slice none 0 0, .slice none 0 0, .int .i64 0, .int .i64 0, .int .i64 0, .string ⟨#[]⟩, .slice none 0 0]) 13 200 := ti_of (by kernel_rfl)
instance : Und Tryz.prog 33 (.int .i64) := ⟨Tryz.underlying33⟩
instance : TI Tryz.prog 33 (.int .i64 0) 1 8 := ti_of (by kernel_rfl)
instance : PlOf Tryz.prog 52 [] := plof_of (by kernel_rfl)
instance : TI Tryz.prog 52 (.agg #[]) 0 0 := ti_of (by kernel_rfl)
instance : Fld Tryz.prog 62 0 0 22 := fld_of (by kernel_rfl)
instance : PlOf Tryz.prog 62 [(0, 1)] := plof_of (by kernel_rfl)
instance : TI Tryz.prog 62 (.agg #[.slice none 0 0]) 1 24 := ti_of (by kernel_rfl)
instance : Und Tryz.prog 80 (.slice 84) := ⟨Tryz.underlying80⟩
instance : AggT Tryz.prog 84 true := aggT_of (by kernel_rfl)
instance : Fld Tryz.prog 84 0 0 3 := fld_of (by kernel_rfl)
instance : Fld Tryz.prog 84 1 1 24 := fld_of (by kernel_rfl)
instance : TI Tryz.prog 84 (.agg #[.int .i64 0, .int .i64 0, .int .i64 0, .int .i64 0, .string ⟨#[]⟩, .slice none 0 0]) 6 72 := ti_of (by kernel_rfl)
instance : Und Tryz.prog 120 (.slice 124) := ⟨Tryz.underlying120⟩
instance : TI Tryz.prog 120 (.slice none 0 0) 1 24 := ti_of (by kernel_rfl)
instance : AggT Tryz.prog 124 true := aggT_of (by kernel_rfl)
instance : Fld Tryz.prog 124 0 0 3 := fld_of (by kernel_rfl)
instance : Fld Tryz.prog 124 1 1 3 := fld_of (by kernel_rfl)
instance : PlOf Tryz.prog 124 [(0, 1), (1, 1), (2, 5)] := plof_of (by kernel_rfl)
instance : TI Tryz.prog 124 (.agg #[.int .i64 0, .int .i64 0, .int .i64 0, .int .i64 0, .int .i64 0, .string ⟨#[]⟩, .slice none 0 0]) 7 80 := ti_of (by kernel_rfl)
instance : FnRes Tryz.f4 [ResultVar.tmp 6] := ⟨rfl⟩
instance : FnRes Tryz.f5 [ResultVar.tmp 6] := ⟨rfl⟩
instance : FnRes Tryz.f6 [ResultVar.tmp 0] := ⟨rfl⟩
instance : FnRes Tryz.f7 [ResultVar.tmp 2] := ⟨rfl⟩
instance : FnRes Tryz.f8 [ResultVar.cell 2 32, ResultVar.cell 3 3, ResultVar.cell 4 33] := ⟨rfl⟩
instance : FnRes Tryz.f11 [ResultVar.tmp 2] := ⟨rfl⟩
instance : FnRes Tryz.f12 [ResultVar.cell 4 24, ResultVar.tmp 5] := ⟨rfl⟩
instance : FnRes Tryz.f13 [ResultVar.tmp 2] := ⟨rfl⟩
instance : FnRes Tryz.f14 [ResultVar.tmp 4] := ⟨rfl⟩
instance : FnRes Tryz.f15 [ResultVar.cell 6 24] := ⟨rfl⟩
instance : FnRes Tryz.f16 [ResultVar.tmp 4] := ⟨rfl⟩
instance : FnRes Tryz.f17 [ResultVar.cell 6 24, ResultVar.tmp 7] := ⟨rfl⟩
instance : FnRes Tryz.f18 [ResultVar.cell 4 24] := ⟨rfl⟩
instance : FnRes Tryz.f20 [] := ⟨rfl⟩
instance : FnRes Tryz.f21 [] := ⟨rfl⟩
instance : FnRes Tryz.f22 [ResultVar.tmp 2] := ⟨rfl⟩
instance : FnRes Tryz.f23 [ResultVar.cell 2 24] := ⟨rfl⟩
instance : FnRes Tryz.f24 [ResultVar.cell 2 24] := ⟨rfl⟩
instance : FnRes Tryz.f25 [ResultVar.tmp 2] := ⟨rfl⟩
instance : FnRes Tryz.f26 [ResultVar.tmp 2] := ⟨rfl⟩
instance : FnRes Tryz.f27 [ResultVar.tmp 2] := ⟨rfl⟩
instance : FnRes Tryz.f36 [ResultVar.cell 2 24] := ⟨rfl⟩
instance : FnRes Tryz.f37 [ResultVar.cell 2 24] := ⟨rfl⟩
instance : FnRes Tryz.f38 [ResultVar.cell 2 24] := ⟨rfl⟩
instance : FnRes Tryz.f39 [ResultVar.tmp 2] := ⟨rfl⟩
instance : FnRes Tryz.f40 [ResultVar.tmp 4] := ⟨rfl⟩
instance : FnRes Tryz.f41 [ResultVar.tmp 6] := ⟨rfl⟩
instance : FnRes Tryz.f42 [ResultVar.tmp 4] := ⟨rfl⟩
instance : FnRes Tryz.f43 [ResultVar.cell 4 24] := ⟨rfl⟩
instance : FnRes Tryz.f44 [ResultVar.tmp 6] := ⟨rfl⟩
instance : FnRes Tryz.f45 [ResultVar.tmp 2] := ⟨rfl⟩
instance : FnRes Tryz.f46 [ResultVar.tmp 4] := ⟨rfl⟩
instance : FnRes Tryz.f47 [ResultVar.tmp 2] := ⟨rfl⟩
instance : FnRes Tryz.f48 [] := ⟨rfl⟩
instance : FnRes Tryz.f49 [ResultVar.cell 4 24] := ⟨rfl⟩
instance : FnRes Tryz.f51 [ResultVar.tmp 4] := ⟨rfl⟩
instance : FnRes Tryz.f52 [ResultVar.cell 4 24] := ⟨rfl⟩
instance : FnRes Tryz.f53 [ResultVar.cell 4 84, ResultVar.tmp 5] := ⟨rfl⟩
instance : FnRes Tryz.f54 [ResultVar.tmp 3] := ⟨rfl⟩
instance : FnRes Tryz.f55 [ResultVar.cell 4 24] := ⟨rfl⟩
instance : FnRes Tryz.f56 [ResultVar.tmp 2, ResultVar.tmp 3] := ⟨rfl⟩
instance : FnRes Tryz.f57 [ResultVar.tmp 4, ResultVar.tmp 5] := ⟨rfl⟩
instance : FnRes Tryz.f58 [ResultVar.tmp 2] := ⟨rfl⟩
instance : FnRes Tryz.f59 [ResultVar.tmp 4] := ⟨rfl⟩
instance : FnRes Tryz.f60 [ResultVar.tmp 3] := ⟨rfl⟩
instance : FnRes Tryz.f61 [ResultVar.tmp 4] := ⟨rfl⟩
instance : FnRes Tryz.f62 [ResultVar.tmp 2, ResultVar.tmp 3, ResultVar.tmp 4] := ⟨rfl⟩
instance : FnRes Tryz.f73 [ResultVar.tmp 2] := ⟨rfl⟩
instance : FnRes Tryz.f76 [ResultVar.tmp 4] := ⟨rfl⟩
instance : FnRes Tryz.f77 [ResultVar.tmp 3] := ⟨rfl⟩
instance : FnRes Tryz.f78 [ResultVar.tmp 2] := ⟨rfl⟩
instance : FnRes Tryz.f79 [ResultVar.tmp 4] := ⟨rfl⟩
instance : FnRes Tryz.f80 [ResultVar.tmp 2] := ⟨rfl⟩
instance : FnRes Tryz.f81 [ResultVar.tmp 4] := ⟨rfl⟩
instance : FnRes Tryz.f82 [ResultVar.tmp 3] := ⟨rfl⟩
instance : FnRes Tryz.f83 [ResultVar.tmp 4] := ⟨rfl⟩
instance : FnRes Tryz.f84 [ResultVar.tmp 4] := ⟨rfl⟩
instance : FnRes Tryz.f88 [ResultVar.tmp 4] := ⟨rfl⟩
instance : FnRes Tryz.f89 [ResultVar.cell 2 120, ResultVar.cell 3 4] := ⟨rfl⟩
instance : FnRes Tryz.f94 [] := ⟨rfl⟩
instance : FnRes Tryz.f97 [ResultVar.tmp 4] := ⟨rfl⟩
instance : FnRes Tryz.f98 [ResultVar.tmp 4] := ⟨rfl⟩
instance : FnRes Tryz.f112 [ResultVar.tmp 2] := ⟨rfl⟩
instance : FnRes Tryz.f113 [ResultVar.tmp 2] := ⟨rfl⟩
instance : FnRes Tryz.f133 [] := ⟨rfl⟩
instance : FnRes Tryz.f134 [ResultVar.cell 2 124, ResultVar.tmp 3] := ⟨rfl⟩
instance : EntF Tryz.prog 6 := ⟨enters_of Tryz.func6 (by kernel_rfl) rfl⟩ -- safehouse/safehouselaw15.wakes
instance : EntF Tryz.prog 7 := ⟨enters_of Tryz.func7 (by kernel_rfl) rfl⟩ -- safehouse/safehouselaw15.over
instance : EntF Tryz.prog 8 := ⟨enters_of Tryz.func8 (by kernel_rfl) rfl⟩ -- safehouse/meta.Read
instance : EntF Tryz.prog 11 := ⟨enters_of Tryz.func11 (by kernel_rfl) rfl⟩ -- safehouse/safehouselaw15.overMeta
instance : EntF Tryz.prog 12 := ⟨enters_of Tryz.func12 (by kernel_rfl) rfl⟩ -- safehouse/meta.Make
instance : EntF Tryz.prog 13 := ⟨enters_of Tryz.func13 (by kernel_rfl) rfl⟩ -- safehouse/term.Check
instance : EntF Tryz.prog 14 := ⟨enters_of Tryz.func14 (by kernel_rfl) rfl⟩ -- safehouse/meta.Same
instance : EntF Tryz.prog 15 := ⟨enters_of Tryz.func15 (by kernel_rfl) rfl⟩ -- safehouse/term.Sign
instance : EntF Tryz.prog 16 := ⟨enters_of Tryz.func16 (by kernel_rfl) rfl⟩ -- safehouse/term.Same
instance : EntF Tryz.prog 17 := ⟨enters_of Tryz.func17 (by kernel_rfl) rfl⟩ -- safehouse/cap.Make
instance : EntF Tryz.prog 18 := ⟨enters_of Tryz.func18 (by kernel_rfl) rfl⟩ -- safehouse/term.Fresh
instance : EntF Tryz.prog 19 := ⟨enters_of Tryz.func19 (by kernel_rfl) rfl⟩ -- safehouse/safehouselaw15.large
instance : EntF Tryz.prog 20 := ⟨enters_of Tryz.func20 (by kernel_rfl) rfl⟩ -- safehouse/meta.Read$1
instance : EntF Tryz.prog 21 := ⟨enters_of Tryz.func21 (by kernel_rfl) rfl⟩ -- safehouse/meta.need
instance : EntF Tryz.prog 22 := ⟨enters_of Tryz.func22 (by kernel_rfl) rfl⟩ -- safehouse/meta.list
instance : EntF Tryz.prog 23 := ⟨enters_of Tryz.func23 (by kernel_rfl) rfl⟩ -- (*safehouse/meta.reader).next
instance : EntF Tryz.prog 24 := ⟨enters_of Tryz.func24 (by kernel_rfl) rfl⟩ -- safehouse/term.Text
instance : EntF Tryz.prog 25 := ⟨enters_of Tryz.func25 (by kernel_rfl) rfl⟩ -- (*safehouse/meta.reader).number
instance : EntF Tryz.prog 26 := ⟨enters_of Tryz.func26 (by kernel_rfl) rfl⟩ -- (*safehouse/meta.reader).numbers
instance : EntF Tryz.prog 27 := ⟨enters_of Tryz.func27 (by kernel_rfl) rfl⟩ -- safehouse/meta.Check
instance : EntF Tryz.prog 36 := ⟨enters_of Tryz.func36 (by kernel_rfl) rfl⟩ -- safehouse/meta.numbers
instance : EntF Tryz.prog 37 := ⟨enters_of Tryz.func37 (by kernel_rfl) rfl⟩ -- safehouse/term.List
instance : EntF Tryz.prog 38 := ⟨enters_of Tryz.func38 (by kernel_rfl) rfl⟩ -- safehouse/meta.Digits
instance : EntF Tryz.prog 39 := ⟨enters_of Tryz.func39 (by kernel_rfl) rfl⟩ -- safehouse/term.size
instance : EntF Tryz.prog 40 := ⟨enters_of Tryz.func40 (by kernel_rfl) rfl⟩ -- safehouse/perm.Same
instance : EntF Tryz.prog 41 := ⟨enters_of Tryz.func41 (by kernel_rfl) rfl⟩ -- slices.EqualFunc[[][]int,[][]int,[]int,[]int]
instance : EntF Tryz.prog 42 := ⟨enters_of Tryz.func42 (by kernel_rfl) rfl⟩ -- safehouse/meta.equal[int]
instance : EntF Tryz.prog 43 := ⟨enters_of Tryz.func43 (by kernel_rfl) rfl⟩ -- safehouse/term.of
instance : EntF Tryz.prog 44 := ⟨enters_of Tryz.func44 (by kernel_rfl) rfl⟩ -- slices.EqualFunc[[]safehouse/api.Term,[]safehouse/api.Term,safehouse/api.Term,safehouse/api.Term]
instance : EntF Tryz.prog 45 := ⟨enters_of Tryz.func45 (by kernel_rfl) rfl⟩ -- safehouse/perm.Check
instance : EntF Tryz.prog 46 := ⟨enters_of Tryz.func46 (by kernel_rfl) rfl⟩ -- slices.ContainsFunc[[]safehouse/api.GroupKey,safehouse/api.GroupKey]
instance : EntF Tryz.prog 47 := ⟨enters_of Tryz.func47 (by kernel_rfl) rfl⟩ -- safehouse/cap.Make$1
instance : EntF Tryz.prog 48 := ⟨enters_of Tryz.func48 (by kernel_rfl) rfl⟩ -- safehouse/cap.Make$2
instance : EntF Tryz.prog 49 := ⟨enters_of Tryz.func49 (by kernel_rfl) rfl⟩ -- safehouse/term.Pair
instance : EntF Tryz.prog 50 := ⟨enters_of Tryz.func50 (by kernel_rfl) rfl⟩ -- slices.Sort[[]int,int]
instance : EntF Tryz.prog 51 := ⟨enters_of Tryz.func51 (by kernel_rfl) rfl⟩ -- safehouse/cap.row
instance : EntF Tryz.prog 52 := ⟨enters_of Tryz.func52 (by kernel_rfl) rfl⟩ -- safehouse/term.Seal
instance : EntF Tryz.prog 53 := ⟨enters_of Tryz.func53 (by kernel_rfl) rfl⟩ -- safehouse/cap.find[safehouse/api.GroupKey]
instance : EntF Tryz.prog 54 := ⟨enters_of Tryz.func54 (by kernel_rfl) rfl⟩ -- safehouse/cap.Make$3
instance : EntF Tryz.prog 55 := ⟨enters_of Tryz.func55 (by kernel_rfl) rfl⟩ -- safehouse/term.Lock
instance : EntF Tryz.prog 56 := ⟨enters_of Tryz.func56 (by kernel_rfl) rfl⟩ -- safehouse/term.Unlist
instance : EntF Tryz.prog 57 := ⟨enters_of Tryz.func57 (by kernel_rfl) rfl⟩ -- safehouse/meta.Number
instance : EntF Tryz.prog 58 := ⟨enters_of Tryz.func58 (by kernel_rfl) rfl⟩ -- safehouse/meta.Name
instance : EntF Tryz.prog 59 := ⟨enters_of Tryz.func59 (by kernel_rfl) rfl⟩ -- slices.ContainsFunc[[][]int,[]int]
instance : EntF Tryz.prog 60 := ⟨enters_of Tryz.func60 (by kernel_rfl) rfl⟩ -- safehouse/meta.Check$1
instance : EntF Tryz.prog 61 := ⟨enters_of Tryz.func61 (by kernel_rfl) rfl⟩ -- safehouse/meta.rising
instance : EntF Tryz.prog 62 := ⟨enters_of Tryz.func62 (by kernel_rfl) rfl⟩ -- safehouse/cap.Users
instance : EntF Tryz.prog 73 := ⟨enters_of Tryz.func73 (by kernel_rfl) rfl⟩ -- slices.Backward[[]safehouse/api.Term,safehouse/api.Term]
instance : EntF Tryz.prog 74 := ⟨enters_of Tryz.func74 (by kernel_rfl) rfl⟩ -- strconv.Itoa
instance : EntF Tryz.prog 75 := ⟨enters_of Tryz.func75 (by kernel_rfl) rfl⟩ -- safehouse/term.walk
instance : EntF Tryz.prog 76 := ⟨enters_of Tryz.func76 (by kernel_rfl) rfl⟩ -- slices.Equal[[]int,int]
instance : EntF Tryz.prog 77 := ⟨enters_of Tryz.func77 (by kernel_rfl) rfl⟩ -- safehouse/perm.Check$1
instance : EntF Tryz.prog 78 := ⟨enters_of Tryz.func78 (by kernel_rfl) rfl⟩ -- safehouse/perm.user
instance : EntF Tryz.prog 79 := ⟨enters_of Tryz.func79 (by kernel_rfl) rfl⟩ -- safehouse/perm.rising[int]
instance : EntF Tryz.prog 80 := ⟨enters_of Tryz.func80 (by kernel_rfl) rfl⟩ -- safehouse/perm.group
instance : EntF Tryz.prog 81 := ⟨enters_of Tryz.func81 (by kernel_rfl) rfl⟩ -- slices.ContainsFunc[[]int,int]
instance : EntF Tryz.prog 82 := ⟨enters_of Tryz.func82 (by kernel_rfl) rfl⟩ -- safehouse/perm.Check$2
instance : EntF Tryz.prog 83 := ⟨enters_of Tryz.func83 (by kernel_rfl) rfl⟩ -- slices.Contains[[]int,int]
instance : EntF Tryz.prog 84 := ⟨enters_of Tryz.func84 (by kernel_rfl) rfl⟩ -- slices.IndexFunc[[]safehouse/api.GroupKey,safehouse/api.GroupKey]
instance : EntF Tryz.prog 87 := ⟨enters_of Tryz.func87 (by kernel_rfl) rfl⟩ -- strconv.Atoi
instance : EntF Tryz.prog 88 := ⟨enters_of Tryz.func88 (by kernel_rfl) rfl⟩ -- slices.IndexFunc[[][]int,[]int]
instance : EntF Tryz.prog 89 := ⟨enters_of Tryz.func89 (by kernel_rfl) rfl⟩ -- safehouse/cap.read
instance : EntF Tryz.prog 94 := ⟨enters_of Tryz.func94 (by kernel_rfl) rfl⟩ -- slices.Backward[[]safehouse/api.Term,safehouse/api.Term]$1
instance : EntF Tryz.prog 96 := ⟨enters_of Tryz.func96 (by kernel_rfl) rfl⟩ -- safehouse/term.plain
instance : EntF Tryz.prog 97 := ⟨enters_of Tryz.func97 (by kernel_rfl) rfl⟩ -- slices.IndexFunc[[]int,int]
instance : EntF Tryz.prog 98 := ⟨enters_of Tryz.func98 (by kernel_rfl) rfl⟩ -- slices.Index[[]int,int]
instance : EntF Tryz.prog 112 := ⟨enters_of Tryz.func112 (by kernel_rfl) rfl⟩ -- safehouse/cap.boxes
instance : EntF Tryz.prog 113 := ⟨enters_of Tryz.func113 (by kernel_rfl) rfl⟩ -- (safehouse/cap.box).place
instance : EntF Tryz.prog 118 := ⟨enters_of Tryz.func118 (by kernel_rfl) rfl⟩ -- safehouse/term.fields
instance : EntF Tryz.prog 119 := ⟨enters_of Tryz.func119 (by kernel_rfl) rfl⟩ -- (safehouse/term.field).kids
instance : EntF Tryz.prog 120 := ⟨enters_of Tryz.func120 (by kernel_rfl) rfl⟩ -- (safehouse/term.field).has
instance : EntF Tryz.prog 121 := ⟨enters_of Tryz.func121 (by kernel_rfl) rfl⟩ -- safehouse/term.known
instance : EntF Tryz.prog 133 := ⟨enters_of Tryz.func133 (by kernel_rfl) rfl⟩ -- safehouse/cap.boxes$1
instance : EntF Tryz.prog 134 := ⟨enters_of Tryz.func134 (by kernel_rfl) rfl⟩ -- safehouse/cap.of
end
set_option synthInstance.maxSize 100000
set_option synthInstance.maxHeartbeats 400000
def fieldsOf (k : Int) : Int :=
  if k = 1 then 1 else if k = 2 then 6 else if k = 3 then 2 else if k = 4 ∨ k = 6 then 16 else if k = 5 then 8 else if k = 7 then 10 else if k = 8 then 14 else 0
theorem fields_c (k : Int) (w : World) : Ret Tryz.prog 118 [.int .i64 k] w (fun _ => False) fun v _ => v = .int .i64 (fieldsOf k) := by
  refine enter Tryz.func118 rfl rfl (Wd.start w) (fun a S => ?_)
  simp only [Tryz.ntmps118, List.length_cons, List.length_nil, Nat.reduceAdd, Nat.reduceSub, List.replicate_succ, List.replicate_zero, List.cons_append, List.nil_append] at S
  refine c_seq ?_; refine c_region ?_; refine sq S ?_; clear S; intro a S; refine wl_nil ?_; refine xtn ?_; (iterate 2 (refine c_seq ?_)); refine c_region ?_; refine sq S ?_; clear S; intro a S; refine wl_nil ?_; refine xtn ?_; refine c_block ?_; refine c_seq ?_; refine c_region ?_; (iterate 2 (refine sq S ?_; clear S; intro a S)); refine wl_nil ?_; refine xtn ?_
  refine c_cond S (fun h2 => ?_) (fun h2 => ?_)
  · refine c_seq ?_; refine c_region ?_; refine sq S ?_; clear S; intro a S; refine wl_nil ?_; refine xtn ?_; refine c_ret ?_; refine xbr ?_; refine xtr ?_
    refine fin1 S (fun _ => ?_)
    simp at *; first | (exfalso; omega) | simp [*, fieldsOf]
  · refine c_seq ?_; refine c_region ?_; (iterate 2 (refine sq S ?_; clear S; intro a S)); refine wl_nil ?_; refine xtn ?_
    refine c_cond S (fun h4 => ?_) (fun h4 => ?_)
    · refine c_seq ?_; refine c_region ?_; refine sq S ?_; clear S; intro a S; refine wl_nil ?_; refine xtn ?_; refine c_ret ?_; refine xbr ?_; refine xtr ?_
      refine fin1 S (fun _ => ?_)
      simp at *; first | (exfalso; omega) | simp [*, fieldsOf]
    · refine c_seq ?_; refine c_region ?_; (iterate 2 (refine sq S ?_; clear S; intro a S)); refine wl_nil ?_; refine xtn ?_
      refine c_cond S (fun h6 => ?_) (fun h6 => ?_)
      · refine c_seq ?_; refine c_region ?_; refine sq S ?_; clear S; intro a S; refine wl_nil ?_; refine xtn ?_; refine c_ret ?_; refine xbr ?_; refine xtr ?_
        refine fin1 S (fun _ => ?_)
        simp at *; first | (exfalso; omega) | simp [*, fieldsOf]
      · refine c_seq ?_; refine c_seq ?_; refine c_region ?_; (iterate 2 (refine sq S ?_; clear S; intro a S)); refine wl_nil ?_; refine xtn ?_
        refine c_cond S (fun h8 => ?_) (fun h8 => ?_)
        · refine c_skip ?_; refine xtn ?_
          refine c_cond S (fun h8 => ?_) (fun h8 => ?_)
          · refine c_seq ?_; refine c_region ?_; refine sq S ?_; clear S; intro a S; refine wl_nil ?_; refine xtn ?_; refine c_ret ?_; refine xbr ?_; refine xtr ?_
            refine fin1 S (fun _ => ?_)
            simp at *; first | (exfalso; omega) | simp [*, fieldsOf]
          · refine c_seq ?_; refine c_region ?_; (iterate 2 (refine sq S ?_; clear S; intro a S)); refine wl_nil ?_; refine xtn ?_
            refine c_cond S (fun h11 => ?_) (fun h11 => ?_)
            · refine c_seq ?_; refine c_region ?_; refine sq S ?_; clear S; intro a S; refine wl_nil ?_; refine xtn ?_; refine c_ret ?_; refine xbr ?_; refine xtr ?_
              refine fin1 S (fun _ => ?_)
              simp at *; first | (exfalso; omega) | simp [*, fieldsOf]
            · refine c_seq ?_; refine c_region ?_; (iterate 2 (refine sq S ?_; clear S; intro a S)); refine wl_nil ?_; refine xtn ?_
              refine c_cond S (fun h13 => ?_) (fun h13 => ?_)
              · refine c_seq ?_; refine c_region ?_; refine sq S ?_; clear S; intro a S; refine wl_nil ?_; refine xtn ?_; refine c_ret ?_; refine xbr ?_; refine xtr ?_
                refine fin1 S (fun _ => ?_)
                simp at *; first | (exfalso; omega) | simp [*, fieldsOf]
              · refine c_seq ?_; refine c_region ?_; (iterate 2 (refine sq S ?_; clear S; intro a S)); refine wl_nil ?_; refine xtn ?_
                refine c_cond S (fun h15 => ?_) (fun h15 => ?_)
                · refine c_seq ?_; refine c_region ?_; refine sq S ?_; clear S; intro a S; refine wl_nil ?_; refine xtn ?_; refine c_ret ?_; refine xbr ?_; refine xtr ?_
                  refine fin1 S (fun _ => ?_)
                  simp at *; first | (exfalso; omega) | simp [*, fieldsOf]
                · refine c_skip ?_; refine xbn ?_; refine xtn ?_; refine c_seq ?_; refine c_region ?_; refine sq S ?_; clear S; intro a S; refine wl_nil ?_; refine xtn ?_; refine c_ret ?_
                  refine fin1 S (fun _ => ?_)
                  simp at *; first | (exfalso; omega) | simp [*, fieldsOf]
        · refine c_region ?_; (iterate 2 (refine sq S ?_; clear S; intro a S)); refine wl_nil ?_; refine xtn ?_
          refine c_cond S (fun h9 => ?_) (fun h9 => ?_)
          · refine c_seq ?_; refine c_region ?_; refine sq S ?_; clear S; intro a S; refine wl_nil ?_; refine xtn ?_; refine c_ret ?_; refine xbr ?_; refine xtr ?_
            refine fin1 S (fun _ => ?_)
            simp at *; first | (exfalso; omega) | simp [*, fieldsOf]
          · refine c_seq ?_; refine c_region ?_; (iterate 2 (refine sq S ?_; clear S; intro a S)); refine wl_nil ?_; refine xtn ?_
            refine c_cond S (fun h11 => ?_) (fun h11 => ?_)
            · refine c_seq ?_; refine c_region ?_; refine sq S ?_; clear S; intro a S; refine wl_nil ?_; refine xtn ?_; refine c_ret ?_; refine xbr ?_; refine xtr ?_
              refine fin1 S (fun _ => ?_)
              simp at *; first | (exfalso; omega) | simp [*, fieldsOf]
            · refine c_seq ?_; refine c_region ?_; (iterate 2 (refine sq S ?_; clear S; intro a S)); refine wl_nil ?_; refine xtn ?_
              refine c_cond S (fun h13 => ?_) (fun h13 => ?_)
              · refine c_seq ?_; refine c_region ?_; refine sq S ?_; clear S; intro a S; refine wl_nil ?_; refine xtn ?_; refine c_ret ?_; refine xbr ?_; refine xtr ?_
                refine fin1 S (fun _ => ?_)
                simp at *; first | (exfalso; omega) | simp [*, fieldsOf]
              · refine c_seq ?_; refine c_region ?_; (iterate 2 (refine sq S ?_; clear S; intro a S)); refine wl_nil ?_; refine xtn ?_
                refine c_cond S (fun h15 => ?_) (fun h15 => ?_)
                · refine c_seq ?_; refine c_region ?_; refine sq S ?_; clear S; intro a S; refine wl_nil ?_; refine xtn ?_; refine c_ret ?_; refine xbr ?_; refine xtr ?_
                  refine fin1 S (fun _ => ?_)
                  simp at *; first | (exfalso; omega) | simp [*, fieldsOf]
                · refine c_skip ?_; refine xbn ?_; refine xtn ?_; refine c_seq ?_; refine c_region ?_; refine sq S ?_; clear S; intro a S; refine wl_nil ?_; refine xtn ?_; refine c_ret ?_
                  refine fin1 S (fun _ => ?_)
                  simp at *; first | (exfalso; omega) | simp [*, fieldsOf]
instance {k : Int} {bs fs} : CallV Tryz.prog 118 [.int .i64 k] bs fs (.int .i64 (fieldsOf k)) := ⟨fun w _ => fields_c k w⟩
def hasF (f g : Int) : Bool := !decide (iand .i64 f g = 0)
theorem has_c (f g : Int) (w : World) : Ret Tryz.prog 120 [.int .i64 f, .int .i64 g] w (fun _ => False) fun v _ => v = .bool (hasF f g) := by
  refine enter Tryz.func120 rfl rfl (Wd.start w) (fun a S => ?_)
  simp only [Tryz.ntmps120, List.length_cons, List.length_nil, Nat.reduceAdd, Nat.reduceSub, List.replicate_succ, List.replicate_zero, List.cons_append, List.nil_append] at S
  refine c_seq ?_; refine c_region ?_; refine sq S ?_; clear S; intro a S; refine wl_nil ?_; refine xtn ?_; refine c_seq ?_; refine c_region ?_; (iterate 5 (refine sq S ?_; clear S; intro a S)); refine wl_nil ?_; refine xtn ?_; refine c_ret ?_
  refine fin1 S (fun _ => ?_)
  rfl
instance {f g : Int} {bs fs} : CallV Tryz.prog 120 [.int .i64 f, .int .i64 g] bs fs (.bool (hasF f g)) := ⟨fun w _ => has_c f g w⟩
def kidsF (f : Int) : Int := if hasF f 16 then 2 else if hasF f 8 then 1 else 0
theorem kids_c (f : Int) (w : World) : Ret Tryz.prog 119 [.int .i64 f] w (fun _ => False) fun v _ => v = .int .i64 (kidsF f) := by
  refine enter Tryz.func119 rfl rfl (Wd.start w) (fun a S => ?_)
  simp only [Tryz.ntmps119, List.length_cons, List.length_nil, Nat.reduceAdd, Nat.reduceSub, List.replicate_succ, List.replicate_zero, List.cons_append, List.nil_append] at S
  refine c_seq ?_; refine c_region ?_; refine sq S ?_; clear S; intro a S; refine wl_nil ?_; refine xtn ?_; refine c_seq ?_; refine c_block ?_; refine c_seq ?_; refine c_region ?_; refine sq S ?_; clear S; intro a S; refine sc S ?_; clear S; intro a w S; refine sq S ?_; clear S; intro a S; refine wl_nil ?_; refine xtn ?_
  refine c_cond S (fun h1 => ?_) (fun h1 => ?_)
  · refine c_seq ?_; refine c_region ?_; refine sq S ?_; clear S; intro a S; refine wl_nil ?_; refine xtn ?_; refine c_ret ?_; refine xbr ?_; refine xtr ?_
    refine fin1 S (fun _ => ?_)
    simp [*, kidsF]
  · refine c_seq ?_; refine c_region ?_; refine sq S ?_; clear S; intro a S; refine sc S ?_; clear S; intro a w S; refine sq S ?_; clear S; intro a S; refine wl_nil ?_; refine xtn ?_
    refine c_cond S (fun h3 => ?_) (fun h3 => ?_)
    · refine c_seq ?_; refine c_region ?_; refine sq S ?_; clear S; intro a S; refine wl_nil ?_; refine xtn ?_; refine c_ret ?_; refine xbr ?_; refine xtr ?_
      refine fin1 S (fun _ => ?_)
      simp [*, kidsF]
    · refine c_skip ?_; refine xbn ?_; refine xtn ?_; refine c_seq ?_; refine c_region ?_; refine sq S ?_; clear S; intro a S; refine wl_nil ?_; refine xtn ?_; refine c_ret ?_
      refine fin1 S (fun _ => ?_)
      simp [*, kidsF]
instance {f : Int} {bs fs} : CallV Tryz.prog 119 [.int .i64 f] bs fs (.int .i64 (kidsF f)) := ⟨fun w _ => kids_c f w⟩
def knownF (n : Int) : Bool := decide (1 ≤ n) && decide (n ≤ 6)
theorem known_c (n : Int) (w : World) : Ret Tryz.prog 121 [.int .i64 n] w (fun _ => False) fun v _ => v = .bool (knownF n) := by
  refine enter Tryz.func121 rfl rfl (Wd.start w) (fun a S => ?_)
  simp only [Tryz.ntmps121, List.length_cons, List.length_nil, Nat.reduceAdd, Nat.reduceSub, List.replicate_succ, List.replicate_zero, List.cons_append, List.nil_append] at S
  refine c_seq ?_; refine c_region ?_; refine sq S ?_; clear S; intro a S; refine wl_nil ?_; refine xtn ?_; refine c_seq ?_; refine c_region ?_; (iterate 3 (refine sq S ?_; clear S; intro a S)); (iterate 2 (refine gQ S ?_; clear S; intro a S)); (iterate 2 (refine sq S ?_; clear S; intro a S)); refine wl_nil ?_; refine xtn ?_; refine c_ret ?_
  refine fin1 S (fun _ => ?_)
  rfl
instance {n : Int} {bs fs} : CallV Tryz.prog 121 [.int .i64 n] bs fs (.bool (knownF n)) := ⟨fun w _ => known_c n w⟩
def plainF (k u n : Int) (s : List UInt8) (m : Nat) : Bool :=
  let f := fieldsOf k
  !decide (f = 0) && decide ((m : Int) = kidsF f) && decide ((s.length : Int) ≤ 64) && (hasF f 1 || decide (s = [])) && (hasF f 2 && knownF u || !hasF f 2 && decide (u = 0)) && (hasF f 4 && decide (0 ≤ n) && decide (n ≤ 65535) || !hasF f 4 && decide (n = 0))
theorem plain_c (k u n : Int) (s : List UInt8) (p : Option Addr) (m c : Nat) (w : World) : Ret Tryz.prog 96 [.agg #[.int .i64 k, .int .i64 u, .int .i64 n, str s, .slice p m c]] w (fun _ => False) fun v _ => v = .bool (plainF k u n s m) := by
  refine enter Tryz.func96 rfl rfl (Wd.start w) (fun a S => ?_)
  simp only [Tryz.ntmps96, List.length_cons, List.length_nil, Nat.reduceAdd, Nat.reduceSub, List.replicate_succ, List.replicate_zero, List.cons_append, List.nil_append] at S
  refine c_seq ?_; refine c_region ?_
  refine sa S ?_; clear S; intro b1 a w S
  refine sq S ?_; clear S; intro a S; refine wl_nil ?_; refine xtn ?_; refine c_seq ?_; refine c_region ?_; (iterate 2 (refine sq S ?_; clear S; intro a S)); refine sc S ?_; clear S; intro a w S; refine sq S ?_; clear S; intro a S; refine wl_nil ?_; refine xtn ?_; refine c_seq ?_
  refine c_drawD [(0, true), (1, true), (2, true), (3, true), (4, true), (5, true), (6, true), (7, false), (8, true), (9, true), (10, true), (11, true), (12, true), (13, true), (14, true), (15, true), (16, true), (17, true), (18, false), (19, true), (20, true), (21, true), (22, true), (23, true), (24, true), (25, true)] [] S ?_; clear S; intro w S
  (iterate 3 (refine dq S ?_; clear S; intro a S)); (iterate 4 (refine dqG S ?_; clear S; intro a S)); refine dl ?_; refine gC S ?_; clear S; intro a w S; refine de S ?_; refine dqG S ?_; clear S; intro a S; (iterate 2 (refine dq S ?_; clear S; intro a S)); (iterate 4 (refine dqG S ?_; clear S; intro a S)); (iterate 2 (refine dq S ?_; clear S; intro a S)); refine dqG S ?_; clear S; intro a S; refine dl ?_
  refine gC S ?_; clear S; intro a w S; refine de S ?_; (iterate 5 (refine dqG S ?_; clear S; intro a S)); (iterate 2 (refine dq S ?_; clear S; intro a S)); refine dn ?_; refine xtn ?_; refine c_seq ?_; refine c_region ?_; (iterate 2 (refine sq S ?_; clear S; intro a S)); refine gQ S ?_; clear S; intro a S; refine gC S ?_; clear S; intro a w S; (iterate 3 (refine gQ S ?_; clear S; intro a S)); refine gC S ?_; clear S; intro a w S
  (iterate 3 (refine gQ S ?_; clear S; intro a S)); refine gC S ?_; clear S; intro a w S; (iterate 7 (refine gQ S ?_; clear S; intro a S)); (iterate 2 (refine sq S ?_; clear S; intro a S)); refine wl_nil ?_; refine xtn ?_; refine c_seq ?_; refine c_region ?_; (iterate 2 (refine sq S ?_; clear S; intro a S)); refine gQ S ?_; clear S; intro a S; refine gC S ?_; clear S; intro a w S; (iterate 12 (refine gQ S ?_; clear S; intro a S))
  refine gC S ?_; clear S; intro a w S; (iterate 7 (refine gQ S ?_; clear S; intro a S)); (iterate 2 (refine sq S ?_; clear S; intro a S)); refine wl_nil ?_; refine xtn ?_; refine c_ret ?_
  refine fin1 S (fun _ => ?_)
  first | rfl | simp [plainF]
instance {k u n : Int} {s : List UInt8} {p : Option Addr} {m c : Nat} {bs fs} : CallV Tryz.prog 96 [.agg #[.int .i64 k, .int .i64 u, .int .i64 n, str s, .slice p m c]] bs fs (.bool (plainF k u n s m)) := ⟨fun w _ => plain_c k u n s p m c w⟩
mutual
def walkF : Term → Int → Int → Bool × Int
  | .mk k u n s kids, deep, left => if left - 1 < 0 ∨ 60 < deep ∨ plainF k u n s kids.length = false then (false, left - 1) else walkLF kids (deep + 1) (left - 1)
def walkLF : List Term → Int → Int → Bool × Int
  | [], _, left => (true, left)
  | t :: ts, deep, left => if (walkF t deep left).1 then walkLF ts deep (walkF t deep left).2 else (false, (walkF t deep left).2)
end
mutual
theorem walkF_le : ∀ (t : Term) (deep left : Int), (walkF t deep left).2 ≤ left
  | .mk k u n s kids, deep, left => by
    rw [walkF]; split
    · simp; omega
    · have := walkLF_le kids (deep + 1) (left - 1); omega
theorem walkLF_le : ∀ (ts : List Term) (deep left : Int), (walkLF ts deep left).2 ≤ left
  | [], deep, left => by simp [walkLF]
  | t :: ts, deep, left => by
    have h1 := walkF_le t deep left
    have h2 := walkLF_le ts deep (walkF t deep left).2
    rw [walkLF]; split
    · omega
    · exact h1
end
mutual
theorem walkF_ge : ∀ (t : Term) (deep left : Int), 0 ≤ left → (walkF t deep left).1 = true → 0 ≤ (walkF t deep left).2
  | .mk k u n s kids, deep, left => by
    intro h0 h
    rw [walkF] at h ⊢
    split at h
    · simp at h
    · rename_i hc
      rw [if_neg hc]
      exact walkLF_ge kids (deep + 1) (left - 1) (by omega) h
theorem walkLF_ge : ∀ (ts : List Term) (deep left : Int), 0 ≤ left → (walkLF ts deep left).1 = true → 0 ≤ (walkLF ts deep left).2
  | [], deep, left => by intro h0 _; simpa [walkLF] using h0
  | t :: ts, deep, left => by
    intro h0 h
    rw [walkLF] at h ⊢
    split at h
    · rename_i hc
      rw [if_pos hc]
      exact walkLF_ge ts deep _ (walkF_ge t deep left h0 hc) h
    · simp at h
end
theorem walk_c (N : Nat) : ∀ (t : LTerm) (deep left : Int) (b : Nat) (w0 : World), SizeOf.sizeOf t ≤ N → 0 ≤ deep → deep ≤ 61 → 0 ≤ left → left ≤ 1200 → Stable (fun k => k = b) w0 (LtF t) → w0.heap[b]? = some (.cells #[.int .i64 left] 3 (0, 0)) →
    Ret Tryz.prog 75 [vL t, .int .i64 deep, .pointer (some ⟨b, 0, none⟩)] w0 (fun k => k = b) fun v w' => v = .bool (walkF t.t deep left).1 ∧ w'.heap[b]? = some (.cells #[.int .i64 (walkF t.t deep left).2] 3 (0, 0)) := by
  induction N with
  | zero => intro t _ _ _ _ h; cases t; simp at h
  | succ N ih =>
  intro t deep left b w0 hN hd hd' hl hl' hf hb
  have e0 := t.t_eq
  refine enter Tryz.func75 rfl rfl (Wd.lent (fs := [LtF t]) hb (by simpa using hf)) (fun a S => ?_)
  simp only [Tryz.ntmps75, List.length_cons, List.length_nil, Nat.reduceAdd, Nat.reduceSub, List.replicate_succ, List.replicate_zero, List.cons_append, List.nil_append] at S
  refine c_seq ?_; refine c_region ?_
  refine sa S ?_; clear S; intro b3 a w S
  refine sq S ?_; clear S; intro a S; refine wl_nil ?_; refine xtn ?_; (iterate 2 (refine c_seq ?_)); refine c_region ?_; (iterate 4 (refine sq S ?_; clear S; intro a S))
  rw [w64 (left - 1) (by omega) (by omega)] at S
  refine sq S ?_; clear S; intro a S; refine sw S ?_; clear S; intro a w S; refine wl_nil ?_; refine xtn ?_; refine c_seq ?_; refine c_region ?_; (iterate 5 (refine sq S ?_; clear S; intro a S)); (iterate 2 (refine gQ S ?_; clear S; intro a S)); (iterate 2 (refine sq S ?_; clear S; intro a S)); refine gQ S ?_; clear S; intro a S; refine gC S ?_; clear S; intro a w S; refine gQ S ?_; clear S; intro a S
  refine sq S ?_; clear S; intro a S; refine wl_nil ?_; refine xtn ?_
  refine c_cond S (fun h2 => ?_) (fun h2 => ?_)
  · refine c_seq ?_; refine c_region ?_; refine sq S ?_; clear S; intro a S; refine wl_nil ?_; refine xtn ?_; refine c_ret ?_; refine xtr ?_
    have hbx := S.box b
    refine fin1 S (fun _ => ?_)
    have h3 : left - 1 < 0 ∨ 60 < deep ∨ plainF t.kind t.user t.num t.text t.kids.length = false := by simpa [or_assoc] using h2
    rw [e0, walkF, if_pos (by simpa using h3)]
    exact ⟨rfl, hbx⟩
  · refine c_skip ?_; refine xtn ?_; (iterate 2 (refine c_seq ?_)); refine c_region ?_; (iterate 4 (refine sq S ?_; clear S; intro a S)); refine wl_nil ?_; refine xtn ?_; refine c_block ?_
    have h3 : ¬ (left - 1 < 0 ∨ 60 < deep ∨ plainF t.kind t.user t.num t.text t.kids.length = false) := by simpa [and_assoc] using h2
    have hlen := LTerm.len_le hf
    refine c_loop (ι := Nat) (fun k a w => k ≤ t.kids.length ∧ ∃ lf, 0 ≤ lf ∧ lf ≤ 1200 ∧ walkLF ((t.kids.drop k).map LTerm.t) (deep + 1) lf = walkF t.t deep left ∧ ∃ uu : Nat → Value,  St w0 (fun k => k = b) [] a w ((vL t) :: (.int .i64 deep) :: (.pointer (some ⟨b, 0, none⟩)) :: (.pointer (some ⟨b3, 0, none⟩)) :: uu 4 :: uu 5 :: (.bool false) :: uu 7 :: uu 8 :: uu 9 :: uu 10 :: uu 11 :: uu 12 :: uu 13 :: uu 14 :: uu 15 :: uu 16 :: uu 17 :: uu 18 :: uu 19 :: uu 20 :: uu 21 :: uu 22 :: uu 23 :: uu 24 :: uu 25 :: uu 26 :: uu 27 :: (.slice t.p t.kids.length t.cap) :: (.int .i64 t.kids.length) :: (.int .i64 (k : Nat)) :: uu 31 :: uu 32 :: uu 33 :: uu 34 :: uu 35 :: uu 36 :: uu 37 :: uu 38 :: uu 39 :: uu 40 :: []) [box b3 24 t.cells, box b 3 [.int .i64 lf]] [LtF t]) (fun k => t.kids.length - k) 0 ?_ ?_
    · refine ⟨Nat.zero_le _, left - 1, by omega, by omega, ?_, S.uu, S⟩
      rw [e0, walkF, if_neg (by simpa using h3)]; rfl
    · clear S
      rintro k a w ⟨hk, lf, hlf, hlf', hrel, uu, S⟩
      refine c_seq ?_; refine c_region ?_; refine sq S ?_; clear S; intro a S; refine wl_nil ?_; refine xtn ?_; refine c_seq ?_
      refine c_cond S (fun h5 => ?_) (fun h5 => ?_)
      · refine c_skip ?_; refine xtn ?_; refine c_seq ?_; refine c_block ?_; refine c_seq ?_; refine c_region ?_
        have hkl : k < t.kids.length := by simpa using h5
        obtain ⟨x, ad, hx, hm, hp, hcell, hfx⟩ := LTerm.kid (S.fact (Φ := LtF t) (by simp)) hkl
        replace S := S.add hfx
        refine si S ad hp (by omega) (by omega) ?_; clear S; intro a S
        refine slA x.cells S hcell ?_; clear S; intro a S
        refine sa S ?_; clear S; intro b8 a w S
        refine sw S ?_; clear S; intro a w S; refine wl_nil ?_; refine xtn ?_; refine c_seq ?_; refine c_region ?_; (iterate 3 (refine sq S ?_; clear S; intro a S))
        rw [w64 (deep + 1) (by omega) (by omega)] at S
        refine sq S ?_; clear S; intro a S
        have hdr : t.kids.drop k = x :: t.kids.drop (k + 1) := by
          rw [List.drop_eq_getElem_cons hkl]; congr 1
          exact (List.getElem?_eq_some_iff.1 hx).2
        rw [hdr, List.map_cons, walkLF] at hrel
        have hb1 := walkF_le x.t (deep + 1) lf
        refine sb S (b := b) (ih x (deep + 1) lf b w (by have := LTerm.kid_lt hm; omega) (by omega) (by have : ¬ 60 < deep := fun h => h3 (.inr (.inl h)); omega) hlf hlf' (S.fb b (by simp)) (S.box b)) ?_; clear S
        rintro v a w ⟨rfl, hcb⟩ hS
        have S := hS [.int .i64 _] _ inferInstance hcb
        clear hS
        refine sq S ?_; clear S; intro a S; refine wl_nil ?_; refine xtn ?_
        refine c_cond S (fun h7 => ?_) (fun h7 => ?_)
        · refine c_seq ?_; refine c_region ?_; refine sq S ?_; clear S; intro a S; refine wl_nil ?_; refine xtn ?_; refine c_ret ?_; refine xbr ?_; (iterate 2 (refine xtr ?_)); refine xbr ?_; refine xtr ?_
          have hbx := S.box b
          refine fin1 S (fun _ => ?_)
          have h8 : (walkF x.t (deep + 1) lf).1 = false := by simpa using h7
          rw [if_neg (by simp [h8])] at hrel
          rw [← hrel]
          exact ⟨rfl, hbx⟩
        · refine c_skip ?_; refine xbn ?_; refine xtn ?_; refine c_region ?_; (iterate 2 (refine sq S ?_; clear S; intro a S)); refine wl_nil ?_; refine xtn ?_
          have h8 : (walkF x.t (deep + 1) lf).1 = true := by simpa using h7
          rw [if_pos h8] at hrel
          replace S := S.sub [box b3 24 t.cells, box b 3 [.int .i64 (walkF x.t (deep + 1) lf).2]] [LtF t]
          rw [w64 ((k : Int) + 1) (by omega) (by omega)] at S
          exact ⟨k + 1, ⟨hkl, _, walkF_ge x.t (deep + 1) lf hlf h8, by omega, hrel, S.uu, S⟩, by omega⟩
      · refine c_exit ?_; (iterate 2 (refine xte ?_)); refine xbe ?_; refine xtn ?_; refine c_seq ?_; refine c_region ?_; refine sq S ?_; clear S; intro a S; refine wl_nil ?_; refine xtn ?_; refine c_ret ?_
        have hbx := S.box b
        refine fin1 S (fun _ => ?_)
        have h6 : t.kids.length ≤ k := by simpa using h5
        rw [List.drop_of_length_le h6, List.map_nil, walkLF] at hrel
        rw [← hrel]
        exact ⟨rfl, hbx⟩
def sizeF (t : Term) : Int := if (walkF t 1 1200).1 then 1200 - (walkF t 1 1200).2 else 0
theorem size_c (t : LTerm) (w0 : World) (hf : Stable (fun _ => False) w0 (LtF t)) : Ret Tryz.prog 39 [vL t] w0 (fun _ => False) fun v _ => v = .int .i64 (sizeF t.t) := by
  have h1 := walkF_le t.t 1 1200
  refine enter Tryz.func39 rfl rfl (Wd.begin (fs := [LtF t]) (by simpa using hf)) (fun a S => ?_)
  simp only [Tryz.ntmps39, List.length_cons, List.length_nil, Nat.reduceAdd, Nat.reduceSub, List.replicate_succ, List.replicate_zero, List.cons_append, List.nil_append] at S
  refine c_seq ?_; refine c_region ?_
  refine sa S ?_; clear S; intro b1 a w S
  refine sq S ?_; clear S; intro a S; refine wl_nil ?_; refine xtn ?_; refine c_seq ?_; refine c_region ?_
  refine sa S ?_; clear S; intro b3 a w S
  refine sw S ?_; clear S; intro a w S; refine wl_nil ?_; refine xtn ?_; (iterate 2 (refine c_seq ?_)); refine c_region ?_; refine sq S ?_; clear S; intro a S
  refine sb S (b := b3) (walk_c _ t 1 1200 b3 w (Nat.le_refl _) (by omega) (by omega) (by omega) (by omega) (S.fb b3 (by simp)) (S.box b3)) ?_; clear S
  rintro v a w ⟨rfl, hcb⟩ hS
  have S := hS [.int .i64 _] _ inferInstance hcb
  clear hS
  refine sq S ?_; clear S; intro a S; refine wl_nil ?_; refine xtn ?_
  refine c_cond S (fun h2 => ?_) (fun h2 => ?_)
  · refine c_seq ?_; refine c_region ?_; refine sq S ?_; clear S; intro a S; refine wl_nil ?_; refine xtn ?_; refine c_ret ?_; refine xtr ?_
    refine end1 S (fun _ => ?_)
    have h3 : (walkF t.t 1 1200).1 = false := by simpa using h2
    simp [sizeF, h3]
  · refine c_skip ?_; refine xtn ?_; refine c_seq ?_; refine c_region ?_; refine sq S ?_; clear S; intro a S
    have h3 : (walkF t.t 1 1200).1 = true := by simpa using h2
    have h4 := walkF_ge t.t 1 1200 (by omega) h3
    refine sq S ?_; clear S; intro a S
    rw [w64 (1200 - (walkF t.t 1 1200).2) (by omega) (by omega)] at S
    refine sq S ?_; clear S; intro a S; refine wl_nil ?_; refine xtn ?_; refine c_ret ?_
    refine end1 S (fun _ => ?_)
    simp [sizeF, h3]
instance {t : LTerm} {bs fs} [HasT fs t] : CallV Tryz.prog 39 [vL t] bs fs (.int .i64 (sizeF t.t)) := ⟨fun w m => size_c t w (m.t0 _)⟩
def checkF (t : Term) : Int := if sizeF t = 0 then 150 else 0
theorem check_c (t : LTerm) (w0 : World) (hf : Stable (fun _ => False) w0 (LtF t)) : Ret Tryz.prog 13 [vL t] w0 (fun _ => False) fun v _ => v = .int .i64 (checkF t.t) := by
  refine enter Tryz.func13 rfl rfl (Wd.begin (fs := [LtF t]) (by simpa using hf)) (fun a S => ?_)
  simp only [Tryz.ntmps13, List.length_cons, List.length_nil, Nat.reduceAdd, Nat.reduceSub, List.replicate_succ, List.replicate_zero, List.cons_append, List.nil_append] at S
  refine c_seq ?_; refine c_region ?_
  refine sa S ?_; clear S; intro b1 a w S
  refine sq S ?_; clear S; intro a S; refine wl_nil ?_; refine xtn ?_; (iterate 2 (refine c_seq ?_)); refine c_region ?_; refine sq S ?_; clear S; intro a S; refine sc S ?_; clear S; intro a w S; refine sq S ?_; clear S; intro a S; refine wl_nil ?_; refine xtn ?_
  refine c_cond S (fun h1 => ?_) (fun h1 => ?_)
  · refine c_seq ?_; refine c_region ?_; refine sq S ?_; clear S; intro a S; refine wl_nil ?_; refine xtn ?_; refine c_ret ?_; refine xtr ?_
    refine end1 S (fun _ => ?_)
    simp at h1
    simp [checkF, h1]
  · refine c_skip ?_; refine xtn ?_; refine c_seq ?_; refine c_region ?_; refine sq S ?_; clear S; intro a S; refine wl_nil ?_; refine xtn ?_; refine c_ret ?_
    refine end1 S (fun _ => ?_)
    simp at h1
    simp [checkF, h1]
instance {t : LTerm} {bs fs} [HasT fs t] : CallV Tryz.prog 13 [vL t] bs fs (.int .i64 (checkF t.t)) := ⟨fun w m => check_c t w (m.t0 _)⟩
theorem text_c (s : List UInt8) (w0 : World) : Ret Tryz.prog 24 [str s] w0 (fun _ => False) fun v _ => v = vL (.mk 1 0 0 s none 0 []) := by
  refine enter Tryz.func24 rfl rfl (Wd.start w0) (fun a S => ?_)
  simp only [Tryz.ntmps24, List.length_cons, List.length_nil, Nat.reduceAdd, Nat.reduceSub, List.replicate_succ, List.replicate_zero, List.cons_append, List.nil_append] at S
  refine c_seq ?_; refine c_region ?_
  refine sa S ?_; clear S; intro b2 a w S
  refine wl_nil ?_; refine xtn ?_; refine c_seq ?_; refine c_region ?_; (iterate 2 (refine sq S ?_; clear S; intro a S)); refine sw S ?_; clear S; intro a w S; refine wl_nil ?_; refine xtn ?_; refine c_ret ?_
  refine end1 S (fun _ => ?_)
  rfl
instance {s : List UInt8} {bs fs} : CallV Tryz.prog 24 [str s] bs fs (vL (textL s)) := ⟨fun w _ => text_c s w⟩
theorem fresh_c (u n : Int) (w0 : World) : Ret Tryz.prog 18 [.int .i64 u, .int .i64 n] w0 (fun _ => False) fun v _ => v = vL (.mk 2 u n [] none 0 []) := by
  refine enter Tryz.func18 rfl rfl (Wd.start w0) (fun a S => ?_)
  simp only [Tryz.ntmps18, List.length_cons, List.length_nil, Nat.reduceAdd, Nat.reduceSub, List.replicate_succ, List.replicate_zero, List.cons_append, List.nil_append] at S
  refine c_seq ?_; refine c_region ?_
  refine sa S ?_; clear S; intro b4 a w S
  refine wl_nil ?_; refine xtn ?_; refine c_seq ?_; refine c_region ?_; (iterate 3 (refine sq S ?_; clear S; intro a S)); refine sw S ?_; clear S; intro a w S; refine wl_nil ?_; refine xtn ?_; refine c_ret ?_
  refine end1 S (fun _ => ?_)
  rfl
instance {u n : Int} {bs fs} : CallV Tryz.prog 18 [.int .i64 u, .int .i64 n] bs fs (vL (freshL u n)) := ⟨fun w _ => fresh_c u n w⟩
theorem of_c (k : Int) (p : Option Addr) (n c : Nat) (w0 : World) : Ret Tryz.prog 43 [.int .i64 k, .slice p n c] w0 (fun _ => False) fun v _ => v = .agg #[.int .i64 k, .int .i64 0, .int .i64 0, str [], .slice p n c] := by
  refine enter Tryz.func43 rfl rfl (Wd.start w0) (fun a S => ?_)
  simp only [Tryz.ntmps43, List.length_cons, List.length_nil, Nat.reduceAdd, Nat.reduceSub, List.replicate_succ, List.replicate_zero, List.cons_append, List.nil_append] at S
  refine c_seq ?_; refine c_region ?_
  refine sa S ?_; clear S; intro b4 a w S
  refine wl_nil ?_; refine xtn ?_; refine c_seq ?_; refine c_region ?_; (iterate 3 (refine sq S ?_; clear S; intro a S)); refine sw S ?_; clear S; intro a w S; refine wl_nil ?_; refine xtn ?_; refine c_ret ?_
  refine end1 S (fun _ => ?_)
  rfl
instance {k : Int} {p : Option Addr} {n c : Nat} {bs fs} : CallV Tryz.prog 43 [.int .i64 k, .slice p n c] bs fs (.agg #[.int .i64 k, .int .i64 0, .int .i64 0, str [], .slice p n c]) := ⟨fun w _ => of_c k p n c w⟩
theorem pair_c (x y : LTerm) (M : Nat → Prop) (w0 : World) (hM : ∀ k, M k → k < w0.heap.size) (hx : Stable M w0 (LtF x)) (hy : Stable M w0 (LtF y)) : Ret Tryz.prog 49 [vL x, vL y] w0 (fun _ => False) fun v w' => IsT M w' v (.pair x.t y.t) := by
  refine enter Tryz.func49 rfl rfl (Wd.beginM (M := M) (fs := [LtF x, LtF y]) hM (by simp; exact ⟨hx, hy⟩)) (fun a S => ?_)
  simp only [Tryz.ntmps49, List.length_cons, List.length_nil, Nat.reduceAdd, Nat.reduceSub, List.replicate_succ, List.replicate_zero, List.cons_append, List.nil_append] at S
  refine c_seq ?_; refine c_region ?_
  refine sa S ?_; clear S; intro b2 a w S
  refine sa S ?_; clear S; intro b3 a w S
  refine sa S ?_; clear S; intro b4 a w S
  refine wl_nil ?_; refine xtn ?_; refine c_seq ?_; refine c_region ?_; (iterate 2 (refine sq S ?_; clear S; intro a S))
  refine sn S ?_; clear S; intro b7 a w S
  refine sc S ?_; clear S; intro a w S; refine sw S ?_; clear S; intro a w S; refine wl_nil ?_; refine xtn ?_; refine c_ret ?_
  refine end1 S (fun _ => ?_)
  refine ⟨pairL (some ⟨b7, 0, none⟩) x y, rfl, rfl, fun w' hw' => ?_⟩
  have h1 := S.laterFact (Φ := LtF x) (by simp) w' hw'
  have h2 := S.laterFact (Φ := LtF y) (by simp) w' hw'
  exact ⟨by simp, by simp [maxLen], LsIn.of_block [x, y] (S.laterBox hw' b7) (by simpa using ⟨h1, h2⟩)⟩
mutual
def sameF : Term → Term → Bool
  | .mk k u n s ks, .mk k' u' n' s' ks' => decide (k = k') && decide (u = u') && decide (n = n') && decide (s = s') && sameLF ks ks'
def sameLF : List Term → List Term → Bool
  | [], [] => true
  | a :: l, b :: m => sameF a b && sameLF l m
  | [], _ :: _ => false
  | _ :: _, [] => false
end
mutual
theorem sameF_iff : ∀ a b : Term, sameF a b = true ↔ a = b
  | .mk k u n s ks, .mk k' u' n' s' ks' => by
    have := sameLF_iff ks ks'
    simp [sameF, this, and_assoc]
theorem sameLF_iff : ∀ a b : List Term, sameLF a b = true ↔ a = b
  | [], [] => by simp [sameLF]
  | a :: l, b :: m => by
    have h1 := sameF_iff a b
    have h2 := sameLF_iff l m
    simp [sameLF, h1, h2]
  | [], _ :: _ => by simp [sameLF]
  | _ :: _, [] => by simp [sameLF]
end
theorem sameLF_len {a b : List Term} (h : a.length ≠ b.length) : sameLF a b = false := by
  cases hs : sameLF a b with
  | false => rfl
  | true => exact absurd (by rw [(sameLF_iff a b).1 hs]) h
def SameC (N : Nat) : Prop := ∀ (x y : LTerm) (w : World), SizeOf.sizeOf x ≤ N → Stable (fun _ => False) w (LtF x) → Stable (fun _ => False) w (LtF y) → Ret Tryz.prog 16 [vL x, vL y] w (fun _ => False) fun v _ => v = .bool (sameF x.t y.t)
theorem equal_c (N : Nat) (hS : SameC N) (p q : Option Addr) (c e n m : Nat) (xs ys : List LTerm) (hn : xs.length = n) (hm : ys.length = m) (w0 : World) (hl : n ≤ 9223372036854775807) (hN : ∀ x ∈ xs, SizeOf.sizeOf x ≤ N) (hx : Stable (fun _ => False) w0 (LsF p 0 xs)) (hy : Stable (fun _ => False) w0 (LsF q 0 ys)) :
    Ret Tryz.prog 44 [.slice p n c, .slice q m e, .func (.func 16) #[] #[]] w0 (fun _ => False) fun v _ => v = .bool (sameLF (xs.map LTerm.t) (ys.map LTerm.t)) := by
  refine enter Tryz.func44 rfl rfl (Wd.begin (fs := [LsF p 0 xs, LsF q 0 ys]) (by simp; exact ⟨hx, hy⟩)) (fun a S => ?_)
  simp only [Tryz.ntmps44, List.length_cons, List.length_nil, Nat.reduceAdd, Nat.reduceSub, List.replicate_succ, List.replicate_zero, List.cons_append, List.nil_append] at S
  refine c_seq ?_; refine c_region ?_; refine sq S ?_; clear S; intro a S; refine wl_nil ?_; refine xtn ?_; (iterate 2 (refine c_seq ?_)); refine c_region ?_; (iterate 5 (refine sq S ?_; clear S; intro a S)); refine wl_nil ?_; refine xtn ?_
  refine c_cond S (fun h1 => ?_) (fun h1 => ?_)
  · refine c_seq ?_; refine c_region ?_; refine sq S ?_; clear S; intro a S; refine wl_nil ?_; refine xtn ?_; refine c_ret ?_; refine xtr ?_
    refine end1 S (fun _ => ?_)
    rw [sameLF_len]
    simp [hn, hm]; simp at h1; omega
  · refine c_skip ?_; refine xtn ?_; (iterate 2 (refine c_seq ?_)); refine c_region ?_; (iterate 3 (refine sq S ?_; clear S; intro a S)); refine wl_nil ?_; refine xtn ?_; refine c_block ?_
    obtain rfl : n = m := by simp at h1; omega
    refine c_loop (ι := Nat) (fun k a w => k ≤ n ∧ sameLF ((xs.drop k).map LTerm.t) ((ys.drop k).map LTerm.t) = sameLF (xs.map LTerm.t) (ys.map LTerm.t) ∧ ∃ uu : Nat → Value,  St w0 (fun _ => False) [] a w ((.slice p n c) :: (.slice q n e) :: (.func (.func 16) #[] #[]) :: uu 3 :: uu 4 :: uu 5 :: (.bool false) :: uu 7 :: uu 8 :: uu 9 :: uu 10 :: uu 11 :: uu 12 :: uu 13 :: uu 14 :: (.slice p n c) :: (.int .i64 n) :: (.int .i64 (k : Nat)) :: uu 18 :: uu 19 :: uu 20 :: uu 21 :: uu 22 :: uu 23 :: uu 24 :: uu 25 :: uu 26 :: uu 27 :: uu 28 :: uu 29 :: uu 30 :: uu 31 :: []) [] [LsF p 0 xs, LsF q 0 ys]) (fun k => n - k) 0 ?_ ?_
    · exact ⟨Nat.zero_le _, rfl, S.uu, S⟩
    · clear S
      rintro k a w ⟨hk, hrel, uu, S⟩
      refine c_seq ?_; refine c_region ?_; refine sq S ?_; clear S; intro a S; refine wl_nil ?_; refine xtn ?_; refine c_seq ?_
      refine c_cond S (fun h4 => ?_) (fun h4 => ?_)
      · refine c_skip ?_; refine xtn ?_; refine c_seq ?_; refine c_block ?_; refine c_seq ?_; refine c_region ?_; refine sq S ?_; clear S; intro a S
        have hkl : k < n := by simpa using h4
        obtain ⟨x, ad, hx1, hxm, hxd, hp, hcell, hfx⟩ := ls_kid (S.fact (Φ := LsF p 0 xs) (by simp)) (k := k) (by omega)
        replace S := S.add hfx
        refine si S ad hp (by omega) (by omega) ?_; clear S; intro a S
        refine slA x.cells S hcell ?_; clear S; intro a S
        refine sa S ?_; clear S; intro b8 a w S
        refine sq S ?_; clear S; intro a S; refine sw S ?_; clear S; intro a w S; refine wl_nil ?_; refine xtn ?_; refine c_seq ?_; refine c_region ?_; (iterate 2 (refine sq S ?_; clear S; intro a S))
        obtain ⟨y, ad', hy1, hym, hyd, hq, hcell', hfy⟩ := ls_kid (S.fact (Φ := LsF q 0 ys) (by simp)) (k := k) (by omega)
        replace S := S.add hfy
        refine si S ad' hq (by omega) (by omega) ?_; clear S; intro a S
        refine slA y.cells S hcell' ?_; clear S; intro a S
        refine sa S ?_; clear S; intro b9 a w S
        refine sw S ?_; clear S; intro a w S; refine wl_nil ?_; refine xtn ?_; refine c_seq ?_; refine c_region ?_; (iterate 3 (refine sq S ?_; clear S; intro a S))
        rw [hxd, hyd, List.map_cons, List.map_cons, sameLF] at hrel
        refine sr S (hS x y w (hN x hxm) (S.mem.fact0 (LtF x)) (S.mem.fact0 (LtF y))) ?_; clear S; rintro v a w rfl S
        refine sq S ?_; clear S; intro a S; refine wl_nil ?_; refine xtn ?_
        refine c_cond S (fun h7 => ?_) (fun h7 => ?_)
        · refine c_seq ?_; refine c_region ?_; refine sq S ?_; clear S; intro a S; refine wl_nil ?_; refine xtn ?_; refine c_ret ?_; refine xbr ?_; (iterate 2 (refine xtr ?_)); refine xbr ?_; refine xtr ?_
          refine end1 S (fun _ => ?_)
          have h8 : sameF x.t y.t = false := by simpa using h7
          simp [← hrel, h8]
        · refine c_skip ?_; refine xbn ?_; refine xtn ?_; refine c_region ?_; (iterate 2 (refine sq S ?_; clear S; intro a S)); refine wl_nil ?_; refine xtn ?_
          have h8 : sameF x.t y.t = true := by simpa using h7
          rw [h8, Bool.true_and] at hrel
          replace S := S.sub [] [LsF p 0 xs, LsF q 0 ys]
          rw [w64 ((k : Int) + 1) (by omega) (by omega)] at S
          exact ⟨k + 1, ⟨hkl, hrel, S.uu, S⟩, by omega⟩
      · refine c_exit ?_; (iterate 2 (refine xte ?_)); refine xbe ?_; refine xtn ?_; refine c_seq ?_; refine c_region ?_; refine sq S ?_; clear S; intro a S; refine wl_nil ?_; refine xtn ?_; refine c_ret ?_
        refine end1 S (fun _ => ?_)
        have h6 : n ≤ k := by simpa using h4
        rw [List.drop_of_length_le (by omega), List.drop_of_length_le (by omega)] at hrel
        simp [← hrel, sameLF]
theorem same_all : ∀ N, SameC N := by
  intro N
  induction N with
  | zero => intro x y w h; cases x; simp at h
  | succ N ih =>
  intro x y w0 hN hx hy
  have e1 := x.t_eq
  have e2 := y.t_eq
  have hq : ∀ {bs fs} [HasT fs x] [HasT fs y], CallV Tryz.prog 44 [.slice x.p x.kids.length x.cap, .slice y.p y.kids.length y.cap, .func (.func 16) #[] #[]] bs fs (.bool (sameLF (x.kids.map LTerm.t) (y.kids.map LTerm.t))) :=
    ⟨fun w m => equal_c N ih x.p y.p x.cap y.cap _ _ x.kids y.kids rfl rfl w (LTerm.len_le hx) (fun z hz => by have := LTerm.kid_lt hz; omega) (ls_of_lt (m.t0 _)) (ls_of_lt (m.t0 _))⟩
  refine enter Tryz.func16 rfl rfl (Wd.begin (fs := [LtF x, LtF y]) (by simp; exact ⟨hx, hy⟩)) (fun a S => ?_)
  simp only [Tryz.ntmps16, List.length_cons, List.length_nil, Nat.reduceAdd, Nat.reduceSub, List.replicate_succ, List.replicate_zero, List.cons_append, List.nil_append] at S
  refine c_seq ?_; refine c_region ?_
  refine sa S ?_; clear S; intro b2 a w S
  refine sa S ?_; clear S; intro b3 a w S
  refine sq S ?_; clear S; intro a S; refine wl_nil ?_; refine xtn ?_; refine c_seq ?_; refine c_region ?_; (iterate 6 (refine sq S ?_; clear S; intro a S)); (iterate 5 (refine gQ S ?_; clear S; intro a S)); (iterate 2 (refine sq S ?_; clear S; intro a S)); (iterate 5 (refine gQ S ?_; clear S; intro a S)); (iterate 2 (refine sq S ?_; clear S; intro a S)); (iterate 5 (refine gQ S ?_; clear S; intro a S))
  (iterate 2 (refine sq S ?_; clear S; intro a S)); (iterate 4 (refine gQ S ?_; clear S; intro a S)); refine gC S ?_; clear S; intro a w S; (iterate 2 (refine sq S ?_; clear S; intro a S)); refine wl_nil ?_; refine xtn ?_; refine c_ret ?_
  refine end1 S (fun _ => ?_)
  rw [e1, e2, sameF]
theorem same_c (x y : LTerm) (w : World) (hx : Stable (fun _ => False) w (LtF x)) (hy : Stable (fun _ => False) w (LtF y)) : Ret Tryz.prog 16 [vL x, vL y] w (fun _ => False) fun v _ => v = .bool (sameF x.t y.t) := same_all _ x y w (Nat.le_refl _) hx hy
instance {x y : LTerm} {bs fs} [HasT fs x] [HasT fs y] : CallV Tryz.prog 16 [vL x, vL y] bs fs (.bool (sameF x.t y.t)) := ⟨fun w m => same_c x y w (m.t0 _) (m.t0 _)⟩
def put1 (k : Int) (s : List UInt8) : List UInt8 := if hasF (fieldsOf k) 1 then Wk.u8 s.length :: s else []
def put2 (k u : Int) : List UInt8 := if hasF (fieldsOf k) 2 then [Wk.u8 u] else []
def put4 (k n : Int) : List UInt8 := if hasF (fieldsOf k) 4 then be 2 (IntKind.u16.wrap n) else []
def headF (k u n : Int) (s : List UInt8) : List UInt8 := [Wk.u8 k] ++ put1 k s ++ put2 k u ++ put4 k n
mutual
def bytesF : Term → List UInt8
  | .mk k u n s ks => headF k u n s ++ bytesLF ks
def bytesLF : List Term → List UInt8
  | [] => []
  | t :: ts => bytesF t ++ bytesLF ts
end
def nameF (t : Term) : List UInt8 := if sizeF t = 0 then [] else bytesF t
theorem plain_shape {k u n : Int} {s : List UInt8} {m : Nat} (h : plainF k u n s m = true) :
    (k = 1 ∧ u = 0 ∧ n = 0 ∧ s.length ≤ 64 ∧ m = 0) ∨ (k = 2 ∧ 1 ≤ u ∧ u ≤ 6 ∧ 0 ≤ n ∧ n ≤ 65535 ∧ s = [] ∧ m = 0) ∨ (k = 3 ∧ 1 ≤ u ∧ u ≤ 6 ∧ n = 0 ∧ s = [] ∧ m = 0) ∨
    ((k = 4 ∨ k = 6) ∧ u = 0 ∧ n = 0 ∧ s = [] ∧ m = 2) ∨ (k = 5 ∧ u = 0 ∧ n = 0 ∧ s = [] ∧ m = 1) ∨ (k = 7 ∧ 1 ≤ u ∧ u ≤ 6 ∧ n = 0 ∧ s = [] ∧ m = 1) ∨ (k = 8 ∧ 1 ≤ u ∧ u ≤ 6 ∧ 0 ≤ n ∧ n ≤ 65535 ∧ s = [] ∧ m = 1) := by
  have h0 : fieldsOf k ≠ 0 := by
    intro h0
    simp [plainF, h0] at h
  have hk : k = 1 ∨ k = 2 ∨ k = 3 ∨ k = 4 ∨ k = 5 ∨ k = 6 ∨ k = 7 ∨ k = 8 := by
    unfold fieldsOf at h0
    by_cases hk : k = 1 ∨ k = 2 ∨ k = 3 ∨ k = 4 ∨ k = 5 ∨ k = 6 ∨ k = 7 ∨ k = 8
    · exact hk
    · exact absurd (by repeat (first | rw [if_neg (by omega)] | rfl)) h0
  have t1 : fieldsOf 1 = 1 := rfl
  have t2 : fieldsOf 2 = 6 := rfl
  have t3 : fieldsOf 3 = 2 := rfl
  have t4 : fieldsOf 4 = 16 := rfl
  have t5 : fieldsOf 5 = 8 := rfl
  have t6 : fieldsOf 6 = 16 := rfl
  have t7 : fieldsOf 7 = 10 := rfl
  have t8 : fieldsOf 8 = 14 := rfl
  have f11 : hasF 1 1 = true := rfl
  have f12 : hasF 1 2 = false := rfl
  have f14 : hasF 1 4 = false := rfl
  have f61 : hasF 6 1 = false := rfl
  have f62 : hasF 6 2 = true := rfl
  have f64 : hasF 6 4 = true := rfl
  have f21 : hasF 2 1 = false := rfl
  have f22 : hasF 2 2 = true := rfl
  have f24 : hasF 2 4 = false := rfl
  have g1 : hasF 16 1 = false := rfl
  have g2 : hasF 16 2 = false := rfl
  have g4 : hasF 16 4 = false := rfl
  have i1 : hasF 8 1 = false := rfl
  have i2 : hasF 8 2 = false := rfl
  have i4 : hasF 8 4 = false := rfl
  have j1 : hasF 10 1 = false := rfl
  have j2 : hasF 10 2 = true := rfl
  have j4 : hasF 10 4 = false := rfl
  have l1 : hasF 14 1 = false := rfl
  have l2 : hasF 14 2 = true := rfl
  have l4 : hasF 14 4 = true := rfl
  have k1 : kidsF 1 = 0 := rfl
  have k6 : kidsF 6 = 0 := rfl
  have k2 : kidsF 2 = 0 := rfl
  have k16 : kidsF 16 = 2 := rfl
  have k8 : kidsF 8 = 1 := rfl
  have k10 : kidsF 10 = 1 := rfl
  have k14 : kidsF 14 = 1 := rfl
  by_cases hs : s = []
  · subst hs
    rcases hk with rfl | rfl | rfl | rfl | rfl | rfl | rfl | rfl <;> simp [plainF, t1, t2, t3, t4, t5, t6, t7, t8, f11, f12, f14, f61, f62, f64, f21, f22, f24, g1, g2, g4, i1, i2, i4, j1, j2, j4, l1, l2, l4, k1, k6, k2, k16, k8, k10, k14, knownF] at h ⊢ <;> omega
  · rcases hk with rfl | rfl | rfl | rfl | rfl | rfl | rfl | rfl <;> simp [plainF, t1, t2, t3, t4, t5, t6, t7, t8, f11, f12, f14, f61, f62, f64, f21, f22, f24, g1, g2, g4, i1, i2, i4, j1, j2, j4, l1, l2, l4, k1, k6, k2, k16, k8, k10, k14, knownF, hs] at h ⊢
    omega
inductive Ok : Term → Prop where
  | mk {k u n : Int} {s : List UInt8} {ks : List Term} (h : plainF k u n s ks.length = true) (hk : ∀ t ∈ ks, Ok t) : Ok (.mk k u n s ks)
theorem u8_inj {a b : Int} (ha : 0 ≤ a ∧ a ≤ 255) (hb : 0 ≤ b ∧ b ≤ 255) (h : Wk.u8 a = Wk.u8 b) : a = b := by
  have h1 := congrArg UInt8.toNat h
  unfold Wk.u8 at h1
  rw [UInt8.toNat_ofNat', UInt8.toNat_ofNat'] at h1
  simp at h1
  omega
def Good (t : Term) : Prop := sizeF t ≠ 0
mutual
def cnt : Term → Nat
  | .mk _ _ _ _ ks => 1 + cntL ks
def cntL : List Term → Nat
  | [] => 0
  | t :: ts => cnt t + cntL ts
end
theorem cnt_pos (t : Term) : 0 < cnt t := by cases t; simp [cnt]; omega
mutual
theorem walk_more : ∀ (t : Term) (d l d' l' : Int), (walkF t d l).1 = true → d' ≤ d → l ≤ l' → (walkF t d' l').1 = true ∧ (walkF t d' l').2 = l' - cnt t
  | .mk k u n s ks, d, l, d', l' => by
    intro h hd hl
    rw [walkF] at h ⊢
    split at h
    · cases h
    · rename_i hc
      rw [if_neg (fun hn => hc (hn.elim (fun q => .inl (by omega)) (fun q => .inr (q.elim (fun q => .inl (by omega)) .inr))))]
      obtain ⟨h1, h2⟩ := walkL_more ks (d + 1) (l - 1) (d' + 1) (l' - 1) h (by omega) (by omega)
      refine ⟨h1, ?_⟩
      rw [h2, cnt]; omega
theorem walkL_more : ∀ (ts : List Term) (d l d' l' : Int), (walkLF ts d l).1 = true → d' ≤ d → l ≤ l' → (walkLF ts d' l').1 = true ∧ (walkLF ts d' l').2 = l' - cntL ts
  | [], d, l, d', l' => by intro _ _ _; simp [walkLF, cntL]
  | t :: ts, d, l, d', l' => by
    intro h hd hl
    rw [walkLF] at h ⊢
    split at h
    · rename_i hc
      obtain ⟨h1, h2⟩ := walk_more t d l d' l' hc hd hl
      obtain ⟨_, h2'⟩ := walk_more t d l d l hc (Int.le_refl _) (Int.le_refl _)
      rw [if_pos h1]
      obtain ⟨h3, h4⟩ := walkL_more ts d _ d' (walkF t d' l').2 h hd (by omega)
      refine ⟨h3, ?_⟩
      rw [h4, h2, cntL]; omega
    · cases h
end
theorem good_walk {t : Term} : Good t ↔ (walkF t 1 1200).1 = true := by
  constructor
  · intro h
    unfold Good sizeF at h
    split at h
    · assumption
    · exact absurd rfl h
  · intro h
    unfold Good sizeF
    rw [if_pos h]
    obtain ⟨_, h2⟩ := walk_more t 1 1200 1 1200 h (Int.le_refl _) (Int.le_refl _)
    have := cnt_pos t
    omega
theorem walkL_mem : ∀ (ts : List Term) (d l : Int), (walkLF ts d l).1 = true → ∀ t ∈ ts, ∃ l', l' ≤ l ∧ (walkF t d l').1 = true
  | [], _, _ => by intro _ t ht; cases ht
  | x :: xs, d, l => by
    intro h t ht
    rw [walkLF] at h
    split at h
    · rename_i hc
      rcases List.mem_cons.1 ht with he | ht
      · exact ⟨l, Int.le_refl _, by rw [he]; exact hc⟩
      · obtain ⟨l', h1, h2⟩ := walkL_mem xs d _ h t ht
        have := walkF_le x d l
        exact ⟨l', by omega, h2⟩
    · cases h
theorem good_kid {k u n : Int} {s : List UInt8} {ks : List Term} (h : Good (.mk k u n s ks)) {t : Term} (ht : t ∈ ks) : Good t := by
  have h1 := good_walk.1 h
  rw [walkF] at h1
  split at h1
  · cases h1
  · obtain ⟨l', h2, h3⟩ := walkL_mem ks _ _ h1 t ht
    exact good_walk.2 (walk_more t (1 + 1) l' 1 1200 h3 (by omega) (by omega)).1
theorem good_le {t : Term} (h : Good t) : cnt t ≤ 1200 := by
  have h1 := good_walk.1 h
  obtain ⟨_, h2⟩ := walk_more t 1 1200 1 1200 h1 (Int.le_refl _) (Int.le_refl _)
  have := walkF_ge t 1 1200 (by omega) h1
  omega
theorem good_check {t : Term} : checkF t = 0 ↔ Good t := by
  unfold checkF Good
  split <;> simp_all
mutual
def dpt : Term → Nat
  | .mk _ _ _ _ ks => 1 + dptL ks
def dptL : List Term → Nat
  | [] => 0
  | t :: ts => max (dpt t) (dptL ts)
end
mutual
theorem walk_fit : ∀ (t : Term) (d l d' l' : Int), (walkF t d l).1 = true → (cnt t : Int) ≤ l' → d' + dpt t ≤ 61 → (walkF t d' l').1 = true ∧ (walkF t d' l').2 = l' - cnt t
  | .mk k u n s ks, d, l, d', l' => by
    intro h hl hd
    rw [walkF] at h ⊢
    split at h
    · cases h
    · rename_i hc
      rw [cnt] at hl
      rw [dpt] at hd
      rw [if_neg (fun hn => hc (hn.elim (fun q => absurd q (by omega)) (fun q => .inr (q.elim (fun q => absurd q (by omega)) .inr))))]
      obtain ⟨h1, h2⟩ := walkL_fit ks (d + 1) (l - 1) (d' + 1) (l' - 1) h (by omega) (by omega)
      refine ⟨h1, ?_⟩
      rw [h2, cnt]; omega
theorem walkL_fit : ∀ (ts : List Term) (d l d' l' : Int), (walkLF ts d l).1 = true → (cntL ts : Int) ≤ l' → d' + dptL ts ≤ 61 → (walkLF ts d' l').1 = true ∧ (walkLF ts d' l').2 = l' - cntL ts
  | [], d, l, d', l' => by intro _ _ _; simp [walkLF, cntL]
  | t :: ts, d, l, d', l' => by
    intro h hl hd
    rw [walkLF] at h ⊢
    rw [cntL] at hl
    rw [dptL] at hd
    split at h
    · rename_i hc
      obtain ⟨h1, h2⟩ := walk_fit t d l d' l' hc (by omega) (by omega)
      rw [if_pos h1]
      obtain ⟨h3, h4⟩ := walkL_fit ts d _ d' (walkF t d' l').2 h (by omega) (by omega)
      refine ⟨h3, ?_⟩
      rw [h4, h2, cntL]; omega
    · cases h
end
theorem walkL_good : ∀ (ts : List Term) (d l : Int), (∀ t ∈ ts, Good t) → (cntL ts : Int) ≤ l → d + dptL ts ≤ 61 → (walkLF ts d l).1 = true
  | [], d, l => by intro _ _ _; simp [walkLF]
  | t :: ts, d, l => by
    intro h hl hd
    rw [cntL] at hl
    rw [dptL] at hd
    obtain ⟨h1, h2⟩ := walk_fit t 1 1200 d l (good_walk.1 (h t (by simp))) (by omega) (by omega)
    rw [walkLF, if_pos h1]
    exact walkL_good ts d _ (fun x hx => h x (by simp [hx])) (by omega) (by omega)
theorem good_mk {k u n : Int} {s : List UInt8} {ks : List Term} (hp : plainF k u n s ks.length = true) (h : ∀ t ∈ ks, Good t) (hc : cntL ks ≤ 1199) (hd : dptL ks ≤ 59) : Good (.mk k u n s ks) := by
  refine good_walk.2 ?_
  rw [walkF, if_neg (by simp [hp])]
  exact walkL_good ks _ _ h (by omega) (by omega)
theorem good_fresh {u n : Int} (hu : 1 ≤ u ∧ u ≤ 6) (hn : 0 ≤ n ∧ n ≤ 65535) : Good (.mk 2 u n [] []) := by
  refine good_mk ?_ (by simp) (by simp [cntL]) (by simp [dptL])
  simp [plainF, show fieldsOf 2 = 6 from rfl, show hasF 6 1 = false from by decide, show hasF 6 2 = true from by decide, show hasF 6 4 = true from by decide, show kidsF 6 = 0 from by decide, knownF, hu.1, hu.2, hn.1, hn.2]
theorem good_lock {a b : Term} (ha : Good a) (hb : Good b) (hc : cnt a + cnt b ≤ 1199) (h1 : dpt a ≤ 59) (h2 : dpt b ≤ 59) : Good (.mk 6 0 0 [] [a, b]) :=
  good_mk (show plainF 6 0 0 [] 2 = true by decide) (by simp; exact ⟨ha, hb⟩) (by simp [cntL]; omega) (by simp [dptL]; omega)
theorem good_seal {u : Int} {a : Term} (hu : 1 ≤ u ∧ u ≤ 6) (ha : Good a) (hc : cnt a ≤ 1199) (h1 : dpt a ≤ 59) : Good (.mk 7 u 0 [] [a]) := by
  refine good_mk ?_ (by simp; exact ha) (by simp [cntL]; omega) (by simp [dptL]; omega)
  simp [plainF, show fieldsOf 7 = 10 from rfl, show hasF 10 1 = false from by decide, show hasF 10 2 = true from by decide, show hasF 10 4 = false from by decide, show kidsF 10 = 1 from by decide, knownF, hu.1, hu.2]
end Go.Proofs.YtibkkbknnfehlaaGreatDoor
namespace Go.Wk
open Go
def lpI (L D : Nat) (r : Loop) : Item where
  foot := fun k => k = D ∨ k = L
  holds := fun w => w.heap[L]? = some (.loop r) ∧ w.heap[D]? = some (.deferred (some []))
def lpR (b : Loop) (s : LoopState) (p : Option Code) : Loop := { b with state := s, pending := p }
def marks (Ds : List Nat) : Item where
  foot := fun k => k ∈ Ds
  holds := fun w => Ds.Nodup ∧ ∀ k ∈ Ds, w.heap[k]? = some (.deferred (some []))
def dsOf (Ds : List Nat) : List Deferred := Ds.map fun D => { target := .collected D, args := #[] }
theorem lpI_loc (L D : Nat) (r : Loop) (w1 w2 : World) (h : ∀ k, (lpI L D r).foot k → w2.heap[k]? = w1.heap[k]?) (h1 : (lpI L D r).holds w1) : (lpI L D r).holds w2 :=
  ⟨(h L (.inr rfl)).trans h1.1, (h D (.inl rfl)).trans h1.2⟩
theorem marks_loc (Ds : List Nat) (w1 w2 : World) (h : ∀ k, (marks Ds).foot k → w2.heap[k]? = w1.heap[k]?) (h1 : (marks Ds).holds w1) : (marks Ds).holds w2 :=
  ⟨h1.1, fun k hk => (h k hk).trans (h1.2 k hk)⟩
theorem Agree.putObj {M : Nat → Prop} (w : World) (g : Nat) (o : Obj) (hg : M g) : Agree M w (w.putObj g o) :=
  ⟨rfl, rfl, rfl, by simp, fun k _ hm => World.putObj_heap_other (fun e => hm (e ▸ hg))⟩
def IterRet {α : Type} (P : Program) (g : Nat) (lb : List Value) (w : World) (M : Nat → Prop) (E : α → List Value → World → World → Prop) (xs : List α) : Prop :=
  ∀ (l : Nat) (J : Nat → World → Prop) (Jx : World → Prop),
    (∀ i x vs W0 W1, xs[i]? = some x → J i W0 → Grow W0 W1 → E x vs W0 W1 → YieldAt (FW none) 0 P l vs.toArray W1 fun e W' =>
      Agree M w W' ∧ ((e = .returned (.bool true) ∧ J (i + 1) W') ∨ (e = .returned (.bool false) ∧ Jx W'))) →
    J 0 w →
    CallsIn (FW none) 0 P g (.func (.yield l) #[] #[] :: lb).toArray w fun e W' => (∃ v, e = .returned v) ∧ ∃ W0, Grow W0 W' ∧ (J xs.length W0 ∨ Jx W0)
theorem Wd.rebase {w0 w1 w : World} {M0 M : Nat → Prop} {bs : List Item} {fs : List (World → Prop)} (h : Wd w1 M w bs fs) (ha : Agree M0 w0 w1) (hM : ∀ k, M k → M0 k ∨ w0.heap.size ≤ k) : Wd w0 M0 w bs fs where
  agree := ha.trans' h.agree fun i hi hm => (hM i hm).elim id (fun h => absurd h (by omega))
  held := h.held
  lt := h.lt
  own := fun it hi ho k hk => (h.own it hi ho k hk).elim (hM k) (fun h1 => .inr (Nat.le_trans ha.size h1))
  apart := h.apart
  facts := h.facts
  loc := h.loc
theorem Wd.join {w0 w : World} {M0 : Nat → Prop} {Es Ds : List Nat} {bs bs' : List Item} {fs : List (World → Prop)} (h : Wd w0 M0 w (marks Es :: bs) fs) (hr : ReplI bs (marks Ds) (marks (Es ++ Ds)) bs') : Wd w0 M0 w bs' fs := by
  obtain ⟨pre, post, rfl, rfl⟩ := hr.ex
  have h2 := h.perm (bs' := marks Es :: marks Ds :: (pre ++ post)) (.cons _ (List.perm_middle.symm))
  have hap := List.pairwise_cons.1 h2.apart
  have hap2 := List.pairwise_cons.1 hap.2
  have he : (marks Es).holds w := h2.held _ (by simp)
  have hd : (marks Ds).holds w := h2.held _ (by simp)
  refine Wd.perm (bs := marks (Es ++ Ds) :: (pre ++ post)) ?_ List.perm_middle
  have hfeq : foots (marks (Es ++ Ds) :: (pre ++ post)) = foots (marks Es :: marks Ds :: (pre ++ post)) := by
    funext k
    simp only [foots, List.mem_cons, or_and_right, exists_or, exists_eq_left, marks, List.mem_append, or_assoc]
  refine ⟨h2.agree, ?_, ?_, ?_, List.pairwise_cons.2 ⟨?_, hap2.2⟩, ?_, ?_⟩
  · intro it hi
    rcases List.mem_cons.1 hi with rfl | hi
    · exact ⟨List.nodup_append.2 ⟨he.1, hd.1, fun a ha b hb e => hap.1 (marks Ds) (by simp) a ha (e ▸ hb)⟩, fun k hk => (List.mem_append.1 hk).elim (he.2 k) (hd.2 k)⟩
    · exact h2.held it (by simp only [List.mem_cons]; exact .inr (.inr hi))
  · intro it hi k hk
    rcases List.mem_cons.1 hi with rfl | hi
    · exact (List.mem_append.1 hk).elim (fun q => h2.lt (marks Es) (by simp) k q) (fun q => h2.lt (marks Ds) (by simp) k q)
    · exact h2.lt it (by simp only [List.mem_cons]; exact .inr (.inr hi)) k hk
  · intro it hi ho k hk
    rcases List.mem_cons.1 hi with rfl | hi
    · exact (List.mem_append.1 hk).elim (fun q => h2.own (marks Es) (by simp) rfl k q) (fun q => h2.own (marks Ds) (by simp) rfl k q)
    · exact h2.own it (by simp only [List.mem_cons]; exact .inr (.inr hi)) ho k hk
  · intro it hi k hk
    rcases List.mem_append.1 hk with q | q
    · exact hap.1 it (by simp only [List.mem_cons]; exact .inr hi) k q
    · exact hap2.1 it hi k q
  · intro Φ hΦ
    rw [hfeq]; exact h2.facts Φ hΦ
  · intro it hi
    rcases List.mem_cons.1 hi with rfl | hi
    · exact marks_loc _
    · exact h2.loc it (by simp only [List.mem_cons]; exact .inr (.inr hi))
section
variable {P : Program} {Q : Exit → Act → World → Prop} {w0 : World} {M0 : Nat → Prop} {ds : List Deferred} {a : Act} {w : World} {l : List Value} {bs bs' : List Item} {fs : List (World → Prop)}
def RoundEnd (P : Program) (L : Nat) (w1 : World) (M : Nat → Prop) (J : World → Prop) (Jx : Code → World → Prop) : Exit → Act → World → Prop :=
  roundPost P L fun e W' => Agree M w1 W' ∧ ((e = .returned (.bool true) ∧ J W') ∨ (e = .returned (.bool false) ∧ ∃ c, Jx c W'))
theorem Wd.putLoop {L D : Nat} {r r' : Loop} (h : Wd w0 M0 w bs fs) [hr : ReplI bs (lpI L D r) (lpI L D r') bs'] : w.heap[L]? = some (.loop r) ∧ Wd w0 M0 (w.putObj L (.loop r')) bs' fs := by
  obtain ⟨pre, post, rfl, rfl⟩ := hr.ex
  have hm : lpI L D r ∈ pre ++ lpI L D r :: post := by simp
  have hl := h.held _ hm
  have hlt : L < w.heap.size := (Array.getElem?_eq_some_iff.1 hl.1).1
  have hDL : D ≠ L := fun e => by have h1 := hl.1; have h2 := hl.2; rw [e, h1] at h2; cases h2
  exact ⟨hl.1, h.swap rfl (Agree.putObj w L _ (.inr rfl)) ⟨World.putObj_heap_same hlt, (World.putObj_heap_other hDL).trans hl.2⟩ (fun k hk => .inl hk) (fun k hk => by simpa using h.lt _ hm k hk) (lpI_loc _ _ _)⟩
theorem rend {L D : Nat} {b : Loop} {w1 : World} {M : Nat → Prop} {J : World → Prop} {Jx : Code → World → Prop} (S : St w1 M ds a w l bs fs) (jump : Option Code)
    [hr : ReplI bs (lpI L D (lpR b .busy none)) (lpI L D (lpR b (if jump.isNone then .ready else .done) jump)) bs']
    (h : ∀ W', Wd w1 M W' bs' fs → (jump = none → J W') ∧ (∀ c, jump = some c → Jx c W')) : ∃ v w', (Instr.endRound L jump).run P w = .ok v w' ∧ (Agree M w1 w' ∧ ((Ending.returned v = .returned (.bool true) ∧ J w') ∨ (Ending.returned v = .returned (.bool false) ∧ ∃ c, Jx c w'))) := by
  obtain ⟨hl, hwd⟩ := S.wd.putLoop (L := L) (D := D) (r := lpR b .busy none) (r' := lpR b (if jump.isNone then .ready else .done) jump)
  obtain ⟨h1, h2⟩ := h _ hwd
  refine ⟨_, _, run_endRound (P := P) jump hl, hwd.agree, ?_⟩
  cases jump with
  | none => exact .inl ⟨rfl, h1 rfl⟩
  | some c => exact .inr ⟨rfl, c, h2 c rfl⟩
theorem rnext {L D : Nat} {b : Loop} {w1 : World} {M : Nat → Prop} {J : World → Prop} {Jx : Code → World → Prop} (S : St w1 M ds a w l bs fs)
    [hr : ReplI bs (lpI L D (lpR b .busy none)) (lpI L D (lpR b .ready none)) bs'] (h : ∀ W', Wd w1 M W' bs' fs → J W') : RoundEnd P L w1 M J Jx .normal a w :=
  rend (D := D) (b := b) S none (hr := hr) fun W' hW => ⟨fun _ => h W' hW, fun _ h => by cases h⟩
theorem rret {L D : Nat} {b : Loop} {w1 : World} {M : Nat → Prop} {J : World → Prop} {Jx : Code → World → Prop} (S : St w1 M ds a w l bs fs)
    [hr : ReplI bs (lpI L D (lpR b .busy none)) (lpI L D (lpR b .done (some .ret))) bs'] (h : ∀ W', Wd w1 M W' bs' fs → Jx .ret W') : RoundEnd P L w1 M J Jx .ret a w :=
  rend (D := D) (b := b) S (some .ret) (hr := hr) fun W' hW => ⟨fun h => by (cases h), fun _ h' => by cases h'; exact h W' hW⟩
theorem rbegin {L D : Nat} {b : Loop} {w1 : World} {M : Nat → Prop} {K : Act → World → Prop} (S : St w1 M ds a w l bs fs)
    [hr : ReplI bs (lpI L D (lpR b .ready none)) (lpI L D (lpR b .busy none)) bs']
    (h : ∀ a w, St w1 M ds a w l bs' fs → K a w) : ∃ w2, (Instr.beginRound L).run P w = .ok () w2 ∧ K a w2 := by
  obtain ⟨hl, hwd⟩ := S.wd.putLoop (L := L) (D := D) (r := lpR b .ready none) (r' := lpR b .busy none)
  exact ⟨_, run_beginRound (P := P) hl rfl, h _ _ ⟨S.slots, S.defers, hwd⟩⟩
theorem foldl_put (ps : List Nat) (vs : List Value) : ∀ (t : Array Value), (ps.toArray.zip vs.toArray).foldl (fun t (p, v) => t.setIfInBounds p v) t = (ps.zip vs).foldl (fun t (x : Nat × Value) => t.setIfInBounds x.1 x.2) t := by
  intro t
  simp
class PutPs (l : List Value) (ps : List Nat) (vs : List Value) (l' : outParam (List Value)) : Prop where eq : (ps.zip vs).foldl (fun (t : Array Value) (x : Nat × Value) => t.setIfInBounds x.1 x.2) l.toArray = l'.toArray ∧ vs.length = ps.length
instance putps0 {l : List Value} : PutPs l [] [] l := ⟨by simp⟩
instance putpsS {l l1 l' : List Value} {p : Nat} {v : Value} {ps : List Nat} {vs : List Value} [h : PutAt l p v l1] [h' : PutPs l1 ps vs l'] : PutPs l (p :: ps) (v :: vs) l' := ⟨by
  obtain ⟨h1, h2⟩ := h'.eq
  have := h.eq
  simp [← h1, h2, ← this]⟩
theorem c_range {α : Type} {g : Operand} {ps : List Nat} {assign body : Code} {gf : Nat} {lb : List Value} {Ds : List Nat} {κ κx : Type} {E : α → List Value → World → World → Prop} (xs : List α)
    (bsI : Nat → κ → List Item) (fsI : Nat → κ → List (World → Prop)) (φ : Nat → κ → Prop) (bsX : κx → List Item) (fsX : κx → List (World → Prop)) (ψ : Code → κx → Prop) (k0 : κ)
    (S : St w0 M0 (dsOf Ds) a w l bs fs) [EntF P gf] [hg : Ev ⟨[], l⟩ g (.func (.func gf) #[] ⟨lb⟩)]
    (hit : ∀ (M : Nat → Prop) (w1 : World), (∀ k, M k → k < w1.heap.size) → (∀ Φ ∈ fs, Stable M w1 Φ) → (∀ it ∈ bs, it.own = false → Stable M w1 it.holds) → IterRet P gf lb w1 M E xs)
    (hk0 : φ 0 k0 ∧ bsI 0 k0 = bs ∧ fsI 0 k0 = fs)
    (hround : ∀ (L D : Nat) (b : Loop) (M : Nat → Prop) (w1 : World) (i : Nat) (x : α) (vs : List Value) (k : κ) (W0 W : World), xs[i]? = some x → φ i k → Wd w1 M W0 (lpI L D (lpR b .ready none) :: bsI i k) (fsI i k) → Grow W0 W → E x vs W0 W → ∃ lx, PutPs l ps vs lx ∧ ∀ a,
      St w1 M [] a W lx (lpI L D (lpR b .ready none) :: bsI i k) (fsI i k) →
      Wp P (some L) assign (Exit.then (fun a w => ∃ w2, (Instr.beginRound L).run P w = .ok () w2 ∧ Wp P (some L) body (RoundEnd P L w1 M (fun W => ∃ k', φ (i + 1) k' ∧ Wd w1 M W (lpI L D (lpR b .ready none) :: bsI (i + 1) k') (fsI (i + 1) k'))
        (fun c W => (c = .ret ∨ ∃ id, c = .exit id) ∧ ∃ k', ψ c k' ∧ Wd w1 M W (lpI L D (lpR b .done (some c)) :: bsX k') (fsX k'))) a w2) (fun _ _ _ => False)) a W)
    (hdone : ∀ (D : Nat) (k : κ) (a : Act) (W : World), φ xs.length k → St w0 M0 (dsOf ([D] ++ Ds)) a W l (marks [D] :: bsI xs.length k) (fsI xs.length k) → Q .normal a W)
    (hret : ∀ (D : Nat) (k : κx) (a : Act) (W : World), ψ .ret k → St w0 M0 (dsOf ([D] ++ Ds)) a W l (marks [D] :: bsX k) (fsX k) → Q .ret a W)
    (hexit : ∀ (id D : Nat) (k : κx) (a : Act) (W : World), ψ (.exit id) k → St w0 M0 (dsOf ([D] ++ Ds)) a W l (marks [D] :: bsX k) (fsX k) → Q (.exit id) a W) :
    Wp P none (.rangeFunc g ps.toArray assign body) Q a w := by
  refine wpIn_rangeFunc ?_
  intro fn _
  obtain ⟨b, hb⟩ : ∃ b : Loop, b = { state := .ready, pending := none, fn := fn, tmps := a.tmps, params := ps.toArray, assign := assign, body := body, defers := w.heap.size } := ⟨_, rfl⟩
  obtain ⟨w1, hw1⟩ : ∃ w1, (w.alloc (.deferred (some []))).alloc (.loop b) = w1 := ⟨_, rfl⟩
  have hL1 : w1.heap[w.heap.size + 1]? = some (.loop b) := by
    rw [← hw1]; have := World.alloc_heap_new (w.alloc (.deferred (some []))) (.loop b); rwa [World.size_alloc] at this
  have hD1 : w1.heap[w.heap.size]? = some (.deferred (some [])) := by
    rw [← hw1]; exact (RowKit.Below.heap_alloc _ _ _ (by simp)).trans (World.alloc_heap_new w _)
  have hsz : w1.heap.size = w.heap.size + 2 := by rw [← hw1]; simp
  have hgrow : Grow w w1 := by rw [← hw1]; exact (Agree.alloc _ w _).trans (Agree.alloc _ _ _)
  have hlpr : lpR b .ready none = b := by rw [hb]; rfl
  obtain ⟨M, hM⟩ : ∃ M : Nat → Prop, M = fun k => k = w.heap.size ∨ k = w.heap.size + 1 ∨ ∃ it ∈ bs, it.own = true ∧ it.foot k := ⟨_, rfl⟩
  have hwd1 : Wd w1 M w1 (lpI (w.heap.size + 1) w.heap.size (lpR b .ready none) :: bs) fs := by
    have hst := S.wd.step hgrow
    refine ⟨Agree.refl _ _, ?_, ?_, ?_, List.pairwise_cons.2 ⟨?_, hst.apart⟩, ?_, ?_⟩
    · intro it hi
      rcases List.mem_cons.1 hi with rfl | hi
      · exact ⟨by rw [hlpr]; exact hL1, hD1⟩
      · exact hst.held it hi
    · intro it hi k hk
      rcases List.mem_cons.1 hi with rfl | hi
      · simp only [lpI] at hk; omega
      · exact hst.lt it hi k hk
    · intro it hi ho k hk
      rw [hM]
      rcases List.mem_cons.1 hi with rfl | hi
      · exact .inl (hk.elim .inl (fun h => .inr (.inl h)))
      · exact .inl (.inr (.inr ⟨it, hi, ho, hk⟩))
    · intro it hi k hk hk'
      have := S.wd.lt it hi k hk'
      simp only [lpI] at hk; omega
    · intro Φ hΦ w'' hw''
      refine S.wd.facts Φ hΦ w'' ((hgrow.mono (fun _ _ h => h.elim)).trans' hw'' fun i hi ⟨it, hm, hk⟩ => ?_)
      rcases List.mem_cons.1 hm with rfl | hm
      · simp only [lpI] at hk; omega
      · exact ⟨it, hm, hk⟩
    · intro it hi
      rcases List.mem_cons.1 hi with rfl | hi
      · exact lpI_loc _ _ _
      · exact hst.loc it hi
  have hMlt : ∀ k, M k → k < w1.heap.size := fun k hk => by
    rw [hM] at hk
    rcases hk with rfl | rfl | ⟨it, hi, _, hk⟩
    · omega
    · omega
    · have := S.wd.lt it hi k hk; omega
  have hMf : ∀ Φ ∈ fs, Stable M w1 Φ := fun Φ hΦ => (hwd1.facts Φ hΦ).less fun k _ hk => by
    rw [hM] at hk
    rcases hk with rfl | rfl | ⟨it, hi, _, hk⟩
    · exact ⟨_, List.mem_cons_self .., .inl rfl⟩
    · exact ⟨_, List.mem_cons_self .., .inr rfl⟩
    · exact ⟨it, List.mem_cons_of_mem _ hi, hk⟩
  have hMr : ∀ it ∈ bs, it.own = false → Stable M w1 it.holds := fun it hi ho w2 hw2 => by
    have hst := S.wd.step hgrow
    refine hst.loc it hi w1 w2 (fun k hk => hw2.blk (hst.lt it hi k hk) fun hm => ?_) (hst.held it hi)
    rw [hM] at hm
    have hlt := S.wd.lt it hi k hk
    rcases hm with rfl | rfl | ⟨it', hi', ho', hk'⟩
    · omega
    · omega
    · exact apart_of S.wd.apart hi hi' (by rw [ho, ho']; simp) k hk hk'
  have hM0 : ∀ k, M k → M0 k ∨ w0.heap.size ≤ k := fun k hk => by
    have := S.wd.agree.size
    rw [hM] at hk
    rcases hk with rfl | rfl | ⟨it, hi, ho, hk⟩
    · exact .inr this
    · exact .inr (by omega)
    · exact S.wd.own it hi ho k hk
  have hag : Agree M0 w0 w1 := (S.wd.step hgrow).agree
  have hfin : ∀ (r : Loop) (bs2 : List Item) (fs2 : List (World → Prop)) (W : World), r.state ≠ .busy → Wd w1 M W (lpI (w.heap.size + 1) w.heap.size r :: bs2) fs2 →
      ∃ W', (Instr.endLoop (w.heap.size + 1)).run P W = .ok r.pending W' ∧ St w0 M0 (dsOf ([w.heap.size] ++ Ds)) { a with defers := [{ target := .collected w.heap.size, args := #[] }] ++ a.defers } W' l (marks [w.heap.size] :: bs2) fs2 := fun r bs2 fs2 W hr hwd => by
    have hl : W.heap[w.heap.size + 1]? = some (.loop r) ∧ W.heap[w.heap.size]? = some (.deferred (some [])) := hwd.held _ (List.mem_cons_self ..)
    have hlt : w.heap.size + 1 < W.heap.size := (Array.getElem?_eq_some_iff.1 hl.1).1
    refine ⟨_, run_endLoop (P := P) hl.1 hr, S.slots, by rw [S.defers]; rfl, ?_⟩
    refine (hwd.rebase hag hM0).swap (pre := []) (y := marks [w.heap.size]) rfl (Agree.putObj W _ _ (.inr rfl)) ⟨by simp, fun k hk => ?_⟩ (fun k hk => .inl ?_) (fun k hk => ?_) (marks_loc _)
    · obtain rfl := List.mem_singleton.1 hk
      exact (World.putObj_heap_other (by omega)).trans hl.2
    · obtain rfl := List.mem_singleton.1 hk; exact .inl rfl
    · obtain rfl := List.mem_singleton.1 hk; simp; omega
  have heg := hg.eq (by simp) a.defers
  have hae : a.eval g = .func (.func gf) #[] ⟨lb⟩ := S.fr.ev
  refine ⟨w.heap.size + 1, [{ target := .collected w.heap.size, args := #[] }], w1, { target := .fn (.func gf) ⟨lb⟩, args := #[.func (.yield (w.heap.size + 1)) #[] #[]] }, w1, gf,
    (.func (.yield (w.heap.size + 1)) #[] #[] :: lb).toArray, w1, ?_, ?_, fun _ _ => trivial, ?_, fun h => (by cases h), ?_⟩
  · rw [← hw1, hb]; exact run_enterLoop_outer _ _ _ _ _
  · simp only [resolve, hae]
    simp [go_sem]
  · have := EntF.run (P := P) (f := gf) (.func (.yield (w.heap.size + 1)) #[] #[] :: lb).toArray w1
    simpa [invoke, go_sem] using this
  · have hI := hit M w1 hMlt hMf hMr
    refine CallsIn.mono (hI (w.heap.size + 1) (fun i W => ∃ k, φ i k ∧ Wd w1 M W (lpI (w.heap.size + 1) w.heap.size (lpR b .ready none) :: bsI i k) (fsI i k))
      (fun W => ∃ c, (c = .ret ∨ ∃ id, c = .exit id) ∧ ∃ k, ψ c k ∧ Wd w1 M W (lpI (w.heap.size + 1) w.heap.size (lpR b .done (some c)) :: bsX k) (fsX k)) ?_ ⟨k0, hk0.1, by rw [hk0.2.1, hk0.2.2]; exact hwd1⟩) ?_
    · rintro i x vs W0 W1 hx ⟨k, hφ, hwd⟩ hgr hE
      have hwdg := hwd.step hgr
      have hl : W1.heap[w.heap.size + 1]? = some (.loop (lpR b .ready none)) := (hwdg.held _ (List.mem_cons_self ..)).1
      obtain ⟨lx, hps, hround'⟩ := hround (w.heap.size + 1) w.heap.size b M w1 i x vs k W0 W1 hx hφ hwd hgr hE
      have hp := hps.eq
      have hy := run_yield (P := P) (args := vs.toArray) hl (by rw [hb]; simpa [lpR] using hp.2)
      refine ⟨_, _, _, _, hy, roundIn_of_wpIn trivial ?_⟩
      have e1 : (((lpR b .ready none).params.zip vs.toArray).foldl (fun tmps (t, a) => tmps.setIfInBounds t a) (lpR b .ready none).tmps) = lx.toArray := by
        rw [hb]
        simp only [lpR, S.slots, foldl_put, hp.1]
      rw [e1]
      have := hround' { tmps := lx.toArray, defers := [] } ⟨rfl, rfl, hwdg⟩
      simp only [hb, lpR] at this ⊢
      refine wpIn_mono this ?_
      intro e a' w' he
      cases e with
      | normal =>
        obtain ⟨w2, h1, h2⟩ := he
        exact ⟨w2, h1, h2⟩
      | _ => exact he.elim
    · rintro e W ⟨⟨v, rfl⟩, W0, hgr, ⟨k, hφ, hwd⟩ | ⟨c, hc, k, hψ, hwd⟩⟩
      · obtain ⟨W', h1, h2⟩ := hfin (lpR b .ready none) _ _ W (by simp [lpR]) (hwd.step hgr)
        exact ⟨none, W', h1, hdone _ k _ W' hφ h2⟩
      · obtain ⟨W', h1, h2⟩ := hfin (lpR b .done (some c)) _ _ W (by simp [lpR]) (hwd.step hgr)
        refine ⟨some c, W', h1, ?_⟩
        rcases hc with rfl | ⟨id, rfl⟩
        · exact wpIn_ret (hret _ k _ W' hψ h2)
        · exact wpIn_exit (hexit id _ k _ W' hψ h2)
theorem St.join {Es Ds : List Nat} (S : St w0 M0 ds a w l (marks Es :: bs) fs) [hr : ReplI bs (marks Ds) (marks (Es ++ Ds)) bs'] : St w0 M0 ds a w l bs' fs := ⟨S.slots, S.defers, S.wd.join hr⟩
theorem enterM {f : Nat} {fn : Func} {c : Code} {args : List Value} {l : List Value} {R : Ending → World → Prop} {M0 : Nat → Prop} {bs : List Item} {fs : List (World → Prop)}
    (hf : P.funcs[f]? = some fn) (hb : fn.body = some c) (hl : args ++ List.replicate (fn.ntmps - args.length) undef = l) (hw : Wd w M0 w bs fs)
    (h : ∀ a, St w M0 (dsOf []) a w l (marks [] :: bs) fs → Wp P none c (bodyPostM (FW none) 0 P fn R) a w) : Calls P f args.toArray w R := by
  refine (callsIn_wide (n := 0)).1 (callsIn_of_wp_marks (F := FW none) (n := 0) hf hb trivial (h _ ⟨?_, rfl, ?_⟩))
  · simp [← hl]
  · exact hw.more (y := marks []) ⟨by simp, by simp⟩ (fun k hk => by cases hk) (fun k hk => by cases hk) (fun it _ k hk => by cases hk)
      (fun Φ hΦ => (hw.facts Φ hΦ).less fun k _ ⟨it, hi, hk⟩ => by
        rcases List.mem_cons.1 hi with rfl | hi
        · cases hk
        · exact ⟨it, hi, hk⟩) (marks_loc _)
theorem leavesM {fn : Func} {R : Ending → World → Prop} {t : Array Value} : ∀ (Ds : List Nat) (w : World), Wd w0 M0 w (marks Ds :: bs) fs → (∀ w', Wd w0 M0 w' bs fs → LeavesIn (FW none) 0 P fn t R [] .returning w') → LeavesInM (FW none) 0 P fn t R (dsOf Ds) .returning w
  | [], w, hw, h => h w (hw.sub (bs0 := bs) (List.sublist_cons_self ..) (List.Sublist.refl _))
  | D :: Ds, w, hw, h => by
    have hm : (marks (D :: Ds)).holds w := hw.held _ (List.mem_cons_self ..)
    have hD := hm.2 D (List.mem_cons_self ..)
    have hlt : D < w.heap.size := (Array.getElem?_eq_some_iff.1 hD).1
    refine ⟨by simp, .inl ⟨D, _, rfl, run_takeDeferred (P := P) hD, leavesM Ds _ ?_ h⟩⟩
    refine hw.swap (pre := []) (y := marks Ds) rfl (Agree.putObj w D _ (List.mem_cons_self ..)) ⟨(List.nodup_cons.1 hm.1).2, fun k hk => ?_⟩ (fun k hk => .inl (List.mem_cons_of_mem _ hk)) (fun k hk => ?_) (marks_loc _)
    · exact (World.putObj_heap_other (fun (e : k = D) => (List.nodup_cons.1 hm.1).1 (by rw [← e]; exact hk))).trans (hm.2 k (List.mem_cons_of_mem _ hk))
    · simpa using hw.lt _ (List.mem_cons_self ..) k (List.mem_cons_of_mem _ hk)
class DropI (bs : List Item) (x : Item) (bs' : outParam (List Item)) : Prop where perm : (x :: bs').Perm bs
instance dri0 {x : Item} {bs : List Item} : DropI (x :: bs) x bs := ⟨.refl _⟩
instance (priority := 900) driS {x y : Item} {bs bs' : List Item} [h : DropI bs x bs'] : DropI (y :: bs) x (y :: bs') := ⟨(List.Perm.swap _ _ _).trans (.cons _ h.perm)⟩
theorem finM {fn : Func} {R : Value → World → Prop} {e : Exit} {Ds : List Nat} {v : Value} (S : St w0 M0 (dsOf Ds) a w l bs fs) [hd : DropI bs (marks Ds) bs'] (hv : ∀ w, (∀ it ∈ bs', it.holds w) → (results fn l.toArray).run P w = .ok v w) (h : ∀ w, Wd w0 M0 w bs' fs → R v w) (he : e = .ret ∨ e = .normal := by simp) :
    bodyPostM (FW none) 0 P fn (fun e w' => ∃ v, e = .returned v ∧ Agree M0 w0 w' ∧ R v w') e a w := by
  have key : LeavesInM (FW none) 0 P fn a.tmps (fun e w' => ∃ v, e = .returned v ∧ Agree M0 w0 w' ∧ R v w') a.defers .returning w := by
    rw [S.defers, S.slots]
    refine leavesM Ds w (S.wd.perm hd.perm) fun w' hw' => ?_
    exact ⟨v, hv w' hw'.held, v, rfl, hw'.agree, h w' hw'⟩
  rcases he with rfl | rfl <;> exact key
theorem endM1 {fn : Func} {R : Value → World → Prop} {e : Exit} {Ds : List Nat} {r1 : ResultVar} {v1 : Value} [hr : FnRes fn [r1]] (S : St w0 M0 (dsOf Ds) a w l bs fs) [hd : DropI bs (marks Ds) bs'] [h1 : ResV P l bs' r1 v1] (h : ∀ w, Wd w0 M0 w bs' fs → R v1 w) (he : e = .ret ∨ e = .normal := by simp) :
    bodyPostM (FW none) 0 P fn (fun e w' => ∃ v, e = .returned v ∧ Agree M0 w0 w' ∧ R v w') e a w :=
  finM S (fun w hw => by rw [results_eq (rs := [r1])]; simp [run_res (P := P) (l := l) (bs := bs') (rv := r1) (v := v1) w hw]) h he
theorem endM2 {fn : Func} {R : Value → World → Prop} {e : Exit} {Ds : List Nat} {r1 r2 : ResultVar} {v1 v2 : Value} [hr : FnRes fn [r1, r2]] (S : St w0 M0 (dsOf Ds) a w l bs fs) [hd : DropI bs (marks Ds) bs'] [h1 : ResV P l bs' r1 v1] [h2 : ResV P l bs' r2 v2] (h : ∀ w, Wd w0 M0 w bs' fs → R (.tuple ⟨[v1, v2]⟩) w) (he : e = .ret ∨ e = .normal := by simp) :
    bodyPostM (FW none) 0 P fn (fun e w' => ∃ v, e = .returned v ∧ Agree M0 w0 w' ∧ R v w') e a w :=
  finM S (fun w hw => by rw [results_eq (rs := [r1, r2])]; simp [run_res (P := P) (l := l) (bs := bs') (rv := r1) (v := v1) w hw, run_res (P := P) (l := l) (bs := bs') (rv := r2) (v := v2) w hw]) h he
end
inductive Tr where
  | e
  | q (i : Nat) (t : Tr)
  | l (i : Nat) (t : Tr)
  | b2 (i j : Nat) (t u : Tr)
  | b3 (i j k : Nat) (t u v : Tr)
  | b4 (i j k m : Nat) (t u v x : Tr)
def Tr.len : Tr → Nat
  | .e => 0
  | .q _ t | .l _ t => t.len + 1
  | .b2 _ _ t _ => t.len + 1
  | .b3 _ _ _ t _ _ => t.len + 1
  | .b4 _ _ _ _ t _ _ _ => t.len + 1
def flowT (ops : Array Oper) : Tr → Array Bool → Bool
  | .e, listed => (Region.ready .any ops listed).isEmpty
  | .q i t, listed => ((Region.ready .any ops listed).contains i && Region.free .any ops listed i) && flowT ops t (listed.setIfInBounds i true)
  | .l i t, listed => (match Region.ready .any ops listed with | [j] => Nat.beq j i | _ => false) && flowT ops t (listed.setIfInBounds i true)
  | .b2 i j t u, listed => (match Region.ready .any ops listed with | [x, y] => Nat.beq x i && Nat.beq y j | _ => false) && (Nat.beq u.len t.len && (flowT ops t (listed.setIfInBounds i true) && flowT ops u (listed.setIfInBounds j true)))
  | .b3 i j k t u v, listed => (match Region.ready .any ops listed with | [x, y, z] => Nat.beq x i && (Nat.beq y j && Nat.beq z k) | _ => false) && (Nat.beq u.len t.len && (Nat.beq v.len t.len && (flowT ops t (listed.setIfInBounds i true) && (flowT ops u (listed.setIfInBounds j true) && flowT ops v (listed.setIfInBounds k true)))))
  | .b4 i j k m t u v x, listed => (match Region.ready .any ops listed with | [a, y, z, b] => Nat.beq a i && (Nat.beq y j && (Nat.beq z k && Nat.beq b m)) | _ => false) && (Nat.beq u.len t.len && (Nat.beq v.len t.len && (Nat.beq x.len t.len && (flowT ops t (listed.setIfInBounds i true) && (flowT ops u (listed.setIfInBounds j true) && (flowT ops v (listed.setIfInBounds k true) && flowT ops x (listed.setIfInBounds m true)))))))
section
variable {P : Program} {ops : Array Oper} {C : World → Prop} {R : Act → World → Prop}
variable {r : Option Nat} {Q : Exit → Act → World → Prop} {w0 : World} {M0 : Nat → Prop} {ds : List Deferred} {a : Act} {w : World} {l l' : List Value} {bs bs' bs0 : List Item} {fs fs0 : List (World → Prop)}
  {d : Option Nat} {op : Op} {ty : TypeId} {pos : String} {af : Array Edge} {rest : List Oper} {v v' G : Value} {j g : Nat} {pol : Bool} {cs : List Bool} {n : Nat} {listed : Array Bool}
def AT (P : Program) (ops : Array Oper) (C : World → Prop) (R : Act → World → Prop) (t : Tr) (a : Act) (w : World) : Prop :=
  ∀ listed, Region.noSelect ops = true → flowT ops t listed = true → AC P ops C R t.len listed a w
variable {t u x : Tr} {i k : Nat}
theorem tq (S : St w0 M0 ds a w l bs fs) [hb : SubL bs0 bs] [hf : SubL fs0 fs] [ho : OpAt ops i ⟨d, op, ty, pos, af, none⟩] [hq : OpQ P op ty ⟨[], l⟩ bs0 fs0 v] [hp : PutO l d v l']
    (K : ∀ a, St w0 M0 ds a w l' bs fs → AT P ops (fun w => Wd w0 M0 w bs0 fs0) R t a w) :
    AT P ops (fun w => Wd w0 M0 w bs0 fs0) R (.q i t) a w := by
  intro listed hs hflow
  simp only [flowT, Bool.and_eq_true] at hflow
  refine ac_first ho.eq (Region.noSelect_spec hs) _ listed a w (Region.free_spec ho.eq hflow.1.2) (by simpa using hflow.1.1) (v := v) (.inl ⟨rfl, fun w' hw' => ?_⟩) (S.wd.sub hb.sub hf.sub) (K _ S.put _ hs hflow.2)
  rw [execOp_eq]
  exact hq.run a.eval w' S.fr hw'.mem
theorem wn_of {o : Oper} [ho : OpAt ops i o] {K : Act → World → Prop} (h : WL P none ops (fun e a' w' => e = .normal ∧ K a' w') [o] a w) : WN P ops i K a w := by
  unfold WN wpOpIn
  simp only [ho.eq]
  simp only [WL, wpListIn] at h
  split
  · rename_i hw
    rw [if_pos hw] at h
    refine ⟨fun _ _ => trivial, ?_⟩
    have h := h.2
    generalize (o.semAt (FW none).round a.eval).run P w = q at *
    cases q with
    | ok x w' =>
      cases x <;> simp only [Oper.uponIn] at h ⊢
      case value u => exact h.2
      case skip => exact h.2
      case defer d => exact h.2
      case enter f args =>
        refine ⟨h.1, CallsIn.mono h.2 fun e w'' he => ?_⟩
        cases e with
        | returned u => exact he.2
        | panicked c => exact absurd he.1 (by simp)
        | outgrown => obtain ⟨_, _, he, _⟩ := he; exact absurd he (by simp)
      case row row args => exact ⟨h.1, RowsIn.mono h.2 fun u w'' he => he.2⟩
      case round l f tmps assign body =>
        refine ⟨h.1, RoundIn.mono h.2 fun e w'' he => ?_⟩
        cases e with
        | returned u => exact he.2
        | panicked c => exact absurd he.1 (by simp)
        | outgrown => obtain ⟨_, _, he, _⟩ := he; exact absurd he (by simp)
    | halt x w' =>
      cases x <;> simp only [Oper.uponIn] at h ⊢
      case panic u => exact absurd h.1 (by simp)
  · rename_i hw
    rw [if_neg hw] at h
    exact ⟨fun _ _ => trivial, h.2.2⟩
theorem tl {o : Oper} [ho : OpAt ops i o] (h : WL P none ops (fun e a' w' => e = .normal ∧ C w' ∧ AT P ops C R t a' w') [o] a w) : AT P ops C R (.l i t) a w := by
  intro listed hs hflow
  simp only [flowT, Bool.and_eq_true] at hflow
  have hr : Region.ready .any ops listed = [i] := by
    have := hflow.1
    split at this
    · rename_i k hk; rw [hk, Nat.eq_of_beq_eq_true this]
    · cases this
  refine ⟨fun h0 => (by rw [h0] at hr; cases hr), fun k hk => ?_⟩
  rw [hr] at hk
  obtain rfl : k = i := by simpa using hk
  exact wpOpIn_mono (fun a' w' h' => ⟨h'.1, h'.2 _ hs hflow.2⟩) (wn_of h)
theorem tb2 {oi oj : Oper} [hi : OpAt ops i oi] [hj : OpAt ops j oj] (h1 : WL P none ops (fun e a' w' => e = .normal ∧ C w' ∧ AT P ops C R t a' w') [oi] a w) (h2 : WL P none ops (fun e a' w' => e = .normal ∧ C w' ∧ AT P ops C R u a' w') [oj] a w) : AT P ops C R (.b2 i j t u) a w := by
  intro listed hs hflow
  simp only [flowT, Bool.and_eq_true] at hflow
  have hr : Region.ready .any ops listed = [i, j] := by
    have := hflow.1
    split at this
    · rename_i x y hk
      simp only [Bool.and_eq_true] at this
      rw [hk, Nat.eq_of_beq_eq_true this.1, Nat.eq_of_beq_eq_true this.2]
    · cases this
  have hlen := Nat.eq_of_beq_eq_true hflow.2.1
  refine ⟨fun h0 => (by rw [h0] at hr; cases hr), fun k hk => ?_⟩
  rw [hr] at hk
  rcases List.mem_cons.1 hk with rfl | hk
  · exact wpOpIn_mono (fun a' w' h' => ⟨h'.1, h'.2 _ hs hflow.2.2.1⟩) (wn_of h1)
  · obtain rfl := List.mem_singleton.1 hk
    refine wpOpIn_mono (fun a' w' h' => ⟨h'.1, ?_⟩) (wn_of h2)
    have := h'.2 _ hs hflow.2.2.2
    rwa [hlen] at this
theorem tb3 {oi oj ok : Oper} [hi : OpAt ops i oi] [hj : OpAt ops j oj] [hk : OpAt ops k ok] (h1 : WL P none ops (fun e a' w' => e = .normal ∧ C w' ∧ AT P ops C R t a' w') [oi] a w) (h2 : WL P none ops (fun e a' w' => e = .normal ∧ C w' ∧ AT P ops C R u a' w') [oj] a w)
    (h3 : WL P none ops (fun e a' w' => e = .normal ∧ C w' ∧ AT P ops C R x a' w') [ok] a w) : AT P ops C R (.b3 i j k t u x) a w := by
  intro listed hs hflow
  simp only [flowT, Bool.and_eq_true] at hflow
  have hr : Region.ready .any ops listed = [i, j, k] := by
    have := hflow.1
    split at this
    · rename_i x y z hk
      simp only [Bool.and_eq_true] at this
      rw [hk, Nat.eq_of_beq_eq_true this.1, Nat.eq_of_beq_eq_true this.2.1, Nat.eq_of_beq_eq_true this.2.2]
    · cases this
  have hlen := Nat.eq_of_beq_eq_true hflow.2.1
  have hlen2 := Nat.eq_of_beq_eq_true hflow.2.2.1
  refine ⟨fun h0 => (by rw [h0] at hr; cases hr), fun m hm => ?_⟩
  rw [hr] at hm
  rcases List.mem_cons.1 hm with rfl | hm
  · exact wpOpIn_mono (fun a' w' h' => ⟨h'.1, h'.2 _ hs hflow.2.2.2.1⟩) (wn_of h1)
  · rcases List.mem_cons.1 hm with rfl | hm
    · refine wpOpIn_mono (fun a' w' h' => ⟨h'.1, ?_⟩) (wn_of h2)
      have := h'.2 _ hs hflow.2.2.2.2.1
      rwa [hlen] at this
    · obtain rfl := List.mem_singleton.1 hm
      refine wpOpIn_mono (fun a' w' h' => ⟨h'.1, ?_⟩) (wn_of h3)
      have := h'.2 _ hs hflow.2.2.2.2.2
      rwa [hlen2] at this
theorem te [hb : SubL bs0 bs] [hf : SubL fs0 fs] (S : St w0 M0 ds a w l bs fs) (h : AT P ops (fun w => Wd w0 M0 w bs0 fs0) R t a w) : WL P none ops (fun e a' w' => e = .normal ∧ Wd w0 M0 w' bs0 fs0 ∧ AT P ops (fun w => Wd w0 M0 w bs0 fs0) R t a' w') [] a w :=
  wl_nil ⟨rfl, S.wd.sub hb.sub hf.sub, h⟩
theorem tn (h : R a w) : AT P ops C R .e a w := by
  intro listed hs hflow
  have hr : Region.ready .any ops listed = [] := by simpa [flowT] using hflow
  exact ⟨hr, h⟩
theorem ac_mono {R' : Act → World → Prop} (hR : ∀ a w, R a w → R' a w) : ∀ (fuel : Nat) (listed : Array Bool) (a : Act) (w : World), AC P ops C R fuel listed a w → AC P ops C R' fuel listed a w
  | 0, _, _, _, h => ⟨h.1, hR _ _ h.2⟩
  | fuel + 1, _, _, _, h => ⟨fun h0 => hR _ _ (h.1 h0), fun i hi => wpOpIn_mono (fun _ _ h' => ⟨h'.1, ac_mono hR fuel _ _ _ h'.2⟩) (h.2 i hi)⟩
theorem c_drawT {id : Nat} {lo : List Oper} (t : Tr) (bs0 : List Item) (S : St w0 M0 ds a w l bs fs) (I : Act → World → Prop) (h : ∀ w, St w0 M0 ds a w l bs fs → AT P lo.toArray (fun w => Wd w0 M0 w bs0 fs) I t a w)
    (hk : ∀ a w, I a w → Q .normal a w) (hm : P.follows .mixedOrders = true := by kernel_rfl)
    (hd : ((lo.all fun o => !isDefer o.op) && (Nat.beq t.len lo.length && (Region.noSelect lo.toArray && flowT lo.toArray t (Array.replicate lo.length false)))) = true := by kernel_rfl) : Wp P r (.region id lo.toArray true) Q a w := by
  simp only [Bool.and_eq_true] at hd
  refine wpIn_region_any hm (any_of_ac (C := fun w => Wd w0 M0 w bs0 fs) (fun i o ho => ?_) _ _ _ _ ?_)
  · have := List.all_eq_true.1 hd.1 o (by
      rw [List.getElem?_toArray] at ho
      exact List.mem_of_getElem? ho)
    simpa using this
  · have := h { w with drawn := w.drawn + 1 } ⟨S.slots, S.defers, S.wd.step (Agree.drawn _ w _)⟩ _ hd.2.2.1 hd.2.2.2
    rw [Nat.eq_of_beq_eq_true hd.2.1] at this
    simpa using ac_mono hk _ _ _ _ this
theorem c_drawT0 {id : Nat} {lo : List Oper} {l2 : List Value} {bs2 : List Item} {fs2 : List (World → Prop)} (t : Tr) (ids : List Nat) [DropBs bs ids bs0] (S : St w0 M0 ds a w l bs fs) (h : ∀ w, St w0 M0 ds a w l bs fs → AT P lo.toArray (fun w => Wd w0 M0 w bs0 fs) (fun a w => St w0 M0 ds a w l2 bs2 fs2) t a w)
    (hk : ∀ a w, St w0 M0 ds a w l2 bs2 fs2 → Q .normal a w) (hm : P.follows .mixedOrders = true := by kernel_rfl)
    (hd : ((lo.all fun o => !isDefer o.op) && (Nat.beq t.len lo.length && (Region.noSelect lo.toArray && flowT lo.toArray t (Array.replicate lo.length false)))) = true := by kernel_rfl) : Wp P r (.region id lo.toArray true) Q a w :=
  c_drawT t _ S _ h hk hm hd
end
instance opMakeFunc {P ty} {l : Cx} {bs fs} {f : Nat} {fi ca : List Operand} {vs us : List Value} [EvL l fi vs] [EvL l ca us] : OpQ P (.makeFunc (.func f) fi.toArray ca.toArray) ty l bs fs (.func (.func f) ⟨vs⟩ ⟨us⟩) := ⟨fun ρ w h _ => by
  have e1 := h.evl (xs := fi) (vs := vs)
  have e2 := h.evl (xs := ca) (vs := us)
  simp [xop, execOp, e1, e2, Instr.makeFunc]⟩
section
variable {P : Program} {r : Option Nat} {ops : Array Oper} {Q : Exit → Act → World → Prop} {w0 : World} {M0 : Nat → Prop} {ds : List Deferred} {a : Act} {w : World} {l : List Value} {bs bs' : List Item} {fs fs0 : List (World → Prop)}
  {d : Option Nat} {op : Op} {ty : TypeId} {pos : String} {af : Array Edge} {rest : List Oper} {ts : Array TypeId}
theorem sy {x : Operand} {xs : List Operand} {L : Nat} {vs : List Value} {l' : Bool → List Value} {wI : World} {M : Nat → Prop} {J Jx : World → Prop} [hx : Ev ⟨[], l⟩ x (.func (.yield L) #[] #[])] [hv : EvL ⟨[], l⟩ xs vs] [hp : ∀ b : Bool, PutO l d (.bool b) (l' b)]
    (S : St w0 M0 ds a w l bs fs) (hF : ∀ Φ ∈ fs0, Stable M wI Φ)
    (hy : YieldAt (FW none) 0 P L vs.toArray w fun e W' => Agree M wI W' ∧ ((e = .returned (.bool true) ∧ J W') ∨ (e = .returned (.bool false) ∧ Jx W')))
    (K : ∀ (b : Bool) (N : Nat → Prop) a W, (b = true → J W) → (b = false → Jx W) → St W (fun _ => False) ds a W (l' b) [ext N] fs0 → WL P r ops Q rest a W) :
    WL P r ops Q (⟨d, .call { callee := .value x, args := xs.toArray, argTypes := ts }, ty, pos, af, none⟩ :: rest) a w := by
  refine wl_plain rfl ?_
  rw [semAt_nd rfl]
  obtain ⟨fn, tmps, assign, body, hrun, hround⟩ := hy
  have hf : a.eval x = .func (.yield L) #[] #[] := S.fr.ev
  have e := S.fr.evl (xs := xs) (vs := vs)
  have e1 : (xop a.eval (.call { callee := .value x, args := xs.toArray, argTypes := ts }) ty).run P w = .ok (.round L fn tmps assign body) w := by
    rw [← hrun]
    simp [xop, execOp, resolve, hf, Deferred.ofValue, invoke, e]
  simp only [e1, Oper.uponIn]
  refine ⟨fun h => (by cases h), RoundIn.mono hround ?_⟩
  have key : ∀ (b : Bool) (W : World), Agree M wI W → (b = true → J W) → (b = false → Jx W) → WL P r ops Q rest (a.put d (.bool b)) W := fun b W hag h1 h2 => by
    have := hp b
    have S' := S.put (d := d) (v := .bool b)
    refine K b (fun k => (M k ∨ wI.heap.size ≤ k) ∧ k < W.heap.size) _ W h1 h2 ⟨S'.slots, S'.defers, Wd.beginM (fun k hk => hk.2) fun Φ hΦ w'' hw'' => hF Φ hΦ w'' (hag.trans' hw'' fun i hi hk => ?_)⟩
    rcases hk.1 with h | h
    · exact h
    · omega
  rintro e W ⟨hag, ⟨rfl, hJ⟩ | ⟨rfl, hJ⟩⟩
  · exact key true W hag (fun _ => hJ) (fun h => by cases h)
  · exact key false W hag (fun h => by cases h) (fun _ => hJ)
class EvB (l : Cx) (x : Option Operand) (dflt : Nat) (v : outParam Nat) : Prop where
  eq : (x = none ∧ v = dflt) ∨ ∃ o kk, x = some o ∧ Ev l o (.int kk (v : Int))
instance evb0 {l : Cx} {n : Nat} : EvB l none n n := ⟨.inl ⟨rfl, rfl⟩⟩
instance evb1 {l : Cx} {x : Operand} {n m : Nat} {kk : IntKind} {mi : Int} [h : Ev l x (.int kk mi)] [hm : IsNat mi m] : EvB l (some x) n m := ⟨.inr ⟨x, kk, rfl, by have := hm.eq; subst this; exact h⟩⟩
theorem run_sliceBound {P : Program} {kk : IntKind} {v y : Nat} (h : v ≤ y) (code : BoundsCode) (w : World) : (Instr.sliceBound (.int kk (v : Int)) y code).run P w = .ok v w := by
  simp [Instr.sliceBound, asIntOf, h]
theorem LsIn.drop {w : World} {p : Option Addr} : ∀ {i : Nat} {ts : List LTerm} (k : Nat), LsIn w p i ts → LsIn w p (i + k) (ts.drop k)
  | i, ts, 0, h => h
  | i, [], k + 1, h => by simp [LsIn]
  | i, t :: ts, k + 1, h => by
    have := LsIn.drop (i := i + 1) k h.2.2
    rw [show i + 1 + k = i + (k + 1) from by omega] at this
    exact this
theorem LsIn.shift {w : World} {ad : Addr} : ∀ {i : Nat} {ts : List LTerm} (k : Nat), LsIn w (some ad) (k + i) ts → LsIn w (some (ad.add (k * 5))) i ts
  | i, [], k, h => by simp [LsIn]
  | i, t :: ts, k, h => by
    obtain ⟨⟨ad', he, hc⟩, ht, hr⟩ := h
    cases he
    refine ⟨⟨_, rfl, fun j v hj => ?_⟩, ht, LsIn.shift k hr⟩
    rw [add_add, show k * 5 + (i * 5 + j) = (k + i) * 5 + j from by omega]
    exact hc j v hj
theorem LsIn.cut {w : World} {p : Option Addr} {ts : List LTerm} {lo mx : Nat} (h : LsIn w p 0 ts) (hm : ts.length ≤ mx) : LsIn w (if mx = lo then p else p.map (·.add (lo * 5))) 0 (ts.drop lo) := by
  by_cases hd : ts.drop lo = []
  · rw [hd]; simp [LsIn]
  · have hlo : lo < ts.length := by
      rcases Nat.lt_or_ge lo ts.length with h | h
      · exact h
      · exact absurd (List.drop_of_length_le h) hd
    rw [if_neg (by omega)]
    cases p with
    | none =>
      cases ts with
      | nil => simp at hd
      | cons t ts => obtain ⟨⟨ad, h1, _⟩, _⟩ := h; cases h1
    | some ad =>
      have := LsIn.drop lo h
      rw [Nat.zero_add] at this
      exact LsIn.shift (i := 0) lo (by simpa using this)
def Item.ro (x : Item) : Item := { x with own := false }
end
theorem St.boxNew {w0 M0 ds a w l bs fs} (S : St w0 M0 ds a w l bs fs) (b : Nat) {t : TypeId} {cs : List Value} [h : HasBox bs b t cs] : M0 b ∨ w0.heap.size ≤ b := S.wd.own _ h.mem rfl b rfl
instance isnatL0 : IsNat 0 0 := ⟨rfl⟩
instance isnatL1 : IsNat 1 1 := ⟨rfl⟩
theorem endI {P : Program} {fn : Func} {R : World → Prop} {w0 : World} {M0 : Nat → Prop} {a : Act} {w : World} {l : List Value} {bs : List Item} {fs : List (World → Prop)} {e : Exit} [hr : FnRes fn []] (S : St w0 M0 [] a w l bs fs) (h : R w) (he : e = .ret ∨ e = .normal := by simp) :
    bodyPost P fn (fun e w' => (∃ v, e = .returned v) ∧ R w') e a w := by
  have hv : (results fn l.toArray).run P w = .ok (.tuple #[]) w := by rw [results_eq (rs := [])]; simp
  rw [← S.slots] at hv
  rcases he with rfl | rfl
  · exact bodyPost_ret hv S.defers ⟨⟨_, rfl⟩, h⟩
  · exact bodyPost_end hv S.defers ⟨⟨_, rfl⟩, h⟩
instance (priority := 100) mulnAny {i s : Nat} : MulN i s (i * s) := ⟨rfl⟩
theorem LsIn.nil_of {w : World} {i : Nat} {xs : List LTerm} (h : LsIn w none i xs) : xs = [] := by
  cases xs with
  | nil => rfl
  | cons x xs => obtain ⟨⟨ad, h0, _⟩, _⟩ := h; cases h0
section
variable {P : Program} {ty : TypeId} {l : Cx} {bs : List Item} {fs : List (World → Prop)} {x y : Operand} {t e : TypeId}
class LeC (a b : Nat) : Prop where le : a ≤ b
instance (priority := 1100) lec0 {a : Nat} : LeC a a := ⟨Nat.le_refl _⟩
class HiOk (om oh : Option Operand) : Prop where ok : om.isSome = true → oh.isSome = true
instance hiok0 {oh : Option Operand} : HiOk none oh := ⟨fun h => by cases h⟩
end
section
variable {P : Program} {r : Option Nat} {ops : Array Oper} {Q : Exit → Act → World → Prop} {w0 : World} {M0 : Nat → Prop} {ds : List Deferred} {a : Act} {w : World} {l : List Value} {bs bs' : List Item} {fs : List (World → Prop)}
  {d : Option Nat} {op : Op} {ty : TypeId} {pos : String} {af : Array Edge} {rest : List Oper} {v : Value} {t e : TypeId} {sz by_ n c : Nat} {z : Value} {p : Option Addr} {xs : List Value} {x y : Operand}
theorem run_cut {ρ : Operand → Value} {lc : Cx} {ol oh om : Option Operand} {lo hi mx : Nat} [Ev lc x (.slice p n c)] [hl : EvB lc ol 0 lo] [hh : EvB lc oh n hi] [hx : EvB lc om c mx] [Und P t (.slice e)] [TI P e z sz by_] (hf : Fr ρ lc)
    (h1 : mx ≤ c) (h2 : hi ≤ mx) (h3 : lo ≤ hi) (hxh : om.isSome = true → oh.isSome = true) (w : World) :
    (xop ρ (.slice t x ol oh om) ty).run P w = .ok (.value (.slice (if mx = lo then p else p.map (·.add (lo * sz))) (hi - lo) (mx - lo))) w := by
  have hsz := run_size (P := P) (t := e) (z := z) (s := sz) (b := by_) w
  have eX : ρ x = .slice p n c := hf.ev
  have hb : (Instr.sliceBounds true n c (ol.map ρ) (oh.map ρ) (om.map ρ)).run P w = .ok (lo, hi, mx) w := by
    rcases hx.eq with ⟨rfl, rfl⟩ | ⟨o, kk, rfl, h⟩
    · rcases hh.eq with ⟨rfl, rfl⟩ | ⟨o2, kk2, rfl, h'⟩
      · rcases hl.eq with ⟨rfl, rfl⟩ | ⟨o3, kk3, rfl, h''⟩
        · simp [Instr.sliceBounds]
        · have e3 := hf.ev (x := o3) (v := .int kk3 (lo : Int))
          simp [Instr.sliceBounds, e3, run_sliceBound h3]
      · have e2 := hf.ev (x := o2) (v := .int kk2 (hi : Int))
        have h2' : hi ≤ mx := h2
        rcases hl.eq with ⟨rfl, rfl⟩ | ⟨o3, kk3, rfl, h''⟩
        · simp [Instr.sliceBounds, e2, run_sliceBound h2']
        · have e3 := hf.ev (x := o3) (v := .int kk3 (lo : Int))
          simp [Instr.sliceBounds, Sem.run_bind, e2, e3, run_sliceBound h2', run_sliceBound h3]
    · have e1 := hf.ev (x := o) (v := .int kk (mx : Int))
      rcases hh.eq with ⟨rfl, rfl⟩ | ⟨o2, kk2, rfl, h'⟩
      · exact absurd (hxh rfl) (by simp)
      · have e2 := hf.ev (x := o2) (v := .int kk2 (hi : Int))
        rcases hl.eq with ⟨rfl, rfl⟩ | ⟨o3, kk3, rfl, h''⟩
        · simp [Instr.sliceBounds, Sem.run_bind, e1, e2, run_sliceBound h1, run_sliceBound h2]
        · have e3 := hf.ev (x := o3) (v := .int kk3 (lo : Int))
          simp [Instr.sliceBounds, Sem.run_bind, e1, e2, e3, run_sliceBound h1, run_sliceBound h2, run_sliceBound h3]
  have key : (Instr.slice t (.slice p n c) (ol.map ρ) (oh.map ρ) (om.map ρ)).run P w = .ok (.slice (if mx = lo then p else p.map (·.add (lo * sz))) (hi - lo) (mx - lo)) w := by
    simp only [Instr.slice, Sem.run_bind, run_und, Result.andThen_ok, hb, hsz, Sem.run_pure]
  simp only [xop, execOp, Instr.sliceAt, eX, Sem.run_bind, run_und, Result.andThen_ok, Sem.run_pure]
  simp [key]
instance (priority := 700) opSliceQ {lc : Cx} {ol oh om : Option Operand} {lo hi mx : Nat} [Ev lc x (.slice p n c)] [EvB lc ol 0 lo] [EvB lc oh n hi] [EvB lc om c mx] [Und P t (.slice e)] [TI P e z sz by_] [h1 : LeC mx c] [h2 : LeC hi mx] [h3 : LeC lo hi] [h4 : HiOk om oh] :
    OpQ P (.slice t x ol oh om) ty lc bs fs (.slice (if mx = lo then p else p.map (·.add (lo * sz))) (hi - lo) (mx - lo)) := ⟨fun _ρ w h _ => run_cut h h1.le h2.le h3.le h4.ok w⟩
end
def kvS (x : List UInt8 × Value) : Value × Value := (str x.1, x.2)
def enKV (e : MapEntry) : Value × Value := (e.key, e.val)
def mpi (b r : Nat) (kv done : List (List UInt8 × Value)) : Item where
  foot := fun k => k = b ∨ k = r
  holds := fun w => ∃ (es : Array MapEntry) (clock : Nat) (ds : List MapEntry), w.heap[b]? = some (.map es clock) ∧ es.toList.map enKV = kv.map kvS ∧ (∀ e ∈ es.toList, e.born < clock) ∧ (es.toList.map (·.born)).Nodup ∧
    w.heap[r]? = some (.mapIter (some b) clock (ds.map (·.born)).toArray clock) ∧ (∀ e ∈ ds, e ∈ es.toList) ∧ (ds.map (·.born)).Nodup ∧ ds.map enKV = done.map kvS
class HasMpi (bs : List Item) (r : Nat) (b : outParam Nat) (kv done : outParam (List (List UInt8 × Value))) : Prop where mem : mpi b r kv done ∈ bs
class HasMpiB (bs : List Item) (b : Nat) (kv : outParam (List (List UInt8 × Value))) : Prop where mem : ∃ r done, mpi b r kv done ∈ bs
section
variable {P : Program} {r0 : Option Nat} {ops : Array Oper} {Q : Exit → Act → World → Prop} {w0 : World} {M0 : Nat → Prop} {ds : List Deferred} {a : Act} {w : World} {l : List Value} {bs : List Item} {fs : List (World → Prop)}
  {d : Option Nat} {op : Op} {ty : TypeId} {pos : String} {af : Array Edge} {rest : List Oper} {t kt et : TypeId} {x : Operand} {b : Nat} {kv : List (List UInt8 × Value)}
end
section
variable {P : Program} {r : Option Nat} {ops : Array Oper} {Q : Exit → Act → World → Prop} {w0 : World} {M0 : Nat → Prop} {ds : List Deferred} {a : Act} {w : World} {l : List Value} {bs : List Item} {fs : List (World → Prop)}
  {d : Option Nat} {ty : TypeId} {pos : String} {af : Array Edge} {rest : List Oper} {f : Nat} {x : Operand} {ys : List Operand} {args : List Value} {ts : Array TypeId}
end
end Go.Wk
namespace Go.Proofs.YtibkkbknnfehlaaGreatDoor
open Go Go.Wk
set_option synthInstance.maxSize 100000
set_option synthInstance.maxHeartbeats 400000
set_option maxRecDepth 100000
def secretT (u : Int) : Term := .mk 3 u 0 [] []
def tget (k : List UInt8) : List (List UInt8 × LTerm) → Option LTerm
  | [] => none
  | (u, x) :: km => if k = u then some x else tget k km
abbrev zeroL : LTerm := .mk 0 0 0 [] none 0 []
def inM (km : List (List UInt8 × LTerm)) (k : List UInt8) : Bool := (tget k km).isSome
mutual
def canF (H : List UInt8 → Bool) : Term → Bool
  | .mk k u n s ks => (H (nameF (.mk k u n s ks)) || decide (k = 1)) || (!(decide (k = 2) || decide (k = 3)) && ((!decide (k = 8) || H (nameF (secretT u))) && canLF H ks))
def canLF (H : List UInt8 → Bool) : List Term → Bool
  | [] => true
  | t :: ts => canF H t && canLF H ts
end
theorem kid_st {M : Nat → Prop} {w : World} {t x : LTerm} (h : Stable M w (LtF t)) (hx : x ∈ t.kids) : Stable M w (LtF x) := by
  obtain ⟨k, hk, rfl⟩ := List.mem_iff_getElem.1 hx
  exact h.imp fun w' hw' => ((LtIn.iff.1 hw').2.2.get (List.getElem?_eq_getElem hk)).2
inductive Der (K : List Term) : Term → Prop where
  | known {t : Term} (h : t ∈ K) : Der K t
  | text {u n : Int} {s : List UInt8} {ks : List Term} : Der K (.mk 1 u n s ks)
  | make {k u n : Int} {s : List UInt8} {ks : List Term} (h2 : k ≠ 2) (h3 : k ≠ 3) (h8 : k = 8 → Der K (secretT u)) (hk : ∀ t ∈ ks, Der K t) : Der K (.mk k u n s ks)
  | part {k u n : Int} {s : List UInt8} {ks : List Term} {t : Term} (hk : k = 4 ∨ k = 8) (h : Der K (.mk k u n s ks)) (ht : t ∈ ks) : Der K t
  | unlock {u n : Int} {s : List UInt8} {key : Term} {ks : List Term} {t : Term} (h : Der K (.mk 6 u n s (key :: ks))) (hk : Der K key) (ht : t ∈ ks) : Der K t
  | open7 {u n : Int} {s : List UInt8} {ks : List Term} {t : Term} (h : Der K (.mk 7 u n s ks)) (hk : Der K (secretT u)) (ht : t ∈ ks) : Der K t
def givesT (H : List UInt8 → Bool) : Term → List Term
  | .mk k u n s ks =>
    if k = 4 ∨ k = 8 then ks else if k = 6 then (if canF H (ks.headD Wk.zeroT) then ks.drop 1 else []) else if k = 7 then (if H (nameF (secretT u)) then ks else []) else []
structure Apart (K : List Term) (km : List (List UInt8 × LTerm)) : Prop where
  names : ∀ e ∈ km, e.1 = nameF e.2.t
  good : ∀ e ∈ km, Good e.2.t ∧ Der K e.2.t
  cover : ∀ t ∈ K, inM km (nameF t) = true
  closed : ∀ e ∈ km, ∀ y ∈ givesT (inM km) e.2.t, inM km (nameF y) = true
  nd : (km.map (·.1)).Nodup
inductive SubT (K : List Term) : Term → Prop where
  | top {t : Term} (h : t ∈ K) : SubT K t
  | kid {k u n : Int} {s : List UInt8} {ks : List Term} {t : Term} (h : SubT K (.mk k u n s ks)) (ht : t ∈ ks) : SubT K t
def Cov (st : List LTerm) (km : List (List UInt8 × LTerm)) (y : Term) : Prop := (∃ x ∈ st, x.t = y) ∨ inM km (nameF y) = true
def partsT : Term → List Term
  | .mk k _ _ _ ks => if k = 4 ∨ k = 8 ∨ k = 7 then ks else if k = 6 then ks.drop 1 else []
structure AInv (K : List Term) (O : LTerm → Prop) (st sh : List LTerm) (km : List (List UInt8 × LTerm)) : Prop where
  old : ∀ x, x ∈ st ∨ x ∈ sh ∨ (∃ e ∈ km, e.2 = x) → O x ∧ Good x.t ∧ Der K x.t
  names : ∀ e ∈ km, e.1 = nameF e.2.t
  cover : ∀ t ∈ K, Cov st km t
  closed : ∀ e ∈ km, (∃ x ∈ sh, x.t = e.2.t) ∨ ∀ y ∈ partsT e.2.t, Cov st km y
  nd : (km.map (·.1)).Nodup
section
variable {K : List Term} {O : LTerm → Prop} {st sh : List LTerm} {km : List (List UInt8 × LTerm)} {x : LTerm}
end
theorem own_put {A Z vs : List Value} (o : Nat) (k : Nat) (h : A.length = o) (hz : Z.length = vs.length) (hk : k = o) : (A ++ Z).take o ++ vs ++ (A ++ Z).drop (k + vs.length) = A ++ vs := by
  subst h hk
  rw [List.take_left, List.drop_of_length_le (by rw [List.length_append, hz]; exact Nat.le_refl _), List.append_nil]
structure AS where
  p : Option Addr
  c : Nat
  ps : Option Addr
  cs : Nat
  st : List LTerm
  sh : List LTerm
  km : List (List UInt8 × LTerm)
  Ds : List Nat
inductive Hid (N : Term → Prop) : Term → Prop where
  | mk {k u n : Int} {s : List UInt8} {ks : List Term} (h1 : ¬ N (.mk k u n s ks)) (h2 : (k = 4 ∨ k = 8) → ∀ t ∈ ks, Hid N t) (h6 : k = 6 → ∀ key rest, ks = key :: rest → ¬ N key → ∀ t ∈ rest, Hid N t)
      (h7 : k = 7 → ¬ N (secretT u) → ∀ t ∈ ks, Hid N t) : Hid N (.mk k u n s ks)
theorem good_user {k u n : Int} {s : List UInt8} {ks : List Term} (h : Good (.mk k u n s ks)) (hk : k = 7 ∨ k = 8) : 1 ≤ u ∧ u ≤ 6 := by
  have h1 := good_walk.1 h
  rw [walkF] at h1
  split at h1
  · cases h1
  · rename_i hc
    have hp : plainF k u n s ks.length = true := by
      cases hq : plainF k u n s ks.length with
      | true => rfl
      | false => exact absurd (.inr (.inr hq)) hc
    have := plain_shape hp
    omega
inductive Occ (a : Term) : Term → Prop where
  | here : Occ a a
  | kid {k u n : Int} {s : List UInt8} {ks : List Term} {t : Term} (ht : t ∈ ks) (h : Occ a t) : Occ a (.mk k u n s ks)
section
variable {K : List Term} {x m : Int}
end
end Go.Proofs.YtibkkbknnfehlaaGreatDoor
namespace Go.Wk
open Go Go.Deep Go.ChangeShapes Go.WideShapes Go.ChangeAt Go.RowKit
section
variable {H : Type} {enc : TypeId × Value → H} {P : Program} {w : World} {base : Nat} {spare : Nat → Bool} {held : Bool} {L : TypeId}
end
section
variable {w0 : World} {M0 : Nat → Prop} {ds : List Deferred} {a : Act} {w : World} {l : List Value} {bs : List Item} {fs : List (World → Prop)}
theorem St.boxLs {b : Nat} {T : TypeId} (ts : List LTerm) {cs : List Value} (S : St w0 M0 ds a w l (Wk.box b T cs :: bs) fs) (hc : cs = ts.flatMap LTerm.cells) (h : ∀ t ∈ ts, Stable (foots (Wk.box b T cs :: bs)) w (LtF t)) : St w0 M0 ds a w l bs (LsF (some ⟨b, 0, none⟩) 0 ts :: fs) := by
  subst hc
  have hb : w.heap[b]? = some (.cells (ts.flatMap LTerm.cells).toArray T (0, 0)) := S.wd.held _ (List.mem_cons_self ..)
  have hap := (List.pairwise_cons.1 S.wd.apart).1
  have S' : St w0 M0 ds a w l bs fs := ⟨S.slots, S.defers, S.wd.sub (List.sublist_cons_self ..) (List.Sublist.refl _)⟩
  refine S'.add fun w' hw' => LsIn.of_block (t := T) ts ?_ fun x hx => (h x hx).less (fun k _ ⟨it, hi, hk⟩ => ⟨it, List.mem_cons_of_mem _ hi, hk⟩) w' hw'
  rw [hw'.blk (Array.getElem?_eq_some_iff.1 hb).1 (fun ⟨it, hi, hk⟩ => hap it hi b rfl hk)]
  exact hb
theorem own_le {w : World} {e : TypeId} {sz : Nat} {p : Option Addr} {n c : Nat} {xs : List Value} (h : w.ownsRow 0 e sz (.slice p n c) n xs) : n ≤ c := by
  rcases h.2 with ⟨hv, h0⟩ | ⟨g, cap, cur, hv, hb, hg, hnc, hcm, hcs, ht⟩
  · omega
  · cases hv; exact hnc
end
theorem SlF.nil {p : Option Addr} {w : World} : SlF p [] w := ⟨fun _ => rfl, fun _ _ j u hj => by simp at hj⟩
section
variable {P : Program} {l lc : Cx} {bs : List Item} {fs : List (World → Prop)} {x y : Operand} {p : Option Addr} {n c k : Nat} {kk : IntKind} {m : Int} {ys : List Int} {t ty e : TypeId} {z : Value} {by_ : Nat}
end
class Lay (α : Type) extends Enc α where
  dflt : α
  inn : World → α → Prop
  mono : ∀ (w w' : World) (x : α), (∀ ad v, w.cell? ad = some v → w'.cell? ad = some v) → inn w x → inn w' x
instance layI : Lay Int := { encI with dflt := 0, inn := fun _ _ => True, mono := fun _ _ _ _ h => h }
instance layS : Lay (List UInt8) := { encS with dflt := [], inn := fun _ _ => True, mono := fun _ _ _ _ h => h }
instance layT : Lay LTerm := { encT with dflt := zeroL, inn := LtIn, mono := fun _ _ x h hx => LtIn.mono h x hx }
instance encBo : Enc Bool := ⟨1, fun b => [.bool b], fun _ => rfl, fun x u hu => by obtain rfl := List.mem_singleton.1 hu; rfl⟩
instance layBo : Lay Bool := { encBo with dflt := false, inn := fun _ _ => True, mono := fun _ _ _ _ h => h }
instance layB : Lay UInt8 := { encB with dflt := 0, inn := fun _ _ => True, mono := fun _ _ _ _ h => h }
def InF {α : Type} [Lay α] (x : α) : World → Prop := fun w => Lay.inn w x
def GlF {α : Type} [Lay α] (p : Option Addr) (xs : List α) : World → Prop := fun w => SlF p (encL xs) w ∧ ∀ x ∈ xs, Lay.inn w x
def nthG {α : Type} [Lay α] (xs : List α) (k : Nat) : α := xs.getD k Lay.dflt
theorem nthG_get {α : Type} [Lay α] {xs : List α} {k : Nat} (h : k < xs.length) : xs[k]? = some (nthG xs k) := by simp [nthG, h]
theorem nthG_mem {α : Type} [Lay α] {xs : List α} {k : Nat} (h : k < xs.length) : nthG xs k ∈ xs := List.mem_of_getElem? (nthG_get h)
theorem nthG_drop {α : Type} [Lay α] {xs : List α} {k : Nat} (h : k < xs.length) : xs.drop k = nthG xs k :: xs.drop (k + 1) := by
  rw [List.drop_eq_getElem_cons h]
  congr 1
  simp [nthG, h]
theorem nthG_take {α : Type} [Lay α] {xs : List α} {k : Nat} (h : k < xs.length) : xs.take (k + 1) = xs.take k ++ [nthG xs k] := by
  rw [List.take_add_one, nthG_get h]; rfl
def gAddr (p : Option Addr) (k sz off : Nat) : Addr := (p.getD ⟨0, 0, none⟩).add (k * sz + off)
structure Sl (α : Type) where
  p : Option Addr
  cap : Nat
  xs : List α
abbrev Sl.v {α : Type} (s : Sl α) : Value := .slice s.p s.xs.length s.cap
instance encSl {α : Type} : Enc (Sl α) := ⟨1, fun s => [s.v], fun _ => rfl, fun x u hu => by obtain rfl := List.mem_singleton.1 hu; rfl⟩
theorem SlF.mono {p : Option Addr} {xs : List Value} {w w' : World} (h : ∀ ad v, w.cell? ad = some v → w'.cell? ad = some v) (hs : SlF p xs w) : SlF p xs w' := ⟨hs.1, fun ad hp j u hj => h _ _ (hs.2 ad hp j u hj)⟩
theorem GlF.mono {α : Type} [Lay α] {p : Option Addr} {xs : List α} {w w' : World} (h : ∀ ad v, w.cell? ad = some v → w'.cell? ad = some v) (hs : GlF p xs w) : GlF p xs w' := ⟨hs.1.mono h, fun x hx => Lay.mono w w' x h (hs.2 x hx)⟩
instance laySl {α : Type} [Lay α] : Lay (Sl α) := { encSl with
  dflt := ⟨none, 0, []⟩
  inn := fun w s => s.xs.length ≤ s.cap ∧ s.cap ≤ maxLen ∧ GlF s.p s.xs w
  mono := fun _ _ _ h hx => ⟨hx.1, hx.2.1, hx.2.2.mono h⟩ }
theorem InF.stable {α : Type} [Lay α] {w : World} {x : α} (h : Lay.inn w x) : Stable (fun _ => False) w (InF x) := fun w' hw' => Lay.mono w w' x (fun _ _ hc => cell_agree hw' hc) h
theorem gl_nil {α : Type} [Lay α] {w : World} {p : Option Addr} : GlF (α := α) p [] w := ⟨SlF.nil, fun _ h => by cases h⟩
theorem gl_some {α : Type} [Lay α] {w : World} {p : Option Addr} {xs : List α} (h : GlF p xs w) {k : Nat} (hk : k < xs.length) (hz : 0 < Enc.sz α) : ∃ ad, p = some ad := by
  cases hp : p with
  | some ad => exact ⟨ad, rfl⟩
  | none =>
    have h1 := congrArg List.length (h.1.1 hp)
    rw [encL_len] at h1
    have h2 : xs.length * Enc.sz α = 0 := h1
    rcases Nat.mul_eq_zero.1 h2 with h3 | h3 <;> omega
theorem gl_cell {α : Type} [Lay α] {w : World} {p : Option Addr} {xs : List α} (h : GlF p xs w) {k : Nat} (hk : k < xs.length) {j : Nat} {u : Value} (hj : (Enc.cells (nthG xs k))[j]? = some u) : w.cell? (gAddr p k (Enc.sz α) j) = some u := by
  have hjs : j < Enc.sz α := by
    have := (List.getElem?_eq_some_iff.1 hj).1
    rwa [Enc.len] at this
  obtain ⟨ad, rfl⟩ := gl_some h hk (by omega)
  exact h.1.2 ad rfl _ _ ((encL_get xs k _ (nthG_get hk) j hjs).trans hj)
theorem gl_ls {w : World} {p : Option Addr} {xs : List LTerm} (h : GlF p xs w) : LsF p 0 xs w := by
  cases hp : p with
  | none =>
    have := h.1.1 hp
    cases xs with
    | nil => trivial
    | cons x xs => simp [encL, Enc.cells] at this
  | some ad =>
    subst hp
    refine LsIn.of_all fun k t hk => ⟨fun j v hj => ?_, h.2 t (List.mem_of_getElem? hk)⟩
    have hj5 : j < 5 := by
      have := (List.getElem?_eq_some_iff.1 hj).1
      simpa [LTerm.cells] using this
    have := h.1.2 ad rfl (k * 5 + j) v ((encL_get xs k t hk j hj5).trans hj)
    simpa using this
theorem ls_gl {w : World} {p : Option Addr} {xs : List LTerm} (h : LsF p 0 xs w) : GlF p xs w := by
  refine ⟨⟨fun hp => ?_, fun ad hp j u hj => lsIn_cells h hp j u hj⟩, fun x hx => ?_⟩
  · subst hp; rw [LsIn.nil_of h]; rfl
  · obtain ⟨k, hk⟩ := List.getElem?_of_mem hx
    exact (LsIn.get h hk).2
class HasG (fs : List (World → Prop)) (p : Option Addr) (α : outParam Type) (i : outParam (Lay α)) (xs : outParam (List α)) : Prop where
  of : ∀ (M : Nat → Prop) (w : World), (∀ Φ ∈ fs, Stable M w Φ) → Stable M w (GlF p xs)
instance hasg0 {α : Type} [i : Lay α] {fs : List (World → Prop)} {p : Option Addr} {xs : List α} : HasG (GlF p xs :: fs) p α i xs := ⟨fun _ _ h => h _ (by simp)⟩
instance (priority := 900) hasgS {α : Type} {i : Lay α} {fs : List (World → Prop)} {Φ : World → Prop} {p : Option Addr} {xs : List α} [h : HasG fs p α i xs] : HasG (Φ :: fs) p α i xs := ⟨fun M w hf => h.of M w fun Ψ hΨ => hf Ψ (by simp [hΨ])⟩
class HasGx (fs : List (World → Prop)) {α : Type} [Lay α] (xs : List α) : Prop where
  of : ∀ (M : Nat → Prop) (w : World), (∀ Φ ∈ fs, Stable M w Φ) → ∃ p, Stable M w (GlF p xs)
instance hasgx0 {α : Type} [i : Lay α] {fs : List (World → Prop)} {p : Option Addr} {xs : List α} : HasGx (GlF p xs :: fs) xs := ⟨fun _ _ h => ⟨p, h _ (by simp)⟩⟩
instance (priority := 900) hasgxS {α : Type} [i : Lay α] {fs : List (World → Prop)} {Φ : World → Prop} {xs : List α} [h : HasGx fs xs] : HasGx (Φ :: fs) xs := ⟨fun M w hf => h.of M w fun Ψ hΨ => hf Ψ (by simp [hΨ])⟩
class HasI (fs : List (World → Prop)) {α : Type} [Lay α] (x : α) : Prop where
  of : ∀ (M : Nat → Prop) (w : World), (∀ Φ ∈ fs, Stable M w Φ) → Stable M w (InF x)
instance hasi0 {α : Type} [Lay α] {fs : List (World → Prop)} {x : α} [h : HasFact fs (InF x)] : HasI fs x := ⟨fun _ _ hf => hf _ h.mem⟩
instance (priority := 850) hasgI {α : Type} [i : Lay α] {fs : List (World → Prop)} {s : Sl α} [h : HasI fs s] : HasG fs s.p α i s.xs := ⟨fun M w hf => (h.of M w hf).imp fun _ h => h.2.2⟩
instance (priority := 850) hasgxI {α : Type} [i : Lay α] {fs : List (World → Prop)} {s : Sl α} [h : HasI fs s] : HasGx fs s.xs := ⟨fun M w hf => ⟨s.p, (h.of M w hf).imp fun _ h => h.2.2⟩⟩
section
variable {α : Type} [Lay α] {w0 : World} {M0 : Nat → Prop} {ds : List Deferred} {a : Act} {w : World} {l : List Value} {bs : List Item} {fs : List (World → Prop)}
theorem Mem.i (m : Mem w bs fs) (x : α) [h : HasI fs x] : Stable (foots bs) w (InF x) := h.of _ _ m.facts
theorem Mem.i0 (m : Mem w bs fs) (x : α) [h : HasI fs x] : Stable (fun _ => False) w (InF x) := (m.i x).less fun _ _ h => h.elim
theorem St.i (S : St w0 M0 ds a w l bs fs) (x : α) [h : HasI fs x] : Stable (foots bs) w (InF x) := S.mem.i x
theorem St.gl {α : Type} {i : Lay α} (S : St w0 M0 ds a w l bs fs) (p : Option Addr) {xs : List α} [h : HasG fs p α i xs] : Stable (foots bs) w (GlF p xs) := h.of _ _ S.wd.facts
theorem St.gl0 {α : Type} {i : Lay α} (S : St w0 M0 ds a w l bs fs) (p : Option Addr) {xs : List α} [h : HasG fs p α i xs] : Stable (fun _ => False) w (GlF p xs) := (S.gl p).less fun _ _ h => h.elim
theorem gl_of_own {M : Nat → Prop} {e : TypeId} {p : Option Addr} {n c sz : Nat} {xs : List α} (h : w.ownsRow 0 e sz (.slice p n c) n (encL xs)) (hk : ∀ x ∈ xs, Stable M w (InF x)) (hM : ∀ ad, p = some ad → ¬ M ad.block) : Stable M w (GlF p xs) := fun w' hw' =>
  ⟨SlF.stable (own_sl h) hM w' hw', fun x hx => hk x hx w' hw'⟩
end
class SzE (α : Type) [Lay α] (n : outParam Nat) : Prop where
  eq : Enc.sz α = n
  pos : 0 < n
instance : SzE Int 1 := ⟨rfl, by decide⟩
instance : SzE LTerm 5 := ⟨rfl, by decide⟩
instance {α : Type} [Lay α] : SzE (Sl α) 1 := ⟨rfl, by decide⟩
class CellsOf {α : Type} [Lay α] (x : α) (cs : outParam (List Value)) : Prop where eq : Enc.cells x = cs
instance {x : Int} : CellsOf x [.int .i64 x] := ⟨rfl⟩
instance {α : Type} [Lay α] {x : Sl α} : CellsOf x [.slice x.p x.xs.length x.cap] := ⟨rfl⟩
section
variable {P : Program} {l : Cx} {bs : List Item} {fs : List (World → Prop)} {x y : Operand} {p : Option Addr} {n c k sz off : Nat} {kk : IntKind} {m : Int} {t ty e : TypeId} {z : Value} {by_ : Nat} {α : Type} {i : Lay α} {xs : List α}
instance (priority := 880) opIdxG [Ev l x (.slice p n c)] [Ev l y (.int kk m)] [Und P t (.slice e)] [TI P e z sz by_] [hm : IsNat m k] [hl : HasG fs p α i xs] [hs : SzE α sz] [hk : KLt k n] [hk' : KLt k xs.length] :
    OpQ P (.indexAddr t x y) ty l bs fs (.pointer (some (gAddr p k sz 0))) := ⟨fun ρ w h mm => by
  have hlt := hk.lt
  obtain ⟨ad, rfl⟩ := gl_some (hl.of _ _ mm.facts).now hk'.lt (by rw [hs.eq]; exact hs.pos)
  have h2 := hm.eq
  subst h2
  simp [xop, execOp, h.ev (x := x) (v := .slice (some ad) n c), h.ev (x := y) (v := .int kk (k : Int))]
  simp [run_indexAt (P := P) (t := t) (e := e) (z := z) (sz := sz) (by_ := by_) (Int.natCast_nonneg k) (Int.ofNat_lt.2 hlt), gAddr]⟩
theorem gAddr_add (p : Option Addr) (k sz o j : Nat) : (gAddr p k sz o).add j = gAddr p k sz (o + j) := by simp only [gAddr, add_add, Nat.add_assoc]
theorem gl_cells {cs : List Value} {w : World} [hs : SzE α sz] (h : GlF p xs w) (hk : k < xs.length) [hc : CellsOf (nthG xs k) cs] {j : Nat} {u : Value} (hj : cs[j]? = some u) : w.cell? (gAddr p k sz j) = some u := by
  rw [← hs.eq]
  exact gl_cell h hk (by rw [hc.eq]; exact hj)
instance (priority := 780) opLoadG1 {v : Value} {cs : List Value} [Ev l x (.pointer (some (gAddr p k sz off)))] [ha : AggT P t false] [hl : HasG fs p α i xs] [hs : SzE α sz] [hk : KLt k xs.length] [hc : CellsOf (nthG xs k) cs] [hn : Nth cs off v] :
    OpQ P (.load t x) ty l bs fs v := ⟨fun ρ w h mm => by
  have h1 := gl_cells (hl.of _ _ mm.facts).now hk.lt hn.eq
  simp [xop, execOp, Instr.loadAt, h.ev (x := x) (v := .pointer (some (gAddr p k sz off))), Instr.sureAddr, loadVar, Sem.run_bind, ha.run, load, Sem.run, h1]⟩
instance (priority := 780) opLoadGA {cs vs : List Value} [Ev l x (.pointer (some (gAddr p k sz off)))] [ha : AggT P t true] [TI P t z n by_] [hl : HasG fs p α i xs] [hs : SzE α sz] [hk : KLt k xs.length] [hc : CellsOf (nthG xs k) cs] [hn : Seg cs off n vs] :
    OpQ P (.load t x) ty l bs fs (.agg ⟨vs⟩) := ⟨fun ρ w h mm => by
  have hlc := run_loadCells_list (P := P) w (gAddr p k sz off) vs (fun j v hj => by
    have hjn : j < n := by rw [← hn.eq.1]; exact (List.getElem?_eq_some_iff.1 hj).1
    rw [gAddr_add]
    exact gl_cells (hl.of _ _ mm.facts).now hk.lt ((hn.eq.2 j hjn).trans hj))
  rw [hn.eq.1] at hlc
  simp [xop, execOp, Instr.loadAt, h.ev (x := x) (v := .pointer (some (gAddr p k sz off))), Instr.sureAddr, loadVar, Sem.run_bind, ha.run, run_size, hlc]⟩
instance (priority := 860) srcG {tx : TypeId} [h : Und P tx (.slice e)] [hr : HasG fs p α i xs] [hs : SzE α sz] [hn : LenN xs n] : SrcV P tx (.slice p n c) bs fs sz n (encL xs) := ⟨fun w mm =>
  src_sl h.eq (hr.of _ _ mm.facts).now.1 (by rw [encL_len, hn.eq, hs.eq]) (encL_one xs) hs.pos⟩
end
class Tro (P : Program) (T : TypeId) (α : Type) [Lay α] : Prop where
  of : ∀ {H : Type} (enc : TypeId × Value → H) (w : World) (base : Nat) (spare : Nat → Bool) (held : Bool) (fuel : Nat) (cs : List Value) (x : DataW H × List MemPlace), DataW.trod enc P w base spare held fuel T cs = some x → ∃ a : α, cs = Enc.cells a ∧ Lay.inn w a
  size : P.cellsOf T = Enc.sz α
theorem str_of (s : ByteArray) : Value.string s = str s.data.toList := by simp [str]
theorem troI {P : Program} {T : TypeId} (hu : P.underlying T = some (.int .i64)) (hs : P.cellsOf T = 1) : Tro P T Int := ⟨fun enc w base spare held fuel cs x h => by
  obtain ⟨k, e0, _, _⟩ := DataW.trod_int hu h
  exact ⟨k, e0, trivial⟩, hs⟩
theorem troS {P : Program} {T : TypeId} (hu : P.underlying T = some .string) (hs : P.cellsOf T = 1) : Tro P T (List UInt8) := ⟨fun enc w base spare held fuel cs x h => by
  obtain ⟨s, e0, _⟩ := DataW.trod_string hu h
  exact ⟨s.data.toList, by rw [e0, str_of]; rfl, trivial⟩, hs⟩
theorem troSl {P : Program} {T L : TypeId} {α : Type} [Lay α] [hT : Tro P T α] (hu : P.underlying L = some (.slice T)) (hs : P.cellsOf L = 1) : Tro P L (Sl α) := ⟨fun enc w base spare held fuel cs x h => by
  rcases DataW.trod_slice hu h with ⟨e4, _⟩ | ⟨ad, len, cap, elems, rest, n', rfl, e4, _, _, hlc, hcm, hel, hem, _, _⟩
  · exact ⟨⟨none, 0, []⟩, e4, Nat.le_refl _, Nat.zero_le _, gl_nil⟩
  · subst e4
    have : Inhabited α := ⟨Lay.dflt⟩
    obtain ⟨g, hg⟩ := choose_lt (α := α) (p := fun i t => w.cells? base (ad.add (i * Enc.sz α)) (Enc.sz α) = some (Enc.cells t) ∧ Lay.inn w t) (n := len) (fun i hi => by
      have h1 := hem i hi
      rw [hT.size, List.getElem?_eq_getElem (by omega)] at h1
      obtain ⟨cs', h2, h3⟩ := Option.bind_eq_some_iff.1 h1
      obtain ⟨t, rfl, ht⟩ := hT.of _ _ _ _ _ _ _ _ h3
      exact ⟨t, h2, ht⟩)
    refine ⟨⟨some ad, cap, (List.range len).map g⟩, by simp [Enc.cells, Sl.v], by simpa using hlc, hcm, ⟨fun h => (by cases h), fun ad' hp j u hj => ?_⟩, fun t ht => ?_⟩
    · obtain rfl : ad = ad' := by simpa using hp
      have hjl : j < len * Enc.sz α := by
        have := (List.getElem?_eq_some_iff.1 hj).1
        rw [encL_len] at this; simpa using this
      have hz : 0 < Enc.sz α := Nat.pos_of_ne_zero fun h0 => by rw [h0] at hjl; omega
      have hi : j / Enc.sz α < len := (Nat.div_lt_iff_lt_mul hz).2 hjl
      have hm : j % Enc.sz α < Enc.sz α := Nat.mod_lt _ hz
      have hdm : j / Enc.sz α * Enc.sz α + j % Enc.sz α = j := Nat.div_add_mod' j _
      obtain ⟨hc, -⟩ := hg _ hi
      obtain ⟨_, _, h5⟩ := World.cells?_some hc
      have h6 := h5 _ hm
      have h7 := encL_get ((List.range len).map g) (j / Enc.sz α) (g (j / Enc.sz α)) (by simp [hi]) _ hm
      rw [hdm, hj] at h7
      rw [Go.Deep.add_add, hdm] at h6
      rw [h6, ← h7]
    · obtain ⟨i, hi, rfl⟩ := List.mem_map.1 ht
      exact (hg i (List.mem_range.1 hi)).2, hs⟩
theorem trod_flds {H : Type} {enc : TypeId × Value → H} {P : Program} {w : World} {base : Nat} {spare : Nat → Bool} {held : Bool} {T : TypeId} {fs : Array Field} (hu : P.underlying T = some (.struct fs)) {fuel : Nat} {cs : List Value} {x : DataW H × List MemPlace} (h : DataW.trod enc P w base spare held fuel T cs = some x) :
    cs.length = P.cellsOf T ∧ ∀ (i t o : Nat), (fs.toList.map (fun f => (f.type, f.offset)))[i]? = some (t, o) → ∃ n y, DataW.trod enc P w base spare held n t ((cs.drop o).take (P.cellsOf t)) = some y := by
  obtain ⟨xs, n, rfl, rfl, hlen, hxl, hx⟩ := DataW.trod_struct hu h
  refine ⟨hlen, fun i t o hi => ?_⟩
  rw [List.getElem?_map] at hi
  obtain ⟨f, hf1, hf2⟩ := Option.map_eq_some_iff.1 hi
  simp only [Prod.mk.injEq] at hf2
  obtain ⟨rfl, rfl⟩ := hf2
  have hlt : i < fs.size := by simpa using (List.getElem?_eq_some_iff.1 hf1).1
  have := hx i f (by simpa using hf1)
  rw [List.getElem?_eq_getElem (by omega)] at this
  exact ⟨n, _, this⟩
theorem trod_fld {H : Type} {enc : TypeId × Value → H} {P : Program} {w : World} {base : Nat} {spare : Nat → Bool} {held : Bool} {T : TypeId} {α : Type} [Lay α] [hT : Tro P T α] {n : Nat} {cs : List Value} {y : DataW H × List MemPlace} {o s : Nat} (h : DataW.trod enc P w base spare held n T ((cs.drop o).take s) = some y) (hs : s = P.cellsOf T) :
    ∃ a : α, (cs.drop o).take (Enc.sz α) = Enc.cells a ∧ Lay.inn w a := by
  subst hs
  obtain ⟨a, h1, h2⟩ := hT.of _ _ _ _ _ _ _ _ h
  exact ⟨a, by rw [← hT.size]; exact h1, h2⟩
theorem troT {P : Program} {T : TypeId} [hT : TermTy P T] : Tro P T LTerm := ⟨fun enc w base spare held fuel cs x h => term_of_trod fuel cs x h, by obtain ⟨fs, I, S, L, hu, hf, hI, hS, hL, c1, c2, c3, c4⟩ := hT.ex; exact c1⟩
theorem struct_of_Trod {P : Program} {T : TypeId} {α : Type} [Lay α] [hT : Tro P T α] {H : Type} {enc : TypeId × Value → H} {w : World} {base : Nat} {spare : Nat → Bool} {held : Bool} {fs : Array Field} (hu : P.underlying T = some (.struct fs)) {v : Value} {d : DataW H} {p : List MemPlace} {r : Reach} {W : World} {base' : Nat} (h : DataW.Trod enc P w base spare held T v d p) (hv : Value.okWide P W r base' T v) :
    ∃ a : α, v = .agg ⟨Enc.cells a⟩ ∧ Lay.inn w a := by
  obtain ⟨cs, rfl, _⟩ := okWide_struct hu hv
  obtain ⟨fuel, hf⟩ := h
  obtain ⟨a, e, ha⟩ := hT.of _ _ _ _ _ _ _ _ hf
  refine ⟨a, ?_, ha⟩
  have : cs.toList = Enc.cells a := by simpa [Value.cells] using e
  rw [← this]
open Go
class SetG (l : List Value) (ms : List (Nat × Value)) (l' : outParam (List Value)) : Prop where ok : True
instance setg0 {l : List Value} : SetG l [] l := ⟨trivial⟩
instance setg1 {u v : Value} {l l' : List Value} {ms : List (Nat × Value)} [SetG l ms l'] : SetG (u :: l) ((0, v) :: ms) (v :: l') := ⟨trivial⟩
instance setg2 {u v : Value} {g : Nat} {l l' : List Value} {ms : List (Nat × Value)} [SetG l ((g, v) :: ms) l'] : SetG (u :: l) ((g + 1, v) :: ms) (u :: l') := ⟨trivial⟩
section
variable {P : Program} {r : Option Nat} {Q : Exit → Act → World → Prop} {w0 : World} {M0 : Nat → Prop} {ds : List Deferred} {a : Act} {w : World} {l : List Value} {bs : List Item} {fs : List (World → Prop)}
theorem c_fore1 {c : Code} {ι1 : Type} (_S : St w0 M0 ds a w l bs fs) (mods : ι1 → (Nat → Value) → List (Nat × Value)) {l1 : ι1 → (Nat → Value) → List Value} [∀ x1 uu, SetG l (mods x1 uu) (l1 x1 uu)] (bs1 : ι1 → List Item) (fs1 : ι1 → List (World → Prop)) (rel : ι1 → Prop) (μ : ι1 → Nat) (z1 : ι1) (h0 : rel z1) (uu0 : Nat → Value) (S0 : St w0 M0 ds a w (l1 z1 uu0) (bs1 z1) (fs1 z1))
    (hr : ∀ x1 uu a w, rel x1 → St w0 M0 ds a w (l1 x1 uu) (bs1 x1) (fs1 x1) → Wp P r c (Exit.then (fun a w => ∃ y1 vv, rel y1 ∧ St w0 M0 ds a w (l1 y1 vv) (bs1 y1) (fs1 y1) ∧ μ y1 < μ x1) Q) a w) : Wp P r (.loop c) Q a w := by
  refine c_loop (ι := ι1) (fun p a w => rel p ∧ ∃ uu, St w0 M0 ds a w (l1 p uu) (bs1 p) (fs1 p)) (fun p => μ p) (z1) ⟨h0, uu0, S0⟩ ?_
  rintro p a w ⟨h1, uu, S1⟩
  refine wpIn_mono (hr p uu a w h1 S1) fun e a1 w1 hq => ?_
  cases e <;> first | exact hq | skip
  obtain ⟨y1, vv, h2, S2, hm⟩ := hq
  exact ⟨y1, ⟨h2, vv, S2⟩, hm⟩
theorem c_mrge1 {x y : Code} {ι1 : Type} (_S : St w0 M0 ds a w l bs fs) (mods : ι1 → (Nat → Value) → List (Nat × Value)) {l1 : ι1 → (Nat → Value) → List Value} [∀ x1 uu, SetG l (mods x1 uu) (l1 x1 uu)] (bs1 : ι1 → List Item) (fs1 : ι1 → List (World → Prop)) (rel : ι1 → Prop)
    (hx : Wp P r x (Exit.then (fun a w => ∃ y1 vv, rel y1 ∧ St w0 M0 ds a w (l1 y1 vv) (bs1 y1) (fs1 y1)) Q) a w) (hy : ∀ x1 uu a w, rel x1 → St w0 M0 ds a w (l1 x1 uu) (bs1 x1) (fs1 x1) → Wp P r y Q a w) : Wp P r (.seq x y) Q a w :=
  c_merge _ hx fun a w h => by obtain ⟨y1, vv, h1, h2⟩ := h; exact hy y1 vv a w h1 h2
theorem c_forb1 {c : Code} {ι1 : Type} (_S : St w0 M0 ds a w l bs fs) (mods : ι1 → (Nat → Value) → List (Nat × Value)) {l1 : ι1 → (Nat → Value) → List Value} [∀ x1 uu, SetG l (mods x1 uu) (l1 x1 uu)]   (rel : ι1 → Prop) (μ : ι1 → Nat) (z1 : ι1) (h0 : rel z1) (uu0 : Nat → Value) (S0 : St w0 M0 ds a w (l1 z1 uu0) bs fs)
    (hr : ∀ x1 uu a w, rel x1 → St w0 M0 ds a w (l1 x1 uu) bs fs → Wp P r c (Exit.then (fun a w => ∃ y1 vv, rel y1 ∧ St w0 M0 ds a w (l1 y1 vv) bs fs ∧ μ y1 < μ x1) Q) a w) : Wp P r (.loop c) Q a w := by
  refine c_loop (ι := ι1) (fun p a w => rel p ∧ ∃ uu, St w0 M0 ds a w (l1 p uu) bs fs) (fun p => μ p) (z1) ⟨h0, uu0, S0⟩ ?_
  rintro p a w ⟨h1, uu, S1⟩
  refine wpIn_mono (hr p uu a w h1 S1) fun e a1 w1 hq => ?_
  cases e <;> first | exact hq | skip
  obtain ⟨y1, vv, h2, S2, hm⟩ := hq
  exact ⟨y1, ⟨h2, vv, S2⟩, hm⟩
theorem c_forf1 {c : Code} {ι1 : Type} (_S : St w0 M0 ds a w l bs fs) (mods : ι1 → (Nat → Value) → List (Nat × Value)) {l1 : ι1 → (Nat → Value) → List Value} [∀ x1 uu, SetG l (mods x1 uu) (l1 x1 uu)] (bs1 : ι1 → List Item)  (rel : ι1 → Prop) (μ : ι1 → Nat) (z1 : ι1) (h0 : rel z1) (uu0 : Nat → Value) (S0 : St w0 M0 ds a w (l1 z1 uu0) (bs1 z1) fs)
    (hr : ∀ x1 uu a w, rel x1 → St w0 M0 ds a w (l1 x1 uu) (bs1 x1) fs → Wp P r c (Exit.then (fun a w => ∃ y1 vv, rel y1 ∧ St w0 M0 ds a w (l1 y1 vv) (bs1 y1) fs ∧ μ y1 < μ x1) Q) a w) : Wp P r (.loop c) Q a w := by
  refine c_loop (ι := ι1) (fun p a w => rel p ∧ ∃ uu, St w0 M0 ds a w (l1 p uu) (bs1 p) fs) (fun p => μ p) (z1) ⟨h0, uu0, S0⟩ ?_
  rintro p a w ⟨h1, uu, S1⟩
  refine wpIn_mono (hr p uu a w h1 S1) fun e a1 w1 hq => ?_
  cases e <;> first | exact hq | skip
  obtain ⟨y1, vv, h2, S2, hm⟩ := hq
  exact ⟨y1, ⟨h2, vv, S2⟩, hm⟩
theorem c_mrgf1 {x y : Code} {ι1 : Type} (S : St w0 M0 ds a w l bs fs) (mods : ι1 → (Nat → Value) → List (Nat × Value)) {l1 : ι1 → (Nat → Value) → List Value} [∀ x1 uu, SetG l (mods x1 uu) (l1 x1 uu)] (bs1 : ι1 → List Item)  (rel : ι1 → Prop)
    (hx : Wp P r x (Exit.then (fun a w => ∃ y1 vv, rel y1 ∧ St w0 M0 ds a w (l1 y1 vv) (bs1 y1) fs) Q) a w) (hy : ∀ x1 uu a w, rel x1 → St w0 M0 ds a w (l1 x1 uu) (bs1 x1) fs → Wp P r y Q a w) : Wp P r (.seq x y) Q a w :=
  c_merge _ hx fun a w h => by obtain ⟨y1, vv, h1, h2⟩ := h; exact hy y1 vv a w h1 h2
theorem c_fore2 {c : Code} {ι1 : Type} {ι2 : Type} (_S : St w0 M0 ds a w l bs fs) (mods : ι1 → ι2 → (Nat → Value) → List (Nat × Value)) {l1 : ι1 → ι2 → (Nat → Value) → List Value} [∀ x1 x2 uu, SetG l (mods x1 x2 uu) (l1 x1 x2 uu)] (bs1 : ι1 → ι2 → List Item) (fs1 : ι1 → ι2 → List (World → Prop)) (rel : ι1 → ι2 → Prop) (μ : ι1 → ι2 → Nat) (z1 : ι1) (z2 : ι2) (h0 : rel z1 z2) (uu0 : Nat → Value) (S0 : St w0 M0 ds a w (l1 z1 z2 uu0) (bs1 z1 z2) (fs1 z1 z2))
    (hr : ∀ x1 x2 uu a w, rel x1 x2 → St w0 M0 ds a w (l1 x1 x2 uu) (bs1 x1 x2) (fs1 x1 x2) → Wp P r c (Exit.then (fun a w => ∃ y1 y2 vv, rel y1 y2 ∧ St w0 M0 ds a w (l1 y1 y2 vv) (bs1 y1 y2) (fs1 y1 y2) ∧ μ y1 y2 < μ x1 x2) Q) a w) : Wp P r (.loop c) Q a w := by
  refine c_loop (ι := ι1 × ι2) (fun p a w => rel (p.1) (p.2) ∧ ∃ uu, St w0 M0 ds a w (l1 (p.1) (p.2) uu) (bs1 (p.1) (p.2)) (fs1 (p.1) (p.2))) (fun p => μ (p.1) (p.2)) (z1, z2) ⟨h0, uu0, S0⟩ ?_
  rintro p a w ⟨h1, uu, S1⟩
  refine wpIn_mono (hr (p.1) (p.2) uu a w h1 S1) fun e a1 w1 hq => ?_
  cases e <;> first | exact hq | skip
  obtain ⟨y1, y2, vv, h2, S2, hm⟩ := hq
  exact ⟨(y1, y2), ⟨h2, vv, S2⟩, hm⟩
theorem c_drwe2 {id : Nat} {lo : List Oper} {ι1 : Type} {ι2 : Type} (t : Tr) (S : St w0 M0 ds a w l bs fs) (mods : ι1 → ι2 → (Nat → Value) → List (Nat × Value)) {l1 : ι1 → ι2 → (Nat → Value) → List Value} [∀ x1 x2 uu, SetG l (mods x1 x2 uu) (l1 x1 x2 uu)] (bs0 : List Item) (bs1 : ι1 → ι2 → List Item) (fs1 : ι1 → ι2 → List (World → Prop)) (rel : ι1 → ι2 → Prop)
    (h : ∀ w, St w0 M0 ds a w l bs fs → AT P lo.toArray (fun w => Wd w0 M0 w bs0 fs) (fun a w => ∃ y1 y2 vv, rel y1 y2 ∧ St w0 M0 ds a w (l1 y1 y2 vv) (bs1 y1 y2) (fs1 y1 y2)) t a w) (hK : ∀ x1 x2 uu a w, rel x1 x2 → St w0 M0 ds a w (l1 x1 x2 uu) (bs1 x1 x2) (fs1 x1 x2) → Q .normal a w) (hm : P.follows .mixedOrders = true := by kernel_rfl)
    (hd : ((lo.all fun o => !isDefer o.op) && (Nat.beq t.len lo.length && (Region.noSelect lo.toArray && flowT lo.toArray t (Array.replicate lo.length false)))) = true := by kernel_rfl) : Wp P r (.region id lo.toArray true) Q a w :=
  c_drawT t bs0 S _ h (fun a w h => by obtain ⟨y1, y2, vv, h1, h2⟩ := h; exact hK y1 y2 vv a w h1 h2) hm hd
theorem c_drwe3 {id : Nat} {lo : List Oper} {ι1 : Type} {ι2 : Type} {ι3 : Type} (t : Tr) (S : St w0 M0 ds a w l bs fs) (mods : ι1 → ι2 → ι3 → (Nat → Value) → List (Nat × Value)) {l1 : ι1 → ι2 → ι3 → (Nat → Value) → List Value} [∀ x1 x2 x3 uu, SetG l (mods x1 x2 x3 uu) (l1 x1 x2 x3 uu)] (bs0 : List Item) (bs1 : ι1 → ι2 → ι3 → List Item) (fs1 : ι1 → ι2 → ι3 → List (World → Prop)) (rel : ι1 → ι2 → ι3 → Prop)
    (h : ∀ w, St w0 M0 ds a w l bs fs → AT P lo.toArray (fun w => Wd w0 M0 w bs0 fs) (fun a w => ∃ y1 y2 y3 vv, rel y1 y2 y3 ∧ St w0 M0 ds a w (l1 y1 y2 y3 vv) (bs1 y1 y2 y3) (fs1 y1 y2 y3)) t a w) (hK : ∀ x1 x2 x3 uu a w, rel x1 x2 x3 → St w0 M0 ds a w (l1 x1 x2 x3 uu) (bs1 x1 x2 x3) (fs1 x1 x2 x3) → Q .normal a w) (hm : P.follows .mixedOrders = true := by kernel_rfl)
    (hd : ((lo.all fun o => !isDefer o.op) && (Nat.beq t.len lo.length && (Region.noSelect lo.toArray && flowT lo.toArray t (Array.replicate lo.length false)))) = true := by kernel_rfl) : Wp P r (.region id lo.toArray true) Q a w :=
  c_drawT t bs0 S _ h (fun a w h => by obtain ⟨y1, y2, y3, vv, h1, h2⟩ := h; exact hK y1 y2 y3 vv a w h1 h2) hm hd
theorem c_fore4 {c : Code} {ι1 : Type} {ι2 : Type} {ι3 : Type} {ι4 : Type} (_S : St w0 M0 ds a w l bs fs) (mods : ι1 → ι2 → ι3 → ι4 → (Nat → Value) → List (Nat × Value)) {l1 : ι1 → ι2 → ι3 → ι4 → (Nat → Value) → List Value} [∀ x1 x2 x3 x4 uu, SetG l (mods x1 x2 x3 x4 uu) (l1 x1 x2 x3 x4 uu)] (bs1 : ι1 → ι2 → ι3 → ι4 → List Item) (fs1 : ι1 → ι2 → ι3 → ι4 → List (World → Prop)) (rel : ι1 → ι2 → ι3 → ι4 → Prop) (μ : ι1 → ι2 → ι3 → ι4 → Nat) (z1 : ι1) (z2 : ι2) (z3 : ι3) (z4 : ι4) (h0 : rel z1 z2 z3 z4) (uu0 : Nat → Value) (S0 : St w0 M0 ds a w (l1 z1 z2 z3 z4 uu0) (bs1 z1 z2 z3 z4) (fs1 z1 z2 z3 z4))
    (hr : ∀ x1 x2 x3 x4 uu a w, rel x1 x2 x3 x4 → St w0 M0 ds a w (l1 x1 x2 x3 x4 uu) (bs1 x1 x2 x3 x4) (fs1 x1 x2 x3 x4) → Wp P r c (Exit.then (fun a w => ∃ y1 y2 y3 y4 vv, rel y1 y2 y3 y4 ∧ St w0 M0 ds a w (l1 y1 y2 y3 y4 vv) (bs1 y1 y2 y3 y4) (fs1 y1 y2 y3 y4) ∧ μ y1 y2 y3 y4 < μ x1 x2 x3 x4) Q) a w) : Wp P r (.loop c) Q a w := by
  refine c_loop (ι := ι1 × ι2 × ι3 × ι4) (fun p a w => rel (p.1) (p.2.1) (p.2.2.1) (p.2.2.2) ∧ ∃ uu, St w0 M0 ds a w (l1 (p.1) (p.2.1) (p.2.2.1) (p.2.2.2) uu) (bs1 (p.1) (p.2.1) (p.2.2.1) (p.2.2.2)) (fs1 (p.1) (p.2.1) (p.2.2.1) (p.2.2.2))) (fun p => μ (p.1) (p.2.1) (p.2.2.1) (p.2.2.2)) (z1, z2, z3, z4) ⟨h0, uu0, S0⟩ ?_
  rintro p a w ⟨h1, uu, S1⟩
  refine wpIn_mono (hr (p.1) (p.2.1) (p.2.2.1) (p.2.2.2) uu a w h1 S1) fun e a1 w1 hq => ?_
  cases e <;> first | exact hq | skip
  obtain ⟨y1, y2, y3, y4, vv, h2, S2, hm⟩ := hq
  exact ⟨(y1, y2, y3, y4), ⟨h2, vv, S2⟩, hm⟩
theorem c_fore5 {c : Code} {ι1 : Type} {ι2 : Type} {ι3 : Type} {ι4 : Type} {ι5 : Type} (_S : St w0 M0 ds a w l bs fs) (mods : ι1 → ι2 → ι3 → ι4 → ι5 → (Nat → Value) → List (Nat × Value)) {l1 : ι1 → ι2 → ι3 → ι4 → ι5 → (Nat → Value) → List Value} [∀ x1 x2 x3 x4 x5 uu, SetG l (mods x1 x2 x3 x4 x5 uu) (l1 x1 x2 x3 x4 x5 uu)] (bs1 : ι1 → ι2 → ι3 → ι4 → ι5 → List Item) (fs1 : ι1 → ι2 → ι3 → ι4 → ι5 → List (World → Prop)) (rel : ι1 → ι2 → ι3 → ι4 → ι5 → Prop) (μ : ι1 → ι2 → ι3 → ι4 → ι5 → Nat) (z1 : ι1) (z2 : ι2) (z3 : ι3) (z4 : ι4) (z5 : ι5) (h0 : rel z1 z2 z3 z4 z5) (uu0 : Nat → Value) (S0 : St w0 M0 ds a w (l1 z1 z2 z3 z4 z5 uu0) (bs1 z1 z2 z3 z4 z5) (fs1 z1 z2 z3 z4 z5))
    (hr : ∀ x1 x2 x3 x4 x5 uu a w, rel x1 x2 x3 x4 x5 → St w0 M0 ds a w (l1 x1 x2 x3 x4 x5 uu) (bs1 x1 x2 x3 x4 x5) (fs1 x1 x2 x3 x4 x5) → Wp P r c (Exit.then (fun a w => ∃ y1 y2 y3 y4 y5 vv, rel y1 y2 y3 y4 y5 ∧ St w0 M0 ds a w (l1 y1 y2 y3 y4 y5 vv) (bs1 y1 y2 y3 y4 y5) (fs1 y1 y2 y3 y4 y5) ∧ μ y1 y2 y3 y4 y5 < μ x1 x2 x3 x4 x5) Q) a w) : Wp P r (.loop c) Q a w := by
  refine c_loop (ι := ι1 × ι2 × ι3 × ι4 × ι5) (fun p a w => rel (p.1) (p.2.1) (p.2.2.1) (p.2.2.2.1) (p.2.2.2.2) ∧ ∃ uu, St w0 M0 ds a w (l1 (p.1) (p.2.1) (p.2.2.1) (p.2.2.2.1) (p.2.2.2.2) uu) (bs1 (p.1) (p.2.1) (p.2.2.1) (p.2.2.2.1) (p.2.2.2.2)) (fs1 (p.1) (p.2.1) (p.2.2.1) (p.2.2.2.1) (p.2.2.2.2))) (fun p => μ (p.1) (p.2.1) (p.2.2.1) (p.2.2.2.1) (p.2.2.2.2)) (z1, z2, z3, z4, z5) ⟨h0, uu0, S0⟩ ?_
  rintro p a w ⟨h1, uu, S1⟩
  refine wpIn_mono (hr (p.1) (p.2.1) (p.2.2.1) (p.2.2.2.1) (p.2.2.2.2) uu a w h1 S1) fun e a1 w1 hq => ?_
  cases e <;> first | exact hq | skip
  obtain ⟨y1, y2, y3, y4, y5, vv, h2, S2, hm⟩ := hq
  exact ⟨(y1, y2, y3, y4, y5), ⟨h2, vv, S2⟩, hm⟩
theorem c_fore6 {c : Code} {ι1 : Type} {ι2 : Type} {ι3 : Type} {ι4 : Type} {ι5 : Type} {ι6 : Type} (_S : St w0 M0 ds a w l bs fs) (mods : ι1 → ι2 → ι3 → ι4 → ι5 → ι6 → (Nat → Value) → List (Nat × Value)) {l1 : ι1 → ι2 → ι3 → ι4 → ι5 → ι6 → (Nat → Value) → List Value} [∀ x1 x2 x3 x4 x5 x6 uu, SetG l (mods x1 x2 x3 x4 x5 x6 uu) (l1 x1 x2 x3 x4 x5 x6 uu)] (bs1 : ι1 → ι2 → ι3 → ι4 → ι5 → ι6 → List Item) (fs1 : ι1 → ι2 → ι3 → ι4 → ι5 → ι6 → List (World → Prop)) (rel : ι1 → ι2 → ι3 → ι4 → ι5 → ι6 → Prop) (μ : ι1 → ι2 → ι3 → ι4 → ι5 → ι6 → Nat) (z1 : ι1) (z2 : ι2) (z3 : ι3) (z4 : ι4) (z5 : ι5) (z6 : ι6) (h0 : rel z1 z2 z3 z4 z5 z6) (uu0 : Nat → Value) (S0 : St w0 M0 ds a w (l1 z1 z2 z3 z4 z5 z6 uu0) (bs1 z1 z2 z3 z4 z5 z6) (fs1 z1 z2 z3 z4 z5 z6))
    (hr : ∀ x1 x2 x3 x4 x5 x6 uu a w, rel x1 x2 x3 x4 x5 x6 → St w0 M0 ds a w (l1 x1 x2 x3 x4 x5 x6 uu) (bs1 x1 x2 x3 x4 x5 x6) (fs1 x1 x2 x3 x4 x5 x6) → Wp P r c (Exit.then (fun a w => ∃ y1 y2 y3 y4 y5 y6 vv, rel y1 y2 y3 y4 y5 y6 ∧ St w0 M0 ds a w (l1 y1 y2 y3 y4 y5 y6 vv) (bs1 y1 y2 y3 y4 y5 y6) (fs1 y1 y2 y3 y4 y5 y6) ∧ μ y1 y2 y3 y4 y5 y6 < μ x1 x2 x3 x4 x5 x6) Q) a w) : Wp P r (.loop c) Q a w := by
  refine c_loop (ι := ι1 × ι2 × ι3 × ι4 × ι5 × ι6) (fun p a w => rel (p.1) (p.2.1) (p.2.2.1) (p.2.2.2.1) (p.2.2.2.2.1) (p.2.2.2.2.2) ∧ ∃ uu, St w0 M0 ds a w (l1 (p.1) (p.2.1) (p.2.2.1) (p.2.2.2.1) (p.2.2.2.2.1) (p.2.2.2.2.2) uu) (bs1 (p.1) (p.2.1) (p.2.2.1) (p.2.2.2.1) (p.2.2.2.2.1) (p.2.2.2.2.2)) (fs1 (p.1) (p.2.1) (p.2.2.1) (p.2.2.2.1) (p.2.2.2.2.1) (p.2.2.2.2.2))) (fun p => μ (p.1) (p.2.1) (p.2.2.1) (p.2.2.2.1) (p.2.2.2.2.1) (p.2.2.2.2.2)) (z1, z2, z3, z4, z5, z6) ⟨h0, uu0, S0⟩ ?_
  rintro p a w ⟨h1, uu, S1⟩
  refine wpIn_mono (hr (p.1) (p.2.1) (p.2.2.1) (p.2.2.2.1) (p.2.2.2.2.1) (p.2.2.2.2.2) uu a w h1 S1) fun e a1 w1 hq => ?_
  cases e <;> first | exact hq | skip
  obtain ⟨y1, y2, y3, y4, y5, y6, vv, h2, S2, hm⟩ := hq
  exact ⟨(y1, y2, y3, y4, y5, y6), ⟨h2, vv, S2⟩, hm⟩
end
class ItOk (x : Item) : Prop where
  loc : ∀ w1 w2 : World, (∀ k, x.foot k → w2.heap[k]? = w1.heap[k]?) → x.holds w1 → x.holds w2
  lt : ∀ w : World, x.holds w → ∀ k, x.foot k → k < w.heap.size
instance itBox {b : Nat} {t : TypeId} {cs : List Value} : ItOk (box b t cs) := ⟨box_loc b t cs, fun w h k hk => by simp only [box] at hk h; subst hk; exact (Array.getElem?_eq_some_iff.1 h).1⟩
instance itRow {e : TypeId} {sz : Nat} {p : Option Addr} {n c : Nat} {xs : List Value} : ItOk (row e sz p n c xs) := ⟨row_loc e sz p n c xs, fun _ h => row_foot_lt h⟩
def both (x y : Item) : Item where
  foot := fun k => x.foot k ∨ y.foot k
  holds := fun w => x.holds w ∧ y.holds w ∧ ∀ k, x.foot k → ¬ y.foot k
  own := x.own && y.own
instance itBoth {x y : Item} [hx : ItOk x] [hy : ItOk y] : ItOk (both x y) := ⟨fun w1 w2 h h1 => ⟨hx.loc w1 w2 (fun k hk => h k (.inl hk)) h1.1, hy.loc w1 w2 (fun k hk => h k (.inr hk)) h1.2.1, h1.2.2⟩, fun w h k hk => hk.elim (hx.lt w h.1 k) (hy.lt w h.2.1 k)⟩
theorem foots_both {x y : Item} {bs : List Item} : foots (both x y :: bs) = foots (x :: y :: bs) := by
  funext k
  simp only [foots, List.mem_cons, or_and_right, exists_or, exists_eq_left, both, or_assoc]
section
variable {w0 : World} {M0 : Nat → Prop} {ds : List Deferred} {a : Act} {w : World} {l : List Value} {bs bs' : List Item} {fs : List (World → Prop)} {x y : Item}
theorem Wd.toBoth [ox : ItOk x] [oy : ItOk y] (h : Wd w0 M0 w (x :: y :: bs) fs) (hx : x.own = true) (hy : y.own = true) : Wd w0 M0 w (both x y :: bs) fs := by
  have hp := List.pairwise_cons.1 h.apart
  have hp2 := List.pairwise_cons.1 hp.2
  have hap : ∀ k, x.foot k → ¬ y.foot k := hp.1 y (by simp)
  refine ⟨h.agree, ?_, ?_, ?_, ?_, ?_, ?_⟩
  · intro it hi
    rcases List.mem_cons.1 hi with rfl | hi
    · exact ⟨h.held x (by simp), h.held y (by simp), hap⟩
    · exact h.held it (by simp [hi])
  · intro it hi k hk
    rcases List.mem_cons.1 hi with rfl | hi
    · exact hk.elim (h.lt x (by simp) k) (h.lt y (by simp) k)
    · exact h.lt it (by simp [hi]) k hk
  · intro it hi ho k hk
    rcases List.mem_cons.1 hi with rfl | hi
    · exact hk.elim (h.own x (by simp) hx k) (h.own y (by simp) hy k)
    · exact h.own it (by simp [hi]) ho k hk
  · exact List.pairwise_cons.2 ⟨fun it hi k hk => hk.elim (hp.1 it (by simp [hi]) k) (hp2.1 it hi k), hp2.2⟩
  · intro Φ hΦ; rw [foots_both]; exact h.facts Φ hΦ
  · intro it hi
    rcases List.mem_cons.1 hi with rfl | hi
    · exact (itBoth (x := x) (y := y)).loc
    · exact h.loc it (by simp [hi])
theorem Wd.ofBoth [ox : ItOk x] [oy : ItOk y] (h : Wd w0 M0 w (both x y :: bs) fs) (hx : x.own = true) (hy : y.own = true) : Wd w0 M0 w (x :: y :: bs) fs := by
  have hb := h.held (both x y) (by simp)
  have hp := List.pairwise_cons.1 h.apart
  have hown := h.own (both x y) (by simp) (by simp [both, hx, hy])
  refine ⟨h.agree, ?_, ?_, ?_, ?_, ?_, ?_⟩
  · intro it hi
    rcases List.mem_cons.1 hi with rfl | hi
    · exact hb.1
    · rcases List.mem_cons.1 hi with rfl | hi
      · exact hb.2.1
      · exact h.held it (by simp [hi])
  · intro it hi k hk
    rcases List.mem_cons.1 hi with rfl | hi
    · exact h.lt (both it y) (by simp) k (.inl hk)
    · rcases List.mem_cons.1 hi with rfl | hi
      · exact h.lt (both x it) (by simp) k (.inr hk)
      · exact h.lt it (by simp [hi]) k hk
  · intro it hi ho k hk
    rcases List.mem_cons.1 hi with rfl | hi
    · exact hown k (.inl hk)
    · rcases List.mem_cons.1 hi with rfl | hi
      · exact hown k (.inr hk)
      · exact h.own it (by simp [hi]) ho k hk
  · refine List.pairwise_cons.2 ⟨fun it hi k hk => ?_, List.pairwise_cons.2 ⟨fun it hi k hk => hp.1 it hi k (.inr hk), hp.2⟩⟩
    rcases List.mem_cons.1 hi with rfl | hi
    · exact hb.2.2 k hk
    · exact hp.1 it hi k (.inl hk)
  · intro Φ hΦ; rw [← foots_both]; exact h.facts Φ hΦ
  · intro it hi
    rcases List.mem_cons.1 hi with rfl | hi
    · exact ox.loc
    · rcases List.mem_cons.1 hi with rfl | hi
      · exact oy.loc
      · exact h.loc it (by simp [hi])
theorem St.perm (S : St w0 M0 ds a w l bs fs) (bs' : List Item) (hp : bs'.Perm bs) : St w0 M0 ds a w l bs' fs := ⟨S.slots, S.defers, S.wd.perm hp⟩
theorem St.toBoth [ItOk x] [ItOk y] (S : St w0 M0 ds a w l (x :: y :: bs) fs) (hx : x.own = true := by rfl) (hy : y.own = true := by rfl) : St w0 M0 ds a w l (both x y :: bs) fs := ⟨S.slots, S.defers, S.wd.toBoth hx hy⟩
theorem St.ofBoth [ItOk x] [ItOk y] (S : St w0 M0 ds a w l (both x y :: bs) fs) (hx : x.own = true := by rfl) (hy : y.own = true := by rfl) : St w0 M0 ds a w l (x :: y :: bs) fs := ⟨S.slots, S.defers, S.wd.ofBoth hx hy⟩
theorem Wd.itLent {x : Item} [ox : ItOk x] (h : x.holds w) (hf : ∀ Φ ∈ fs, Stable x.foot w Φ) : Wd w x.foot w [x] fs := by
  refine ⟨Agree.refl _ _, ?_, ?_, ?_, by simp, ?_, ?_⟩
  · intro it hi; obtain rfl := List.mem_singleton.1 hi; exact h
  · intro it hi; obtain rfl := List.mem_singleton.1 hi; exact ox.lt w h
  · intro it hi _ k hk; obtain rfl := List.mem_singleton.1 hi; exact .inl hk
  · intro Φ hΦ
    refine (hf Φ hΦ).less fun k _ hk => ?_
    obtain ⟨it, hi, hk⟩ := hk
    obtain rfl := List.mem_singleton.1 hi; exact hk
  · intro it hi; obtain rfl := List.mem_singleton.1 hi; exact ox.loc
class HasIt (bs : List Item) (x : Item) : Prop where mem : x ∈ bs
instance hit0 {x : Item} {bs : List Item} : HasIt (x :: bs) x := ⟨List.mem_cons_self ..⟩
instance (priority := 900) hit1 {x y : Item} {bs : List Item} [h : HasIt bs x] : HasIt (y :: bs) x := ⟨List.mem_cons_of_mem _ h.mem⟩
theorem St.it (S : St w0 M0 ds a w l bs fs) (x : Item) [h : HasIt bs x] : x.holds w := S.wd.held _ h.mem
theorem St.lend (_S : St w0 M0 ds a w l bs fs) (x : Item) [h : HasIt bs x] {Φ : World → Prop} (hΦ : Stable (foots bs) w Φ) : Stable x.foot w Φ := hΦ.less fun _ _ hk => ⟨_, h.mem, hk⟩
theorem St.itNew (S : St w0 M0 ds a w l bs fs) (x : Item) [h : HasIt bs x] (ho : x.own = true := by rfl) : ∀ k, x.foot k → M0 k ∨ w0.heap.size ≤ k := S.wd.own _ h.mem ho
end
section
variable {P : Program} {r : Option Nat} {ops : Array Oper} {Q : Exit → Act → World → Prop} {w0 : World} {M0 : Nat → Prop} {ds : List Deferred} {a : Act} {w : World} {l : List Value} {bs : List Item} {fs : List (World → Prop)}
  {d : Option Nat} {ty : TypeId} {pos : String} {af : Array Edge} {rest : List Oper} {f : Nat} {x : Operand} {ys : List Operand} {args : List Value} {ts : Array TypeId}
theorem sit {l' : Value → List Value} (it : Item) [EntF P f] [CallTo ⟨[], l⟩ x ys f args] [hp : ∀ v, PutO l d v (l' v)] (S : St w0 M0 ds a w l bs fs) {R : Value → World → Prop} (hc : Ret P f args w it.foot R) (ho : it.own = true)
    (K : ∀ v a w', R v w' → (∀ (y : Item) {bs' : List Item} [ReplI bs it y bs'] [ItOk y], y.holds w' → (∀ k, y.foot k → it.foot k ∨ w.heap.size ≤ k) → St w0 M0 ds a w' (l' v) bs' fs) → WL P r ops Q rest a w') :
    WL P r ops Q (⟨d, .call { callee := .value x, args := ys.toArray, argTypes := ts }, ty, pos, af, none⟩ :: rest) a w :=
  sri it S hc ho fun v a w' hR hS => K v a w' hR fun y bs' hr oy h hf => hS y bs' hr h hf (oy.lt w' h) oy.loc
end
section
variable {P : Program} {l lc : Cx} {bs : List Item} {fs : List (World → Prop)} {x y : Operand} {p : Option Addr} {n c k : Nat} {t ty e : TypeId} {z : Value} {sz by_ : Nat} {ol oh om : Option Operand} {lo hi mx : Nat} {s : List UInt8}
end
theorem Wd.itLentM {w : World} {fs : List (World → Prop)} {x : Item} {Mr : Nat → Prop} [ox : ItOk x] (h : x.holds w) (hM : ∀ k, Mr k → k < w.heap.size ∧ ¬ x.foot k) (hf : ∀ Φ ∈ fs, Stable (fun k => x.foot k ∨ Mr k) w Φ) : Wd w x.foot w [x, ext Mr] fs := by
  refine ⟨Agree.refl _ _, ?_, ?_, ?_, ?_, ?_, ?_⟩
  · intro it hi
    rcases List.mem_cons.1 hi with rfl | hi
    · exact h
    · obtain rfl := List.mem_singleton.1 hi; trivial
  · intro it hi k hk
    rcases List.mem_cons.1 hi with rfl | hi
    · exact ox.lt w h k hk
    · obtain rfl := List.mem_singleton.1 hi; exact (hM k hk).1
  · intro it hi ho k hk
    rcases List.mem_cons.1 hi with rfl | hi
    · exact .inl hk
    · obtain rfl := List.mem_singleton.1 hi; cases ho
  · refine List.pairwise_cons.2 ⟨fun it hi k hk hk' => ?_, by simp⟩
    obtain rfl := List.mem_singleton.1 hi; exact (hM k hk').2 hk
  · intro Φ hΦ
    refine (hf Φ hΦ).less fun k _ hk => ?_
    obtain ⟨it, hi, hk⟩ := hk
    rcases List.mem_cons.1 hi with rfl | hi
    · exact .inl hk
    · obtain rfl := List.mem_singleton.1 hi; exact .inr hk
  · intro it hi
    rcases List.mem_cons.1 hi with rfl | hi
    · exact ox.loc
    · obtain rfl := List.mem_singleton.1 hi; exact fun _ _ _ _ => trivial
theorem Wd.it2LentM {w : World} {fs : List (World → Prop)} {x y : Item} {Mr : Nat → Prop} [ox : ItOk x] [oy : ItOk y] (h : (both x y).holds w) (hx : x.own = true) (hy : y.own = true) (hM : ∀ k, Mr k → k < w.heap.size ∧ ¬ (both x y).foot k) (hf : ∀ Φ ∈ fs, Stable (fun k => (both x y).foot k ∨ Mr k) w Φ) : Wd w (both x y).foot w [x, y, ext Mr] fs := (Wd.itLentM h hM hf).ofBoth hx hy
def restOf (bs : List Item) (x : Item) : Nat → Prop := fun k => foots bs k ∧ ¬ x.foot k
theorem St.restOk {w0 : World} {M0 : Nat → Prop} {ds : List Deferred} {a : Act} {w : World} {l : List Value} {bs : List Item} {fs : List (World → Prop)} (S : St w0 M0 ds a w l bs fs) (x : Item) : ∀ k, restOf bs x k → k < w.heap.size ∧ ¬ x.foot k := fun k h => ⟨foots_lt S k h.1, h.2⟩
theorem Stable.split {bs : List Item} {w : World} {Φ : World → Prop} (x : Item) [hx : HasIt bs x] (h : Stable (foots bs) w Φ) : Stable (fun k => x.foot k ∨ restOf bs x k) w Φ := h.less fun _ _ hk => hk.elim (fun h => ⟨x, hx.mem, h⟩) (fun h => h.1)
section
variable {P : Program} {r : Option Nat} {ops : Array Oper} {Q : Exit → Act → World → Prop} {w0 : World} {M0 : Nat → Prop} {ds : List Deferred} {a : Act} {w : World} {l : List Value} {bs bs' : List Item} {fs : List (World → Prop)}
  {d : Option Nat} {ty : TypeId} {pos : String} {af : Array Edge} {rest : List Oper} {f : Nat} {x : Operand} {ys : List Operand} {args : List Value} {ts : Array TypeId}
theorem St.addAll (S : St w0 M0 ds a w l bs fs) : ∀ (fs2 : List (World → Prop)), (∀ Φ ∈ fs2, Stable (foots bs) w Φ) → St w0 M0 ds a w l bs (fs2 ++ fs)
  | [], _ => S
  | Φ :: fs2, h => (St.addAll S fs2 (fun Ψ hΨ => h Ψ (by simp [hΨ]))).add (h Φ (by simp))
theorem sitM {l' : Value → List Value} (it : Item) [EntF P f] [CallTo ⟨[], l⟩ x ys f args] [hp : ∀ v, PutO l d v (l' v)] (S : St w0 M0 ds a w l bs fs) {R : Value → World → Prop} (hc : Ret P f args w it.foot R) (ho : it.own = true)
    (K : ∀ v a w', R v w' → (∀ (y : Item) (fs2 : List (World → Prop)) {fs3 : List (World → Prop)} {bs' : List Item} [AppL fs2 fs fs3] [ReplI bs it y bs'] [ItOk y], y.holds w' → (∀ k, y.foot k → it.foot k ∨ w.heap.size ≤ k) → (∀ Φ ∈ fs2, Stable (fun k => y.foot k ∨ restOf bs it k) w' Φ) → St w0 M0 ds a w' (l' v) bs' fs3) → WL P r ops Q rest a w') :
    WL P r ops Q (⟨d, .call { callee := .value x, args := ys.toArray, argTypes := ts }, ty, pos, af, none⟩ :: rest) a w := by
  have hap := S.wd.apart
  refine sit it S hc ho fun v a w' hR hS => K v a w' hR fun y fs2 fs3 bs' happ hr oy hy hf hfs => ?_
  rw [← happ.eq]
  refine (hS y hy hf).addAll fs2 fun Φ hΦ => (hfs Φ hΦ).less fun k _ hk => ?_
  obtain ⟨pre, post, rfl, rfl⟩ := hr.ex
  obtain ⟨z, hz, hk⟩ := hk
  have hp := List.pairwise_append.1 hap
  rcases List.mem_append.1 hz with hz | hz
  · exact .inr ⟨⟨z, by simp [hz], hk⟩, hp.2.2 z hz it (by simp) k hk⟩
  · rcases List.mem_cons.1 hz with rfl | hz
    · exact .inl hk
    · exact .inr ⟨⟨z, by simp [hz], hk⟩, fun hx => (List.pairwise_cons.1 hp.2.1).1 z hz k hx hk⟩
theorem St.boxToF (S : St w0 M0 ds a w l bs fs) (b : Nat) {t : TypeId} {cs : List Value} [_hb : HasBox bs b t cs] [hd : DropI bs (Wk.box b t cs) bs'] : St w0 M0 ds a w l bs' (BoxF b t cs :: fs) := by
  have S1 := S.perm _ hd.perm
  have hap := List.pairwise_cons.1 S1.wd.apart
  have hbx : BoxF b t cs w := S1.wd.held (Wk.box b t cs) (by simp)
  have S2 : St w0 M0 ds a w l bs' fs := ⟨S1.slots, S1.defers, S1.wd.sub (.cons _ (.refl _)) (.refl _)⟩
  exact S2.add (BoxF.stable hbx fun ⟨it, hi, hk⟩ => hap.1 it hi b rfl hk)
end
theorem St.frontLs {w0 : World} {M0 : Nat → Prop} {ds : List Deferred} {a : Act} {w : World} {l : List Value} {bs bs' : List Item} {fs : List (World → Prop)} (S : St w0 M0 ds a w l bs fs) (b : Nat) (ts : List LTerm) {T : TypeId} {cs : List Value} [hb : HasBox bs b T cs] [hd : DropI bs (Wk.box b T cs) bs'] (hc : cs = ts.flatMap LTerm.cells) (h : ∀ t ∈ ts, Stable (foots bs) w (LtF t)) : St w0 M0 ds a w l bs' (LsF (some ⟨b, 0, none⟩) 0 ts :: fs) := by
  have S1 : St w0 M0 ds a w l (Wk.box b T cs :: bs') fs := S.perm _ hd.perm
  refine S1.boxLs ts hc fun t ht => (h t ht).less fun k _ ⟨it, hi, hk⟩ => ⟨it, (hd.perm.mem_iff).1 hi, hk⟩
instance condsU {pol : Bool} : Conds undef pol [false] := ⟨by simp [undef]⟩
theorem gU {P : Program} {r : Option Nat} {ops : Array Oper} {Q : Exit → Act → World → Prop} {w0 : World} {M0 : Nat → Prop} {ds : List Deferred} {a : Act} {w : World} {l l' : List Value} {bs : List Item} {fs : List (World → Prop)} {d : Option Nat} {op : Op} {ty : TypeId} {pos : String} {af : Array Edge} {rest : List Oper} {j g : Nat} {pol : Bool}
    (S : St w0 M0 ds a w l bs fs) [hp : PutO l d undef l'] [hg : GSlot ops j g] [hn : Nth l g undef] (h : ∀ a, St w0 M0 ds a w l' bs fs → WL P r ops Q rest a w) : WL P r ops Q (⟨d, op, ty, pos, af, some (j, pol)⟩ :: rest) a w :=
  wl_guard (fun ht => by
    have := (wanted_iff (ops := ops) (d := d) (op := op) (ty := ty) (pos := pos) (af := af) (pol := pol) S hg.eq).1 ht
    simp at this) fun _ => h _ S.put
section
variable {P : Program} {l : Cx} {bs : List Item} {fs : List (World → Prop)} {x y : Operand} {k : Nat} {kk : IntKind} {m : Int} {t ty : TypeId} {s : List UInt8}
end
def idxG {α : Type} (q : α → Bool) : List α → Int → Int
  | [], _ => -1
  | x :: xs, i => if q x then i else idxG q xs (i + 1)
theorem idxG_any {α : Type} (q : α → Bool) : ∀ (xs : List α) (i : Int), 0 ≤ i → (decide (0 ≤ idxG q xs i) = xs.any q)
  | [], i, h => by simp [idxG]
  | x :: xs, i, h => by
    rw [idxG, List.any_cons]
    cases hq : q x with
    | true => simp [h]
    | false => simpa using idxG_any q xs (i + 1) (by omega)
def AllI {α : Type} [Lay α] (L : List α) : World → Prop := fun w => ∀ x ∈ L, Lay.inn w x
theorem AllI.nil {α : Type} [Lay α] {M : Nat → Prop} {w : World} : Stable M w (AllI (α := α) []) := fun _ _ _ h => by cases h
theorem AllI.get {α : Type} [Lay α] {M : Nat → Prop} {w : World} {L : List α} (h : Stable M w (AllI L)) {x : α} (hx : x ∈ L) : Stable M w (InF x) := fun w' hw => h w' hw x hx
theorem AllI.snoc {α : Type} [Lay α] {M : Nat → Prop} {w : World} {L : List α} {r : α} (h : Stable M w (AllI L)) (hr : Stable M w (InF r)) : Stable M w (AllI (L ++ [r])) := fun w' hw x hx => by
  rcases List.mem_append.1 hx with hx | hx
  · exact h w' hw x hx
  · rw [List.mem_singleton.1 hx]; exact hr w' hw
theorem gl_own {α : Type} [Lay α] {M : Nat → Prop} {w : World} {e : TypeId} {p : Option Addr} {n c sz : Nat} {xs : List α} (h : w.ownsRow 0 e sz (.slice p n c) n (encL xs)) (hk : Stable M w (AllI xs)) (hM : ∀ ad, p = some ad → ¬ M ad.block) : Stable M w (GlF p xs) := gl_of_own h (fun _ hx => AllI.get hk hx) hM
end Go.Wk