/- 2: a part of this claim's texts, joined: Inst TermA TermB TermC TermD RefTerm PlainRight Regress. -/
import Derived.Test.YtieeoakdkbackaaGreatDoorPa1
import Derived.Test.YtieeoakdkbackaaGreatDoorRows
/- The instances of this seat's program (types, fields, functions) for the walker; written by gen_inst.py. -/
namespace Go.Proofs.YtieeoakdkbackaaGreatDoor
open Go Go.Wk
section
set_option maxRecDepth 100000
instance : AggT Tryz.prog 1 false := aggT_of (by kernel_rfl)
instance : TI Tryz.prog 1 (.nilFunc) 1 8 := ti_of (by kernel_rfl)
instance : Und Tryz.prog 2 (.int .i64) := ⟨Tryz.underlying2⟩
instance : TI Tryz.prog 2 (.int .i64 0) 1 8 := ti_of (by kernel_rfl)
instance : Und Tryz.prog 3 (.int .i64) := ⟨Tryz.underlying3⟩
instance : TI Tryz.prog 3 (.int .i64 0) 1 8 := ti_of (by kernel_rfl)
instance : Und Tryz.prog 4 (.bool) := ⟨Tryz.underlying4⟩
instance : TI Tryz.prog 4 (.bool false) 1 1 := ti_of (by kernel_rfl)
instance : Und Tryz.prog 5 (.int .u8) := ⟨Tryz.underlying5⟩
instance : TI Tryz.prog 5 (.int .u8 0) 1 1 := ti_of (by kernel_rfl)
instance : Und Tryz.prog 9 (.string) := ⟨Tryz.underlying9⟩
instance : TI Tryz.prog 9 (.string ⟨#[]⟩) 1 16 := ti_of (by kernel_rfl)
instance : Und Tryz.prog 12 (.int .u64) := ⟨Tryz.underlying12⟩
instance : TI Tryz.prog 12 (.int .u64 0) 1 8 := ti_of (by kernel_rfl)
instance : AggT Tryz.prog 20 false := aggT_of (by kernel_rfl)
instance : TI Tryz.prog 20 (.nilIface) 1 16 := ti_of (by kernel_rfl)
instance : Und Tryz.prog 21 (.int .i32) := ⟨Tryz.underlying21⟩
instance : TI Tryz.prog 21 (.int .i32 0) 1 4 := ti_of (by kernel_rfl)
instance : Und Tryz.prog 22 (.slice 28) := ⟨Tryz.underlying22⟩
instance : TI Tryz.prog 22 (.slice none 0 0) 1 24 := ti_of (by kernel_rfl)
instance : AggT Tryz.prog 23 false := aggT_of (by kernel_rfl)
instance : TI Tryz.prog 23 (.nilFunc) 1 8 := ti_of (by kernel_rfl)
instance : Und Tryz.prog 24 (.slice 26) := ⟨Tryz.underlying24⟩
instance : TI Tryz.prog 24 (.slice none 0 0) 1 24 := ti_of (by kernel_rfl)
instance : AggT Tryz.prog 25 true := aggT_of (by kernel_rfl)
instance : Fld Tryz.prog 25 0 0 3 := fld_of (by kernel_rfl)
instance : Fld Tryz.prog 25 1 1 3 := fld_of (by kernel_rfl)
instance : Fld Tryz.prog 25 2 2 3 := fld_of (by kernel_rfl)
instance : Fld Tryz.prog 25 3 3 9 := fld_of (by kernel_rfl)
instance : Fld Tryz.prog 25 4 4 24 := fld_of (by kernel_rfl)
instance : PlOf Tryz.prog 25 [(0, 1), (1, 1), (2, 1), (3, 1), (4, 1)] := plof_of (by kernel_rfl)
instance : TI Tryz.prog 25 (.agg #[.int .i64 0, .int .i64 0, .int .i64 0, .string ⟨#[]⟩, .slice none 0 0]) 5 64 := ti_of (by kernel_rfl)
instance : AggT Tryz.prog 26 true := aggT_of (by kernel_rfl)
instance : Fld Tryz.prog 26 0 0 3 := fld_of (by kernel_rfl)
instance : Fld Tryz.prog 26 1 1 3 := fld_of (by kernel_rfl)
instance : Fld Tryz.prog 26 2 2 3 := fld_of (by kernel_rfl)
instance : Fld Tryz.prog 26 3 3 9 := fld_of (by kernel_rfl)
instance : Fld Tryz.prog 26 4 4 24 := fld_of (by kernel_rfl)
instance : PlOf Tryz.prog 26 [(0, 1), (1, 1), (2, 1), (3, 1), (4, 1)] := plof_of (by kernel_rfl)
instance : TI Tryz.prog 26 (.agg #[.int .i64 0, .int .i64 0, .int .i64 0, .string ⟨#[]⟩, .slice none 0 0]) 5 64 := ti_of (by kernel_rfl)
instance : AggT Tryz.prog 27 true := aggT_of (by kernel_rfl)
instance : Fld Tryz.prog 27 0 0 3 := fld_of (by kernel_rfl)
instance : Fld Tryz.prog 27 1 1 26 := fld_of (by kernel_rfl)
instance : Fld Tryz.prog 27 2 6 26 := fld_of (by kernel_rfl)
instance : PlOf Tryz.prog 27 [(0, 1), (1, 5), (6, 5)] := plof_of (by kernel_rfl)
instance : TI Tryz.prog 27 (.agg #[.int .i64 0, .int .i64 0, .int .i64 0, .int .i64 0, .string ⟨#[]⟩, .slice none 0 0, .int .i64 0, .int .i64 0, .int .i64 0, .string ⟨#[]⟩, .slice none 0 0]) 11 136 := ti_of (by kernel_rfl)
instance : AggT Tryz.prog 28 true := aggT_of (by kernel_rfl)
instance : Fld Tryz.prog 28 0 0 3 := fld_of (by kernel_rfl)
instance : Fld Tryz.prog 28 1 1 26 := fld_of (by kernel_rfl)
instance : Fld Tryz.prog 28 2 6 26 := fld_of (by kernel_rfl)
instance : PlOf Tryz.prog 28 [(0, 1), (1, 5), (6, 5)] := plof_of (by kernel_rfl)
instance : TI Tryz.prog 28 (.agg #[.int .i64 0, .int .i64 0, .int .i64 0, .int .i64 0, .string ⟨#[]⟩, .slice none 0 0, .int .i64 0, .int .i64 0, .int .i64 0, .string ⟨#[]⟩, .slice none 0 0]) 11 136 := ti_of (by kernel_rfl)
instance : AggT Tryz.prog 29 false := aggT_of (by kernel_rfl)
instance : TI Tryz.prog 29 (.nilFunc) 1 8 := ti_of (by kernel_rfl)
instance : Und Tryz.prog 30 (.slice 59) := ⟨Tryz.underlying30⟩
instance : TI Tryz.prog 30 (.slice none 0 0) 1 24 := ti_of (by kernel_rfl)
instance : Und Tryz.prog 31 (.int .i64) := ⟨Tryz.underlying31⟩
instance : TI Tryz.prog 31 (.int .i64 0) 1 8 := ti_of (by kernel_rfl)
instance : AggT Tryz.prog 33 false := aggT_of (by kernel_rfl)
instance : TI Tryz.prog 33 (.nilFunc) 1 8 := ti_of (by kernel_rfl)
instance : AggT Tryz.prog 35 false := aggT_of (by kernel_rfl)
instance : TI Tryz.prog 35 (.nilFunc) 1 8 := ti_of (by kernel_rfl)
instance : AggT Tryz.prog 36 false := aggT_of (by kernel_rfl)
instance : TI Tryz.prog 36 (.nilFunc) 1 8 := ti_of (by kernel_rfl)
instance : AggT Tryz.prog 37 false := aggT_of (by kernel_rfl)
instance : TI Tryz.prog 37 (.nilFunc) 1 8 := ti_of (by kernel_rfl)
instance : AggT Tryz.prog 38 false := aggT_of (by kernel_rfl)
instance : TI Tryz.prog 38 (.nilFunc) 1 8 := ti_of (by kernel_rfl)
instance : AggT Tryz.prog 39 false := aggT_of (by kernel_rfl)
instance : TI Tryz.prog 39 (.nilFunc) 1 8 := ti_of (by kernel_rfl)
instance : Und Tryz.prog 40 (.slice 3) := ⟨Tryz.underlying40⟩
instance : TI Tryz.prog 40 (.slice none 0 0) 1 24 := ti_of (by kernel_rfl)
instance : AggT Tryz.prog 41 true := aggT_of (by kernel_rfl)
instance : Fld Tryz.prog 41 0 0 3 := fld_of (by kernel_rfl)
instance : Fld Tryz.prog 41 1 1 3 := fld_of (by kernel_rfl)
instance : Fld Tryz.prog 41 2 2 40 := fld_of (by kernel_rfl)
instance : Fld Tryz.prog 41 3 3 40 := fld_of (by kernel_rfl)
instance : Fld Tryz.prog 41 4 4 40 := fld_of (by kernel_rfl)
instance : PlOf Tryz.prog 41 [(0, 1), (1, 1), (2, 1), (3, 1), (4, 1)] := plof_of (by kernel_rfl)
instance : TI Tryz.prog 41 (.agg #[.int .i64 0, .int .i64 0, .slice none 0 0, .slice none 0 0, .slice none 0 0]) 5 88 := ti_of (by kernel_rfl)
instance : AggT Tryz.prog 42 true := aggT_of (by kernel_rfl)
instance : Fld Tryz.prog 42 0 0 3 := fld_of (by kernel_rfl)
instance : Fld Tryz.prog 42 1 1 3 := fld_of (by kernel_rfl)
instance : Fld Tryz.prog 42 2 2 40 := fld_of (by kernel_rfl)
instance : Fld Tryz.prog 42 3 3 40 := fld_of (by kernel_rfl)
instance : Fld Tryz.prog 42 4 4 40 := fld_of (by kernel_rfl)
instance : PlOf Tryz.prog 42 [(0, 1), (1, 1), (2, 1), (3, 1), (4, 1)] := plof_of (by kernel_rfl)
instance : TI Tryz.prog 42 (.agg #[.int .i64 0, .int .i64 0, .slice none 0 0, .slice none 0 0, .slice none 0 0]) 5 88 := ti_of (by kernel_rfl)
instance : Und Tryz.prog 43 (.slice 40) := ⟨Tryz.underlying43⟩
instance : TI Tryz.prog 43 (.slice none 0 0) 1 24 := ti_of (by kernel_rfl)
instance : AggT Tryz.prog 44 true := aggT_of (by kernel_rfl)
instance : Fld Tryz.prog 44 0 0 9 := fld_of (by kernel_rfl)
instance : Fld Tryz.prog 44 1 1 3 := fld_of (by kernel_rfl)
instance : Fld Tryz.prog 44 2 2 42 := fld_of (by kernel_rfl)
instance : Fld Tryz.prog 44 3 7 43 := fld_of (by kernel_rfl)
instance : Fld Tryz.prog 44 4 8 26 := fld_of (by kernel_rfl)
instance : PlOf Tryz.prog 44 [(0, 1), (1, 1), (2, 5), (7, 1), (8, 5)] := plof_of (by kernel_rfl)
instance : TI Tryz.prog 44 (.agg #[.string ⟨#[]⟩, .int .i64 0, .int .i64 0, .int .i64 0, .slice none 0 0, .slice none 0 0, .slice none 0 0, .slice none 0 0, .int .i64 0, .int .i64 0, .int .i64 0, .string ⟨#[]⟩, .slice none 0 0]) 13 200 := ti_of (by kernel_rfl)
instance : AggT Tryz.prog 45 true := aggT_of (by kernel_rfl)
instance : Fld Tryz.prog 45 0 0 9 := fld_of (by kernel_rfl)
instance : Fld Tryz.prog 45 1 1 3 := fld_of (by kernel_rfl)
instance : Fld Tryz.prog 45 2 2 42 := fld_of (by kernel_rfl)
instance : Fld Tryz.prog 45 3 7 43 := fld_of (by kernel_rfl)
instance : Fld Tryz.prog 45 4 8 26 := fld_of (by kernel_rfl)
instance : PlOf Tryz.prog 45 [(0, 1), (1, 1), (2, 5), (7, 1), (8, 5)] := plof_of (by kernel_rfl)
instance : TI Tryz.prog 45 (.agg #[.string ⟨#[]⟩, .int .i64 0, .int .i64 0, .int .i64 0, .slice none 0 0, .slice none 0 0, .slice none 0 0, .slice none 0 0, .int .i64 0, .int .i64 0, .int .i64 0, .string ⟨#[]⟩, .slice none 0 0]) 13 200 := ti_of (by kernel_rfl)
instance : AggT Tryz.prog 47 false := aggT_of (by kernel_rfl)
instance : TI Tryz.prog 47 (.nilFunc) 1 8 := ti_of (by kernel_rfl)
instance : AggT Tryz.prog 49 false := aggT_of (by kernel_rfl)
instance : TI Tryz.prog 49 (.nilFunc) 1 8 := ti_of (by kernel_rfl)
instance : AggT Tryz.prog 50 false := aggT_of (by kernel_rfl)
instance : TI Tryz.prog 50 (.nilFunc) 1 8 := ti_of (by kernel_rfl)
instance : AggT Tryz.prog 51 false := aggT_of (by kernel_rfl)
instance : TI Tryz.prog 51 (.nilFunc) 1 8 := ti_of (by kernel_rfl)
instance : AggT Tryz.prog 53 false := aggT_of (by kernel_rfl)
instance : TI Tryz.prog 53 (.nilFunc) 1 8 := ti_of (by kernel_rfl)
instance : AggT Tryz.prog 54 false := aggT_of (by kernel_rfl)
instance : TI Tryz.prog 54 (.nilFunc) 1 8 := ti_of (by kernel_rfl)
instance : AggT Tryz.prog 55 false := aggT_of (by kernel_rfl)
instance : TI Tryz.prog 55 (.nilFunc) 1 8 := ti_of (by kernel_rfl)
instance : AggT Tryz.prog 56 false := aggT_of (by kernel_rfl)
instance : TI Tryz.prog 56 (.nilFunc) 1 8 := ti_of (by kernel_rfl)
instance : AggT Tryz.prog 57 false := aggT_of (by kernel_rfl)
instance : TI Tryz.prog 57 (.nilFunc) 1 8 := ti_of (by kernel_rfl)
instance : AggT Tryz.prog 58 true := aggT_of (by kernel_rfl)
instance : Fld Tryz.prog 58 0 0 9 := fld_of (by kernel_rfl)
instance : Fld Tryz.prog 58 1 1 3 := fld_of (by kernel_rfl)
instance : PlOf Tryz.prog 58 [(0, 1), (1, 1)] := plof_of (by kernel_rfl)
instance : TI Tryz.prog 58 (.agg #[.string ⟨#[]⟩, .int .i64 0]) 2 24 := ti_of (by kernel_rfl)
instance : AggT Tryz.prog 59 true := aggT_of (by kernel_rfl)
instance : Fld Tryz.prog 59 0 0 9 := fld_of (by kernel_rfl)
instance : Fld Tryz.prog 59 1 1 3 := fld_of (by kernel_rfl)
instance : PlOf Tryz.prog 59 [(0, 1), (1, 1)] := plof_of (by kernel_rfl)
instance : TI Tryz.prog 59 (.agg #[.string ⟨#[]⟩, .int .i64 0]) 2 24 := ti_of (by kernel_rfl)
instance : AggT Tryz.prog 61 false := aggT_of (by kernel_rfl)
instance : TI Tryz.prog 61 (.nilFunc) 1 8 := ti_of (by kernel_rfl)
instance : Und Tryz.prog 62 (.slice 66) := ⟨Tryz.underlying62⟩
instance : TI Tryz.prog 62 (.slice none 0 0) 1 24 := ti_of (by kernel_rfl)
instance : AggT Tryz.prog 64 false := aggT_of (by kernel_rfl)
instance : TI Tryz.prog 64 (.nilFunc) 1 8 := ti_of (by kernel_rfl)
instance : AggT Tryz.prog 65 true := aggT_of (by kernel_rfl)
instance : Fld Tryz.prog 65 0 0 3 := fld_of (by kernel_rfl)
instance : Fld Tryz.prog 65 1 1 3 := fld_of (by kernel_rfl)
instance : Fld Tryz.prog 65 2 2 26 := fld_of (by kernel_rfl)
instance : PlOf Tryz.prog 65 [(0, 1), (1, 1), (2, 5)] := plof_of (by kernel_rfl)
instance : TI Tryz.prog 65 (.agg #[.int .i64 0, .int .i64 0, .int .i64 0, .int .i64 0, .int .i64 0, .string ⟨#[]⟩, .slice none 0 0]) 7 80 := ti_of (by kernel_rfl)
instance : AggT Tryz.prog 66 true := aggT_of (by kernel_rfl)
instance : Fld Tryz.prog 66 0 0 3 := fld_of (by kernel_rfl)
instance : Fld Tryz.prog 66 1 1 3 := fld_of (by kernel_rfl)
instance : Fld Tryz.prog 66 2 2 26 := fld_of (by kernel_rfl)
instance : PlOf Tryz.prog 66 [(0, 1), (1, 1), (2, 5)] := plof_of (by kernel_rfl)
instance : TI Tryz.prog 66 (.agg #[.int .i64 0, .int .i64 0, .int .i64 0, .int .i64 0, .int .i64 0, .string ⟨#[]⟩, .slice none 0 0]) 7 80 := ti_of (by kernel_rfl)
instance : AggT Tryz.prog 67 false := aggT_of (by kernel_rfl)
instance : TI Tryz.prog 67 (.nilFunc) 1 8 := ti_of (by kernel_rfl)
instance : AggT Tryz.prog 69 false := aggT_of (by kernel_rfl)
instance : TI Tryz.prog 69 (.nilFunc) 1 8 := ti_of (by kernel_rfl)
instance : AggT Tryz.prog 71 false := aggT_of (by kernel_rfl)
instance : TI Tryz.prog 71 (.nilFunc) 1 8 := ti_of (by kernel_rfl)
instance : AggT Tryz.prog 72 false := aggT_of (by kernel_rfl)
instance : TI Tryz.prog 72 (.nilFunc) 1 8 := ti_of (by kernel_rfl)
instance : AggT Tryz.prog 74 false := aggT_of (by kernel_rfl)
instance : TI Tryz.prog 74 (.nilFunc) 1 8 := ti_of (by kernel_rfl)
instance : AggT Tryz.prog 76 false := aggT_of (by kernel_rfl)
instance : TI Tryz.prog 76 (.nilFunc) 1 8 := ti_of (by kernel_rfl)
instance : Und Tryz.prog 77 (.slice 5) := ⟨Tryz.underlying77⟩
instance : TI Tryz.prog 77 (.slice none 0 0) 1 24 := ti_of (by kernel_rfl)
instance : AggT Tryz.prog 78 false := aggT_of (by kernel_rfl)
instance : TI Tryz.prog 78 (.nilFunc) 1 8 := ti_of (by kernel_rfl)
instance : AggT Tryz.prog 79 false := aggT_of (by kernel_rfl)
instance : TI Tryz.prog 79 (.nilFunc) 1 8 := ti_of (by kernel_rfl)
instance : AggT Tryz.prog 80 false := aggT_of (by kernel_rfl)
instance : TI Tryz.prog 80 (.nilFunc) 1 8 := ti_of (by kernel_rfl)
instance : AggT Tryz.prog 81 false := aggT_of (by kernel_rfl)
instance : TI Tryz.prog 81 (.nilFunc) 1 8 := ti_of (by kernel_rfl)
instance : AggT Tryz.prog 82 false := aggT_of (by kernel_rfl)
instance : TI Tryz.prog 82 (.nilFunc) 1 8 := ti_of (by kernel_rfl)
instance : Und Tryz.prog 83 (.pointer 3) := ⟨Tryz.underlying83⟩
instance : TI Tryz.prog 83 (.pointer none) 1 8 := ti_of (by kernel_rfl)
instance : AggT Tryz.prog 84 true := aggT_of (by kernel_rfl)
instance : PlOf Tryz.prog 84 [] := plof_of (by kernel_rfl)
instance : TI Tryz.prog 84 (.agg #[]) 0 0 := ti_of (by kernel_rfl)
instance : AggT Tryz.prog 85 true := aggT_of (by kernel_rfl)
instance : PlOf Tryz.prog 85 [] := plof_of (by kernel_rfl)
instance : TI Tryz.prog 85 (.agg #[]) 0 0 := ti_of (by kernel_rfl)
instance : AggT Tryz.prog 87 false := aggT_of (by kernel_rfl)
instance : TI Tryz.prog 87 (.nilFunc) 1 8 := ti_of (by kernel_rfl)
instance : Und Tryz.prog 88 (.pointer 95) := ⟨Tryz.underlying88⟩
instance : TI Tryz.prog 88 (.pointer none) 1 8 := ti_of (by kernel_rfl)
instance : AggT Tryz.prog 89 false := aggT_of (by kernel_rfl)
instance : TI Tryz.prog 89 (.nilFunc) 1 8 := ti_of (by kernel_rfl)
instance : AggT Tryz.prog 90 false := aggT_of (by kernel_rfl)
instance : TI Tryz.prog 90 (.nilFunc) 1 8 := ti_of (by kernel_rfl)
instance : AggT Tryz.prog 91 false := aggT_of (by kernel_rfl)
instance : TI Tryz.prog 91 (.nilFunc) 1 8 := ti_of (by kernel_rfl)
instance : AggT Tryz.prog 92 false := aggT_of (by kernel_rfl)
instance : TI Tryz.prog 92 (.nilFunc) 1 8 := ti_of (by kernel_rfl)
instance : AggT Tryz.prog 93 false := aggT_of (by kernel_rfl)
instance : TI Tryz.prog 93 (.nilFunc) 1 8 := ti_of (by kernel_rfl)
instance : AggT Tryz.prog 94 true := aggT_of (by kernel_rfl)
instance : Fld Tryz.prog 94 0 0 24 := fld_of (by kernel_rfl)
instance : PlOf Tryz.prog 94 [(0, 1)] := plof_of (by kernel_rfl)
instance : TI Tryz.prog 94 (.agg #[.slice none 0 0]) 1 24 := ti_of (by kernel_rfl)
instance : AggT Tryz.prog 95 true := aggT_of (by kernel_rfl)
instance : Fld Tryz.prog 95 0 0 24 := fld_of (by kernel_rfl)
instance : PlOf Tryz.prog 95 [(0, 1)] := plof_of (by kernel_rfl)
instance : TI Tryz.prog 95 (.agg #[.slice none 0 0]) 1 24 := ti_of (by kernel_rfl)
instance : AggT Tryz.prog 96 false := aggT_of (by kernel_rfl)
instance : TI Tryz.prog 96 (.nilFunc) 1 8 := ti_of (by kernel_rfl)
instance : AggT Tryz.prog 98 false := aggT_of (by kernel_rfl)
instance : TI Tryz.prog 98 (.nilFunc) 1 8 := ti_of (by kernel_rfl)
instance : AggT Tryz.prog 100 false := aggT_of (by kernel_rfl)
instance : TI Tryz.prog 100 (.nilFunc) 1 8 := ti_of (by kernel_rfl)
instance : AggT Tryz.prog 101 false := aggT_of (by kernel_rfl)
instance : TI Tryz.prog 101 (.nilFunc) 1 8 := ti_of (by kernel_rfl)
instance : AggT Tryz.prog 102 false := aggT_of (by kernel_rfl)
instance : TI Tryz.prog 102 (.nilFunc) 1 8 := ti_of (by kernel_rfl)
instance : AggT Tryz.prog 103 false := aggT_of (by kernel_rfl)
instance : TI Tryz.prog 103 (.nilFunc) 1 8 := ti_of (by kernel_rfl)
instance : AggT Tryz.prog 104 false := aggT_of (by kernel_rfl)
instance : TI Tryz.prog 104 (.nilFunc) 1 8 := ti_of (by kernel_rfl)
instance : AggT Tryz.prog 105 false := aggT_of (by kernel_rfl)
instance : TI Tryz.prog 105 (.nilFunc) 1 8 := ti_of (by kernel_rfl)
instance : AggT Tryz.prog 106 false := aggT_of (by kernel_rfl)
instance : TI Tryz.prog 106 (.nilFunc) 1 8 := ti_of (by kernel_rfl)
instance : AggT Tryz.prog 107 false := aggT_of (by kernel_rfl)
instance : TI Tryz.prog 107 (.nilFunc) 1 8 := ti_of (by kernel_rfl)
instance : AggT Tryz.prog 108 false := aggT_of (by kernel_rfl)
instance : TI Tryz.prog 108 (.nilFunc) 1 8 := ti_of (by kernel_rfl)
instance : AggT Tryz.prog 109 false := aggT_of (by kernel_rfl)
instance : TI Tryz.prog 109 (.nilFunc) 1 8 := ti_of (by kernel_rfl)
instance : AggT Tryz.prog 110 false := aggT_of (by kernel_rfl)
instance : TI Tryz.prog 110 (.nilFunc) 1 8 := ti_of (by kernel_rfl)
instance : AggT Tryz.prog 111 false := aggT_of (by kernel_rfl)
instance : TI Tryz.prog 111 (.nilFunc) 1 8 := ti_of (by kernel_rfl)
instance : AggT Tryz.prog 112 false := aggT_of (by kernel_rfl)
instance : TI Tryz.prog 112 (.nilFunc) 1 8 := ti_of (by kernel_rfl)
instance : AggT Tryz.prog 113 false := aggT_of (by kernel_rfl)
instance : TI Tryz.prog 113 (.nilFunc) 1 8 := ti_of (by kernel_rfl)
instance : AggT Tryz.prog 114 false := aggT_of (by kernel_rfl)
instance : TI Tryz.prog 114 (.nilFunc) 1 8 := ti_of (by kernel_rfl)
instance : AggT Tryz.prog 115 false := aggT_of (by kernel_rfl)
instance : TI Tryz.prog 115 (.nilFunc) 1 8 := ti_of (by kernel_rfl)
instance : AggT Tryz.prog 116 false := aggT_of (by kernel_rfl)
instance : TI Tryz.prog 116 (.nilFunc) 1 8 := ti_of (by kernel_rfl)
instance : AggT Tryz.prog 117 false := aggT_of (by kernel_rfl)
instance : TI Tryz.prog 117 (.nilFunc) 1 8 := ti_of (by kernel_rfl)
instance : AggT Tryz.prog 118 false := aggT_of (by kernel_rfl)
instance : TI Tryz.prog 118 (.nilFunc) 1 8 := ti_of (by kernel_rfl)
instance : AggT Tryz.prog 119 false := aggT_of (by kernel_rfl)
instance : TI Tryz.prog 119 (.nilIface) 1 16 := ti_of (by kernel_rfl)
instance : AggT Tryz.prog 120 false := aggT_of (by kernel_rfl)
instance : TI Tryz.prog 120 (.nilIface) 1 16 := ti_of (by kernel_rfl)
instance : AggT Tryz.prog 122 false := aggT_of (by kernel_rfl)
instance : TI Tryz.prog 122 (.nilFunc) 1 8 := ti_of (by kernel_rfl)
instance : AggT Tryz.prog 123 false := aggT_of (by kernel_rfl)
instance : TI Tryz.prog 123 (.nilFunc) 1 8 := ti_of (by kernel_rfl)
instance : AggT Tryz.prog 124 false := aggT_of (by kernel_rfl)
instance : TI Tryz.prog 124 (.nilFunc) 1 8 := ti_of (by kernel_rfl)
instance : AggT Tryz.prog 125 false := aggT_of (by kernel_rfl)
instance : TI Tryz.prog 125 (.nilFunc) 1 8 := ti_of (by kernel_rfl)
instance : AggT Tryz.prog 126 false := aggT_of (by kernel_rfl)
instance : TI Tryz.prog 126 (.nilFunc) 1 8 := ti_of (by kernel_rfl)
instance : AggT Tryz.prog 127 false := aggT_of (by kernel_rfl)
instance : TI Tryz.prog 127 (.nilFunc) 1 8 := ti_of (by kernel_rfl)
instance : AggT Tryz.prog 128 false := aggT_of (by kernel_rfl)
instance : TI Tryz.prog 128 (.nilFunc) 1 8 := ti_of (by kernel_rfl)
instance : Und Tryz.prog 129 (.slice 133) := ⟨Tryz.underlying129⟩
instance : TI Tryz.prog 129 (.slice none 0 0) 1 24 := ti_of (by kernel_rfl)
instance : AggT Tryz.prog 130 false := aggT_of (by kernel_rfl)
instance : TI Tryz.prog 130 (.nilFunc) 1 8 := ti_of (by kernel_rfl)
instance : AggT Tryz.prog 131 false := aggT_of (by kernel_rfl)
instance : TI Tryz.prog 131 (.nilFunc) 1 8 := ti_of (by kernel_rfl)
instance : AggT Tryz.prog 132 true := aggT_of (by kernel_rfl)
instance : Fld Tryz.prog 132 0 0 3 := fld_of (by kernel_rfl)
instance : Fld Tryz.prog 132 1 1 26 := fld_of (by kernel_rfl)
instance : PlOf Tryz.prog 132 [(0, 1), (1, 5)] := plof_of (by kernel_rfl)
instance : TI Tryz.prog 132 (.agg #[.int .i64 0, .int .i64 0, .int .i64 0, .int .i64 0, .string ⟨#[]⟩, .slice none 0 0]) 6 72 := ti_of (by kernel_rfl)
instance : AggT Tryz.prog 133 true := aggT_of (by kernel_rfl)
instance : Fld Tryz.prog 133 0 0 3 := fld_of (by kernel_rfl)
instance : Fld Tryz.prog 133 1 1 26 := fld_of (by kernel_rfl)
instance : PlOf Tryz.prog 133 [(0, 1), (1, 5)] := plof_of (by kernel_rfl)
instance : TI Tryz.prog 133 (.agg #[.int .i64 0, .int .i64 0, .int .i64 0, .int .i64 0, .string ⟨#[]⟩, .slice none 0 0]) 6 72 := ti_of (by kernel_rfl)
instance : AggT Tryz.prog 134 false := aggT_of (by kernel_rfl)
instance : TI Tryz.prog 134 (.nilFunc) 1 8 := ti_of (by kernel_rfl)
instance : AggT Tryz.prog 135 false := aggT_of (by kernel_rfl)
instance : TI Tryz.prog 135 (.nilFunc) 1 8 := ti_of (by kernel_rfl)
instance : AggT Tryz.prog 136 false := aggT_of (by kernel_rfl)
instance : TI Tryz.prog 136 (.nilFunc) 1 8 := ti_of (by kernel_rfl)
instance : AggT Tryz.prog 137 false := aggT_of (by kernel_rfl)
instance : TI Tryz.prog 137 (.nilFunc) 1 8 := ti_of (by kernel_rfl)
instance : AggT Tryz.prog 138 false := aggT_of (by kernel_rfl)
instance : TI Tryz.prog 138 (.nilFunc) 1 8 := ti_of (by kernel_rfl)
instance : AggT Tryz.prog 139 false := aggT_of (by kernel_rfl)
instance : TI Tryz.prog 139 (.nilFunc) 1 8 := ti_of (by kernel_rfl)
instance : AggT Tryz.prog 141 false := aggT_of (by kernel_rfl)
instance : TI Tryz.prog 141 (.nilFunc) 1 8 := ti_of (by kernel_rfl)
instance : AggT Tryz.prog 142 false := aggT_of (by kernel_rfl)
instance : TI Tryz.prog 142 (.nilFunc) 1 8 := ti_of (by kernel_rfl)
instance : AggT Tryz.prog 143 false := aggT_of (by kernel_rfl)
instance : TI Tryz.prog 143 (.nilFunc) 1 8 := ti_of (by kernel_rfl)
instance : AggT Tryz.prog 144 false := aggT_of (by kernel_rfl)
instance : TI Tryz.prog 144 (.nilFunc) 1 8 := ti_of (by kernel_rfl)
instance : AggT Tryz.prog 145 false := aggT_of (by kernel_rfl)
instance : TI Tryz.prog 145 (.nilFunc) 1 8 := ti_of (by kernel_rfl)
instance : AggT Tryz.prog 147 false := aggT_of (by kernel_rfl)
instance : TI Tryz.prog 147 (.nilFunc) 1 8 := ti_of (by kernel_rfl)
instance : AggT Tryz.prog 148 false := aggT_of (by kernel_rfl)
instance : TI Tryz.prog 148 (.nilFunc) 1 8 := ti_of (by kernel_rfl)
instance : AggT Tryz.prog 150 false := aggT_of (by kernel_rfl)
instance : TI Tryz.prog 150 (.nilFunc) 1 8 := ti_of (by kernel_rfl)
instance : AggT Tryz.prog 151 false := aggT_of (by kernel_rfl)
instance : TI Tryz.prog 151 (.nilFunc) 1 8 := ti_of (by kernel_rfl)
instance : AggT Tryz.prog 152 false := aggT_of (by kernel_rfl)
instance : TI Tryz.prog 152 (.nilFunc) 1 8 := ti_of (by kernel_rfl)
instance : AggT Tryz.prog 153 false := aggT_of (by kernel_rfl)
instance : TI Tryz.prog 153 (.nilFunc) 1 8 := ti_of (by kernel_rfl)
instance : AggT Tryz.prog 154 false := aggT_of (by kernel_rfl)
instance : TI Tryz.prog 154 (.nilFunc) 1 8 := ti_of (by kernel_rfl)
instance : AggT Tryz.prog 155 false := aggT_of (by kernel_rfl)
instance : TI Tryz.prog 155 (.nilFunc) 1 8 := ti_of (by kernel_rfl)
instance : AggT Tryz.prog 156 false := aggT_of (by kernel_rfl)
instance : TI Tryz.prog 156 (.nilFunc) 1 8 := ti_of (by kernel_rfl)
instance : AggT Tryz.prog 157 false := aggT_of (by kernel_rfl)
instance : TI Tryz.prog 157 (.nilFunc) 1 8 := ti_of (by kernel_rfl)
instance : AggT Tryz.prog 158 false := aggT_of (by kernel_rfl)
instance : TI Tryz.prog 158 (.nilFunc) 1 8 := ti_of (by kernel_rfl)
instance : AggT Tryz.prog 159 false := aggT_of (by kernel_rfl)
instance : TI Tryz.prog 159 (.nilFunc) 1 8 := ti_of (by kernel_rfl)
instance : AggT Tryz.prog 160 false := aggT_of (by kernel_rfl)
instance : TI Tryz.prog 160 (.nilFunc) 1 8 := ti_of (by kernel_rfl)
instance : AggT Tryz.prog 161 false := aggT_of (by kernel_rfl)
instance : TI Tryz.prog 161 (.nilFunc) 1 8 := ti_of (by kernel_rfl)
instance : AggT Tryz.prog 162 false := aggT_of (by kernel_rfl)
instance : TI Tryz.prog 162 (.nilFunc) 1 8 := ti_of (by kernel_rfl)
instance : AggT Tryz.prog 163 false := aggT_of (by kernel_rfl)
instance : TI Tryz.prog 163 (.nilFunc) 1 8 := ti_of (by kernel_rfl)
instance : AggT Tryz.prog 164 false := aggT_of (by kernel_rfl)
instance : TI Tryz.prog 164 (.nilFunc) 1 8 := ti_of (by kernel_rfl)
instance : Und Tryz.prog 165 (.int .u64) := ⟨Tryz.underlying165⟩
instance : TI Tryz.prog 165 (.int .u64 0) 1 8 := ti_of (by kernel_rfl)
instance : AggT Tryz.prog 166 false := aggT_of (by kernel_rfl)
instance : TI Tryz.prog 166 (.nilFunc) 1 8 := ti_of (by kernel_rfl)
instance : AggT Tryz.prog 167 false := aggT_of (by kernel_rfl)
instance : TI Tryz.prog 167 (.nilFunc) 1 8 := ti_of (by kernel_rfl)
instance : AggT Tryz.prog 168 false := aggT_of (by kernel_rfl)
instance : TI Tryz.prog 168 (.nilFunc) 1 8 := ti_of (by kernel_rfl)
instance : AggT Tryz.prog 169 false := aggT_of (by kernel_rfl)
instance : TI Tryz.prog 169 (.nilFunc) 1 8 := ti_of (by kernel_rfl)
instance : AggT Tryz.prog 170 false := aggT_of (by kernel_rfl)
instance : TI Tryz.prog 170 (.nilFunc) 1 8 := ti_of (by kernel_rfl)
instance : Und Tryz.prog 171 (.slice 175) := ⟨Tryz.underlying171⟩
instance : TI Tryz.prog 171 (.slice none 0 0) 1 24 := ti_of (by kernel_rfl)
instance : AggT Tryz.prog 173 false := aggT_of (by kernel_rfl)
instance : TI Tryz.prog 173 (.nilFunc) 1 8 := ti_of (by kernel_rfl)
instance : AggT Tryz.prog 174 true := aggT_of (by kernel_rfl)
instance : Fld Tryz.prog 174 0 0 3 := fld_of (by kernel_rfl)
instance : Fld Tryz.prog 174 1 1 3 := fld_of (by kernel_rfl)
instance : Fld Tryz.prog 174 2 2 26 := fld_of (by kernel_rfl)
instance : PlOf Tryz.prog 174 [(0, 1), (1, 1), (2, 5)] := plof_of (by kernel_rfl)
instance : TI Tryz.prog 174 (.agg #[.int .i64 0, .int .i64 0, .int .i64 0, .int .i64 0, .int .i64 0, .string ⟨#[]⟩, .slice none 0 0]) 7 80 := ti_of (by kernel_rfl)
instance : AggT Tryz.prog 175 true := aggT_of (by kernel_rfl)
instance : Fld Tryz.prog 175 0 0 3 := fld_of (by kernel_rfl)
instance : Fld Tryz.prog 175 1 1 3 := fld_of (by kernel_rfl)
instance : Fld Tryz.prog 175 2 2 26 := fld_of (by kernel_rfl)
instance : PlOf Tryz.prog 175 [(0, 1), (1, 1), (2, 5)] := plof_of (by kernel_rfl)
instance : TI Tryz.prog 175 (.agg #[.int .i64 0, .int .i64 0, .int .i64 0, .int .i64 0, .int .i64 0, .string ⟨#[]⟩, .slice none 0 0]) 7 80 := ti_of (by kernel_rfl)
instance : AggT Tryz.prog 176 false := aggT_of (by kernel_rfl)
instance : TI Tryz.prog 176 (.nilFunc) 1 8 := ti_of (by kernel_rfl)
instance : AggT Tryz.prog 177 false := aggT_of (by kernel_rfl)
instance : TI Tryz.prog 177 (.nilFunc) 1 8 := ti_of (by kernel_rfl)
instance : AggT Tryz.prog 178 false := aggT_of (by kernel_rfl)
instance : TI Tryz.prog 178 (.nilFunc) 1 8 := ti_of (by kernel_rfl)
instance : Und Tryz.prog 179 (.int .i64) := ⟨Tryz.underlying179⟩
instance : TI Tryz.prog 179 (.int .i64 0) 1 8 := ti_of (by kernel_rfl)
instance : AggT Tryz.prog 181 false := aggT_of (by kernel_rfl)
instance : TI Tryz.prog 181 (.nilFunc) 1 8 := ti_of (by kernel_rfl)
instance : Und Tryz.prog 182 (.pointer 213) := ⟨Tryz.underlying182⟩
instance : TI Tryz.prog 182 (.pointer none) 1 8 := ti_of (by kernel_rfl)
instance : AggT Tryz.prog 183 false := aggT_of (by kernel_rfl)
instance : TI Tryz.prog 183 (.nilFunc) 1 8 := ti_of (by kernel_rfl)
instance : AggT Tryz.prog 184 false := aggT_of (by kernel_rfl)
instance : TI Tryz.prog 184 (.nilFunc) 1 8 := ti_of (by kernel_rfl)
instance : AggT Tryz.prog 185 false := aggT_of (by kernel_rfl)
instance : TI Tryz.prog 185 (.nilFunc) 1 8 := ti_of (by kernel_rfl)
instance : AggT Tryz.prog 186 false := aggT_of (by kernel_rfl)
instance : TI Tryz.prog 186 (.nilFunc) 1 8 := ti_of (by kernel_rfl)
instance : AggT Tryz.prog 187 false := aggT_of (by kernel_rfl)
instance : TI Tryz.prog 187 (.nilFunc) 1 8 := ti_of (by kernel_rfl)
instance : Und Tryz.prog 188 (.int .i64) := ⟨Tryz.underlying188⟩
instance : TI Tryz.prog 188 (.int .i64 0) 1 8 := ti_of (by kernel_rfl)
instance : AggT Tryz.prog 190 false := aggT_of (by kernel_rfl)
instance : TI Tryz.prog 190 (.nilFunc) 1 8 := ti_of (by kernel_rfl)
instance : AggT Tryz.prog 191 false := aggT_of (by kernel_rfl)
instance : TI Tryz.prog 191 (.nilFunc) 1 8 := ti_of (by kernel_rfl)
instance : AggT Tryz.prog 192 false := aggT_of (by kernel_rfl)
instance : TI Tryz.prog 192 (.nilFunc) 1 8 := ti_of (by kernel_rfl)
instance : AggT Tryz.prog 193 false := aggT_of (by kernel_rfl)
instance : TI Tryz.prog 193 (.nilFunc) 1 8 := ti_of (by kernel_rfl)
instance : AggT Tryz.prog 194 false := aggT_of (by kernel_rfl)
instance : TI Tryz.prog 194 (.nilFunc) 1 8 := ti_of (by kernel_rfl)
instance : Und Tryz.prog 195 (.int .u32) := ⟨Tryz.underlying195⟩
instance : TI Tryz.prog 195 (.int .u32 0) 1 4 := ti_of (by kernel_rfl)
instance : AggT Tryz.prog 196 false := aggT_of (by kernel_rfl)
instance : TI Tryz.prog 196 (.nilFunc) 1 8 := ti_of (by kernel_rfl)
instance : Und Tryz.prog 197 (.int .u64) := ⟨Tryz.underlying197⟩
instance : TI Tryz.prog 197 (.int .u64 0) 1 8 := ti_of (by kernel_rfl)
instance : AggT Tryz.prog 198 false := aggT_of (by kernel_rfl)
instance : TI Tryz.prog 198 (.nilFunc) 1 8 := ti_of (by kernel_rfl)
instance : AggT Tryz.prog 199 false := aggT_of (by kernel_rfl)
instance : TI Tryz.prog 199 (.nilFunc) 1 8 := ti_of (by kernel_rfl)
instance : AggT Tryz.prog 200 false := aggT_of (by kernel_rfl)
instance : TI Tryz.prog 200 (.nilFunc) 1 8 := ti_of (by kernel_rfl)
instance : Und Tryz.prog 201 (.int .i64) := ⟨Tryz.underlying201⟩
instance : TI Tryz.prog 201 (.int .i64 0) 1 8 := ti_of (by kernel_rfl)
instance : AggT Tryz.prog 202 false := aggT_of (by kernel_rfl)
instance : TI Tryz.prog 202 (.nilFunc) 1 8 := ti_of (by kernel_rfl)
instance : AggT Tryz.prog 203 false := aggT_of (by kernel_rfl)
instance : TI Tryz.prog 203 (.nilFunc) 1 8 := ti_of (by kernel_rfl)
instance : Und Tryz.prog 204 (.array 24 5) := ⟨Tryz.underlying204⟩
instance : TI Tryz.prog 204 (.agg #[.int .u8 0, .int .u8 0, .int .u8 0, .int .u8 0, .int .u8 0, .int .u8 0, .int .u8 0, .int .u8 0, .int .u8 0, .int .u8 0, .int .u8 0, .int .u8 0, .int .u8 0, .int .u8 0, .int .u8 0, .int .u8 0, .int .u8 0, .int .u8 0, .int .u8 0, .int .u8 0, .int .u8 0, .int .u8 0, .int .u8 0, .int .u8 0]) 24 24 := ti_of (by kernel_rfl)
instance : AggT Tryz.prog 205 false := aggT_of (by kernel_rfl)
instance : TI Tryz.prog 205 (.nilFunc) 1 8 := ti_of (by kernel_rfl)
instance : AggT Tryz.prog 207 false := aggT_of (by kernel_rfl)
instance : TI Tryz.prog 207 (.nilFunc) 1 8 := ti_of (by kernel_rfl)
instance : AggT Tryz.prog 208 false := aggT_of (by kernel_rfl)
instance : TI Tryz.prog 208 (.nilFunc) 1 8 := ti_of (by kernel_rfl)
instance : AggT Tryz.prog 210 false := aggT_of (by kernel_rfl)
instance : TI Tryz.prog 210 (.nilFunc) 1 8 := ti_of (by kernel_rfl)
instance : AggT Tryz.prog 211 false := aggT_of (by kernel_rfl)
instance : TI Tryz.prog 211 (.nilFunc) 1 8 := ti_of (by kernel_rfl)
instance : AggT Tryz.prog 212 true := aggT_of (by kernel_rfl)
instance : Fld Tryz.prog 212 0 0 9 := fld_of (by kernel_rfl)
instance : Fld Tryz.prog 212 1 1 9 := fld_of (by kernel_rfl)
instance : Fld Tryz.prog 212 2 2 120 := fld_of (by kernel_rfl)
instance : PlOf Tryz.prog 212 [(0, 1), (1, 1), (2, 1)] := plof_of (by kernel_rfl)
instance : TI Tryz.prog 212 (.agg #[.string ⟨#[]⟩, .string ⟨#[]⟩, .nilIface]) 3 48 := ti_of (by kernel_rfl)
instance : AggT Tryz.prog 213 true := aggT_of (by kernel_rfl)
instance : Fld Tryz.prog 213 0 0 9 := fld_of (by kernel_rfl)
instance : Fld Tryz.prog 213 1 1 9 := fld_of (by kernel_rfl)
instance : Fld Tryz.prog 213 2 2 120 := fld_of (by kernel_rfl)
instance : PlOf Tryz.prog 213 [(0, 1), (1, 1), (2, 1)] := plof_of (by kernel_rfl)
instance : TI Tryz.prog 213 (.agg #[.string ⟨#[]⟩, .string ⟨#[]⟩, .nilIface]) 3 48 := ti_of (by kernel_rfl)
instance : AggT Tryz.prog 214 false := aggT_of (by kernel_rfl)
instance : TI Tryz.prog 214 (.nilFunc) 1 8 := ti_of (by kernel_rfl)
instance : Und Tryz.prog 215 (.int .u64) := ⟨Tryz.underlying215⟩
instance : TI Tryz.prog 215 (.int .u64 0) 1 8 := ti_of (by kernel_rfl)
instance : AggT Tryz.prog 216 false := aggT_of (by kernel_rfl)
instance : TI Tryz.prog 216 (.nilFunc) 1 8 := ti_of (by kernel_rfl)
instance : AggT Tryz.prog 217 false := aggT_of (by kernel_rfl)
instance : TI Tryz.prog 217 (.nilFunc) 1 8 := ti_of (by kernel_rfl)
instance : AggT Tryz.prog 218 false := aggT_of (by kernel_rfl)
instance : TI Tryz.prog 218 (.nilFunc) 1 8 := ti_of (by kernel_rfl)
instance : AggT Tryz.prog 219 false := aggT_of (by kernel_rfl)
instance : TI Tryz.prog 219 (.nilFunc) 1 8 := ti_of (by kernel_rfl)
instance : AggT Tryz.prog 220 false := aggT_of (by kernel_rfl)
instance : TI Tryz.prog 220 (.nilFunc) 1 8 := ti_of (by kernel_rfl)
instance : AggT Tryz.prog 222 false := aggT_of (by kernel_rfl)
instance : TI Tryz.prog 222 (.nilFunc) 1 8 := ti_of (by kernel_rfl)
instance : AggT Tryz.prog 223 false := aggT_of (by kernel_rfl)
instance : TI Tryz.prog 223 (.nilFunc) 1 8 := ti_of (by kernel_rfl)
instance : Und Tryz.prog 224 (.array 20 197) := ⟨Tryz.underlying224⟩
instance : TI Tryz.prog 224 (.agg #[.int .u64 0, .int .u64 0, .int .u64 0, .int .u64 0, .int .u64 0, .int .u64 0, .int .u64 0, .int .u64 0, .int .u64 0, .int .u64 0, .int .u64 0, .int .u64 0, .int .u64 0, .int .u64 0, .int .u64 0, .int .u64 0, .int .u64 0, .int .u64 0, .int .u64 0, .int .u64 0]) 20 160 := ti_of (by kernel_rfl)
instance : Und Tryz.prog 225 (.array 65 5) := ⟨Tryz.underlying225⟩
instance : AggT Tryz.prog 226 false := aggT_of (by kernel_rfl)
instance : TI Tryz.prog 226 (.nilFunc) 1 8 := ti_of (by kernel_rfl)
instance : Und Tryz.prog 227 (.pointer 5) := ⟨Tryz.underlying227⟩
instance : TI Tryz.prog 227 (.pointer none) 1 8 := ti_of (by kernel_rfl)
instance : Und Tryz.prog 228 (.pointer 230) := ⟨Tryz.underlying228⟩
instance : TI Tryz.prog 228 (.pointer none) 1 8 := ti_of (by kernel_rfl)
instance : AggT Tryz.prog 229 true := aggT_of (by kernel_rfl)
instance : Fld Tryz.prog 229 0 0 9 := fld_of (by kernel_rfl)
instance : PlOf Tryz.prog 229 [(0, 1)] := plof_of (by kernel_rfl)
instance : TI Tryz.prog 229 (.agg #[.string ⟨#[]⟩]) 1 16 := ti_of (by kernel_rfl)
instance : AggT Tryz.prog 230 true := aggT_of (by kernel_rfl)
instance : Fld Tryz.prog 230 0 0 9 := fld_of (by kernel_rfl)
instance : PlOf Tryz.prog 230 [(0, 1)] := plof_of (by kernel_rfl)
instance : TI Tryz.prog 230 (.agg #[.string ⟨#[]⟩]) 1 16 := ti_of (by kernel_rfl)
instance : Und Tryz.prog 231 (.pointer 215) := ⟨Tryz.underlying231⟩
instance : TI Tryz.prog 231 (.pointer none) 1 8 := ti_of (by kernel_rfl)
instance : AggT Tryz.prog 233 false := aggT_of (by kernel_rfl)
instance : TI Tryz.prog 233 (.nilFunc) 1 8 := ti_of (by kernel_rfl)
instance : Und Tryz.prog 234 (.array 32 5) := ⟨Tryz.underlying234⟩
instance : TI Tryz.prog 234 (.agg #[.int .u8 0, .int .u8 0, .int .u8 0, .int .u8 0, .int .u8 0, .int .u8 0, .int .u8 0, .int .u8 0, .int .u8 0, .int .u8 0, .int .u8 0, .int .u8 0, .int .u8 0, .int .u8 0, .int .u8 0, .int .u8 0, .int .u8 0, .int .u8 0, .int .u8 0, .int .u8 0, .int .u8 0, .int .u8 0, .int .u8 0, .int .u8 0, .int .u8 0, .int .u8 0, .int .u8 0, .int .u8 0, .int .u8 0, .int .u8 0, .int .u8 0, .int .u8 0]) 32 32 := ti_of (by kernel_rfl)
instance : Und Tryz.prog 235 (.array 64 5) := ⟨Tryz.underlying235⟩
instance : TI Tryz.prog 235 (.agg #[.int .u8 0, .int .u8 0, .int .u8 0, .int .u8 0, .int .u8 0, .int .u8 0, .int .u8 0, .int .u8 0, .int .u8 0, .int .u8 0, .int .u8 0, .int .u8 0, .int .u8 0, .int .u8 0, .int .u8 0, .int .u8 0, .int .u8 0, .int .u8 0, .int .u8 0, .int .u8 0, .int .u8 0, .int .u8 0, .int .u8 0, .int .u8 0, .int .u8 0, .int .u8 0, .int .u8 0, .int .u8 0, .int .u8 0, .int .u8 0, .int .u8 0, .int .u8 0, .int .u8 0, .int .u8 0, .int .u8 0, .int .u8 0, .int .u8 0, .int .u8 0, .int .u8 0, .int .u8 0, .int .u8 0, .int .u8 0, .int .u8 0, .int .u8 0, .int .u8 0, .int .u8 0, .int .u8 0, .int .u8 0, .int .u8 0, .int .u8 0, .int .u8 0, .int .u8 0, .int .u8 0, .int .u8 0, .int .u8 0, .int .u8 0, .int .u8 0, .int .u8 0, .int .u8 0, .int .u8 0, .int .u8 0, .int .u8 0, .int .u8 0, .int .u8 0]) 64 64 := ti_of (by kernel_rfl)
instance : AggT Tryz.prog 236 false := aggT_of (by kernel_rfl)
instance : TI Tryz.prog 236 (.nilFunc) 1 8 := ti_of (by kernel_rfl)
instance : FnRes Tryz.f3 [ResultVar.tmp 2] := ⟨rfl⟩
instance : FnRes Tryz.f4 [ResultVar.tmp 2] := ⟨rfl⟩
instance : FnRes Tryz.f5 [ResultVar.tmp 6] := ⟨rfl⟩
instance : FnRes Tryz.f6 [ResultVar.tmp 6] := ⟨rfl⟩
instance : FnRes Tryz.f7 [ResultVar.tmp 0] := ⟨rfl⟩
instance : FnRes Tryz.f8 [ResultVar.cell 2 28] := ⟨rfl⟩
instance : FnRes Tryz.f9 [ResultVar.tmp 6, ResultVar.tmp 7, ResultVar.tmp 8] := ⟨rfl⟩
instance : FnRes Tryz.f10 [ResultVar.tmp 6, ResultVar.tmp 7, ResultVar.tmp 8] := ⟨rfl⟩
instance : FnRes Tryz.f11 [ResultVar.tmp 4] := ⟨rfl⟩
instance : FnRes Tryz.f12 [ResultVar.tmp 4] := ⟨rfl⟩
instance : FnRes Tryz.f13 [ResultVar.tmp 0] := ⟨rfl⟩
instance : FnRes Tryz.f14 [ResultVar.tmp 2] := ⟨rfl⟩
instance : FnRes Tryz.f15 [ResultVar.cell 2 45, ResultVar.cell 3 3, ResultVar.cell 4 31] := ⟨rfl⟩
instance : FnRes Tryz.f16 [ResultVar.cell 2 45, ResultVar.tmp 3] := ⟨rfl⟩
instance : FnRes Tryz.f17 [ResultVar.tmp 4] := ⟨rfl⟩
instance : FnRes Tryz.f18 [ResultVar.tmp 2] := ⟨rfl⟩
instance : FnRes Tryz.f19 [ResultVar.cell 4 26, ResultVar.tmp 5] := ⟨rfl⟩
instance : FnRes Tryz.f20 [ResultVar.tmp 2] := ⟨rfl⟩
instance : FnRes Tryz.f21 [ResultVar.tmp 4] := ⟨rfl⟩
instance : FnRes Tryz.f22 [ResultVar.cell 6 26] := ⟨rfl⟩
instance : FnRes Tryz.f23 [ResultVar.tmp 4] := ⟨rfl⟩
instance : FnRes Tryz.f24 [ResultVar.cell 8 26, ResultVar.cell 9 26, ResultVar.tmp 10] := ⟨rfl⟩
instance : FnRes Tryz.f25 [ResultVar.tmp 8, ResultVar.tmp 9, ResultVar.tmp 10] := ⟨rfl⟩
instance : FnRes Tryz.f26 [ResultVar.tmp 4] := ⟨rfl⟩
instance : FnRes Tryz.f27 [ResultVar.cell 4 26] := ⟨rfl⟩
instance : FnRes Tryz.f28 [ResultVar.tmp 4, ResultVar.cell 5 26, ResultVar.tmp 6] := ⟨rfl⟩
instance : FnRes Tryz.f29 [ResultVar.tmp 2, ResultVar.tmp 3] := ⟨rfl⟩
instance : FnRes Tryz.f30 [ResultVar.cell 2 26, ResultVar.tmp 3] := ⟨rfl⟩
instance : FnRes Tryz.f31 [ResultVar.tmp 2] := ⟨rfl⟩
instance : FnRes Tryz.f32 [ResultVar.tmp 2, ResultVar.tmp 3] := ⟨rfl⟩
instance : FnRes Tryz.f33 [ResultVar.tmp 2, ResultVar.tmp 3] := ⟨rfl⟩
instance : FnRes Tryz.f34 [ResultVar.tmp 2] := ⟨rfl⟩
instance : FnRes Tryz.f35 [ResultVar.cell 8 26] := ⟨rfl⟩
instance : FnRes Tryz.f36 [ResultVar.cell 6 26, ResultVar.tmp 7] := ⟨rfl⟩
instance : FnRes Tryz.f37 [ResultVar.cell 4 26] := ⟨rfl⟩
instance : FnRes Tryz.f38 [ResultVar.tmp 6] := ⟨rfl⟩
instance : FnRes Tryz.f39 [] := ⟨rfl⟩
instance : FnRes Tryz.f40 [] := ⟨rfl⟩
instance : FnRes Tryz.f41 [ResultVar.tmp 2] := ⟨rfl⟩
instance : FnRes Tryz.f42 [ResultVar.cell 2 26] := ⟨rfl⟩
instance : FnRes Tryz.f43 [ResultVar.cell 2 26] := ⟨rfl⟩
instance : FnRes Tryz.f44 [ResultVar.tmp 2] := ⟨rfl⟩
instance : FnRes Tryz.f45 [ResultVar.tmp 2] := ⟨rfl⟩
instance : FnRes Tryz.f46 [ResultVar.tmp 2] := ⟨rfl⟩
instance : FnRes Tryz.f47 [ResultVar.tmp 4, ResultVar.tmp 5] := ⟨rfl⟩
instance : FnRes Tryz.f48 [ResultVar.tmp 2, ResultVar.tmp 3] := ⟨rfl⟩
instance : FnRes Tryz.f49 [ResultVar.tmp 2] := ⟨rfl⟩
instance : FnRes Tryz.f50 [ResultVar.cell 4 26] := ⟨rfl⟩
instance : FnRes Tryz.f51 [ResultVar.tmp 4] := ⟨rfl⟩
instance : FnRes Tryz.f52 [ResultVar.cell 2 26] := ⟨rfl⟩
instance : FnRes Tryz.f53 [ResultVar.cell 2 26] := ⟨rfl⟩
instance : FnRes Tryz.f54 [ResultVar.cell 2 26] := ⟨rfl⟩
instance : FnRes Tryz.f55 [ResultVar.tmp 2] := ⟨rfl⟩
instance : FnRes Tryz.f56 [ResultVar.tmp 4] := ⟨rfl⟩
instance : FnRes Tryz.f57 [ResultVar.tmp 6] := ⟨rfl⟩
instance : FnRes Tryz.f58 [ResultVar.tmp 4] := ⟨rfl⟩
instance : FnRes Tryz.f59 [ResultVar.cell 4 26] := ⟨rfl⟩
instance : FnRes Tryz.f60 [ResultVar.tmp 6] := ⟨rfl⟩
instance : FnRes Tryz.f61 [ResultVar.tmp 2] := ⟨rfl⟩
instance : FnRes Tryz.f62 [ResultVar.tmp 2] := ⟨rfl⟩
instance : FnRes Tryz.f63 [ResultVar.cell 2 26, ResultVar.tmp 3] := ⟨rfl⟩
instance : FnRes Tryz.f64 [ResultVar.tmp 2] := ⟨rfl⟩
instance : FnRes Tryz.f65 [ResultVar.tmp 2] := ⟨rfl⟩
instance : FnRes Tryz.f66 [ResultVar.tmp 4, ResultVar.tmp 5] := ⟨rfl⟩
instance : FnRes Tryz.f67 [ResultVar.tmp 2] := ⟨rfl⟩
instance : FnRes Tryz.f68 [ResultVar.cell 2 26] := ⟨rfl⟩
instance : FnRes Tryz.f69 [ResultVar.tmp 6] := ⟨rfl⟩
instance : FnRes Tryz.f70 [ResultVar.tmp 3] := ⟨rfl⟩
instance : FnRes Tryz.f71 [ResultVar.tmp 4] := ⟨rfl⟩
instance : FnRes Tryz.f72 [ResultVar.tmp 3] := ⟨rfl⟩
instance : FnRes Tryz.f73 [ResultVar.tmp 2, ResultVar.tmp 3] := ⟨rfl⟩
instance : FnRes Tryz.f74 [ResultVar.tmp 3] := ⟨rfl⟩
instance : FnRes Tryz.f75 [ResultVar.tmp 2, ResultVar.tmp 3] := ⟨rfl⟩
instance : FnRes Tryz.f76 [ResultVar.tmp 2] := ⟨rfl⟩
instance : FnRes Tryz.f77 [ResultVar.cell 2 26] := ⟨rfl⟩
instance : FnRes Tryz.f78 [ResultVar.tmp 6, ResultVar.tmp 7] := ⟨rfl⟩
instance : FnRes Tryz.f79 [ResultVar.tmp 2, ResultVar.tmp 3] := ⟨rfl⟩
instance : FnRes Tryz.f80 [ResultVar.tmp 2] := ⟨rfl⟩
instance : FnRes Tryz.f81 [ResultVar.cell 2 26] := ⟨rfl⟩
instance : FnRes Tryz.f82 [ResultVar.cell 2 26] := ⟨rfl⟩
instance : FnRes Tryz.f83 [ResultVar.cell 2 26] := ⟨rfl⟩
instance : FnRes Tryz.f84 [ResultVar.cell 2 26] := ⟨rfl⟩
instance : FnRes Tryz.f85 [ResultVar.tmp 2] := ⟨rfl⟩
instance : FnRes Tryz.f86 [ResultVar.tmp 4] := ⟨rfl⟩
instance : FnRes Tryz.f87 [ResultVar.tmp 2] := ⟨rfl⟩
instance : FnRes Tryz.f88 [] := ⟨rfl⟩
instance : FnRes Tryz.f89 [ResultVar.cell 4 26] := ⟨rfl⟩
instance : FnRes Tryz.f90 [] := ⟨rfl⟩
instance : FnRes Tryz.f91 [ResultVar.tmp 4] := ⟨rfl⟩
instance : FnRes Tryz.f92 [ResultVar.cell 4 26] := ⟨rfl⟩
instance : FnRes Tryz.f93 [ResultVar.cell 4 133, ResultVar.tmp 5] := ⟨rfl⟩
instance : FnRes Tryz.f94 [ResultVar.tmp 3] := ⟨rfl⟩
instance : FnRes Tryz.f95 [ResultVar.cell 4 26] := ⟨rfl⟩
instance : FnRes Tryz.f96 [ResultVar.tmp 4, ResultVar.tmp 5] := ⟨rfl⟩
instance : FnRes Tryz.f97 [ResultVar.tmp 2] := ⟨rfl⟩
instance : FnRes Tryz.f98 [ResultVar.tmp 4] := ⟨rfl⟩
instance : FnRes Tryz.f99 [ResultVar.tmp 3] := ⟨rfl⟩
instance : FnRes Tryz.f100 [ResultVar.tmp 4] := ⟨rfl⟩
instance : FnRes Tryz.f101 [ResultVar.tmp 2, ResultVar.tmp 3, ResultVar.tmp 4] := ⟨rfl⟩
instance : FnRes Tryz.f102 [ResultVar.tmp 2] := ⟨rfl⟩
instance : FnRes Tryz.f103 [ResultVar.tmp 2] := ⟨rfl⟩
instance : FnRes Tryz.f104 [ResultVar.tmp 2] := ⟨rfl⟩
instance : FnRes Tryz.f105 [ResultVar.tmp 2, ResultVar.tmp 3, ResultVar.tmp 4] := ⟨rfl⟩
instance : FnRes Tryz.f106 [ResultVar.tmp 4] := ⟨rfl⟩
instance : FnRes Tryz.f107 [ResultVar.cell 2 26] := ⟨rfl⟩
instance : FnRes Tryz.f108 [ResultVar.cell 2 26] := ⟨rfl⟩
instance : FnRes Tryz.f109 [ResultVar.tmp 2] := ⟨rfl⟩
instance : FnRes Tryz.f110 [ResultVar.tmp 6] := ⟨rfl⟩
instance : FnRes Tryz.f111 [ResultVar.tmp 4] := ⟨rfl⟩
instance : FnRes Tryz.f112 [ResultVar.cell 2 26] := ⟨rfl⟩
instance : FnRes Tryz.f113 [ResultVar.tmp 2] := ⟨rfl⟩
instance : FnRes Tryz.f114 [ResultVar.tmp 6, ResultVar.tmp 7] := ⟨rfl⟩
instance : FnRes Tryz.f115 [ResultVar.tmp 4] := ⟨rfl⟩
instance : FnRes Tryz.f116 [ResultVar.tmp 4] := ⟨rfl⟩
instance : FnRes Tryz.f117 [ResultVar.tmp 2] := ⟨rfl⟩
instance : FnRes Tryz.f118 [] := ⟨rfl⟩
instance : FnRes Tryz.f119 [] := ⟨rfl⟩
instance : FnRes Tryz.f120 [ResultVar.tmp 4] := ⟨rfl⟩
instance : FnRes Tryz.f121 [ResultVar.tmp 2, ResultVar.tmp 3] := ⟨rfl⟩
instance : FnRes Tryz.f122 [ResultVar.tmp 10] := ⟨rfl⟩
instance : FnRes Tryz.f123 [ResultVar.tmp 2] := ⟨rfl⟩
instance : FnRes Tryz.f124 [ResultVar.cell 2 26] := ⟨rfl⟩
instance : FnRes Tryz.f125 [ResultVar.tmp 2] := ⟨rfl⟩
instance : FnRes Tryz.f126 [ResultVar.cell 4 26] := ⟨rfl⟩
instance : FnRes Tryz.f127 [ResultVar.tmp 2] := ⟨rfl⟩
instance : FnRes Tryz.f128 [ResultVar.tmp 2] := ⟨rfl⟩
instance : FnRes Tryz.f129 [ResultVar.cell 4 26] := ⟨rfl⟩
instance : FnRes Tryz.f130 [ResultVar.cell 2 26] := ⟨rfl⟩
instance : FnRes Tryz.f131 [ResultVar.cell 4 26] := ⟨rfl⟩
instance : FnRes Tryz.f132 [ResultVar.tmp 3] := ⟨rfl⟩
instance : FnRes Tryz.f133 [ResultVar.tmp 2] := ⟨rfl⟩
instance : FnRes Tryz.f134 [ResultVar.tmp 4] := ⟨rfl⟩
instance : FnRes Tryz.f135 [ResultVar.tmp 2] := ⟨rfl⟩
instance : FnRes Tryz.f136 [ResultVar.tmp 4] := ⟨rfl⟩
instance : FnRes Tryz.f137 [ResultVar.tmp 3] := ⟨rfl⟩
instance : FnRes Tryz.f138 [ResultVar.tmp 4] := ⟨rfl⟩
instance : FnRes Tryz.f139 [ResultVar.tmp 4] := ⟨rfl⟩
instance : FnRes Tryz.f140 [] := ⟨rfl⟩
instance : FnRes Tryz.f141 [ResultVar.tmp 2] := ⟨rfl⟩
instance : FnRes Tryz.f142 [ResultVar.tmp 4] := ⟨rfl⟩
instance : FnRes Tryz.f143 [ResultVar.cell 2 171, ResultVar.cell 3 4] := ⟨rfl⟩
instance : FnRes Tryz.f144 [ResultVar.tmp 6] := ⟨rfl⟩
instance : FnRes Tryz.f145 [ResultVar.tmp 2] := ⟨rfl⟩
instance : FnRes Tryz.f146 [] := ⟨rfl⟩
instance : FnRes Tryz.f147 [ResultVar.tmp 2] := ⟨rfl⟩
instance : FnRes Tryz.f148 [ResultVar.tmp 4] := ⟨rfl⟩
instance : FnRes Tryz.f149 [ResultVar.tmp 2] := ⟨rfl⟩
instance : FnRes Tryz.f150 [] := ⟨rfl⟩
instance : FnRes Tryz.f151 [ResultVar.tmp 6, ResultVar.tmp 7] := ⟨rfl⟩
instance : FnRes Tryz.f152 [ResultVar.tmp 4] := ⟨rfl⟩
instance : FnRes Tryz.f153 [ResultVar.tmp 4] := ⟨rfl⟩
instance : FnRes Tryz.f154 [ResultVar.tmp 6] := ⟨rfl⟩
instance : FnRes Tryz.f155 [ResultVar.tmp 6] := ⟨rfl⟩
instance : FnRes Tryz.f156 [ResultVar.cell 2 26] := ⟨rfl⟩
instance : FnRes Tryz.f157 [ResultVar.tmp 2] := ⟨rfl⟩
instance : FnRes Tryz.f158 [ResultVar.tmp 2] := ⟨rfl⟩
instance : FnRes Tryz.f159 [ResultVar.tmp 2] := ⟨rfl⟩
instance : FnRes Tryz.f160 [ResultVar.cell 2 26] := ⟨rfl⟩
instance : FnRes Tryz.f161 [ResultVar.cell 2 26] := ⟨rfl⟩
instance : FnRes Tryz.f162 [ResultVar.tmp 4] := ⟨rfl⟩
instance : FnRes Tryz.f163 [ResultVar.tmp 4] := ⟨rfl⟩
instance : FnRes Tryz.f164 [] := ⟨rfl⟩
instance : FnRes Tryz.f165 [] := ⟨rfl⟩
instance : FnRes Tryz.f166 [] := ⟨rfl⟩
instance : FnRes Tryz.f167 [ResultVar.tmp 6, ResultVar.tmp 7] := ⟨rfl⟩
instance : FnRes Tryz.f168 [] := ⟨rfl⟩
instance : FnRes Tryz.f169 [ResultVar.tmp 6] := ⟨rfl⟩
instance : FnRes Tryz.f170 [ResultVar.tmp 4] := ⟨rfl⟩
instance : FnRes Tryz.f171 [ResultVar.tmp 8] := ⟨rfl⟩
instance : FnRes Tryz.f172 [ResultVar.tmp 8, ResultVar.tmp 9] := ⟨rfl⟩
instance : FnRes Tryz.f173 [ResultVar.tmp 2] := ⟨rfl⟩
instance : FnRes Tryz.f174 [ResultVar.tmp 2] := ⟨rfl⟩
instance : FnRes Tryz.f175 [ResultVar.tmp 2] := ⟨rfl⟩
instance : FnRes Tryz.f176 [ResultVar.tmp 2] := ⟨rfl⟩
instance : FnRes Tryz.f177 [ResultVar.tmp 2] := ⟨rfl⟩
instance : FnRes Tryz.f178 [ResultVar.tmp 2] := ⟨rfl⟩
instance : FnRes Tryz.f179 [ResultVar.tmp 4] := ⟨rfl⟩
instance : FnRes Tryz.f180 [ResultVar.tmp 2] := ⟨rfl⟩
instance : FnRes Tryz.f181 [ResultVar.tmp 2] := ⟨rfl⟩
instance : FnRes Tryz.f182 [ResultVar.tmp 2] := ⟨rfl⟩
instance : FnRes Tryz.f183 [] := ⟨rfl⟩
instance : FnRes Tryz.f184 [ResultVar.tmp 10, ResultVar.tmp 11] := ⟨rfl⟩
instance : FnRes Tryz.f185 [] := ⟨rfl⟩
instance : FnRes Tryz.f186 [ResultVar.tmp 6, ResultVar.tmp 7] := ⟨rfl⟩
instance : FnRes Tryz.f187 [ResultVar.tmp 2] := ⟨rfl⟩
instance : FnRes Tryz.f188 [ResultVar.tmp 2] := ⟨rfl⟩
instance : FnRes Tryz.f189 [] := ⟨rfl⟩
instance : FnRes Tryz.f190 [ResultVar.tmp 2] := ⟨rfl⟩
instance : FnRes Tryz.f191 [ResultVar.tmp 2] := ⟨rfl⟩
instance : FnRes Tryz.f192 [ResultVar.tmp 6] := ⟨rfl⟩
instance : FnRes Tryz.f193 [ResultVar.tmp 10] := ⟨rfl⟩
instance : FnRes Tryz.f194 [] := ⟨rfl⟩
instance : FnRes Tryz.f195 [ResultVar.cell 2 175, ResultVar.tmp 3] := ⟨rfl⟩
instance : FnRes Tryz.f196 [ResultVar.tmp 2] := ⟨rfl⟩
instance : FnRes Tryz.f197 [ResultVar.tmp 2] := ⟨rfl⟩
instance : FnRes Tryz.f198 [ResultVar.tmp 2] := ⟨rfl⟩
instance : FnRes Tryz.f199 [ResultVar.tmp 2] := ⟨rfl⟩
instance : FnRes Tryz.f200 [ResultVar.tmp 2] := ⟨rfl⟩
instance : FnRes Tryz.f201 [ResultVar.tmp 2] := ⟨rfl⟩
instance : FnRes Tryz.f202 [ResultVar.tmp 8, ResultVar.tmp 9] := ⟨rfl⟩
instance : FnRes Tryz.f203 [ResultVar.tmp 2] := ⟨rfl⟩
instance : FnRes Tryz.f204 [ResultVar.tmp 2] := ⟨rfl⟩
instance : FnRes Tryz.f221 [] := ⟨rfl⟩
instance : FnRes Tryz.f222 [] := ⟨rfl⟩
instance : FnRes Tryz.f225 [] := ⟨rfl⟩
instance : FnRes Tryz.f226 [] := ⟨rfl⟩
instance : FnRes Tryz.f227 [] := ⟨rfl⟩
instance : FnRes Tryz.f228 [] := ⟨rfl⟩
instance : FnRes Tryz.f229 [] := ⟨rfl⟩
instance : EntF Tryz.prog 3 := ⟨enters_of Tryz.func3 (by kernel_rfl) rfl⟩ -- safehouse/safehouselaw16.FreshReads
instance : EntF Tryz.prog 4 := ⟨enters_of Tryz.func4 (by kernel_rfl) rfl⟩ -- safehouse/safehouselaw15.MetaReads
instance : EntF Tryz.prog 5 := ⟨enters_of Tryz.func5 (by kernel_rfl) rfl⟩ -- safehouse/safehouselaw15.MetaBack
instance : EntF Tryz.prog 6 := ⟨enters_of Tryz.func6 (by kernel_rfl) rfl⟩ -- safehouse/safehouselaw15.MetaApart
instance : EntF Tryz.prog 7 := ⟨enters_of Tryz.func7 (by kernel_rfl) rfl⟩ -- safehouse/safehouselaw16.wakes
instance : EntF Tryz.prog 8 := ⟨enters_of Tryz.func8 (by kernel_rfl) rfl⟩ -- safehouse/safehouselaw16.row
instance : EntF Tryz.prog 9 := ⟨enters_of Tryz.func9 (by kernel_rfl) rfl⟩ -- safehouse/fresh.Read
instance : EntF Tryz.prog 10 := ⟨enters_of Tryz.func10 (by kernel_rfl) rfl⟩ -- safehouse/safehouseref16.Read
instance : EntF Tryz.prog 11 := ⟨enters_of Tryz.func11 (by kernel_rfl) rfl⟩ -- safehouse/safehouseref05.Same
instance : EntF Tryz.prog 12 := ⟨enters_of Tryz.func12 (by kernel_rfl) rfl⟩ -- safehouse/safehouseref14.Same
instance : EntF Tryz.prog 13 := ⟨enters_of Tryz.func13 (by kernel_rfl) rfl⟩ -- safehouse/safehouselaw15.wakes
instance : EntF Tryz.prog 14 := ⟨enters_of Tryz.func14 (by kernel_rfl) rfl⟩ -- safehouse/safehouselaw15.over
instance : EntF Tryz.prog 15 := ⟨enters_of Tryz.func15 (by kernel_rfl) rfl⟩ -- safehouse/meta.Read
instance : EntF Tryz.prog 16 := ⟨enters_of Tryz.func16 (by kernel_rfl) rfl⟩ -- safehouse/safehouseref15.Read
instance : EntF Tryz.prog 17 := ⟨enters_of Tryz.func17 (by kernel_rfl) rfl⟩ -- safehouse/safehouseref15.Same
instance : EntF Tryz.prog 18 := ⟨enters_of Tryz.func18 (by kernel_rfl) rfl⟩ -- safehouse/safehouselaw15.overMeta
instance : EntF Tryz.prog 19 := ⟨enters_of Tryz.func19 (by kernel_rfl) rfl⟩ -- safehouse/meta.Make
instance : EntF Tryz.prog 20 := ⟨enters_of Tryz.func20 (by kernel_rfl) rfl⟩ -- safehouse/term.Check
instance : EntF Tryz.prog 21 := ⟨enters_of Tryz.func21 (by kernel_rfl) rfl⟩ -- safehouse/meta.Same
instance : EntF Tryz.prog 22 := ⟨enters_of Tryz.func22 (by kernel_rfl) rfl⟩ -- safehouse/term.Sign
instance : EntF Tryz.prog 23 := ⟨enters_of Tryz.func23 (by kernel_rfl) rfl⟩ -- safehouse/term.Same
instance : EntF Tryz.prog 24 := ⟨enters_of Tryz.func24 (by kernel_rfl) rfl⟩ -- safehouse/fresh.Publish
instance : EntF Tryz.prog 25 := ⟨enters_of Tryz.func25 (by kernel_rfl) rfl⟩ -- safehouse/fresh.Accept
instance : EntF Tryz.prog 26 := ⟨enters_of Tryz.func26 (by kernel_rfl) rfl⟩ -- safehouse/fresh.Covers
instance : EntF Tryz.prog 27 := ⟨enters_of Tryz.func27 (by kernel_rfl) rfl⟩ -- safehouse/safehouselaw16.small
instance : EntF Tryz.prog 28 := ⟨enters_of Tryz.func28 (by kernel_rfl) rfl⟩ -- safehouse/fresh.rooted
instance : EntF Tryz.prog 29 := ⟨enters_of Tryz.func29 (by kernel_rfl) rfl⟩ -- safehouse/tree.Read
instance : EntF Tryz.prog 30 := ⟨enters_of Tryz.func30 (by kernel_rfl) rfl⟩ -- safehouse/tree.Root
instance : EntF Tryz.prog 31 := ⟨enters_of Tryz.func31 (by kernel_rfl) rfl⟩ -- safehouse/safehouseref05.Right
instance : EntF Tryz.prog 32 := ⟨enters_of Tryz.func32 (by kernel_rfl) rfl⟩ -- safehouse/safehouseref14.Read
instance : EntF Tryz.prog 33 := ⟨enters_of Tryz.func33 (by kernel_rfl) rfl⟩ -- safehouse/safehouseref05.Unlist
instance : EntF Tryz.prog 34 := ⟨enters_of Tryz.func34 (by kernel_rfl) rfl⟩ -- safehouse/safehouseref16.counter
instance : EntF Tryz.prog 35 := ⟨enters_of Tryz.func35 (by kernel_rfl) rfl⟩ -- safehouse/safehouseref16.Signed
instance : EntF Tryz.prog 36 := ⟨enters_of Tryz.func36 (by kernel_rfl) rfl⟩ -- safehouse/cap.Make
instance : EntF Tryz.prog 37 := ⟨enters_of Tryz.func37 (by kernel_rfl) rfl⟩ -- safehouse/term.Fresh
instance : EntF Tryz.prog 38 := ⟨enters_of Tryz.func38 (by kernel_rfl) rfl⟩ -- safehouse/safehouselaw15.large
instance : EntF Tryz.prog 39 := ⟨enters_of Tryz.func39 (by kernel_rfl) rfl⟩ -- safehouse/meta.Read$1
instance : EntF Tryz.prog 40 := ⟨enters_of Tryz.func40 (by kernel_rfl) rfl⟩ -- safehouse/meta.need
instance : EntF Tryz.prog 41 := ⟨enters_of Tryz.func41 (by kernel_rfl) rfl⟩ -- safehouse/meta.list
instance : EntF Tryz.prog 42 := ⟨enters_of Tryz.func42 (by kernel_rfl) rfl⟩ -- (*safehouse/meta.reader).next
instance : EntF Tryz.prog 43 := ⟨enters_of Tryz.func43 (by kernel_rfl) rfl⟩ -- safehouse/term.Text
instance : EntF Tryz.prog 44 := ⟨enters_of Tryz.func44 (by kernel_rfl) rfl⟩ -- (*safehouse/meta.reader).number
instance : EntF Tryz.prog 45 := ⟨enters_of Tryz.func45 (by kernel_rfl) rfl⟩ -- (*safehouse/meta.reader).numbers
instance : EntF Tryz.prog 46 := ⟨enters_of Tryz.func46 (by kernel_rfl) rfl⟩ -- safehouse/meta.Check
instance : EntF Tryz.prog 47 := ⟨enters_of Tryz.func47 (by kernel_rfl) rfl⟩ -- safehouse/safehouseref15.Number
instance : EntF Tryz.prog 48 := ⟨enters_of Tryz.func48 (by kernel_rfl) rfl⟩ -- safehouse/safehouseref15.ints
instance : EntF Tryz.prog 49 := ⟨enters_of Tryz.func49 (by kernel_rfl) rfl⟩ -- safehouse/safehouseref15.Right
instance : EntF Tryz.prog 50 := ⟨enters_of Tryz.func50 (by kernel_rfl) rfl⟩ -- safehouse/safehouseref15.Term
instance : EntF Tryz.prog 51 := ⟨enters_of Tryz.func51 (by kernel_rfl) rfl⟩ -- safehouse/safehouseref11.Same
instance : EntF Tryz.prog 52 := ⟨enters_of Tryz.func52 (by kernel_rfl) rfl⟩ -- safehouse/meta.numbers
instance : EntF Tryz.prog 53 := ⟨enters_of Tryz.func53 (by kernel_rfl) rfl⟩ -- safehouse/term.List
instance : EntF Tryz.prog 54 := ⟨enters_of Tryz.func54 (by kernel_rfl) rfl⟩ -- safehouse/meta.Digits
instance : EntF Tryz.prog 55 := ⟨enters_of Tryz.func55 (by kernel_rfl) rfl⟩ -- safehouse/term.size
instance : EntF Tryz.prog 56 := ⟨enters_of Tryz.func56 (by kernel_rfl) rfl⟩ -- safehouse/perm.Same
instance : EntF Tryz.prog 57 := ⟨enters_of Tryz.func57 (by kernel_rfl) rfl⟩ -- slices.EqualFunc[[][]int,[][]int,[]int,[]int]
instance : EntF Tryz.prog 58 := ⟨enters_of Tryz.func58 (by kernel_rfl) rfl⟩ -- safehouse/meta.equal[int]
instance : EntF Tryz.prog 59 := ⟨enters_of Tryz.func59 (by kernel_rfl) rfl⟩ -- safehouse/term.of
instance : EntF Tryz.prog 60 := ⟨enters_of Tryz.func60 (by kernel_rfl) rfl⟩ -- slices.EqualFunc[[]safehouse/api.Term,[]safehouse/api.Term,safehouse/api.Term,safehouse/api.Term]
instance : EntF Tryz.prog 61 := ⟨enters_of Tryz.func61 (by kernel_rfl) rfl⟩ -- safehouse/fresh.user
instance : EntF Tryz.prog 62 := ⟨enters_of Tryz.func62 (by kernel_rfl) rfl⟩ -- safehouse/fresh.counted
instance : EntF Tryz.prog 63 := ⟨enters_of Tryz.func63 (by kernel_rfl) rfl⟩ -- safehouse/tree.Write
instance : EntF Tryz.prog 64 := ⟨enters_of Tryz.func64 (by kernel_rfl) rfl⟩ -- strconv.Itoa
instance : EntF Tryz.prog 65 := ⟨enters_of Tryz.func65 (by kernel_rfl) rfl⟩ -- safehouse/fresh.Check
instance : EntF Tryz.prog 66 := ⟨enters_of Tryz.func66 (by kernel_rfl) rfl⟩ -- safehouse/fresh.find
instance : EntF Tryz.prog 67 := ⟨enters_of Tryz.func67 (by kernel_rfl) rfl⟩ -- slices.Clone[[]safehouse/api.Seen,safehouse/api.Seen]
instance : EntF Tryz.prog 68 := ⟨enters_of Tryz.func68 (by kernel_rfl) rfl⟩ -- safehouse/fresh.copied
instance : EntF Tryz.prog 69 := ⟨enters_of Tryz.func69 (by kernel_rfl) rfl⟩ -- slices.Insert[[]safehouse/api.Seen,safehouse/api.Seen]
instance : EntF Tryz.prog 70 := ⟨enters_of Tryz.func70 (by kernel_rfl) rfl⟩ -- safehouse/fresh.Covers$1
instance : EntF Tryz.prog 71 := ⟨enters_of Tryz.func71 (by kernel_rfl) rfl⟩ -- slices.ContainsFunc[[]safehouse/api.Mark,safehouse/api.Mark]
instance : EntF Tryz.prog 72 := ⟨enters_of Tryz.func72 (by kernel_rfl) rfl⟩ -- safehouse/fresh.Covers$1$1
instance : EntF Tryz.prog 73 := ⟨enters_of Tryz.func73 (by kernel_rfl) rfl⟩ -- safehouse/term.Unlist
instance : EntF Tryz.prog 74 := ⟨enters_of Tryz.func74 (by kernel_rfl) rfl⟩ -- safehouse/fresh.rooted$1
instance : EntF Tryz.prog 75 := ⟨enters_of Tryz.func75 (by kernel_rfl) rfl⟩ -- strconv.Atoi
instance : EntF Tryz.prog 76 := ⟨enters_of Tryz.func76 (by kernel_rfl) rfl⟩ -- safehouse/tree.Check
instance : EntF Tryz.prog 77 := ⟨enters_of Tryz.func77 (by kernel_rfl) rfl⟩ -- safehouse/tree.root
instance : EntF Tryz.prog 78 := ⟨enters_of Tryz.func78 (by kernel_rfl) rfl⟩ -- safehouse/safehouseref05.Size
instance : EntF Tryz.prog 79 := ⟨enters_of Tryz.func79 (by kernel_rfl) rfl⟩ -- safehouse/safehouseref14.number
instance : EntF Tryz.prog 80 := ⟨enters_of Tryz.func80 (by kernel_rfl) rfl⟩ -- safehouse/safehouseref14.Right
instance : EntF Tryz.prog 81 := ⟨enters_of Tryz.func81 (by kernel_rfl) rfl⟩ -- safehouse/safehouseref05.List
instance : EntF Tryz.prog 82 := ⟨enters_of Tryz.func82 (by kernel_rfl) rfl⟩ -- safehouse/safehouseref05.Text
instance : EntF Tryz.prog 83 := ⟨enters_of Tryz.func83 (by kernel_rfl) rfl⟩ -- safehouse/safehouseref14.Digits
instance : EntF Tryz.prog 84 := ⟨enters_of Tryz.func84 (by kernel_rfl) rfl⟩ -- safehouse/safehouseref14.Root
instance : EntF Tryz.prog 85 := ⟨enters_of Tryz.func85 (by kernel_rfl) rfl⟩ -- safehouse/perm.Check
instance : EntF Tryz.prog 86 := ⟨enters_of Tryz.func86 (by kernel_rfl) rfl⟩ -- slices.ContainsFunc[[]safehouse/api.GroupKey,safehouse/api.GroupKey]
instance : EntF Tryz.prog 87 := ⟨enters_of Tryz.func87 (by kernel_rfl) rfl⟩ -- safehouse/cap.Make$1
instance : EntF Tryz.prog 88 := ⟨enters_of Tryz.func88 (by kernel_rfl) rfl⟩ -- safehouse/cap.Make$2
instance : EntF Tryz.prog 89 := ⟨enters_of Tryz.func89 (by kernel_rfl) rfl⟩ -- safehouse/term.Pair
instance : EntF Tryz.prog 90 := ⟨enters_of Tryz.func90 (by kernel_rfl) rfl⟩ -- slices.Sort[[]int,int]
instance : EntF Tryz.prog 91 := ⟨enters_of Tryz.func91 (by kernel_rfl) rfl⟩ -- safehouse/cap.row
instance : EntF Tryz.prog 92 := ⟨enters_of Tryz.func92 (by kernel_rfl) rfl⟩ -- safehouse/term.Seal
instance : EntF Tryz.prog 93 := ⟨enters_of Tryz.func93 (by kernel_rfl) rfl⟩ -- safehouse/cap.find[safehouse/api.GroupKey]
instance : EntF Tryz.prog 94 := ⟨enters_of Tryz.func94 (by kernel_rfl) rfl⟩ -- safehouse/cap.Make$3
instance : EntF Tryz.prog 95 := ⟨enters_of Tryz.func95 (by kernel_rfl) rfl⟩ -- safehouse/term.Lock
instance : EntF Tryz.prog 96 := ⟨enters_of Tryz.func96 (by kernel_rfl) rfl⟩ -- safehouse/meta.Number
instance : EntF Tryz.prog 97 := ⟨enters_of Tryz.func97 (by kernel_rfl) rfl⟩ -- safehouse/meta.Name
instance : EntF Tryz.prog 98 := ⟨enters_of Tryz.func98 (by kernel_rfl) rfl⟩ -- slices.ContainsFunc[[][]int,[]int]
instance : EntF Tryz.prog 99 := ⟨enters_of Tryz.func99 (by kernel_rfl) rfl⟩ -- safehouse/meta.Check$1
instance : EntF Tryz.prog 100 := ⟨enters_of Tryz.func100 (by kernel_rfl) rfl⟩ -- safehouse/meta.rising
instance : EntF Tryz.prog 101 := ⟨enters_of Tryz.func101 (by kernel_rfl) rfl⟩ -- safehouse/cap.Users
instance : EntF Tryz.prog 102 := ⟨enters_of Tryz.func102 (by kernel_rfl) rfl⟩ -- safehouse/safehouseref15.Digits
instance : EntF Tryz.prog 103 := ⟨enters_of Tryz.func103 (by kernel_rfl) rfl⟩ -- safehouse/safehouseref15.Name
instance : EntF Tryz.prog 104 := ⟨enters_of Tryz.func104 (by kernel_rfl) rfl⟩ -- safehouse/safehouseref11.Right
instance : EntF Tryz.prog 105 := ⟨enters_of Tryz.func105 (by kernel_rfl) rfl⟩ -- safehouse/safehouseref13.Read
instance : EntF Tryz.prog 106 := ⟨enters_of Tryz.func106 (by kernel_rfl) rfl⟩ -- safehouse/safehouseref11.In
instance : EntF Tryz.prog 107 := ⟨enters_of Tryz.func107 (by kernel_rfl) rfl⟩ -- safehouse/safehouseref15.nums
instance : EntF Tryz.prog 108 := ⟨enters_of Tryz.func108 (by kernel_rfl) rfl⟩ -- safehouse/safehouseref15.num
instance : EntF Tryz.prog 109 := ⟨enters_of Tryz.func109 (by kernel_rfl) rfl⟩ -- slices.Backward[[]safehouse/api.Term,safehouse/api.Term]
instance : EntF Tryz.prog 110 := ⟨enters_of Tryz.func110 (by kernel_rfl) rfl⟩ -- safehouse/term.walk
instance : EntF Tryz.prog 111 := ⟨enters_of Tryz.func111 (by kernel_rfl) rfl⟩ -- slices.Equal[[]int,int]
instance : EntF Tryz.prog 112 := ⟨enters_of Tryz.func112 (by kernel_rfl) rfl⟩ -- safehouse/tree.row
instance : EntF Tryz.prog 113 := ⟨enters_of Tryz.func113 (by kernel_rfl) rfl⟩ -- internal/strconv.Itoa
instance : EntF Tryz.prog 114 := ⟨enters_of Tryz.func114 (by kernel_rfl) rfl⟩ -- slices.BinarySearchFunc[[]safehouse/api.Seen,safehouse/api.Seen,int]
instance : EntF Tryz.prog 115 := ⟨enters_of Tryz.func115 (by kernel_rfl) rfl⟩ -- safehouse/fresh.find$1
instance : EntF Tryz.prog 116 := ⟨enters_of Tryz.func116 (by kernel_rfl) rfl⟩ -- cmp.Compare[int]
instance : EntF Tryz.prog 117 := ⟨enters_of Tryz.func117 (by kernel_rfl) rfl⟩ -- slices.Clone[[]safehouse/api.Term,safehouse/api.Term]
instance : EntF Tryz.prog 119 := ⟨enters_of Tryz.func119 (by kernel_rfl) rfl⟩ -- slices.rotateRight[safehouse/api.Seen]
instance : EntF Tryz.prog 120 := ⟨enters_of Tryz.func120 (by kernel_rfl) rfl⟩ -- slices.IndexFunc[[]safehouse/api.Mark,safehouse/api.Mark]
instance : EntF Tryz.prog 121 := ⟨enters_of Tryz.func121 (by kernel_rfl) rfl⟩ -- internal/strconv.Atoi
instance : EntF Tryz.prog 122 := ⟨enters_of Tryz.func122 (by kernel_rfl) rfl⟩ -- strconv.toError
instance : EntF Tryz.prog 123 := ⟨enters_of Tryz.func123 (by kernel_rfl) rfl⟩ -- safehouse/tree.marked
instance : EntF Tryz.prog 124 := ⟨enters_of Tryz.func124 (by kernel_rfl) rfl⟩ -- safehouse/tree.Leaf
instance : EntF Tryz.prog 125 := ⟨enters_of Tryz.func125 (by kernel_rfl) rfl⟩ -- safehouse/tree.half
instance : EntF Tryz.prog 126 := ⟨enters_of Tryz.func126 (by kernel_rfl) rfl⟩ -- safehouse/tree.join
instance : EntF Tryz.prog 127 := ⟨enters_of Tryz.func127 (by kernel_rfl) rfl⟩ -- safehouse/safehouseref05.One
instance : EntF Tryz.prog 128 := ⟨enters_of Tryz.func128 (by kernel_rfl) rfl⟩ -- safehouse/safehouseref14.One
instance : EntF Tryz.prog 129 := ⟨enters_of Tryz.func129 (by kernel_rfl) rfl⟩ -- safehouse/safehouseref05.Pair
instance : EntF Tryz.prog 130 := ⟨enters_of Tryz.func130 (by kernel_rfl) rfl⟩ -- safehouse/safehouseref14.Leaf
instance : EntF Tryz.prog 131 := ⟨enters_of Tryz.func131 (by kernel_rfl) rfl⟩ -- safehouse/safehouseref14.Join
instance : EntF Tryz.prog 132 := ⟨enters_of Tryz.func132 (by kernel_rfl) rfl⟩ -- safehouse/perm.Check$1
instance : EntF Tryz.prog 133 := ⟨enters_of Tryz.func133 (by kernel_rfl) rfl⟩ -- safehouse/perm.user
instance : EntF Tryz.prog 134 := ⟨enters_of Tryz.func134 (by kernel_rfl) rfl⟩ -- safehouse/perm.rising[int]
instance : EntF Tryz.prog 135 := ⟨enters_of Tryz.func135 (by kernel_rfl) rfl⟩ -- safehouse/perm.group
instance : EntF Tryz.prog 136 := ⟨enters_of Tryz.func136 (by kernel_rfl) rfl⟩ -- slices.ContainsFunc[[]int,int]
instance : EntF Tryz.prog 137 := ⟨enters_of Tryz.func137 (by kernel_rfl) rfl⟩ -- safehouse/perm.Check$2
instance : EntF Tryz.prog 138 := ⟨enters_of Tryz.func138 (by kernel_rfl) rfl⟩ -- slices.Contains[[]int,int]
instance : EntF Tryz.prog 139 := ⟨enters_of Tryz.func139 (by kernel_rfl) rfl⟩ -- slices.IndexFunc[[]safehouse/api.GroupKey,safehouse/api.GroupKey]
instance : EntF Tryz.prog 140 := ⟨enters_of Tryz.func140 (by kernel_rfl) rfl⟩ -- slices.pdqsortOrdered[int]
instance : EntF Tryz.prog 141 := ⟨enters_of Tryz.func141 (by kernel_rfl) rfl⟩ -- math/bits.Len
instance : EntF Tryz.prog 142 := ⟨enters_of Tryz.func142 (by kernel_rfl) rfl⟩ -- slices.IndexFunc[[][]int,[]int]
instance : EntF Tryz.prog 143 := ⟨enters_of Tryz.func143 (by kernel_rfl) rfl⟩ -- safehouse/cap.read
instance : EntF Tryz.prog 144 := ⟨enters_of Tryz.func144 (by kernel_rfl) rfl⟩ -- safehouse/safehouseref11.rising
instance : EntF Tryz.prog 145 := ⟨enters_of Tryz.func145 (by kernel_rfl) rfl⟩ -- safehouse/safehouseref13.Name
instance : EntF Tryz.prog 146 := ⟨enters_of Tryz.func146 (by kernel_rfl) rfl⟩ -- slices.Backward[[]safehouse/api.Term,safehouse/api.Term]$1
instance : EntF Tryz.prog 147 := ⟨enters_of Tryz.func147 (by kernel_rfl) rfl⟩ -- safehouse/term.plain
instance : EntF Tryz.prog 148 := ⟨enters_of Tryz.func148 (by kernel_rfl) rfl⟩ -- internal/strconv.FormatInt
instance : EntF Tryz.prog 149 := ⟨enters_of Tryz.func149 (by kernel_rfl) rfl⟩ -- cmp.isNaN[int]
instance : EntF Tryz.prog 150 := ⟨enters_of Tryz.func150 (by kernel_rfl) rfl⟩ -- slices.rotateLeft[safehouse/api.Seen]
instance : EntF Tryz.prog 151 := ⟨enters_of Tryz.func151 (by kernel_rfl) rfl⟩ -- internal/strconv.ParseInt
instance : EntF Tryz.prog 152 := ⟨enters_of Tryz.func152 (by kernel_rfl) rfl⟩ -- strconv.syntaxError
instance : EntF Tryz.prog 153 := ⟨enters_of Tryz.func153 (by kernel_rfl) rfl⟩ -- strconv.rangeError
instance : EntF Tryz.prog 154 := ⟨enters_of Tryz.func154 (by kernel_rfl) rfl⟩ -- strconv.baseError
instance : EntF Tryz.prog 155 := ⟨enters_of Tryz.func155 (by kernel_rfl) rfl⟩ -- strconv.bitSizeError
instance : EntF Tryz.prog 156 := ⟨enters_of Tryz.func156 (by kernel_rfl) rfl⟩ -- safehouse/term.Hash
instance : EntF Tryz.prog 157 := ⟨enters_of Tryz.func157 (by kernel_rfl) rfl⟩ -- safehouse/safehouseref05.Kids
instance : EntF Tryz.prog 158 := ⟨enters_of Tryz.func158 (by kernel_rfl) rfl⟩ -- safehouse/safehouseref05.User
instance : EntF Tryz.prog 159 := ⟨enters_of Tryz.func159 (by kernel_rfl) rfl⟩ -- safehouse/safehouseref05.Num
instance : EntF Tryz.prog 160 := ⟨enters_of Tryz.func160 (by kernel_rfl) rfl⟩ -- safehouse/safehouseref14.hash
instance : EntF Tryz.prog 161 := ⟨enters_of Tryz.func161 (by kernel_rfl) rfl⟩ -- safehouse/safehouseref14.row
instance : EntF Tryz.prog 162 := ⟨enters_of Tryz.func162 (by kernel_rfl) rfl⟩ -- slices.IndexFunc[[]int,int]
instance : EntF Tryz.prog 163 := ⟨enters_of Tryz.func163 (by kernel_rfl) rfl⟩ -- slices.Index[[]int,int]
instance : EntF Tryz.prog 164 := ⟨enters_of Tryz.func164 (by kernel_rfl) rfl⟩ -- slices.insertionSortOrdered[int]
instance : EntF Tryz.prog 165 := ⟨enters_of Tryz.func165 (by kernel_rfl) rfl⟩ -- slices.heapSortOrdered[int]
instance : EntF Tryz.prog 166 := ⟨enters_of Tryz.func166 (by kernel_rfl) rfl⟩ -- slices.breakPatternsOrdered[int]
instance : EntF Tryz.prog 167 := ⟨enters_of Tryz.func167 (by kernel_rfl) rfl⟩ -- slices.choosePivotOrdered[int]
instance : EntF Tryz.prog 168 := ⟨enters_of Tryz.func168 (by kernel_rfl) rfl⟩ -- slices.reverseRangeOrdered[int]
instance : EntF Tryz.prog 169 := ⟨enters_of Tryz.func169 (by kernel_rfl) rfl⟩ -- slices.partialInsertionSortOrdered[int]
instance : EntF Tryz.prog 170 := ⟨enters_of Tryz.func170 (by kernel_rfl) rfl⟩ -- cmp.Less[int]
instance : EntF Tryz.prog 171 := ⟨enters_of Tryz.func171 (by kernel_rfl) rfl⟩ -- slices.partitionEqualOrdered[int]
instance : EntF Tryz.prog 172 := ⟨enters_of Tryz.func172 (by kernel_rfl) rfl⟩ -- slices.partitionOrdered[int]
instance : EntF Tryz.prog 173 := ⟨enters_of Tryz.func173 (by kernel_rfl) rfl⟩ -- math/bits.Len32
instance : EntF Tryz.prog 174 := ⟨enters_of Tryz.func174 (by kernel_rfl) rfl⟩ -- math/bits.Len64
instance : EntF Tryz.prog 175 := ⟨enters_of Tryz.func175 (by kernel_rfl) rfl⟩ -- safehouse/cap.boxes
instance : EntF Tryz.prog 176 := ⟨enters_of Tryz.func176 (by kernel_rfl) rfl⟩ -- (safehouse/cap.box).place
instance : EntF Tryz.prog 177 := ⟨enters_of Tryz.func177 (by kernel_rfl) rfl⟩ -- safehouse/term.fields
instance : EntF Tryz.prog 178 := ⟨enters_of Tryz.func178 (by kernel_rfl) rfl⟩ -- (safehouse/term.field).kids
instance : EntF Tryz.prog 179 := ⟨enters_of Tryz.func179 (by kernel_rfl) rfl⟩ -- (safehouse/term.field).has
instance : EntF Tryz.prog 180 := ⟨enters_of Tryz.func180 (by kernel_rfl) rfl⟩ -- safehouse/term.known
instance : EntF Tryz.prog 181 := ⟨enters_of Tryz.func181 (by kernel_rfl) rfl⟩ -- internal/strconv.small
instance : EntF Tryz.prog 182 := ⟨enters_of Tryz.func182 (by kernel_rfl) rfl⟩ -- internal/strconv.numDigits
instance : EntF Tryz.prog 183 := ⟨enters_of Tryz.func183 (by kernel_rfl) rfl⟩ -- internal/strconv.formatBase10
instance : EntF Tryz.prog 184 := ⟨enters_of Tryz.func184 (by kernel_rfl) rfl⟩ -- internal/strconv.formatBits
instance : EntF Tryz.prog 185 := ⟨enters_of Tryz.func185 (by kernel_rfl) rfl⟩ -- slices.Reverse[[]safehouse/api.Seen,safehouse/api.Seen]
instance : EntF Tryz.prog 186 := ⟨enters_of Tryz.func186 (by kernel_rfl) rfl⟩ -- internal/strconv.ParseUint
instance : EntF Tryz.prog 187 := ⟨enters_of Tryz.func187 (by kernel_rfl) rfl⟩ -- internal/stringslite.Clone
instance : EntF Tryz.prog 188 := ⟨enters_of Tryz.func188 (by kernel_rfl) rfl⟩ -- errors.New
instance : EntF Tryz.prog 189 := ⟨enters_of Tryz.func189 (by kernel_rfl) rfl⟩ -- slices.siftDownOrdered[int]
instance : EntF Tryz.prog 190 := ⟨enters_of Tryz.func190 (by kernel_rfl) rfl⟩ -- slices.nextPowerOfTwo
instance : EntF Tryz.prog 191 := ⟨enters_of Tryz.func191 (by kernel_rfl) rfl⟩ -- (*slices.xorshift).Next
instance : EntF Tryz.prog 192 := ⟨enters_of Tryz.func192 (by kernel_rfl) rfl⟩ -- slices.medianAdjacentOrdered[int]
instance : EntF Tryz.prog 193 := ⟨enters_of Tryz.func193 (by kernel_rfl) rfl⟩ -- slices.medianOrdered[int]
instance : EntF Tryz.prog 194 := ⟨enters_of Tryz.func194 (by kernel_rfl) rfl⟩ -- safehouse/cap.boxes$1
instance : EntF Tryz.prog 195 := ⟨enters_of Tryz.func195 (by kernel_rfl) rfl⟩ -- safehouse/cap.of
instance : EntF Tryz.prog 196 := ⟨enters_of Tryz.func196 (by kernel_rfl) rfl⟩ -- internal/strconv.log10Pow2
instance : EntF Tryz.prog 197 := ⟨enters_of Tryz.func197 (by kernel_rfl) rfl⟩ -- internal/strconv.bool2[int]
instance : EntF Tryz.prog 198 := ⟨enters_of Tryz.func198 (by kernel_rfl) rfl⟩ -- internal/strconv.isPowerOfTwo
instance : EntF Tryz.prog 199 := ⟨enters_of Tryz.func199 (by kernel_rfl) rfl⟩ -- math/bits.TrailingZeros
instance : EntF Tryz.prog 200 := ⟨enters_of Tryz.func200 (by kernel_rfl) rfl⟩ -- internal/strconv.lower
instance : EntF Tryz.prog 201 := ⟨enters_of Tryz.func201 (by kernel_rfl) rfl⟩ -- internal/strconv.underscoreOK
instance : EntF Tryz.prog 202 := ⟨enters_of Tryz.func202 (by kernel_rfl) rfl⟩ -- slices.order2Ordered[int]
instance : EntF Tryz.prog 203 := ⟨enters_of Tryz.func203 (by kernel_rfl) rfl⟩ -- math/bits.TrailingZeros32
instance : EntF Tryz.prog 204 := ⟨enters_of Tryz.func204 (by kernel_rfl) rfl⟩ -- math/bits.TrailingZeros64
end
end Go.Proofs.YtieeoakdkbackaaGreatDoor

/- Package term: what the small functions compute. -/
namespace Go.Proofs.YtieeoakdkbackaaGreatDoor
open Go Go.Wk
set_option synthInstance.maxSize 100000
set_option synthInstance.maxHeartbeats 400000
set_option maxRecDepth 100000

def fieldsOf (k : Int) : Int :=
  if k = 1 then 1 else if k = 2 then 6 else if k = 3 then 2 else if k = 4 ∨ k = 6 then 16 else if k = 5 then 8 else if k = 7 then 10 else if k = 8 then 14 else 0

theorem fields_c (k : Int) (w : World) : Ret Tryz.prog 177 [.int .i64 k] w (fun _ => False) fun v _ => v = .int .i64 (fieldsOf k) := by
  refine enter Tryz.func177 rfl rfl (Wd.start w) (fun a S => ?_)
  simp only [Tryz.ntmps177, List.length_cons, List.length_nil, Nat.reduceAdd, Nat.reduceSub, List.replicate_succ, List.replicate_zero, List.cons_append, List.nil_append] at S
  refine c_seq ?_
  refine c_region ?_
  refine sq S ?_; clear S; intro a S
  refine wl_nil ?_
  refine xtn ?_
  iterate 2 (refine c_seq ?_)
  refine c_region ?_
  refine sq S ?_; clear S; intro a S
  refine wl_nil ?_
  refine xtn ?_
  refine c_block ?_
  refine c_seq ?_
  refine c_region ?_
  iterate 2 (refine sq S ?_; clear S; intro a S)
  refine wl_nil ?_
  refine xtn ?_
  refine c_cond S (fun h2 => ?_) (fun h2 => ?_)
  · refine c_seq ?_
    refine c_region ?_
    refine sq S ?_; clear S; intro a S
    refine wl_nil ?_
    refine xtn ?_
    refine c_ret ?_
    refine xbr ?_
    refine xtr ?_
    refine fin1 S (fun _ => ?_)
    simp at *; first | (exfalso; omega) | simp [*, fieldsOf]
  · refine c_seq ?_
    refine c_region ?_
    iterate 2 (refine sq S ?_; clear S; intro a S)
    refine wl_nil ?_
    refine xtn ?_
    refine c_cond S (fun h4 => ?_) (fun h4 => ?_)
    · refine c_seq ?_
      refine c_region ?_
      refine sq S ?_; clear S; intro a S
      refine wl_nil ?_
      refine xtn ?_
      refine c_ret ?_
      refine xbr ?_
      refine xtr ?_
      refine fin1 S (fun _ => ?_)
      simp at *; first | (exfalso; omega) | simp [*, fieldsOf]
    · refine c_seq ?_
      refine c_region ?_
      iterate 2 (refine sq S ?_; clear S; intro a S)
      refine wl_nil ?_
      refine xtn ?_
      refine c_cond S (fun h6 => ?_) (fun h6 => ?_)
      · refine c_seq ?_
        refine c_region ?_
        refine sq S ?_; clear S; intro a S
        refine wl_nil ?_
        refine xtn ?_
        refine c_ret ?_
        refine xbr ?_
        refine xtr ?_
        refine fin1 S (fun _ => ?_)
        simp at *; first | (exfalso; omega) | simp [*, fieldsOf]
      · refine c_seq ?_
        refine c_seq ?_
        refine c_region ?_
        iterate 2 (refine sq S ?_; clear S; intro a S)
        refine wl_nil ?_
        refine xtn ?_
        refine c_cond S (fun h8 => ?_) (fun h8 => ?_)
        · refine c_skip ?_
          refine xtn ?_
          refine c_cond S (fun h8 => ?_) (fun h8 => ?_)
          · refine c_seq ?_
            refine c_region ?_
            refine sq S ?_; clear S; intro a S
            refine wl_nil ?_
            refine xtn ?_
            refine c_ret ?_
            refine xbr ?_
            refine xtr ?_
            refine fin1 S (fun _ => ?_)
            simp at *; first | (exfalso; omega) | simp [*, fieldsOf]
          · refine c_seq ?_
            refine c_region ?_
            iterate 2 (refine sq S ?_; clear S; intro a S)
            refine wl_nil ?_
            refine xtn ?_
            refine c_cond S (fun h11 => ?_) (fun h11 => ?_)
            · refine c_seq ?_
              refine c_region ?_
              refine sq S ?_; clear S; intro a S
              refine wl_nil ?_
              refine xtn ?_
              refine c_ret ?_
              refine xbr ?_
              refine xtr ?_
              refine fin1 S (fun _ => ?_)
              simp at *; first | (exfalso; omega) | simp [*, fieldsOf]
            · refine c_seq ?_
              refine c_region ?_
              iterate 2 (refine sq S ?_; clear S; intro a S)
              refine wl_nil ?_
              refine xtn ?_
              refine c_cond S (fun h13 => ?_) (fun h13 => ?_)
              · refine c_seq ?_
                refine c_region ?_
                refine sq S ?_; clear S; intro a S
                refine wl_nil ?_
                refine xtn ?_
                refine c_ret ?_
                refine xbr ?_
                refine xtr ?_
                refine fin1 S (fun _ => ?_)
                simp at *; first | (exfalso; omega) | simp [*, fieldsOf]
              · refine c_seq ?_
                refine c_region ?_
                iterate 2 (refine sq S ?_; clear S; intro a S)
                refine wl_nil ?_
                refine xtn ?_
                refine c_cond S (fun h15 => ?_) (fun h15 => ?_)
                · refine c_seq ?_
                  refine c_region ?_
                  refine sq S ?_; clear S; intro a S
                  refine wl_nil ?_
                  refine xtn ?_
                  refine c_ret ?_
                  refine xbr ?_
                  refine xtr ?_
                  refine fin1 S (fun _ => ?_)
                  simp at *; first | (exfalso; omega) | simp [*, fieldsOf]
                · refine c_skip ?_
                  refine xbn ?_
                  refine xtn ?_
                  refine c_seq ?_
                  refine c_region ?_
                  refine sq S ?_; clear S; intro a S
                  refine wl_nil ?_
                  refine xtn ?_
                  refine c_ret ?_
                  refine fin1 S (fun _ => ?_)
                  simp at *; first | (exfalso; omega) | simp [*, fieldsOf]
        · refine c_region ?_
          iterate 2 (refine sq S ?_; clear S; intro a S)
          refine wl_nil ?_
          refine xtn ?_
          refine c_cond S (fun h9 => ?_) (fun h9 => ?_)
          · refine c_seq ?_
            refine c_region ?_
            refine sq S ?_; clear S; intro a S
            refine wl_nil ?_
            refine xtn ?_
            refine c_ret ?_
            refine xbr ?_
            refine xtr ?_
            refine fin1 S (fun _ => ?_)
            simp at *; first | (exfalso; omega) | simp [*, fieldsOf]
          · refine c_seq ?_
            refine c_region ?_
            iterate 2 (refine sq S ?_; clear S; intro a S)
            refine wl_nil ?_
            refine xtn ?_
            refine c_cond S (fun h11 => ?_) (fun h11 => ?_)
            · refine c_seq ?_
              refine c_region ?_
              refine sq S ?_; clear S; intro a S
              refine wl_nil ?_
              refine xtn ?_
              refine c_ret ?_
              refine xbr ?_
              refine xtr ?_
              refine fin1 S (fun _ => ?_)
              simp at *; first | (exfalso; omega) | simp [*, fieldsOf]
            · refine c_seq ?_
              refine c_region ?_
              iterate 2 (refine sq S ?_; clear S; intro a S)
              refine wl_nil ?_
              refine xtn ?_
              refine c_cond S (fun h13 => ?_) (fun h13 => ?_)
              · refine c_seq ?_
                refine c_region ?_
                refine sq S ?_; clear S; intro a S
                refine wl_nil ?_
                refine xtn ?_
                refine c_ret ?_
                refine xbr ?_
                refine xtr ?_
                refine fin1 S (fun _ => ?_)
                simp at *; first | (exfalso; omega) | simp [*, fieldsOf]
              · refine c_seq ?_
                refine c_region ?_
                iterate 2 (refine sq S ?_; clear S; intro a S)
                refine wl_nil ?_
                refine xtn ?_
                refine c_cond S (fun h15 => ?_) (fun h15 => ?_)
                · refine c_seq ?_
                  refine c_region ?_
                  refine sq S ?_; clear S; intro a S
                  refine wl_nil ?_
                  refine xtn ?_
                  refine c_ret ?_
                  refine xbr ?_
                  refine xtr ?_
                  refine fin1 S (fun _ => ?_)
                  simp at *; first | (exfalso; omega) | simp [*, fieldsOf]
                · refine c_skip ?_
                  refine xbn ?_
                  refine xtn ?_
                  refine c_seq ?_
                  refine c_region ?_
                  refine sq S ?_; clear S; intro a S
                  refine wl_nil ?_
                  refine xtn ?_
                  refine c_ret ?_
                  refine fin1 S (fun _ => ?_)
                  simp at *; first | (exfalso; omega) | simp [*, fieldsOf]
instance {k : Int} {bs fs} : CallV Tryz.prog 177 [.int .i64 k] bs fs (.int .i64 (fieldsOf k)) := ⟨fun w _ => fields_c k w⟩

def hasF (f g : Int) : Bool := !decide (iand .i64 f g = 0)
theorem has_c (f g : Int) (w : World) : Ret Tryz.prog 179 [.int .i64 f, .int .i64 g] w (fun _ => False) fun v _ => v = .bool (hasF f g) := by
  refine enter Tryz.func179 rfl rfl (Wd.start w) (fun a S => ?_)
  simp only [Tryz.ntmps179, List.length_cons, List.length_nil, Nat.reduceAdd, Nat.reduceSub, List.replicate_succ, List.replicate_zero, List.cons_append, List.nil_append] at S
  refine c_seq ?_
  refine c_region ?_
  refine sq S ?_; clear S; intro a S
  refine wl_nil ?_
  refine xtn ?_
  refine c_seq ?_
  refine c_region ?_
  iterate 5 (refine sq S ?_; clear S; intro a S)
  refine wl_nil ?_
  refine xtn ?_
  refine c_ret ?_
  refine fin1 S (fun _ => ?_)
  rfl
instance {f g : Int} {bs fs} : CallV Tryz.prog 179 [.int .i64 f, .int .i64 g] bs fs (.bool (hasF f g)) := ⟨fun w _ => has_c f g w⟩

def kidsF (f : Int) : Int := if hasF f 16 then 2 else if hasF f 8 then 1 else 0
theorem kids_c (f : Int) (w : World) : Ret Tryz.prog 178 [.int .i64 f] w (fun _ => False) fun v _ => v = .int .i64 (kidsF f) := by
  refine enter Tryz.func178 rfl rfl (Wd.start w) (fun a S => ?_)
  simp only [Tryz.ntmps178, List.length_cons, List.length_nil, Nat.reduceAdd, Nat.reduceSub, List.replicate_succ, List.replicate_zero, List.cons_append, List.nil_append] at S
  refine c_seq ?_
  refine c_region ?_
  refine sq S ?_; clear S; intro a S
  refine wl_nil ?_
  refine xtn ?_
  refine c_seq ?_
  refine c_block ?_
  refine c_seq ?_
  refine c_region ?_
  refine sq S ?_; clear S; intro a S
  refine sc S ?_; clear S; intro a w S
  refine sq S ?_; clear S; intro a S
  refine wl_nil ?_
  refine xtn ?_
  refine c_cond S (fun h1 => ?_) (fun h1 => ?_)
  · refine c_seq ?_
    refine c_region ?_
    refine sq S ?_; clear S; intro a S
    refine wl_nil ?_
    refine xtn ?_
    refine c_ret ?_
    refine xbr ?_
    refine xtr ?_
    refine fin1 S (fun _ => ?_)
    simp [*, kidsF]
  · refine c_seq ?_
    refine c_region ?_
    refine sq S ?_; clear S; intro a S
    refine sc S ?_; clear S; intro a w S
    refine sq S ?_; clear S; intro a S
    refine wl_nil ?_
    refine xtn ?_
    refine c_cond S (fun h3 => ?_) (fun h3 => ?_)
    · refine c_seq ?_
      refine c_region ?_
      refine sq S ?_; clear S; intro a S
      refine wl_nil ?_
      refine xtn ?_
      refine c_ret ?_
      refine xbr ?_
      refine xtr ?_
      refine fin1 S (fun _ => ?_)
      simp [*, kidsF]
    · refine c_skip ?_
      refine xbn ?_
      refine xtn ?_
      refine c_seq ?_
      refine c_region ?_
      refine sq S ?_; clear S; intro a S
      refine wl_nil ?_
      refine xtn ?_
      refine c_ret ?_
      refine fin1 S (fun _ => ?_)
      simp [*, kidsF]
instance {f : Int} {bs fs} : CallV Tryz.prog 178 [.int .i64 f] bs fs (.int .i64 (kidsF f)) := ⟨fun w _ => kids_c f w⟩

def knownF (n : Int) : Bool := decide (1 ≤ n) && decide (n ≤ 6)
theorem known_c (n : Int) (w : World) : Ret Tryz.prog 180 [.int .i64 n] w (fun _ => False) fun v _ => v = .bool (knownF n) := by
  refine enter Tryz.func180 rfl rfl (Wd.start w) (fun a S => ?_)
  simp only [Tryz.ntmps180, List.length_cons, List.length_nil, Nat.reduceAdd, Nat.reduceSub, List.replicate_succ, List.replicate_zero, List.cons_append, List.nil_append] at S
  refine c_seq ?_
  refine c_region ?_
  refine sq S ?_; clear S; intro a S
  refine wl_nil ?_
  refine xtn ?_
  refine c_seq ?_
  refine c_region ?_
  iterate 3 (refine sq S ?_; clear S; intro a S)
  iterate 2 (refine gQ S ?_; clear S; intro a S)
  iterate 2 (refine sq S ?_; clear S; intro a S)
  refine wl_nil ?_
  refine xtn ?_
  refine c_ret ?_
  refine fin1 S (fun _ => ?_)
  rfl
instance {n : Int} {bs fs} : CallV Tryz.prog 180 [.int .i64 n] bs fs (.bool (knownF n)) := ⟨fun w _ => known_c n w⟩

def plainF (k u n : Int) (s : List UInt8) (m : Nat) : Bool :=
  let f := fieldsOf k
  !decide (f = 0) && decide ((m : Int) = kidsF f) && decide ((s.length : Int) ≤ 64) && (hasF f 1 || decide (s = [])) && (hasF f 2 && knownF u || !hasF f 2 && decide (u = 0)) && (hasF f 4 && decide (0 ≤ n) && decide (n ≤ 65535) || !hasF f 4 && decide (n = 0))
theorem plain_c (k u n : Int) (s : List UInt8) (p : Option Addr) (m c : Nat) (w : World) : Ret Tryz.prog 147 [.agg #[.int .i64 k, .int .i64 u, .int .i64 n, str s, .slice p m c]] w (fun _ => False) fun v _ => v = .bool (plainF k u n s m) := by
  refine enter Tryz.func147 rfl rfl (Wd.start w) (fun a S => ?_)
  simp only [Tryz.ntmps147, List.length_cons, List.length_nil, Nat.reduceAdd, Nat.reduceSub, List.replicate_succ, List.replicate_zero, List.cons_append, List.nil_append] at S
  refine c_seq ?_
  refine c_region ?_
  refine sa S ?_; clear S; intro b1 a w S
  refine sq S ?_; clear S; intro a S
  refine wl_nil ?_
  refine xtn ?_
  refine c_seq ?_
  refine c_region ?_
  iterate 2 (refine sq S ?_; clear S; intro a S)
  refine sc S ?_; clear S; intro a w S
  refine sq S ?_; clear S; intro a S
  refine wl_nil ?_
  refine xtn ?_
  refine c_seq ?_
  refine c_drawD [(0, true), (1, true), (2, true), (3, true), (4, true), (5, true), (6, true), (7, false), (8, true), (9, true), (10, true), (11, true), (12, true), (13, true), (14, true), (15, true), (16, true), (17, true), (18, false), (19, true), (20, true), (21, true), (22, true), (23, true), (24, true), (25, true)] [] S ?_; clear S; intro w S
  iterate 3 (refine dq S ?_; clear S; intro a S)
  iterate 4 (refine dqG S ?_; clear S; intro a S)
  refine dl ?_
  refine gC S ?_; clear S; intro a w S
  refine de S ?_
  refine dqG S ?_; clear S; intro a S
  iterate 2 (refine dq S ?_; clear S; intro a S)
  iterate 4 (refine dqG S ?_; clear S; intro a S)
  iterate 2 (refine dq S ?_; clear S; intro a S)
  refine dqG S ?_; clear S; intro a S
  refine dl ?_
  refine gC S ?_; clear S; intro a w S
  refine de S ?_
  iterate 5 (refine dqG S ?_; clear S; intro a S)
  iterate 2 (refine dq S ?_; clear S; intro a S)
  refine dn ?_
  refine xtn ?_
  refine c_seq ?_
  refine c_region ?_
  iterate 2 (refine sq S ?_; clear S; intro a S)
  refine gQ S ?_; clear S; intro a S
  refine gC S ?_; clear S; intro a w S
  iterate 3 (refine gQ S ?_; clear S; intro a S)
  refine gC S ?_; clear S; intro a w S
  iterate 3 (refine gQ S ?_; clear S; intro a S)
  refine gC S ?_; clear S; intro a w S
  iterate 7 (refine gQ S ?_; clear S; intro a S)
  iterate 2 (refine sq S ?_; clear S; intro a S)
  refine wl_nil ?_
  refine xtn ?_
  refine c_seq ?_
  refine c_region ?_
  iterate 2 (refine sq S ?_; clear S; intro a S)
  refine gQ S ?_; clear S; intro a S
  refine gC S ?_; clear S; intro a w S
  iterate 12 (refine gQ S ?_; clear S; intro a S)
  refine gC S ?_; clear S; intro a w S
  iterate 7 (refine gQ S ?_; clear S; intro a S)
  iterate 2 (refine sq S ?_; clear S; intro a S)
  refine wl_nil ?_
  refine xtn ?_
  refine c_ret ?_
  refine fin1 S (fun _ => ?_)
  first | rfl | simp [plainF]
instance {k u n : Int} {s : List UInt8} {p : Option Addr} {m c : Nat} {bs fs} : CallV Tryz.prog 147 [.agg #[.int .i64 k, .int .i64 u, .int .i64 n, str s, .slice p m c]] bs fs (.bool (plainF k u n s m)) := ⟨fun w _ => plain_c k u n s p m c w⟩
end Go.Proofs.YtieeoakdkbackaaGreatDoor

/- Package term: a walk through a term; its size. -/
namespace Go.Proofs.YtieeoakdkbackaaGreatDoor
open Go Go.Wk
set_option synthInstance.maxSize 100000
set_option synthInstance.maxHeartbeats 400000
set_option maxRecDepth 100000

mutual
def walkF : Term → Int → Int → Bool × Int
  | .mk k u n s kids, deep, left => if left - 1 < 0 ∨ 60 < deep ∨ plainF k u n s kids.length = false then (false, left - 1) else walkLF kids (deep + 1) (left - 1)
def walkLF : List Term → Int → Int → Bool × Int
  | [], _, left => (true, left)
  | t :: ts, deep, left => if (walkF t deep left).1 then walkLF ts deep (walkF t deep left).2 else (false, (walkF t deep left).2)
end

mutual
theorem walkF_le : ∀ (t : Term) (deep left : Int), (walkF t deep left).2 ≤ left
  | .mk k u n s kids, deep, left => by
    rw [walkF]; split
    · simp; omega
    · have := walkLF_le kids (deep + 1) (left - 1); omega
theorem walkLF_le : ∀ (ts : List Term) (deep left : Int), (walkLF ts deep left).2 ≤ left
  | [], deep, left => by simp [walkLF]
  | t :: ts, deep, left => by
    have h1 := walkF_le t deep left
    have h2 := walkLF_le ts deep (walkF t deep left).2
    rw [walkLF]; split
    · omega
    · exact h1
end
mutual
theorem walkF_ge : ∀ (t : Term) (deep left : Int), 0 ≤ left → (walkF t deep left).1 = true → 0 ≤ (walkF t deep left).2
  | .mk k u n s kids, deep, left => by
    intro h0 h
    rw [walkF] at h ⊢
    split at h
    · simp at h
    · rename_i hc
      rw [if_neg hc]
      exact walkLF_ge kids (deep + 1) (left - 1) (by omega) h
theorem walkLF_ge : ∀ (ts : List Term) (deep left : Int), 0 ≤ left → (walkLF ts deep left).1 = true → 0 ≤ (walkLF ts deep left).2
  | [], deep, left => by intro h0 _; simpa [walkLF] using h0
  | t :: ts, deep, left => by
    intro h0 h
    rw [walkLF] at h ⊢
    split at h
    · rename_i hc
      rw [if_pos hc]
      exact walkLF_ge ts deep _ (walkF_ge t deep left h0 hc) h
    · simp at h
end


theorem walk_c (N : Nat) : ∀ (t : LTerm) (deep left : Int) (b : Nat) (w0 : World), SizeOf.sizeOf t ≤ N → 0 ≤ deep → deep ≤ 61 → 0 ≤ left → left ≤ 1200 → Stable (fun k => k = b) w0 (LtF t) → w0.heap[b]? = some (.cells #[.int .i64 left] 3 (0, 0)) →
    Ret Tryz.prog 110 [vL t, .int .i64 deep, .pointer (some ⟨b, 0, none⟩)] w0 (fun k => k = b) fun v w' => v = .bool (walkF t.t deep left).1 ∧ w'.heap[b]? = some (.cells #[.int .i64 (walkF t.t deep left).2] 3 (0, 0)) := by
  induction N with
  | zero => intro t _ _ _ _ h; cases t; simp at h
  | succ N ih =>
  intro t deep left b w0 hN hd hd' hl hl' hf hb
  have e0 := t.t_eq
  refine enter Tryz.func110 rfl rfl (Wd.lent (fs := [LtF t]) hb (by simpa using hf)) (fun a S => ?_)
  simp only [Tryz.ntmps110, List.length_cons, List.length_nil, Nat.reduceAdd, Nat.reduceSub, List.replicate_succ, List.replicate_zero, List.cons_append, List.nil_append] at S
  refine c_seq ?_
  refine c_region ?_
  refine sa S ?_; clear S; intro b3 a w S
  refine sq S ?_; clear S; intro a S
  refine wl_nil ?_
  refine xtn ?_
  iterate 2 (refine c_seq ?_)
  refine c_region ?_
  iterate 4 (refine sq S ?_; clear S; intro a S)
  rw [w64 (left - 1) (by omega) (by omega)] at S
  refine sq S ?_; clear S; intro a S
  refine sw S ?_; clear S; intro a w S
  refine wl_nil ?_
  refine xtn ?_
  refine c_seq ?_
  refine c_region ?_
  iterate 5 (refine sq S ?_; clear S; intro a S)
  iterate 2 (refine gQ S ?_; clear S; intro a S)
  iterate 2 (refine sq S ?_; clear S; intro a S)
  refine gQ S ?_; clear S; intro a S
  refine gC S ?_; clear S; intro a w S
  refine gQ S ?_; clear S; intro a S
  refine sq S ?_; clear S; intro a S
  refine wl_nil ?_
  refine xtn ?_
  refine c_cond S (fun h2 => ?_) (fun h2 => ?_)
  · refine c_seq ?_
    refine c_region ?_
    refine sq S ?_; clear S; intro a S
    refine wl_nil ?_
    refine xtn ?_
    refine c_ret ?_
    refine xtr ?_
    have hbx := S.box b
    refine fin1 S (fun _ => ?_)
    have h3 : left - 1 < 0 ∨ 60 < deep ∨ plainF t.kind t.user t.num t.text t.kids.length = false := by simpa [or_assoc] using h2
    rw [e0, walkF, if_pos (by simpa using h3)]
    exact ⟨rfl, hbx⟩
  · refine c_skip ?_
    refine xtn ?_
    iterate 2 (refine c_seq ?_)
    refine c_region ?_
    iterate 4 (refine sq S ?_; clear S; intro a S)
    refine wl_nil ?_
    refine xtn ?_
    refine c_block ?_
    have h3 : ¬ (left - 1 < 0 ∨ 60 < deep ∨ plainF t.kind t.user t.num t.text t.kids.length = false) := by simpa [and_assoc] using h2
    have hlen := LTerm.len_le hf
    refine c_loop (ι := Nat) (fun k a w => k ≤ t.kids.length ∧ ∃ lf, 0 ≤ lf ∧ lf ≤ 1200 ∧ walkLF ((t.kids.drop k).map LTerm.t) (deep + 1) lf = walkF t.t deep left ∧ ∃ uu : Nat → Value,  St w0 (fun k => k = b) [] a w ((vL t) :: (.int .i64 deep) :: (.pointer (some ⟨b, 0, none⟩)) :: (.pointer (some ⟨b3, 0, none⟩)) :: uu 4 :: uu 5 :: (.bool false) :: uu 7 :: uu 8 :: uu 9 :: uu 10 :: uu 11 :: uu 12 :: uu 13 :: uu 14 :: uu 15 :: uu 16 :: uu 17 :: uu 18 :: uu 19 :: uu 20 :: uu 21 :: uu 22 :: uu 23 :: uu 24 :: uu 25 :: uu 26 :: uu 27 :: (.slice t.p t.kids.length t.cap) :: (.int .i64 t.kids.length) :: (.int .i64 (k : Nat)) :: uu 31 :: uu 32 :: uu 33 :: uu 34 :: uu 35 :: uu 36 :: uu 37 :: uu 38 :: uu 39 :: uu 40 :: []) [box b3 26 t.cells, box b 3 [.int .i64 lf]] [LtF t]) (fun k => t.kids.length - k) 0 ?_ ?_
    · refine ⟨Nat.zero_le _, left - 1, by omega, by omega, ?_, S.uu, S⟩
      rw [e0, walkF, if_neg (by simpa using h3)]; rfl
    · clear S
      rintro k a w ⟨hk, lf, hlf, hlf', hrel, uu, S⟩
      refine c_seq ?_
      refine c_region ?_
      refine sq S ?_; clear S; intro a S
      refine wl_nil ?_
      refine xtn ?_
      refine c_seq ?_
      refine c_cond S (fun h5 => ?_) (fun h5 => ?_)
      · refine c_skip ?_
        refine xtn ?_
        refine c_seq ?_
        refine c_block ?_
        refine c_seq ?_
        refine c_region ?_
        have hkl : k < t.kids.length := by simpa using h5
        obtain ⟨x, ad, hx, hm, hp, hcell, hfx⟩ := LTerm.kid (S.fact (Φ := LtF t) (by simp)) hkl
        replace S := S.add hfx
        refine si S ad hp (by omega) (by omega) ?_; clear S; intro a S
        refine slA x.cells S hcell ?_; clear S; intro a S
        refine sa S ?_; clear S; intro b8 a w S
        refine sw S ?_; clear S; intro a w S
        refine wl_nil ?_
        refine xtn ?_
        refine c_seq ?_
        refine c_region ?_
        iterate 3 (refine sq S ?_; clear S; intro a S)
        rw [w64 (deep + 1) (by omega) (by omega)] at S
        refine sq S ?_; clear S; intro a S
        have hdr : t.kids.drop k = x :: t.kids.drop (k + 1) := by
          rw [List.drop_eq_getElem_cons hkl]; congr 1
          exact (List.getElem?_eq_some_iff.1 hx).2
        rw [hdr, List.map_cons, walkLF] at hrel
        have hb1 := walkF_le x.t (deep + 1) lf
        refine sb S (b := b) (ih x (deep + 1) lf b w (by have := LTerm.kid_lt hm; omega) (by omega) (by have : ¬ 60 < deep := fun h => h3 (.inr (.inl h)); omega) hlf hlf' (S.fb b (by simp)) (S.box b)) ?_; clear S
        rintro v a w ⟨rfl, hcb⟩ hS
        have S := hS [.int .i64 _] _ inferInstance hcb
        clear hS
        refine sq S ?_; clear S; intro a S
        refine wl_nil ?_
        refine xtn ?_
        refine c_cond S (fun h7 => ?_) (fun h7 => ?_)
        · refine c_seq ?_
          refine c_region ?_
          refine sq S ?_; clear S; intro a S
          refine wl_nil ?_
          refine xtn ?_
          refine c_ret ?_
          refine xbr ?_
          iterate 2 (refine xtr ?_)
          refine xbr ?_
          refine xtr ?_
          have hbx := S.box b
          refine fin1 S (fun _ => ?_)
          have h8 : (walkF x.t (deep + 1) lf).1 = false := by simpa using h7
          rw [if_neg (by simp [h8])] at hrel
          rw [← hrel]
          exact ⟨rfl, hbx⟩
        · refine c_skip ?_
          refine xbn ?_
          refine xtn ?_
          refine c_region ?_
          iterate 2 (refine sq S ?_; clear S; intro a S)
          refine wl_nil ?_
          refine xtn ?_
          have h8 : (walkF x.t (deep + 1) lf).1 = true := by simpa using h7
          rw [if_pos h8] at hrel
          replace S := S.sub [box b3 26 t.cells, box b 3 [.int .i64 (walkF x.t (deep + 1) lf).2]] [LtF t]
          rw [w64 ((k : Int) + 1) (by omega) (by omega)] at S
          exact ⟨k + 1, ⟨hkl, _, walkF_ge x.t (deep + 1) lf hlf h8, by omega, hrel, S.uu, S⟩, by omega⟩
      · refine c_exit ?_
        iterate 2 (refine xte ?_)
        refine xbe ?_
        refine xtn ?_
        refine c_seq ?_
        refine c_region ?_
        refine sq S ?_; clear S; intro a S
        refine wl_nil ?_
        refine xtn ?_
        refine c_ret ?_
        have hbx := S.box b
        refine fin1 S (fun _ => ?_)
        have h6 : t.kids.length ≤ k := by simpa using h5
        rw [List.drop_of_length_le h6, List.map_nil, walkLF] at hrel
        rw [← hrel]
        exact ⟨rfl, hbx⟩
end Go.Proofs.YtieeoakdkbackaaGreatDoor

/- Package term: size, Check, Size; the makers of terms. -/
namespace Go.Proofs.YtieeoakdkbackaaGreatDoor
open Go Go.Wk
set_option synthInstance.maxSize 100000
set_option synthInstance.maxHeartbeats 400000
set_option maxRecDepth 100000

def sizeF (t : Term) : Int := if (walkF t 1 1200).1 then 1200 - (walkF t 1 1200).2 else 0
theorem size_c (t : LTerm) (w0 : World) (hf : Stable (fun _ => False) w0 (LtF t)) : Ret Tryz.prog 55 [vL t] w0 (fun _ => False) fun v _ => v = .int .i64 (sizeF t.t) := by
  have h1 := walkF_le t.t 1 1200
  refine enter Tryz.func55 rfl rfl (Wd.begin (fs := [LtF t]) (by simpa using hf)) (fun a S => ?_)
  simp only [Tryz.ntmps55, List.length_cons, List.length_nil, Nat.reduceAdd, Nat.reduceSub, List.replicate_succ, List.replicate_zero, List.cons_append, List.nil_append] at S
  refine c_seq ?_
  refine c_region ?_
  refine sa S ?_; clear S; intro b1 a w S
  refine sq S ?_; clear S; intro a S
  refine wl_nil ?_
  refine xtn ?_
  refine c_seq ?_
  refine c_region ?_
  refine sa S ?_; clear S; intro b3 a w S
  refine sw S ?_; clear S; intro a w S
  refine wl_nil ?_
  refine xtn ?_
  iterate 2 (refine c_seq ?_)
  refine c_region ?_
  refine sq S ?_; clear S; intro a S
  refine sb S (b := b3) (walk_c _ t 1 1200 b3 w (Nat.le_refl _) (by omega) (by omega) (by omega) (by omega) (S.fb b3 (by simp)) (S.box b3)) ?_; clear S
  rintro v a w ⟨rfl, hcb⟩ hS
  have S := hS [.int .i64 _] _ inferInstance hcb
  clear hS
  refine sq S ?_; clear S; intro a S
  refine wl_nil ?_
  refine xtn ?_
  refine c_cond S (fun h2 => ?_) (fun h2 => ?_)
  · refine c_seq ?_
    refine c_region ?_
    refine sq S ?_; clear S; intro a S
    refine wl_nil ?_
    refine xtn ?_
    refine c_ret ?_
    refine xtr ?_
    refine end1 S (fun _ => ?_)
    have h3 : (walkF t.t 1 1200).1 = false := by simpa using h2
    simp [sizeF, h3]
  · refine c_skip ?_
    refine xtn ?_
    refine c_seq ?_
    refine c_region ?_
    refine sq S ?_; clear S; intro a S
    have h3 : (walkF t.t 1 1200).1 = true := by simpa using h2
    have h4 := walkF_ge t.t 1 1200 (by omega) h3
    refine sq S ?_; clear S; intro a S
    rw [w64 (1200 - (walkF t.t 1 1200).2) (by omega) (by omega)] at S
    refine sq S ?_; clear S; intro a S
    refine wl_nil ?_
    refine xtn ?_
    refine c_ret ?_
    refine end1 S (fun _ => ?_)
    simp [sizeF, h3]
instance {t : LTerm} {bs fs} [HasT fs t] : CallV Tryz.prog 55 [vL t] bs fs (.int .i64 (sizeF t.t)) := ⟨fun w m => size_c t w (m.t0 _)⟩

def checkF (t : Term) : Int := if sizeF t = 0 then 150 else 0
theorem check_c (t : LTerm) (w0 : World) (hf : Stable (fun _ => False) w0 (LtF t)) : Ret Tryz.prog 20 [vL t] w0 (fun _ => False) fun v _ => v = .int .i64 (checkF t.t) := by
  refine enter Tryz.func20 rfl rfl (Wd.begin (fs := [LtF t]) (by simpa using hf)) (fun a S => ?_)
  simp only [Tryz.ntmps20, List.length_cons, List.length_nil, Nat.reduceAdd, Nat.reduceSub, List.replicate_succ, List.replicate_zero, List.cons_append, List.nil_append] at S
  refine c_seq ?_
  refine c_region ?_
  refine sa S ?_; clear S; intro b1 a w S
  refine sq S ?_; clear S; intro a S
  refine wl_nil ?_
  refine xtn ?_
  iterate 2 (refine c_seq ?_)
  refine c_region ?_
  refine sq S ?_; clear S; intro a S
  refine sc S ?_; clear S; intro a w S
  refine sq S ?_; clear S; intro a S
  refine wl_nil ?_
  refine xtn ?_
  refine c_cond S (fun h1 => ?_) (fun h1 => ?_)
  · refine c_seq ?_
    refine c_region ?_
    refine sq S ?_; clear S; intro a S
    refine wl_nil ?_
    refine xtn ?_
    refine c_ret ?_
    refine xtr ?_
    refine end1 S (fun _ => ?_)
    simp at h1
    simp [checkF, h1]
  · refine c_skip ?_
    refine xtn ?_
    refine c_seq ?_
    refine c_region ?_
    refine sq S ?_; clear S; intro a S
    refine wl_nil ?_
    refine xtn ?_
    refine c_ret ?_
    refine end1 S (fun _ => ?_)
    simp at h1
    simp [checkF, h1]
instance {t : LTerm} {bs fs} [HasT fs t] : CallV Tryz.prog 20 [vL t] bs fs (.int .i64 (checkF t.t)) := ⟨fun w m => check_c t w (m.t0 _)⟩

theorem text_c (s : List UInt8) (w0 : World) : Ret Tryz.prog 43 [str s] w0 (fun _ => False) fun v _ => v = vL (.mk 1 0 0 s none 0 []) := by
  refine enter Tryz.func43 rfl rfl (Wd.start w0) (fun a S => ?_)
  simp only [Tryz.ntmps43, List.length_cons, List.length_nil, Nat.reduceAdd, Nat.reduceSub, List.replicate_succ, List.replicate_zero, List.cons_append, List.nil_append] at S
  refine c_seq ?_
  refine c_region ?_
  refine sa S ?_; clear S; intro b2 a w S
  refine wl_nil ?_
  refine xtn ?_
  refine c_seq ?_
  refine c_region ?_
  iterate 2 (refine sq S ?_; clear S; intro a S)
  refine sw S ?_; clear S; intro a w S
  refine wl_nil ?_
  refine xtn ?_
  refine c_ret ?_
  refine end1 S (fun _ => ?_)
  rfl
instance {s : List UInt8} {bs fs} : CallV Tryz.prog 43 [str s] bs fs (vL (textL s)) := ⟨fun w _ => text_c s w⟩
theorem fresh_c (u n : Int) (w0 : World) : Ret Tryz.prog 37 [.int .i64 u, .int .i64 n] w0 (fun _ => False) fun v _ => v = vL (.mk 2 u n [] none 0 []) := by
  refine enter Tryz.func37 rfl rfl (Wd.start w0) (fun a S => ?_)
  simp only [Tryz.ntmps37, List.length_cons, List.length_nil, Nat.reduceAdd, Nat.reduceSub, List.replicate_succ, List.replicate_zero, List.cons_append, List.nil_append] at S
  refine c_seq ?_
  refine c_region ?_
  refine sa S ?_; clear S; intro b4 a w S
  refine wl_nil ?_
  refine xtn ?_
  refine c_seq ?_
  refine c_region ?_
  iterate 3 (refine sq S ?_; clear S; intro a S)
  refine sw S ?_; clear S; intro a w S
  refine wl_nil ?_
  refine xtn ?_
  refine c_ret ?_
  refine end1 S (fun _ => ?_)
  rfl
instance {u n : Int} {bs fs} : CallV Tryz.prog 37 [.int .i64 u, .int .i64 n] bs fs (vL (freshL u n)) := ⟨fun w _ => fresh_c u n w⟩
theorem of_c (k : Int) (p : Option Addr) (n c : Nat) (w0 : World) : Ret Tryz.prog 59 [.int .i64 k, .slice p n c] w0 (fun _ => False) fun v _ => v = .agg #[.int .i64 k, .int .i64 0, .int .i64 0, str [], .slice p n c] := by
  refine enter Tryz.func59 rfl rfl (Wd.start w0) (fun a S => ?_)
  simp only [Tryz.ntmps59, List.length_cons, List.length_nil, Nat.reduceAdd, Nat.reduceSub, List.replicate_succ, List.replicate_zero, List.cons_append, List.nil_append] at S
  refine c_seq ?_
  refine c_region ?_
  refine sa S ?_; clear S; intro b4 a w S
  refine wl_nil ?_
  refine xtn ?_
  refine c_seq ?_
  refine c_region ?_
  iterate 3 (refine sq S ?_; clear S; intro a S)
  refine sw S ?_; clear S; intro a w S
  refine wl_nil ?_
  refine xtn ?_
  refine c_ret ?_
  refine end1 S (fun _ => ?_)
  rfl
instance {k : Int} {p : Option Addr} {n c : Nat} {bs fs} : CallV Tryz.prog 59 [.int .i64 k, .slice p n c] bs fs (.agg #[.int .i64 k, .int .i64 0, .int .i64 0, str [], .slice p n c]) := ⟨fun w _ => of_c k p n c w⟩
theorem hash_c (t : LTerm) (M : Nat → Prop) (w0 : World) (hM : ∀ k, M k → k < w0.heap.size) (hf : Stable M w0 (LtF t)) : Ret Tryz.prog 156 [vL t] w0 (fun _ => False) fun v w' => IsT M w' v (.hash t.t) := by
  refine enter Tryz.func156 rfl rfl (Wd.beginM (M := M) (fs := [LtF t]) hM (by simpa using hf)) (fun a S => ?_)
  simp only [Tryz.ntmps156, List.length_cons, List.length_nil, Nat.reduceAdd, Nat.reduceSub, List.replicate_succ, List.replicate_zero, List.cons_append, List.nil_append] at S
  refine c_seq ?_
  refine c_region ?_
  refine sa S ?_; clear S; intro b1 a w S
  refine sa S ?_; clear S; intro b2 a w S
  refine wl_nil ?_
  refine xtn ?_
  refine c_seq ?_
  refine c_region ?_
  refine sq S ?_; clear S; intro a S
  refine sn S ?_; clear S; intro b4 a w S
  refine sc S ?_; clear S; intro a w S
  refine sw S ?_; clear S; intro a w S
  refine wl_nil ?_
  refine xtn ?_
  refine c_ret ?_
  refine end1 S (fun _ => ?_)
  refine ⟨hashL (some ⟨b4, 0, none⟩) t, rfl, rfl, fun w' hw' => ?_⟩
  have h1 := S.laterFact (Φ := LtF t) (by simp) w' hw'
  exact ⟨by simp, by simp [maxLen], LsIn.of_block [t] (S.laterBox hw' b4) (fun x hx => by obtain rfl := List.mem_singleton.1 hx; exact h1)⟩
theorem pair_c (x y : LTerm) (M : Nat → Prop) (w0 : World) (hM : ∀ k, M k → k < w0.heap.size) (hx : Stable M w0 (LtF x)) (hy : Stable M w0 (LtF y)) : Ret Tryz.prog 89 [vL x, vL y] w0 (fun _ => False) fun v w' => IsT M w' v (.pair x.t y.t) := by
  refine enter Tryz.func89 rfl rfl (Wd.beginM (M := M) (fs := [LtF x, LtF y]) hM (by simp; exact ⟨hx, hy⟩)) (fun a S => ?_)
  simp only [Tryz.ntmps89, List.length_cons, List.length_nil, Nat.reduceAdd, Nat.reduceSub, List.replicate_succ, List.replicate_zero, List.cons_append, List.nil_append] at S
  refine c_seq ?_
  refine c_region ?_
  refine sa S ?_; clear S; intro b2 a w S
  refine sa S ?_; clear S; intro b3 a w S
  refine sa S ?_; clear S; intro b4 a w S
  refine wl_nil ?_
  refine xtn ?_
  refine c_seq ?_
  refine c_region ?_
  iterate 2 (refine sq S ?_; clear S; intro a S)
  refine sn S ?_; clear S; intro b7 a w S
  refine sc S ?_; clear S; intro a w S
  refine sw S ?_; clear S; intro a w S
  refine wl_nil ?_
  refine xtn ?_
  refine c_ret ?_
  refine end1 S (fun _ => ?_)
  refine ⟨pairL (some ⟨b7, 0, none⟩) x y, rfl, rfl, fun w' hw' => ?_⟩
  have h1 := S.laterFact (Φ := LtF x) (by simp) w' hw'
  have h2 := S.laterFact (Φ := LtF y) (by simp) w' hw'
  exact ⟨by simp, by simp [maxLen], LsIn.of_block [x, y] (S.laterBox hw' b7) (by simpa using ⟨h1, h2⟩)⟩
end Go.Proofs.YtieeoakdkbackaaGreatDoor

/- Package term: Same. -/
namespace Go.Proofs.YtieeoakdkbackaaGreatDoor
open Go Go.Wk
set_option synthInstance.maxSize 100000
set_option synthInstance.maxHeartbeats 400000
set_option maxRecDepth 100000

mutual
def sameF : Term → Term → Bool
  | .mk k u n s ks, .mk k' u' n' s' ks' => decide (k = k') && decide (u = u') && decide (n = n') && decide (s = s') && sameLF ks ks'
def sameLF : List Term → List Term → Bool
  | [], [] => true
  | a :: l, b :: m => sameF a b && sameLF l m
  | [], _ :: _ => false
  | _ :: _, [] => false
end
mutual
theorem sameF_iff : ∀ a b : Term, sameF a b = true ↔ a = b
  | .mk k u n s ks, .mk k' u' n' s' ks' => by
    have := sameLF_iff ks ks'
    simp [sameF, this, and_assoc]
theorem sameLF_iff : ∀ a b : List Term, sameLF a b = true ↔ a = b
  | [], [] => by simp [sameLF]
  | a :: l, b :: m => by
    have h1 := sameF_iff a b
    have h2 := sameLF_iff l m
    simp [sameLF, h1, h2]
  | [], _ :: _ => by simp [sameLF]
  | _ :: _, [] => by simp [sameLF]
end
theorem sameLF_len {a b : List Term} (h : a.length ≠ b.length) : sameLF a b = false := by
  cases hs : sameLF a b with
  | false => rfl
  | true => exact absurd (by rw [(sameLF_iff a b).1 hs]) h


def SameC (N : Nat) : Prop := ∀ (x y : LTerm) (w : World), SizeOf.sizeOf x ≤ N → Stable (fun _ => False) w (LtF x) → Stable (fun _ => False) w (LtF y) → Ret Tryz.prog 23 [vL x, vL y] w (fun _ => False) fun v _ => v = .bool (sameF x.t y.t)

theorem equal_c (N : Nat) (hS : SameC N) (p q : Option Addr) (c e n m : Nat) (xs ys : List LTerm) (hn : xs.length = n) (hm : ys.length = m) (w0 : World) (hl : n ≤ 9223372036854775807) (hN : ∀ x ∈ xs, SizeOf.sizeOf x ≤ N) (hx : Stable (fun _ => False) w0 (LsF p 0 xs)) (hy : Stable (fun _ => False) w0 (LsF q 0 ys)) :
    Ret Tryz.prog 60 [.slice p n c, .slice q m e, .func (.func 23) #[] #[]] w0 (fun _ => False) fun v _ => v = .bool (sameLF (xs.map LTerm.t) (ys.map LTerm.t)) := by
  refine enter Tryz.func60 rfl rfl (Wd.begin (fs := [LsF p 0 xs, LsF q 0 ys]) (by simp; exact ⟨hx, hy⟩)) (fun a S => ?_)
  simp only [Tryz.ntmps60, List.length_cons, List.length_nil, Nat.reduceAdd, Nat.reduceSub, List.replicate_succ, List.replicate_zero, List.cons_append, List.nil_append] at S
  refine c_seq ?_
  refine c_region ?_
  refine sq S ?_; clear S; intro a S
  refine wl_nil ?_
  refine xtn ?_
  iterate 2 (refine c_seq ?_)
  refine c_region ?_
  iterate 5 (refine sq S ?_; clear S; intro a S)
  refine wl_nil ?_
  refine xtn ?_
  refine c_cond S (fun h1 => ?_) (fun h1 => ?_)
  · refine c_seq ?_
    refine c_region ?_
    refine sq S ?_; clear S; intro a S
    refine wl_nil ?_
    refine xtn ?_
    refine c_ret ?_
    refine xtr ?_
    refine end1 S (fun _ => ?_)
    rw [sameLF_len]
    simp [hn, hm]; simp at h1; omega
  · refine c_skip ?_
    refine xtn ?_
    iterate 2 (refine c_seq ?_)
    refine c_region ?_
    iterate 3 (refine sq S ?_; clear S; intro a S)
    refine wl_nil ?_
    refine xtn ?_
    refine c_block ?_
    obtain rfl : n = m := by simp at h1; omega
    refine c_loop (ι := Nat) (fun k a w => k ≤ n ∧ sameLF ((xs.drop k).map LTerm.t) ((ys.drop k).map LTerm.t) = sameLF (xs.map LTerm.t) (ys.map LTerm.t) ∧ ∃ uu : Nat → Value,  St w0 (fun _ => False) [] a w ((.slice p n c) :: (.slice q n e) :: (.func (.func 23) #[] #[]) :: uu 3 :: uu 4 :: uu 5 :: (.bool false) :: uu 7 :: uu 8 :: uu 9 :: uu 10 :: uu 11 :: uu 12 :: uu 13 :: uu 14 :: (.slice p n c) :: (.int .i64 n) :: (.int .i64 (k : Nat)) :: uu 18 :: uu 19 :: uu 20 :: uu 21 :: uu 22 :: uu 23 :: uu 24 :: uu 25 :: uu 26 :: uu 27 :: uu 28 :: uu 29 :: uu 30 :: uu 31 :: []) [] [LsF p 0 xs, LsF q 0 ys]) (fun k => n - k) 0 ?_ ?_
    · exact ⟨Nat.zero_le _, rfl, S.uu, S⟩
    · clear S
      rintro k a w ⟨hk, hrel, uu, S⟩
      refine c_seq ?_
      refine c_region ?_
      refine sq S ?_; clear S; intro a S
      refine wl_nil ?_
      refine xtn ?_
      refine c_seq ?_
      refine c_cond S (fun h4 => ?_) (fun h4 => ?_)
      · refine c_skip ?_
        refine xtn ?_
        refine c_seq ?_
        refine c_block ?_
        refine c_seq ?_
        refine c_region ?_
        refine sq S ?_; clear S; intro a S
        have hkl : k < n := by simpa using h4
        obtain ⟨x, ad, hx1, hxm, hxd, hp, hcell, hfx⟩ := ls_kid (S.fact (Φ := LsF p 0 xs) (by simp)) (k := k) (by omega)
        replace S := S.add hfx
        refine si S ad hp (by omega) (by omega) ?_; clear S; intro a S
        refine slA x.cells S hcell ?_; clear S; intro a S
        refine sa S ?_; clear S; intro b8 a w S
        refine sq S ?_; clear S; intro a S
        refine sw S ?_; clear S; intro a w S
        refine wl_nil ?_
        refine xtn ?_
        refine c_seq ?_
        refine c_region ?_
        iterate 2 (refine sq S ?_; clear S; intro a S)
        obtain ⟨y, ad', hy1, hym, hyd, hq, hcell', hfy⟩ := ls_kid (S.fact (Φ := LsF q 0 ys) (by simp)) (k := k) (by omega)
        replace S := S.add hfy
        refine si S ad' hq (by omega) (by omega) ?_; clear S; intro a S
        refine slA y.cells S hcell' ?_; clear S; intro a S
        refine sa S ?_; clear S; intro b9 a w S
        refine sw S ?_; clear S; intro a w S
        refine wl_nil ?_
        refine xtn ?_
        refine c_seq ?_
        refine c_region ?_
        iterate 3 (refine sq S ?_; clear S; intro a S)
        rw [hxd, hyd, List.map_cons, List.map_cons, sameLF] at hrel
        refine sr S (hS x y w (hN x hxm) (S.mem.fact0 (LtF x)) (S.mem.fact0 (LtF y))) ?_; clear S; rintro v a w rfl S
        refine sq S ?_; clear S; intro a S
        refine wl_nil ?_
        refine xtn ?_
        refine c_cond S (fun h7 => ?_) (fun h7 => ?_)
        · refine c_seq ?_
          refine c_region ?_
          refine sq S ?_; clear S; intro a S
          refine wl_nil ?_
          refine xtn ?_
          refine c_ret ?_
          refine xbr ?_
          iterate 2 (refine xtr ?_)
          refine xbr ?_
          refine xtr ?_
          refine end1 S (fun _ => ?_)
          have h8 : sameF x.t y.t = false := by simpa using h7
          simp [← hrel, h8]
        · refine c_skip ?_
          refine xbn ?_
          refine xtn ?_
          refine c_region ?_
          iterate 2 (refine sq S ?_; clear S; intro a S)
          refine wl_nil ?_
          refine xtn ?_
          have h8 : sameF x.t y.t = true := by simpa using h7
          rw [h8, Bool.true_and] at hrel
          replace S := S.sub [] [LsF p 0 xs, LsF q 0 ys]
          rw [w64 ((k : Int) + 1) (by omega) (by omega)] at S
          exact ⟨k + 1, ⟨hkl, hrel, S.uu, S⟩, by omega⟩
      · refine c_exit ?_
        iterate 2 (refine xte ?_)
        refine xbe ?_
        refine xtn ?_
        refine c_seq ?_
        refine c_region ?_
        refine sq S ?_; clear S; intro a S
        refine wl_nil ?_
        refine xtn ?_
        refine c_ret ?_
        refine end1 S (fun _ => ?_)
        have h6 : n ≤ k := by simpa using h4
        rw [List.drop_of_length_le (by omega), List.drop_of_length_le (by omega)] at hrel
        simp [← hrel, sameLF]

theorem same_all : ∀ N, SameC N := by
  intro N
  induction N with
  | zero => intro x y w h; cases x; simp at h
  | succ N ih =>
  intro x y w0 hN hx hy
  have e1 := x.t_eq
  have e2 := y.t_eq
  have hq : ∀ {bs fs} [HasT fs x] [HasT fs y], CallV Tryz.prog 60 [.slice x.p x.kids.length x.cap, .slice y.p y.kids.length y.cap, .func (.func 23) #[] #[]] bs fs (.bool (sameLF (x.kids.map LTerm.t) (y.kids.map LTerm.t))) :=
    ⟨fun w m => equal_c N ih x.p y.p x.cap y.cap _ _ x.kids y.kids rfl rfl w (LTerm.len_le hx) (fun z hz => by have := LTerm.kid_lt hz; omega) (ls_of_lt (m.t0 _)) (ls_of_lt (m.t0 _))⟩
  refine enter Tryz.func23 rfl rfl (Wd.begin (fs := [LtF x, LtF y]) (by simp; exact ⟨hx, hy⟩)) (fun a S => ?_)
  simp only [Tryz.ntmps23, List.length_cons, List.length_nil, Nat.reduceAdd, Nat.reduceSub, List.replicate_succ, List.replicate_zero, List.cons_append, List.nil_append] at S
  refine c_seq ?_
  refine c_region ?_
  refine sa S ?_; clear S; intro b2 a w S
  refine sa S ?_; clear S; intro b3 a w S
  refine sq S ?_; clear S; intro a S
  refine wl_nil ?_
  refine xtn ?_
  refine c_seq ?_
  refine c_region ?_
  iterate 6 (refine sq S ?_; clear S; intro a S)
  iterate 5 (refine gQ S ?_; clear S; intro a S)
  iterate 2 (refine sq S ?_; clear S; intro a S)
  iterate 5 (refine gQ S ?_; clear S; intro a S)
  iterate 2 (refine sq S ?_; clear S; intro a S)
  iterate 5 (refine gQ S ?_; clear S; intro a S)
  iterate 2 (refine sq S ?_; clear S; intro a S)
  iterate 4 (refine gQ S ?_; clear S; intro a S)
  refine gC S ?_; clear S; intro a w S
  iterate 2 (refine sq S ?_; clear S; intro a S)
  refine wl_nil ?_
  refine xtn ?_
  refine c_ret ?_
  refine end1 S (fun _ => ?_)
  rw [e1, e2, sameF]
theorem same_c (x y : LTerm) (w : World) (hx : Stable (fun _ => False) w (LtF x)) (hy : Stable (fun _ => False) w (LtF y)) : Ret Tryz.prog 23 [vL x, vL y] w (fun _ => False) fun v _ => v = .bool (sameF x.t y.t) := same_all _ x y w (Nat.le_refl _) hx hy
instance {x y : LTerm} {bs fs} [HasT fs x] [HasT fs y] : CallV Tryz.prog 23 [vL x, vL y] bs fs (.bool (sameF x.t y.t)) := ⟨fun w m => same_c x y w (m.t0 _) (m.t0 _)⟩
end Go.Proofs.YtieeoakdkbackaaGreatDoor

/- Package safehouseref05: what its functions compute. -/
namespace Go.Proofs.YtieeoakdkbackaaGreatDoor
open Go Go.Wk
set_option synthInstance.maxSize 100000
set_option synthInstance.maxHeartbeats 400000
set_option maxRecDepth 100000

def rKids (k : Int) : Int := if k < 1 ∨ 8 < k then -1 else if k ≤ 3 then 0 else if k = 4 ∨ k = 6 then 2 else 1
theorem rkids_c (k : Int) (w : World) : Ret Tryz.prog 157 [.int .i64 k] w (fun _ => False) fun v _ => v = .int .i64 (rKids k) := by
  refine enter Tryz.func157 rfl rfl (Wd.start w) (fun a S => ?_)
  simp only [Tryz.ntmps157, List.length_cons, List.length_nil, Nat.reduceAdd, Nat.reduceSub, List.replicate_succ, List.replicate_zero, List.cons_append, List.nil_append] at S
  refine c_seq ?_
  refine c_region ?_
  refine sq S ?_; clear S; intro a S
  refine wl_nil ?_
  refine xtn ?_
  iterate 2 (refine c_seq ?_)
  refine c_region ?_
  iterate 3 (refine sq S ?_; clear S; intro a S)
  iterate 2 (refine gQ S ?_; clear S; intro a S)
  refine sq S ?_; clear S; intro a S
  refine wl_nil ?_
  refine xtn ?_
  refine c_cond S (fun h1 => ?_) (fun h1 => ?_)
  · refine c_seq ?_
    refine c_region ?_
    refine sq S ?_; clear S; intro a S
    refine wl_nil ?_
    refine xtn ?_
    refine c_ret ?_
    refine xtr ?_
    refine end1 S (fun _ => ?_)
    clear S; congr 1; unfold rKids; simp at *
    (repeat' split) <;> omega
  · refine c_skip ?_
    refine xtn ?_
    iterate 2 (refine c_seq ?_)
    refine c_region ?_
    iterate 2 (refine sq S ?_; clear S; intro a S)
    refine wl_nil ?_
    refine xtn ?_
    refine c_cond S (fun h3 => ?_) (fun h3 => ?_)
    · refine c_seq ?_
      refine c_region ?_
      refine sq S ?_; clear S; intro a S
      refine wl_nil ?_
      refine xtn ?_
      refine c_ret ?_
      refine xtr ?_
      refine end1 S (fun _ => ?_)
      clear S; congr 1; unfold rKids; simp at *
      (repeat' split) <;> omega
    · refine c_skip ?_
      refine xtn ?_
      iterate 2 (refine c_seq ?_)
      refine c_region ?_
      iterate 3 (refine sq S ?_; clear S; intro a S)
      iterate 2 (refine gQ S ?_; clear S; intro a S)
      refine sq S ?_; clear S; intro a S
      refine wl_nil ?_
      refine xtn ?_
      refine c_cond S (fun h5 => ?_) (fun h5 => ?_)
      · refine c_seq ?_
        refine c_region ?_
        refine sq S ?_; clear S; intro a S
        refine wl_nil ?_
        refine xtn ?_
        refine c_ret ?_
        refine xtr ?_
        refine end1 S (fun _ => ?_)
        clear S; congr 1; unfold rKids; simp at *
        (repeat' split) <;> omega
      · refine c_skip ?_
        refine xtn ?_
        refine c_seq ?_
        refine c_region ?_
        refine sq S ?_; clear S; intro a S
        refine wl_nil ?_
        refine xtn ?_
        refine c_ret ?_
        refine end1 S (fun _ => ?_)
        clear S; congr 1; unfold rKids; simp at *
        (repeat' split) <;> omega
instance {k : Int} {bs fs} : CallV Tryz.prog 157 [.int .i64 k] bs fs (.int .i64 (rKids k)) := ⟨fun w _ => rkids_c k w⟩
def rUser (k : Int) : Bool := decide (k = 2) || decide (k = 3) || decide (k = 7) || decide (k = 8)
theorem ruser_c (k : Int) (w : World) : Ret Tryz.prog 158 [.int .i64 k] w (fun _ => False) fun v _ => v = .bool (rUser k) := by
  refine enter Tryz.func158 rfl rfl (Wd.start w) (fun a S => ?_)
  simp only [Tryz.ntmps158, List.length_cons, List.length_nil, Nat.reduceAdd, Nat.reduceSub, List.replicate_succ, List.replicate_zero, List.cons_append, List.nil_append] at S
  refine c_seq ?_
  refine c_region ?_
  refine sq S ?_; clear S; intro a S
  refine wl_nil ?_
  refine xtn ?_
  refine c_seq ?_
  refine c_region ?_
  iterate 3 (refine sq S ?_; clear S; intro a S)
  iterate 2 (refine gQ S ?_; clear S; intro a S)
  iterate 2 (refine sq S ?_; clear S; intro a S)
  iterate 2 (refine gQ S ?_; clear S; intro a S)
  iterate 2 (refine sq S ?_; clear S; intro a S)
  iterate 2 (refine gQ S ?_; clear S; intro a S)
  iterate 2 (refine sq S ?_; clear S; intro a S)
  refine wl_nil ?_
  refine xtn ?_
  refine c_ret ?_
  refine end1 S (fun _ => ?_)
  rfl
instance {k : Int} {bs fs} : CallV Tryz.prog 158 [.int .i64 k] bs fs (.bool (rUser k)) := ⟨fun w _ => ruser_c k w⟩
def rNum (k : Int) : Bool := decide (k = 2) || decide (k = 8)
theorem rnum_c (k : Int) (w : World) : Ret Tryz.prog 159 [.int .i64 k] w (fun _ => False) fun v _ => v = .bool (rNum k) := by
  refine enter Tryz.func159 rfl rfl (Wd.start w) (fun a S => ?_)
  simp only [Tryz.ntmps159, List.length_cons, List.length_nil, Nat.reduceAdd, Nat.reduceSub, List.replicate_succ, List.replicate_zero, List.cons_append, List.nil_append] at S
  refine c_seq ?_
  refine c_region ?_
  refine sq S ?_; clear S; intro a S
  refine wl_nil ?_
  refine xtn ?_
  refine c_seq ?_
  refine c_region ?_
  iterate 3 (refine sq S ?_; clear S; intro a S)
  iterate 2 (refine gQ S ?_; clear S; intro a S)
  iterate 2 (refine sq S ?_; clear S; intro a S)
  refine wl_nil ?_
  refine xtn ?_
  refine c_ret ?_
  refine end1 S (fun _ => ?_)
  rfl
instance {k : Int} {bs fs} : CallV Tryz.prog 159 [.int .i64 k] bs fs (.bool (rNum k)) := ⟨fun w _ => rnum_c k w⟩

def rOne (k u n : Int) (s : List UInt8) (m : Nat) : Bool :=
  !(decide (rKids k < 0) || !decide ((m : Int) = rKids k) || decide (64 < (s.length : Int)) || (!decide (k = 1) && !decide (s = []))) &&
  !(rUser k && (decide (u < 1) || decide (6 < u)) || !rUser k && !decide (u = 0)) &&
  (decide (n = 0) || rNum k && decide (0 < n) && decide (n ≤ 65535))
theorem rone_c (t : LTerm) (w : World) : Ret Tryz.prog 127 [vL t] w (fun _ => False) fun v _ => v = .bool (rOne t.kind t.user t.num t.text t.kids.length) := by
  refine enter Tryz.func127 rfl rfl (Wd.start w) (fun a S => ?_)
  simp only [Tryz.ntmps127, List.length_cons, List.length_nil, Nat.reduceAdd, Nat.reduceSub, List.replicate_succ, List.replicate_zero, List.cons_append, List.nil_append] at S
  refine c_seq ?_
  refine c_region ?_
  refine sa S ?_; clear S; intro b1 a w S
  refine sq S ?_; clear S; intro a S
  refine wl_nil ?_
  refine xtn ?_
  iterate 2 (refine c_seq ?_)
  refine c_drawD [(0, true), (1, true), (2, false), (3, true), (4, true), (5, true), (6, true), (7, true), (8, true), (9, true), (10, false), (11, true), (12, true), (13, true), (14, true), (15, true), (16, true), (17, true), (18, true), (19, true), (20, true), (21, true), (22, true), (23, true), (24, true), (25, true), (26, true), (27, true), (28, true)] [] S ?_; clear S; intro w S
  iterate 2 (refine dq S ?_; clear S; intro a S)
  refine dl ?_
  refine sc S ?_; clear S; intro a w S
  refine de S ?_
  iterate 2 (refine dq S ?_; clear S; intro a S)
  iterate 5 (refine dqG S ?_; clear S; intro a S)
  refine dl ?_
  refine gC S ?_; clear S; intro a w S
  refine de S ?_
  refine dqG S ?_; clear S; intro a S
  iterate 2 (refine dq S ?_; clear S; intro a S)
  iterate 4 (refine dqG S ?_; clear S; intro a S)
  iterate 2 (refine dq S ?_; clear S; intro a S)
  iterate 8 (refine dqG S ?_; clear S; intro a S)
  refine dq S ?_; clear S; intro a S
  refine dn ?_
  refine xtn ?_
  refine c_cond S (fun h1 => ?_) (fun h1 => ?_)
  · refine c_seq ?_
    refine c_region ?_
    refine sq S ?_; clear S; intro a S
    refine wl_nil ?_
    refine xtn ?_
    refine c_ret ?_
    refine xtr ?_
    refine end1 S (fun _ => ?_)
    simp only [rOne, h1]; rfl
  · refine c_skip ?_
    refine xtn ?_
    iterate 2 (refine c_seq ?_)
    refine c_region ?_
    iterate 2 (refine sq S ?_; clear S; intro a S)
    refine sc S ?_; clear S; intro a w S
    refine sq S ?_; clear S; intro a S
    iterate 8 (refine gQ S ?_; clear S; intro a S)
    iterate 2 (refine sq S ?_; clear S; intro a S)
    iterate 2 (refine gQ S ?_; clear S; intro a S)
    refine gC S ?_; clear S; intro a w S
    iterate 6 (refine gQ S ?_; clear S; intro a S)
    refine sq S ?_; clear S; intro a S
    refine wl_nil ?_
    refine xtn ?_
    refine c_cond S (fun h3 => ?_) (fun h3 => ?_)
    · refine c_seq ?_
      refine c_region ?_
      refine sq S ?_; clear S; intro a S
      refine wl_nil ?_
      refine xtn ?_
      refine c_ret ?_
      refine xtr ?_
      refine end1 S (fun _ => ?_)
      simp only [rOne, h3]; simp
    · refine c_skip ?_
      refine xtn ?_
      refine c_seq ?_
      refine c_region ?_
      iterate 4 (refine sq S ?_; clear S; intro a S)
      iterate 2 (refine gQ S ?_; clear S; intro a S)
      refine gC S ?_; clear S; intro a w S
      iterate 10 (refine gQ S ?_; clear S; intro a S)
      iterate 2 (refine sq S ?_; clear S; intro a S)
      refine wl_nil ?_
      refine xtn ?_
      refine c_ret ?_
      refine end1 S (fun _ => ?_)
      simp only [rOne, h1, h3]; simp
instance {t : LTerm} {bs fs} : CallV Tryz.prog 127 [vL t] bs fs (.bool (rOne t.kind t.user t.num t.text t.kids.length)) := ⟨fun w _ => rone_c t w⟩

mutual
def rSize : Term → Int → Int → Int × Bool
  | .mk k u n s kids, most, deep => if most < 1 ∨ deep < 1 ∨ rOne k u n s kids.length = false then (0, false) else rSizeL kids most deep 1
def rSizeL : List Term → Int → Int → Int → Int × Bool
  | [], _, _, n => (n, true)
  | t :: ts, most, deep, n => if (rSize t (most - n) (deep - 1)).2 then rSizeL ts most deep (n + (rSize t (most - n) (deep - 1)).1) else (0, false)
end
mutual
theorem rSize_le : ∀ (t : Term) (most deep : Int), (rSize t most deep).2 = true → 1 ≤ (rSize t most deep).1 ∧ (rSize t most deep).1 ≤ most
  | .mk k u n s kids, most, deep => by
    intro h
    rw [rSize] at h ⊢
    split at h
    · simp at h
    · rename_i hc
      rw [if_neg hc]
      exact rSizeL_le kids most deep 1 (by omega) (by omega) h
theorem rSizeL_le : ∀ (ts : List Term) (most deep n : Int), 1 ≤ n → n ≤ most → (rSizeL ts most deep n).2 = true → 1 ≤ (rSizeL ts most deep n).1 ∧ (rSizeL ts most deep n).1 ≤ most
  | [], most, deep, n => by intro h1 h2 _; simp [rSizeL]; omega
  | t :: ts, most, deep, n => by
    intro h1 h2 h
    rw [rSizeL] at h ⊢
    split at h
    · rename_i hc
      rw [if_pos hc]
      have := rSize_le t (most - n) (deep - 1) hc
      exact rSizeL_le ts most deep _ (by omega) (by omega) h
    · simp at h
end
theorem rsize_c (N : Nat) : ∀ (t : LTerm) (most deep : Int) (w0 : World), SizeOf.sizeOf t ≤ N → most ≤ 1200 → -1200 ≤ most → deep ≤ 60 → -60 ≤ deep → Stable (fun _ => False) w0 (LtF t) →
    Ret Tryz.prog 78 [vL t, .int .i64 most, .int .i64 deep] w0 (fun _ => False) fun v _ => v = .tuple ⟨[.int .i64 (rSize t.t most deep).1, .bool (rSize t.t most deep).2]⟩ := by
  induction N with
  | zero => intro t _ _ _ h; cases t; simp at h
  | succ N ih =>
  intro t most deep w0 hN hm hm' hd hd' hf
  have e0 := t.t_eq
  have hlen := LTerm.len_le hf
  refine enter Tryz.func78 rfl rfl (Wd.begin (fs := [LtF t]) (by simpa using hf)) (fun a S => ?_)
  simp only [Tryz.ntmps78, List.length_cons, List.length_nil, Nat.reduceAdd, Nat.reduceSub, List.replicate_succ, List.replicate_zero, List.cons_append, List.nil_append] at S
  refine c_seq ?_
  refine c_region ?_
  refine sa S ?_; clear S; intro b3 a w S
  iterate 2 (refine sq S ?_; clear S; intro a S)
  refine wl_nil ?_
  refine xtn ?_
  iterate 2 (refine c_seq ?_)
  refine c_region ?_
  iterate 3 (refine sq S ?_; clear S; intro a S)
  iterate 2 (refine gQ S ?_; clear S; intro a S)
  iterate 2 (refine sq S ?_; clear S; intro a S)
  refine gQ S ?_; clear S; intro a S
  refine gC S ?_; clear S; intro a w S
  refine gQ S ?_; clear S; intro a S
  refine sq S ?_; clear S; intro a S
  refine wl_nil ?_
  refine xtn ?_
  refine c_cond S (fun h1 => ?_) (fun h1 => ?_)
  · refine c_seq ?_
    refine c_region ?_
    iterate 2 (refine sq S ?_; clear S; intro a S)
    refine wl_nil ?_
    refine xtn ?_
    refine c_ret ?_
    refine xtr ?_
    refine end2 S (fun _ => ?_)
    have h3 : most < 1 ∨ deep < 1 ∨ rOne t.kind t.user t.num t.text t.kids.length = false := by simpa [or_assoc] using h1
    rw [e0, rSize, if_pos (by simpa using h3)]
  · refine c_skip ?_
    refine xtn ?_
    refine c_seq ?_
    refine c_region ?_
    refine sq S ?_; clear S; intro a S
    refine wl_nil ?_
    refine xtn ?_
    iterate 2 (refine c_seq ?_)
    refine c_region ?_
    refine sq S ?_; clear S; intro a S
    refine wl_nil ?_
    refine xtn ?_
    refine c_block ?_
    have h3 : ¬ (most < 1 ∨ deep < 1 ∨ rOne t.kind t.user t.num t.text t.kids.length = false) := by simpa [and_assoc] using h1
    have h4 : 1 ≤ most ∧ 1 ≤ deep := by omega
    refine c_loop (ι := Nat) (fun k a w => k ≤ t.kids.length ∧ ∃ n : Int, 1 ≤ n ∧ n ≤ most ∧ rSizeL ((t.kids.drop k).map LTerm.t) most deep n = rSize t.t most deep ∧ ∃ uu : Nat → Value,  St w0 (fun _ => False) [] a w ((vL t) :: (.int .i64 most) :: (.int .i64 deep) :: (.pointer (some ⟨b3, 0, none⟩)) :: uu 4 :: uu 5 :: (.int .i64 0) :: (.bool false) :: (.int .i64 n) :: (.int .i64 (k : Nat)) :: uu 10 :: uu 11 :: uu 12 :: uu 13 :: uu 14 :: uu 15 :: uu 16 :: uu 17 :: uu 18 :: uu 19 :: uu 20 :: uu 21 :: uu 22 :: uu 23 :: uu 24 :: uu 25 :: uu 26 :: uu 27 :: uu 28 :: uu 29 :: uu 30 :: uu 31 :: uu 32 :: uu 33 :: uu 34 :: uu 35 :: uu 36 :: uu 37 :: uu 38 :: uu 39 :: uu 40 :: uu 41 :: uu 42 :: uu 43 :: uu 44 :: uu 45 :: uu 46 :: uu 47 :: uu 48 :: uu 49 :: []) [box b3 26 t.cells] [LtF t]) (fun k => t.kids.length - k) 0 ?_ ?_
    · refine ⟨Nat.zero_le _, 1, by omega, by omega, ?_, S.uu, S⟩
      rw [e0, rSize, if_neg (by simpa using h3)]; rfl
    · clear S
      rintro k a w ⟨hk, n, hn1, hn2, hrel, uu, S⟩
      iterate 2 (refine c_seq ?_)
      refine c_region ?_
      iterate 5 (refine sq S ?_; clear S; intro a S)
      refine wl_nil ?_
      refine xtn ?_
      refine c_cond S (fun h5 => ?_) (fun h5 => ?_)
      · refine c_skip ?_
        refine xtn ?_
        refine c_seq ?_
        refine c_block ?_
        refine c_seq ?_
        refine c_region ?_
        have hkl : k < t.kids.length := by simpa using h5
        have hK : KLt k t.kids.length := ⟨hkl⟩
        iterate 8 (refine sq S ?_; clear S; intro a S)
        rw [w64 (most - n) (by omega) (by omega)] at S
        iterate 2 (refine sq S ?_; clear S; intro a S)
        rw [w64 (deep - 1) (by omega) (by omega)] at S
        rw [nth_drop hkl, List.map_cons, rSizeL] at hrel
        refine sr S (ih (nthL t.kids k) (most - n) (deep - 1) w (by have := LTerm.kid_lt (nth_mem hkl); omega) (by omega) (by omega) (by omega) (by omega) (S.t0 _)) ?_; clear S; rintro _ a w rfl S
        iterate 5 (refine sq S ?_; clear S; intro a S)
        refine wl_nil ?_
        refine xtn ?_
        iterate 2 (refine c_seq ?_)
        refine c_region ?_
        iterate 2 (refine sq S ?_; clear S; intro a S)
        refine wl_nil ?_
        refine xtn ?_
        refine c_cond S (fun h8 => ?_) (fun h8 => ?_)
        · refine c_seq ?_
          refine c_region ?_
          iterate 2 (refine sq S ?_; clear S; intro a S)
          refine wl_nil ?_
          refine xtn ?_
          refine c_ret ?_
          refine xtr ?_
          refine xbr ?_
          iterate 2 (refine xtr ?_)
          refine xbr ?_
          refine xtr ?_
          refine end2 S (fun _ => ?_)
          have h9 : (rSize (nthL t.kids k).t (most - n) (deep - 1)).2 = false := by simpa using h8
          rw [if_neg (by simp [h9])] at hrel
          rw [← hrel]
        · refine c_skip ?_
          refine xtn ?_
          refine c_region ?_
          iterate 2 (refine sq S ?_; clear S; intro a S)
          have h9 : (rSize (nthL t.kids k).t (most - n) (deep - 1)).2 = true := by simpa using h8
          have h10 := rSize_le _ _ _ h9
          rw [if_pos h9] at hrel
          refine sq S ?_; clear S; intro a S
          rw [w64 (n + (rSize (nthL t.kids k).t (most - n) (deep - 1)).1) (by omega) (by omega)] at S
          refine sq S ?_; clear S; intro a S
          refine wl_nil ?_
          refine xbn ?_
          refine xtn ?_
          refine c_region ?_
          iterate 3 (refine sq S ?_; clear S; intro a S)
          refine wl_nil ?_
          refine xtn ?_
          rw [w64 ((k : Int) + 1) (by omega) (by omega)] at S
          exact ⟨k + 1, ⟨hkl, _, by omega, by omega, hrel, S.uu, S⟩, by omega⟩
      · refine c_exit ?_
        iterate 2 (refine xte ?_)
        refine xbe ?_
        refine xtn ?_
        refine c_seq ?_
        refine c_region ?_
        iterate 3 (refine sq S ?_; clear S; intro a S)
        refine wl_nil ?_
        refine xtn ?_
        refine c_ret ?_
        refine end2 S (fun _ => ?_)
        have h6 : t.kids.length ≤ k := by simpa using h5
        rw [List.drop_of_length_le h6, List.map_nil, rSizeL] at hrel
        rw [← hrel]
def rightF (t : Term) : Bool := (rSize t 1200 60).2
theorem right_c (t : LTerm) (w0 : World) (hf : Stable (fun _ => False) w0 (LtF t)) : Ret Tryz.prog 31 [vL t] w0 (fun _ => False) fun v _ => v = .bool (rightF t.t) := by
  refine enter Tryz.func31 rfl rfl (Wd.begin (fs := [LtF t]) (by simpa using hf)) (fun a S => ?_)
  simp only [Tryz.ntmps31, List.length_cons, List.length_nil, Nat.reduceAdd, Nat.reduceSub, List.replicate_succ, List.replicate_zero, List.cons_append, List.nil_append] at S
  refine c_seq ?_
  refine c_region ?_
  refine sa S ?_; clear S; intro b1 a w S
  refine sq S ?_; clear S; intro a S
  refine wl_nil ?_
  refine xtn ?_
  refine c_seq ?_
  refine c_region ?_
  refine sq S ?_; clear S; intro a S
  refine sr S (rsize_c _ t 1200 60 w (Nat.le_refl _) (by omega) (by omega) (by omega) (by omega) (S.t0 _)) ?_; clear S; rintro _ a w rfl S
  iterate 5 (refine sq S ?_; clear S; intro a S)
  refine wl_nil ?_
  refine xtn ?_
  refine c_seq ?_
  refine c_region ?_
  iterate 2 (refine sq S ?_; clear S; intro a S)
  refine wl_nil ?_
  refine xtn ?_
  refine c_ret ?_
  refine end1 S (fun _ => ?_)
  rfl
instance {t : LTerm} {bs fs} [HasT fs t] : CallV Tryz.prog 31 [vL t] bs fs (.bool (rightF t.t)) := ⟨fun w m => right_c t w (m.t0 _)⟩
end Go.Proofs.YtieeoakdkbackaaGreatDoor

/- term.Check is the document's answer. -/
namespace Go.Proofs.YtieeoakdkbackaaGreatDoor
open Go Go.Wk
set_option maxRecDepth 100000

theorem plain_one (k u n : Int) (s : List UInt8) (m : Nat) : plainF k u n s m = rOne k u n s m := by
  by_cases hk : 1 ≤ k ∧ k ≤ 8
  · obtain ⟨h1, h2⟩ := hk
    have hk8 : k = 1 ∨ k = 2 ∨ k = 3 ∨ k = 4 ∨ k = 5 ∨ k = 6 ∨ k = 7 ∨ k = 8 := by omega
    rcases hk8 with rfl | rfl | rfl | rfl | rfl | rfl | rfl | rfl <;>
      (simp only [plainF, rOne, show fieldsOf 1 = 1 from rfl, show fieldsOf 2 = 6 from rfl, show fieldsOf 3 = 2 from rfl, show fieldsOf 4 = 16 from rfl, show fieldsOf 5 = 8 from rfl, show fieldsOf 6 = 16 from rfl, show fieldsOf 7 = 10 from rfl, show fieldsOf 8 = 14 from rfl,
        show kidsF 1 = 0 from by decide, show kidsF 6 = 0 from by decide, show kidsF 2 = 0 from by decide, show kidsF 16 = 2 from by decide, show kidsF 8 = 1 from by decide, show kidsF 10 = 1 from by decide, show kidsF 14 = 1 from by decide,
        show rKids 1 = 0 from rfl, show rKids 2 = 0 from rfl, show rKids 3 = 0 from rfl, show rKids 4 = 2 from rfl, show rKids 5 = 1 from rfl, show rKids 6 = 2 from rfl, show rKids 7 = 1 from rfl, show rKids 8 = 1 from rfl,
        show hasF 1 1 = true from by decide, show hasF 1 2 = false from by decide, show hasF 1 4 = false from by decide,
        show hasF 6 1 = false from by decide, show hasF 6 2 = true from by decide, show hasF 6 4 = true from by decide,
        show hasF 2 1 = false from by decide, show hasF 2 2 = true from by decide, show hasF 2 4 = false from by decide,
        show hasF 16 1 = false from by decide, show hasF 16 2 = false from by decide, show hasF 16 4 = false from by decide,
        show hasF 8 1 = false from by decide, show hasF 8 2 = false from by decide, show hasF 8 4 = false from by decide,
        show hasF 10 1 = false from by decide, show hasF 10 2 = true from by decide, show hasF 10 4 = false from by decide,
        show hasF 14 1 = false from by decide, show hasF 14 2 = true from by decide, show hasF 14 4 = true from by decide,
        show rUser 1 = false from rfl, show rUser 2 = true from rfl, show rUser 3 = true from rfl, show rUser 4 = false from rfl, show rUser 5 = false from rfl, show rUser 6 = false from rfl, show rUser 7 = true from rfl, show rUser 8 = true from rfl,
        show rNum 1 = false from rfl, show rNum 2 = true from rfl, show rNum 3 = false from rfl, show rNum 4 = false from rfl, show rNum 5 = false from rfl, show rNum 6 = false from rfl, show rNum 7 = false from rfl, show rNum 8 = true from rfl, knownF]
       rw [Bool.eq_iff_iff]
       simp
       try omega)
  · have h1 : fieldsOf k = 0 := by
      unfold fieldsOf; (repeat' split) <;> omega
    have h2 : rKids k = -1 := by
      unfold rKids; rw [if_pos]; omega
    simp [plainF, rOne, h1, h2]
mutual
theorem walk_size : ∀ (t : Term) (deep left : Int), (walkF t deep left).1 = (rSize t left (61 - deep)).2 ∧ ((walkF t deep left).1 = true → (walkF t deep left).2 = left - (rSize t left (61 - deep)).1)
  | .mk k u n s kids, deep, left => by
    rw [walkF, rSize, plain_one]
    have e : (left - 1 < 0 ∨ 60 < deep ∨ rOne k u n s kids.length = false) ↔ (left < 1 ∨ 61 - deep < 1 ∨ rOne k u n s kids.length = false) := or_congr (by omega) (or_congr (by omega) Iff.rfl)
    by_cases hc : left - 1 < 0 ∨ 60 < deep ∨ rOne k u n s kids.length = false
    · rw [if_pos hc, if_pos (e.1 hc)]; simp
    · rw [if_neg hc, if_neg (fun h => hc (e.2 h))]
      have := walk_sizeL kids (deep + 1) left 1
      rw [show 61 - (deep + 1) + 1 = 61 - deep from by omega] at this
      exact this
theorem walk_sizeL : ∀ (ts : List Term) (deep left n : Int), (walkLF ts deep (left - n)).1 = (rSizeL ts left (61 - deep + 1) n).2 ∧ ((walkLF ts deep (left - n)).1 = true → (walkLF ts deep (left - n)).2 = left - (rSizeL ts left (61 - deep + 1) n).1)
  | [], deep, left, n => by simp [walkLF, rSizeL]
  | t :: ts, deep, left, n => by
    rw [walkLF, rSizeL]
    have h1 := walk_size t deep (left - n)
    rw [show 61 - deep + 1 - 1 = 61 - deep from by omega]
    cases hb : (rSize t (left - n) (61 - deep)).2 with
    | false =>
      rw [hb] at h1
      simp [h1.1]
    | true =>
      rw [hb] at h1
      rw [if_pos h1.1, if_pos rfl, h1.2 h1.1]
      have h2 := walk_sizeL ts deep left (n + (rSize t (left - n) (61 - deep)).1)
      rw [show left - (n + (rSize t (left - n) (61 - deep)).1) = left - n - (rSize t (left - n) (61 - deep)).1 from by omega] at h2
      exact h2
end
theorem size_ref (t : Term) : sizeF t = if rightF t then (rSize t 1200 60).1 else 0 := by
  have := walk_size t 1 1200
  rw [show (61 : Int) - 1 = 60 from rfl] at this
  unfold sizeF rightF
  rw [this.1]
  split
  · rename_i h; rw [this.2 (by rw [this.1]; exact h)]; omega
  · rfl
theorem check_right (t : Term) : checkF t = if rightF t then 0 else 150 := by
  have h := size_ref t
  unfold checkF
  cases hr : rightF t with
  | false => rw [hr] at h; simp at h; simp [h]
  | true =>
    rw [hr] at h; simp at h
    have := rSize_le t 1200 60 hr
    rw [if_neg (by omega), if_pos rfl]
theorem check_zero {t : Term} : checkF t = 0 ↔ rightF t = true := by
  rw [check_right]; cases rightF t <;> simp
end Go.Proofs.YtieeoakdkbackaaGreatDoor

/- Package regress. -/
namespace Go.Proofs.YtieeoakdkbackaaGreatDoor
open Go Go.Wk
set_option synthInstance.maxSize 100000
set_option synthInstance.maxHeartbeats 400000
set_option maxRecDepth 100000

def stateS : List UInt8 := [115, 116, 97, 116, 101]
def keyS : List UInt8 := [107, 101, 121]
def stepF (t : Term) : Term := .hash (.pair (.text stateS) t)
def lastF (t : Term) : Term := .hash (.pair (.text keyS) t)

def epochF (n : Int) : Bool := decide (1 ≤ n) && decide (n ≤ 8)
def backF (t : Term) (m n : Int) : Term × Int :=
  if checkF t ≠ 0 then (zeroT, 150)
  else if epochF m = false ∨ epochF n = false ∨ m < n then (zeroT, 2)
  else if checkF (iter stepF (m - n).toNat t) = 0 then (iter stepF (m - n).toNat t, 0) else (zeroT, checkF (iter stepF (m - n).toNat t))
def keyF (t : Term) : Term × Int :=
  if checkF t ≠ 0 then (zeroT, 150) else if checkF (lastF t) = 0 then (lastF t, 0) else (zeroT, checkF (lastF t))
end Go.Proofs.YtieeoakdkbackaaGreatDoor
