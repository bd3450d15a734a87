/- 2: a part of this claim's texts, joined: Inst TermA TermB TermC TermD. -/
import Derived.Test.YtmngicgdgpimlaaGreatDoorPa1
import Derived.Test.YtmngicgdgpimlaaGreatDoorRows
/- The instances of this seat's program (types, fields, functions) for the walker; written by gen_inst.py. -/
namespace Go.Proofs.YtmngicgdgpimlaaGreatDoor
open Go Go.Wk
section
set_option maxRecDepth 100000
instance : AggT Tryz.prog 1 false := aggT_of (by kernel_rfl)
instance : TI Tryz.prog 1 (.nilFunc) 1 8 := ti_of (by kernel_rfl)
instance : Und Tryz.prog 2 (.int .i64) := ⟨Tryz.underlying2⟩
instance : TI Tryz.prog 2 (.int .i64 0) 1 8 := ti_of (by kernel_rfl)
instance : Und Tryz.prog 3 (.int .i64) := ⟨Tryz.underlying3⟩
instance : TI Tryz.prog 3 (.int .i64 0) 1 8 := ti_of (by kernel_rfl)
instance : Und Tryz.prog 4 (.bool) := ⟨Tryz.underlying4⟩
instance : TI Tryz.prog 4 (.bool false) 1 1 := ti_of (by kernel_rfl)
instance : Und Tryz.prog 5 (.int .u8) := ⟨Tryz.underlying5⟩
instance : TI Tryz.prog 5 (.int .u8 0) 1 1 := ti_of (by kernel_rfl)
instance : Und Tryz.prog 9 (.string) := ⟨Tryz.underlying9⟩
instance : TI Tryz.prog 9 (.string ⟨#[]⟩) 1 16 := ti_of (by kernel_rfl)
instance : Und Tryz.prog 12 (.int .u64) := ⟨Tryz.underlying12⟩
instance : TI Tryz.prog 12 (.int .u64 0) 1 8 := ti_of (by kernel_rfl)
instance : AggT Tryz.prog 20 false := aggT_of (by kernel_rfl)
instance : TI Tryz.prog 20 (.nilIface) 1 16 := ti_of (by kernel_rfl)
instance : Und Tryz.prog 21 (.int .i32) := ⟨Tryz.underlying21⟩
instance : TI Tryz.prog 21 (.int .i32 0) 1 4 := ti_of (by kernel_rfl)
instance : Und Tryz.prog 22 (.slice 28) := ⟨Tryz.underlying22⟩
instance : TI Tryz.prog 22 (.slice none 0 0) 1 24 := ti_of (by kernel_rfl)
instance : AggT Tryz.prog 23 false := aggT_of (by kernel_rfl)
instance : TI Tryz.prog 23 (.nilFunc) 1 8 := ti_of (by kernel_rfl)
instance : Und Tryz.prog 24 (.slice 26) := ⟨Tryz.underlying24⟩
instance : TI Tryz.prog 24 (.slice none 0 0) 1 24 := ti_of (by kernel_rfl)
instance : AggT Tryz.prog 25 true := aggT_of (by kernel_rfl)
instance : Fld Tryz.prog 25 0 0 3 := fld_of (by kernel_rfl)
instance : Fld Tryz.prog 25 1 1 3 := fld_of (by kernel_rfl)
instance : Fld Tryz.prog 25 2 2 3 := fld_of (by kernel_rfl)
instance : Fld Tryz.prog 25 3 3 9 := fld_of (by kernel_rfl)
instance : Fld Tryz.prog 25 4 4 24 := fld_of (by kernel_rfl)
instance : PlOf Tryz.prog 25 [(0, 1), (1, 1), (2, 1), (3, 1), (4, 1)] := plof_of (by kernel_rfl)
instance : TI Tryz.prog 25 (.agg #[.int .i64 0, .int .i64 0, .int .i64 0, .string ⟨#[]⟩, .slice none 0 0]) 5 64 := ti_of (by kernel_rfl)
instance : AggT Tryz.prog 26 true := aggT_of (by kernel_rfl)
instance : Fld Tryz.prog 26 0 0 3 := fld_of (by kernel_rfl)
instance : Fld Tryz.prog 26 1 1 3 := fld_of (by kernel_rfl)
instance : Fld Tryz.prog 26 2 2 3 := fld_of (by kernel_rfl)
instance : Fld Tryz.prog 26 3 3 9 := fld_of (by kernel_rfl)
instance : Fld Tryz.prog 26 4 4 24 := fld_of (by kernel_rfl)
instance : PlOf Tryz.prog 26 [(0, 1), (1, 1), (2, 1), (3, 1), (4, 1)] := plof_of (by kernel_rfl)
instance : TI Tryz.prog 26 (.agg #[.int .i64 0, .int .i64 0, .int .i64 0, .string ⟨#[]⟩, .slice none 0 0]) 5 64 := ti_of (by kernel_rfl)
instance : AggT Tryz.prog 27 true := aggT_of (by kernel_rfl)
instance : Fld Tryz.prog 27 0 0 3 := fld_of (by kernel_rfl)
instance : Fld Tryz.prog 27 1 1 26 := fld_of (by kernel_rfl)
instance : Fld Tryz.prog 27 2 6 26 := fld_of (by kernel_rfl)
instance : PlOf Tryz.prog 27 [(0, 1), (1, 5), (6, 5)] := plof_of (by kernel_rfl)
instance : TI Tryz.prog 27 (.agg #[.int .i64 0, .int .i64 0, .int .i64 0, .int .i64 0, .string ⟨#[]⟩, .slice none 0 0, .int .i64 0, .int .i64 0, .int .i64 0, .string ⟨#[]⟩, .slice none 0 0]) 11 136 := ti_of (by kernel_rfl)
instance : AggT Tryz.prog 28 true := aggT_of (by kernel_rfl)
instance : Fld Tryz.prog 28 0 0 3 := fld_of (by kernel_rfl)
instance : Fld Tryz.prog 28 1 1 26 := fld_of (by kernel_rfl)
instance : Fld Tryz.prog 28 2 6 26 := fld_of (by kernel_rfl)
instance : PlOf Tryz.prog 28 [(0, 1), (1, 5), (6, 5)] := plof_of (by kernel_rfl)
instance : TI Tryz.prog 28 (.agg #[.int .i64 0, .int .i64 0, .int .i64 0, .int .i64 0, .string ⟨#[]⟩, .slice none 0 0, .int .i64 0, .int .i64 0, .int .i64 0, .string ⟨#[]⟩, .slice none 0 0]) 11 136 := ti_of (by kernel_rfl)
instance : AggT Tryz.prog 29 false := aggT_of (by kernel_rfl)
instance : TI Tryz.prog 29 (.nilFunc) 1 8 := ti_of (by kernel_rfl)
instance : Und Tryz.prog 30 (.slice 67) := ⟨Tryz.underlying30⟩
instance : TI Tryz.prog 30 (.slice none 0 0) 1 24 := ti_of (by kernel_rfl)
instance : Und Tryz.prog 31 (.int .i64) := ⟨Tryz.underlying31⟩
instance : TI Tryz.prog 31 (.int .i64 0) 1 8 := ti_of (by kernel_rfl)
instance : AggT Tryz.prog 33 false := aggT_of (by kernel_rfl)
instance : TI Tryz.prog 33 (.nilFunc) 1 8 := ti_of (by kernel_rfl)
instance : AggT Tryz.prog 35 false := aggT_of (by kernel_rfl)
instance : TI Tryz.prog 35 (.nilFunc) 1 8 := ti_of (by kernel_rfl)
instance : AggT Tryz.prog 36 false := aggT_of (by kernel_rfl)
instance : TI Tryz.prog 36 (.nilFunc) 1 8 := ti_of (by kernel_rfl)
instance : AggT Tryz.prog 37 false := aggT_of (by kernel_rfl)
instance : TI Tryz.prog 37 (.nilFunc) 1 8 := ti_of (by kernel_rfl)
instance : AggT Tryz.prog 38 false := aggT_of (by kernel_rfl)
instance : TI Tryz.prog 38 (.nilFunc) 1 8 := ti_of (by kernel_rfl)
instance : AggT Tryz.prog 39 false := aggT_of (by kernel_rfl)
instance : TI Tryz.prog 39 (.nilFunc) 1 8 := ti_of (by kernel_rfl)
instance : AggT Tryz.prog 41 false := aggT_of (by kernel_rfl)
instance : TI Tryz.prog 41 (.nilFunc) 1 8 := ti_of (by kernel_rfl)
instance : AggT Tryz.prog 42 false := aggT_of (by kernel_rfl)
instance : TI Tryz.prog 42 (.nilFunc) 1 8 := ti_of (by kernel_rfl)
instance : AggT Tryz.prog 44 false := aggT_of (by kernel_rfl)
instance : TI Tryz.prog 44 (.nilFunc) 1 8 := ti_of (by kernel_rfl)
instance : AggT Tryz.prog 45 false := aggT_of (by kernel_rfl)
instance : TI Tryz.prog 45 (.nilFunc) 1 8 := ti_of (by kernel_rfl)
instance : AggT Tryz.prog 46 false := aggT_of (by kernel_rfl)
instance : TI Tryz.prog 46 (.nilFunc) 1 8 := ti_of (by kernel_rfl)
instance : AggT Tryz.prog 47 false := aggT_of (by kernel_rfl)
instance : TI Tryz.prog 47 (.nilFunc) 1 8 := ti_of (by kernel_rfl)
instance : Und Tryz.prog 48 (.slice 3) := ⟨Tryz.underlying48⟩
instance : TI Tryz.prog 48 (.slice none 0 0) 1 24 := ti_of (by kernel_rfl)
instance : AggT Tryz.prog 49 true := aggT_of (by kernel_rfl)
instance : Fld Tryz.prog 49 0 0 3 := fld_of (by kernel_rfl)
instance : Fld Tryz.prog 49 1 1 3 := fld_of (by kernel_rfl)
instance : Fld Tryz.prog 49 2 2 48 := fld_of (by kernel_rfl)
instance : Fld Tryz.prog 49 3 3 48 := fld_of (by kernel_rfl)
instance : Fld Tryz.prog 49 4 4 48 := fld_of (by kernel_rfl)
instance : PlOf Tryz.prog 49 [(0, 1), (1, 1), (2, 1), (3, 1), (4, 1)] := plof_of (by kernel_rfl)
instance : TI Tryz.prog 49 (.agg #[.int .i64 0, .int .i64 0, .slice none 0 0, .slice none 0 0, .slice none 0 0]) 5 88 := ti_of (by kernel_rfl)
instance : AggT Tryz.prog 50 true := aggT_of (by kernel_rfl)
instance : Fld Tryz.prog 50 0 0 3 := fld_of (by kernel_rfl)
instance : Fld Tryz.prog 50 1 1 3 := fld_of (by kernel_rfl)
instance : Fld Tryz.prog 50 2 2 48 := fld_of (by kernel_rfl)
instance : Fld Tryz.prog 50 3 3 48 := fld_of (by kernel_rfl)
instance : Fld Tryz.prog 50 4 4 48 := fld_of (by kernel_rfl)
instance : PlOf Tryz.prog 50 [(0, 1), (1, 1), (2, 1), (3, 1), (4, 1)] := plof_of (by kernel_rfl)
instance : TI Tryz.prog 50 (.agg #[.int .i64 0, .int .i64 0, .slice none 0 0, .slice none 0 0, .slice none 0 0]) 5 88 := ti_of (by kernel_rfl)
instance : Und Tryz.prog 51 (.slice 48) := ⟨Tryz.underlying51⟩
instance : TI Tryz.prog 51 (.slice none 0 0) 1 24 := ti_of (by kernel_rfl)
instance : AggT Tryz.prog 52 true := aggT_of (by kernel_rfl)
instance : Fld Tryz.prog 52 0 0 9 := fld_of (by kernel_rfl)
instance : Fld Tryz.prog 52 1 1 3 := fld_of (by kernel_rfl)
instance : Fld Tryz.prog 52 2 2 50 := fld_of (by kernel_rfl)
instance : Fld Tryz.prog 52 3 7 51 := fld_of (by kernel_rfl)
instance : Fld Tryz.prog 52 4 8 26 := fld_of (by kernel_rfl)
instance : PlOf Tryz.prog 52 [(0, 1), (1, 1), (2, 5), (7, 1), (8, 5)] := plof_of (by kernel_rfl)
instance : TI Tryz.prog 52 (.agg #[.string ⟨#[]⟩, .int .i64 0, .int .i64 0, .int .i64 0, .slice none 0 0, .slice none 0 0, .slice none 0 0, .slice none 0 0, .int .i64 0, .int .i64 0, .int .i64 0, .string ⟨#[]⟩, .slice none 0 0]) 13 200 := ti_of (by kernel_rfl)
instance : AggT Tryz.prog 53 true := aggT_of (by kernel_rfl)
instance : Fld Tryz.prog 53 0 0 9 := fld_of (by kernel_rfl)
instance : Fld Tryz.prog 53 1 1 3 := fld_of (by kernel_rfl)
instance : Fld Tryz.prog 53 2 2 50 := fld_of (by kernel_rfl)
instance : Fld Tryz.prog 53 3 7 51 := fld_of (by kernel_rfl)
instance : Fld Tryz.prog 53 4 8 26 := fld_of (by kernel_rfl)
instance : PlOf Tryz.prog 53 [(0, 1), (1, 1), (2, 5), (7, 1), (8, 5)] := plof_of (by kernel_rfl)
instance : TI Tryz.prog 53 (.agg #[.string ⟨#[]⟩, .int .i64 0, .int .i64 0, .int .i64 0, .slice none 0 0, .slice none 0 0, .slice none 0 0, .slice none 0 0, .int .i64 0, .int .i64 0, .int .i64 0, .string ⟨#[]⟩, .slice none 0 0]) 13 200 := ti_of (by kernel_rfl)
instance : AggT Tryz.prog 55 false := aggT_of (by kernel_rfl)
instance : TI Tryz.prog 55 (.nilFunc) 1 8 := ti_of (by kernel_rfl)
instance : AggT Tryz.prog 57 false := aggT_of (by kernel_rfl)
instance : TI Tryz.prog 57 (.nilFunc) 1 8 := ti_of (by kernel_rfl)
instance : AggT Tryz.prog 58 false := aggT_of (by kernel_rfl)
instance : TI Tryz.prog 58 (.nilFunc) 1 8 := ti_of (by kernel_rfl)
instance : AggT Tryz.prog 59 false := aggT_of (by kernel_rfl)
instance : TI Tryz.prog 59 (.nilFunc) 1 8 := ti_of (by kernel_rfl)
instance : AggT Tryz.prog 61 false := aggT_of (by kernel_rfl)
instance : TI Tryz.prog 61 (.nilFunc) 1 8 := ti_of (by kernel_rfl)
instance : AggT Tryz.prog 62 false := aggT_of (by kernel_rfl)
instance : TI Tryz.prog 62 (.nilFunc) 1 8 := ti_of (by kernel_rfl)
instance : AggT Tryz.prog 63 false := aggT_of (by kernel_rfl)
instance : TI Tryz.prog 63 (.nilFunc) 1 8 := ti_of (by kernel_rfl)
instance : AggT Tryz.prog 64 false := aggT_of (by kernel_rfl)
instance : TI Tryz.prog 64 (.nilFunc) 1 8 := ti_of (by kernel_rfl)
instance : AggT Tryz.prog 65 false := aggT_of (by kernel_rfl)
instance : TI Tryz.prog 65 (.nilFunc) 1 8 := ti_of (by kernel_rfl)
instance : AggT Tryz.prog 66 true := aggT_of (by kernel_rfl)
instance : Fld Tryz.prog 66 0 0 9 := fld_of (by kernel_rfl)
instance : Fld Tryz.prog 66 1 1 3 := fld_of (by kernel_rfl)
instance : PlOf Tryz.prog 66 [(0, 1), (1, 1)] := plof_of (by kernel_rfl)
instance : TI Tryz.prog 66 (.agg #[.string ⟨#[]⟩, .int .i64 0]) 2 24 := ti_of (by kernel_rfl)
instance : AggT Tryz.prog 67 true := aggT_of (by kernel_rfl)
instance : Fld Tryz.prog 67 0 0 9 := fld_of (by kernel_rfl)
instance : Fld Tryz.prog 67 1 1 3 := fld_of (by kernel_rfl)
instance : PlOf Tryz.prog 67 [(0, 1), (1, 1)] := plof_of (by kernel_rfl)
instance : TI Tryz.prog 67 (.agg #[.string ⟨#[]⟩, .int .i64 0]) 2 24 := ti_of (by kernel_rfl)
instance : AggT Tryz.prog 69 false := aggT_of (by kernel_rfl)
instance : TI Tryz.prog 69 (.nilFunc) 1 8 := ti_of (by kernel_rfl)
instance : Und Tryz.prog 70 (.slice 74) := ⟨Tryz.underlying70⟩
instance : TI Tryz.prog 70 (.slice none 0 0) 1 24 := ti_of (by kernel_rfl)
instance : AggT Tryz.prog 72 false := aggT_of (by kernel_rfl)
instance : TI Tryz.prog 72 (.nilFunc) 1 8 := ti_of (by kernel_rfl)
instance : AggT Tryz.prog 73 true := aggT_of (by kernel_rfl)
instance : Fld Tryz.prog 73 0 0 3 := fld_of (by kernel_rfl)
instance : Fld Tryz.prog 73 1 1 3 := fld_of (by kernel_rfl)
instance : Fld Tryz.prog 73 2 2 26 := fld_of (by kernel_rfl)
instance : PlOf Tryz.prog 73 [(0, 1), (1, 1), (2, 5)] := plof_of (by kernel_rfl)
instance : TI Tryz.prog 73 (.agg #[.int .i64 0, .int .i64 0, .int .i64 0, .int .i64 0, .int .i64 0, .string ⟨#[]⟩, .slice none 0 0]) 7 80 := ti_of (by kernel_rfl)
instance : AggT Tryz.prog 74 true := aggT_of (by kernel_rfl)
instance : Fld Tryz.prog 74 0 0 3 := fld_of (by kernel_rfl)
instance : Fld Tryz.prog 74 1 1 3 := fld_of (by kernel_rfl)
instance : Fld Tryz.prog 74 2 2 26 := fld_of (by kernel_rfl)
instance : PlOf Tryz.prog 74 [(0, 1), (1, 1), (2, 5)] := plof_of (by kernel_rfl)
instance : TI Tryz.prog 74 (.agg #[.int .i64 0, .int .i64 0, .int .i64 0, .int .i64 0, .int .i64 0, .string ⟨#[]⟩, .slice none 0 0]) 7 80 := ti_of (by kernel_rfl)
instance : AggT Tryz.prog 76 false := aggT_of (by kernel_rfl)
instance : TI Tryz.prog 76 (.nilFunc) 1 8 := ti_of (by kernel_rfl)
instance : AggT Tryz.prog 78 false := aggT_of (by kernel_rfl)
instance : TI Tryz.prog 78 (.nilFunc) 1 8 := ti_of (by kernel_rfl)
instance : AggT Tryz.prog 79 false := aggT_of (by kernel_rfl)
instance : TI Tryz.prog 79 (.nilFunc) 1 8 := ti_of (by kernel_rfl)
instance : AggT Tryz.prog 81 false := aggT_of (by kernel_rfl)
instance : TI Tryz.prog 81 (.nilFunc) 1 8 := ti_of (by kernel_rfl)
instance : AggT Tryz.prog 83 false := aggT_of (by kernel_rfl)
instance : TI Tryz.prog 83 (.nilFunc) 1 8 := ti_of (by kernel_rfl)
instance : Und Tryz.prog 84 (.slice 5) := ⟨Tryz.underlying84⟩
instance : TI Tryz.prog 84 (.slice none 0 0) 1 24 := ti_of (by kernel_rfl)
instance : AggT Tryz.prog 85 false := aggT_of (by kernel_rfl)
instance : TI Tryz.prog 85 (.nilFunc) 1 8 := ti_of (by kernel_rfl)
instance : AggT Tryz.prog 86 false := aggT_of (by kernel_rfl)
instance : TI Tryz.prog 86 (.nilFunc) 1 8 := ti_of (by kernel_rfl)
instance : AggT Tryz.prog 87 false := aggT_of (by kernel_rfl)
instance : TI Tryz.prog 87 (.nilFunc) 1 8 := ti_of (by kernel_rfl)
instance : Und Tryz.prog 88 (.map 9 26) := ⟨Tryz.underlying88⟩
instance : TI Tryz.prog 88 (.map none) 1 8 := ti_of (by kernel_rfl)
instance : Und Tryz.prog 89 (.map 9 26) := ⟨Tryz.underlying89⟩
instance : TI Tryz.prog 89 (.map none) 1 8 := ti_of (by kernel_rfl)
instance : AggT Tryz.prog 90 false := aggT_of (by kernel_rfl)
instance : TI Tryz.prog 90 (.nilFunc) 1 8 := ti_of (by kernel_rfl)
instance : Und Tryz.prog 91 (.slice 9) := ⟨Tryz.underlying91⟩
instance : TI Tryz.prog 91 (.slice none 0 0) 1 24 := ti_of (by kernel_rfl)
instance : AggT Tryz.prog 92 false := aggT_of (by kernel_rfl)
instance : TI Tryz.prog 92 (.nilFunc) 1 8 := ti_of (by kernel_rfl)
instance : AggT Tryz.prog 93 false := aggT_of (by kernel_rfl)
instance : TI Tryz.prog 93 (.nilFunc) 1 8 := ti_of (by kernel_rfl)
instance : AggT Tryz.prog 94 false := aggT_of (by kernel_rfl)
instance : TI Tryz.prog 94 (.nilFunc) 1 8 := ti_of (by kernel_rfl)
instance : AggT Tryz.prog 95 false := aggT_of (by kernel_rfl)
instance : TI Tryz.prog 95 (.nilFunc) 1 8 := ti_of (by kernel_rfl)
instance : AggT Tryz.prog 96 false := aggT_of (by kernel_rfl)
instance : TI Tryz.prog 96 (.nilFunc) 1 8 := ti_of (by kernel_rfl)
instance : AggT Tryz.prog 97 false := aggT_of (by kernel_rfl)
instance : TI Tryz.prog 97 (.nilFunc) 1 8 := ti_of (by kernel_rfl)
instance : Und Tryz.prog 98 (.pointer 3) := ⟨Tryz.underlying98⟩
instance : TI Tryz.prog 98 (.pointer none) 1 8 := ti_of (by kernel_rfl)
instance : AggT Tryz.prog 99 true := aggT_of (by kernel_rfl)
instance : PlOf Tryz.prog 99 [] := plof_of (by kernel_rfl)
instance : TI Tryz.prog 99 (.agg #[]) 0 0 := ti_of (by kernel_rfl)
instance : AggT Tryz.prog 100 true := aggT_of (by kernel_rfl)
instance : PlOf Tryz.prog 100 [] := plof_of (by kernel_rfl)
instance : TI Tryz.prog 100 (.agg #[]) 0 0 := ti_of (by kernel_rfl)
instance : AggT Tryz.prog 102 false := aggT_of (by kernel_rfl)
instance : TI Tryz.prog 102 (.nilFunc) 1 8 := ti_of (by kernel_rfl)
instance : Und Tryz.prog 103 (.pointer 110) := ⟨Tryz.underlying103⟩
instance : TI Tryz.prog 103 (.pointer none) 1 8 := ti_of (by kernel_rfl)
instance : AggT Tryz.prog 104 false := aggT_of (by kernel_rfl)
instance : TI Tryz.prog 104 (.nilFunc) 1 8 := ti_of (by kernel_rfl)
instance : AggT Tryz.prog 105 false := aggT_of (by kernel_rfl)
instance : TI Tryz.prog 105 (.nilFunc) 1 8 := ti_of (by kernel_rfl)
instance : AggT Tryz.prog 106 false := aggT_of (by kernel_rfl)
instance : TI Tryz.prog 106 (.nilFunc) 1 8 := ti_of (by kernel_rfl)
instance : AggT Tryz.prog 107 false := aggT_of (by kernel_rfl)
instance : TI Tryz.prog 107 (.nilFunc) 1 8 := ti_of (by kernel_rfl)
instance : AggT Tryz.prog 108 false := aggT_of (by kernel_rfl)
instance : TI Tryz.prog 108 (.nilFunc) 1 8 := ti_of (by kernel_rfl)
instance : AggT Tryz.prog 109 true := aggT_of (by kernel_rfl)
instance : Fld Tryz.prog 109 0 0 24 := fld_of (by kernel_rfl)
instance : PlOf Tryz.prog 109 [(0, 1)] := plof_of (by kernel_rfl)
instance : TI Tryz.prog 109 (.agg #[.slice none 0 0]) 1 24 := ti_of (by kernel_rfl)
instance : AggT Tryz.prog 110 true := aggT_of (by kernel_rfl)
instance : Fld Tryz.prog 110 0 0 24 := fld_of (by kernel_rfl)
instance : PlOf Tryz.prog 110 [(0, 1)] := plof_of (by kernel_rfl)
instance : TI Tryz.prog 110 (.agg #[.slice none 0 0]) 1 24 := ti_of (by kernel_rfl)
instance : AggT Tryz.prog 111 false := aggT_of (by kernel_rfl)
instance : TI Tryz.prog 111 (.nilFunc) 1 8 := ti_of (by kernel_rfl)
instance : AggT Tryz.prog 113 false := aggT_of (by kernel_rfl)
instance : TI Tryz.prog 113 (.nilFunc) 1 8 := ti_of (by kernel_rfl)
instance : AggT Tryz.prog 115 false := aggT_of (by kernel_rfl)
instance : TI Tryz.prog 115 (.nilFunc) 1 8 := ti_of (by kernel_rfl)
instance : AggT Tryz.prog 116 false := aggT_of (by kernel_rfl)
instance : TI Tryz.prog 116 (.nilFunc) 1 8 := ti_of (by kernel_rfl)
instance : AggT Tryz.prog 117 false := aggT_of (by kernel_rfl)
instance : TI Tryz.prog 117 (.nilFunc) 1 8 := ti_of (by kernel_rfl)
instance : AggT Tryz.prog 118 false := aggT_of (by kernel_rfl)
instance : TI Tryz.prog 118 (.nilFunc) 1 8 := ti_of (by kernel_rfl)
instance : AggT Tryz.prog 119 false := aggT_of (by kernel_rfl)
instance : TI Tryz.prog 119 (.nilFunc) 1 8 := ti_of (by kernel_rfl)
instance : AggT Tryz.prog 120 false := aggT_of (by kernel_rfl)
instance : TI Tryz.prog 120 (.nilFunc) 1 8 := ti_of (by kernel_rfl)
instance : AggT Tryz.prog 121 false := aggT_of (by kernel_rfl)
instance : TI Tryz.prog 121 (.nilFunc) 1 8 := ti_of (by kernel_rfl)
instance : AggT Tryz.prog 122 false := aggT_of (by kernel_rfl)
instance : TI Tryz.prog 122 (.nilFunc) 1 8 := ti_of (by kernel_rfl)
instance : AggT Tryz.prog 123 false := aggT_of (by kernel_rfl)
instance : TI Tryz.prog 123 (.nilFunc) 1 8 := ti_of (by kernel_rfl)
instance : AggT Tryz.prog 124 false := aggT_of (by kernel_rfl)
instance : TI Tryz.prog 124 (.nilFunc) 1 8 := ti_of (by kernel_rfl)
instance : AggT Tryz.prog 125 false := aggT_of (by kernel_rfl)
instance : TI Tryz.prog 125 (.nilFunc) 1 8 := ti_of (by kernel_rfl)
instance : AggT Tryz.prog 126 false := aggT_of (by kernel_rfl)
instance : TI Tryz.prog 126 (.nilFunc) 1 8 := ti_of (by kernel_rfl)
instance : AggT Tryz.prog 127 false := aggT_of (by kernel_rfl)
instance : TI Tryz.prog 127 (.nilFunc) 1 8 := ti_of (by kernel_rfl)
instance : AggT Tryz.prog 128 false := aggT_of (by kernel_rfl)
instance : TI Tryz.prog 128 (.nilFunc) 1 8 := ti_of (by kernel_rfl)
instance : AggT Tryz.prog 129 false := aggT_of (by kernel_rfl)
instance : TI Tryz.prog 129 (.nilFunc) 1 8 := ti_of (by kernel_rfl)
instance : AggT Tryz.prog 130 false := aggT_of (by kernel_rfl)
instance : TI Tryz.prog 130 (.nilFunc) 1 8 := ti_of (by kernel_rfl)
instance : AggT Tryz.prog 131 false := aggT_of (by kernel_rfl)
instance : TI Tryz.prog 131 (.nilFunc) 1 8 := ti_of (by kernel_rfl)
instance : AggT Tryz.prog 132 false := aggT_of (by kernel_rfl)
instance : TI Tryz.prog 132 (.nilIface) 1 16 := ti_of (by kernel_rfl)
instance : AggT Tryz.prog 133 false := aggT_of (by kernel_rfl)
instance : TI Tryz.prog 133 (.nilIface) 1 16 := ti_of (by kernel_rfl)
instance : AggT Tryz.prog 135 false := aggT_of (by kernel_rfl)
instance : TI Tryz.prog 135 (.nilFunc) 1 8 := ti_of (by kernel_rfl)
instance : AggT Tryz.prog 136 false := aggT_of (by kernel_rfl)
instance : TI Tryz.prog 136 (.nilFunc) 1 8 := ti_of (by kernel_rfl)
instance : AggT Tryz.prog 137 false := aggT_of (by kernel_rfl)
instance : TI Tryz.prog 137 (.nilFunc) 1 8 := ti_of (by kernel_rfl)
instance : AggT Tryz.prog 138 false := aggT_of (by kernel_rfl)
instance : TI Tryz.prog 138 (.nilFunc) 1 8 := ti_of (by kernel_rfl)
instance : AggT Tryz.prog 139 false := aggT_of (by kernel_rfl)
instance : TI Tryz.prog 139 (.nilFunc) 1 8 := ti_of (by kernel_rfl)
instance : AggT Tryz.prog 140 false := aggT_of (by kernel_rfl)
instance : TI Tryz.prog 140 (.nilFunc) 1 8 := ti_of (by kernel_rfl)
instance : AggT Tryz.prog 141 false := aggT_of (by kernel_rfl)
instance : TI Tryz.prog 141 (.nilFunc) 1 8 := ti_of (by kernel_rfl)
instance : AggT Tryz.prog 142 false := aggT_of (by kernel_rfl)
instance : TI Tryz.prog 142 (.nilFunc) 1 8 := ti_of (by kernel_rfl)
instance : AggT Tryz.prog 143 false := aggT_of (by kernel_rfl)
instance : TI Tryz.prog 143 (.nilFunc) 1 8 := ti_of (by kernel_rfl)
instance : AggT Tryz.prog 144 false := aggT_of (by kernel_rfl)
instance : TI Tryz.prog 144 (.nilFunc) 1 8 := ti_of (by kernel_rfl)
instance : AggT Tryz.prog 146 false := aggT_of (by kernel_rfl)
instance : TI Tryz.prog 146 (.nilFunc) 1 8 := ti_of (by kernel_rfl)
instance : AggT Tryz.prog 147 false := aggT_of (by kernel_rfl)
instance : TI Tryz.prog 147 (.nilFunc) 1 8 := ti_of (by kernel_rfl)
instance : AggT Tryz.prog 148 false := aggT_of (by kernel_rfl)
instance : TI Tryz.prog 148 (.nilFunc) 1 8 := ti_of (by kernel_rfl)
instance : AggT Tryz.prog 149 false := aggT_of (by kernel_rfl)
instance : TI Tryz.prog 149 (.nilFunc) 1 8 := ti_of (by kernel_rfl)
instance : AggT Tryz.prog 150 false := aggT_of (by kernel_rfl)
instance : TI Tryz.prog 150 (.nilFunc) 1 8 := ti_of (by kernel_rfl)
instance : AggT Tryz.prog 151 false := aggT_of (by kernel_rfl)
instance : TI Tryz.prog 151 (.nilFunc) 1 8 := ti_of (by kernel_rfl)
instance : AggT Tryz.prog 152 false := aggT_of (by kernel_rfl)
instance : TI Tryz.prog 152 (.nilFunc) 1 8 := ti_of (by kernel_rfl)
instance : Und Tryz.prog 153 (.int .u64) := ⟨Tryz.underlying153⟩
instance : TI Tryz.prog 153 (.int .u64 0) 1 8 := ti_of (by kernel_rfl)
instance : Und Tryz.prog 154 (.slice 158) := ⟨Tryz.underlying154⟩
instance : TI Tryz.prog 154 (.slice none 0 0) 1 24 := ti_of (by kernel_rfl)
instance : AggT Tryz.prog 155 false := aggT_of (by kernel_rfl)
instance : TI Tryz.prog 155 (.nilFunc) 1 8 := ti_of (by kernel_rfl)
instance : AggT Tryz.prog 156 false := aggT_of (by kernel_rfl)
instance : TI Tryz.prog 156 (.nilFunc) 1 8 := ti_of (by kernel_rfl)
instance : AggT Tryz.prog 157 true := aggT_of (by kernel_rfl)
instance : Fld Tryz.prog 157 0 0 3 := fld_of (by kernel_rfl)
instance : Fld Tryz.prog 157 1 1 26 := fld_of (by kernel_rfl)
instance : PlOf Tryz.prog 157 [(0, 1), (1, 5)] := plof_of (by kernel_rfl)
instance : TI Tryz.prog 157 (.agg #[.int .i64 0, .int .i64 0, .int .i64 0, .int .i64 0, .string ⟨#[]⟩, .slice none 0 0]) 6 72 := ti_of (by kernel_rfl)
instance : AggT Tryz.prog 158 true := aggT_of (by kernel_rfl)
instance : Fld Tryz.prog 158 0 0 3 := fld_of (by kernel_rfl)
instance : Fld Tryz.prog 158 1 1 26 := fld_of (by kernel_rfl)
instance : PlOf Tryz.prog 158 [(0, 1), (1, 5)] := plof_of (by kernel_rfl)
instance : TI Tryz.prog 158 (.agg #[.int .i64 0, .int .i64 0, .int .i64 0, .int .i64 0, .string ⟨#[]⟩, .slice none 0 0]) 6 72 := ti_of (by kernel_rfl)
instance : AggT Tryz.prog 159 false := aggT_of (by kernel_rfl)
instance : TI Tryz.prog 159 (.nilFunc) 1 8 := ti_of (by kernel_rfl)
instance : AggT Tryz.prog 160 false := aggT_of (by kernel_rfl)
instance : TI Tryz.prog 160 (.nilFunc) 1 8 := ti_of (by kernel_rfl)
instance : AggT Tryz.prog 161 false := aggT_of (by kernel_rfl)
instance : TI Tryz.prog 161 (.nilFunc) 1 8 := ti_of (by kernel_rfl)
instance : AggT Tryz.prog 162 false := aggT_of (by kernel_rfl)
instance : TI Tryz.prog 162 (.nilFunc) 1 8 := ti_of (by kernel_rfl)
instance : AggT Tryz.prog 163 false := aggT_of (by kernel_rfl)
instance : TI Tryz.prog 163 (.nilFunc) 1 8 := ti_of (by kernel_rfl)
instance : AggT Tryz.prog 164 false := aggT_of (by kernel_rfl)
instance : TI Tryz.prog 164 (.nilFunc) 1 8 := ti_of (by kernel_rfl)
instance : AggT Tryz.prog 166 false := aggT_of (by kernel_rfl)
instance : TI Tryz.prog 166 (.nilFunc) 1 8 := ti_of (by kernel_rfl)
instance : AggT Tryz.prog 167 false := aggT_of (by kernel_rfl)
instance : TI Tryz.prog 167 (.nilFunc) 1 8 := ti_of (by kernel_rfl)
instance : AggT Tryz.prog 168 false := aggT_of (by kernel_rfl)
instance : TI Tryz.prog 168 (.nilFunc) 1 8 := ti_of (by kernel_rfl)
instance : AggT Tryz.prog 169 false := aggT_of (by kernel_rfl)
instance : TI Tryz.prog 169 (.nilFunc) 1 8 := ti_of (by kernel_rfl)
instance : AggT Tryz.prog 170 false := aggT_of (by kernel_rfl)
instance : TI Tryz.prog 170 (.nilFunc) 1 8 := ti_of (by kernel_rfl)
instance : AggT Tryz.prog 172 false := aggT_of (by kernel_rfl)
instance : TI Tryz.prog 172 (.nilFunc) 1 8 := ti_of (by kernel_rfl)
instance : AggT Tryz.prog 173 false := aggT_of (by kernel_rfl)
instance : TI Tryz.prog 173 (.nilFunc) 1 8 := ti_of (by kernel_rfl)
instance : AggT Tryz.prog 175 false := aggT_of (by kernel_rfl)
instance : TI Tryz.prog 175 (.nilFunc) 1 8 := ti_of (by kernel_rfl)
instance : AggT Tryz.prog 176 false := aggT_of (by kernel_rfl)
instance : TI Tryz.prog 176 (.nilFunc) 1 8 := ti_of (by kernel_rfl)
instance : AggT Tryz.prog 177 false := aggT_of (by kernel_rfl)
instance : TI Tryz.prog 177 (.nilFunc) 1 8 := ti_of (by kernel_rfl)
instance : AggT Tryz.prog 178 false := aggT_of (by kernel_rfl)
instance : TI Tryz.prog 178 (.nilFunc) 1 8 := ti_of (by kernel_rfl)
instance : AggT Tryz.prog 179 false := aggT_of (by kernel_rfl)
instance : TI Tryz.prog 179 (.nilFunc) 1 8 := ti_of (by kernel_rfl)
instance : AggT Tryz.prog 180 false := aggT_of (by kernel_rfl)
instance : TI Tryz.prog 180 (.nilFunc) 1 8 := ti_of (by kernel_rfl)
instance : AggT Tryz.prog 181 false := aggT_of (by kernel_rfl)
instance : TI Tryz.prog 181 (.nilFunc) 1 8 := ti_of (by kernel_rfl)
instance : AggT Tryz.prog 182 false := aggT_of (by kernel_rfl)
instance : TI Tryz.prog 182 (.nilFunc) 1 8 := ti_of (by kernel_rfl)
instance : AggT Tryz.prog 183 false := aggT_of (by kernel_rfl)
instance : TI Tryz.prog 183 (.nilFunc) 1 8 := ti_of (by kernel_rfl)
instance : AggT Tryz.prog 184 false := aggT_of (by kernel_rfl)
instance : TI Tryz.prog 184 (.nilFunc) 1 8 := ti_of (by kernel_rfl)
instance : AggT Tryz.prog 185 false := aggT_of (by kernel_rfl)
instance : TI Tryz.prog 185 (.nilFunc) 1 8 := ti_of (by kernel_rfl)
instance : AggT Tryz.prog 186 false := aggT_of (by kernel_rfl)
instance : TI Tryz.prog 186 (.nilFunc) 1 8 := ti_of (by kernel_rfl)
instance : AggT Tryz.prog 187 false := aggT_of (by kernel_rfl)
instance : TI Tryz.prog 187 (.nilFunc) 1 8 := ti_of (by kernel_rfl)
instance : AggT Tryz.prog 188 false := aggT_of (by kernel_rfl)
instance : TI Tryz.prog 188 (.nilFunc) 1 8 := ti_of (by kernel_rfl)
instance : Und Tryz.prog 189 (.slice 24) := ⟨Tryz.underlying189⟩
instance : TI Tryz.prog 189 (.slice none 0 0) 1 24 := ti_of (by kernel_rfl)
instance : AggT Tryz.prog 190 false := aggT_of (by kernel_rfl)
instance : TI Tryz.prog 190 (.nilFunc) 1 8 := ti_of (by kernel_rfl)
instance : AggT Tryz.prog 192 false := aggT_of (by kernel_rfl)
instance : TI Tryz.prog 192 (.nilFunc) 1 8 := ti_of (by kernel_rfl)
instance : AggT Tryz.prog 193 false := aggT_of (by kernel_rfl)
instance : TI Tryz.prog 193 (.nilFunc) 1 8 := ti_of (by kernel_rfl)
instance : Und Tryz.prog 194 (.int .i64) := ⟨Tryz.underlying194⟩
instance : TI Tryz.prog 194 (.int .i64 0) 1 8 := ti_of (by kernel_rfl)
instance : AggT Tryz.prog 196 false := aggT_of (by kernel_rfl)
instance : TI Tryz.prog 196 (.nilFunc) 1 8 := ti_of (by kernel_rfl)
instance : AggT Tryz.prog 197 false := aggT_of (by kernel_rfl)
instance : TI Tryz.prog 197 (.nilFunc) 1 8 := ti_of (by kernel_rfl)
instance : AggT Tryz.prog 198 false := aggT_of (by kernel_rfl)
instance : TI Tryz.prog 198 (.nilFunc) 1 8 := ti_of (by kernel_rfl)
instance : AggT Tryz.prog 199 false := aggT_of (by kernel_rfl)
instance : TI Tryz.prog 199 (.nilFunc) 1 8 := ti_of (by kernel_rfl)
instance : AggT Tryz.prog 200 false := aggT_of (by kernel_rfl)
instance : TI Tryz.prog 200 (.nilFunc) 1 8 := ti_of (by kernel_rfl)
instance : AggT Tryz.prog 201 false := aggT_of (by kernel_rfl)
instance : TI Tryz.prog 201 (.nilFunc) 1 8 := ti_of (by kernel_rfl)
instance : Und Tryz.prog 202 (.int .u32) := ⟨Tryz.underlying202⟩
instance : TI Tryz.prog 202 (.int .u32 0) 1 4 := ti_of (by kernel_rfl)
instance : AggT Tryz.prog 203 false := aggT_of (by kernel_rfl)
instance : TI Tryz.prog 203 (.nilFunc) 1 8 := ti_of (by kernel_rfl)
instance : Und Tryz.prog 204 (.int .u64) := ⟨Tryz.underlying204⟩
instance : TI Tryz.prog 204 (.int .u64 0) 1 8 := ti_of (by kernel_rfl)
instance : AggT Tryz.prog 205 false := aggT_of (by kernel_rfl)
instance : TI Tryz.prog 205 (.nilFunc) 1 8 := ti_of (by kernel_rfl)
instance : AggT Tryz.prog 206 false := aggT_of (by kernel_rfl)
instance : TI Tryz.prog 206 (.nilFunc) 1 8 := ti_of (by kernel_rfl)
instance : AggT Tryz.prog 207 false := aggT_of (by kernel_rfl)
instance : TI Tryz.prog 207 (.nilFunc) 1 8 := ti_of (by kernel_rfl)
instance : AggT Tryz.prog 208 false := aggT_of (by kernel_rfl)
instance : TI Tryz.prog 208 (.nilFunc) 1 8 := ti_of (by kernel_rfl)
instance : Und Tryz.prog 209 (.slice 213) := ⟨Tryz.underlying209⟩
instance : TI Tryz.prog 209 (.slice none 0 0) 1 24 := ti_of (by kernel_rfl)
instance : AggT Tryz.prog 211 false := aggT_of (by kernel_rfl)
instance : TI Tryz.prog 211 (.nilFunc) 1 8 := ti_of (by kernel_rfl)
instance : AggT Tryz.prog 212 true := aggT_of (by kernel_rfl)
instance : Fld Tryz.prog 212 0 0 3 := fld_of (by kernel_rfl)
instance : Fld Tryz.prog 212 1 1 3 := fld_of (by kernel_rfl)
instance : Fld Tryz.prog 212 2 2 26 := fld_of (by kernel_rfl)
instance : PlOf Tryz.prog 212 [(0, 1), (1, 1), (2, 5)] := plof_of (by kernel_rfl)
instance : TI Tryz.prog 212 (.agg #[.int .i64 0, .int .i64 0, .int .i64 0, .int .i64 0, .int .i64 0, .string ⟨#[]⟩, .slice none 0 0]) 7 80 := ti_of (by kernel_rfl)
instance : AggT Tryz.prog 213 true := aggT_of (by kernel_rfl)
instance : Fld Tryz.prog 213 0 0 3 := fld_of (by kernel_rfl)
instance : Fld Tryz.prog 213 1 1 3 := fld_of (by kernel_rfl)
instance : Fld Tryz.prog 213 2 2 26 := fld_of (by kernel_rfl)
instance : PlOf Tryz.prog 213 [(0, 1), (1, 1), (2, 5)] := plof_of (by kernel_rfl)
instance : TI Tryz.prog 213 (.agg #[.int .i64 0, .int .i64 0, .int .i64 0, .int .i64 0, .int .i64 0, .string ⟨#[]⟩, .slice none 0 0]) 7 80 := ti_of (by kernel_rfl)
instance : AggT Tryz.prog 214 false := aggT_of (by kernel_rfl)
instance : TI Tryz.prog 214 (.nilFunc) 1 8 := ti_of (by kernel_rfl)
instance : AggT Tryz.prog 215 false := aggT_of (by kernel_rfl)
instance : TI Tryz.prog 215 (.nilFunc) 1 8 := ti_of (by kernel_rfl)
instance : AggT Tryz.prog 216 false := aggT_of (by kernel_rfl)
instance : TI Tryz.prog 216 (.nilFunc) 1 8 := ti_of (by kernel_rfl)
instance : Und Tryz.prog 217 (.int .i64) := ⟨Tryz.underlying217⟩
instance : TI Tryz.prog 217 (.int .i64 0) 1 8 := ti_of (by kernel_rfl)
instance : AggT Tryz.prog 219 false := aggT_of (by kernel_rfl)
instance : TI Tryz.prog 219 (.nilFunc) 1 8 := ti_of (by kernel_rfl)
instance : Und Tryz.prog 220 (.pointer 251) := ⟨Tryz.underlying220⟩
instance : TI Tryz.prog 220 (.pointer none) 1 8 := ti_of (by kernel_rfl)
instance : AggT Tryz.prog 221 false := aggT_of (by kernel_rfl)
instance : TI Tryz.prog 221 (.nilFunc) 1 8 := ti_of (by kernel_rfl)
instance : AggT Tryz.prog 222 false := aggT_of (by kernel_rfl)
instance : TI Tryz.prog 222 (.nilFunc) 1 8 := ti_of (by kernel_rfl)
instance : AggT Tryz.prog 223 false := aggT_of (by kernel_rfl)
instance : TI Tryz.prog 223 (.nilFunc) 1 8 := ti_of (by kernel_rfl)
instance : Und Tryz.prog 224 (.int .u64) := ⟨Tryz.underlying224⟩
instance : TI Tryz.prog 224 (.int .u64 0) 1 8 := ti_of (by kernel_rfl)
instance : AggT Tryz.prog 225 false := aggT_of (by kernel_rfl)
instance : TI Tryz.prog 225 (.nilFunc) 1 8 := ti_of (by kernel_rfl)
instance : AggT Tryz.prog 226 false := aggT_of (by kernel_rfl)
instance : TI Tryz.prog 226 (.nilFunc) 1 8 := ti_of (by kernel_rfl)
instance : AggT Tryz.prog 227 false := aggT_of (by kernel_rfl)
instance : TI Tryz.prog 227 (.nilFunc) 1 8 := ti_of (by kernel_rfl)
instance : AggT Tryz.prog 228 false := aggT_of (by kernel_rfl)
instance : TI Tryz.prog 228 (.nilFunc) 1 8 := ti_of (by kernel_rfl)
instance : AggT Tryz.prog 229 false := aggT_of (by kernel_rfl)
instance : TI Tryz.prog 229 (.nilFunc) 1 8 := ti_of (by kernel_rfl)
instance : AggT Tryz.prog 230 false := aggT_of (by kernel_rfl)
instance : TI Tryz.prog 230 (.nilFunc) 1 8 := ti_of (by kernel_rfl)
instance : AggT Tryz.prog 231 false := aggT_of (by kernel_rfl)
instance : TI Tryz.prog 231 (.nilFunc) 1 8 := ti_of (by kernel_rfl)
instance : AggT Tryz.prog 232 false := aggT_of (by kernel_rfl)
instance : TI Tryz.prog 232 (.nilFunc) 1 8 := ti_of (by kernel_rfl)
instance : AggT Tryz.prog 233 false := aggT_of (by kernel_rfl)
instance : TI Tryz.prog 233 (.nilFunc) 1 8 := ti_of (by kernel_rfl)
instance : AggT Tryz.prog 234 false := aggT_of (by kernel_rfl)
instance : TI Tryz.prog 234 (.nilFunc) 1 8 := ti_of (by kernel_rfl)
instance : AggT Tryz.prog 235 false := aggT_of (by kernel_rfl)
instance : TI Tryz.prog 235 (.nilFunc) 1 8 := ti_of (by kernel_rfl)
instance : AggT Tryz.prog 236 false := aggT_of (by kernel_rfl)
instance : TI Tryz.prog 236 (.nilFunc) 1 8 := ti_of (by kernel_rfl)
instance : AggT Tryz.prog 237 false := aggT_of (by kernel_rfl)
instance : TI Tryz.prog 237 (.nilFunc) 1 8 := ti_of (by kernel_rfl)
instance : AggT Tryz.prog 238 false := aggT_of (by kernel_rfl)
instance : TI Tryz.prog 238 (.nilFunc) 1 8 := ti_of (by kernel_rfl)
instance : Und Tryz.prog 239 (.int .i64) := ⟨Tryz.underlying239⟩
instance : TI Tryz.prog 239 (.int .i64 0) 1 8 := ti_of (by kernel_rfl)
instance : AggT Tryz.prog 240 false := aggT_of (by kernel_rfl)
instance : TI Tryz.prog 240 (.nilFunc) 1 8 := ti_of (by kernel_rfl)
instance : AggT Tryz.prog 241 false := aggT_of (by kernel_rfl)
instance : TI Tryz.prog 241 (.nilFunc) 1 8 := ti_of (by kernel_rfl)
instance : Und Tryz.prog 242 (.array 24 5) := ⟨Tryz.underlying242⟩
instance : TI Tryz.prog 242 (.agg #[.int .u8 0, .int .u8 0, .int .u8 0, .int .u8 0, .int .u8 0, .int .u8 0, .int .u8 0, .int .u8 0, .int .u8 0, .int .u8 0, .int .u8 0, .int .u8 0, .int .u8 0, .int .u8 0, .int .u8 0, .int .u8 0, .int .u8 0, .int .u8 0, .int .u8 0, .int .u8 0, .int .u8 0, .int .u8 0, .int .u8 0, .int .u8 0]) 24 24 := ti_of (by kernel_rfl)
instance : AggT Tryz.prog 243 false := aggT_of (by kernel_rfl)
instance : TI Tryz.prog 243 (.nilFunc) 1 8 := ti_of (by kernel_rfl)
instance : AggT Tryz.prog 245 false := aggT_of (by kernel_rfl)
instance : TI Tryz.prog 245 (.nilFunc) 1 8 := ti_of (by kernel_rfl)
instance : AggT Tryz.prog 246 false := aggT_of (by kernel_rfl)
instance : TI Tryz.prog 246 (.nilFunc) 1 8 := ti_of (by kernel_rfl)
instance : AggT Tryz.prog 248 false := aggT_of (by kernel_rfl)
instance : TI Tryz.prog 248 (.nilFunc) 1 8 := ti_of (by kernel_rfl)
instance : AggT Tryz.prog 249 false := aggT_of (by kernel_rfl)
instance : TI Tryz.prog 249 (.nilFunc) 1 8 := ti_of (by kernel_rfl)
instance : AggT Tryz.prog 250 true := aggT_of (by kernel_rfl)
instance : Fld Tryz.prog 250 0 0 9 := fld_of (by kernel_rfl)
instance : Fld Tryz.prog 250 1 1 9 := fld_of (by kernel_rfl)
instance : Fld Tryz.prog 250 2 2 133 := fld_of (by kernel_rfl)
instance : PlOf Tryz.prog 250 [(0, 1), (1, 1), (2, 1)] := plof_of (by kernel_rfl)
instance : TI Tryz.prog 250 (.agg #[.string ⟨#[]⟩, .string ⟨#[]⟩, .nilIface]) 3 48 := ti_of (by kernel_rfl)
instance : AggT Tryz.prog 251 true := aggT_of (by kernel_rfl)
instance : Fld Tryz.prog 251 0 0 9 := fld_of (by kernel_rfl)
instance : Fld Tryz.prog 251 1 1 9 := fld_of (by kernel_rfl)
instance : Fld Tryz.prog 251 2 2 133 := fld_of (by kernel_rfl)
instance : PlOf Tryz.prog 251 [(0, 1), (1, 1), (2, 1)] := plof_of (by kernel_rfl)
instance : TI Tryz.prog 251 (.agg #[.string ⟨#[]⟩, .string ⟨#[]⟩, .nilIface]) 3 48 := ti_of (by kernel_rfl)
instance : AggT Tryz.prog 252 false := aggT_of (by kernel_rfl)
instance : TI Tryz.prog 252 (.nilFunc) 1 8 := ti_of (by kernel_rfl)
instance : AggT Tryz.prog 253 false := aggT_of (by kernel_rfl)
instance : TI Tryz.prog 253 (.nilFunc) 1 8 := ti_of (by kernel_rfl)
instance : Und Tryz.prog 254 (.int .u16) := ⟨Tryz.underlying254⟩
instance : TI Tryz.prog 254 (.int .u16 0) 1 2 := ti_of (by kernel_rfl)
instance : Und Tryz.prog 255 (.pointer 224) := ⟨Tryz.underlying255⟩
instance : TI Tryz.prog 255 (.pointer none) 1 8 := ti_of (by kernel_rfl)
instance : AggT Tryz.prog 257 false := aggT_of (by kernel_rfl)
instance : TI Tryz.prog 257 (.nilFunc) 1 8 := ti_of (by kernel_rfl)
instance : AggT Tryz.prog 258 false := aggT_of (by kernel_rfl)
instance : TI Tryz.prog 258 (.nilFunc) 1 8 := ti_of (by kernel_rfl)
instance : AggT Tryz.prog 259 false := aggT_of (by kernel_rfl)
instance : TI Tryz.prog 259 (.nilFunc) 1 8 := ti_of (by kernel_rfl)
instance : AggT Tryz.prog 260 false := aggT_of (by kernel_rfl)
instance : TI Tryz.prog 260 (.nilFunc) 1 8 := ti_of (by kernel_rfl)
instance : AggT Tryz.prog 262 false := aggT_of (by kernel_rfl)
instance : TI Tryz.prog 262 (.nilFunc) 1 8 := ti_of (by kernel_rfl)
instance : AggT Tryz.prog 263 false := aggT_of (by kernel_rfl)
instance : TI Tryz.prog 263 (.nilFunc) 1 8 := ti_of (by kernel_rfl)
instance : Und Tryz.prog 264 (.array 20 204) := ⟨Tryz.underlying264⟩
instance : TI Tryz.prog 264 (.agg #[.int .u64 0, .int .u64 0, .int .u64 0, .int .u64 0, .int .u64 0, .int .u64 0, .int .u64 0, .int .u64 0, .int .u64 0, .int .u64 0, .int .u64 0, .int .u64 0, .int .u64 0, .int .u64 0, .int .u64 0, .int .u64 0, .int .u64 0, .int .u64 0, .int .u64 0, .int .u64 0]) 20 160 := ti_of (by kernel_rfl)
instance : Und Tryz.prog 265 (.array 65 5) := ⟨Tryz.underlying265⟩
instance : AggT Tryz.prog 266 false := aggT_of (by kernel_rfl)
instance : TI Tryz.prog 266 (.nilFunc) 1 8 := ti_of (by kernel_rfl)
instance : Und Tryz.prog 267 (.pointer 5) := ⟨Tryz.underlying267⟩
instance : TI Tryz.prog 267 (.pointer none) 1 8 := ti_of (by kernel_rfl)
instance : Und Tryz.prog 268 (.pointer 270) := ⟨Tryz.underlying268⟩
instance : TI Tryz.prog 268 (.pointer none) 1 8 := ti_of (by kernel_rfl)
instance : AggT Tryz.prog 269 true := aggT_of (by kernel_rfl)
instance : Fld Tryz.prog 269 0 0 9 := fld_of (by kernel_rfl)
instance : PlOf Tryz.prog 269 [(0, 1)] := plof_of (by kernel_rfl)
instance : TI Tryz.prog 269 (.agg #[.string ⟨#[]⟩]) 1 16 := ti_of (by kernel_rfl)
instance : AggT Tryz.prog 270 true := aggT_of (by kernel_rfl)
instance : Fld Tryz.prog 270 0 0 9 := fld_of (by kernel_rfl)
instance : PlOf Tryz.prog 270 [(0, 1)] := plof_of (by kernel_rfl)
instance : TI Tryz.prog 270 (.agg #[.string ⟨#[]⟩]) 1 16 := ti_of (by kernel_rfl)
instance : AggT Tryz.prog 271 false := aggT_of (by kernel_rfl)
instance : TI Tryz.prog 271 (.nilFunc) 1 8 := ti_of (by kernel_rfl)
instance : AggT Tryz.prog 272 false := aggT_of (by kernel_rfl)
instance : TI Tryz.prog 272 (.nilFunc) 1 8 := ti_of (by kernel_rfl)
instance : Und Tryz.prog 273 (.array 32 5) := ⟨Tryz.underlying273⟩
instance : TI Tryz.prog 273 (.agg #[.int .u8 0, .int .u8 0, .int .u8 0, .int .u8 0, .int .u8 0, .int .u8 0, .int .u8 0, .int .u8 0, .int .u8 0, .int .u8 0, .int .u8 0, .int .u8 0, .int .u8 0, .int .u8 0, .int .u8 0, .int .u8 0, .int .u8 0, .int .u8 0, .int .u8 0, .int .u8 0, .int .u8 0, .int .u8 0, .int .u8 0, .int .u8 0, .int .u8 0, .int .u8 0, .int .u8 0, .int .u8 0, .int .u8 0, .int .u8 0, .int .u8 0, .int .u8 0]) 32 32 := ti_of (by kernel_rfl)
instance : Und Tryz.prog 274 (.array 64 5) := ⟨Tryz.underlying274⟩
instance : TI Tryz.prog 274 (.agg #[.int .u8 0, .int .u8 0, .int .u8 0, .int .u8 0, .int .u8 0, .int .u8 0, .int .u8 0, .int .u8 0, .int .u8 0, .int .u8 0, .int .u8 0, .int .u8 0, .int .u8 0, .int .u8 0, .int .u8 0, .int .u8 0, .int .u8 0, .int .u8 0, .int .u8 0, .int .u8 0, .int .u8 0, .int .u8 0, .int .u8 0, .int .u8 0, .int .u8 0, .int .u8 0, .int .u8 0, .int .u8 0, .int .u8 0, .int .u8 0, .int .u8 0, .int .u8 0, .int .u8 0, .int .u8 0, .int .u8 0, .int .u8 0, .int .u8 0, .int .u8 0, .int .u8 0, .int .u8 0, .int .u8 0, .int .u8 0, .int .u8 0, .int .u8 0, .int .u8 0, .int .u8 0, .int .u8 0, .int .u8 0, .int .u8 0, .int .u8 0, .int .u8 0, .int .u8 0, .int .u8 0, .int .u8 0, .int .u8 0, .int .u8 0, .int .u8 0, .int .u8 0, .int .u8 0, .int .u8 0, .int .u8 0, .int .u8 0, .int .u8 0, .int .u8 0]) 64 64 := ti_of (by kernel_rfl)
instance : AggT Tryz.prog 275 false := aggT_of (by kernel_rfl)
instance : TI Tryz.prog 275 (.nilFunc) 1 8 := ti_of (by kernel_rfl)
instance : FnRes Tryz.f3 [ResultVar.tmp 2] := ⟨rfl⟩
instance : FnRes Tryz.f4 [ResultVar.tmp 4] := ⟨rfl⟩
instance : FnRes Tryz.f5 [ResultVar.tmp 2] := ⟨rfl⟩
instance : FnRes Tryz.f6 [ResultVar.tmp 6] := ⟨rfl⟩
instance : FnRes Tryz.f7 [ResultVar.tmp 6] := ⟨rfl⟩
instance : FnRes Tryz.f8 [ResultVar.tmp 0] := ⟨rfl⟩
instance : FnRes Tryz.f9 [ResultVar.cell 2 28] := ⟨rfl⟩
instance : FnRes Tryz.f10 [ResultVar.tmp 6, ResultVar.tmp 7, ResultVar.tmp 8] := ⟨rfl⟩
instance : FnRes Tryz.f11 [ResultVar.tmp 6, ResultVar.tmp 7, ResultVar.tmp 8] := ⟨rfl⟩
instance : FnRes Tryz.f12 [ResultVar.tmp 4] := ⟨rfl⟩
instance : FnRes Tryz.f13 [ResultVar.tmp 4] := ⟨rfl⟩
instance : FnRes Tryz.f14 [ResultVar.cell 4 26] := ⟨rfl⟩
instance : FnRes Tryz.f15 [ResultVar.tmp 4, ResultVar.tmp 5] := ⟨rfl⟩
instance : FnRes Tryz.f16 [ResultVar.cell 2 26] := ⟨rfl⟩
instance : FnRes Tryz.f17 [ResultVar.tmp 2, ResultVar.tmp 3] := ⟨rfl⟩
instance : FnRes Tryz.f18 [ResultVar.tmp 4] := ⟨rfl⟩
instance : FnRes Tryz.f19 [ResultVar.tmp 3] := ⟨rfl⟩
instance : FnRes Tryz.f20 [ResultVar.tmp 4] := ⟨rfl⟩
instance : FnRes Tryz.f21 [ResultVar.tmp 0] := ⟨rfl⟩
instance : FnRes Tryz.f22 [ResultVar.tmp 2] := ⟨rfl⟩
instance : FnRes Tryz.f23 [ResultVar.cell 2 53, ResultVar.cell 3 3, ResultVar.cell 4 31] := ⟨rfl⟩
instance : FnRes Tryz.f24 [ResultVar.cell 2 53, ResultVar.tmp 3] := ⟨rfl⟩
instance : FnRes Tryz.f25 [ResultVar.tmp 4] := ⟨rfl⟩
instance : FnRes Tryz.f26 [ResultVar.tmp 2] := ⟨rfl⟩
instance : FnRes Tryz.f27 [ResultVar.cell 4 26, ResultVar.tmp 5] := ⟨rfl⟩
instance : FnRes Tryz.f28 [ResultVar.tmp 2] := ⟨rfl⟩
instance : FnRes Tryz.f29 [ResultVar.tmp 4] := ⟨rfl⟩
instance : FnRes Tryz.f30 [ResultVar.cell 6 26] := ⟨rfl⟩
instance : FnRes Tryz.f31 [ResultVar.cell 8 26, ResultVar.cell 9 26, ResultVar.tmp 10] := ⟨rfl⟩
instance : FnRes Tryz.f32 [ResultVar.tmp 8, ResultVar.tmp 9, ResultVar.tmp 10] := ⟨rfl⟩
instance : FnRes Tryz.f33 [ResultVar.tmp 4] := ⟨rfl⟩
instance : FnRes Tryz.f34 [ResultVar.tmp 4, ResultVar.cell 5 26, ResultVar.tmp 6] := ⟨rfl⟩
instance : FnRes Tryz.f35 [ResultVar.tmp 2, ResultVar.tmp 3] := ⟨rfl⟩
instance : FnRes Tryz.f36 [ResultVar.cell 2 26, ResultVar.tmp 3] := ⟨rfl⟩
instance : FnRes Tryz.f37 [ResultVar.tmp 2] := ⟨rfl⟩
instance : FnRes Tryz.f38 [ResultVar.tmp 2, ResultVar.tmp 3] := ⟨rfl⟩
instance : FnRes Tryz.f39 [ResultVar.tmp 2, ResultVar.tmp 3] := ⟨rfl⟩
instance : FnRes Tryz.f40 [ResultVar.tmp 2] := ⟨rfl⟩
instance : FnRes Tryz.f41 [ResultVar.cell 8 26] := ⟨rfl⟩
instance : FnRes Tryz.f42 [ResultVar.tmp 4] := ⟨rfl⟩
instance : FnRes Tryz.f43 [ResultVar.tmp 2] := ⟨rfl⟩
instance : FnRes Tryz.f44 [ResultVar.tmp 4] := ⟨rfl⟩
instance : FnRes Tryz.f45 [] := ⟨rfl⟩
instance : FnRes Tryz.f46 [ResultVar.tmp 4] := ⟨rfl⟩
instance : FnRes Tryz.f47 [ResultVar.tmp 6] := ⟨rfl⟩
instance : FnRes Tryz.f48 [ResultVar.cell 6 26, ResultVar.tmp 7] := ⟨rfl⟩
instance : FnRes Tryz.f49 [ResultVar.cell 4 26] := ⟨rfl⟩
instance : FnRes Tryz.f50 [ResultVar.tmp 6] := ⟨rfl⟩
instance : FnRes Tryz.f51 [] := ⟨rfl⟩
instance : FnRes Tryz.f52 [] := ⟨rfl⟩
instance : FnRes Tryz.f53 [ResultVar.tmp 2] := ⟨rfl⟩
instance : FnRes Tryz.f54 [ResultVar.cell 2 26] := ⟨rfl⟩
instance : FnRes Tryz.f55 [ResultVar.cell 2 26] := ⟨rfl⟩
instance : FnRes Tryz.f56 [ResultVar.tmp 2] := ⟨rfl⟩
instance : FnRes Tryz.f57 [ResultVar.tmp 2] := ⟨rfl⟩
instance : FnRes Tryz.f58 [ResultVar.tmp 2] := ⟨rfl⟩
instance : FnRes Tryz.f59 [ResultVar.tmp 4, ResultVar.tmp 5] := ⟨rfl⟩
instance : FnRes Tryz.f60 [ResultVar.tmp 2, ResultVar.tmp 3] := ⟨rfl⟩
instance : FnRes Tryz.f61 [ResultVar.tmp 2] := ⟨rfl⟩
instance : FnRes Tryz.f62 [ResultVar.cell 4 26] := ⟨rfl⟩
instance : FnRes Tryz.f63 [ResultVar.tmp 4] := ⟨rfl⟩
instance : FnRes Tryz.f64 [ResultVar.cell 2 26] := ⟨rfl⟩
instance : FnRes Tryz.f65 [ResultVar.cell 2 26] := ⟨rfl⟩
instance : FnRes Tryz.f66 [ResultVar.cell 2 26] := ⟨rfl⟩
instance : FnRes Tryz.f67 [ResultVar.tmp 2] := ⟨rfl⟩
instance : FnRes Tryz.f68 [ResultVar.tmp 4] := ⟨rfl⟩
instance : FnRes Tryz.f69 [ResultVar.tmp 6] := ⟨rfl⟩
instance : FnRes Tryz.f70 [ResultVar.tmp 4] := ⟨rfl⟩
instance : FnRes Tryz.f71 [ResultVar.cell 4 26] := ⟨rfl⟩
instance : FnRes Tryz.f72 [ResultVar.tmp 2] := ⟨rfl⟩
instance : FnRes Tryz.f73 [ResultVar.tmp 2] := ⟨rfl⟩
instance : FnRes Tryz.f74 [ResultVar.cell 2 26, ResultVar.tmp 3] := ⟨rfl⟩
instance : FnRes Tryz.f75 [ResultVar.tmp 2] := ⟨rfl⟩
instance : FnRes Tryz.f76 [ResultVar.tmp 2] := ⟨rfl⟩
instance : FnRes Tryz.f77 [ResultVar.tmp 4, ResultVar.tmp 5] := ⟨rfl⟩
instance : FnRes Tryz.f78 [ResultVar.tmp 2] := ⟨rfl⟩
instance : FnRes Tryz.f79 [ResultVar.cell 2 26] := ⟨rfl⟩
instance : FnRes Tryz.f80 [ResultVar.tmp 6] := ⟨rfl⟩
instance : FnRes Tryz.f81 [ResultVar.tmp 3] := ⟨rfl⟩
instance : FnRes Tryz.f82 [ResultVar.tmp 4] := ⟨rfl⟩
instance : FnRes Tryz.f83 [ResultVar.tmp 3] := ⟨rfl⟩
instance : FnRes Tryz.f84 [ResultVar.tmp 2, ResultVar.tmp 3] := ⟨rfl⟩
instance : FnRes Tryz.f85 [ResultVar.tmp 3] := ⟨rfl⟩
instance : FnRes Tryz.f86 [ResultVar.tmp 2, ResultVar.tmp 3] := ⟨rfl⟩
instance : FnRes Tryz.f87 [ResultVar.tmp 2] := ⟨rfl⟩
instance : FnRes Tryz.f88 [ResultVar.cell 2 26] := ⟨rfl⟩
instance : FnRes Tryz.f89 [ResultVar.tmp 6, ResultVar.tmp 7] := ⟨rfl⟩
instance : FnRes Tryz.f90 [ResultVar.tmp 2, ResultVar.tmp 3] := ⟨rfl⟩
instance : FnRes Tryz.f91 [ResultVar.tmp 2] := ⟨rfl⟩
instance : FnRes Tryz.f92 [ResultVar.cell 2 26] := ⟨rfl⟩
instance : FnRes Tryz.f93 [ResultVar.cell 2 26] := ⟨rfl⟩
instance : FnRes Tryz.f94 [ResultVar.cell 2 26] := ⟨rfl⟩
instance : FnRes Tryz.f95 [ResultVar.cell 2 26] := ⟨rfl⟩
instance : FnRes Tryz.f96 [ResultVar.tmp 2] := ⟨rfl⟩
instance : FnRes Tryz.f97 [ResultVar.tmp 2] := ⟨rfl⟩
instance : FnRes Tryz.f98 [ResultVar.tmp 2] := ⟨rfl⟩
instance : FnRes Tryz.f99 [ResultVar.tmp 2] := ⟨rfl⟩
instance : FnRes Tryz.f100 [ResultVar.tmp 4] := ⟨rfl⟩
instance : FnRes Tryz.f101 [ResultVar.tmp 4] := ⟨rfl⟩
instance : FnRes Tryz.f102 [ResultVar.tmp 6] := ⟨rfl⟩
instance : FnRes Tryz.f103 [ResultVar.tmp 3] := ⟨rfl⟩
instance : FnRes Tryz.f104 [] := ⟨rfl⟩
instance : FnRes Tryz.f105 [ResultVar.tmp 2] := ⟨rfl⟩
instance : FnRes Tryz.f106 [ResultVar.tmp 2] := ⟨rfl⟩
instance : FnRes Tryz.f107 [ResultVar.tmp 4] := ⟨rfl⟩
instance : FnRes Tryz.f108 [ResultVar.tmp 2] := ⟨rfl⟩
instance : FnRes Tryz.f109 [] := ⟨rfl⟩
instance : FnRes Tryz.f110 [ResultVar.cell 4 26] := ⟨rfl⟩
instance : FnRes Tryz.f111 [] := ⟨rfl⟩
instance : FnRes Tryz.f112 [ResultVar.tmp 4] := ⟨rfl⟩
instance : FnRes Tryz.f113 [ResultVar.cell 4 26] := ⟨rfl⟩
instance : FnRes Tryz.f114 [ResultVar.cell 4 158, ResultVar.tmp 5] := ⟨rfl⟩
instance : FnRes Tryz.f115 [ResultVar.tmp 3] := ⟨rfl⟩
instance : FnRes Tryz.f116 [ResultVar.cell 4 26] := ⟨rfl⟩
instance : FnRes Tryz.f117 [ResultVar.tmp 4, ResultVar.tmp 5] := ⟨rfl⟩
instance : FnRes Tryz.f118 [ResultVar.tmp 2] := ⟨rfl⟩
instance : FnRes Tryz.f119 [ResultVar.tmp 4] := ⟨rfl⟩
instance : FnRes Tryz.f120 [ResultVar.tmp 3] := ⟨rfl⟩
instance : FnRes Tryz.f121 [ResultVar.tmp 4] := ⟨rfl⟩
instance : FnRes Tryz.f122 [ResultVar.tmp 2, ResultVar.tmp 3, ResultVar.tmp 4] := ⟨rfl⟩
instance : FnRes Tryz.f123 [ResultVar.tmp 2] := ⟨rfl⟩
instance : FnRes Tryz.f124 [ResultVar.tmp 2] := ⟨rfl⟩
instance : FnRes Tryz.f125 [ResultVar.tmp 2] := ⟨rfl⟩
instance : FnRes Tryz.f126 [ResultVar.tmp 2, ResultVar.tmp 3, ResultVar.tmp 4] := ⟨rfl⟩
instance : FnRes Tryz.f127 [ResultVar.tmp 4] := ⟨rfl⟩
instance : FnRes Tryz.f128 [ResultVar.cell 2 26] := ⟨rfl⟩
instance : FnRes Tryz.f129 [ResultVar.cell 2 26] := ⟨rfl⟩
instance : FnRes Tryz.f130 [ResultVar.tmp 2] := ⟨rfl⟩
instance : FnRes Tryz.f131 [ResultVar.tmp 6] := ⟨rfl⟩
instance : FnRes Tryz.f132 [ResultVar.tmp 4] := ⟨rfl⟩
instance : FnRes Tryz.f133 [ResultVar.cell 2 26] := ⟨rfl⟩
instance : FnRes Tryz.f134 [ResultVar.tmp 2] := ⟨rfl⟩
instance : FnRes Tryz.f135 [ResultVar.tmp 6, ResultVar.tmp 7] := ⟨rfl⟩
instance : FnRes Tryz.f136 [ResultVar.tmp 4] := ⟨rfl⟩
instance : FnRes Tryz.f137 [ResultVar.tmp 4] := ⟨rfl⟩
instance : FnRes Tryz.f138 [] := ⟨rfl⟩
instance : FnRes Tryz.f139 [] := ⟨rfl⟩
instance : FnRes Tryz.f140 [ResultVar.tmp 4] := ⟨rfl⟩
instance : FnRes Tryz.f141 [ResultVar.tmp 2, ResultVar.tmp 3] := ⟨rfl⟩
instance : FnRes Tryz.f142 [ResultVar.tmp 10] := ⟨rfl⟩
instance : FnRes Tryz.f143 [ResultVar.tmp 2] := ⟨rfl⟩
instance : FnRes Tryz.f144 [ResultVar.cell 2 26] := ⟨rfl⟩
instance : FnRes Tryz.f145 [ResultVar.tmp 2] := ⟨rfl⟩
instance : FnRes Tryz.f146 [ResultVar.cell 4 26] := ⟨rfl⟩
instance : FnRes Tryz.f147 [ResultVar.tmp 2] := ⟨rfl⟩
instance : FnRes Tryz.f148 [ResultVar.tmp 2] := ⟨rfl⟩
instance : FnRes Tryz.f149 [ResultVar.cell 4 26] := ⟨rfl⟩
instance : FnRes Tryz.f150 [ResultVar.cell 2 26] := ⟨rfl⟩
instance : FnRes Tryz.f151 [ResultVar.cell 4 26] := ⟨rfl⟩
instance : FnRes Tryz.f152 [ResultVar.tmp 4] := ⟨rfl⟩
instance : FnRes Tryz.f153 [ResultVar.tmp 2, ResultVar.tmp 3] := ⟨rfl⟩
instance : FnRes Tryz.f154 [] := ⟨rfl⟩
instance : FnRes Tryz.f155 [] := ⟨rfl⟩
instance : FnRes Tryz.f156 [] := ⟨rfl⟩
instance : FnRes Tryz.f157 [] := ⟨rfl⟩
instance : FnRes Tryz.f158 [ResultVar.tmp 6, ResultVar.tmp 7] := ⟨rfl⟩
instance : FnRes Tryz.f159 [] := ⟨rfl⟩
instance : FnRes Tryz.f160 [ResultVar.tmp 6] := ⟨rfl⟩
instance : FnRes Tryz.f161 [ResultVar.tmp 4] := ⟨rfl⟩
instance : FnRes Tryz.f162 [ResultVar.tmp 8] := ⟨rfl⟩
instance : FnRes Tryz.f163 [ResultVar.tmp 8, ResultVar.tmp 9] := ⟨rfl⟩
instance : FnRes Tryz.f164 [ResultVar.tmp 2] := ⟨rfl⟩
instance : FnRes Tryz.f165 [ResultVar.tmp 2] := ⟨rfl⟩
instance : FnRes Tryz.f166 [ResultVar.tmp 3] := ⟨rfl⟩
instance : FnRes Tryz.f167 [ResultVar.tmp 2] := ⟨rfl⟩
instance : FnRes Tryz.f168 [ResultVar.tmp 4] := ⟨rfl⟩
instance : FnRes Tryz.f169 [ResultVar.tmp 2] := ⟨rfl⟩
instance : FnRes Tryz.f170 [ResultVar.tmp 4] := ⟨rfl⟩
instance : FnRes Tryz.f171 [ResultVar.tmp 3] := ⟨rfl⟩
instance : FnRes Tryz.f172 [ResultVar.tmp 4] := ⟨rfl⟩
instance : FnRes Tryz.f173 [ResultVar.tmp 4] := ⟨rfl⟩
instance : FnRes Tryz.f174 [] := ⟨rfl⟩
instance : FnRes Tryz.f175 [ResultVar.tmp 4] := ⟨rfl⟩
instance : FnRes Tryz.f176 [ResultVar.cell 2 209, ResultVar.cell 3 4] := ⟨rfl⟩
instance : FnRes Tryz.f177 [ResultVar.tmp 6] := ⟨rfl⟩
instance : FnRes Tryz.f178 [ResultVar.tmp 2] := ⟨rfl⟩
instance : FnRes Tryz.f179 [] := ⟨rfl⟩
instance : FnRes Tryz.f180 [ResultVar.tmp 2] := ⟨rfl⟩
instance : FnRes Tryz.f181 [ResultVar.tmp 4] := ⟨rfl⟩
instance : FnRes Tryz.f182 [ResultVar.tmp 2] := ⟨rfl⟩
instance : FnRes Tryz.f183 [] := ⟨rfl⟩
instance : FnRes Tryz.f184 [ResultVar.tmp 6, ResultVar.tmp 7] := ⟨rfl⟩
instance : FnRes Tryz.f185 [ResultVar.tmp 4] := ⟨rfl⟩
instance : FnRes Tryz.f186 [ResultVar.tmp 4] := ⟨rfl⟩
instance : FnRes Tryz.f187 [ResultVar.tmp 6] := ⟨rfl⟩
instance : FnRes Tryz.f188 [ResultVar.tmp 6] := ⟨rfl⟩
instance : FnRes Tryz.f189 [ResultVar.cell 2 26] := ⟨rfl⟩
instance : FnRes Tryz.f190 [ResultVar.tmp 2] := ⟨rfl⟩
instance : FnRes Tryz.f191 [ResultVar.tmp 2] := ⟨rfl⟩
instance : FnRes Tryz.f192 [ResultVar.tmp 2] := ⟨rfl⟩
instance : FnRes Tryz.f193 [ResultVar.cell 2 26] := ⟨rfl⟩
instance : FnRes Tryz.f194 [ResultVar.cell 2 26] := ⟨rfl⟩
instance : FnRes Tryz.f195 [ResultVar.tmp 4] := ⟨rfl⟩
instance : FnRes Tryz.f196 [] := ⟨rfl⟩
instance : FnRes Tryz.f197 [ResultVar.tmp 2] := ⟨rfl⟩
instance : FnRes Tryz.f198 [ResultVar.tmp 2] := ⟨rfl⟩
instance : FnRes Tryz.f199 [ResultVar.tmp 6] := ⟨rfl⟩
instance : FnRes Tryz.f200 [ResultVar.tmp 10] := ⟨rfl⟩
instance : FnRes Tryz.f201 [ResultVar.tmp 2] := ⟨rfl⟩
instance : FnRes Tryz.f202 [ResultVar.tmp 4] := ⟨rfl⟩
instance : FnRes Tryz.f203 [ResultVar.tmp 4] := ⟨rfl⟩
instance : FnRes Tryz.f204 [] := ⟨rfl⟩
instance : FnRes Tryz.f205 [] := ⟨rfl⟩
instance : FnRes Tryz.f206 [] := ⟨rfl⟩
instance : FnRes Tryz.f207 [ResultVar.tmp 6, ResultVar.tmp 7] := ⟨rfl⟩
instance : FnRes Tryz.f208 [] := ⟨rfl⟩
instance : FnRes Tryz.f209 [ResultVar.tmp 6] := ⟨rfl⟩
instance : FnRes Tryz.f210 [ResultVar.tmp 4] := ⟨rfl⟩
instance : FnRes Tryz.f211 [ResultVar.tmp 8] := ⟨rfl⟩
instance : FnRes Tryz.f212 [ResultVar.tmp 8, ResultVar.tmp 9] := ⟨rfl⟩
instance : FnRes Tryz.f213 [ResultVar.tmp 2] := ⟨rfl⟩
instance : FnRes Tryz.f214 [ResultVar.tmp 2] := ⟨rfl⟩
instance : FnRes Tryz.f215 [ResultVar.tmp 2] := ⟨rfl⟩
instance : FnRes Tryz.f216 [ResultVar.tmp 2] := ⟨rfl⟩
instance : FnRes Tryz.f217 [ResultVar.tmp 4] := ⟨rfl⟩
instance : FnRes Tryz.f218 [ResultVar.tmp 2] := ⟨rfl⟩
instance : FnRes Tryz.f219 [ResultVar.tmp 2] := ⟨rfl⟩
instance : FnRes Tryz.f220 [ResultVar.tmp 2] := ⟨rfl⟩
instance : FnRes Tryz.f221 [] := ⟨rfl⟩
instance : FnRes Tryz.f222 [ResultVar.tmp 10, ResultVar.tmp 11] := ⟨rfl⟩
instance : FnRes Tryz.f223 [] := ⟨rfl⟩
instance : FnRes Tryz.f224 [ResultVar.tmp 6, ResultVar.tmp 7] := ⟨rfl⟩
instance : FnRes Tryz.f225 [ResultVar.tmp 2] := ⟨rfl⟩
instance : FnRes Tryz.f226 [ResultVar.tmp 2] := ⟨rfl⟩
instance : FnRes Tryz.f227 [ResultVar.tmp 4] := ⟨rfl⟩
instance : FnRes Tryz.f228 [ResultVar.tmp 8, ResultVar.tmp 9] := ⟨rfl⟩
instance : FnRes Tryz.f229 [] := ⟨rfl⟩
instance : FnRes Tryz.f230 [ResultVar.tmp 6] := ⟨rfl⟩
instance : FnRes Tryz.f231 [ResultVar.tmp 10] := ⟨rfl⟩
instance : FnRes Tryz.f232 [] := ⟨rfl⟩
instance : FnRes Tryz.f233 [ResultVar.cell 2 213, ResultVar.tmp 3] := ⟨rfl⟩
instance : FnRes Tryz.f234 [ResultVar.tmp 2] := ⟨rfl⟩
instance : FnRes Tryz.f235 [ResultVar.tmp 2] := ⟨rfl⟩
instance : FnRes Tryz.f236 [ResultVar.tmp 2] := ⟨rfl⟩
instance : FnRes Tryz.f237 [ResultVar.tmp 2] := ⟨rfl⟩
instance : FnRes Tryz.f238 [ResultVar.tmp 2] := ⟨rfl⟩
instance : FnRes Tryz.f239 [ResultVar.tmp 2] := ⟨rfl⟩
instance : FnRes Tryz.f240 [ResultVar.tmp 6] := ⟨rfl⟩
instance : FnRes Tryz.f241 [ResultVar.tmp 8, ResultVar.tmp 9] := ⟨rfl⟩
instance : FnRes Tryz.f242 [ResultVar.tmp 2] := ⟨rfl⟩
instance : FnRes Tryz.f243 [ResultVar.tmp 2] := ⟨rfl⟩
instance : FnRes Tryz.f260 [] := ⟨rfl⟩
instance : FnRes Tryz.f261 [] := ⟨rfl⟩
instance : FnRes Tryz.f264 [] := ⟨rfl⟩
instance : FnRes Tryz.f265 [] := ⟨rfl⟩
instance : FnRes Tryz.f266 [] := ⟨rfl⟩
instance : FnRes Tryz.f267 [] := ⟨rfl⟩
instance : FnRes Tryz.f268 [] := ⟨rfl⟩
instance : EntF Tryz.prog 3 := ⟨enters_of Tryz.func3 (by kernel_rfl) rfl⟩ -- safehouse/safehouselaw16.FreshReads
instance : EntF Tryz.prog 4 := ⟨enters_of Tryz.func4 (by kernel_rfl) rfl⟩ -- safehouse/safehouselaw16.FreshForged
instance : EntF Tryz.prog 5 := ⟨enters_of Tryz.func5 (by kernel_rfl) rfl⟩ -- safehouse/safehouselaw15.MetaReads
instance : EntF Tryz.prog 6 := ⟨enters_of Tryz.func6 (by kernel_rfl) rfl⟩ -- safehouse/safehouselaw15.MetaBack
instance : EntF Tryz.prog 7 := ⟨enters_of Tryz.func7 (by kernel_rfl) rfl⟩ -- safehouse/safehouselaw15.MetaApart
instance : EntF Tryz.prog 8 := ⟨enters_of Tryz.func8 (by kernel_rfl) rfl⟩ -- safehouse/safehouselaw16.wakes
instance : EntF Tryz.prog 9 := ⟨enters_of Tryz.func9 (by kernel_rfl) rfl⟩ -- safehouse/safehouselaw16.row
instance : EntF Tryz.prog 10 := ⟨enters_of Tryz.func10 (by kernel_rfl) rfl⟩ -- safehouse/fresh.Read
instance : EntF Tryz.prog 11 := ⟨enters_of Tryz.func11 (by kernel_rfl) rfl⟩ -- safehouse/safehouseref16.Read
instance : EntF Tryz.prog 12 := ⟨enters_of Tryz.func12 (by kernel_rfl) rfl⟩ -- safehouse/safehouseref05.Same
instance : EntF Tryz.prog 13 := ⟨enters_of Tryz.func13 (by kernel_rfl) rfl⟩ -- safehouse/safehouseref14.Same
instance : EntF Tryz.prog 14 := ⟨enters_of Tryz.func14 (by kernel_rfl) rfl⟩ -- safehouse/safehouselaw16.small
instance : EntF Tryz.prog 15 := ⟨enters_of Tryz.func15 (by kernel_rfl) rfl⟩ -- safehouse/close.Can
instance : EntF Tryz.prog 16 := ⟨enters_of Tryz.func16 (by kernel_rfl) rfl⟩ -- safehouse/term.Secret
instance : EntF Tryz.prog 17 := ⟨enters_of Tryz.func17 (by kernel_rfl) rfl⟩ -- safehouse/close.Parts
instance : EntF Tryz.prog 18 := ⟨enters_of Tryz.func18 (by kernel_rfl) rfl⟩ -- slices.ContainsFunc[[]safehouse/api.Term,safehouse/api.Term]
instance : EntF Tryz.prog 19 := ⟨enters_of Tryz.func19 (by kernel_rfl) rfl⟩ -- safehouse/safehouselaw16.FreshForged$1
instance : EntF Tryz.prog 20 := ⟨enters_of Tryz.func20 (by kernel_rfl) rfl⟩ -- safehouse/term.Same
instance : EntF Tryz.prog 21 := ⟨enters_of Tryz.func21 (by kernel_rfl) rfl⟩ -- safehouse/safehouselaw15.wakes
instance : EntF Tryz.prog 22 := ⟨enters_of Tryz.func22 (by kernel_rfl) rfl⟩ -- safehouse/safehouselaw15.over
instance : EntF Tryz.prog 23 := ⟨enters_of Tryz.func23 (by kernel_rfl) rfl⟩ -- safehouse/meta.Read
instance : EntF Tryz.prog 24 := ⟨enters_of Tryz.func24 (by kernel_rfl) rfl⟩ -- safehouse/safehouseref15.Read
instance : EntF Tryz.prog 25 := ⟨enters_of Tryz.func25 (by kernel_rfl) rfl⟩ -- safehouse/safehouseref15.Same
instance : EntF Tryz.prog 26 := ⟨enters_of Tryz.func26 (by kernel_rfl) rfl⟩ -- safehouse/safehouselaw15.overMeta
instance : EntF Tryz.prog 27 := ⟨enters_of Tryz.func27 (by kernel_rfl) rfl⟩ -- safehouse/meta.Make
instance : EntF Tryz.prog 28 := ⟨enters_of Tryz.func28 (by kernel_rfl) rfl⟩ -- safehouse/term.Check
instance : EntF Tryz.prog 29 := ⟨enters_of Tryz.func29 (by kernel_rfl) rfl⟩ -- safehouse/meta.Same
instance : EntF Tryz.prog 30 := ⟨enters_of Tryz.func30 (by kernel_rfl) rfl⟩ -- safehouse/term.Sign
instance : EntF Tryz.prog 31 := ⟨enters_of Tryz.func31 (by kernel_rfl) rfl⟩ -- safehouse/fresh.Publish
instance : EntF Tryz.prog 32 := ⟨enters_of Tryz.func32 (by kernel_rfl) rfl⟩ -- safehouse/fresh.Accept
instance : EntF Tryz.prog 33 := ⟨enters_of Tryz.func33 (by kernel_rfl) rfl⟩ -- safehouse/fresh.Covers
instance : EntF Tryz.prog 34 := ⟨enters_of Tryz.func34 (by kernel_rfl) rfl⟩ -- safehouse/fresh.rooted
instance : EntF Tryz.prog 35 := ⟨enters_of Tryz.func35 (by kernel_rfl) rfl⟩ -- safehouse/tree.Read
instance : EntF Tryz.prog 36 := ⟨enters_of Tryz.func36 (by kernel_rfl) rfl⟩ -- safehouse/tree.Root
instance : EntF Tryz.prog 37 := ⟨enters_of Tryz.func37 (by kernel_rfl) rfl⟩ -- safehouse/safehouseref05.Right
instance : EntF Tryz.prog 38 := ⟨enters_of Tryz.func38 (by kernel_rfl) rfl⟩ -- safehouse/safehouseref14.Read
instance : EntF Tryz.prog 39 := ⟨enters_of Tryz.func39 (by kernel_rfl) rfl⟩ -- safehouse/safehouseref05.Unlist
instance : EntF Tryz.prog 40 := ⟨enters_of Tryz.func40 (by kernel_rfl) rfl⟩ -- safehouse/safehouseref16.counter
instance : EntF Tryz.prog 41 := ⟨enters_of Tryz.func41 (by kernel_rfl) rfl⟩ -- safehouse/safehouseref16.Signed
instance : EntF Tryz.prog 42 := ⟨enters_of Tryz.func42 (by kernel_rfl) rfl⟩ -- safehouse/close.check
instance : EntF Tryz.prog 43 := ⟨enters_of Tryz.func43 (by kernel_rfl) rfl⟩ -- safehouse/close.apart
instance : EntF Tryz.prog 44 := ⟨enters_of Tryz.func44 (by kernel_rfl) rfl⟩ -- (safehouse/close.had).can
instance : EntF Tryz.prog 45 := ⟨enters_of Tryz.func45 (by kernel_rfl) rfl⟩ -- slices.Sort[[]string,string]
instance : EntF Tryz.prog 46 := ⟨enters_of Tryz.func46 (by kernel_rfl) rfl⟩ -- slices.IndexFunc[[]safehouse/api.Term,safehouse/api.Term]
instance : EntF Tryz.prog 47 := ⟨enters_of Tryz.func47 (by kernel_rfl) rfl⟩ -- slices.EqualFunc[[]safehouse/api.Term,[]safehouse/api.Term,safehouse/api.Term,safehouse/api.Term]
instance : EntF Tryz.prog 48 := ⟨enters_of Tryz.func48 (by kernel_rfl) rfl⟩ -- safehouse/cap.Make
instance : EntF Tryz.prog 49 := ⟨enters_of Tryz.func49 (by kernel_rfl) rfl⟩ -- safehouse/term.Fresh
instance : EntF Tryz.prog 50 := ⟨enters_of Tryz.func50 (by kernel_rfl) rfl⟩ -- safehouse/safehouselaw15.large
instance : EntF Tryz.prog 51 := ⟨enters_of Tryz.func51 (by kernel_rfl) rfl⟩ -- safehouse/meta.Read$1
instance : EntF Tryz.prog 52 := ⟨enters_of Tryz.func52 (by kernel_rfl) rfl⟩ -- safehouse/meta.need
instance : EntF Tryz.prog 53 := ⟨enters_of Tryz.func53 (by kernel_rfl) rfl⟩ -- safehouse/meta.list
instance : EntF Tryz.prog 54 := ⟨enters_of Tryz.func54 (by kernel_rfl) rfl⟩ -- (*safehouse/meta.reader).next
instance : EntF Tryz.prog 55 := ⟨enters_of Tryz.func55 (by kernel_rfl) rfl⟩ -- safehouse/term.Text
instance : EntF Tryz.prog 56 := ⟨enters_of Tryz.func56 (by kernel_rfl) rfl⟩ -- (*safehouse/meta.reader).number
instance : EntF Tryz.prog 57 := ⟨enters_of Tryz.func57 (by kernel_rfl) rfl⟩ -- (*safehouse/meta.reader).numbers
instance : EntF Tryz.prog 58 := ⟨enters_of Tryz.func58 (by kernel_rfl) rfl⟩ -- safehouse/meta.Check
instance : EntF Tryz.prog 59 := ⟨enters_of Tryz.func59 (by kernel_rfl) rfl⟩ -- safehouse/safehouseref15.Number
instance : EntF Tryz.prog 60 := ⟨enters_of Tryz.func60 (by kernel_rfl) rfl⟩ -- safehouse/safehouseref15.ints
instance : EntF Tryz.prog 61 := ⟨enters_of Tryz.func61 (by kernel_rfl) rfl⟩ -- safehouse/safehouseref15.Right
instance : EntF Tryz.prog 62 := ⟨enters_of Tryz.func62 (by kernel_rfl) rfl⟩ -- safehouse/safehouseref15.Term
instance : EntF Tryz.prog 63 := ⟨enters_of Tryz.func63 (by kernel_rfl) rfl⟩ -- safehouse/safehouseref11.Same
instance : EntF Tryz.prog 64 := ⟨enters_of Tryz.func64 (by kernel_rfl) rfl⟩ -- safehouse/meta.numbers
instance : EntF Tryz.prog 65 := ⟨enters_of Tryz.func65 (by kernel_rfl) rfl⟩ -- safehouse/term.List
instance : EntF Tryz.prog 66 := ⟨enters_of Tryz.func66 (by kernel_rfl) rfl⟩ -- safehouse/meta.Digits
instance : EntF Tryz.prog 67 := ⟨enters_of Tryz.func67 (by kernel_rfl) rfl⟩ -- safehouse/term.size
instance : EntF Tryz.prog 68 := ⟨enters_of Tryz.func68 (by kernel_rfl) rfl⟩ -- safehouse/perm.Same
instance : EntF Tryz.prog 69 := ⟨enters_of Tryz.func69 (by kernel_rfl) rfl⟩ -- slices.EqualFunc[[][]int,[][]int,[]int,[]int]
instance : EntF Tryz.prog 70 := ⟨enters_of Tryz.func70 (by kernel_rfl) rfl⟩ -- safehouse/meta.equal[int]
instance : EntF Tryz.prog 71 := ⟨enters_of Tryz.func71 (by kernel_rfl) rfl⟩ -- safehouse/term.of
instance : EntF Tryz.prog 72 := ⟨enters_of Tryz.func72 (by kernel_rfl) rfl⟩ -- safehouse/fresh.user
instance : EntF Tryz.prog 73 := ⟨enters_of Tryz.func73 (by kernel_rfl) rfl⟩ -- safehouse/fresh.counted
instance : EntF Tryz.prog 74 := ⟨enters_of Tryz.func74 (by kernel_rfl) rfl⟩ -- safehouse/tree.Write
instance : EntF Tryz.prog 75 := ⟨enters_of Tryz.func75 (by kernel_rfl) rfl⟩ -- strconv.Itoa
instance : EntF Tryz.prog 76 := ⟨enters_of Tryz.func76 (by kernel_rfl) rfl⟩ -- safehouse/fresh.Check
instance : EntF Tryz.prog 77 := ⟨enters_of Tryz.func77 (by kernel_rfl) rfl⟩ -- safehouse/fresh.find
instance : EntF Tryz.prog 78 := ⟨enters_of Tryz.func78 (by kernel_rfl) rfl⟩ -- slices.Clone[[]safehouse/api.Seen,safehouse/api.Seen]
instance : EntF Tryz.prog 79 := ⟨enters_of Tryz.func79 (by kernel_rfl) rfl⟩ -- safehouse/fresh.copied
instance : EntF Tryz.prog 80 := ⟨enters_of Tryz.func80 (by kernel_rfl) rfl⟩ -- slices.Insert[[]safehouse/api.Seen,safehouse/api.Seen]
instance : EntF Tryz.prog 81 := ⟨enters_of Tryz.func81 (by kernel_rfl) rfl⟩ -- safehouse/fresh.Covers$1
instance : EntF Tryz.prog 82 := ⟨enters_of Tryz.func82 (by kernel_rfl) rfl⟩ -- slices.ContainsFunc[[]safehouse/api.Mark,safehouse/api.Mark]
instance : EntF Tryz.prog 83 := ⟨enters_of Tryz.func83 (by kernel_rfl) rfl⟩ -- safehouse/fresh.Covers$1$1
instance : EntF Tryz.prog 84 := ⟨enters_of Tryz.func84 (by kernel_rfl) rfl⟩ -- safehouse/term.Unlist
instance : EntF Tryz.prog 85 := ⟨enters_of Tryz.func85 (by kernel_rfl) rfl⟩ -- safehouse/fresh.rooted$1
instance : EntF Tryz.prog 86 := ⟨enters_of Tryz.func86 (by kernel_rfl) rfl⟩ -- strconv.Atoi
instance : EntF Tryz.prog 87 := ⟨enters_of Tryz.func87 (by kernel_rfl) rfl⟩ -- safehouse/tree.Check
instance : EntF Tryz.prog 88 := ⟨enters_of Tryz.func88 (by kernel_rfl) rfl⟩ -- safehouse/tree.root
instance : EntF Tryz.prog 89 := ⟨enters_of Tryz.func89 (by kernel_rfl) rfl⟩ -- safehouse/safehouseref05.Size
instance : EntF Tryz.prog 90 := ⟨enters_of Tryz.func90 (by kernel_rfl) rfl⟩ -- safehouse/safehouseref14.number
instance : EntF Tryz.prog 91 := ⟨enters_of Tryz.func91 (by kernel_rfl) rfl⟩ -- safehouse/safehouseref14.Right
instance : EntF Tryz.prog 92 := ⟨enters_of Tryz.func92 (by kernel_rfl) rfl⟩ -- safehouse/safehouseref05.List
instance : EntF Tryz.prog 93 := ⟨enters_of Tryz.func93 (by kernel_rfl) rfl⟩ -- safehouse/safehouseref05.Text
instance : EntF Tryz.prog 94 := ⟨enters_of Tryz.func94 (by kernel_rfl) rfl⟩ -- safehouse/safehouseref14.Digits
instance : EntF Tryz.prog 95 := ⟨enters_of Tryz.func95 (by kernel_rfl) rfl⟩ -- safehouse/safehouseref14.Root
instance : EntF Tryz.prog 96 := ⟨enters_of Tryz.func96 (by kernel_rfl) rfl⟩ -- slices.Concat[[]safehouse/api.Term,safehouse/api.Term]
instance : EntF Tryz.prog 97 := ⟨enters_of Tryz.func97 (by kernel_rfl) rfl⟩ -- safehouse/close.check$1
instance : EntF Tryz.prog 98 := ⟨enters_of Tryz.func98 (by kernel_rfl) rfl⟩ -- slices.Clone[[]safehouse/api.Term,safehouse/api.Term]
instance : EntF Tryz.prog 99 := ⟨enters_of Tryz.func99 (by kernel_rfl) rfl⟩ -- safehouse/close.name
instance : EntF Tryz.prog 100 := ⟨enters_of Tryz.func100 (by kernel_rfl) rfl⟩ -- (safehouse/close.had).opens
instance : EntF Tryz.prog 101 := ⟨enters_of Tryz.func101 (by kernel_rfl) rfl⟩ -- slices.AppendSeq[[]safehouse/api.Term,safehouse/api.Term]
instance : EntF Tryz.prog 102 := ⟨enters_of Tryz.func102 (by kernel_rfl) rfl⟩ -- slices.Delete[[]safehouse/api.Term,safehouse/api.Term]
instance : EntF Tryz.prog 103 := ⟨enters_of Tryz.func103 (by kernel_rfl) rfl⟩ -- (safehouse/close.had).can$1
instance : EntF Tryz.prog 104 := ⟨enters_of Tryz.func104 (by kernel_rfl) rfl⟩ -- slices.pdqsortOrdered[string]
instance : EntF Tryz.prog 105 := ⟨enters_of Tryz.func105 (by kernel_rfl) rfl⟩ -- math/bits.Len
instance : EntF Tryz.prog 106 := ⟨enters_of Tryz.func106 (by kernel_rfl) rfl⟩ -- safehouse/perm.Check
instance : EntF Tryz.prog 107 := ⟨enters_of Tryz.func107 (by kernel_rfl) rfl⟩ -- slices.ContainsFunc[[]safehouse/api.GroupKey,safehouse/api.GroupKey]
instance : EntF Tryz.prog 108 := ⟨enters_of Tryz.func108 (by kernel_rfl) rfl⟩ -- safehouse/cap.Make$1
instance : EntF Tryz.prog 109 := ⟨enters_of Tryz.func109 (by kernel_rfl) rfl⟩ -- safehouse/cap.Make$2
instance : EntF Tryz.prog 110 := ⟨enters_of Tryz.func110 (by kernel_rfl) rfl⟩ -- safehouse/term.Pair
instance : EntF Tryz.prog 111 := ⟨enters_of Tryz.func111 (by kernel_rfl) rfl⟩ -- slices.Sort[[]int,int]
instance : EntF Tryz.prog 112 := ⟨enters_of Tryz.func112 (by kernel_rfl) rfl⟩ -- safehouse/cap.row
instance : EntF Tryz.prog 113 := ⟨enters_of Tryz.func113 (by kernel_rfl) rfl⟩ -- safehouse/term.Seal
instance : EntF Tryz.prog 114 := ⟨enters_of Tryz.func114 (by kernel_rfl) rfl⟩ -- safehouse/cap.find[safehouse/api.GroupKey]
instance : EntF Tryz.prog 115 := ⟨enters_of Tryz.func115 (by kernel_rfl) rfl⟩ -- safehouse/cap.Make$3
instance : EntF Tryz.prog 116 := ⟨enters_of Tryz.func116 (by kernel_rfl) rfl⟩ -- safehouse/term.Lock
instance : EntF Tryz.prog 117 := ⟨enters_of Tryz.func117 (by kernel_rfl) rfl⟩ -- safehouse/meta.Number
instance : EntF Tryz.prog 118 := ⟨enters_of Tryz.func118 (by kernel_rfl) rfl⟩ -- safehouse/meta.Name
instance : EntF Tryz.prog 119 := ⟨enters_of Tryz.func119 (by kernel_rfl) rfl⟩ -- slices.ContainsFunc[[][]int,[]int]
instance : EntF Tryz.prog 120 := ⟨enters_of Tryz.func120 (by kernel_rfl) rfl⟩ -- safehouse/meta.Check$1
instance : EntF Tryz.prog 121 := ⟨enters_of Tryz.func121 (by kernel_rfl) rfl⟩ -- safehouse/meta.rising
instance : EntF Tryz.prog 122 := ⟨enters_of Tryz.func122 (by kernel_rfl) rfl⟩ -- safehouse/cap.Users
instance : EntF Tryz.prog 123 := ⟨enters_of Tryz.func123 (by kernel_rfl) rfl⟩ -- safehouse/safehouseref15.Digits
instance : EntF Tryz.prog 124 := ⟨enters_of Tryz.func124 (by kernel_rfl) rfl⟩ -- safehouse/safehouseref15.Name
instance : EntF Tryz.prog 125 := ⟨enters_of Tryz.func125 (by kernel_rfl) rfl⟩ -- safehouse/safehouseref11.Right
instance : EntF Tryz.prog 126 := ⟨enters_of Tryz.func126 (by kernel_rfl) rfl⟩ -- safehouse/safehouseref13.Read
instance : EntF Tryz.prog 127 := ⟨enters_of Tryz.func127 (by kernel_rfl) rfl⟩ -- safehouse/safehouseref11.In
instance : EntF Tryz.prog 128 := ⟨enters_of Tryz.func128 (by kernel_rfl) rfl⟩ -- safehouse/safehouseref15.nums
instance : EntF Tryz.prog 129 := ⟨enters_of Tryz.func129 (by kernel_rfl) rfl⟩ -- safehouse/safehouseref15.num
instance : EntF Tryz.prog 130 := ⟨enters_of Tryz.func130 (by kernel_rfl) rfl⟩ -- slices.Backward[[]safehouse/api.Term,safehouse/api.Term]
instance : EntF Tryz.prog 131 := ⟨enters_of Tryz.func131 (by kernel_rfl) rfl⟩ -- safehouse/term.walk
instance : EntF Tryz.prog 132 := ⟨enters_of Tryz.func132 (by kernel_rfl) rfl⟩ -- slices.Equal[[]int,int]
instance : EntF Tryz.prog 133 := ⟨enters_of Tryz.func133 (by kernel_rfl) rfl⟩ -- safehouse/tree.row
instance : EntF Tryz.prog 134 := ⟨enters_of Tryz.func134 (by kernel_rfl) rfl⟩ -- internal/strconv.Itoa
instance : EntF Tryz.prog 135 := ⟨enters_of Tryz.func135 (by kernel_rfl) rfl⟩ -- slices.BinarySearchFunc[[]safehouse/api.Seen,safehouse/api.Seen,int]
instance : EntF Tryz.prog 136 := ⟨enters_of Tryz.func136 (by kernel_rfl) rfl⟩ -- safehouse/fresh.find$1
instance : EntF Tryz.prog 137 := ⟨enters_of Tryz.func137 (by kernel_rfl) rfl⟩ -- cmp.Compare[int]
instance : EntF Tryz.prog 139 := ⟨enters_of Tryz.func139 (by kernel_rfl) rfl⟩ -- slices.rotateRight[safehouse/api.Seen]
instance : EntF Tryz.prog 140 := ⟨enters_of Tryz.func140 (by kernel_rfl) rfl⟩ -- slices.IndexFunc[[]safehouse/api.Mark,safehouse/api.Mark]
instance : EntF Tryz.prog 141 := ⟨enters_of Tryz.func141 (by kernel_rfl) rfl⟩ -- internal/strconv.Atoi
instance : EntF Tryz.prog 142 := ⟨enters_of Tryz.func142 (by kernel_rfl) rfl⟩ -- strconv.toError
instance : EntF Tryz.prog 143 := ⟨enters_of Tryz.func143 (by kernel_rfl) rfl⟩ -- safehouse/tree.marked
instance : EntF Tryz.prog 144 := ⟨enters_of Tryz.func144 (by kernel_rfl) rfl⟩ -- safehouse/tree.Leaf
instance : EntF Tryz.prog 145 := ⟨enters_of Tryz.func145 (by kernel_rfl) rfl⟩ -- safehouse/tree.half
instance : EntF Tryz.prog 146 := ⟨enters_of Tryz.func146 (by kernel_rfl) rfl⟩ -- safehouse/tree.join
instance : EntF Tryz.prog 147 := ⟨enters_of Tryz.func147 (by kernel_rfl) rfl⟩ -- safehouse/safehouseref05.One
instance : EntF Tryz.prog 148 := ⟨enters_of Tryz.func148 (by kernel_rfl) rfl⟩ -- safehouse/safehouseref14.One
instance : EntF Tryz.prog 149 := ⟨enters_of Tryz.func149 (by kernel_rfl) rfl⟩ -- safehouse/safehouseref05.Pair
instance : EntF Tryz.prog 150 := ⟨enters_of Tryz.func150 (by kernel_rfl) rfl⟩ -- safehouse/safehouseref14.Leaf
instance : EntF Tryz.prog 151 := ⟨enters_of Tryz.func151 (by kernel_rfl) rfl⟩ -- safehouse/safehouseref14.Join
instance : EntF Tryz.prog 152 := ⟨enters_of Tryz.func152 (by kernel_rfl) rfl⟩ -- slices.Grow[[]safehouse/api.Term,safehouse/api.Term]
instance : EntF Tryz.prog 153 := ⟨enters_of Tryz.func153 (by kernel_rfl) rfl⟩ -- safehouse/term.Encode
instance : EntF Tryz.prog 154 := ⟨enters_of Tryz.func154 (by kernel_rfl) rfl⟩ -- (safehouse/close.had).opens$1
instance : EntF Tryz.prog 155 := ⟨enters_of Tryz.func155 (by kernel_rfl) rfl⟩ -- slices.insertionSortOrdered[string]
instance : EntF Tryz.prog 156 := ⟨enters_of Tryz.func156 (by kernel_rfl) rfl⟩ -- slices.heapSortOrdered[string]
instance : EntF Tryz.prog 157 := ⟨enters_of Tryz.func157 (by kernel_rfl) rfl⟩ -- slices.breakPatternsOrdered[string]
instance : EntF Tryz.prog 158 := ⟨enters_of Tryz.func158 (by kernel_rfl) rfl⟩ -- slices.choosePivotOrdered[string]
instance : EntF Tryz.prog 159 := ⟨enters_of Tryz.func159 (by kernel_rfl) rfl⟩ -- slices.reverseRangeOrdered[string]
instance : EntF Tryz.prog 160 := ⟨enters_of Tryz.func160 (by kernel_rfl) rfl⟩ -- slices.partialInsertionSortOrdered[string]
instance : EntF Tryz.prog 161 := ⟨enters_of Tryz.func161 (by kernel_rfl) rfl⟩ -- cmp.Less[string]
instance : EntF Tryz.prog 162 := ⟨enters_of Tryz.func162 (by kernel_rfl) rfl⟩ -- slices.partitionEqualOrdered[string]
instance : EntF Tryz.prog 163 := ⟨enters_of Tryz.func163 (by kernel_rfl) rfl⟩ -- slices.partitionOrdered[string]
instance : EntF Tryz.prog 164 := ⟨enters_of Tryz.func164 (by kernel_rfl) rfl⟩ -- math/bits.Len32
instance : EntF Tryz.prog 165 := ⟨enters_of Tryz.func165 (by kernel_rfl) rfl⟩ -- math/bits.Len64
instance : EntF Tryz.prog 166 := ⟨enters_of Tryz.func166 (by kernel_rfl) rfl⟩ -- safehouse/perm.Check$1
instance : EntF Tryz.prog 167 := ⟨enters_of Tryz.func167 (by kernel_rfl) rfl⟩ -- safehouse/perm.user
instance : EntF Tryz.prog 168 := ⟨enters_of Tryz.func168 (by kernel_rfl) rfl⟩ -- safehouse/perm.rising[int]
instance : EntF Tryz.prog 169 := ⟨enters_of Tryz.func169 (by kernel_rfl) rfl⟩ -- safehouse/perm.group
instance : EntF Tryz.prog 170 := ⟨enters_of Tryz.func170 (by kernel_rfl) rfl⟩ -- slices.ContainsFunc[[]int,int]
instance : EntF Tryz.prog 171 := ⟨enters_of Tryz.func171 (by kernel_rfl) rfl⟩ -- safehouse/perm.Check$2
instance : EntF Tryz.prog 172 := ⟨enters_of Tryz.func172 (by kernel_rfl) rfl⟩ -- slices.Contains[[]int,int]
instance : EntF Tryz.prog 173 := ⟨enters_of Tryz.func173 (by kernel_rfl) rfl⟩ -- slices.IndexFunc[[]safehouse/api.GroupKey,safehouse/api.GroupKey]
instance : EntF Tryz.prog 174 := ⟨enters_of Tryz.func174 (by kernel_rfl) rfl⟩ -- slices.pdqsortOrdered[int]
instance : EntF Tryz.prog 175 := ⟨enters_of Tryz.func175 (by kernel_rfl) rfl⟩ -- slices.IndexFunc[[][]int,[]int]
instance : EntF Tryz.prog 176 := ⟨enters_of Tryz.func176 (by kernel_rfl) rfl⟩ -- safehouse/cap.read
instance : EntF Tryz.prog 177 := ⟨enters_of Tryz.func177 (by kernel_rfl) rfl⟩ -- safehouse/safehouseref11.rising
instance : EntF Tryz.prog 178 := ⟨enters_of Tryz.func178 (by kernel_rfl) rfl⟩ -- safehouse/safehouseref13.Name
instance : EntF Tryz.prog 179 := ⟨enters_of Tryz.func179 (by kernel_rfl) rfl⟩ -- slices.Backward[[]safehouse/api.Term,safehouse/api.Term]$1
instance : EntF Tryz.prog 180 := ⟨enters_of Tryz.func180 (by kernel_rfl) rfl⟩ -- safehouse/term.plain
instance : EntF Tryz.prog 181 := ⟨enters_of Tryz.func181 (by kernel_rfl) rfl⟩ -- internal/strconv.FormatInt
instance : EntF Tryz.prog 182 := ⟨enters_of Tryz.func182 (by kernel_rfl) rfl⟩ -- cmp.isNaN[int]
instance : EntF Tryz.prog 183 := ⟨enters_of Tryz.func183 (by kernel_rfl) rfl⟩ -- slices.rotateLeft[safehouse/api.Seen]
instance : EntF Tryz.prog 184 := ⟨enters_of Tryz.func184 (by kernel_rfl) rfl⟩ -- internal/strconv.ParseInt
instance : EntF Tryz.prog 185 := ⟨enters_of Tryz.func185 (by kernel_rfl) rfl⟩ -- strconv.syntaxError
instance : EntF Tryz.prog 186 := ⟨enters_of Tryz.func186 (by kernel_rfl) rfl⟩ -- strconv.rangeError
instance : EntF Tryz.prog 187 := ⟨enters_of Tryz.func187 (by kernel_rfl) rfl⟩ -- strconv.baseError
instance : EntF Tryz.prog 188 := ⟨enters_of Tryz.func188 (by kernel_rfl) rfl⟩ -- strconv.bitSizeError
instance : EntF Tryz.prog 189 := ⟨enters_of Tryz.func189 (by kernel_rfl) rfl⟩ -- safehouse/term.Hash
instance : EntF Tryz.prog 190 := ⟨enters_of Tryz.func190 (by kernel_rfl) rfl⟩ -- safehouse/safehouseref05.Kids
instance : EntF Tryz.prog 191 := ⟨enters_of Tryz.func191 (by kernel_rfl) rfl⟩ -- safehouse/safehouseref05.User
instance : EntF Tryz.prog 192 := ⟨enters_of Tryz.func192 (by kernel_rfl) rfl⟩ -- safehouse/safehouseref05.Num
instance : EntF Tryz.prog 193 := ⟨enters_of Tryz.func193 (by kernel_rfl) rfl⟩ -- safehouse/safehouseref14.hash
instance : EntF Tryz.prog 194 := ⟨enters_of Tryz.func194 (by kernel_rfl) rfl⟩ -- safehouse/safehouseref14.row
instance : EntF Tryz.prog 195 := ⟨enters_of Tryz.func195 (by kernel_rfl) rfl⟩ -- safehouse/term.put
instance : EntF Tryz.prog 196 := ⟨enters_of Tryz.func196 (by kernel_rfl) rfl⟩ -- slices.siftDownOrdered[string]
instance : EntF Tryz.prog 197 := ⟨enters_of Tryz.func197 (by kernel_rfl) rfl⟩ -- slices.nextPowerOfTwo
instance : EntF Tryz.prog 198 := ⟨enters_of Tryz.func198 (by kernel_rfl) rfl⟩ -- (*slices.xorshift).Next
instance : EntF Tryz.prog 199 := ⟨enters_of Tryz.func199 (by kernel_rfl) rfl⟩ -- slices.medianAdjacentOrdered[string]
instance : EntF Tryz.prog 200 := ⟨enters_of Tryz.func200 (by kernel_rfl) rfl⟩ -- slices.medianOrdered[string]
instance : EntF Tryz.prog 201 := ⟨enters_of Tryz.func201 (by kernel_rfl) rfl⟩ -- cmp.isNaN[string]
instance : EntF Tryz.prog 202 := ⟨enters_of Tryz.func202 (by kernel_rfl) rfl⟩ -- slices.IndexFunc[[]int,int]
instance : EntF Tryz.prog 203 := ⟨enters_of Tryz.func203 (by kernel_rfl) rfl⟩ -- slices.Index[[]int,int]
instance : EntF Tryz.prog 204 := ⟨enters_of Tryz.func204 (by kernel_rfl) rfl⟩ -- slices.insertionSortOrdered[int]
instance : EntF Tryz.prog 205 := ⟨enters_of Tryz.func205 (by kernel_rfl) rfl⟩ -- slices.heapSortOrdered[int]
instance : EntF Tryz.prog 206 := ⟨enters_of Tryz.func206 (by kernel_rfl) rfl⟩ -- slices.breakPatternsOrdered[int]
instance : EntF Tryz.prog 207 := ⟨enters_of Tryz.func207 (by kernel_rfl) rfl⟩ -- slices.choosePivotOrdered[int]
instance : EntF Tryz.prog 208 := ⟨enters_of Tryz.func208 (by kernel_rfl) rfl⟩ -- slices.reverseRangeOrdered[int]
instance : EntF Tryz.prog 209 := ⟨enters_of Tryz.func209 (by kernel_rfl) rfl⟩ -- slices.partialInsertionSortOrdered[int]
instance : EntF Tryz.prog 210 := ⟨enters_of Tryz.func210 (by kernel_rfl) rfl⟩ -- cmp.Less[int]
instance : EntF Tryz.prog 211 := ⟨enters_of Tryz.func211 (by kernel_rfl) rfl⟩ -- slices.partitionEqualOrdered[int]
instance : EntF Tryz.prog 212 := ⟨enters_of Tryz.func212 (by kernel_rfl) rfl⟩ -- slices.partitionOrdered[int]
instance : EntF Tryz.prog 213 := ⟨enters_of Tryz.func213 (by kernel_rfl) rfl⟩ -- safehouse/cap.boxes
instance : EntF Tryz.prog 214 := ⟨enters_of Tryz.func214 (by kernel_rfl) rfl⟩ -- (safehouse/cap.box).place
instance : EntF Tryz.prog 215 := ⟨enters_of Tryz.func215 (by kernel_rfl) rfl⟩ -- safehouse/term.fields
instance : EntF Tryz.prog 216 := ⟨enters_of Tryz.func216 (by kernel_rfl) rfl⟩ -- (safehouse/term.field).kids
instance : EntF Tryz.prog 217 := ⟨enters_of Tryz.func217 (by kernel_rfl) rfl⟩ -- (safehouse/term.field).has
instance : EntF Tryz.prog 218 := ⟨enters_of Tryz.func218 (by kernel_rfl) rfl⟩ -- safehouse/term.known
instance : EntF Tryz.prog 219 := ⟨enters_of Tryz.func219 (by kernel_rfl) rfl⟩ -- internal/strconv.small
instance : EntF Tryz.prog 220 := ⟨enters_of Tryz.func220 (by kernel_rfl) rfl⟩ -- internal/strconv.numDigits
instance : EntF Tryz.prog 221 := ⟨enters_of Tryz.func221 (by kernel_rfl) rfl⟩ -- internal/strconv.formatBase10
instance : EntF Tryz.prog 222 := ⟨enters_of Tryz.func222 (by kernel_rfl) rfl⟩ -- internal/strconv.formatBits
instance : EntF Tryz.prog 223 := ⟨enters_of Tryz.func223 (by kernel_rfl) rfl⟩ -- slices.Reverse[[]safehouse/api.Seen,safehouse/api.Seen]
instance : EntF Tryz.prog 224 := ⟨enters_of Tryz.func224 (by kernel_rfl) rfl⟩ -- internal/strconv.ParseUint
instance : EntF Tryz.prog 225 := ⟨enters_of Tryz.func225 (by kernel_rfl) rfl⟩ -- internal/stringslite.Clone
instance : EntF Tryz.prog 226 := ⟨enters_of Tryz.func226 (by kernel_rfl) rfl⟩ -- errors.New
instance : EntF Tryz.prog 227 := ⟨enters_of Tryz.func227 (by kernel_rfl) rfl⟩ -- safehouse/octet.Put16
instance : EntF Tryz.prog 228 := ⟨enters_of Tryz.func228 (by kernel_rfl) rfl⟩ -- slices.order2Ordered[string]
instance : EntF Tryz.prog 229 := ⟨enters_of Tryz.func229 (by kernel_rfl) rfl⟩ -- slices.siftDownOrdered[int]
instance : EntF Tryz.prog 230 := ⟨enters_of Tryz.func230 (by kernel_rfl) rfl⟩ -- slices.medianAdjacentOrdered[int]
instance : EntF Tryz.prog 231 := ⟨enters_of Tryz.func231 (by kernel_rfl) rfl⟩ -- slices.medianOrdered[int]
instance : EntF Tryz.prog 232 := ⟨enters_of Tryz.func232 (by kernel_rfl) rfl⟩ -- safehouse/cap.boxes$1
instance : EntF Tryz.prog 233 := ⟨enters_of Tryz.func233 (by kernel_rfl) rfl⟩ -- safehouse/cap.of
instance : EntF Tryz.prog 234 := ⟨enters_of Tryz.func234 (by kernel_rfl) rfl⟩ -- internal/strconv.log10Pow2
instance : EntF Tryz.prog 235 := ⟨enters_of Tryz.func235 (by kernel_rfl) rfl⟩ -- internal/strconv.bool2[int]
instance : EntF Tryz.prog 236 := ⟨enters_of Tryz.func236 (by kernel_rfl) rfl⟩ -- internal/strconv.isPowerOfTwo
instance : EntF Tryz.prog 237 := ⟨enters_of Tryz.func237 (by kernel_rfl) rfl⟩ -- math/bits.TrailingZeros
instance : EntF Tryz.prog 238 := ⟨enters_of Tryz.func238 (by kernel_rfl) rfl⟩ -- internal/strconv.lower
instance : EntF Tryz.prog 239 := ⟨enters_of Tryz.func239 (by kernel_rfl) rfl⟩ -- internal/strconv.underscoreOK
instance : EntF Tryz.prog 240 := ⟨enters_of Tryz.func240 (by kernel_rfl) rfl⟩ -- safehouse/octet.lay[uint16]
instance : EntF Tryz.prog 241 := ⟨enters_of Tryz.func241 (by kernel_rfl) rfl⟩ -- slices.order2Ordered[int]
instance : EntF Tryz.prog 242 := ⟨enters_of Tryz.func242 (by kernel_rfl) rfl⟩ -- math/bits.TrailingZeros32
instance : EntF Tryz.prog 243 := ⟨enters_of Tryz.func243 (by kernel_rfl) rfl⟩ -- math/bits.TrailingZeros64
end
end Go.Proofs.YtmngicgdgpimlaaGreatDoor

/- Package term: what the small functions compute. -/
namespace Go.Proofs.YtmngicgdgpimlaaGreatDoor
open Go Go.Wk
set_option synthInstance.maxSize 100000
set_option synthInstance.maxHeartbeats 400000
set_option maxRecDepth 100000

def fieldsOf (k : Int) : Int :=
  if k = 1 then 1 else if k = 2 then 6 else if k = 3 then 2 else if k = 4 ∨ k = 6 then 16 else if k = 5 then 8 else if k = 7 then 10 else if k = 8 then 14 else 0

theorem fields_c (k : Int) (w : World) : Ret Tryz.prog 215 [.int .i64 k] w (fun _ => False) fun v _ => v = .int .i64 (fieldsOf k) := by
  refine enter Tryz.func215 rfl rfl (Wd.start w) (fun a S => ?_)
  simp only [Tryz.ntmps215, List.length_cons, List.length_nil, Nat.reduceAdd, Nat.reduceSub, List.replicate_succ, List.replicate_zero, List.cons_append, List.nil_append] at S
  refine c_seq ?_
  refine c_region ?_
  refine sq S ?_; clear S; intro a S
  refine wl_nil ?_
  refine xtn ?_
  iterate 2 (refine c_seq ?_)
  refine c_region ?_
  refine sq S ?_; clear S; intro a S
  refine wl_nil ?_
  refine xtn ?_
  refine c_block ?_
  refine c_seq ?_
  refine c_region ?_
  iterate 2 (refine sq S ?_; clear S; intro a S)
  refine wl_nil ?_
  refine xtn ?_
  refine c_cond S (fun h2 => ?_) (fun h2 => ?_)
  · refine c_seq ?_
    refine c_region ?_
    refine sq S ?_; clear S; intro a S
    refine wl_nil ?_
    refine xtn ?_
    refine c_ret ?_
    refine xbr ?_
    refine xtr ?_
    refine fin1 S (fun _ => ?_)
    simp at *; first | (exfalso; omega) | simp [*, fieldsOf]
  · refine c_seq ?_
    refine c_region ?_
    iterate 2 (refine sq S ?_; clear S; intro a S)
    refine wl_nil ?_
    refine xtn ?_
    refine c_cond S (fun h4 => ?_) (fun h4 => ?_)
    · refine c_seq ?_
      refine c_region ?_
      refine sq S ?_; clear S; intro a S
      refine wl_nil ?_
      refine xtn ?_
      refine c_ret ?_
      refine xbr ?_
      refine xtr ?_
      refine fin1 S (fun _ => ?_)
      simp at *; first | (exfalso; omega) | simp [*, fieldsOf]
    · refine c_seq ?_
      refine c_region ?_
      iterate 2 (refine sq S ?_; clear S; intro a S)
      refine wl_nil ?_
      refine xtn ?_
      refine c_cond S (fun h6 => ?_) (fun h6 => ?_)
      · refine c_seq ?_
        refine c_region ?_
        refine sq S ?_; clear S; intro a S
        refine wl_nil ?_
        refine xtn ?_
        refine c_ret ?_
        refine xbr ?_
        refine xtr ?_
        refine fin1 S (fun _ => ?_)
        simp at *; first | (exfalso; omega) | simp [*, fieldsOf]
      · refine c_seq ?_
        refine c_seq ?_
        refine c_region ?_
        iterate 2 (refine sq S ?_; clear S; intro a S)
        refine wl_nil ?_
        refine xtn ?_
        refine c_cond S (fun h8 => ?_) (fun h8 => ?_)
        · refine c_skip ?_
          refine xtn ?_
          refine c_cond S (fun h8 => ?_) (fun h8 => ?_)
          · refine c_seq ?_
            refine c_region ?_
            refine sq S ?_; clear S; intro a S
            refine wl_nil ?_
            refine xtn ?_
            refine c_ret ?_
            refine xbr ?_
            refine xtr ?_
            refine fin1 S (fun _ => ?_)
            simp at *; first | (exfalso; omega) | simp [*, fieldsOf]
          · refine c_seq ?_
            refine c_region ?_
            iterate 2 (refine sq S ?_; clear S; intro a S)
            refine wl_nil ?_
            refine xtn ?_
            refine c_cond S (fun h11 => ?_) (fun h11 => ?_)
            · refine c_seq ?_
              refine c_region ?_
              refine sq S ?_; clear S; intro a S
              refine wl_nil ?_
              refine xtn ?_
              refine c_ret ?_
              refine xbr ?_
              refine xtr ?_
              refine fin1 S (fun _ => ?_)
              simp at *; first | (exfalso; omega) | simp [*, fieldsOf]
            · refine c_seq ?_
              refine c_region ?_
              iterate 2 (refine sq S ?_; clear S; intro a S)
              refine wl_nil ?_
              refine xtn ?_
              refine c_cond S (fun h13 => ?_) (fun h13 => ?_)
              · refine c_seq ?_
                refine c_region ?_
                refine sq S ?_; clear S; intro a S
                refine wl_nil ?_
                refine xtn ?_
                refine c_ret ?_
                refine xbr ?_
                refine xtr ?_
                refine fin1 S (fun _ => ?_)
                simp at *; first | (exfalso; omega) | simp [*, fieldsOf]
              · refine c_seq ?_
                refine c_region ?_
                iterate 2 (refine sq S ?_; clear S; intro a S)
                refine wl_nil ?_
                refine xtn ?_
                refine c_cond S (fun h15 => ?_) (fun h15 => ?_)
                · refine c_seq ?_
                  refine c_region ?_
                  refine sq S ?_; clear S; intro a S
                  refine wl_nil ?_
                  refine xtn ?_
                  refine c_ret ?_
                  refine xbr ?_
                  refine xtr ?_
                  refine fin1 S (fun _ => ?_)
                  simp at *; first | (exfalso; omega) | simp [*, fieldsOf]
                · refine c_skip ?_
                  refine xbn ?_
                  refine xtn ?_
                  refine c_seq ?_
                  refine c_region ?_
                  refine sq S ?_; clear S; intro a S
                  refine wl_nil ?_
                  refine xtn ?_
                  refine c_ret ?_
                  refine fin1 S (fun _ => ?_)
                  simp at *; first | (exfalso; omega) | simp [*, fieldsOf]
        · refine c_region ?_
          iterate 2 (refine sq S ?_; clear S; intro a S)
          refine wl_nil ?_
          refine xtn ?_
          refine c_cond S (fun h9 => ?_) (fun h9 => ?_)
          · refine c_seq ?_
            refine c_region ?_
            refine sq S ?_; clear S; intro a S
            refine wl_nil ?_
            refine xtn ?_
            refine c_ret ?_
            refine xbr ?_
            refine xtr ?_
            refine fin1 S (fun _ => ?_)
            simp at *; first | (exfalso; omega) | simp [*, fieldsOf]
          · refine c_seq ?_
            refine c_region ?_
            iterate 2 (refine sq S ?_; clear S; intro a S)
            refine wl_nil ?_
            refine xtn ?_
            refine c_cond S (fun h11 => ?_) (fun h11 => ?_)
            · refine c_seq ?_
              refine c_region ?_
              refine sq S ?_; clear S; intro a S
              refine wl_nil ?_
              refine xtn ?_
              refine c_ret ?_
              refine xbr ?_
              refine xtr ?_
              refine fin1 S (fun _ => ?_)
              simp at *; first | (exfalso; omega) | simp [*, fieldsOf]
            · refine c_seq ?_
              refine c_region ?_
              iterate 2 (refine sq S ?_; clear S; intro a S)
              refine wl_nil ?_
              refine xtn ?_
              refine c_cond S (fun h13 => ?_) (fun h13 => ?_)
              · refine c_seq ?_
                refine c_region ?_
                refine sq S ?_; clear S; intro a S
                refine wl_nil ?_
                refine xtn ?_
                refine c_ret ?_
                refine xbr ?_
                refine xtr ?_
                refine fin1 S (fun _ => ?_)
                simp at *; first | (exfalso; omega) | simp [*, fieldsOf]
              · refine c_seq ?_
                refine c_region ?_
                iterate 2 (refine sq S ?_; clear S; intro a S)
                refine wl_nil ?_
                refine xtn ?_
                refine c_cond S (fun h15 => ?_) (fun h15 => ?_)
                · refine c_seq ?_
                  refine c_region ?_
                  refine sq S ?_; clear S; intro a S
                  refine wl_nil ?_
                  refine xtn ?_
                  refine c_ret ?_
                  refine xbr ?_
                  refine xtr ?_
                  refine fin1 S (fun _ => ?_)
                  simp at *; first | (exfalso; omega) | simp [*, fieldsOf]
                · refine c_skip ?_
                  refine xbn ?_
                  refine xtn ?_
                  refine c_seq ?_
                  refine c_region ?_
                  refine sq S ?_; clear S; intro a S
                  refine wl_nil ?_
                  refine xtn ?_
                  refine c_ret ?_
                  refine fin1 S (fun _ => ?_)
                  simp at *; first | (exfalso; omega) | simp [*, fieldsOf]
instance {k : Int} {bs fs} : CallV Tryz.prog 215 [.int .i64 k] bs fs (.int .i64 (fieldsOf k)) := ⟨fun w _ => fields_c k w⟩

def hasF (f g : Int) : Bool := !decide (iand .i64 f g = 0)
theorem has_c (f g : Int) (w : World) : Ret Tryz.prog 217 [.int .i64 f, .int .i64 g] w (fun _ => False) fun v _ => v = .bool (hasF f g) := by
  refine enter Tryz.func217 rfl rfl (Wd.start w) (fun a S => ?_)
  simp only [Tryz.ntmps217, List.length_cons, List.length_nil, Nat.reduceAdd, Nat.reduceSub, List.replicate_succ, List.replicate_zero, List.cons_append, List.nil_append] at S
  refine c_seq ?_
  refine c_region ?_
  refine sq S ?_; clear S; intro a S
  refine wl_nil ?_
  refine xtn ?_
  refine c_seq ?_
  refine c_region ?_
  iterate 5 (refine sq S ?_; clear S; intro a S)
  refine wl_nil ?_
  refine xtn ?_
  refine c_ret ?_
  refine fin1 S (fun _ => ?_)
  rfl
instance {f g : Int} {bs fs} : CallV Tryz.prog 217 [.int .i64 f, .int .i64 g] bs fs (.bool (hasF f g)) := ⟨fun w _ => has_c f g w⟩

def kidsF (f : Int) : Int := if hasF f 16 then 2 else if hasF f 8 then 1 else 0
theorem kids_c (f : Int) (w : World) : Ret Tryz.prog 216 [.int .i64 f] w (fun _ => False) fun v _ => v = .int .i64 (kidsF f) := by
  refine enter Tryz.func216 rfl rfl (Wd.start w) (fun a S => ?_)
  simp only [Tryz.ntmps216, List.length_cons, List.length_nil, Nat.reduceAdd, Nat.reduceSub, List.replicate_succ, List.replicate_zero, List.cons_append, List.nil_append] at S
  refine c_seq ?_
  refine c_region ?_
  refine sq S ?_; clear S; intro a S
  refine wl_nil ?_
  refine xtn ?_
  refine c_seq ?_
  refine c_block ?_
  refine c_seq ?_
  refine c_region ?_
  refine sq S ?_; clear S; intro a S
  refine sc S ?_; clear S; intro a w S
  refine sq S ?_; clear S; intro a S
  refine wl_nil ?_
  refine xtn ?_
  refine c_cond S (fun h1 => ?_) (fun h1 => ?_)
  · refine c_seq ?_
    refine c_region ?_
    refine sq S ?_; clear S; intro a S
    refine wl_nil ?_
    refine xtn ?_
    refine c_ret ?_
    refine xbr ?_
    refine xtr ?_
    refine fin1 S (fun _ => ?_)
    simp [*, kidsF]
  · refine c_seq ?_
    refine c_region ?_
    refine sq S ?_; clear S; intro a S
    refine sc S ?_; clear S; intro a w S
    refine sq S ?_; clear S; intro a S
    refine wl_nil ?_
    refine xtn ?_
    refine c_cond S (fun h3 => ?_) (fun h3 => ?_)
    · refine c_seq ?_
      refine c_region ?_
      refine sq S ?_; clear S; intro a S
      refine wl_nil ?_
      refine xtn ?_
      refine c_ret ?_
      refine xbr ?_
      refine xtr ?_
      refine fin1 S (fun _ => ?_)
      simp [*, kidsF]
    · refine c_skip ?_
      refine xbn ?_
      refine xtn ?_
      refine c_seq ?_
      refine c_region ?_
      refine sq S ?_; clear S; intro a S
      refine wl_nil ?_
      refine xtn ?_
      refine c_ret ?_
      refine fin1 S (fun _ => ?_)
      simp [*, kidsF]
instance {f : Int} {bs fs} : CallV Tryz.prog 216 [.int .i64 f] bs fs (.int .i64 (kidsF f)) := ⟨fun w _ => kids_c f w⟩

def knownF (n : Int) : Bool := decide (1 ≤ n) && decide (n ≤ 6)
theorem known_c (n : Int) (w : World) : Ret Tryz.prog 218 [.int .i64 n] w (fun _ => False) fun v _ => v = .bool (knownF n) := by
  refine enter Tryz.func218 rfl rfl (Wd.start w) (fun a S => ?_)
  simp only [Tryz.ntmps218, List.length_cons, List.length_nil, Nat.reduceAdd, Nat.reduceSub, List.replicate_succ, List.replicate_zero, List.cons_append, List.nil_append] at S
  refine c_seq ?_
  refine c_region ?_
  refine sq S ?_; clear S; intro a S
  refine wl_nil ?_
  refine xtn ?_
  refine c_seq ?_
  refine c_region ?_
  iterate 3 (refine sq S ?_; clear S; intro a S)
  iterate 2 (refine gQ S ?_; clear S; intro a S)
  iterate 2 (refine sq S ?_; clear S; intro a S)
  refine wl_nil ?_
  refine xtn ?_
  refine c_ret ?_
  refine fin1 S (fun _ => ?_)
  rfl
instance {n : Int} {bs fs} : CallV Tryz.prog 218 [.int .i64 n] bs fs (.bool (knownF n)) := ⟨fun w _ => known_c n w⟩

def plainF (k u n : Int) (s : List UInt8) (m : Nat) : Bool :=
  let f := fieldsOf k
  !decide (f = 0) && decide ((m : Int) = kidsF f) && decide ((s.length : Int) ≤ 64) && (hasF f 1 || decide (s = [])) && (hasF f 2 && knownF u || !hasF f 2 && decide (u = 0)) && (hasF f 4 && decide (0 ≤ n) && decide (n ≤ 65535) || !hasF f 4 && decide (n = 0))
theorem plain_c (k u n : Int) (s : List UInt8) (p : Option Addr) (m c : Nat) (w : World) : Ret Tryz.prog 180 [.agg #[.int .i64 k, .int .i64 u, .int .i64 n, str s, .slice p m c]] w (fun _ => False) fun v _ => v = .bool (plainF k u n s m) := by
  refine enter Tryz.func180 rfl rfl (Wd.start w) (fun a S => ?_)
  simp only [Tryz.ntmps180, List.length_cons, List.length_nil, Nat.reduceAdd, Nat.reduceSub, List.replicate_succ, List.replicate_zero, List.cons_append, List.nil_append] at S
  refine c_seq ?_
  refine c_region ?_
  refine sa S ?_; clear S; intro b1 a w S
  refine sq S ?_; clear S; intro a S
  refine wl_nil ?_
  refine xtn ?_
  refine c_seq ?_
  refine c_region ?_
  iterate 2 (refine sq S ?_; clear S; intro a S)
  refine sc S ?_; clear S; intro a w S
  refine sq S ?_; clear S; intro a S
  refine wl_nil ?_
  refine xtn ?_
  refine c_seq ?_
  refine c_drawD [(0, true), (1, true), (2, true), (3, true), (4, true), (5, true), (6, true), (7, false), (8, true), (9, true), (10, true), (11, true), (12, true), (13, true), (14, true), (15, true), (16, true), (17, true), (18, false), (19, true), (20, true), (21, true), (22, true), (23, true), (24, true), (25, true)] [] S ?_; clear S; intro w S
  iterate 3 (refine dq S ?_; clear S; intro a S)
  iterate 4 (refine dqG S ?_; clear S; intro a S)
  refine dl ?_
  refine gC S ?_; clear S; intro a w S
  refine de S ?_
  refine dqG S ?_; clear S; intro a S
  iterate 2 (refine dq S ?_; clear S; intro a S)
  iterate 4 (refine dqG S ?_; clear S; intro a S)
  iterate 2 (refine dq S ?_; clear S; intro a S)
  refine dqG S ?_; clear S; intro a S
  refine dl ?_
  refine gC S ?_; clear S; intro a w S
  refine de S ?_
  iterate 5 (refine dqG S ?_; clear S; intro a S)
  iterate 2 (refine dq S ?_; clear S; intro a S)
  refine dn ?_
  refine xtn ?_
  refine c_seq ?_
  refine c_region ?_
  iterate 2 (refine sq S ?_; clear S; intro a S)
  refine gQ S ?_; clear S; intro a S
  refine gC S ?_; clear S; intro a w S
  iterate 3 (refine gQ S ?_; clear S; intro a S)
  refine gC S ?_; clear S; intro a w S
  iterate 3 (refine gQ S ?_; clear S; intro a S)
  refine gC S ?_; clear S; intro a w S
  iterate 7 (refine gQ S ?_; clear S; intro a S)
  iterate 2 (refine sq S ?_; clear S; intro a S)
  refine wl_nil ?_
  refine xtn ?_
  refine c_seq ?_
  refine c_region ?_
  iterate 2 (refine sq S ?_; clear S; intro a S)
  refine gQ S ?_; clear S; intro a S
  refine gC S ?_; clear S; intro a w S
  iterate 12 (refine gQ S ?_; clear S; intro a S)
  refine gC S ?_; clear S; intro a w S
  iterate 7 (refine gQ S ?_; clear S; intro a S)
  iterate 2 (refine sq S ?_; clear S; intro a S)
  refine wl_nil ?_
  refine xtn ?_
  refine c_ret ?_
  refine fin1 S (fun _ => ?_)
  first | rfl | simp [plainF]
instance {k u n : Int} {s : List UInt8} {p : Option Addr} {m c : Nat} {bs fs} : CallV Tryz.prog 180 [.agg #[.int .i64 k, .int .i64 u, .int .i64 n, str s, .slice p m c]] bs fs (.bool (plainF k u n s m)) := ⟨fun w _ => plain_c k u n s p m c w⟩
end Go.Proofs.YtmngicgdgpimlaaGreatDoor

/- Package term: a walk through a term; its size. -/
namespace Go.Proofs.YtmngicgdgpimlaaGreatDoor
open Go Go.Wk
set_option synthInstance.maxSize 100000
set_option synthInstance.maxHeartbeats 400000
set_option maxRecDepth 100000

mutual
def walkF : Term → Int → Int → Bool × Int
  | .mk k u n s kids, deep, left => if left - 1 < 0 ∨ 60 < deep ∨ plainF k u n s kids.length = false then (false, left - 1) else walkLF kids (deep + 1) (left - 1)
def walkLF : List Term → Int → Int → Bool × Int
  | [], _, left => (true, left)
  | t :: ts, deep, left => if (walkF t deep left).1 then walkLF ts deep (walkF t deep left).2 else (false, (walkF t deep left).2)
end

mutual
theorem walkF_le : ∀ (t : Term) (deep left : Int), (walkF t deep left).2 ≤ left
  | .mk k u n s kids, deep, left => by
    rw [walkF]; split
    · simp; omega
    · have := walkLF_le kids (deep + 1) (left - 1); omega
theorem walkLF_le : ∀ (ts : List Term) (deep left : Int), (walkLF ts deep left).2 ≤ left
  | [], deep, left => by simp [walkLF]
  | t :: ts, deep, left => by
    have h1 := walkF_le t deep left
    have h2 := walkLF_le ts deep (walkF t deep left).2
    rw [walkLF]; split
    · omega
    · exact h1
end
mutual
theorem walkF_ge : ∀ (t : Term) (deep left : Int), 0 ≤ left → (walkF t deep left).1 = true → 0 ≤ (walkF t deep left).2
  | .mk k u n s kids, deep, left => by
    intro h0 h
    rw [walkF] at h ⊢
    split at h
    · simp at h
    · rename_i hc
      rw [if_neg hc]
      exact walkLF_ge kids (deep + 1) (left - 1) (by omega) h
theorem walkLF_ge : ∀ (ts : List Term) (deep left : Int), 0 ≤ left → (walkLF ts deep left).1 = true → 0 ≤ (walkLF ts deep left).2
  | [], deep, left => by intro h0 _; simpa [walkLF] using h0
  | t :: ts, deep, left => by
    intro h0 h
    rw [walkLF] at h ⊢
    split at h
    · rename_i hc
      rw [if_pos hc]
      exact walkLF_ge ts deep _ (walkF_ge t deep left h0 hc) h
    · simp at h
end


theorem walk_c (N : Nat) : ∀ (t : LTerm) (deep left : Int) (b : Nat) (w0 : World), SizeOf.sizeOf t ≤ N → 0 ≤ deep → deep ≤ 61 → 0 ≤ left → left ≤ 1200 → Stable (fun k => k = b) w0 (LtF t) → w0.heap[b]? = some (.cells #[.int .i64 left] 3 (0, 0)) →
    Ret Tryz.prog 131 [vL t, .int .i64 deep, .pointer (some ⟨b, 0, none⟩)] w0 (fun k => k = b) fun v w' => v = .bool (walkF t.t deep left).1 ∧ w'.heap[b]? = some (.cells #[.int .i64 (walkF t.t deep left).2] 3 (0, 0)) := by
  induction N with
  | zero => intro t _ _ _ _ h; cases t; simp at h
  | succ N ih =>
  intro t deep left b w0 hN hd hd' hl hl' hf hb
  have e0 := t.t_eq
  refine enter Tryz.func131 rfl rfl (Wd.lent (fs := [LtF t]) hb (by simpa using hf)) (fun a S => ?_)
  simp only [Tryz.ntmps131, List.length_cons, List.length_nil, Nat.reduceAdd, Nat.reduceSub, List.replicate_succ, List.replicate_zero, List.cons_append, List.nil_append] at S
  refine c_seq ?_
  refine c_region ?_
  refine sa S ?_; clear S; intro b3 a w S
  refine sq S ?_; clear S; intro a S
  refine wl_nil ?_
  refine xtn ?_
  iterate 2 (refine c_seq ?_)
  refine c_region ?_
  iterate 4 (refine sq S ?_; clear S; intro a S)
  rw [w64 (left - 1) (by omega) (by omega)] at S
  refine sq S ?_; clear S; intro a S
  refine sw S ?_; clear S; intro a w S
  refine wl_nil ?_
  refine xtn ?_
  refine c_seq ?_
  refine c_region ?_
  iterate 5 (refine sq S ?_; clear S; intro a S)
  iterate 2 (refine gQ S ?_; clear S; intro a S)
  iterate 2 (refine sq S ?_; clear S; intro a S)
  refine gQ S ?_; clear S; intro a S
  refine gC S ?_; clear S; intro a w S
  refine gQ S ?_; clear S; intro a S
  refine sq S ?_; clear S; intro a S
  refine wl_nil ?_
  refine xtn ?_
  refine c_cond S (fun h2 => ?_) (fun h2 => ?_)
  · refine c_seq ?_
    refine c_region ?_
    refine sq S ?_; clear S; intro a S
    refine wl_nil ?_
    refine xtn ?_
    refine c_ret ?_
    refine xtr ?_
    have hbx := S.box b
    refine fin1 S (fun _ => ?_)
    have h3 : left - 1 < 0 ∨ 60 < deep ∨ plainF t.kind t.user t.num t.text t.kids.length = false := by simpa [or_assoc] using h2
    rw [e0, walkF, if_pos (by simpa using h3)]
    exact ⟨rfl, hbx⟩
  · refine c_skip ?_
    refine xtn ?_
    iterate 2 (refine c_seq ?_)
    refine c_region ?_
    iterate 4 (refine sq S ?_; clear S; intro a S)
    refine wl_nil ?_
    refine xtn ?_
    refine c_block ?_
    have h3 : ¬ (left - 1 < 0 ∨ 60 < deep ∨ plainF t.kind t.user t.num t.text t.kids.length = false) := by simpa [and_assoc] using h2
    have hlen := LTerm.len_le hf
    refine c_loop (ι := Nat) (fun k a w => k ≤ t.kids.length ∧ ∃ lf, 0 ≤ lf ∧ lf ≤ 1200 ∧ walkLF ((t.kids.drop k).map LTerm.t) (deep + 1) lf = walkF t.t deep left ∧ ∃ uu : Nat → Value,  St w0 (fun k => k = b) [] a w ((vL t) :: (.int .i64 deep) :: (.pointer (some ⟨b, 0, none⟩)) :: (.pointer (some ⟨b3, 0, none⟩)) :: uu 4 :: uu 5 :: (.bool false) :: uu 7 :: uu 8 :: uu 9 :: uu 10 :: uu 11 :: uu 12 :: uu 13 :: uu 14 :: uu 15 :: uu 16 :: uu 17 :: uu 18 :: uu 19 :: uu 20 :: uu 21 :: uu 22 :: uu 23 :: uu 24 :: uu 25 :: uu 26 :: uu 27 :: (.slice t.p t.kids.length t.cap) :: (.int .i64 t.kids.length) :: (.int .i64 (k : Nat)) :: uu 31 :: uu 32 :: uu 33 :: uu 34 :: uu 35 :: uu 36 :: uu 37 :: uu 38 :: uu 39 :: uu 40 :: []) [box b3 26 t.cells, box b 3 [.int .i64 lf]] [LtF t]) (fun k => t.kids.length - k) 0 ?_ ?_
    · refine ⟨Nat.zero_le _, left - 1, by omega, by omega, ?_, S.uu, S⟩
      rw [e0, walkF, if_neg (by simpa using h3)]; rfl
    · clear S
      rintro k a w ⟨hk, lf, hlf, hlf', hrel, uu, S⟩
      refine c_seq ?_
      refine c_region ?_
      refine sq S ?_; clear S; intro a S
      refine wl_nil ?_
      refine xtn ?_
      refine c_seq ?_
      refine c_cond S (fun h5 => ?_) (fun h5 => ?_)
      · refine c_skip ?_
        refine xtn ?_
        refine c_seq ?_
        refine c_block ?_
        refine c_seq ?_
        refine c_region ?_
        have hkl : k < t.kids.length := by simpa using h5
        obtain ⟨x, ad, hx, hm, hp, hcell, hfx⟩ := LTerm.kid (S.fact (Φ := LtF t) (by simp)) hkl
        replace S := S.add hfx
        refine si S ad hp (by omega) (by omega) ?_; clear S; intro a S
        refine slA x.cells S hcell ?_; clear S; intro a S
        refine sa S ?_; clear S; intro b8 a w S
        refine sw S ?_; clear S; intro a w S
        refine wl_nil ?_
        refine xtn ?_
        refine c_seq ?_
        refine c_region ?_
        iterate 3 (refine sq S ?_; clear S; intro a S)
        rw [w64 (deep + 1) (by omega) (by omega)] at S
        refine sq S ?_; clear S; intro a S
        have hdr : t.kids.drop k = x :: t.kids.drop (k + 1) := by
          rw [List.drop_eq_getElem_cons hkl]; congr 1
          exact (List.getElem?_eq_some_iff.1 hx).2
        rw [hdr, List.map_cons, walkLF] at hrel
        have hb1 := walkF_le x.t (deep + 1) lf
        refine sb S (b := b) (ih x (deep + 1) lf b w (by have := LTerm.kid_lt hm; omega) (by omega) (by have : ¬ 60 < deep := fun h => h3 (.inr (.inl h)); omega) hlf hlf' (S.fb b (by simp)) (S.box b)) ?_; clear S
        rintro v a w ⟨rfl, hcb⟩ hS
        have S := hS [.int .i64 _] _ inferInstance hcb
        clear hS
        refine sq S ?_; clear S; intro a S
        refine wl_nil ?_
        refine xtn ?_
        refine c_cond S (fun h7 => ?_) (fun h7 => ?_)
        · refine c_seq ?_
          refine c_region ?_
          refine sq S ?_; clear S; intro a S
          refine wl_nil ?_
          refine xtn ?_
          refine c_ret ?_
          refine xbr ?_
          iterate 2 (refine xtr ?_)
          refine xbr ?_
          refine xtr ?_
          have hbx := S.box b
          refine fin1 S (fun _ => ?_)
          have h8 : (walkF x.t (deep + 1) lf).1 = false := by simpa using h7
          rw [if_neg (by simp [h8])] at hrel
          rw [← hrel]
          exact ⟨rfl, hbx⟩
        · refine c_skip ?_
          refine xbn ?_
          refine xtn ?_
          refine c_region ?_
          iterate 2 (refine sq S ?_; clear S; intro a S)
          refine wl_nil ?_
          refine xtn ?_
          have h8 : (walkF x.t (deep + 1) lf).1 = true := by simpa using h7
          rw [if_pos h8] at hrel
          replace S := S.sub [box b3 26 t.cells, box b 3 [.int .i64 (walkF x.t (deep + 1) lf).2]] [LtF t]
          rw [w64 ((k : Int) + 1) (by omega) (by omega)] at S
          exact ⟨k + 1, ⟨hkl, _, walkF_ge x.t (deep + 1) lf hlf h8, by omega, hrel, S.uu, S⟩, by omega⟩
      · refine c_exit ?_
        iterate 2 (refine xte ?_)
        refine xbe ?_
        refine xtn ?_
        refine c_seq ?_
        refine c_region ?_
        refine sq S ?_; clear S; intro a S
        refine wl_nil ?_
        refine xtn ?_
        refine c_ret ?_
        have hbx := S.box b
        refine fin1 S (fun _ => ?_)
        have h6 : t.kids.length ≤ k := by simpa using h5
        rw [List.drop_of_length_le h6, List.map_nil, walkLF] at hrel
        rw [← hrel]
        exact ⟨rfl, hbx⟩
end Go.Proofs.YtmngicgdgpimlaaGreatDoor

/- Package term: size, Check, Size; the makers of terms. -/
namespace Go.Proofs.YtmngicgdgpimlaaGreatDoor
open Go Go.Wk
set_option synthInstance.maxSize 100000
set_option synthInstance.maxHeartbeats 400000
set_option maxRecDepth 100000

def sizeF (t : Term) : Int := if (walkF t 1 1200).1 then 1200 - (walkF t 1 1200).2 else 0
theorem size_c (t : LTerm) (w0 : World) (hf : Stable (fun _ => False) w0 (LtF t)) : Ret Tryz.prog 67 [vL t] w0 (fun _ => False) fun v _ => v = .int .i64 (sizeF t.t) := by
  have h1 := walkF_le t.t 1 1200
  refine enter Tryz.func67 rfl rfl (Wd.begin (fs := [LtF t]) (by simpa using hf)) (fun a S => ?_)
  simp only [Tryz.ntmps67, List.length_cons, List.length_nil, Nat.reduceAdd, Nat.reduceSub, List.replicate_succ, List.replicate_zero, List.cons_append, List.nil_append] at S
  refine c_seq ?_
  refine c_region ?_
  refine sa S ?_; clear S; intro b1 a w S
  refine sq S ?_; clear S; intro a S
  refine wl_nil ?_
  refine xtn ?_
  refine c_seq ?_
  refine c_region ?_
  refine sa S ?_; clear S; intro b3 a w S
  refine sw S ?_; clear S; intro a w S
  refine wl_nil ?_
  refine xtn ?_
  iterate 2 (refine c_seq ?_)
  refine c_region ?_
  refine sq S ?_; clear S; intro a S
  refine sb S (b := b3) (walk_c _ t 1 1200 b3 w (Nat.le_refl _) (by omega) (by omega) (by omega) (by omega) (S.fb b3 (by simp)) (S.box b3)) ?_; clear S
  rintro v a w ⟨rfl, hcb⟩ hS
  have S := hS [.int .i64 _] _ inferInstance hcb
  clear hS
  refine sq S ?_; clear S; intro a S
  refine wl_nil ?_
  refine xtn ?_
  refine c_cond S (fun h2 => ?_) (fun h2 => ?_)
  · refine c_seq ?_
    refine c_region ?_
    refine sq S ?_; clear S; intro a S
    refine wl_nil ?_
    refine xtn ?_
    refine c_ret ?_
    refine xtr ?_
    refine end1 S (fun _ => ?_)
    have h3 : (walkF t.t 1 1200).1 = false := by simpa using h2
    simp [sizeF, h3]
  · refine c_skip ?_
    refine xtn ?_
    refine c_seq ?_
    refine c_region ?_
    refine sq S ?_; clear S; intro a S
    have h3 : (walkF t.t 1 1200).1 = true := by simpa using h2
    have h4 := walkF_ge t.t 1 1200 (by omega) h3
    refine sq S ?_; clear S; intro a S
    rw [w64 (1200 - (walkF t.t 1 1200).2) (by omega) (by omega)] at S
    refine sq S ?_; clear S; intro a S
    refine wl_nil ?_
    refine xtn ?_
    refine c_ret ?_
    refine end1 S (fun _ => ?_)
    simp [sizeF, h3]
instance {t : LTerm} {bs fs} [HasT fs t] : CallV Tryz.prog 67 [vL t] bs fs (.int .i64 (sizeF t.t)) := ⟨fun w m => size_c t w (m.t0 _)⟩

def checkF (t : Term) : Int := if sizeF t = 0 then 150 else 0
theorem check_c (t : LTerm) (w0 : World) (hf : Stable (fun _ => False) w0 (LtF t)) : Ret Tryz.prog 28 [vL t] w0 (fun _ => False) fun v _ => v = .int .i64 (checkF t.t) := by
  refine enter Tryz.func28 rfl rfl (Wd.begin (fs := [LtF t]) (by simpa using hf)) (fun a S => ?_)
  simp only [Tryz.ntmps28, List.length_cons, List.length_nil, Nat.reduceAdd, Nat.reduceSub, List.replicate_succ, List.replicate_zero, List.cons_append, List.nil_append] at S
  refine c_seq ?_
  refine c_region ?_
  refine sa S ?_; clear S; intro b1 a w S
  refine sq S ?_; clear S; intro a S
  refine wl_nil ?_
  refine xtn ?_
  iterate 2 (refine c_seq ?_)
  refine c_region ?_
  refine sq S ?_; clear S; intro a S
  refine sc S ?_; clear S; intro a w S
  refine sq S ?_; clear S; intro a S
  refine wl_nil ?_
  refine xtn ?_
  refine c_cond S (fun h1 => ?_) (fun h1 => ?_)
  · refine c_seq ?_
    refine c_region ?_
    refine sq S ?_; clear S; intro a S
    refine wl_nil ?_
    refine xtn ?_
    refine c_ret ?_
    refine xtr ?_
    refine end1 S (fun _ => ?_)
    simp at h1
    simp [checkF, h1]
  · refine c_skip ?_
    refine xtn ?_
    refine c_seq ?_
    refine c_region ?_
    refine sq S ?_; clear S; intro a S
    refine wl_nil ?_
    refine xtn ?_
    refine c_ret ?_
    refine end1 S (fun _ => ?_)
    simp at h1
    simp [checkF, h1]
instance {t : LTerm} {bs fs} [HasT fs t] : CallV Tryz.prog 28 [vL t] bs fs (.int .i64 (checkF t.t)) := ⟨fun w m => check_c t w (m.t0 _)⟩

theorem text_c (s : List UInt8) (w0 : World) : Ret Tryz.prog 55 [str s] w0 (fun _ => False) fun v _ => v = vL (.mk 1 0 0 s none 0 []) := by
  refine enter Tryz.func55 rfl rfl (Wd.start w0) (fun a S => ?_)
  simp only [Tryz.ntmps55, List.length_cons, List.length_nil, Nat.reduceAdd, Nat.reduceSub, List.replicate_succ, List.replicate_zero, List.cons_append, List.nil_append] at S
  refine c_seq ?_
  refine c_region ?_
  refine sa S ?_; clear S; intro b2 a w S
  refine wl_nil ?_
  refine xtn ?_
  refine c_seq ?_
  refine c_region ?_
  iterate 2 (refine sq S ?_; clear S; intro a S)
  refine sw S ?_; clear S; intro a w S
  refine wl_nil ?_
  refine xtn ?_
  refine c_ret ?_
  refine end1 S (fun _ => ?_)
  rfl
instance {s : List UInt8} {bs fs} : CallV Tryz.prog 55 [str s] bs fs (vL (textL s)) := ⟨fun w _ => text_c s w⟩
theorem fresh_c (u n : Int) (w0 : World) : Ret Tryz.prog 49 [.int .i64 u, .int .i64 n] w0 (fun _ => False) fun v _ => v = vL (.mk 2 u n [] none 0 []) := by
  refine enter Tryz.func49 rfl rfl (Wd.start w0) (fun a S => ?_)
  simp only [Tryz.ntmps49, List.length_cons, List.length_nil, Nat.reduceAdd, Nat.reduceSub, List.replicate_succ, List.replicate_zero, List.cons_append, List.nil_append] at S
  refine c_seq ?_
  refine c_region ?_
  refine sa S ?_; clear S; intro b4 a w S
  refine wl_nil ?_
  refine xtn ?_
  refine c_seq ?_
  refine c_region ?_
  iterate 3 (refine sq S ?_; clear S; intro a S)
  refine sw S ?_; clear S; intro a w S
  refine wl_nil ?_
  refine xtn ?_
  refine c_ret ?_
  refine end1 S (fun _ => ?_)
  rfl
instance {u n : Int} {bs fs} : CallV Tryz.prog 49 [.int .i64 u, .int .i64 n] bs fs (vL (freshL u n)) := ⟨fun w _ => fresh_c u n w⟩
theorem of_c (k : Int) (p : Option Addr) (n c : Nat) (w0 : World) : Ret Tryz.prog 71 [.int .i64 k, .slice p n c] w0 (fun _ => False) fun v _ => v = .agg #[.int .i64 k, .int .i64 0, .int .i64 0, str [], .slice p n c] := by
  refine enter Tryz.func71 rfl rfl (Wd.start w0) (fun a S => ?_)
  simp only [Tryz.ntmps71, List.length_cons, List.length_nil, Nat.reduceAdd, Nat.reduceSub, List.replicate_succ, List.replicate_zero, List.cons_append, List.nil_append] at S
  refine c_seq ?_
  refine c_region ?_
  refine sa S ?_; clear S; intro b4 a w S
  refine wl_nil ?_
  refine xtn ?_
  refine c_seq ?_
  refine c_region ?_
  iterate 3 (refine sq S ?_; clear S; intro a S)
  refine sw S ?_; clear S; intro a w S
  refine wl_nil ?_
  refine xtn ?_
  refine c_ret ?_
  refine end1 S (fun _ => ?_)
  rfl
instance {k : Int} {p : Option Addr} {n c : Nat} {bs fs} : CallV Tryz.prog 71 [.int .i64 k, .slice p n c] bs fs (.agg #[.int .i64 k, .int .i64 0, .int .i64 0, str [], .slice p n c]) := ⟨fun w _ => of_c k p n c w⟩
theorem hash_c (t : LTerm) (M : Nat → Prop) (w0 : World) (hM : ∀ k, M k → k < w0.heap.size) (hf : Stable M w0 (LtF t)) : Ret Tryz.prog 189 [vL t] w0 (fun _ => False) fun v w' => IsT M w' v (.hash t.t) := by
  refine enter Tryz.func189 rfl rfl (Wd.beginM (M := M) (fs := [LtF t]) hM (by simpa using hf)) (fun a S => ?_)
  simp only [Tryz.ntmps189, List.length_cons, List.length_nil, Nat.reduceAdd, Nat.reduceSub, List.replicate_succ, List.replicate_zero, List.cons_append, List.nil_append] at S
  refine c_seq ?_
  refine c_region ?_
  refine sa S ?_; clear S; intro b1 a w S
  refine sa S ?_; clear S; intro b2 a w S
  refine wl_nil ?_
  refine xtn ?_
  refine c_seq ?_
  refine c_region ?_
  refine sq S ?_; clear S; intro a S
  refine sn S ?_; clear S; intro b4 a w S
  refine sc S ?_; clear S; intro a w S
  refine sw S ?_; clear S; intro a w S
  refine wl_nil ?_
  refine xtn ?_
  refine c_ret ?_
  refine end1 S (fun _ => ?_)
  refine ⟨hashL (some ⟨b4, 0, none⟩) t, rfl, rfl, fun w' hw' => ?_⟩
  have h1 := S.laterFact (Φ := LtF t) (by simp) w' hw'
  exact ⟨by simp, by simp [maxLen], LsIn.of_block [t] (S.laterBox hw' b4) (fun x hx => by obtain rfl := List.mem_singleton.1 hx; exact h1)⟩
theorem pair_c (x y : LTerm) (M : Nat → Prop) (w0 : World) (hM : ∀ k, M k → k < w0.heap.size) (hx : Stable M w0 (LtF x)) (hy : Stable M w0 (LtF y)) : Ret Tryz.prog 110 [vL x, vL y] w0 (fun _ => False) fun v w' => IsT M w' v (.pair x.t y.t) := by
  refine enter Tryz.func110 rfl rfl (Wd.beginM (M := M) (fs := [LtF x, LtF y]) hM (by simp; exact ⟨hx, hy⟩)) (fun a S => ?_)
  simp only [Tryz.ntmps110, List.length_cons, List.length_nil, Nat.reduceAdd, Nat.reduceSub, List.replicate_succ, List.replicate_zero, List.cons_append, List.nil_append] at S
  refine c_seq ?_
  refine c_region ?_
  refine sa S ?_; clear S; intro b2 a w S
  refine sa S ?_; clear S; intro b3 a w S
  refine sa S ?_; clear S; intro b4 a w S
  refine wl_nil ?_
  refine xtn ?_
  refine c_seq ?_
  refine c_region ?_
  iterate 2 (refine sq S ?_; clear S; intro a S)
  refine sn S ?_; clear S; intro b7 a w S
  refine sc S ?_; clear S; intro a w S
  refine sw S ?_; clear S; intro a w S
  refine wl_nil ?_
  refine xtn ?_
  refine c_ret ?_
  refine end1 S (fun _ => ?_)
  refine ⟨pairL (some ⟨b7, 0, none⟩) x y, rfl, rfl, fun w' hw' => ?_⟩
  have h1 := S.laterFact (Φ := LtF x) (by simp) w' hw'
  have h2 := S.laterFact (Φ := LtF y) (by simp) w' hw'
  exact ⟨by simp, by simp [maxLen], LsIn.of_block [x, y] (S.laterBox hw' b7) (by simpa using ⟨h1, h2⟩)⟩
end Go.Proofs.YtmngicgdgpimlaaGreatDoor

/- Package term: Same. -/
namespace Go.Proofs.YtmngicgdgpimlaaGreatDoor
open Go Go.Wk
set_option synthInstance.maxSize 100000
set_option synthInstance.maxHeartbeats 400000
set_option maxRecDepth 100000

mutual
def sameF : Term → Term → Bool
  | .mk k u n s ks, .mk k' u' n' s' ks' => decide (k = k') && decide (u = u') && decide (n = n') && decide (s = s') && sameLF ks ks'
def sameLF : List Term → List Term → Bool
  | [], [] => true
  | a :: l, b :: m => sameF a b && sameLF l m
  | [], _ :: _ => false
  | _ :: _, [] => false
end
mutual
theorem sameF_iff : ∀ a b : Term, sameF a b = true ↔ a = b
  | .mk k u n s ks, .mk k' u' n' s' ks' => by
    have := sameLF_iff ks ks'
    simp [sameF, this, and_assoc]
theorem sameLF_iff : ∀ a b : List Term, sameLF a b = true ↔ a = b
  | [], [] => by simp [sameLF]
  | a :: l, b :: m => by
    have h1 := sameF_iff a b
    have h2 := sameLF_iff l m
    simp [sameLF, h1, h2]
  | [], _ :: _ => by simp [sameLF]
  | _ :: _, [] => by simp [sameLF]
end
theorem sameLF_len {a b : List Term} (h : a.length ≠ b.length) : sameLF a b = false := by
  cases hs : sameLF a b with
  | false => rfl
  | true => exact absurd (by rw [(sameLF_iff a b).1 hs]) h


def SameC (N : Nat) : Prop := ∀ (x y : LTerm) (w : World), SizeOf.sizeOf x ≤ N → Stable (fun _ => False) w (LtF x) → Stable (fun _ => False) w (LtF y) → Ret Tryz.prog 20 [vL x, vL y] w (fun _ => False) fun v _ => v = .bool (sameF x.t y.t)

theorem equal_c (N : Nat) (hS : SameC N) (p q : Option Addr) (c e n m : Nat) (xs ys : List LTerm) (hn : xs.length = n) (hm : ys.length = m) (w0 : World) (hl : n ≤ 9223372036854775807) (hN : ∀ x ∈ xs, SizeOf.sizeOf x ≤ N) (hx : Stable (fun _ => False) w0 (LsF p 0 xs)) (hy : Stable (fun _ => False) w0 (LsF q 0 ys)) :
    Ret Tryz.prog 47 [.slice p n c, .slice q m e, .func (.func 20) #[] #[]] w0 (fun _ => False) fun v _ => v = .bool (sameLF (xs.map LTerm.t) (ys.map LTerm.t)) := by
  refine enter Tryz.func47 rfl rfl (Wd.begin (fs := [LsF p 0 xs, LsF q 0 ys]) (by simp; exact ⟨hx, hy⟩)) (fun a S => ?_)
  simp only [Tryz.ntmps47, List.length_cons, List.length_nil, Nat.reduceAdd, Nat.reduceSub, List.replicate_succ, List.replicate_zero, List.cons_append, List.nil_append] at S
  refine c_seq ?_
  refine c_region ?_
  refine sq S ?_; clear S; intro a S
  refine wl_nil ?_
  refine xtn ?_
  iterate 2 (refine c_seq ?_)
  refine c_region ?_
  iterate 5 (refine sq S ?_; clear S; intro a S)
  refine wl_nil ?_
  refine xtn ?_
  refine c_cond S (fun h1 => ?_) (fun h1 => ?_)
  · refine c_seq ?_
    refine c_region ?_
    refine sq S ?_; clear S; intro a S
    refine wl_nil ?_
    refine xtn ?_
    refine c_ret ?_
    refine xtr ?_
    refine end1 S (fun _ => ?_)
    rw [sameLF_len]
    simp [hn, hm]; simp at h1; omega
  · refine c_skip ?_
    refine xtn ?_
    iterate 2 (refine c_seq ?_)
    refine c_region ?_
    iterate 3 (refine sq S ?_; clear S; intro a S)
    refine wl_nil ?_
    refine xtn ?_
    refine c_block ?_
    obtain rfl : n = m := by simp at h1; omega
    refine c_loop (ι := Nat) (fun k a w => k ≤ n ∧ sameLF ((xs.drop k).map LTerm.t) ((ys.drop k).map LTerm.t) = sameLF (xs.map LTerm.t) (ys.map LTerm.t) ∧ ∃ uu : Nat → Value,  St w0 (fun _ => False) [] a w ((.slice p n c) :: (.slice q n e) :: (.func (.func 20) #[] #[]) :: uu 3 :: uu 4 :: uu 5 :: (.bool false) :: uu 7 :: uu 8 :: uu 9 :: uu 10 :: uu 11 :: uu 12 :: uu 13 :: uu 14 :: (.slice p n c) :: (.int .i64 n) :: (.int .i64 (k : Nat)) :: uu 18 :: uu 19 :: uu 20 :: uu 21 :: uu 22 :: uu 23 :: uu 24 :: uu 25 :: uu 26 :: uu 27 :: uu 28 :: uu 29 :: uu 30 :: uu 31 :: []) [] [LsF p 0 xs, LsF q 0 ys]) (fun k => n - k) 0 ?_ ?_
    · exact ⟨Nat.zero_le _, rfl, S.uu, S⟩
    · clear S
      rintro k a w ⟨hk, hrel, uu, S⟩
      refine c_seq ?_
      refine c_region ?_
      refine sq S ?_; clear S; intro a S
      refine wl_nil ?_
      refine xtn ?_
      refine c_seq ?_
      refine c_cond S (fun h4 => ?_) (fun h4 => ?_)
      · refine c_skip ?_
        refine xtn ?_
        refine c_seq ?_
        refine c_block ?_
        refine c_seq ?_
        refine c_region ?_
        refine sq S ?_; clear S; intro a S
        have hkl : k < n := by simpa using h4
        obtain ⟨x, ad, hx1, hxm, hxd, hp, hcell, hfx⟩ := ls_kid (S.fact (Φ := LsF p 0 xs) (by simp)) (k := k) (by omega)
        replace S := S.add hfx
        refine si S ad hp (by omega) (by omega) ?_; clear S; intro a S
        refine slA x.cells S hcell ?_; clear S; intro a S
        refine sa S ?_; clear S; intro b8 a w S
        refine sq S ?_; clear S; intro a S
        refine sw S ?_; clear S; intro a w S
        refine wl_nil ?_
        refine xtn ?_
        refine c_seq ?_
        refine c_region ?_
        iterate 2 (refine sq S ?_; clear S; intro a S)
        obtain ⟨y, ad', hy1, hym, hyd, hq, hcell', hfy⟩ := ls_kid (S.fact (Φ := LsF q 0 ys) (by simp)) (k := k) (by omega)
        replace S := S.add hfy
        refine si S ad' hq (by omega) (by omega) ?_; clear S; intro a S
        refine slA y.cells S hcell' ?_; clear S; intro a S
        refine sa S ?_; clear S; intro b9 a w S
        refine sw S ?_; clear S; intro a w S
        refine wl_nil ?_
        refine xtn ?_
        refine c_seq ?_
        refine c_region ?_
        iterate 3 (refine sq S ?_; clear S; intro a S)
        rw [hxd, hyd, List.map_cons, List.map_cons, sameLF] at hrel
        refine sr S (hS x y w (hN x hxm) (S.mem.fact0 (LtF x)) (S.mem.fact0 (LtF y))) ?_; clear S; rintro v a w rfl S
        refine sq S ?_; clear S; intro a S
        refine wl_nil ?_
        refine xtn ?_
        refine c_cond S (fun h7 => ?_) (fun h7 => ?_)
        · refine c_seq ?_
          refine c_region ?_
          refine sq S ?_; clear S; intro a S
          refine wl_nil ?_
          refine xtn ?_
          refine c_ret ?_
          refine xbr ?_
          iterate 2 (refine xtr ?_)
          refine xbr ?_
          refine xtr ?_
          refine end1 S (fun _ => ?_)
          have h8 : sameF x.t y.t = false := by simpa using h7
          simp [← hrel, h8]
        · refine c_skip ?_
          refine xbn ?_
          refine xtn ?_
          refine c_region ?_
          iterate 2 (refine sq S ?_; clear S; intro a S)
          refine wl_nil ?_
          refine xtn ?_
          have h8 : sameF x.t y.t = true := by simpa using h7
          rw [h8, Bool.true_and] at hrel
          replace S := S.sub [] [LsF p 0 xs, LsF q 0 ys]
          rw [w64 ((k : Int) + 1) (by omega) (by omega)] at S
          exact ⟨k + 1, ⟨hkl, hrel, S.uu, S⟩, by omega⟩
      · refine c_exit ?_
        iterate 2 (refine xte ?_)
        refine xbe ?_
        refine xtn ?_
        refine c_seq ?_
        refine c_region ?_
        refine sq S ?_; clear S; intro a S
        refine wl_nil ?_
        refine xtn ?_
        refine c_ret ?_
        refine end1 S (fun _ => ?_)
        have h6 : n ≤ k := by simpa using h4
        rw [List.drop_of_length_le (by omega), List.drop_of_length_le (by omega)] at hrel
        simp [← hrel, sameLF]

theorem same_all : ∀ N, SameC N := by
  intro N
  induction N with
  | zero => intro x y w h; cases x; simp at h
  | succ N ih =>
  intro x y w0 hN hx hy
  have e1 := x.t_eq
  have e2 := y.t_eq
  have hq : ∀ {bs fs} [HasT fs x] [HasT fs y], CallV Tryz.prog 47 [.slice x.p x.kids.length x.cap, .slice y.p y.kids.length y.cap, .func (.func 20) #[] #[]] bs fs (.bool (sameLF (x.kids.map LTerm.t) (y.kids.map LTerm.t))) :=
    ⟨fun w m => equal_c N ih x.p y.p x.cap y.cap _ _ x.kids y.kids rfl rfl w (LTerm.len_le hx) (fun z hz => by have := LTerm.kid_lt hz; omega) (ls_of_lt (m.t0 _)) (ls_of_lt (m.t0 _))⟩
  refine enter Tryz.func20 rfl rfl (Wd.begin (fs := [LtF x, LtF y]) (by simp; exact ⟨hx, hy⟩)) (fun a S => ?_)
  simp only [Tryz.ntmps20, List.length_cons, List.length_nil, Nat.reduceAdd, Nat.reduceSub, List.replicate_succ, List.replicate_zero, List.cons_append, List.nil_append] at S
  refine c_seq ?_
  refine c_region ?_
  refine sa S ?_; clear S; intro b2 a w S
  refine sa S ?_; clear S; intro b3 a w S
  refine sq S ?_; clear S; intro a S
  refine wl_nil ?_
  refine xtn ?_
  refine c_seq ?_
  refine c_region ?_
  iterate 6 (refine sq S ?_; clear S; intro a S)
  iterate 5 (refine gQ S ?_; clear S; intro a S)
  iterate 2 (refine sq S ?_; clear S; intro a S)
  iterate 5 (refine gQ S ?_; clear S; intro a S)
  iterate 2 (refine sq S ?_; clear S; intro a S)
  iterate 5 (refine gQ S ?_; clear S; intro a S)
  iterate 2 (refine sq S ?_; clear S; intro a S)
  iterate 4 (refine gQ S ?_; clear S; intro a S)
  refine gC S ?_; clear S; intro a w S
  iterate 2 (refine sq S ?_; clear S; intro a S)
  refine wl_nil ?_
  refine xtn ?_
  refine c_ret ?_
  refine end1 S (fun _ => ?_)
  rw [e1, e2, sameF]
theorem same_c (x y : LTerm) (w : World) (hx : Stable (fun _ => False) w (LtF x)) (hy : Stable (fun _ => False) w (LtF y)) : Ret Tryz.prog 20 [vL x, vL y] w (fun _ => False) fun v _ => v = .bool (sameF x.t y.t) := same_all _ x y w (Nat.le_refl _) hx hy
instance {x y : LTerm} {bs fs} [HasT fs x] [HasT fs y] : CallV Tryz.prog 20 [vL x, vL y] bs fs (.bool (sameF x.t y.t)) := ⟨fun w m => same_c x y w (m.t0 _) (m.t0 _)⟩
end Go.Proofs.YtmngicgdgpimlaaGreatDoor
