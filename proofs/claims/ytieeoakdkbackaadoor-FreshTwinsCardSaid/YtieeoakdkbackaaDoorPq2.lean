/- 2: a part of this claim's texts, joined: Inst TermA TermB TermC TermD RefTerm PlainRight. -/
import Derived.Test.YtieeoakdkbackaaDoorPq1
import Derived.Test.YtieeoakdkbackaaDoorRows
/- The instances of this seat's program (types, fields, functions) for the walker; written by gen_inst.py. -/
namespace Go.Proofs.YtieeoakdkbackaaDoor
open Go Go.Wk
section
set_option maxRecDepth 100000
instance : AggT Tryd.prog 1 false := aggT_of (by kernel_rfl)
instance : TI Tryd.prog 1 (.nilFunc) 1 8 := ti_of (by kernel_rfl)
instance : Und Tryd.prog 2 (.int .i64) := ⟨Tryd.underlying2⟩
instance : TI Tryd.prog 2 (.int .i64 0) 1 8 := ti_of (by kernel_rfl)
instance : Und Tryd.prog 3 (.int .i64) := ⟨Tryd.underlying3⟩
instance : TI Tryd.prog 3 (.int .i64 0) 1 8 := ti_of (by kernel_rfl)
instance : Und Tryd.prog 4 (.bool) := ⟨Tryd.underlying4⟩
instance : TI Tryd.prog 4 (.bool false) 1 1 := ti_of (by kernel_rfl)
instance : Und Tryd.prog 5 (.int .u8) := ⟨Tryd.underlying5⟩
instance : TI Tryd.prog 5 (.int .u8 0) 1 1 := ti_of (by kernel_rfl)
instance : Und Tryd.prog 9 (.string) := ⟨Tryd.underlying9⟩
instance : TI Tryd.prog 9 (.string ⟨#[]⟩) 1 16 := ti_of (by kernel_rfl)
instance : Und Tryd.prog 12 (.int .u64) := ⟨Tryd.underlying12⟩
instance : TI Tryd.prog 12 (.int .u64 0) 1 8 := ti_of (by kernel_rfl)
instance : AggT Tryd.prog 20 false := aggT_of (by kernel_rfl)
instance : TI Tryd.prog 20 (.nilIface) 1 16 := ti_of (by kernel_rfl)
instance : Und Tryd.prog 21 (.int .i32) := ⟨Tryd.underlying21⟩
instance : TI Tryd.prog 21 (.int .i32 0) 1 4 := ti_of (by kernel_rfl)
instance : Und Tryd.prog 22 (.slice 24) := ⟨Tryd.underlying22⟩
instance : TI Tryd.prog 22 (.slice none 0 0) 1 24 := ti_of (by kernel_rfl)
instance : AggT Tryd.prog 23 true := aggT_of (by kernel_rfl)
instance : Fld Tryd.prog 23 0 0 3 := fld_of (by kernel_rfl)
instance : Fld Tryd.prog 23 1 1 3 := fld_of (by kernel_rfl)
instance : Fld Tryd.prog 23 2 2 3 := fld_of (by kernel_rfl)
instance : Fld Tryd.prog 23 3 3 9 := fld_of (by kernel_rfl)
instance : Fld Tryd.prog 23 4 4 22 := fld_of (by kernel_rfl)
instance : PlOf Tryd.prog 23 [(0, 1), (1, 1), (2, 1), (3, 1), (4, 1)] := plof_of (by kernel_rfl)
instance : TI Tryd.prog 23 (.agg #[.int .i64 0, .int .i64 0, .int .i64 0, .string ⟨#[]⟩, .slice none 0 0]) 5 64 := ti_of (by kernel_rfl)
instance : AggT Tryd.prog 24 true := aggT_of (by kernel_rfl)
instance : Fld Tryd.prog 24 0 0 3 := fld_of (by kernel_rfl)
instance : Fld Tryd.prog 24 1 1 3 := fld_of (by kernel_rfl)
instance : Fld Tryd.prog 24 2 2 3 := fld_of (by kernel_rfl)
instance : Fld Tryd.prog 24 3 3 9 := fld_of (by kernel_rfl)
instance : Fld Tryd.prog 24 4 4 22 := fld_of (by kernel_rfl)
instance : PlOf Tryd.prog 24 [(0, 1), (1, 1), (2, 1), (3, 1), (4, 1)] := plof_of (by kernel_rfl)
instance : TI Tryd.prog 24 (.agg #[.int .i64 0, .int .i64 0, .int .i64 0, .string ⟨#[]⟩, .slice none 0 0]) 5 64 := ti_of (by kernel_rfl)
instance : AggT Tryd.prog 25 false := aggT_of (by kernel_rfl)
instance : TI Tryd.prog 25 (.nilFunc) 1 8 := ti_of (by kernel_rfl)
instance : AggT Tryd.prog 26 false := aggT_of (by kernel_rfl)
instance : TI Tryd.prog 26 (.nilFunc) 1 8 := ti_of (by kernel_rfl)
instance : AggT Tryd.prog 27 true := aggT_of (by kernel_rfl)
instance : Fld Tryd.prog 27 0 0 9 := fld_of (by kernel_rfl)
instance : Fld Tryd.prog 27 1 1 3 := fld_of (by kernel_rfl)
instance : Fld Tryd.prog 27 2 2 3 := fld_of (by kernel_rfl)
instance : Fld Tryd.prog 27 3 3 3 := fld_of (by kernel_rfl)
instance : Fld Tryd.prog 27 4 4 24 := fld_of (by kernel_rfl)
instance : PlOf Tryd.prog 27 [(0, 1), (1, 1), (2, 1), (3, 1), (4, 5)] := plof_of (by kernel_rfl)
instance : TI Tryd.prog 27 (.agg #[.string ⟨#[]⟩, .int .i64 0, .int .i64 0, .int .i64 0, .int .i64 0, .int .i64 0, .int .i64 0, .string ⟨#[]⟩, .slice none 0 0]) 9 104 := ti_of (by kernel_rfl)
instance : AggT Tryd.prog 28 true := aggT_of (by kernel_rfl)
instance : Fld Tryd.prog 28 0 0 9 := fld_of (by kernel_rfl)
instance : Fld Tryd.prog 28 1 1 3 := fld_of (by kernel_rfl)
instance : Fld Tryd.prog 28 2 2 3 := fld_of (by kernel_rfl)
instance : Fld Tryd.prog 28 3 3 3 := fld_of (by kernel_rfl)
instance : Fld Tryd.prog 28 4 4 24 := fld_of (by kernel_rfl)
instance : PlOf Tryd.prog 28 [(0, 1), (1, 1), (2, 1), (3, 1), (4, 5)] := plof_of (by kernel_rfl)
instance : TI Tryd.prog 28 (.agg #[.string ⟨#[]⟩, .int .i64 0, .int .i64 0, .int .i64 0, .int .i64 0, .int .i64 0, .int .i64 0, .string ⟨#[]⟩, .slice none 0 0]) 9 104 := ti_of (by kernel_rfl)
instance : Und Tryd.prog 29 (.int .i64) := ⟨Tryd.underlying29⟩
instance : TI Tryd.prog 29 (.int .i64 0) 1 8 := ti_of (by kernel_rfl)
instance : AggT Tryd.prog 31 false := aggT_of (by kernel_rfl)
instance : TI Tryd.prog 31 (.nilFunc) 1 8 := ti_of (by kernel_rfl)
instance : AggT Tryd.prog 33 false := aggT_of (by kernel_rfl)
instance : TI Tryd.prog 33 (.nilFunc) 1 8 := ti_of (by kernel_rfl)
instance : AggT Tryd.prog 34 false := aggT_of (by kernel_rfl)
instance : TI Tryd.prog 34 (.nilFunc) 1 8 := ti_of (by kernel_rfl)
instance : AggT Tryd.prog 35 false := aggT_of (by kernel_rfl)
instance : TI Tryd.prog 35 (.nilFunc) 1 8 := ti_of (by kernel_rfl)
instance : AggT Tryd.prog 37 false := aggT_of (by kernel_rfl)
instance : TI Tryd.prog 37 (.nilFunc) 1 8 := ti_of (by kernel_rfl)
instance : AggT Tryd.prog 38 false := aggT_of (by kernel_rfl)
instance : TI Tryd.prog 38 (.nilFunc) 1 8 := ti_of (by kernel_rfl)
instance : AggT Tryd.prog 39 false := aggT_of (by kernel_rfl)
instance : TI Tryd.prog 39 (.nilFunc) 1 8 := ti_of (by kernel_rfl)
instance : AggT Tryd.prog 40 false := aggT_of (by kernel_rfl)
instance : TI Tryd.prog 40 (.nilFunc) 1 8 := ti_of (by kernel_rfl)
instance : AggT Tryd.prog 41 false := aggT_of (by kernel_rfl)
instance : TI Tryd.prog 41 (.nilFunc) 1 8 := ti_of (by kernel_rfl)
instance : Und Tryd.prog 42 (.slice 92) := ⟨Tryd.underlying42⟩
instance : TI Tryd.prog 42 (.slice none 0 0) 1 24 := ti_of (by kernel_rfl)
instance : Und Tryd.prog 43 (.array 3 24) := ⟨Tryd.underlying43⟩
instance : TI Tryd.prog 43 (.agg #[.int .i64 0, .int .i64 0, .int .i64 0, .string ⟨#[]⟩, .slice none 0 0, .int .i64 0, .int .i64 0, .int .i64 0, .string ⟨#[]⟩, .slice none 0 0, .int .i64 0, .int .i64 0, .int .i64 0, .string ⟨#[]⟩, .slice none 0 0]) 15 192 := ti_of (by kernel_rfl)
instance : AggT Tryd.prog 44 false := aggT_of (by kernel_rfl)
instance : TI Tryd.prog 44 (.nilFunc) 1 8 := ti_of (by kernel_rfl)
instance : AggT Tryd.prog 45 false := aggT_of (by kernel_rfl)
instance : TI Tryd.prog 45 (.nilFunc) 1 8 := ti_of (by kernel_rfl)
instance : Und Tryd.prog 46 (.slice 51) := ⟨Tryd.underlying46⟩
instance : TI Tryd.prog 46 (.slice none 0 0) 1 24 := ti_of (by kernel_rfl)
instance : AggT Tryd.prog 48 false := aggT_of (by kernel_rfl)
instance : TI Tryd.prog 48 (.nilFunc) 1 8 := ti_of (by kernel_rfl)
instance : AggT Tryd.prog 49 false := aggT_of (by kernel_rfl)
instance : TI Tryd.prog 49 (.nilFunc) 1 8 := ti_of (by kernel_rfl)
instance : AggT Tryd.prog 50 true := aggT_of (by kernel_rfl)
instance : Fld Tryd.prog 50 0 0 9 := fld_of (by kernel_rfl)
instance : Fld Tryd.prog 50 1 1 3 := fld_of (by kernel_rfl)
instance : PlOf Tryd.prog 50 [(0, 1), (1, 1)] := plof_of (by kernel_rfl)
instance : TI Tryd.prog 50 (.agg #[.string ⟨#[]⟩, .int .i64 0]) 2 24 := ti_of (by kernel_rfl)
instance : AggT Tryd.prog 51 true := aggT_of (by kernel_rfl)
instance : Fld Tryd.prog 51 0 0 9 := fld_of (by kernel_rfl)
instance : Fld Tryd.prog 51 1 1 3 := fld_of (by kernel_rfl)
instance : PlOf Tryd.prog 51 [(0, 1), (1, 1)] := plof_of (by kernel_rfl)
instance : TI Tryd.prog 51 (.agg #[.string ⟨#[]⟩, .int .i64 0]) 2 24 := ti_of (by kernel_rfl)
instance : AggT Tryd.prog 52 false := aggT_of (by kernel_rfl)
instance : TI Tryd.prog 52 (.nilFunc) 1 8 := ti_of (by kernel_rfl)
instance : Und Tryd.prog 53 (.slice 9) := ⟨Tryd.underlying53⟩
instance : TI Tryd.prog 53 (.slice none 0 0) 1 24 := ti_of (by kernel_rfl)
instance : AggT Tryd.prog 54 false := aggT_of (by kernel_rfl)
instance : TI Tryd.prog 54 (.nilFunc) 1 8 := ti_of (by kernel_rfl)
instance : AggT Tryd.prog 56 false := aggT_of (by kernel_rfl)
instance : TI Tryd.prog 56 (.nilFunc) 1 8 := ti_of (by kernel_rfl)
instance : AggT Tryd.prog 57 false := aggT_of (by kernel_rfl)
instance : TI Tryd.prog 57 (.nilFunc) 1 8 := ti_of (by kernel_rfl)
instance : AggT Tryd.prog 58 false := aggT_of (by kernel_rfl)
instance : TI Tryd.prog 58 (.nilFunc) 1 8 := ti_of (by kernel_rfl)
instance : AggT Tryd.prog 59 false := aggT_of (by kernel_rfl)
instance : TI Tryd.prog 59 (.nilFunc) 1 8 := ti_of (by kernel_rfl)
instance : AggT Tryd.prog 60 false := aggT_of (by kernel_rfl)
instance : TI Tryd.prog 60 (.nilFunc) 1 8 := ti_of (by kernel_rfl)
instance : AggT Tryd.prog 61 false := aggT_of (by kernel_rfl)
instance : TI Tryd.prog 61 (.nilFunc) 1 8 := ti_of (by kernel_rfl)
instance : AggT Tryd.prog 62 false := aggT_of (by kernel_rfl)
instance : TI Tryd.prog 62 (.nilFunc) 1 8 := ti_of (by kernel_rfl)
instance : AggT Tryd.prog 63 false := aggT_of (by kernel_rfl)
instance : TI Tryd.prog 63 (.nilFunc) 1 8 := ti_of (by kernel_rfl)
instance : AggT Tryd.prog 64 false := aggT_of (by kernel_rfl)
instance : TI Tryd.prog 64 (.nilFunc) 1 8 := ti_of (by kernel_rfl)
instance : AggT Tryd.prog 65 false := aggT_of (by kernel_rfl)
instance : TI Tryd.prog 65 (.nilFunc) 1 8 := ti_of (by kernel_rfl)
instance : Und Tryd.prog 66 (.pointer 3) := ⟨Tryd.underlying66⟩
instance : TI Tryd.prog 66 (.pointer none) 1 8 := ti_of (by kernel_rfl)
instance : AggT Tryd.prog 67 true := aggT_of (by kernel_rfl)
instance : PlOf Tryd.prog 67 [] := plof_of (by kernel_rfl)
instance : TI Tryd.prog 67 (.agg #[]) 0 0 := ti_of (by kernel_rfl)
instance : AggT Tryd.prog 68 true := aggT_of (by kernel_rfl)
instance : PlOf Tryd.prog 68 [] := plof_of (by kernel_rfl)
instance : TI Tryd.prog 68 (.agg #[]) 0 0 := ti_of (by kernel_rfl)
instance : AggT Tryd.prog 70 false := aggT_of (by kernel_rfl)
instance : TI Tryd.prog 70 (.nilFunc) 1 8 := ti_of (by kernel_rfl)
instance : AggT Tryd.prog 71 false := aggT_of (by kernel_rfl)
instance : TI Tryd.prog 71 (.nilFunc) 1 8 := ti_of (by kernel_rfl)
instance : AggT Tryd.prog 73 false := aggT_of (by kernel_rfl)
instance : TI Tryd.prog 73 (.nilFunc) 1 8 := ti_of (by kernel_rfl)
instance : AggT Tryd.prog 74 false := aggT_of (by kernel_rfl)
instance : TI Tryd.prog 74 (.nilFunc) 1 8 := ti_of (by kernel_rfl)
instance : AggT Tryd.prog 76 false := aggT_of (by kernel_rfl)
instance : TI Tryd.prog 76 (.nilFunc) 1 8 := ti_of (by kernel_rfl)
instance : AggT Tryd.prog 77 false := aggT_of (by kernel_rfl)
instance : TI Tryd.prog 77 (.nilFunc) 1 8 := ti_of (by kernel_rfl)
instance : AggT Tryd.prog 78 false := aggT_of (by kernel_rfl)
instance : TI Tryd.prog 78 (.nilFunc) 1 8 := ti_of (by kernel_rfl)
instance : AggT Tryd.prog 79 false := aggT_of (by kernel_rfl)
instance : TI Tryd.prog 79 (.nilFunc) 1 8 := ti_of (by kernel_rfl)
instance : AggT Tryd.prog 80 true := aggT_of (by kernel_rfl)
instance : Fld Tryd.prog 80 0 0 9 := fld_of (by kernel_rfl)
instance : Fld Tryd.prog 80 1 1 3 := fld_of (by kernel_rfl)
instance : Fld Tryd.prog 80 2 2 3 := fld_of (by kernel_rfl)
instance : Fld Tryd.prog 80 3 3 3 := fld_of (by kernel_rfl)
instance : PlOf Tryd.prog 80 [(0, 1), (1, 1), (2, 1), (3, 1)] := plof_of (by kernel_rfl)
instance : TI Tryd.prog 80 (.agg #[.string ⟨#[]⟩, .int .i64 0, .int .i64 0, .int .i64 0]) 4 40 := ti_of (by kernel_rfl)
instance : AggT Tryd.prog 81 true := aggT_of (by kernel_rfl)
instance : Fld Tryd.prog 81 0 0 9 := fld_of (by kernel_rfl)
instance : Fld Tryd.prog 81 1 1 3 := fld_of (by kernel_rfl)
instance : Fld Tryd.prog 81 2 2 3 := fld_of (by kernel_rfl)
instance : Fld Tryd.prog 81 3 3 3 := fld_of (by kernel_rfl)
instance : PlOf Tryd.prog 81 [(0, 1), (1, 1), (2, 1), (3, 1)] := plof_of (by kernel_rfl)
instance : TI Tryd.prog 81 (.agg #[.string ⟨#[]⟩, .int .i64 0, .int .i64 0, .int .i64 0]) 4 40 := ti_of (by kernel_rfl)
instance : AggT Tryd.prog 82 false := aggT_of (by kernel_rfl)
instance : TI Tryd.prog 82 (.nilFunc) 1 8 := ti_of (by kernel_rfl)
instance : AggT Tryd.prog 83 false := aggT_of (by kernel_rfl)
instance : TI Tryd.prog 83 (.nilFunc) 1 8 := ti_of (by kernel_rfl)
instance : AggT Tryd.prog 84 false := aggT_of (by kernel_rfl)
instance : TI Tryd.prog 84 (.nilFunc) 1 8 := ti_of (by kernel_rfl)
instance : AggT Tryd.prog 85 false := aggT_of (by kernel_rfl)
instance : TI Tryd.prog 85 (.nilFunc) 1 8 := ti_of (by kernel_rfl)
instance : AggT Tryd.prog 86 false := aggT_of (by kernel_rfl)
instance : TI Tryd.prog 86 (.nilFunc) 1 8 := ti_of (by kernel_rfl)
instance : AggT Tryd.prog 88 false := aggT_of (by kernel_rfl)
instance : TI Tryd.prog 88 (.nilFunc) 1 8 := ti_of (by kernel_rfl)
instance : AggT Tryd.prog 90 false := aggT_of (by kernel_rfl)
instance : TI Tryd.prog 90 (.nilFunc) 1 8 := ti_of (by kernel_rfl)
instance : AggT Tryd.prog 91 true := aggT_of (by kernel_rfl)
instance : Fld Tryd.prog 91 0 0 3 := fld_of (by kernel_rfl)
instance : Fld Tryd.prog 91 1 1 3 := fld_of (by kernel_rfl)
instance : Fld Tryd.prog 91 2 2 24 := fld_of (by kernel_rfl)
instance : PlOf Tryd.prog 91 [(0, 1), (1, 1), (2, 5)] := plof_of (by kernel_rfl)
instance : TI Tryd.prog 91 (.agg #[.int .i64 0, .int .i64 0, .int .i64 0, .int .i64 0, .int .i64 0, .string ⟨#[]⟩, .slice none 0 0]) 7 80 := ti_of (by kernel_rfl)
instance : AggT Tryd.prog 92 true := aggT_of (by kernel_rfl)
instance : Fld Tryd.prog 92 0 0 3 := fld_of (by kernel_rfl)
instance : Fld Tryd.prog 92 1 1 3 := fld_of (by kernel_rfl)
instance : Fld Tryd.prog 92 2 2 24 := fld_of (by kernel_rfl)
instance : PlOf Tryd.prog 92 [(0, 1), (1, 1), (2, 5)] := plof_of (by kernel_rfl)
instance : TI Tryd.prog 92 (.agg #[.int .i64 0, .int .i64 0, .int .i64 0, .int .i64 0, .int .i64 0, .string ⟨#[]⟩, .slice none 0 0]) 7 80 := ti_of (by kernel_rfl)
instance : AggT Tryd.prog 93 false := aggT_of (by kernel_rfl)
instance : TI Tryd.prog 93 (.nilFunc) 1 8 := ti_of (by kernel_rfl)
instance : AggT Tryd.prog 94 false := aggT_of (by kernel_rfl)
instance : TI Tryd.prog 94 (.nilFunc) 1 8 := ti_of (by kernel_rfl)
instance : AggT Tryd.prog 95 false := aggT_of (by kernel_rfl)
instance : TI Tryd.prog 95 (.nilFunc) 1 8 := ti_of (by kernel_rfl)
instance : AggT Tryd.prog 96 false := aggT_of (by kernel_rfl)
instance : TI Tryd.prog 96 (.nilFunc) 1 8 := ti_of (by kernel_rfl)
instance : AggT Tryd.prog 97 false := aggT_of (by kernel_rfl)
instance : TI Tryd.prog 97 (.nilFunc) 1 8 := ti_of (by kernel_rfl)
instance : AggT Tryd.prog 98 false := aggT_of (by kernel_rfl)
instance : TI Tryd.prog 98 (.nilFunc) 1 8 := ti_of (by kernel_rfl)
instance : AggT Tryd.prog 100 false := aggT_of (by kernel_rfl)
instance : TI Tryd.prog 100 (.nilFunc) 1 8 := ti_of (by kernel_rfl)
instance : AggT Tryd.prog 101 false := aggT_of (by kernel_rfl)
instance : TI Tryd.prog 101 (.nilFunc) 1 8 := ti_of (by kernel_rfl)
instance : AggT Tryd.prog 102 false := aggT_of (by kernel_rfl)
instance : TI Tryd.prog 102 (.nilFunc) 1 8 := ti_of (by kernel_rfl)
instance : AggT Tryd.prog 103 false := aggT_of (by kernel_rfl)
instance : TI Tryd.prog 103 (.nilFunc) 1 8 := ti_of (by kernel_rfl)
instance : AggT Tryd.prog 104 false := aggT_of (by kernel_rfl)
instance : TI Tryd.prog 104 (.nilFunc) 1 8 := ti_of (by kernel_rfl)
instance : AggT Tryd.prog 105 false := aggT_of (by kernel_rfl)
instance : TI Tryd.prog 105 (.nilFunc) 1 8 := ti_of (by kernel_rfl)
instance : AggT Tryd.prog 106 false := aggT_of (by kernel_rfl)
instance : TI Tryd.prog 106 (.nilFunc) 1 8 := ti_of (by kernel_rfl)
instance : AggT Tryd.prog 107 false := aggT_of (by kernel_rfl)
instance : TI Tryd.prog 107 (.nilFunc) 1 8 := ti_of (by kernel_rfl)
instance : AggT Tryd.prog 108 false := aggT_of (by kernel_rfl)
instance : TI Tryd.prog 108 (.nilFunc) 1 8 := ti_of (by kernel_rfl)
instance : AggT Tryd.prog 109 false := aggT_of (by kernel_rfl)
instance : TI Tryd.prog 109 (.nilFunc) 1 8 := ti_of (by kernel_rfl)
instance : AggT Tryd.prog 110 false := aggT_of (by kernel_rfl)
instance : TI Tryd.prog 110 (.nilFunc) 1 8 := ti_of (by kernel_rfl)
instance : AggT Tryd.prog 111 false := aggT_of (by kernel_rfl)
instance : TI Tryd.prog 111 (.nilFunc) 1 8 := ti_of (by kernel_rfl)
instance : AggT Tryd.prog 112 false := aggT_of (by kernel_rfl)
instance : TI Tryd.prog 112 (.nilFunc) 1 8 := ti_of (by kernel_rfl)
instance : AggT Tryd.prog 113 false := aggT_of (by kernel_rfl)
instance : TI Tryd.prog 113 (.nilIface) 1 16 := ti_of (by kernel_rfl)
instance : AggT Tryd.prog 114 false := aggT_of (by kernel_rfl)
instance : TI Tryd.prog 114 (.nilIface) 1 16 := ti_of (by kernel_rfl)
instance : AggT Tryd.prog 116 false := aggT_of (by kernel_rfl)
instance : TI Tryd.prog 116 (.nilFunc) 1 8 := ti_of (by kernel_rfl)
instance : AggT Tryd.prog 117 false := aggT_of (by kernel_rfl)
instance : TI Tryd.prog 117 (.nilFunc) 1 8 := ti_of (by kernel_rfl)
instance : AggT Tryd.prog 118 false := aggT_of (by kernel_rfl)
instance : TI Tryd.prog 118 (.nilFunc) 1 8 := ti_of (by kernel_rfl)
instance : AggT Tryd.prog 119 false := aggT_of (by kernel_rfl)
instance : TI Tryd.prog 119 (.nilFunc) 1 8 := ti_of (by kernel_rfl)
instance : AggT Tryd.prog 120 false := aggT_of (by kernel_rfl)
instance : TI Tryd.prog 120 (.nilFunc) 1 8 := ti_of (by kernel_rfl)
instance : AggT Tryd.prog 121 false := aggT_of (by kernel_rfl)
instance : TI Tryd.prog 121 (.nilFunc) 1 8 := ti_of (by kernel_rfl)
instance : AggT Tryd.prog 123 false := aggT_of (by kernel_rfl)
instance : TI Tryd.prog 123 (.nilFunc) 1 8 := ti_of (by kernel_rfl)
instance : AggT Tryd.prog 124 false := aggT_of (by kernel_rfl)
instance : TI Tryd.prog 124 (.nilFunc) 1 8 := ti_of (by kernel_rfl)
instance : AggT Tryd.prog 125 false := aggT_of (by kernel_rfl)
instance : TI Tryd.prog 125 (.nilFunc) 1 8 := ti_of (by kernel_rfl)
instance : AggT Tryd.prog 126 false := aggT_of (by kernel_rfl)
instance : TI Tryd.prog 126 (.nilFunc) 1 8 := ti_of (by kernel_rfl)
instance : AggT Tryd.prog 127 false := aggT_of (by kernel_rfl)
instance : TI Tryd.prog 127 (.nilFunc) 1 8 := ti_of (by kernel_rfl)
instance : AggT Tryd.prog 128 false := aggT_of (by kernel_rfl)
instance : TI Tryd.prog 128 (.nilFunc) 1 8 := ti_of (by kernel_rfl)
instance : AggT Tryd.prog 129 false := aggT_of (by kernel_rfl)
instance : TI Tryd.prog 129 (.nilFunc) 1 8 := ti_of (by kernel_rfl)
instance : AggT Tryd.prog 130 false := aggT_of (by kernel_rfl)
instance : TI Tryd.prog 130 (.nilFunc) 1 8 := ti_of (by kernel_rfl)
instance : AggT Tryd.prog 131 false := aggT_of (by kernel_rfl)
instance : TI Tryd.prog 131 (.nilFunc) 1 8 := ti_of (by kernel_rfl)
instance : AggT Tryd.prog 132 false := aggT_of (by kernel_rfl)
instance : TI Tryd.prog 132 (.nilFunc) 1 8 := ti_of (by kernel_rfl)
instance : AggT Tryd.prog 133 false := aggT_of (by kernel_rfl)
instance : TI Tryd.prog 133 (.nilFunc) 1 8 := ti_of (by kernel_rfl)
instance : AggT Tryd.prog 134 false := aggT_of (by kernel_rfl)
instance : TI Tryd.prog 134 (.nilFunc) 1 8 := ti_of (by kernel_rfl)
instance : AggT Tryd.prog 135 false := aggT_of (by kernel_rfl)
instance : TI Tryd.prog 135 (.nilFunc) 1 8 := ti_of (by kernel_rfl)
instance : AggT Tryd.prog 136 false := aggT_of (by kernel_rfl)
instance : TI Tryd.prog 136 (.nilFunc) 1 8 := ti_of (by kernel_rfl)
instance : AggT Tryd.prog 137 false := aggT_of (by kernel_rfl)
instance : TI Tryd.prog 137 (.nilFunc) 1 8 := ti_of (by kernel_rfl)
instance : AggT Tryd.prog 138 false := aggT_of (by kernel_rfl)
instance : TI Tryd.prog 138 (.nilFunc) 1 8 := ti_of (by kernel_rfl)
instance : Und Tryd.prog 139 (.int .u64) := ⟨Tryd.underlying139⟩
instance : TI Tryd.prog 139 (.int .u64 0) 1 8 := ti_of (by kernel_rfl)
instance : Und Tryd.prog 140 (.int .i64) := ⟨Tryd.underlying140⟩
instance : TI Tryd.prog 140 (.int .i64 0) 1 8 := ti_of (by kernel_rfl)
instance : Und Tryd.prog 141 (.slice 5) := ⟨Tryd.underlying141⟩
instance : TI Tryd.prog 141 (.slice none 0 0) 1 24 := ti_of (by kernel_rfl)
instance : AggT Tryd.prog 143 false := aggT_of (by kernel_rfl)
instance : TI Tryd.prog 143 (.nilFunc) 1 8 := ti_of (by kernel_rfl)
instance : Und Tryd.prog 144 (.pointer 158) := ⟨Tryd.underlying144⟩
instance : TI Tryd.prog 144 (.pointer none) 1 8 := ti_of (by kernel_rfl)
instance : AggT Tryd.prog 145 false := aggT_of (by kernel_rfl)
instance : TI Tryd.prog 145 (.nilFunc) 1 8 := ti_of (by kernel_rfl)
instance : AggT Tryd.prog 146 false := aggT_of (by kernel_rfl)
instance : TI Tryd.prog 146 (.nilFunc) 1 8 := ti_of (by kernel_rfl)
instance : AggT Tryd.prog 147 false := aggT_of (by kernel_rfl)
instance : TI Tryd.prog 147 (.nilFunc) 1 8 := ti_of (by kernel_rfl)
instance : AggT Tryd.prog 148 false := aggT_of (by kernel_rfl)
instance : TI Tryd.prog 148 (.nilFunc) 1 8 := ti_of (by kernel_rfl)
instance : Und Tryd.prog 149 (.int .i64) := ⟨Tryd.underlying149⟩
instance : TI Tryd.prog 149 (.int .i64 0) 1 8 := ti_of (by kernel_rfl)
instance : AggT Tryd.prog 150 false := aggT_of (by kernel_rfl)
instance : TI Tryd.prog 150 (.nilFunc) 1 8 := ti_of (by kernel_rfl)
instance : AggT Tryd.prog 151 false := aggT_of (by kernel_rfl)
instance : TI Tryd.prog 151 (.nilFunc) 1 8 := ti_of (by kernel_rfl)
instance : AggT Tryd.prog 152 false := aggT_of (by kernel_rfl)
instance : TI Tryd.prog 152 (.nilFunc) 1 8 := ti_of (by kernel_rfl)
instance : Und Tryd.prog 153 (.int .u64) := ⟨Tryd.underlying153⟩
instance : TI Tryd.prog 153 (.int .u64 0) 1 8 := ti_of (by kernel_rfl)
instance : AggT Tryd.prog 155 false := aggT_of (by kernel_rfl)
instance : TI Tryd.prog 155 (.nilFunc) 1 8 := ti_of (by kernel_rfl)
instance : AggT Tryd.prog 156 false := aggT_of (by kernel_rfl)
instance : TI Tryd.prog 156 (.nilFunc) 1 8 := ti_of (by kernel_rfl)
instance : AggT Tryd.prog 157 true := aggT_of (by kernel_rfl)
instance : Fld Tryd.prog 157 0 0 9 := fld_of (by kernel_rfl)
instance : Fld Tryd.prog 157 1 1 9 := fld_of (by kernel_rfl)
instance : Fld Tryd.prog 157 2 2 114 := fld_of (by kernel_rfl)
instance : PlOf Tryd.prog 157 [(0, 1), (1, 1), (2, 1)] := plof_of (by kernel_rfl)
instance : TI Tryd.prog 157 (.agg #[.string ⟨#[]⟩, .string ⟨#[]⟩, .nilIface]) 3 48 := ti_of (by kernel_rfl)
instance : AggT Tryd.prog 158 true := aggT_of (by kernel_rfl)
instance : Fld Tryd.prog 158 0 0 9 := fld_of (by kernel_rfl)
instance : Fld Tryd.prog 158 1 1 9 := fld_of (by kernel_rfl)
instance : Fld Tryd.prog 158 2 2 114 := fld_of (by kernel_rfl)
instance : PlOf Tryd.prog 158 [(0, 1), (1, 1), (2, 1)] := plof_of (by kernel_rfl)
instance : TI Tryd.prog 158 (.agg #[.string ⟨#[]⟩, .string ⟨#[]⟩, .nilIface]) 3 48 := ti_of (by kernel_rfl)
instance : AggT Tryd.prog 159 false := aggT_of (by kernel_rfl)
instance : TI Tryd.prog 159 (.nilFunc) 1 8 := ti_of (by kernel_rfl)
instance : Und Tryd.prog 160 (.array 24 5) := ⟨Tryd.underlying160⟩
instance : TI Tryd.prog 160 (.agg #[.int .u8 0, .int .u8 0, .int .u8 0, .int .u8 0, .int .u8 0, .int .u8 0, .int .u8 0, .int .u8 0, .int .u8 0, .int .u8 0, .int .u8 0, .int .u8 0, .int .u8 0, .int .u8 0, .int .u8 0, .int .u8 0, .int .u8 0, .int .u8 0, .int .u8 0, .int .u8 0, .int .u8 0, .int .u8 0, .int .u8 0, .int .u8 0]) 24 24 := ti_of (by kernel_rfl)
instance : AggT Tryd.prog 161 false := aggT_of (by kernel_rfl)
instance : TI Tryd.prog 161 (.nilFunc) 1 8 := ti_of (by kernel_rfl)
instance : AggT Tryd.prog 162 false := aggT_of (by kernel_rfl)
instance : TI Tryd.prog 162 (.nilFunc) 1 8 := ti_of (by kernel_rfl)
instance : AggT Tryd.prog 164 false := aggT_of (by kernel_rfl)
instance : TI Tryd.prog 164 (.nilFunc) 1 8 := ti_of (by kernel_rfl)
instance : AggT Tryd.prog 165 false := aggT_of (by kernel_rfl)
instance : TI Tryd.prog 165 (.nilFunc) 1 8 := ti_of (by kernel_rfl)
instance : Und Tryd.prog 166 (.pointer 5) := ⟨Tryd.underlying166⟩
instance : TI Tryd.prog 166 (.pointer none) 1 8 := ti_of (by kernel_rfl)
instance : Und Tryd.prog 167 (.pointer 169) := ⟨Tryd.underlying167⟩
instance : TI Tryd.prog 167 (.pointer none) 1 8 := ti_of (by kernel_rfl)
instance : AggT Tryd.prog 168 true := aggT_of (by kernel_rfl)
instance : Fld Tryd.prog 168 0 0 9 := fld_of (by kernel_rfl)
instance : PlOf Tryd.prog 168 [(0, 1)] := plof_of (by kernel_rfl)
instance : TI Tryd.prog 168 (.agg #[.string ⟨#[]⟩]) 1 16 := ti_of (by kernel_rfl)
instance : AggT Tryd.prog 169 true := aggT_of (by kernel_rfl)
instance : Fld Tryd.prog 169 0 0 9 := fld_of (by kernel_rfl)
instance : PlOf Tryd.prog 169 [(0, 1)] := plof_of (by kernel_rfl)
instance : TI Tryd.prog 169 (.agg #[.string ⟨#[]⟩]) 1 16 := ti_of (by kernel_rfl)
instance : AggT Tryd.prog 170 false := aggT_of (by kernel_rfl)
instance : TI Tryd.prog 170 (.nilFunc) 1 8 := ti_of (by kernel_rfl)
instance : Und Tryd.prog 171 (.array 20 153) := ⟨Tryd.underlying171⟩
instance : TI Tryd.prog 171 (.agg #[.int .u64 0, .int .u64 0, .int .u64 0, .int .u64 0, .int .u64 0, .int .u64 0, .int .u64 0, .int .u64 0, .int .u64 0, .int .u64 0, .int .u64 0, .int .u64 0, .int .u64 0, .int .u64 0, .int .u64 0, .int .u64 0, .int .u64 0, .int .u64 0, .int .u64 0, .int .u64 0]) 20 160 := ti_of (by kernel_rfl)
instance : Und Tryd.prog 172 (.int .u32) := ⟨Tryd.underlying172⟩
instance : TI Tryd.prog 172 (.int .u32 0) 1 4 := ti_of (by kernel_rfl)
instance : Und Tryd.prog 173 (.array 65 5) := ⟨Tryd.underlying173⟩
instance : AggT Tryd.prog 174 false := aggT_of (by kernel_rfl)
instance : TI Tryd.prog 174 (.nilFunc) 1 8 := ti_of (by kernel_rfl)
instance : AggT Tryd.prog 175 false := aggT_of (by kernel_rfl)
instance : TI Tryd.prog 175 (.nilFunc) 1 8 := ti_of (by kernel_rfl)
instance : Und Tryd.prog 176 (.array 32 5) := ⟨Tryd.underlying176⟩
instance : TI Tryd.prog 176 (.agg #[.int .u8 0, .int .u8 0, .int .u8 0, .int .u8 0, .int .u8 0, .int .u8 0, .int .u8 0, .int .u8 0, .int .u8 0, .int .u8 0, .int .u8 0, .int .u8 0, .int .u8 0, .int .u8 0, .int .u8 0, .int .u8 0, .int .u8 0, .int .u8 0, .int .u8 0, .int .u8 0, .int .u8 0, .int .u8 0, .int .u8 0, .int .u8 0, .int .u8 0, .int .u8 0, .int .u8 0, .int .u8 0, .int .u8 0, .int .u8 0, .int .u8 0, .int .u8 0]) 32 32 := ti_of (by kernel_rfl)
instance : Und Tryd.prog 177 (.array 64 5) := ⟨Tryd.underlying177⟩
instance : TI Tryd.prog 177 (.agg #[.int .u8 0, .int .u8 0, .int .u8 0, .int .u8 0, .int .u8 0, .int .u8 0, .int .u8 0, .int .u8 0, .int .u8 0, .int .u8 0, .int .u8 0, .int .u8 0, .int .u8 0, .int .u8 0, .int .u8 0, .int .u8 0, .int .u8 0, .int .u8 0, .int .u8 0, .int .u8 0, .int .u8 0, .int .u8 0, .int .u8 0, .int .u8 0, .int .u8 0, .int .u8 0, .int .u8 0, .int .u8 0, .int .u8 0, .int .u8 0, .int .u8 0, .int .u8 0, .int .u8 0, .int .u8 0, .int .u8 0, .int .u8 0, .int .u8 0, .int .u8 0, .int .u8 0, .int .u8 0, .int .u8 0, .int .u8 0, .int .u8 0, .int .u8 0, .int .u8 0, .int .u8 0, .int .u8 0, .int .u8 0, .int .u8 0, .int .u8 0, .int .u8 0, .int .u8 0, .int .u8 0, .int .u8 0, .int .u8 0, .int .u8 0, .int .u8 0, .int .u8 0, .int .u8 0, .int .u8 0, .int .u8 0, .int .u8 0, .int .u8 0, .int .u8 0]) 64 64 := ti_of (by kernel_rfl)
instance : AggT Tryd.prog 178 false := aggT_of (by kernel_rfl)
instance : TI Tryd.prog 178 (.nilFunc) 1 8 := ti_of (by kernel_rfl)
instance : FnRes Tryd.f3 [ResultVar.tmp 2] := ⟨rfl⟩
instance : FnRes Tryd.f4 [ResultVar.tmp 6] := ⟨rfl⟩
instance : FnRes Tryd.f5 [ResultVar.tmp 6] := ⟨rfl⟩
instance : FnRes Tryd.f6 [ResultVar.tmp 4] := ⟨rfl⟩
instance : FnRes Tryd.f7 [ResultVar.tmp 0] := ⟨rfl⟩
instance : FnRes Tryd.f8 [ResultVar.tmp 2] := ⟨rfl⟩
instance : FnRes Tryd.f9 [ResultVar.cell 2 28, ResultVar.cell 3 3, ResultVar.cell 4 29] := ⟨rfl⟩
instance : FnRes Tryd.f10 [ResultVar.cell 2 28, ResultVar.tmp 3] := ⟨rfl⟩
instance : FnRes Tryd.f11 [ResultVar.tmp 4] := ⟨rfl⟩
instance : FnRes Tryd.f12 [ResultVar.tmp 2] := ⟨rfl⟩
instance : FnRes Tryd.f13 [ResultVar.cell 4 24, ResultVar.tmp 5] := ⟨rfl⟩
instance : FnRes Tryd.f14 [ResultVar.tmp 4] := ⟨rfl⟩
instance : FnRes Tryd.f15 [ResultVar.tmp 4] := ⟨rfl⟩
instance : FnRes Tryd.f16 [ResultVar.tmp 2] := ⟨rfl⟩
instance : FnRes Tryd.f17 [ResultVar.tmp 2] := ⟨rfl⟩
instance : FnRes Tryd.f18 [ResultVar.cell 4 24] := ⟨rfl⟩
instance : FnRes Tryd.f19 [ResultVar.tmp 2] := ⟨rfl⟩
instance : FnRes Tryd.f20 [ResultVar.tmp 0] := ⟨rfl⟩
instance : FnRes Tryd.f21 [ResultVar.tmp 2] := ⟨rfl⟩
instance : FnRes Tryd.f22 [ResultVar.cell 4 24] := ⟨rfl⟩
instance : FnRes Tryd.f23 [ResultVar.tmp 8, ResultVar.tmp 9, ResultVar.tmp 10] := ⟨rfl⟩
instance : FnRes Tryd.f24 [ResultVar.tmp 4] := ⟨rfl⟩
instance : FnRes Tryd.f25 [ResultVar.tmp 0] := ⟨rfl⟩
instance : FnRes Tryd.f26 [ResultVar.tmp 2] := ⟨rfl⟩
instance : FnRes Tryd.f27 [ResultVar.tmp 4, ResultVar.tmp 5] := ⟨rfl⟩
instance : FnRes Tryd.f28 [ResultVar.tmp 2] := ⟨rfl⟩
instance : FnRes Tryd.f29 [ResultVar.tmp 4] := ⟨rfl⟩
instance : FnRes Tryd.f30 [ResultVar.tmp 4] := ⟨rfl⟩
instance : FnRes Tryd.f31 [ResultVar.tmp 4] := ⟨rfl⟩
instance : FnRes Tryd.f32 [] := ⟨rfl⟩
instance : FnRes Tryd.f33 [ResultVar.cell 4 24] := ⟨rfl⟩
instance : FnRes Tryd.f34 [ResultVar.cell 4 24, ResultVar.tmp 5] := ⟨rfl⟩
instance : FnRes Tryd.f35 [ResultVar.cell 6 24, ResultVar.tmp 7] := ⟨rfl⟩
instance : FnRes Tryd.f36 [ResultVar.tmp 4] := ⟨rfl⟩
instance : FnRes Tryd.f37 [ResultVar.tmp 6] := ⟨rfl⟩
instance : FnRes Tryd.f38 [] := ⟨rfl⟩
instance : FnRes Tryd.f39 [] := ⟨rfl⟩
instance : FnRes Tryd.f40 [ResultVar.tmp 2] := ⟨rfl⟩
instance : FnRes Tryd.f41 [ResultVar.tmp 2, ResultVar.tmp 3] := ⟨rfl⟩
instance : FnRes Tryd.f42 [ResultVar.cell 2 24] := ⟨rfl⟩
instance : FnRes Tryd.f43 [ResultVar.tmp 4, ResultVar.tmp 5] := ⟨rfl⟩
instance : FnRes Tryd.f44 [ResultVar.tmp 2, ResultVar.tmp 3] := ⟨rfl⟩
instance : FnRes Tryd.f45 [ResultVar.tmp 4, ResultVar.tmp 5] := ⟨rfl⟩
instance : FnRes Tryd.f46 [ResultVar.cell 6 24] := ⟨rfl⟩
instance : FnRes Tryd.f47 [ResultVar.cell 2 24] := ⟨rfl⟩
instance : FnRes Tryd.f48 [ResultVar.cell 2 24] := ⟨rfl⟩
instance : FnRes Tryd.f49 [ResultVar.cell 2 81] := ⟨rfl⟩
instance : FnRes Tryd.f50 [ResultVar.tmp 2] := ⟨rfl⟩
instance : FnRes Tryd.f51 [ResultVar.tmp 2] := ⟨rfl⟩
instance : FnRes Tryd.f52 [ResultVar.cell 2 24] := ⟨rfl⟩
instance : FnRes Tryd.f53 [ResultVar.tmp 2] := ⟨rfl⟩
instance : FnRes Tryd.f54 [ResultVar.cell 2 24] := ⟨rfl⟩
instance : FnRes Tryd.f55 [ResultVar.tmp 6, ResultVar.tmp 7] := ⟨rfl⟩
instance : FnRes Tryd.f56 [ResultVar.cell 8 24, ResultVar.cell 9 24, ResultVar.tmp 10] := ⟨rfl⟩
instance : FnRes Tryd.f57 [ResultVar.tmp 6, ResultVar.tmp 7, ResultVar.tmp 8] := ⟨rfl⟩
instance : FnRes Tryd.f58 [ResultVar.tmp 4] := ⟨rfl⟩
instance : FnRes Tryd.f59 [ResultVar.tmp 2] := ⟨rfl⟩
instance : FnRes Tryd.f60 [ResultVar.cell 2 24, ResultVar.tmp 3] := ⟨rfl⟩
instance : FnRes Tryd.f61 [ResultVar.tmp 4, ResultVar.tmp 5] := ⟨rfl⟩
instance : FnRes Tryd.f62 [ResultVar.tmp 2] := ⟨rfl⟩
instance : FnRes Tryd.f63 [ResultVar.cell 2 24] := ⟨rfl⟩
instance : FnRes Tryd.f64 [ResultVar.tmp 6] := ⟨rfl⟩
instance : FnRes Tryd.f65 [ResultVar.tmp 0] := ⟨rfl⟩
instance : FnRes Tryd.f66 [ResultVar.cell 2 24, ResultVar.tmp 3] := ⟨rfl⟩
instance : FnRes Tryd.f67 [ResultVar.tmp 2, ResultVar.tmp 3] := ⟨rfl⟩
instance : FnRes Tryd.f68 [ResultVar.tmp 6] := ⟨rfl⟩
instance : FnRes Tryd.f69 [ResultVar.tmp 2] := ⟨rfl⟩
instance : FnRes Tryd.f70 [ResultVar.tmp 4, ResultVar.tmp 5] := ⟨rfl⟩
instance : FnRes Tryd.f71 [ResultVar.tmp 2] := ⟨rfl⟩
instance : FnRes Tryd.f72 [ResultVar.cell 4 24] := ⟨rfl⟩
instance : FnRes Tryd.f73 [ResultVar.cell 2 24] := ⟨rfl⟩
instance : FnRes Tryd.f74 [] := ⟨rfl⟩
instance : FnRes Tryd.f75 [ResultVar.tmp 2] := ⟨rfl⟩
instance : FnRes Tryd.f76 [ResultVar.cell 4 24] := ⟨rfl⟩
instance : FnRes Tryd.f77 [ResultVar.cell 2 24] := ⟨rfl⟩
instance : FnRes Tryd.f78 [ResultVar.cell 2 24, ResultVar.tmp 3] := ⟨rfl⟩
instance : FnRes Tryd.f79 [ResultVar.cell 4 24] := ⟨rfl⟩
instance : FnRes Tryd.f80 [ResultVar.cell 6 24, ResultVar.tmp 7] := ⟨rfl⟩
instance : FnRes Tryd.f81 [ResultVar.tmp 6] := ⟨rfl⟩
instance : FnRes Tryd.f82 [ResultVar.tmp 2] := ⟨rfl⟩
instance : FnRes Tryd.f83 [ResultVar.tmp 2, ResultVar.tmp 3] := ⟨rfl⟩
instance : FnRes Tryd.f84 [ResultVar.cell 4 24] := ⟨rfl⟩
instance : FnRes Tryd.f85 [ResultVar.tmp 2] := ⟨rfl⟩
instance : FnRes Tryd.f86 [ResultVar.tmp 2] := ⟨rfl⟩
instance : FnRes Tryd.f87 [ResultVar.tmp 2] := ⟨rfl⟩
instance : FnRes Tryd.f88 [ResultVar.tmp 2] := ⟨rfl⟩
instance : FnRes Tryd.f89 [ResultVar.tmp 2] := ⟨rfl⟩
instance : FnRes Tryd.f90 [ResultVar.tmp 4, ResultVar.cell 5 24, ResultVar.tmp 6] := ⟨rfl⟩
instance : FnRes Tryd.f91 [ResultVar.tmp 3] := ⟨rfl⟩
instance : FnRes Tryd.f92 [ResultVar.tmp 4] := ⟨rfl⟩
instance : FnRes Tryd.f93 [ResultVar.tmp 3] := ⟨rfl⟩
instance : FnRes Tryd.f94 [ResultVar.tmp 6, ResultVar.tmp 7] := ⟨rfl⟩
instance : FnRes Tryd.f95 [ResultVar.tmp 4] := ⟨rfl⟩
instance : FnRes Tryd.f96 [ResultVar.tmp 4] := ⟨rfl⟩
instance : FnRes Tryd.f97 [ResultVar.tmp 2] := ⟨rfl⟩
instance : FnRes Tryd.f98 [] := ⟨rfl⟩
instance : FnRes Tryd.f99 [] := ⟨rfl⟩
instance : FnRes Tryd.f100 [ResultVar.cell 2 24] := ⟨rfl⟩
instance : FnRes Tryd.f101 [ResultVar.tmp 2] := ⟨rfl⟩
instance : FnRes Tryd.f102 [ResultVar.cell 2 24] := ⟨rfl⟩
instance : FnRes Tryd.f103 [ResultVar.cell 4 24] := ⟨rfl⟩
instance : FnRes Tryd.f104 [ResultVar.tmp 6, ResultVar.tmp 7] := ⟨rfl⟩
instance : FnRes Tryd.f105 [ResultVar.tmp 4] := ⟨rfl⟩
instance : FnRes Tryd.f106 [ResultVar.tmp 4] := ⟨rfl⟩
instance : FnRes Tryd.f107 [ResultVar.cell 2 24] := ⟨rfl⟩
instance : FnRes Tryd.f108 [ResultVar.cell 4 24] := ⟨rfl⟩
instance : FnRes Tryd.f109 [ResultVar.cell 6 24, ResultVar.tmp 7] := ⟨rfl⟩
instance : FnRes Tryd.f110 [ResultVar.cell 2 24] := ⟨rfl⟩
instance : FnRes Tryd.f111 [ResultVar.tmp 2] := ⟨rfl⟩
instance : FnRes Tryd.f112 [ResultVar.cell 2 24] := ⟨rfl⟩
instance : FnRes Tryd.f113 [ResultVar.tmp 6] := ⟨rfl⟩
instance : FnRes Tryd.f114 [ResultVar.tmp 2, ResultVar.tmp 3] := ⟨rfl⟩
instance : FnRes Tryd.f115 [ResultVar.tmp 10] := ⟨rfl⟩
instance : FnRes Tryd.f116 [] := ⟨rfl⟩
instance : FnRes Tryd.f117 [ResultVar.tmp 2] := ⟨rfl⟩
instance : FnRes Tryd.f118 [ResultVar.tmp 2] := ⟨rfl⟩
instance : FnRes Tryd.f119 [ResultVar.tmp 2] := ⟨rfl⟩
instance : FnRes Tryd.f120 [ResultVar.tmp 2] := ⟨rfl⟩
instance : FnRes Tryd.f121 [ResultVar.tmp 3] := ⟨rfl⟩
instance : FnRes Tryd.f122 [ResultVar.tmp 4] := ⟨rfl⟩
instance : FnRes Tryd.f123 [ResultVar.tmp 2] := ⟨rfl⟩
instance : FnRes Tryd.f124 [] := ⟨rfl⟩
instance : FnRes Tryd.f125 [ResultVar.cell 2 24] := ⟨rfl⟩
instance : FnRes Tryd.f126 [ResultVar.tmp 4] := ⟨rfl⟩
instance : FnRes Tryd.f127 [ResultVar.cell 2 24] := ⟨rfl⟩
instance : FnRes Tryd.f128 [ResultVar.cell 2 24] := ⟨rfl⟩
instance : FnRes Tryd.f129 [ResultVar.tmp 2] := ⟨rfl⟩
instance : FnRes Tryd.f130 [ResultVar.tmp 6, ResultVar.tmp 7] := ⟨rfl⟩
instance : FnRes Tryd.f131 [ResultVar.tmp 4] := ⟨rfl⟩
instance : FnRes Tryd.f132 [ResultVar.tmp 4] := ⟨rfl⟩
instance : FnRes Tryd.f133 [ResultVar.tmp 6] := ⟨rfl⟩
instance : FnRes Tryd.f134 [ResultVar.tmp 6] := ⟨rfl⟩
instance : FnRes Tryd.f135 [ResultVar.tmp 4] := ⟨rfl⟩
instance : FnRes Tryd.f136 [] := ⟨rfl⟩
instance : FnRes Tryd.f137 [] := ⟨rfl⟩
instance : FnRes Tryd.f138 [ResultVar.cell 2 24] := ⟨rfl⟩
instance : FnRes Tryd.f139 [ResultVar.tmp 2] := ⟨rfl⟩
instance : FnRes Tryd.f140 [ResultVar.tmp 2] := ⟨rfl⟩
instance : FnRes Tryd.f141 [ResultVar.tmp 4] := ⟨rfl⟩
instance : FnRes Tryd.f142 [ResultVar.tmp 2] := ⟨rfl⟩
instance : FnRes Tryd.f143 [ResultVar.tmp 6, ResultVar.tmp 7] := ⟨rfl⟩
instance : FnRes Tryd.f144 [ResultVar.tmp 2] := ⟨rfl⟩
instance : FnRes Tryd.f145 [ResultVar.tmp 2] := ⟨rfl⟩
instance : FnRes Tryd.f146 [ResultVar.tmp 2] := ⟨rfl⟩
instance : FnRes Tryd.f147 [ResultVar.tmp 2] := ⟨rfl⟩
instance : FnRes Tryd.f148 [] := ⟨rfl⟩
instance : FnRes Tryd.f149 [ResultVar.tmp 10, ResultVar.tmp 11] := ⟨rfl⟩
instance : FnRes Tryd.f150 [ResultVar.tmp 2] := ⟨rfl⟩
instance : FnRes Tryd.f151 [ResultVar.tmp 2] := ⟨rfl⟩
instance : FnRes Tryd.f152 [ResultVar.tmp 2] := ⟨rfl⟩
instance : FnRes Tryd.f153 [ResultVar.tmp 2] := ⟨rfl⟩
instance : FnRes Tryd.f154 [ResultVar.tmp 2] := ⟨rfl⟩
instance : FnRes Tryd.f155 [ResultVar.tmp 2] := ⟨rfl⟩
instance : FnRes Tryd.f156 [ResultVar.tmp 2] := ⟨rfl⟩
instance : FnRes Tryd.f157 [ResultVar.tmp 2] := ⟨rfl⟩
instance : FnRes Tryd.f158 [ResultVar.tmp 2] := ⟨rfl⟩
instance : FnRes Tryd.f175 [] := ⟨rfl⟩
instance : FnRes Tryd.f176 [] := ⟨rfl⟩
instance : FnRes Tryd.f179 [] := ⟨rfl⟩
instance : FnRes Tryd.f180 [] := ⟨rfl⟩
instance : FnRes Tryd.f181 [] := ⟨rfl⟩
instance : FnRes Tryd.f182 [] := ⟨rfl⟩
instance : FnRes Tryd.f183 [] := ⟨rfl⟩
instance : EntF Tryd.prog 3 := ⟨enters_of Tryd.func3 (by kernel_rfl) rfl⟩ -- safehouse/safehouselaw17.DataReads
instance : EntF Tryd.prog 4 := ⟨enters_of Tryd.func4 (by kernel_rfl) rfl⟩ -- safehouse/safehouselaw17.DataMakes
instance : EntF Tryd.prog 5 := ⟨enters_of Tryd.func5 (by kernel_rfl) rfl⟩ -- safehouse/safehouselaw16.FreshTwins
instance : EntF Tryd.prog 6 := ⟨enters_of Tryd.func6 (by kernel_rfl) rfl⟩ -- safehouse/safehouselaw14.TreeProofs
instance : EntF Tryd.prog 7 := ⟨enters_of Tryd.func7 (by kernel_rfl) rfl⟩ -- safehouse/safehouselaw17.wakes
instance : EntF Tryd.prog 8 := ⟨enters_of Tryd.func8 (by kernel_rfl) rfl⟩ -- safehouse/safehouselaw17.over
instance : EntF Tryd.prog 9 := ⟨enters_of Tryd.func9 (by kernel_rfl) rfl⟩ -- safehouse/data.Read
instance : EntF Tryd.prog 10 := ⟨enters_of Tryd.func10 (by kernel_rfl) rfl⟩ -- safehouse/safehouseref17.Read
instance : EntF Tryd.prog 11 := ⟨enters_of Tryd.func11 (by kernel_rfl) rfl⟩ -- safehouse/safehouseref17.Same
instance : EntF Tryd.prog 12 := ⟨enters_of Tryd.func12 (by kernel_rfl) rfl⟩ -- safehouse/safehouselaw17.overData
instance : EntF Tryd.prog 13 := ⟨enters_of Tryd.func13 (by kernel_rfl) rfl⟩ -- safehouse/data.Make
instance : EntF Tryd.prog 14 := ⟨enters_of Tryd.func14 (by kernel_rfl) rfl⟩ -- safehouse/data.Same
instance : EntF Tryd.prog 15 := ⟨enters_of Tryd.func15 (by kernel_rfl) rfl⟩ -- safehouse/safehouseref05.Same
instance : EntF Tryd.prog 16 := ⟨enters_of Tryd.func16 (by kernel_rfl) rfl⟩ -- safehouse/safehouseref17.Right
instance : EntF Tryd.prog 17 := ⟨enters_of Tryd.func17 (by kernel_rfl) rfl⟩ -- safehouse/data.Check
instance : EntF Tryd.prog 18 := ⟨enters_of Tryd.func18 (by kernel_rfl) rfl⟩ -- safehouse/safehouseref17.Term
instance : EntF Tryd.prog 19 := ⟨enters_of Tryd.func19 (by kernel_rfl) rfl⟩ -- safehouse/safehouseref05.Right
instance : EntF Tryd.prog 20 := ⟨enters_of Tryd.func20 (by kernel_rfl) rfl⟩ -- safehouse/safehouselaw16.wakes
instance : EntF Tryd.prog 21 := ⟨enters_of Tryd.func21 (by kernel_rfl) rfl⟩ -- safehouse/safehouselaw16.seen
instance : EntF Tryd.prog 22 := ⟨enters_of Tryd.func22 (by kernel_rfl) rfl⟩ -- safehouse/safehouselaw16.small
instance : EntF Tryd.prog 23 := ⟨enters_of Tryd.func23 (by kernel_rfl) rfl⟩ -- safehouse/fresh.Accept
instance : EntF Tryd.prog 24 := ⟨enters_of Tryd.func24 (by kernel_rfl) rfl⟩ -- slices.Equal[[]safehouse/api.Mark,safehouse/api.Mark]
instance : EntF Tryd.prog 25 := ⟨enters_of Tryd.func25 (by kernel_rfl) rfl⟩ -- safehouse/safehouselaw14.wakes
instance : EntF Tryd.prog 26 := ⟨enters_of Tryd.func26 (by kernel_rfl) rfl⟩ -- safehouse/safehouselaw14.short
instance : EntF Tryd.prog 27 := ⟨enters_of Tryd.func27 (by kernel_rfl) rfl⟩ -- safehouse/tree.Proof
instance : EntF Tryd.prog 28 := ⟨enters_of Tryd.func28 (by kernel_rfl) rfl⟩ -- safehouse/safehouseref14.Right
instance : EntF Tryd.prog 29 := ⟨enters_of Tryd.func29 (by kernel_rfl) rfl⟩ -- safehouse/safehouseref05.SameAll
instance : EntF Tryd.prog 30 := ⟨enters_of Tryd.func30 (by kernel_rfl) rfl⟩ -- safehouse/safehouseref14.Proof
instance : EntF Tryd.prog 31 := ⟨enters_of Tryd.func31 (by kernel_rfl) rfl⟩ -- safehouse/safehouseref14.Same
instance : EntF Tryd.prog 32 := ⟨enters_of Tryd.func32 (by kernel_rfl) rfl⟩ -- safehouse/safehouselaw14.spoil
instance : EntF Tryd.prog 33 := ⟨enters_of Tryd.func33 (by kernel_rfl) rfl⟩ -- safehouse/term.Fresh
instance : EntF Tryd.prog 34 := ⟨enters_of Tryd.func34 (by kernel_rfl) rfl⟩ -- safehouse/data.Lock
instance : EntF Tryd.prog 35 := ⟨enters_of Tryd.func35 (by kernel_rfl) rfl⟩ -- safehouse/data.Open
instance : EntF Tryd.prog 36 := ⟨enters_of Tryd.func36 (by kernel_rfl) rfl⟩ -- safehouse/term.Same
instance : EntF Tryd.prog 37 := ⟨enters_of Tryd.func37 (by kernel_rfl) rfl⟩ -- safehouse/safehouselaw17.large
instance : EntF Tryd.prog 38 := ⟨enters_of Tryd.func38 (by kernel_rfl) rfl⟩ -- safehouse/data.Read$1
instance : EntF Tryd.prog 39 := ⟨enters_of Tryd.func39 (by kernel_rfl) rfl⟩ -- safehouse/data.need
instance : EntF Tryd.prog 40 := ⟨enters_of Tryd.func40 (by kernel_rfl) rfl⟩ -- safehouse/term.Check
instance : EntF Tryd.prog 41 := ⟨enters_of Tryd.func41 (by kernel_rfl) rfl⟩ -- safehouse/term.Unlist
instance : EntF Tryd.prog 42 := ⟨enters_of Tryd.func42 (by kernel_rfl) rfl⟩ -- safehouse/term.Text
instance : EntF Tryd.prog 43 := ⟨enters_of Tryd.func43 (by kernel_rfl) rfl⟩ -- safehouse/meta.Number
instance : EntF Tryd.prog 44 := ⟨enters_of Tryd.func44 (by kernel_rfl) rfl⟩ -- safehouse/safehouseref05.Unlist
instance : EntF Tryd.prog 45 := ⟨enters_of Tryd.func45 (by kernel_rfl) rfl⟩ -- safehouse/safehouseref15.Number
instance : EntF Tryd.prog 46 := ⟨enters_of Tryd.func46 (by kernel_rfl) rfl⟩ -- safehouse/term.Sign
instance : EntF Tryd.prog 47 := ⟨enters_of Tryd.func47 (by kernel_rfl) rfl⟩ -- safehouse/term.List
instance : EntF Tryd.prog 48 := ⟨enters_of Tryd.func48 (by kernel_rfl) rfl⟩ -- safehouse/meta.Digits
instance : EntF Tryd.prog 49 := ⟨enters_of Tryd.func49 (by kernel_rfl) rfl⟩ -- safehouse/data.Same$1
instance : EntF Tryd.prog 50 := ⟨enters_of Tryd.func50 (by kernel_rfl) rfl⟩ -- safehouse/safehouseref15.Name
instance : EntF Tryd.prog 51 := ⟨enters_of Tryd.func51 (by kernel_rfl) rfl⟩ -- safehouse/meta.Name
instance : EntF Tryd.prog 52 := ⟨enters_of Tryd.func52 (by kernel_rfl) rfl⟩ -- safehouse/safehouseref05.Text
instance : EntF Tryd.prog 53 := ⟨enters_of Tryd.func53 (by kernel_rfl) rfl⟩ -- safehouse/safehouseref15.Digits
instance : EntF Tryd.prog 54 := ⟨enters_of Tryd.func54 (by kernel_rfl) rfl⟩ -- safehouse/safehouseref05.List
instance : EntF Tryd.prog 55 := ⟨enters_of Tryd.func55 (by kernel_rfl) rfl⟩ -- safehouse/safehouseref05.Size
instance : EntF Tryd.prog 56 := ⟨enters_of Tryd.func56 (by kernel_rfl) rfl⟩ -- safehouse/fresh.Publish
instance : EntF Tryd.prog 57 := ⟨enters_of Tryd.func57 (by kernel_rfl) rfl⟩ -- safehouse/fresh.Read
instance : EntF Tryd.prog 58 := ⟨enters_of Tryd.func58 (by kernel_rfl) rfl⟩ -- safehouse/fresh.Covers
instance : EntF Tryd.prog 59 := ⟨enters_of Tryd.func59 (by kernel_rfl) rfl⟩ -- safehouse/fresh.Check
instance : EntF Tryd.prog 60 := ⟨enters_of Tryd.func60 (by kernel_rfl) rfl⟩ -- safehouse/tree.Root
instance : EntF Tryd.prog 61 := ⟨enters_of Tryd.func61 (by kernel_rfl) rfl⟩ -- safehouse/fresh.find
instance : EntF Tryd.prog 62 := ⟨enters_of Tryd.func62 (by kernel_rfl) rfl⟩ -- slices.Clone[[]safehouse/api.Seen,safehouse/api.Seen]
instance : EntF Tryd.prog 63 := ⟨enters_of Tryd.func63 (by kernel_rfl) rfl⟩ -- safehouse/fresh.copied
instance : EntF Tryd.prog 64 := ⟨enters_of Tryd.func64 (by kernel_rfl) rfl⟩ -- slices.Insert[[]safehouse/api.Seen,safehouse/api.Seen]
instance : EntF Tryd.prog 65 := ⟨enters_of Tryd.func65 (by kernel_rfl) rfl⟩ -- safehouse/safehouselaw14.few
instance : EntF Tryd.prog 66 := ⟨enters_of Tryd.func66 (by kernel_rfl) rfl⟩ -- safehouse/tree.Write
instance : EntF Tryd.prog 67 := ⟨enters_of Tryd.func67 (by kernel_rfl) rfl⟩ -- safehouse/tree.Read
instance : EntF Tryd.prog 68 := ⟨enters_of Tryd.func68 (by kernel_rfl) rfl⟩ -- safehouse/tree.Proves
instance : EntF Tryd.prog 69 := ⟨enters_of Tryd.func69 (by kernel_rfl) rfl⟩ -- safehouse/tree.Check
instance : EntF Tryd.prog 70 := ⟨enters_of Tryd.func70 (by kernel_rfl) rfl⟩ -- safehouse/tree.find
instance : EntF Tryd.prog 71 := ⟨enters_of Tryd.func71 (by kernel_rfl) rfl⟩ -- safehouse/tree.half
instance : EntF Tryd.prog 72 := ⟨enters_of Tryd.func72 (by kernel_rfl) rfl⟩ -- safehouse/term.Pair
instance : EntF Tryd.prog 73 := ⟨enters_of Tryd.func73 (by kernel_rfl) rfl⟩ -- safehouse/tree.root
instance : EntF Tryd.prog 74 := ⟨enters_of Tryd.func74 (by kernel_rfl) rfl⟩ -- slices.Reverse[[]safehouse/api.Term,safehouse/api.Term]
instance : EntF Tryd.prog 75 := ⟨enters_of Tryd.func75 (by kernel_rfl) rfl⟩ -- safehouse/safehouseref14.One
instance : EntF Tryd.prog 76 := ⟨enters_of Tryd.func76 (by kernel_rfl) rfl⟩ -- safehouse/safehouseref05.Pair
instance : EntF Tryd.prog 77 := ⟨enters_of Tryd.func77 (by kernel_rfl) rfl⟩ -- safehouse/safehouseref14.Root
instance : EntF Tryd.prog 78 := ⟨enters_of Tryd.func78 (by kernel_rfl) rfl⟩ -- safehouse/regress.Key
instance : EntF Tryd.prog 79 := ⟨enters_of Tryd.func79 (by kernel_rfl) rfl⟩ -- safehouse/term.Lock
instance : EntF Tryd.prog 80 := ⟨enters_of Tryd.func80 (by kernel_rfl) rfl⟩ -- safehouse/regress.Back
instance : EntF Tryd.prog 81 := ⟨enters_of Tryd.func81 (by kernel_rfl) rfl⟩ -- slices.EqualFunc[[]safehouse/api.Term,[]safehouse/api.Term,safehouse/api.Term,safehouse/api.Term]
instance : EntF Tryd.prog 82 := ⟨enters_of Tryd.func82 (by kernel_rfl) rfl⟩ -- safehouse/term.size
instance : EntF Tryd.prog 83 := ⟨enters_of Tryd.func83 (by kernel_rfl) rfl⟩ -- strconv.Atoi
instance : EntF Tryd.prog 84 := ⟨enters_of Tryd.func84 (by kernel_rfl) rfl⟩ -- safehouse/term.of
instance : EntF Tryd.prog 85 := ⟨enters_of Tryd.func85 (by kernel_rfl) rfl⟩ -- slices.Backward[[]safehouse/api.Term,safehouse/api.Term]
instance : EntF Tryd.prog 86 := ⟨enters_of Tryd.func86 (by kernel_rfl) rfl⟩ -- strconv.Itoa
instance : EntF Tryd.prog 87 := ⟨enters_of Tryd.func87 (by kernel_rfl) rfl⟩ -- safehouse/safehouseref05.One
instance : EntF Tryd.prog 88 := ⟨enters_of Tryd.func88 (by kernel_rfl) rfl⟩ -- safehouse/fresh.user
instance : EntF Tryd.prog 89 := ⟨enters_of Tryd.func89 (by kernel_rfl) rfl⟩ -- safehouse/fresh.counted
instance : EntF Tryd.prog 90 := ⟨enters_of Tryd.func90 (by kernel_rfl) rfl⟩ -- safehouse/fresh.rooted
instance : EntF Tryd.prog 91 := ⟨enters_of Tryd.func91 (by kernel_rfl) rfl⟩ -- safehouse/fresh.Covers$1
instance : EntF Tryd.prog 92 := ⟨enters_of Tryd.func92 (by kernel_rfl) rfl⟩ -- slices.ContainsFunc[[]safehouse/api.Mark,safehouse/api.Mark]
instance : EntF Tryd.prog 93 := ⟨enters_of Tryd.func93 (by kernel_rfl) rfl⟩ -- safehouse/fresh.Covers$1$1
instance : EntF Tryd.prog 94 := ⟨enters_of Tryd.func94 (by kernel_rfl) rfl⟩ -- slices.BinarySearchFunc[[]safehouse/api.Seen,safehouse/api.Seen,int]
instance : EntF Tryd.prog 95 := ⟨enters_of Tryd.func95 (by kernel_rfl) rfl⟩ -- safehouse/fresh.find$1
instance : EntF Tryd.prog 96 := ⟨enters_of Tryd.func96 (by kernel_rfl) rfl⟩ -- cmp.Compare[int]
instance : EntF Tryd.prog 97 := ⟨enters_of Tryd.func97 (by kernel_rfl) rfl⟩ -- slices.Clone[[]safehouse/api.Term,safehouse/api.Term]
instance : EntF Tryd.prog 99 := ⟨enters_of Tryd.func99 (by kernel_rfl) rfl⟩ -- slices.rotateRight[safehouse/api.Seen]
instance : EntF Tryd.prog 100 := ⟨enters_of Tryd.func100 (by kernel_rfl) rfl⟩ -- safehouse/tree.row
instance : EntF Tryd.prog 101 := ⟨enters_of Tryd.func101 (by kernel_rfl) rfl⟩ -- safehouse/tree.marked
instance : EntF Tryd.prog 102 := ⟨enters_of Tryd.func102 (by kernel_rfl) rfl⟩ -- safehouse/tree.Leaf
instance : EntF Tryd.prog 103 := ⟨enters_of Tryd.func103 (by kernel_rfl) rfl⟩ -- safehouse/tree.join
instance : EntF Tryd.prog 104 := ⟨enters_of Tryd.func104 (by kernel_rfl) rfl⟩ -- slices.BinarySearchFunc[[]safehouse/api.Mark,safehouse/api.Mark,string]
instance : EntF Tryd.prog 105 := ⟨enters_of Tryd.func105 (by kernel_rfl) rfl⟩ -- safehouse/tree.find$1
instance : EntF Tryd.prog 106 := ⟨enters_of Tryd.func106 (by kernel_rfl) rfl⟩ -- strings.Compare
instance : EntF Tryd.prog 107 := ⟨enters_of Tryd.func107 (by kernel_rfl) rfl⟩ -- safehouse/safehouseref14.Leaf
instance : EntF Tryd.prog 108 := ⟨enters_of Tryd.func108 (by kernel_rfl) rfl⟩ -- safehouse/safehouseref14.Join
instance : EntF Tryd.prog 109 := ⟨enters_of Tryd.func109 (by kernel_rfl) rfl⟩ -- safehouse/regress.times
instance : EntF Tryd.prog 110 := ⟨enters_of Tryd.func110 (by kernel_rfl) rfl⟩ -- safehouse/regress.last
instance : EntF Tryd.prog 111 := ⟨enters_of Tryd.func111 (by kernel_rfl) rfl⟩ -- safehouse/regress.epoch
instance : EntF Tryd.prog 112 := ⟨enters_of Tryd.func112 (by kernel_rfl) rfl⟩ -- safehouse/regress.step
instance : EntF Tryd.prog 113 := ⟨enters_of Tryd.func113 (by kernel_rfl) rfl⟩ -- safehouse/term.walk
instance : EntF Tryd.prog 114 := ⟨enters_of Tryd.func114 (by kernel_rfl) rfl⟩ -- internal/strconv.Atoi
instance : EntF Tryd.prog 115 := ⟨enters_of Tryd.func115 (by kernel_rfl) rfl⟩ -- strconv.toError
instance : EntF Tryd.prog 116 := ⟨enters_of Tryd.func116 (by kernel_rfl) rfl⟩ -- slices.Backward[[]safehouse/api.Term,safehouse/api.Term]$1
instance : EntF Tryd.prog 117 := ⟨enters_of Tryd.func117 (by kernel_rfl) rfl⟩ -- internal/strconv.Itoa
instance : EntF Tryd.prog 118 := ⟨enters_of Tryd.func118 (by kernel_rfl) rfl⟩ -- safehouse/safehouseref05.Kids
instance : EntF Tryd.prog 119 := ⟨enters_of Tryd.func119 (by kernel_rfl) rfl⟩ -- safehouse/safehouseref05.User
instance : EntF Tryd.prog 120 := ⟨enters_of Tryd.func120 (by kernel_rfl) rfl⟩ -- safehouse/safehouseref05.Num
instance : EntF Tryd.prog 121 := ⟨enters_of Tryd.func121 (by kernel_rfl) rfl⟩ -- safehouse/fresh.rooted$1
instance : EntF Tryd.prog 122 := ⟨enters_of Tryd.func122 (by kernel_rfl) rfl⟩ -- slices.IndexFunc[[]safehouse/api.Mark,safehouse/api.Mark]
instance : EntF Tryd.prog 123 := ⟨enters_of Tryd.func123 (by kernel_rfl) rfl⟩ -- cmp.isNaN[int]
instance : EntF Tryd.prog 124 := ⟨enters_of Tryd.func124 (by kernel_rfl) rfl⟩ -- slices.rotateLeft[safehouse/api.Seen]
instance : EntF Tryd.prog 125 := ⟨enters_of Tryd.func125 (by kernel_rfl) rfl⟩ -- safehouse/term.Hash
instance : EntF Tryd.prog 126 := ⟨enters_of Tryd.func126 (by kernel_rfl) rfl⟩ -- internal/bytealg.CompareString
instance : EntF Tryd.prog 127 := ⟨enters_of Tryd.func127 (by kernel_rfl) rfl⟩ -- safehouse/safehouseref14.hash
instance : EntF Tryd.prog 128 := ⟨enters_of Tryd.func128 (by kernel_rfl) rfl⟩ -- safehouse/safehouseref14.row
instance : EntF Tryd.prog 129 := ⟨enters_of Tryd.func129 (by kernel_rfl) rfl⟩ -- safehouse/term.plain
instance : EntF Tryd.prog 130 := ⟨enters_of Tryd.func130 (by kernel_rfl) rfl⟩ -- internal/strconv.ParseInt
instance : EntF Tryd.prog 131 := ⟨enters_of Tryd.func131 (by kernel_rfl) rfl⟩ -- strconv.syntaxError
instance : EntF Tryd.prog 132 := ⟨enters_of Tryd.func132 (by kernel_rfl) rfl⟩ -- strconv.rangeError
instance : EntF Tryd.prog 133 := ⟨enters_of Tryd.func133 (by kernel_rfl) rfl⟩ -- strconv.baseError
instance : EntF Tryd.prog 134 := ⟨enters_of Tryd.func134 (by kernel_rfl) rfl⟩ -- strconv.bitSizeError
instance : EntF Tryd.prog 135 := ⟨enters_of Tryd.func135 (by kernel_rfl) rfl⟩ -- internal/strconv.FormatInt
instance : EntF Tryd.prog 136 := ⟨enters_of Tryd.func136 (by kernel_rfl) rfl⟩ -- slices.Reverse[[]safehouse/api.Seen,safehouse/api.Seen]
instance : EntF Tryd.prog 138 := ⟨enters_of Tryd.func138 (by kernel_rfl) rfl⟩ -- safehouse/safehouseref14.Digits
instance : EntF Tryd.prog 139 := ⟨enters_of Tryd.func139 (by kernel_rfl) rfl⟩ -- safehouse/term.fields
instance : EntF Tryd.prog 140 := ⟨enters_of Tryd.func140 (by kernel_rfl) rfl⟩ -- (safehouse/term.field).kids
instance : EntF Tryd.prog 141 := ⟨enters_of Tryd.func141 (by kernel_rfl) rfl⟩ -- (safehouse/term.field).has
instance : EntF Tryd.prog 142 := ⟨enters_of Tryd.func142 (by kernel_rfl) rfl⟩ -- safehouse/term.known
instance : EntF Tryd.prog 143 := ⟨enters_of Tryd.func143 (by kernel_rfl) rfl⟩ -- internal/strconv.ParseUint
instance : EntF Tryd.prog 144 := ⟨enters_of Tryd.func144 (by kernel_rfl) rfl⟩ -- internal/stringslite.Clone
instance : EntF Tryd.prog 145 := ⟨enters_of Tryd.func145 (by kernel_rfl) rfl⟩ -- errors.New
instance : EntF Tryd.prog 146 := ⟨enters_of Tryd.func146 (by kernel_rfl) rfl⟩ -- internal/strconv.small
instance : EntF Tryd.prog 147 := ⟨enters_of Tryd.func147 (by kernel_rfl) rfl⟩ -- internal/strconv.numDigits
instance : EntF Tryd.prog 148 := ⟨enters_of Tryd.func148 (by kernel_rfl) rfl⟩ -- internal/strconv.formatBase10
instance : EntF Tryd.prog 149 := ⟨enters_of Tryd.func149 (by kernel_rfl) rfl⟩ -- internal/strconv.formatBits
instance : EntF Tryd.prog 150 := ⟨enters_of Tryd.func150 (by kernel_rfl) rfl⟩ -- internal/strconv.lower
instance : EntF Tryd.prog 151 := ⟨enters_of Tryd.func151 (by kernel_rfl) rfl⟩ -- internal/strconv.underscoreOK
instance : EntF Tryd.prog 152 := ⟨enters_of Tryd.func152 (by kernel_rfl) rfl⟩ -- internal/strconv.log10Pow2
instance : EntF Tryd.prog 153 := ⟨enters_of Tryd.func153 (by kernel_rfl) rfl⟩ -- math/bits.Len64
instance : EntF Tryd.prog 154 := ⟨enters_of Tryd.func154 (by kernel_rfl) rfl⟩ -- internal/strconv.bool2[int]
instance : EntF Tryd.prog 155 := ⟨enters_of Tryd.func155 (by kernel_rfl) rfl⟩ -- internal/strconv.isPowerOfTwo
instance : EntF Tryd.prog 156 := ⟨enters_of Tryd.func156 (by kernel_rfl) rfl⟩ -- math/bits.TrailingZeros
instance : EntF Tryd.prog 157 := ⟨enters_of Tryd.func157 (by kernel_rfl) rfl⟩ -- math/bits.TrailingZeros32
instance : EntF Tryd.prog 158 := ⟨enters_of Tryd.func158 (by kernel_rfl) rfl⟩ -- math/bits.TrailingZeros64
end
end Go.Proofs.YtieeoakdkbackaaDoor

/- Package term: what the small functions compute. -/
namespace Go.Proofs.YtieeoakdkbackaaDoor
open Go Go.Wk
set_option synthInstance.maxSize 100000
set_option synthInstance.maxHeartbeats 400000
set_option maxRecDepth 100000

def fieldsOf (k : Int) : Int :=
  if k = 1 then 1 else if k = 2 then 6 else if k = 3 then 2 else if k = 4 ∨ k = 6 then 16 else if k = 5 then 8 else if k = 7 then 10 else if k = 8 then 14 else 0

theorem fields_c (k : Int) (w : World) : Ret Tryd.prog 139 [.int .i64 k] w (fun _ => False) fun v _ => v = .int .i64 (fieldsOf k) := by
  refine enter Tryd.func139 rfl rfl (Wd.start w) (fun a S => ?_)
  simp only [Tryd.ntmps139, List.length_cons, List.length_nil, Nat.reduceAdd, Nat.reduceSub, List.replicate_succ, List.replicate_zero, List.cons_append, List.nil_append] at S
  refine c_seq ?_
  refine c_region ?_
  refine sq S ?_; clear S; intro a S
  refine wl_nil ?_
  refine xtn ?_
  iterate 2 (refine c_seq ?_)
  refine c_region ?_
  refine sq S ?_; clear S; intro a S
  refine wl_nil ?_
  refine xtn ?_
  refine c_block ?_
  refine c_seq ?_
  refine c_region ?_
  iterate 2 (refine sq S ?_; clear S; intro a S)
  refine wl_nil ?_
  refine xtn ?_
  refine c_cond S (fun h2 => ?_) (fun h2 => ?_)
  · refine c_seq ?_
    refine c_region ?_
    refine sq S ?_; clear S; intro a S
    refine wl_nil ?_
    refine xtn ?_
    refine c_ret ?_
    refine xbr ?_
    refine xtr ?_
    refine fin1 S (fun _ => ?_)
    simp at *; first | (exfalso; omega) | simp [*, fieldsOf]
  · refine c_seq ?_
    refine c_region ?_
    iterate 2 (refine sq S ?_; clear S; intro a S)
    refine wl_nil ?_
    refine xtn ?_
    refine c_cond S (fun h4 => ?_) (fun h4 => ?_)
    · refine c_seq ?_
      refine c_region ?_
      refine sq S ?_; clear S; intro a S
      refine wl_nil ?_
      refine xtn ?_
      refine c_ret ?_
      refine xbr ?_
      refine xtr ?_
      refine fin1 S (fun _ => ?_)
      simp at *; first | (exfalso; omega) | simp [*, fieldsOf]
    · refine c_seq ?_
      refine c_region ?_
      iterate 2 (refine sq S ?_; clear S; intro a S)
      refine wl_nil ?_
      refine xtn ?_
      refine c_cond S (fun h6 => ?_) (fun h6 => ?_)
      · refine c_seq ?_
        refine c_region ?_
        refine sq S ?_; clear S; intro a S
        refine wl_nil ?_
        refine xtn ?_
        refine c_ret ?_
        refine xbr ?_
        refine xtr ?_
        refine fin1 S (fun _ => ?_)
        simp at *; first | (exfalso; omega) | simp [*, fieldsOf]
      · refine c_seq ?_
        refine c_seq ?_
        refine c_region ?_
        iterate 2 (refine sq S ?_; clear S; intro a S)
        refine wl_nil ?_
        refine xtn ?_
        refine c_cond S (fun h8 => ?_) (fun h8 => ?_)
        · refine c_skip ?_
          refine xtn ?_
          refine c_cond S (fun h8 => ?_) (fun h8 => ?_)
          · refine c_seq ?_
            refine c_region ?_
            refine sq S ?_; clear S; intro a S
            refine wl_nil ?_
            refine xtn ?_
            refine c_ret ?_
            refine xbr ?_
            refine xtr ?_
            refine fin1 S (fun _ => ?_)
            simp at *; first | (exfalso; omega) | simp [*, fieldsOf]
          · refine c_seq ?_
            refine c_region ?_
            iterate 2 (refine sq S ?_; clear S; intro a S)
            refine wl_nil ?_
            refine xtn ?_
            refine c_cond S (fun h11 => ?_) (fun h11 => ?_)
            · refine c_seq ?_
              refine c_region ?_
              refine sq S ?_; clear S; intro a S
              refine wl_nil ?_
              refine xtn ?_
              refine c_ret ?_
              refine xbr ?_
              refine xtr ?_
              refine fin1 S (fun _ => ?_)
              simp at *; first | (exfalso; omega) | simp [*, fieldsOf]
            · refine c_seq ?_
              refine c_region ?_
              iterate 2 (refine sq S ?_; clear S; intro a S)
              refine wl_nil ?_
              refine xtn ?_
              refine c_cond S (fun h13 => ?_) (fun h13 => ?_)
              · refine c_seq ?_
                refine c_region ?_
                refine sq S ?_; clear S; intro a S
                refine wl_nil ?_
                refine xtn ?_
                refine c_ret ?_
                refine xbr ?_
                refine xtr ?_
                refine fin1 S (fun _ => ?_)
                simp at *; first | (exfalso; omega) | simp [*, fieldsOf]
              · refine c_seq ?_
                refine c_region ?_
                iterate 2 (refine sq S ?_; clear S; intro a S)
                refine wl_nil ?_
                refine xtn ?_
                refine c_cond S (fun h15 => ?_) (fun h15 => ?_)
                · refine c_seq ?_
                  refine c_region ?_
                  refine sq S ?_; clear S; intro a S
                  refine wl_nil ?_
                  refine xtn ?_
                  refine c_ret ?_
                  refine xbr ?_
                  refine xtr ?_
                  refine fin1 S (fun _ => ?_)
                  simp at *; first | (exfalso; omega) | simp [*, fieldsOf]
                · refine c_skip ?_
                  refine xbn ?_
                  refine xtn ?_
                  refine c_seq ?_
                  refine c_region ?_
                  refine sq S ?_; clear S; intro a S
                  refine wl_nil ?_
                  refine xtn ?_
                  refine c_ret ?_
                  refine fin1 S (fun _ => ?_)
                  simp at *; first | (exfalso; omega) | simp [*, fieldsOf]
        · refine c_region ?_
          iterate 2 (refine sq S ?_; clear S; intro a S)
          refine wl_nil ?_
          refine xtn ?_
          refine c_cond S (fun h9 => ?_) (fun h9 => ?_)
          · refine c_seq ?_
            refine c_region ?_
            refine sq S ?_; clear S; intro a S
            refine wl_nil ?_
            refine xtn ?_
            refine c_ret ?_
            refine xbr ?_
            refine xtr ?_
            refine fin1 S (fun _ => ?_)
            simp at *; first | (exfalso; omega) | simp [*, fieldsOf]
          · refine c_seq ?_
            refine c_region ?_
            iterate 2 (refine sq S ?_; clear S; intro a S)
            refine wl_nil ?_
            refine xtn ?_
            refine c_cond S (fun h11 => ?_) (fun h11 => ?_)
            · refine c_seq ?_
              refine c_region ?_
              refine sq S ?_; clear S; intro a S
              refine wl_nil ?_
              refine xtn ?_
              refine c_ret ?_
              refine xbr ?_
              refine xtr ?_
              refine fin1 S (fun _ => ?_)
              simp at *; first | (exfalso; omega) | simp [*, fieldsOf]
            · refine c_seq ?_
              refine c_region ?_
              iterate 2 (refine sq S ?_; clear S; intro a S)
              refine wl_nil ?_
              refine xtn ?_
              refine c_cond S (fun h13 => ?_) (fun h13 => ?_)
              · refine c_seq ?_
                refine c_region ?_
                refine sq S ?_; clear S; intro a S
                refine wl_nil ?_
                refine xtn ?_
                refine c_ret ?_
                refine xbr ?_
                refine xtr ?_
                refine fin1 S (fun _ => ?_)
                simp at *; first | (exfalso; omega) | simp [*, fieldsOf]
              · refine c_seq ?_
                refine c_region ?_
                iterate 2 (refine sq S ?_; clear S; intro a S)
                refine wl_nil ?_
                refine xtn ?_
                refine c_cond S (fun h15 => ?_) (fun h15 => ?_)
                · refine c_seq ?_
                  refine c_region ?_
                  refine sq S ?_; clear S; intro a S
                  refine wl_nil ?_
                  refine xtn ?_
                  refine c_ret ?_
                  refine xbr ?_
                  refine xtr ?_
                  refine fin1 S (fun _ => ?_)
                  simp at *; first | (exfalso; omega) | simp [*, fieldsOf]
                · refine c_skip ?_
                  refine xbn ?_
                  refine xtn ?_
                  refine c_seq ?_
                  refine c_region ?_
                  refine sq S ?_; clear S; intro a S
                  refine wl_nil ?_
                  refine xtn ?_
                  refine c_ret ?_
                  refine fin1 S (fun _ => ?_)
                  simp at *; first | (exfalso; omega) | simp [*, fieldsOf]
instance {k : Int} {bs fs} : CallV Tryd.prog 139 [.int .i64 k] bs fs (.int .i64 (fieldsOf k)) := ⟨fun w _ => fields_c k w⟩

def hasF (f g : Int) : Bool := !decide (iand .i64 f g = 0)
theorem has_c (f g : Int) (w : World) : Ret Tryd.prog 141 [.int .i64 f, .int .i64 g] w (fun _ => False) fun v _ => v = .bool (hasF f g) := by
  refine enter Tryd.func141 rfl rfl (Wd.start w) (fun a S => ?_)
  simp only [Tryd.ntmps141, List.length_cons, List.length_nil, Nat.reduceAdd, Nat.reduceSub, List.replicate_succ, List.replicate_zero, List.cons_append, List.nil_append] at S
  refine c_seq ?_
  refine c_region ?_
  refine sq S ?_; clear S; intro a S
  refine wl_nil ?_
  refine xtn ?_
  refine c_seq ?_
  refine c_region ?_
  iterate 5 (refine sq S ?_; clear S; intro a S)
  refine wl_nil ?_
  refine xtn ?_
  refine c_ret ?_
  refine fin1 S (fun _ => ?_)
  rfl
instance {f g : Int} {bs fs} : CallV Tryd.prog 141 [.int .i64 f, .int .i64 g] bs fs (.bool (hasF f g)) := ⟨fun w _ => has_c f g w⟩

def kidsF (f : Int) : Int := if hasF f 16 then 2 else if hasF f 8 then 1 else 0
theorem kids_c (f : Int) (w : World) : Ret Tryd.prog 140 [.int .i64 f] w (fun _ => False) fun v _ => v = .int .i64 (kidsF f) := by
  refine enter Tryd.func140 rfl rfl (Wd.start w) (fun a S => ?_)
  simp only [Tryd.ntmps140, List.length_cons, List.length_nil, Nat.reduceAdd, Nat.reduceSub, List.replicate_succ, List.replicate_zero, List.cons_append, List.nil_append] at S
  refine c_seq ?_
  refine c_region ?_
  refine sq S ?_; clear S; intro a S
  refine wl_nil ?_
  refine xtn ?_
  refine c_seq ?_
  refine c_block ?_
  refine c_seq ?_
  refine c_region ?_
  refine sq S ?_; clear S; intro a S
  refine sc S ?_; clear S; intro a w S
  refine sq S ?_; clear S; intro a S
  refine wl_nil ?_
  refine xtn ?_
  refine c_cond S (fun h1 => ?_) (fun h1 => ?_)
  · refine c_seq ?_
    refine c_region ?_
    refine sq S ?_; clear S; intro a S
    refine wl_nil ?_
    refine xtn ?_
    refine c_ret ?_
    refine xbr ?_
    refine xtr ?_
    refine fin1 S (fun _ => ?_)
    simp [*, kidsF]
  · refine c_seq ?_
    refine c_region ?_
    refine sq S ?_; clear S; intro a S
    refine sc S ?_; clear S; intro a w S
    refine sq S ?_; clear S; intro a S
    refine wl_nil ?_
    refine xtn ?_
    refine c_cond S (fun h3 => ?_) (fun h3 => ?_)
    · refine c_seq ?_
      refine c_region ?_
      refine sq S ?_; clear S; intro a S
      refine wl_nil ?_
      refine xtn ?_
      refine c_ret ?_
      refine xbr ?_
      refine xtr ?_
      refine fin1 S (fun _ => ?_)
      simp [*, kidsF]
    · refine c_skip ?_
      refine xbn ?_
      refine xtn ?_
      refine c_seq ?_
      refine c_region ?_
      refine sq S ?_; clear S; intro a S
      refine wl_nil ?_
      refine xtn ?_
      refine c_ret ?_
      refine fin1 S (fun _ => ?_)
      simp [*, kidsF]
instance {f : Int} {bs fs} : CallV Tryd.prog 140 [.int .i64 f] bs fs (.int .i64 (kidsF f)) := ⟨fun w _ => kids_c f w⟩

def knownF (n : Int) : Bool := decide (1 ≤ n) && decide (n ≤ 6)
theorem known_c (n : Int) (w : World) : Ret Tryd.prog 142 [.int .i64 n] w (fun _ => False) fun v _ => v = .bool (knownF n) := by
  refine enter Tryd.func142 rfl rfl (Wd.start w) (fun a S => ?_)
  simp only [Tryd.ntmps142, List.length_cons, List.length_nil, Nat.reduceAdd, Nat.reduceSub, List.replicate_succ, List.replicate_zero, List.cons_append, List.nil_append] at S
  refine c_seq ?_
  refine c_region ?_
  refine sq S ?_; clear S; intro a S
  refine wl_nil ?_
  refine xtn ?_
  refine c_seq ?_
  refine c_region ?_
  iterate 3 (refine sq S ?_; clear S; intro a S)
  iterate 2 (refine gQ S ?_; clear S; intro a S)
  iterate 2 (refine sq S ?_; clear S; intro a S)
  refine wl_nil ?_
  refine xtn ?_
  refine c_ret ?_
  refine fin1 S (fun _ => ?_)
  rfl
instance {n : Int} {bs fs} : CallV Tryd.prog 142 [.int .i64 n] bs fs (.bool (knownF n)) := ⟨fun w _ => known_c n w⟩

def plainF (k u n : Int) (s : List UInt8) (m : Nat) : Bool :=
  let f := fieldsOf k
  !decide (f = 0) && decide ((m : Int) = kidsF f) && decide ((s.length : Int) ≤ 64) && (hasF f 1 || decide (s = [])) && (hasF f 2 && knownF u || !hasF f 2 && decide (u = 0)) && (hasF f 4 && decide (0 ≤ n) && decide (n ≤ 65535) || !hasF f 4 && decide (n = 0))
theorem plain_c (k u n : Int) (s : List UInt8) (p : Option Addr) (m c : Nat) (w : World) : Ret Tryd.prog 129 [.agg #[.int .i64 k, .int .i64 u, .int .i64 n, str s, .slice p m c]] w (fun _ => False) fun v _ => v = .bool (plainF k u n s m) := by
  refine enter Tryd.func129 rfl rfl (Wd.start w) (fun a S => ?_)
  simp only [Tryd.ntmps129, List.length_cons, List.length_nil, Nat.reduceAdd, Nat.reduceSub, List.replicate_succ, List.replicate_zero, List.cons_append, List.nil_append] at S
  refine c_seq ?_
  refine c_region ?_
  refine sa S ?_; clear S; intro b1 a w S
  refine sq S ?_; clear S; intro a S
  refine wl_nil ?_
  refine xtn ?_
  refine c_seq ?_
  refine c_region ?_
  iterate 2 (refine sq S ?_; clear S; intro a S)
  refine sc S ?_; clear S; intro a w S
  refine sq S ?_; clear S; intro a S
  refine wl_nil ?_
  refine xtn ?_
  refine c_seq ?_
  refine c_drawD [(0, true), (1, true), (2, true), (3, true), (4, true), (5, true), (6, true), (7, false), (8, true), (9, true), (10, true), (11, true), (12, true), (13, true), (14, true), (15, true), (16, true), (17, true), (18, false), (19, true), (20, true), (21, true), (22, true), (23, true), (24, true), (25, true)] [] S ?_; clear S; intro w S
  iterate 3 (refine dq S ?_; clear S; intro a S)
  iterate 4 (refine dqG S ?_; clear S; intro a S)
  refine dl ?_
  refine gC S ?_; clear S; intro a w S
  refine de S ?_
  refine dqG S ?_; clear S; intro a S
  iterate 2 (refine dq S ?_; clear S; intro a S)
  iterate 4 (refine dqG S ?_; clear S; intro a S)
  iterate 2 (refine dq S ?_; clear S; intro a S)
  refine dqG S ?_; clear S; intro a S
  refine dl ?_
  refine gC S ?_; clear S; intro a w S
  refine de S ?_
  iterate 5 (refine dqG S ?_; clear S; intro a S)
  iterate 2 (refine dq S ?_; clear S; intro a S)
  refine dn ?_
  refine xtn ?_
  refine c_seq ?_
  refine c_region ?_
  iterate 2 (refine sq S ?_; clear S; intro a S)
  refine gQ S ?_; clear S; intro a S
  refine gC S ?_; clear S; intro a w S
  iterate 3 (refine gQ S ?_; clear S; intro a S)
  refine gC S ?_; clear S; intro a w S
  iterate 3 (refine gQ S ?_; clear S; intro a S)
  refine gC S ?_; clear S; intro a w S
  iterate 7 (refine gQ S ?_; clear S; intro a S)
  iterate 2 (refine sq S ?_; clear S; intro a S)
  refine wl_nil ?_
  refine xtn ?_
  refine c_seq ?_
  refine c_region ?_
  iterate 2 (refine sq S ?_; clear S; intro a S)
  refine gQ S ?_; clear S; intro a S
  refine gC S ?_; clear S; intro a w S
  iterate 12 (refine gQ S ?_; clear S; intro a S)
  refine gC S ?_; clear S; intro a w S
  iterate 7 (refine gQ S ?_; clear S; intro a S)
  iterate 2 (refine sq S ?_; clear S; intro a S)
  refine wl_nil ?_
  refine xtn ?_
  refine c_ret ?_
  refine fin1 S (fun _ => ?_)
  first | rfl | simp [plainF]
instance {k u n : Int} {s : List UInt8} {p : Option Addr} {m c : Nat} {bs fs} : CallV Tryd.prog 129 [.agg #[.int .i64 k, .int .i64 u, .int .i64 n, str s, .slice p m c]] bs fs (.bool (plainF k u n s m)) := ⟨fun w _ => plain_c k u n s p m c w⟩
end Go.Proofs.YtieeoakdkbackaaDoor

/- Package term: a walk through a term; its size. -/
namespace Go.Proofs.YtieeoakdkbackaaDoor
open Go Go.Wk
set_option synthInstance.maxSize 100000
set_option synthInstance.maxHeartbeats 400000
set_option maxRecDepth 100000

mutual
def walkF : Term → Int → Int → Bool × Int
  | .mk k u n s kids, deep, left => if left - 1 < 0 ∨ 60 < deep ∨ plainF k u n s kids.length = false then (false, left - 1) else walkLF kids (deep + 1) (left - 1)
def walkLF : List Term → Int → Int → Bool × Int
  | [], _, left => (true, left)
  | t :: ts, deep, left => if (walkF t deep left).1 then walkLF ts deep (walkF t deep left).2 else (false, (walkF t deep left).2)
end

mutual
theorem walkF_le : ∀ (t : Term) (deep left : Int), (walkF t deep left).2 ≤ left
  | .mk k u n s kids, deep, left => by
    rw [walkF]; split
    · simp; omega
    · have := walkLF_le kids (deep + 1) (left - 1); omega
theorem walkLF_le : ∀ (ts : List Term) (deep left : Int), (walkLF ts deep left).2 ≤ left
  | [], deep, left => by simp [walkLF]
  | t :: ts, deep, left => by
    have h1 := walkF_le t deep left
    have h2 := walkLF_le ts deep (walkF t deep left).2
    rw [walkLF]; split
    · omega
    · exact h1
end
mutual
theorem walkF_ge : ∀ (t : Term) (deep left : Int), 0 ≤ left → (walkF t deep left).1 = true → 0 ≤ (walkF t deep left).2
  | .mk k u n s kids, deep, left => by
    intro h0 h
    rw [walkF] at h ⊢
    split at h
    · simp at h
    · rename_i hc
      rw [if_neg hc]
      exact walkLF_ge kids (deep + 1) (left - 1) (by omega) h
theorem walkLF_ge : ∀ (ts : List Term) (deep left : Int), 0 ≤ left → (walkLF ts deep left).1 = true → 0 ≤ (walkLF ts deep left).2
  | [], deep, left => by intro h0 _; simpa [walkLF] using h0
  | t :: ts, deep, left => by
    intro h0 h
    rw [walkLF] at h ⊢
    split at h
    · rename_i hc
      rw [if_pos hc]
      exact walkLF_ge ts deep _ (walkF_ge t deep left h0 hc) h
    · simp at h
end


theorem walk_c (N : Nat) : ∀ (t : LTerm) (deep left : Int) (b : Nat) (w0 : World), SizeOf.sizeOf t ≤ N → 0 ≤ deep → deep ≤ 61 → 0 ≤ left → left ≤ 1200 → Stable (fun k => k = b) w0 (LtF t) → w0.heap[b]? = some (.cells #[.int .i64 left] 3 (0, 0)) →
    Ret Tryd.prog 113 [vL t, .int .i64 deep, .pointer (some ⟨b, 0, none⟩)] w0 (fun k => k = b) fun v w' => v = .bool (walkF t.t deep left).1 ∧ w'.heap[b]? = some (.cells #[.int .i64 (walkF t.t deep left).2] 3 (0, 0)) := by
  induction N with
  | zero => intro t _ _ _ _ h; cases t; simp at h
  | succ N ih =>
  intro t deep left b w0 hN hd hd' hl hl' hf hb
  have e0 := t.t_eq
  refine enter Tryd.func113 rfl rfl (Wd.lent (fs := [LtF t]) hb (by simpa using hf)) (fun a S => ?_)
  simp only [Tryd.ntmps113, List.length_cons, List.length_nil, Nat.reduceAdd, Nat.reduceSub, List.replicate_succ, List.replicate_zero, List.cons_append, List.nil_append] at S
  refine c_seq ?_
  refine c_region ?_
  refine sa S ?_; clear S; intro b3 a w S
  refine sq S ?_; clear S; intro a S
  refine wl_nil ?_
  refine xtn ?_
  iterate 2 (refine c_seq ?_)
  refine c_region ?_
  iterate 4 (refine sq S ?_; clear S; intro a S)
  rw [w64 (left - 1) (by omega) (by omega)] at S
  refine sq S ?_; clear S; intro a S
  refine sw S ?_; clear S; intro a w S
  refine wl_nil ?_
  refine xtn ?_
  refine c_seq ?_
  refine c_region ?_
  iterate 5 (refine sq S ?_; clear S; intro a S)
  iterate 2 (refine gQ S ?_; clear S; intro a S)
  iterate 2 (refine sq S ?_; clear S; intro a S)
  refine gQ S ?_; clear S; intro a S
  refine gC S ?_; clear S; intro a w S
  refine gQ S ?_; clear S; intro a S
  refine sq S ?_; clear S; intro a S
  refine wl_nil ?_
  refine xtn ?_
  refine c_cond S (fun h2 => ?_) (fun h2 => ?_)
  · refine c_seq ?_
    refine c_region ?_
    refine sq S ?_; clear S; intro a S
    refine wl_nil ?_
    refine xtn ?_
    refine c_ret ?_
    refine xtr ?_
    have hbx := S.box b
    refine fin1 S (fun _ => ?_)
    have h3 : left - 1 < 0 ∨ 60 < deep ∨ plainF t.kind t.user t.num t.text t.kids.length = false := by simpa [or_assoc] using h2
    rw [e0, walkF, if_pos (by simpa using h3)]
    exact ⟨rfl, hbx⟩
  · refine c_skip ?_
    refine xtn ?_
    iterate 2 (refine c_seq ?_)
    refine c_region ?_
    iterate 4 (refine sq S ?_; clear S; intro a S)
    refine wl_nil ?_
    refine xtn ?_
    refine c_block ?_
    have h3 : ¬ (left - 1 < 0 ∨ 60 < deep ∨ plainF t.kind t.user t.num t.text t.kids.length = false) := by simpa [and_assoc] using h2
    have hlen := LTerm.len_le hf
    refine c_loop (ι := Nat) (fun k a w => k ≤ t.kids.length ∧ ∃ lf, 0 ≤ lf ∧ lf ≤ 1200 ∧ walkLF ((t.kids.drop k).map LTerm.t) (deep + 1) lf = walkF t.t deep left ∧ ∃ uu : Nat → Value,  St w0 (fun k => k = b) [] a w ((vL t) :: (.int .i64 deep) :: (.pointer (some ⟨b, 0, none⟩)) :: (.pointer (some ⟨b3, 0, none⟩)) :: uu 4 :: uu 5 :: (.bool false) :: uu 7 :: uu 8 :: uu 9 :: uu 10 :: uu 11 :: uu 12 :: uu 13 :: uu 14 :: uu 15 :: uu 16 :: uu 17 :: uu 18 :: uu 19 :: uu 20 :: uu 21 :: uu 22 :: uu 23 :: uu 24 :: uu 25 :: uu 26 :: uu 27 :: (.slice t.p t.kids.length t.cap) :: (.int .i64 t.kids.length) :: (.int .i64 (k : Nat)) :: uu 31 :: uu 32 :: uu 33 :: uu 34 :: uu 35 :: uu 36 :: uu 37 :: uu 38 :: uu 39 :: uu 40 :: []) [box b3 24 t.cells, box b 3 [.int .i64 lf]] [LtF t]) (fun k => t.kids.length - k) 0 ?_ ?_
    · refine ⟨Nat.zero_le _, left - 1, by omega, by omega, ?_, S.uu, S⟩
      rw [e0, walkF, if_neg (by simpa using h3)]; rfl
    · clear S
      rintro k a w ⟨hk, lf, hlf, hlf', hrel, uu, S⟩
      refine c_seq ?_
      refine c_region ?_
      refine sq S ?_; clear S; intro a S
      refine wl_nil ?_
      refine xtn ?_
      refine c_seq ?_
      refine c_cond S (fun h5 => ?_) (fun h5 => ?_)
      · refine c_skip ?_
        refine xtn ?_
        refine c_seq ?_
        refine c_block ?_
        refine c_seq ?_
        refine c_region ?_
        have hkl : k < t.kids.length := by simpa using h5
        obtain ⟨x, ad, hx, hm, hp, hcell, hfx⟩ := LTerm.kid (S.fact (Φ := LtF t) (by simp)) hkl
        replace S := S.add hfx
        refine si S ad hp (by omega) (by omega) ?_; clear S; intro a S
        refine slA x.cells S hcell ?_; clear S; intro a S
        refine sa S ?_; clear S; intro b8 a w S
        refine sw S ?_; clear S; intro a w S
        refine wl_nil ?_
        refine xtn ?_
        refine c_seq ?_
        refine c_region ?_
        iterate 3 (refine sq S ?_; clear S; intro a S)
        rw [w64 (deep + 1) (by omega) (by omega)] at S
        refine sq S ?_; clear S; intro a S
        have hdr : t.kids.drop k = x :: t.kids.drop (k + 1) := by
          rw [List.drop_eq_getElem_cons hkl]; congr 1
          exact (List.getElem?_eq_some_iff.1 hx).2
        rw [hdr, List.map_cons, walkLF] at hrel
        have hb1 := walkF_le x.t (deep + 1) lf
        refine sb S (b := b) (ih x (deep + 1) lf b w (by have := LTerm.kid_lt hm; omega) (by omega) (by have : ¬ 60 < deep := fun h => h3 (.inr (.inl h)); omega) hlf hlf' (S.fb b (by simp)) (S.box b)) ?_; clear S
        rintro v a w ⟨rfl, hcb⟩ hS
        have S := hS [.int .i64 _] _ inferInstance hcb
        clear hS
        refine sq S ?_; clear S; intro a S
        refine wl_nil ?_
        refine xtn ?_
        refine c_cond S (fun h7 => ?_) (fun h7 => ?_)
        · refine c_seq ?_
          refine c_region ?_
          refine sq S ?_; clear S; intro a S
          refine wl_nil ?_
          refine xtn ?_
          refine c_ret ?_
          refine xbr ?_
          iterate 2 (refine xtr ?_)
          refine xbr ?_
          refine xtr ?_
          have hbx := S.box b
          refine fin1 S (fun _ => ?_)
          have h8 : (walkF x.t (deep + 1) lf).1 = false := by simpa using h7
          rw [if_neg (by simp [h8])] at hrel
          rw [← hrel]
          exact ⟨rfl, hbx⟩
        · refine c_skip ?_
          refine xbn ?_
          refine xtn ?_
          refine c_region ?_
          iterate 2 (refine sq S ?_; clear S; intro a S)
          refine wl_nil ?_
          refine xtn ?_
          have h8 : (walkF x.t (deep + 1) lf).1 = true := by simpa using h7
          rw [if_pos h8] at hrel
          replace S := S.sub [box b3 24 t.cells, box b 3 [.int .i64 (walkF x.t (deep + 1) lf).2]] [LtF t]
          rw [w64 ((k : Int) + 1) (by omega) (by omega)] at S
          exact ⟨k + 1, ⟨hkl, _, walkF_ge x.t (deep + 1) lf hlf h8, by omega, hrel, S.uu, S⟩, by omega⟩
      · refine c_exit ?_
        iterate 2 (refine xte ?_)
        refine xbe ?_
        refine xtn ?_
        refine c_seq ?_
        refine c_region ?_
        refine sq S ?_; clear S; intro a S
        refine wl_nil ?_
        refine xtn ?_
        refine c_ret ?_
        have hbx := S.box b
        refine fin1 S (fun _ => ?_)
        have h6 : t.kids.length ≤ k := by simpa using h5
        rw [List.drop_of_length_le h6, List.map_nil, walkLF] at hrel
        rw [← hrel]
        exact ⟨rfl, hbx⟩
end Go.Proofs.YtieeoakdkbackaaDoor

/- Package term: size, Check, Size; the makers of terms. -/
namespace Go.Proofs.YtieeoakdkbackaaDoor
open Go Go.Wk
set_option synthInstance.maxSize 100000
set_option synthInstance.maxHeartbeats 400000
set_option maxRecDepth 100000

def sizeF (t : Term) : Int := if (walkF t 1 1200).1 then 1200 - (walkF t 1 1200).2 else 0
theorem size_c (t : LTerm) (w0 : World) (hf : Stable (fun _ => False) w0 (LtF t)) : Ret Tryd.prog 82 [vL t] w0 (fun _ => False) fun v _ => v = .int .i64 (sizeF t.t) := by
  have h1 := walkF_le t.t 1 1200
  refine enter Tryd.func82 rfl rfl (Wd.begin (fs := [LtF t]) (by simpa using hf)) (fun a S => ?_)
  simp only [Tryd.ntmps82, List.length_cons, List.length_nil, Nat.reduceAdd, Nat.reduceSub, List.replicate_succ, List.replicate_zero, List.cons_append, List.nil_append] at S
  refine c_seq ?_
  refine c_region ?_
  refine sa S ?_; clear S; intro b1 a w S
  refine sq S ?_; clear S; intro a S
  refine wl_nil ?_
  refine xtn ?_
  refine c_seq ?_
  refine c_region ?_
  refine sa S ?_; clear S; intro b3 a w S
  refine sw S ?_; clear S; intro a w S
  refine wl_nil ?_
  refine xtn ?_
  iterate 2 (refine c_seq ?_)
  refine c_region ?_
  refine sq S ?_; clear S; intro a S
  refine sb S (b := b3) (walk_c _ t 1 1200 b3 w (Nat.le_refl _) (by omega) (by omega) (by omega) (by omega) (S.fb b3 (by simp)) (S.box b3)) ?_; clear S
  rintro v a w ⟨rfl, hcb⟩ hS
  have S := hS [.int .i64 _] _ inferInstance hcb
  clear hS
  refine sq S ?_; clear S; intro a S
  refine wl_nil ?_
  refine xtn ?_
  refine c_cond S (fun h2 => ?_) (fun h2 => ?_)
  · refine c_seq ?_
    refine c_region ?_
    refine sq S ?_; clear S; intro a S
    refine wl_nil ?_
    refine xtn ?_
    refine c_ret ?_
    refine xtr ?_
    refine end1 S (fun _ => ?_)
    have h3 : (walkF t.t 1 1200).1 = false := by simpa using h2
    simp [sizeF, h3]
  · refine c_skip ?_
    refine xtn ?_
    refine c_seq ?_
    refine c_region ?_
    refine sq S ?_; clear S; intro a S
    have h3 : (walkF t.t 1 1200).1 = true := by simpa using h2
    have h4 := walkF_ge t.t 1 1200 (by omega) h3
    refine sq S ?_; clear S; intro a S
    rw [w64 (1200 - (walkF t.t 1 1200).2) (by omega) (by omega)] at S
    refine sq S ?_; clear S; intro a S
    refine wl_nil ?_
    refine xtn ?_
    refine c_ret ?_
    refine end1 S (fun _ => ?_)
    simp [sizeF, h3]
instance {t : LTerm} {bs fs} [HasT fs t] : CallV Tryd.prog 82 [vL t] bs fs (.int .i64 (sizeF t.t)) := ⟨fun w m => size_c t w (m.t0 _)⟩

def checkF (t : Term) : Int := if sizeF t = 0 then 150 else 0
theorem check_c (t : LTerm) (w0 : World) (hf : Stable (fun _ => False) w0 (LtF t)) : Ret Tryd.prog 40 [vL t] w0 (fun _ => False) fun v _ => v = .int .i64 (checkF t.t) := by
  refine enter Tryd.func40 rfl rfl (Wd.begin (fs := [LtF t]) (by simpa using hf)) (fun a S => ?_)
  simp only [Tryd.ntmps40, List.length_cons, List.length_nil, Nat.reduceAdd, Nat.reduceSub, List.replicate_succ, List.replicate_zero, List.cons_append, List.nil_append] at S
  refine c_seq ?_
  refine c_region ?_
  refine sa S ?_; clear S; intro b1 a w S
  refine sq S ?_; clear S; intro a S
  refine wl_nil ?_
  refine xtn ?_
  iterate 2 (refine c_seq ?_)
  refine c_region ?_
  refine sq S ?_; clear S; intro a S
  refine sc S ?_; clear S; intro a w S
  refine sq S ?_; clear S; intro a S
  refine wl_nil ?_
  refine xtn ?_
  refine c_cond S (fun h1 => ?_) (fun h1 => ?_)
  · refine c_seq ?_
    refine c_region ?_
    refine sq S ?_; clear S; intro a S
    refine wl_nil ?_
    refine xtn ?_
    refine c_ret ?_
    refine xtr ?_
    refine end1 S (fun _ => ?_)
    simp at h1
    simp [checkF, h1]
  · refine c_skip ?_
    refine xtn ?_
    refine c_seq ?_
    refine c_region ?_
    refine sq S ?_; clear S; intro a S
    refine wl_nil ?_
    refine xtn ?_
    refine c_ret ?_
    refine end1 S (fun _ => ?_)
    simp at h1
    simp [checkF, h1]
instance {t : LTerm} {bs fs} [HasT fs t] : CallV Tryd.prog 40 [vL t] bs fs (.int .i64 (checkF t.t)) := ⟨fun w m => check_c t w (m.t0 _)⟩

theorem text_c (s : List UInt8) (w0 : World) : Ret Tryd.prog 42 [str s] w0 (fun _ => False) fun v _ => v = vL (.mk 1 0 0 s none 0 []) := by
  refine enter Tryd.func42 rfl rfl (Wd.start w0) (fun a S => ?_)
  simp only [Tryd.ntmps42, List.length_cons, List.length_nil, Nat.reduceAdd, Nat.reduceSub, List.replicate_succ, List.replicate_zero, List.cons_append, List.nil_append] at S
  refine c_seq ?_
  refine c_region ?_
  refine sa S ?_; clear S; intro b2 a w S
  refine wl_nil ?_
  refine xtn ?_
  refine c_seq ?_
  refine c_region ?_
  iterate 2 (refine sq S ?_; clear S; intro a S)
  refine sw S ?_; clear S; intro a w S
  refine wl_nil ?_
  refine xtn ?_
  refine c_ret ?_
  refine end1 S (fun _ => ?_)
  rfl
instance {s : List UInt8} {bs fs} : CallV Tryd.prog 42 [str s] bs fs (vL (textL s)) := ⟨fun w _ => text_c s w⟩
theorem fresh_c (u n : Int) (w0 : World) : Ret Tryd.prog 33 [.int .i64 u, .int .i64 n] w0 (fun _ => False) fun v _ => v = vL (.mk 2 u n [] none 0 []) := by
  refine enter Tryd.func33 rfl rfl (Wd.start w0) (fun a S => ?_)
  simp only [Tryd.ntmps33, List.length_cons, List.length_nil, Nat.reduceAdd, Nat.reduceSub, List.replicate_succ, List.replicate_zero, List.cons_append, List.nil_append] at S
  refine c_seq ?_
  refine c_region ?_
  refine sa S ?_; clear S; intro b4 a w S
  refine wl_nil ?_
  refine xtn ?_
  refine c_seq ?_
  refine c_region ?_
  iterate 3 (refine sq S ?_; clear S; intro a S)
  refine sw S ?_; clear S; intro a w S
  refine wl_nil ?_
  refine xtn ?_
  refine c_ret ?_
  refine end1 S (fun _ => ?_)
  rfl
instance {u n : Int} {bs fs} : CallV Tryd.prog 33 [.int .i64 u, .int .i64 n] bs fs (vL (freshL u n)) := ⟨fun w _ => fresh_c u n w⟩
theorem of_c (k : Int) (p : Option Addr) (n c : Nat) (w0 : World) : Ret Tryd.prog 84 [.int .i64 k, .slice p n c] w0 (fun _ => False) fun v _ => v = .agg #[.int .i64 k, .int .i64 0, .int .i64 0, str [], .slice p n c] := by
  refine enter Tryd.func84 rfl rfl (Wd.start w0) (fun a S => ?_)
  simp only [Tryd.ntmps84, List.length_cons, List.length_nil, Nat.reduceAdd, Nat.reduceSub, List.replicate_succ, List.replicate_zero, List.cons_append, List.nil_append] at S
  refine c_seq ?_
  refine c_region ?_
  refine sa S ?_; clear S; intro b4 a w S
  refine wl_nil ?_
  refine xtn ?_
  refine c_seq ?_
  refine c_region ?_
  iterate 3 (refine sq S ?_; clear S; intro a S)
  refine sw S ?_; clear S; intro a w S
  refine wl_nil ?_
  refine xtn ?_
  refine c_ret ?_
  refine end1 S (fun _ => ?_)
  rfl
instance {k : Int} {p : Option Addr} {n c : Nat} {bs fs} : CallV Tryd.prog 84 [.int .i64 k, .slice p n c] bs fs (.agg #[.int .i64 k, .int .i64 0, .int .i64 0, str [], .slice p n c]) := ⟨fun w _ => of_c k p n c w⟩
theorem hash_c (t : LTerm) (M : Nat → Prop) (w0 : World) (hM : ∀ k, M k → k < w0.heap.size) (hf : Stable M w0 (LtF t)) : Ret Tryd.prog 125 [vL t] w0 (fun _ => False) fun v w' => IsT M w' v (.hash t.t) := by
  refine enter Tryd.func125 rfl rfl (Wd.beginM (M := M) (fs := [LtF t]) hM (by simpa using hf)) (fun a S => ?_)
  simp only [Tryd.ntmps125, List.length_cons, List.length_nil, Nat.reduceAdd, Nat.reduceSub, List.replicate_succ, List.replicate_zero, List.cons_append, List.nil_append] at S
  refine c_seq ?_
  refine c_region ?_
  refine sa S ?_; clear S; intro b1 a w S
  refine sa S ?_; clear S; intro b2 a w S
  refine wl_nil ?_
  refine xtn ?_
  refine c_seq ?_
  refine c_region ?_
  refine sq S ?_; clear S; intro a S
  refine sn S ?_; clear S; intro b4 a w S
  refine sc S ?_; clear S; intro a w S
  refine sw S ?_; clear S; intro a w S
  refine wl_nil ?_
  refine xtn ?_
  refine c_ret ?_
  refine end1 S (fun _ => ?_)
  refine ⟨hashL (some ⟨b4, 0, none⟩) t, rfl, rfl, fun w' hw' => ?_⟩
  have h1 := S.laterFact (Φ := LtF t) (by simp) w' hw'
  exact ⟨by simp, by simp [maxLen], LsIn.of_block [t] (S.laterBox hw' b4) (fun x hx => by obtain rfl := List.mem_singleton.1 hx; exact h1)⟩
theorem pair_c (x y : LTerm) (M : Nat → Prop) (w0 : World) (hM : ∀ k, M k → k < w0.heap.size) (hx : Stable M w0 (LtF x)) (hy : Stable M w0 (LtF y)) : Ret Tryd.prog 72 [vL x, vL y] w0 (fun _ => False) fun v w' => IsT M w' v (.pair x.t y.t) := by
  refine enter Tryd.func72 rfl rfl (Wd.beginM (M := M) (fs := [LtF x, LtF y]) hM (by simp; exact ⟨hx, hy⟩)) (fun a S => ?_)
  simp only [Tryd.ntmps72, List.length_cons, List.length_nil, Nat.reduceAdd, Nat.reduceSub, List.replicate_succ, List.replicate_zero, List.cons_append, List.nil_append] at S
  refine c_seq ?_
  refine c_region ?_
  refine sa S ?_; clear S; intro b2 a w S
  refine sa S ?_; clear S; intro b3 a w S
  refine sa S ?_; clear S; intro b4 a w S
  refine wl_nil ?_
  refine xtn ?_
  refine c_seq ?_
  refine c_region ?_
  iterate 2 (refine sq S ?_; clear S; intro a S)
  refine sn S ?_; clear S; intro b7 a w S
  refine sc S ?_; clear S; intro a w S
  refine sw S ?_; clear S; intro a w S
  refine wl_nil ?_
  refine xtn ?_
  refine c_ret ?_
  refine end1 S (fun _ => ?_)
  refine ⟨pairL (some ⟨b7, 0, none⟩) x y, rfl, rfl, fun w' hw' => ?_⟩
  have h1 := S.laterFact (Φ := LtF x) (by simp) w' hw'
  have h2 := S.laterFact (Φ := LtF y) (by simp) w' hw'
  exact ⟨by simp, by simp [maxLen], LsIn.of_block [x, y] (S.laterBox hw' b7) (by simpa using ⟨h1, h2⟩)⟩
end Go.Proofs.YtieeoakdkbackaaDoor

/- Package term: Same. -/
namespace Go.Proofs.YtieeoakdkbackaaDoor
open Go Go.Wk
set_option synthInstance.maxSize 100000
set_option synthInstance.maxHeartbeats 400000
set_option maxRecDepth 100000

mutual
def sameF : Term → Term → Bool
  | .mk k u n s ks, .mk k' u' n' s' ks' => decide (k = k') && decide (u = u') && decide (n = n') && decide (s = s') && sameLF ks ks'
def sameLF : List Term → List Term → Bool
  | [], [] => true
  | a :: l, b :: m => sameF a b && sameLF l m
  | [], _ :: _ => false
  | _ :: _, [] => false
end
mutual
theorem sameF_iff : ∀ a b : Term, sameF a b = true ↔ a = b
  | .mk k u n s ks, .mk k' u' n' s' ks' => by
    have := sameLF_iff ks ks'
    simp [sameF, this, and_assoc]
theorem sameLF_iff : ∀ a b : List Term, sameLF a b = true ↔ a = b
  | [], [] => by simp [sameLF]
  | a :: l, b :: m => by
    have h1 := sameF_iff a b
    have h2 := sameLF_iff l m
    simp [sameLF, h1, h2]
  | [], _ :: _ => by simp [sameLF]
  | _ :: _, [] => by simp [sameLF]
end
theorem sameLF_len {a b : List Term} (h : a.length ≠ b.length) : sameLF a b = false := by
  cases hs : sameLF a b with
  | false => rfl
  | true => exact absurd (by rw [(sameLF_iff a b).1 hs]) h


def SameC (N : Nat) : Prop := ∀ (x y : LTerm) (w : World), SizeOf.sizeOf x ≤ N → Stable (fun _ => False) w (LtF x) → Stable (fun _ => False) w (LtF y) → Ret Tryd.prog 36 [vL x, vL y] w (fun _ => False) fun v _ => v = .bool (sameF x.t y.t)

theorem equal_c (N : Nat) (hS : SameC N) (p q : Option Addr) (c e n m : Nat) (xs ys : List LTerm) (hn : xs.length = n) (hm : ys.length = m) (w0 : World) (hl : n ≤ 9223372036854775807) (hN : ∀ x ∈ xs, SizeOf.sizeOf x ≤ N) (hx : Stable (fun _ => False) w0 (LsF p 0 xs)) (hy : Stable (fun _ => False) w0 (LsF q 0 ys)) :
    Ret Tryd.prog 81 [.slice p n c, .slice q m e, .func (.func 36) #[] #[]] w0 (fun _ => False) fun v _ => v = .bool (sameLF (xs.map LTerm.t) (ys.map LTerm.t)) := by
  refine enter Tryd.func81 rfl rfl (Wd.begin (fs := [LsF p 0 xs, LsF q 0 ys]) (by simp; exact ⟨hx, hy⟩)) (fun a S => ?_)
  simp only [Tryd.ntmps81, List.length_cons, List.length_nil, Nat.reduceAdd, Nat.reduceSub, List.replicate_succ, List.replicate_zero, List.cons_append, List.nil_append] at S
  refine c_seq ?_
  refine c_region ?_
  refine sq S ?_; clear S; intro a S
  refine wl_nil ?_
  refine xtn ?_
  iterate 2 (refine c_seq ?_)
  refine c_region ?_
  iterate 5 (refine sq S ?_; clear S; intro a S)
  refine wl_nil ?_
  refine xtn ?_
  refine c_cond S (fun h1 => ?_) (fun h1 => ?_)
  · refine c_seq ?_
    refine c_region ?_
    refine sq S ?_; clear S; intro a S
    refine wl_nil ?_
    refine xtn ?_
    refine c_ret ?_
    refine xtr ?_
    refine end1 S (fun _ => ?_)
    rw [sameLF_len]
    simp [hn, hm]; simp at h1; omega
  · refine c_skip ?_
    refine xtn ?_
    iterate 2 (refine c_seq ?_)
    refine c_region ?_
    iterate 3 (refine sq S ?_; clear S; intro a S)
    refine wl_nil ?_
    refine xtn ?_
    refine c_block ?_
    obtain rfl : n = m := by simp at h1; omega
    refine c_loop (ι := Nat) (fun k a w => k ≤ n ∧ sameLF ((xs.drop k).map LTerm.t) ((ys.drop k).map LTerm.t) = sameLF (xs.map LTerm.t) (ys.map LTerm.t) ∧ ∃ uu : Nat → Value,  St w0 (fun _ => False) [] a w ((.slice p n c) :: (.slice q n e) :: (.func (.func 36) #[] #[]) :: uu 3 :: uu 4 :: uu 5 :: (.bool false) :: uu 7 :: uu 8 :: uu 9 :: uu 10 :: uu 11 :: uu 12 :: uu 13 :: uu 14 :: (.slice p n c) :: (.int .i64 n) :: (.int .i64 (k : Nat)) :: uu 18 :: uu 19 :: uu 20 :: uu 21 :: uu 22 :: uu 23 :: uu 24 :: uu 25 :: uu 26 :: uu 27 :: uu 28 :: uu 29 :: uu 30 :: uu 31 :: []) [] [LsF p 0 xs, LsF q 0 ys]) (fun k => n - k) 0 ?_ ?_
    · exact ⟨Nat.zero_le _, rfl, S.uu, S⟩
    · clear S
      rintro k a w ⟨hk, hrel, uu, S⟩
      refine c_seq ?_
      refine c_region ?_
      refine sq S ?_; clear S; intro a S
      refine wl_nil ?_
      refine xtn ?_
      refine c_seq ?_
      refine c_cond S (fun h4 => ?_) (fun h4 => ?_)
      · refine c_skip ?_
        refine xtn ?_
        refine c_seq ?_
        refine c_block ?_
        refine c_seq ?_
        refine c_region ?_
        refine sq S ?_; clear S; intro a S
        have hkl : k < n := by simpa using h4
        obtain ⟨x, ad, hx1, hxm, hxd, hp, hcell, hfx⟩ := ls_kid (S.fact (Φ := LsF p 0 xs) (by simp)) (k := k) (by omega)
        replace S := S.add hfx
        refine si S ad hp (by omega) (by omega) ?_; clear S; intro a S
        refine slA x.cells S hcell ?_; clear S; intro a S
        refine sa S ?_; clear S; intro b8 a w S
        refine sq S ?_; clear S; intro a S
        refine sw S ?_; clear S; intro a w S
        refine wl_nil ?_
        refine xtn ?_
        refine c_seq ?_
        refine c_region ?_
        iterate 2 (refine sq S ?_; clear S; intro a S)
        obtain ⟨y, ad', hy1, hym, hyd, hq, hcell', hfy⟩ := ls_kid (S.fact (Φ := LsF q 0 ys) (by simp)) (k := k) (by omega)
        replace S := S.add hfy
        refine si S ad' hq (by omega) (by omega) ?_; clear S; intro a S
        refine slA y.cells S hcell' ?_; clear S; intro a S
        refine sa S ?_; clear S; intro b9 a w S
        refine sw S ?_; clear S; intro a w S
        refine wl_nil ?_
        refine xtn ?_
        refine c_seq ?_
        refine c_region ?_
        iterate 3 (refine sq S ?_; clear S; intro a S)
        rw [hxd, hyd, List.map_cons, List.map_cons, sameLF] at hrel
        refine sr S (hS x y w (hN x hxm) (S.mem.fact0 (LtF x)) (S.mem.fact0 (LtF y))) ?_; clear S; rintro v a w rfl S
        refine sq S ?_; clear S; intro a S
        refine wl_nil ?_
        refine xtn ?_
        refine c_cond S (fun h7 => ?_) (fun h7 => ?_)
        · refine c_seq ?_
          refine c_region ?_
          refine sq S ?_; clear S; intro a S
          refine wl_nil ?_
          refine xtn ?_
          refine c_ret ?_
          refine xbr ?_
          iterate 2 (refine xtr ?_)
          refine xbr ?_
          refine xtr ?_
          refine end1 S (fun _ => ?_)
          have h8 : sameF x.t y.t = false := by simpa using h7
          simp [← hrel, h8]
        · refine c_skip ?_
          refine xbn ?_
          refine xtn ?_
          refine c_region ?_
          iterate 2 (refine sq S ?_; clear S; intro a S)
          refine wl_nil ?_
          refine xtn ?_
          have h8 : sameF x.t y.t = true := by simpa using h7
          rw [h8, Bool.true_and] at hrel
          replace S := S.sub [] [LsF p 0 xs, LsF q 0 ys]
          rw [w64 ((k : Int) + 1) (by omega) (by omega)] at S
          exact ⟨k + 1, ⟨hkl, hrel, S.uu, S⟩, by omega⟩
      · refine c_exit ?_
        iterate 2 (refine xte ?_)
        refine xbe ?_
        refine xtn ?_
        refine c_seq ?_
        refine c_region ?_
        refine sq S ?_; clear S; intro a S
        refine wl_nil ?_
        refine xtn ?_
        refine c_ret ?_
        refine end1 S (fun _ => ?_)
        have h6 : n ≤ k := by simpa using h4
        rw [List.drop_of_length_le (by omega), List.drop_of_length_le (by omega)] at hrel
        simp [← hrel, sameLF]

theorem same_all : ∀ N, SameC N := by
  intro N
  induction N with
  | zero => intro x y w h; cases x; simp at h
  | succ N ih =>
  intro x y w0 hN hx hy
  have e1 := x.t_eq
  have e2 := y.t_eq
  have hq : ∀ {bs fs} [HasT fs x] [HasT fs y], CallV Tryd.prog 81 [.slice x.p x.kids.length x.cap, .slice y.p y.kids.length y.cap, .func (.func 36) #[] #[]] bs fs (.bool (sameLF (x.kids.map LTerm.t) (y.kids.map LTerm.t))) :=
    ⟨fun w m => equal_c N ih x.p y.p x.cap y.cap _ _ x.kids y.kids rfl rfl w (LTerm.len_le hx) (fun z hz => by have := LTerm.kid_lt hz; omega) (ls_of_lt (m.t0 _)) (ls_of_lt (m.t0 _))⟩
  refine enter Tryd.func36 rfl rfl (Wd.begin (fs := [LtF x, LtF y]) (by simp; exact ⟨hx, hy⟩)) (fun a S => ?_)
  simp only [Tryd.ntmps36, List.length_cons, List.length_nil, Nat.reduceAdd, Nat.reduceSub, List.replicate_succ, List.replicate_zero, List.cons_append, List.nil_append] at S
  refine c_seq ?_
  refine c_region ?_
  refine sa S ?_; clear S; intro b2 a w S
  refine sa S ?_; clear S; intro b3 a w S
  refine sq S ?_; clear S; intro a S
  refine wl_nil ?_
  refine xtn ?_
  refine c_seq ?_
  refine c_region ?_
  iterate 6 (refine sq S ?_; clear S; intro a S)
  iterate 5 (refine gQ S ?_; clear S; intro a S)
  iterate 2 (refine sq S ?_; clear S; intro a S)
  iterate 5 (refine gQ S ?_; clear S; intro a S)
  iterate 2 (refine sq S ?_; clear S; intro a S)
  iterate 5 (refine gQ S ?_; clear S; intro a S)
  iterate 2 (refine sq S ?_; clear S; intro a S)
  iterate 4 (refine gQ S ?_; clear S; intro a S)
  refine gC S ?_; clear S; intro a w S
  iterate 2 (refine sq S ?_; clear S; intro a S)
  refine wl_nil ?_
  refine xtn ?_
  refine c_ret ?_
  refine end1 S (fun _ => ?_)
  rw [e1, e2, sameF]
theorem same_c (x y : LTerm) (w : World) (hx : Stable (fun _ => False) w (LtF x)) (hy : Stable (fun _ => False) w (LtF y)) : Ret Tryd.prog 36 [vL x, vL y] w (fun _ => False) fun v _ => v = .bool (sameF x.t y.t) := same_all _ x y w (Nat.le_refl _) hx hy
instance {x y : LTerm} {bs fs} [HasT fs x] [HasT fs y] : CallV Tryd.prog 36 [vL x, vL y] bs fs (.bool (sameF x.t y.t)) := ⟨fun w m => same_c x y w (m.t0 _) (m.t0 _)⟩
end Go.Proofs.YtieeoakdkbackaaDoor

/- Package safehouseref05: what its functions compute. -/
namespace Go.Proofs.YtieeoakdkbackaaDoor
open Go Go.Wk
set_option synthInstance.maxSize 100000
set_option synthInstance.maxHeartbeats 400000
set_option maxRecDepth 100000

def rKids (k : Int) : Int := if k < 1 ∨ 8 < k then -1 else if k ≤ 3 then 0 else if k = 4 ∨ k = 6 then 2 else 1
theorem rkids_c (k : Int) (w : World) : Ret Tryd.prog 118 [.int .i64 k] w (fun _ => False) fun v _ => v = .int .i64 (rKids k) := by
  refine enter Tryd.func118 rfl rfl (Wd.start w) (fun a S => ?_)
  simp only [Tryd.ntmps118, List.length_cons, List.length_nil, Nat.reduceAdd, Nat.reduceSub, List.replicate_succ, List.replicate_zero, List.cons_append, List.nil_append] at S
  refine c_seq ?_
  refine c_region ?_
  refine sq S ?_; clear S; intro a S
  refine wl_nil ?_
  refine xtn ?_
  iterate 2 (refine c_seq ?_)
  refine c_region ?_
  iterate 3 (refine sq S ?_; clear S; intro a S)
  iterate 2 (refine gQ S ?_; clear S; intro a S)
  refine sq S ?_; clear S; intro a S
  refine wl_nil ?_
  refine xtn ?_
  refine c_cond S (fun h1 => ?_) (fun h1 => ?_)
  · refine c_seq ?_
    refine c_region ?_
    refine sq S ?_; clear S; intro a S
    refine wl_nil ?_
    refine xtn ?_
    refine c_ret ?_
    refine xtr ?_
    refine end1 S (fun _ => ?_)
    clear S; congr 1; unfold rKids; simp at *
    (repeat' split) <;> omega
  · refine c_skip ?_
    refine xtn ?_
    iterate 2 (refine c_seq ?_)
    refine c_region ?_
    iterate 2 (refine sq S ?_; clear S; intro a S)
    refine wl_nil ?_
    refine xtn ?_
    refine c_cond S (fun h3 => ?_) (fun h3 => ?_)
    · refine c_seq ?_
      refine c_region ?_
      refine sq S ?_; clear S; intro a S
      refine wl_nil ?_
      refine xtn ?_
      refine c_ret ?_
      refine xtr ?_
      refine end1 S (fun _ => ?_)
      clear S; congr 1; unfold rKids; simp at *
      (repeat' split) <;> omega
    · refine c_skip ?_
      refine xtn ?_
      iterate 2 (refine c_seq ?_)
      refine c_region ?_
      iterate 3 (refine sq S ?_; clear S; intro a S)
      iterate 2 (refine gQ S ?_; clear S; intro a S)
      refine sq S ?_; clear S; intro a S
      refine wl_nil ?_
      refine xtn ?_
      refine c_cond S (fun h5 => ?_) (fun h5 => ?_)
      · refine c_seq ?_
        refine c_region ?_
        refine sq S ?_; clear S; intro a S
        refine wl_nil ?_
        refine xtn ?_
        refine c_ret ?_
        refine xtr ?_
        refine end1 S (fun _ => ?_)
        clear S; congr 1; unfold rKids; simp at *
        (repeat' split) <;> omega
      · refine c_skip ?_
        refine xtn ?_
        refine c_seq ?_
        refine c_region ?_
        refine sq S ?_; clear S; intro a S
        refine wl_nil ?_
        refine xtn ?_
        refine c_ret ?_
        refine end1 S (fun _ => ?_)
        clear S; congr 1; unfold rKids; simp at *
        (repeat' split) <;> omega
instance {k : Int} {bs fs} : CallV Tryd.prog 118 [.int .i64 k] bs fs (.int .i64 (rKids k)) := ⟨fun w _ => rkids_c k w⟩
def rUser (k : Int) : Bool := decide (k = 2) || decide (k = 3) || decide (k = 7) || decide (k = 8)
theorem ruser_c (k : Int) (w : World) : Ret Tryd.prog 119 [.int .i64 k] w (fun _ => False) fun v _ => v = .bool (rUser k) := by
  refine enter Tryd.func119 rfl rfl (Wd.start w) (fun a S => ?_)
  simp only [Tryd.ntmps119, List.length_cons, List.length_nil, Nat.reduceAdd, Nat.reduceSub, List.replicate_succ, List.replicate_zero, List.cons_append, List.nil_append] at S
  refine c_seq ?_
  refine c_region ?_
  refine sq S ?_; clear S; intro a S
  refine wl_nil ?_
  refine xtn ?_
  refine c_seq ?_
  refine c_region ?_
  iterate 3 (refine sq S ?_; clear S; intro a S)
  iterate 2 (refine gQ S ?_; clear S; intro a S)
  iterate 2 (refine sq S ?_; clear S; intro a S)
  iterate 2 (refine gQ S ?_; clear S; intro a S)
  iterate 2 (refine sq S ?_; clear S; intro a S)
  iterate 2 (refine gQ S ?_; clear S; intro a S)
  iterate 2 (refine sq S ?_; clear S; intro a S)
  refine wl_nil ?_
  refine xtn ?_
  refine c_ret ?_
  refine end1 S (fun _ => ?_)
  rfl
instance {k : Int} {bs fs} : CallV Tryd.prog 119 [.int .i64 k] bs fs (.bool (rUser k)) := ⟨fun w _ => ruser_c k w⟩
def rNum (k : Int) : Bool := decide (k = 2) || decide (k = 8)
theorem rnum_c (k : Int) (w : World) : Ret Tryd.prog 120 [.int .i64 k] w (fun _ => False) fun v _ => v = .bool (rNum k) := by
  refine enter Tryd.func120 rfl rfl (Wd.start w) (fun a S => ?_)
  simp only [Tryd.ntmps120, List.length_cons, List.length_nil, Nat.reduceAdd, Nat.reduceSub, List.replicate_succ, List.replicate_zero, List.cons_append, List.nil_append] at S
  refine c_seq ?_
  refine c_region ?_
  refine sq S ?_; clear S; intro a S
  refine wl_nil ?_
  refine xtn ?_
  refine c_seq ?_
  refine c_region ?_
  iterate 3 (refine sq S ?_; clear S; intro a S)
  iterate 2 (refine gQ S ?_; clear S; intro a S)
  iterate 2 (refine sq S ?_; clear S; intro a S)
  refine wl_nil ?_
  refine xtn ?_
  refine c_ret ?_
  refine end1 S (fun _ => ?_)
  rfl
instance {k : Int} {bs fs} : CallV Tryd.prog 120 [.int .i64 k] bs fs (.bool (rNum k)) := ⟨fun w _ => rnum_c k w⟩

def rOne (k u n : Int) (s : List UInt8) (m : Nat) : Bool :=
  !(decide (rKids k < 0) || !decide ((m : Int) = rKids k) || decide (64 < (s.length : Int)) || (!decide (k = 1) && !decide (s = []))) &&
  !(rUser k && (decide (u < 1) || decide (6 < u)) || !rUser k && !decide (u = 0)) &&
  (decide (n = 0) || rNum k && decide (0 < n) && decide (n ≤ 65535))
theorem rone_c (t : LTerm) (w : World) : Ret Tryd.prog 87 [vL t] w (fun _ => False) fun v _ => v = .bool (rOne t.kind t.user t.num t.text t.kids.length) := by
  refine enter Tryd.func87 rfl rfl (Wd.start w) (fun a S => ?_)
  simp only [Tryd.ntmps87, List.length_cons, List.length_nil, Nat.reduceAdd, Nat.reduceSub, List.replicate_succ, List.replicate_zero, List.cons_append, List.nil_append] at S
  refine c_seq ?_
  refine c_region ?_
  refine sa S ?_; clear S; intro b1 a w S
  refine sq S ?_; clear S; intro a S
  refine wl_nil ?_
  refine xtn ?_
  iterate 2 (refine c_seq ?_)
  refine c_drawD [(0, true), (1, true), (2, false), (3, true), (4, true), (5, true), (6, true), (7, true), (8, true), (9, true), (10, false), (11, true), (12, true), (13, true), (14, true), (15, true), (16, true), (17, true), (18, true), (19, true), (20, true), (21, true), (22, true), (23, true), (24, true), (25, true), (26, true), (27, true), (28, true)] [] S ?_; clear S; intro w S
  iterate 2 (refine dq S ?_; clear S; intro a S)
  refine dl ?_
  refine sc S ?_; clear S; intro a w S
  refine de S ?_
  iterate 2 (refine dq S ?_; clear S; intro a S)
  iterate 5 (refine dqG S ?_; clear S; intro a S)
  refine dl ?_
  refine gC S ?_; clear S; intro a w S
  refine de S ?_
  refine dqG S ?_; clear S; intro a S
  iterate 2 (refine dq S ?_; clear S; intro a S)
  iterate 4 (refine dqG S ?_; clear S; intro a S)
  iterate 2 (refine dq S ?_; clear S; intro a S)
  iterate 8 (refine dqG S ?_; clear S; intro a S)
  refine dq S ?_; clear S; intro a S
  refine dn ?_
  refine xtn ?_
  refine c_cond S (fun h1 => ?_) (fun h1 => ?_)
  · refine c_seq ?_
    refine c_region ?_
    refine sq S ?_; clear S; intro a S
    refine wl_nil ?_
    refine xtn ?_
    refine c_ret ?_
    refine xtr ?_
    refine end1 S (fun _ => ?_)
    simp only [rOne, h1]; rfl
  · refine c_skip ?_
    refine xtn ?_
    iterate 2 (refine c_seq ?_)
    refine c_region ?_
    iterate 2 (refine sq S ?_; clear S; intro a S)
    refine sc S ?_; clear S; intro a w S
    refine sq S ?_; clear S; intro a S
    iterate 8 (refine gQ S ?_; clear S; intro a S)
    iterate 2 (refine sq S ?_; clear S; intro a S)
    iterate 2 (refine gQ S ?_; clear S; intro a S)
    refine gC S ?_; clear S; intro a w S
    iterate 6 (refine gQ S ?_; clear S; intro a S)
    refine sq S ?_; clear S; intro a S
    refine wl_nil ?_
    refine xtn ?_
    refine c_cond S (fun h3 => ?_) (fun h3 => ?_)
    · refine c_seq ?_
      refine c_region ?_
      refine sq S ?_; clear S; intro a S
      refine wl_nil ?_
      refine xtn ?_
      refine c_ret ?_
      refine xtr ?_
      refine end1 S (fun _ => ?_)
      simp only [rOne, h3]; simp
    · refine c_skip ?_
      refine xtn ?_
      refine c_seq ?_
      refine c_region ?_
      iterate 4 (refine sq S ?_; clear S; intro a S)
      iterate 2 (refine gQ S ?_; clear S; intro a S)
      refine gC S ?_; clear S; intro a w S
      iterate 10 (refine gQ S ?_; clear S; intro a S)
      iterate 2 (refine sq S ?_; clear S; intro a S)
      refine wl_nil ?_
      refine xtn ?_
      refine c_ret ?_
      refine end1 S (fun _ => ?_)
      simp only [rOne, h1, h3]; simp
instance {t : LTerm} {bs fs} : CallV Tryd.prog 87 [vL t] bs fs (.bool (rOne t.kind t.user t.num t.text t.kids.length)) := ⟨fun w _ => rone_c t w⟩

mutual
def rSize : Term → Int → Int → Int × Bool
  | .mk k u n s kids, most, deep => if most < 1 ∨ deep < 1 ∨ rOne k u n s kids.length = false then (0, false) else rSizeL kids most deep 1
def rSizeL : List Term → Int → Int → Int → Int × Bool
  | [], _, _, n => (n, true)
  | t :: ts, most, deep, n => if (rSize t (most - n) (deep - 1)).2 then rSizeL ts most deep (n + (rSize t (most - n) (deep - 1)).1) else (0, false)
end
mutual
theorem rSize_le : ∀ (t : Term) (most deep : Int), (rSize t most deep).2 = true → 1 ≤ (rSize t most deep).1 ∧ (rSize t most deep).1 ≤ most
  | .mk k u n s kids, most, deep => by
    intro h
    rw [rSize] at h ⊢
    split at h
    · simp at h
    · rename_i hc
      rw [if_neg hc]
      exact rSizeL_le kids most deep 1 (by omega) (by omega) h
theorem rSizeL_le : ∀ (ts : List Term) (most deep n : Int), 1 ≤ n → n ≤ most → (rSizeL ts most deep n).2 = true → 1 ≤ (rSizeL ts most deep n).1 ∧ (rSizeL ts most deep n).1 ≤ most
  | [], most, deep, n => by intro h1 h2 _; simp [rSizeL]; omega
  | t :: ts, most, deep, n => by
    intro h1 h2 h
    rw [rSizeL] at h ⊢
    split at h
    · rename_i hc
      rw [if_pos hc]
      have := rSize_le t (most - n) (deep - 1) hc
      exact rSizeL_le ts most deep _ (by omega) (by omega) h
    · simp at h
end
theorem rsize_c (N : Nat) : ∀ (t : LTerm) (most deep : Int) (w0 : World), SizeOf.sizeOf t ≤ N → most ≤ 1200 → -1200 ≤ most → deep ≤ 60 → -60 ≤ deep → Stable (fun _ => False) w0 (LtF t) →
    Ret Tryd.prog 55 [vL t, .int .i64 most, .int .i64 deep] w0 (fun _ => False) fun v _ => v = .tuple ⟨[.int .i64 (rSize t.t most deep).1, .bool (rSize t.t most deep).2]⟩ := by
  induction N with
  | zero => intro t _ _ _ h; cases t; simp at h
  | succ N ih =>
  intro t most deep w0 hN hm hm' hd hd' hf
  have e0 := t.t_eq
  have hlen := LTerm.len_le hf
  refine enter Tryd.func55 rfl rfl (Wd.begin (fs := [LtF t]) (by simpa using hf)) (fun a S => ?_)
  simp only [Tryd.ntmps55, List.length_cons, List.length_nil, Nat.reduceAdd, Nat.reduceSub, List.replicate_succ, List.replicate_zero, List.cons_append, List.nil_append] at S
  refine c_seq ?_
  refine c_region ?_
  refine sa S ?_; clear S; intro b3 a w S
  iterate 2 (refine sq S ?_; clear S; intro a S)
  refine wl_nil ?_
  refine xtn ?_
  iterate 2 (refine c_seq ?_)
  refine c_region ?_
  iterate 3 (refine sq S ?_; clear S; intro a S)
  iterate 2 (refine gQ S ?_; clear S; intro a S)
  iterate 2 (refine sq S ?_; clear S; intro a S)
  refine gQ S ?_; clear S; intro a S
  refine gC S ?_; clear S; intro a w S
  refine gQ S ?_; clear S; intro a S
  refine sq S ?_; clear S; intro a S
  refine wl_nil ?_
  refine xtn ?_
  refine c_cond S (fun h1 => ?_) (fun h1 => ?_)
  · refine c_seq ?_
    refine c_region ?_
    iterate 2 (refine sq S ?_; clear S; intro a S)
    refine wl_nil ?_
    refine xtn ?_
    refine c_ret ?_
    refine xtr ?_
    refine end2 S (fun _ => ?_)
    have h3 : most < 1 ∨ deep < 1 ∨ rOne t.kind t.user t.num t.text t.kids.length = false := by simpa [or_assoc] using h1
    rw [e0, rSize, if_pos (by simpa using h3)]
  · refine c_skip ?_
    refine xtn ?_
    refine c_seq ?_
    refine c_region ?_
    refine sq S ?_; clear S; intro a S
    refine wl_nil ?_
    refine xtn ?_
    iterate 2 (refine c_seq ?_)
    refine c_region ?_
    refine sq S ?_; clear S; intro a S
    refine wl_nil ?_
    refine xtn ?_
    refine c_block ?_
    have h3 : ¬ (most < 1 ∨ deep < 1 ∨ rOne t.kind t.user t.num t.text t.kids.length = false) := by simpa [and_assoc] using h1
    have h4 : 1 ≤ most ∧ 1 ≤ deep := by omega
    refine c_loop (ι := Nat) (fun k a w => k ≤ t.kids.length ∧ ∃ n : Int, 1 ≤ n ∧ n ≤ most ∧ rSizeL ((t.kids.drop k).map LTerm.t) most deep n = rSize t.t most deep ∧ ∃ uu : Nat → Value,  St w0 (fun _ => False) [] a w ((vL t) :: (.int .i64 most) :: (.int .i64 deep) :: (.pointer (some ⟨b3, 0, none⟩)) :: uu 4 :: uu 5 :: (.int .i64 0) :: (.bool false) :: (.int .i64 n) :: (.int .i64 (k : Nat)) :: uu 10 :: uu 11 :: uu 12 :: uu 13 :: uu 14 :: uu 15 :: uu 16 :: uu 17 :: uu 18 :: uu 19 :: uu 20 :: uu 21 :: uu 22 :: uu 23 :: uu 24 :: uu 25 :: uu 26 :: uu 27 :: uu 28 :: uu 29 :: uu 30 :: uu 31 :: uu 32 :: uu 33 :: uu 34 :: uu 35 :: uu 36 :: uu 37 :: uu 38 :: uu 39 :: uu 40 :: uu 41 :: uu 42 :: uu 43 :: uu 44 :: uu 45 :: uu 46 :: uu 47 :: uu 48 :: uu 49 :: []) [box b3 24 t.cells] [LtF t]) (fun k => t.kids.length - k) 0 ?_ ?_
    · refine ⟨Nat.zero_le _, 1, by omega, by omega, ?_, S.uu, S⟩
      rw [e0, rSize, if_neg (by simpa using h3)]; rfl
    · clear S
      rintro k a w ⟨hk, n, hn1, hn2, hrel, uu, S⟩
      iterate 2 (refine c_seq ?_)
      refine c_region ?_
      iterate 5 (refine sq S ?_; clear S; intro a S)
      refine wl_nil ?_
      refine xtn ?_
      refine c_cond S (fun h5 => ?_) (fun h5 => ?_)
      · refine c_skip ?_
        refine xtn ?_
        refine c_seq ?_
        refine c_block ?_
        refine c_seq ?_
        refine c_region ?_
        have hkl : k < t.kids.length := by simpa using h5
        have hK : KLt k t.kids.length := ⟨hkl⟩
        iterate 8 (refine sq S ?_; clear S; intro a S)
        rw [w64 (most - n) (by omega) (by omega)] at S
        iterate 2 (refine sq S ?_; clear S; intro a S)
        rw [w64 (deep - 1) (by omega) (by omega)] at S
        rw [nth_drop hkl, List.map_cons, rSizeL] at hrel
        refine sr S (ih (nthL t.kids k) (most - n) (deep - 1) w (by have := LTerm.kid_lt (nth_mem hkl); omega) (by omega) (by omega) (by omega) (by omega) (S.t0 _)) ?_; clear S; rintro _ a w rfl S
        iterate 5 (refine sq S ?_; clear S; intro a S)
        refine wl_nil ?_
        refine xtn ?_
        iterate 2 (refine c_seq ?_)
        refine c_region ?_
        iterate 2 (refine sq S ?_; clear S; intro a S)
        refine wl_nil ?_
        refine xtn ?_
        refine c_cond S (fun h8 => ?_) (fun h8 => ?_)
        · refine c_seq ?_
          refine c_region ?_
          iterate 2 (refine sq S ?_; clear S; intro a S)
          refine wl_nil ?_
          refine xtn ?_
          refine c_ret ?_
          refine xtr ?_
          refine xbr ?_
          iterate 2 (refine xtr ?_)
          refine xbr ?_
          refine xtr ?_
          refine end2 S (fun _ => ?_)
          have h9 : (rSize (nthL t.kids k).t (most - n) (deep - 1)).2 = false := by simpa using h8
          rw [if_neg (by simp [h9])] at hrel
          rw [← hrel]
        · refine c_skip ?_
          refine xtn ?_
          refine c_region ?_
          iterate 2 (refine sq S ?_; clear S; intro a S)
          have h9 : (rSize (nthL t.kids k).t (most - n) (deep - 1)).2 = true := by simpa using h8
          have h10 := rSize_le _ _ _ h9
          rw [if_pos h9] at hrel
          refine sq S ?_; clear S; intro a S
          rw [w64 (n + (rSize (nthL t.kids k).t (most - n) (deep - 1)).1) (by omega) (by omega)] at S
          refine sq S ?_; clear S; intro a S
          refine wl_nil ?_
          refine xbn ?_
          refine xtn ?_
          refine c_region ?_
          iterate 3 (refine sq S ?_; clear S; intro a S)
          refine wl_nil ?_
          refine xtn ?_
          rw [w64 ((k : Int) + 1) (by omega) (by omega)] at S
          exact ⟨k + 1, ⟨hkl, _, by omega, by omega, hrel, S.uu, S⟩, by omega⟩
      · refine c_exit ?_
        iterate 2 (refine xte ?_)
        refine xbe ?_
        refine xtn ?_
        refine c_seq ?_
        refine c_region ?_
        iterate 3 (refine sq S ?_; clear S; intro a S)
        refine wl_nil ?_
        refine xtn ?_
        refine c_ret ?_
        refine end2 S (fun _ => ?_)
        have h6 : t.kids.length ≤ k := by simpa using h5
        rw [List.drop_of_length_le h6, List.map_nil, rSizeL] at hrel
        rw [← hrel]
def rightF (t : Term) : Bool := (rSize t 1200 60).2
theorem right_c (t : LTerm) (w0 : World) (hf : Stable (fun _ => False) w0 (LtF t)) : Ret Tryd.prog 19 [vL t] w0 (fun _ => False) fun v _ => v = .bool (rightF t.t) := by
  refine enter Tryd.func19 rfl rfl (Wd.begin (fs := [LtF t]) (by simpa using hf)) (fun a S => ?_)
  simp only [Tryd.ntmps19, List.length_cons, List.length_nil, Nat.reduceAdd, Nat.reduceSub, List.replicate_succ, List.replicate_zero, List.cons_append, List.nil_append] at S
  refine c_seq ?_
  refine c_region ?_
  refine sa S ?_; clear S; intro b1 a w S
  refine sq S ?_; clear S; intro a S
  refine wl_nil ?_
  refine xtn ?_
  refine c_seq ?_
  refine c_region ?_
  refine sq S ?_; clear S; intro a S
  refine sr S (rsize_c _ t 1200 60 w (Nat.le_refl _) (by omega) (by omega) (by omega) (by omega) (S.t0 _)) ?_; clear S; rintro _ a w rfl S
  iterate 5 (refine sq S ?_; clear S; intro a S)
  refine wl_nil ?_
  refine xtn ?_
  refine c_seq ?_
  refine c_region ?_
  iterate 2 (refine sq S ?_; clear S; intro a S)
  refine wl_nil ?_
  refine xtn ?_
  refine c_ret ?_
  refine end1 S (fun _ => ?_)
  rfl
instance {t : LTerm} {bs fs} [HasT fs t] : CallV Tryd.prog 19 [vL t] bs fs (.bool (rightF t.t)) := ⟨fun w m => right_c t w (m.t0 _)⟩
end Go.Proofs.YtieeoakdkbackaaDoor

/- term.Check is the document's answer. -/
namespace Go.Proofs.YtieeoakdkbackaaDoor
open Go Go.Wk
set_option maxRecDepth 100000

theorem plain_one (k u n : Int) (s : List UInt8) (m : Nat) : plainF k u n s m = rOne k u n s m := by
  by_cases hk : 1 ≤ k ∧ k ≤ 8
  · obtain ⟨h1, h2⟩ := hk
    have hk8 : k = 1 ∨ k = 2 ∨ k = 3 ∨ k = 4 ∨ k = 5 ∨ k = 6 ∨ k = 7 ∨ k = 8 := by omega
    rcases hk8 with rfl | rfl | rfl | rfl | rfl | rfl | rfl | rfl <;>
      (simp only [plainF, rOne, show fieldsOf 1 = 1 from rfl, show fieldsOf 2 = 6 from rfl, show fieldsOf 3 = 2 from rfl, show fieldsOf 4 = 16 from rfl, show fieldsOf 5 = 8 from rfl, show fieldsOf 6 = 16 from rfl, show fieldsOf 7 = 10 from rfl, show fieldsOf 8 = 14 from rfl,
        show kidsF 1 = 0 from by decide, show kidsF 6 = 0 from by decide, show kidsF 2 = 0 from by decide, show kidsF 16 = 2 from by decide, show kidsF 8 = 1 from by decide, show kidsF 10 = 1 from by decide, show kidsF 14 = 1 from by decide,
        show rKids 1 = 0 from rfl, show rKids 2 = 0 from rfl, show rKids 3 = 0 from rfl, show rKids 4 = 2 from rfl, show rKids 5 = 1 from rfl, show rKids 6 = 2 from rfl, show rKids 7 = 1 from rfl, show rKids 8 = 1 from rfl,
        show hasF 1 1 = true from by decide, show hasF 1 2 = false from by decide, show hasF 1 4 = false from by decide,
        show hasF 6 1 = false from by decide, show hasF 6 2 = true from by decide, show hasF 6 4 = true from by decide,
        show hasF 2 1 = false from by decide, show hasF 2 2 = true from by decide, show hasF 2 4 = false from by decide,
        show hasF 16 1 = false from by decide, show hasF 16 2 = false from by decide, show hasF 16 4 = false from by decide,
        show hasF 8 1 = false from by decide, show hasF 8 2 = false from by decide, show hasF 8 4 = false from by decide,
        show hasF 10 1 = false from by decide, show hasF 10 2 = true from by decide, show hasF 10 4 = false from by decide,
        show hasF 14 1 = false from by decide, show hasF 14 2 = true from by decide, show hasF 14 4 = true from by decide,
        show rUser 1 = false from rfl, show rUser 2 = true from rfl, show rUser 3 = true from rfl, show rUser 4 = false from rfl, show rUser 5 = false from rfl, show rUser 6 = false from rfl, show rUser 7 = true from rfl, show rUser 8 = true from rfl,
        show rNum 1 = false from rfl, show rNum 2 = true from rfl, show rNum 3 = false from rfl, show rNum 4 = false from rfl, show rNum 5 = false from rfl, show rNum 6 = false from rfl, show rNum 7 = false from rfl, show rNum 8 = true from rfl, knownF]
       rw [Bool.eq_iff_iff]
       simp
       try omega)
  · have h1 : fieldsOf k = 0 := by
      unfold fieldsOf; (repeat' split) <;> omega
    have h2 : rKids k = -1 := by
      unfold rKids; rw [if_pos]; omega
    simp [plainF, rOne, h1, h2]
mutual
theorem walk_size : ∀ (t : Term) (deep left : Int), (walkF t deep left).1 = (rSize t left (61 - deep)).2 ∧ ((walkF t deep left).1 = true → (walkF t deep left).2 = left - (rSize t left (61 - deep)).1)
  | .mk k u n s kids, deep, left => by
    rw [walkF, rSize, plain_one]
    have e : (left - 1 < 0 ∨ 60 < deep ∨ rOne k u n s kids.length = false) ↔ (left < 1 ∨ 61 - deep < 1 ∨ rOne k u n s kids.length = false) := or_congr (by omega) (or_congr (by omega) Iff.rfl)
    by_cases hc : left - 1 < 0 ∨ 60 < deep ∨ rOne k u n s kids.length = false
    · rw [if_pos hc, if_pos (e.1 hc)]; simp
    · rw [if_neg hc, if_neg (fun h => hc (e.2 h))]
      have := walk_sizeL kids (deep + 1) left 1
      rw [show 61 - (deep + 1) + 1 = 61 - deep from by omega] at this
      exact this
theorem walk_sizeL : ∀ (ts : List Term) (deep left n : Int), (walkLF ts deep (left - n)).1 = (rSizeL ts left (61 - deep + 1) n).2 ∧ ((walkLF ts deep (left - n)).1 = true → (walkLF ts deep (left - n)).2 = left - (rSizeL ts left (61 - deep + 1) n).1)
  | [], deep, left, n => by simp [walkLF, rSizeL]
  | t :: ts, deep, left, n => by
    rw [walkLF, rSizeL]
    have h1 := walk_size t deep (left - n)
    rw [show 61 - deep + 1 - 1 = 61 - deep from by omega]
    cases hb : (rSize t (left - n) (61 - deep)).2 with
    | false =>
      rw [hb] at h1
      simp [h1.1]
    | true =>
      rw [hb] at h1
      rw [if_pos h1.1, if_pos rfl, h1.2 h1.1]
      have h2 := walk_sizeL ts deep left (n + (rSize t (left - n) (61 - deep)).1)
      rw [show left - (n + (rSize t (left - n) (61 - deep)).1) = left - n - (rSize t (left - n) (61 - deep)).1 from by omega] at h2
      exact h2
end
theorem size_ref (t : Term) : sizeF t = if rightF t then (rSize t 1200 60).1 else 0 := by
  have := walk_size t 1 1200
  rw [show (61 : Int) - 1 = 60 from rfl] at this
  unfold sizeF rightF
  rw [this.1]
  split
  · rename_i h; rw [this.2 (by rw [this.1]; exact h)]; omega
  · rfl
theorem check_right (t : Term) : checkF t = if rightF t then 0 else 150 := by
  have h := size_ref t
  unfold checkF
  cases hr : rightF t with
  | false => rw [hr] at h; simp at h; simp [h]
  | true =>
    rw [hr] at h; simp at h
    have := rSize_le t 1200 60 hr
    rw [if_neg (by omega), if_pos rfl]
theorem check_zero {t : Term} : checkF t = 0 ↔ rightF t = true := by
  rw [check_right]; cases rightF t <;> simp
end Go.Proofs.YtieeoakdkbackaaDoor
