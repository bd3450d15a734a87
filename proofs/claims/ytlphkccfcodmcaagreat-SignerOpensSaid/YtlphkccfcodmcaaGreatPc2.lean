/- 2: a part of this claim's texts, joined: Inst Octet W4 W5. -/
import Derived.Test.YtlphkccfcodmcaaGreatPc1
import Derived.Test.YtlphkccfcodmcaaGreatRows
import Derived.Scope
import Derived.Lib.AppendZeros
import Derived.Maps.RangeRun
/- The instances of this seat's program (types, fields, functions) for the walker; written by gen_inst.py. -/
namespace Go.Proofs.YtlphkccfcodmcaaGreat
open Go Go.Wk
section
set_option maxRecDepth 100000
instance : AggT Tryz.prog 1 false := aggT_of (by kernel_rfl)
instance : TI Tryz.prog 1 (.nilFunc) 1 8 := ti_of (by kernel_rfl)
instance : Und Tryz.prog 2 (.int .i64) := ⟨Tryz.underlying2⟩
instance : TI Tryz.prog 2 (.int .i64 0) 1 8 := ti_of (by kernel_rfl)
instance : Und Tryz.prog 3 (.int .i64) := ⟨Tryz.underlying3⟩
instance : TI Tryz.prog 3 (.int .i64 0) 1 8 := ti_of (by kernel_rfl)
instance : Und Tryz.prog 4 (.bool) := ⟨Tryz.underlying4⟩
instance : TI Tryz.prog 4 (.bool false) 1 1 := ti_of (by kernel_rfl)
instance : Und Tryz.prog 5 (.int .u8) := ⟨Tryz.underlying5⟩
instance : TI Tryz.prog 5 (.int .u8 0) 1 1 := ti_of (by kernel_rfl)
instance : Und Tryz.prog 9 (.string) := ⟨Tryz.underlying9⟩
instance : TI Tryz.prog 9 (.string ⟨#[]⟩) 1 16 := ti_of (by kernel_rfl)
instance : Und Tryz.prog 12 (.int .u64) := ⟨Tryz.underlying12⟩
instance : TI Tryz.prog 12 (.int .u64 0) 1 8 := ti_of (by kernel_rfl)
instance : AggT Tryz.prog 20 false := aggT_of (by kernel_rfl)
instance : TI Tryz.prog 20 (.nilIface) 1 16 := ti_of (by kernel_rfl)
instance : Und Tryz.prog 21 (.int .i32) := ⟨Tryz.underlying21⟩
instance : TI Tryz.prog 21 (.int .i32 0) 1 4 := ti_of (by kernel_rfl)
instance : Und Tryz.prog 22 (.array 32 5) := ⟨Tryz.underlying22⟩
instance : TI Tryz.prog 22 (.agg ⟨encL (List.replicate 32 (0 : UInt8))⟩) 32 32 := ti_of (by kernel_rfl)
instance : Und Tryz.prog 23 (.array 32 5) := ⟨Tryz.underlying23⟩
instance : TI Tryz.prog 23 (.agg ⟨encL (List.replicate 32 (0 : UInt8))⟩) 32 32 := ti_of (by kernel_rfl)
instance : Und Tryz.prog 24 (.slice 38) := ⟨Tryz.underlying24⟩
instance : TI Tryz.prog 24 (.slice none 0 0) 1 24 := ti_of (by kernel_rfl)
instance : AggT Tryz.prog 25 false := aggT_of (by kernel_rfl)
instance : TI Tryz.prog 25 (.nilFunc) 1 8 := ti_of (by kernel_rfl)
instance : Und Tryz.prog 26 (.int .u64) := ⟨Tryz.underlying26⟩
instance : TI Tryz.prog 26 (.int .u64 0) 1 8 := ti_of (by kernel_rfl)
instance : Und Tryz.prog 27 (.pointer 73) := ⟨Tryz.underlying27⟩
instance : TI Tryz.prog 27 (.pointer none) 1 8 := ti_of (by kernel_rfl)
instance : Und Tryz.prog 28 (.int .i64) := ⟨Tryz.underlying28⟩
instance : TI Tryz.prog 28 (.int .i64 0) 1 8 := ti_of (by kernel_rfl)
instance : AggT Tryz.prog 30 false := aggT_of (by kernel_rfl)
instance : TI Tryz.prog 30 (.nilFunc) 1 8 := ti_of (by kernel_rfl)
instance : Und Tryz.prog 31 (.pointer 79) := ⟨Tryz.underlying31⟩
instance : TI Tryz.prog 31 (.pointer none) 1 8 := ti_of (by kernel_rfl)
instance : AggT Tryz.prog 33 false := aggT_of (by kernel_rfl)
instance : TI Tryz.prog 33 (.nilFunc) 1 8 := ti_of (by kernel_rfl)
instance : AggT Tryz.prog 34 false := aggT_of (by kernel_rfl)
instance : TI Tryz.prog 34 (.nilFunc) 1 8 := ti_of (by kernel_rfl)
instance : AggT Tryz.prog 35 false := aggT_of (by kernel_rfl)
instance : TI Tryz.prog 35 (.nilFunc) 1 8 := ti_of (by kernel_rfl)
instance : Und Tryz.prog 36 (.slice 4) := ⟨Tryz.underlying36⟩
instance : TI Tryz.prog 36 (.slice none 0 0) 1 24 := ti_of (by kernel_rfl)
instance : AggT Tryz.prog 37 true := aggT_of (by kernel_rfl)
instance : Fld Tryz.prog 37 0 0 3 := fld_of (by kernel_rfl)
instance : Fld Tryz.prog 37 1 1 3 := fld_of (by kernel_rfl)
instance : Fld Tryz.prog 37 2 2 23 := fld_of (by kernel_rfl)
instance : Fld Tryz.prog 37 3 34 36 := fld_of (by kernel_rfl)
instance : PlOf Tryz.prog 37 [(0, 1), (1, 1), (2, 32), (34, 1)] := plof_of (by kernel_rfl)
instance : TI Tryz.prog 37 (.agg ⟨.int .i64 0 :: .int .i64 0 :: .int .u8 0 :: .int .u8 0 :: .int .u8 0 :: .int .u8 0 :: .int .u8 0 :: .int .u8 0 :: .int .u8 0 :: .int .u8 0 :: .int .u8 0 :: .int .u8 0 :: .int .u8 0 :: .int .u8 0 :: .int .u8 0 :: .int .u8 0 :: .int .u8 0 :: .int .u8 0 :: .int .u8 0 :: .int .u8 0 :: .int .u8 0 :: .int .u8 0 :: .int .u8 0 :: .int .u8 0 :: .int .u8 0 :: .int .u8 0 :: .int .u8 0 :: .int .u8 0 :: .int .u8 0 :: .int .u8 0 :: .int .u8 0 :: .int .u8 0 :: .int .u8 0 :: .int .u8 0 :: .slice none 0 0 :: []⟩) 35 72 := ti_of (by kernel_rfl)
instance : AggT Tryz.prog 38 true := aggT_of (by kernel_rfl)
instance : Fld Tryz.prog 38 0 0 3 := fld_of (by kernel_rfl)
instance : Fld Tryz.prog 38 1 1 3 := fld_of (by kernel_rfl)
instance : Fld Tryz.prog 38 2 2 23 := fld_of (by kernel_rfl)
instance : Fld Tryz.prog 38 3 34 36 := fld_of (by kernel_rfl)
instance : PlOf Tryz.prog 38 [(0, 1), (1, 1), (2, 32), (34, 1)] := plof_of (by kernel_rfl)
instance : TI Tryz.prog 38 (.agg ⟨.int .i64 0 :: .int .i64 0 :: .int .u8 0 :: .int .u8 0 :: .int .u8 0 :: .int .u8 0 :: .int .u8 0 :: .int .u8 0 :: .int .u8 0 :: .int .u8 0 :: .int .u8 0 :: .int .u8 0 :: .int .u8 0 :: .int .u8 0 :: .int .u8 0 :: .int .u8 0 :: .int .u8 0 :: .int .u8 0 :: .int .u8 0 :: .int .u8 0 :: .int .u8 0 :: .int .u8 0 :: .int .u8 0 :: .int .u8 0 :: .int .u8 0 :: .int .u8 0 :: .int .u8 0 :: .int .u8 0 :: .int .u8 0 :: .int .u8 0 :: .int .u8 0 :: .int .u8 0 :: .int .u8 0 :: .int .u8 0 :: .slice none 0 0 :: []⟩) 35 72 := ti_of (by kernel_rfl)
instance : Und Tryz.prog 39 (.slice 23) := ⟨Tryz.underlying39⟩
instance : TI Tryz.prog 39 (.slice none 0 0) 1 24 := ti_of (by kernel_rfl)
instance : AggT Tryz.prog 40 true := aggT_of (by kernel_rfl)
instance : Fld Tryz.prog 40 0 0 3 := fld_of (by kernel_rfl)
instance : Fld Tryz.prog 40 1 1 39 := fld_of (by kernel_rfl)
instance : Fld Tryz.prog 40 2 2 39 := fld_of (by kernel_rfl)
instance : PlOf Tryz.prog 40 [(0, 1), (1, 1), (2, 1)] := plof_of (by kernel_rfl)
instance : TI Tryz.prog 40 (.agg #[.int .i64 0, .slice none 0 0, .slice none 0 0]) 3 56 := ti_of (by kernel_rfl)
instance : AggT Tryz.prog 41 true := aggT_of (by kernel_rfl)
instance : Fld Tryz.prog 41 0 0 3 := fld_of (by kernel_rfl)
instance : Fld Tryz.prog 41 1 1 39 := fld_of (by kernel_rfl)
instance : Fld Tryz.prog 41 2 2 39 := fld_of (by kernel_rfl)
instance : PlOf Tryz.prog 41 [(0, 1), (1, 1), (2, 1)] := plof_of (by kernel_rfl)
instance : TI Tryz.prog 41 (.agg #[.int .i64 0, .slice none 0 0, .slice none 0 0]) 3 56 := ti_of (by kernel_rfl)
instance : AggT Tryz.prog 43 false := aggT_of (by kernel_rfl)
instance : TI Tryz.prog 43 (.nilFunc) 1 8 := ti_of (by kernel_rfl)
instance : AggT Tryz.prog 44 false := aggT_of (by kernel_rfl)
instance : TI Tryz.prog 44 (.nilFunc) 1 8 := ti_of (by kernel_rfl)
instance : AggT Tryz.prog 45 false := aggT_of (by kernel_rfl)
instance : TI Tryz.prog 45 (.nilFunc) 1 8 := ti_of (by kernel_rfl)
instance : AggT Tryz.prog 46 false := aggT_of (by kernel_rfl)
instance : TI Tryz.prog 46 (.nilFunc) 1 8 := ti_of (by kernel_rfl)
instance : AggT Tryz.prog 47 false := aggT_of (by kernel_rfl)
instance : TI Tryz.prog 47 (.nilFunc) 1 8 := ti_of (by kernel_rfl)
instance : AggT Tryz.prog 48 false := aggT_of (by kernel_rfl)
instance : TI Tryz.prog 48 (.nilFunc) 1 8 := ti_of (by kernel_rfl)
instance : AggT Tryz.prog 49 false := aggT_of (by kernel_rfl)
instance : TI Tryz.prog 49 (.nilFunc) 1 8 := ti_of (by kernel_rfl)
instance : AggT Tryz.prog 50 false := aggT_of (by kernel_rfl)
instance : TI Tryz.prog 50 (.nilFunc) 1 8 := ti_of (by kernel_rfl)
instance : Und Tryz.prog 51 (.pointer 55) := ⟨Tryz.underlying51⟩
instance : TI Tryz.prog 51 (.pointer none) 1 8 := ti_of (by kernel_rfl)
instance : AggT Tryz.prog 52 false := aggT_of (by kernel_rfl)
instance : TI Tryz.prog 52 (.nilFunc) 1 8 := ti_of (by kernel_rfl)
instance : Und Tryz.prog 53 (.pointer 99) := ⟨Tryz.underlying53⟩
instance : TI Tryz.prog 53 (.pointer none) 1 8 := ti_of (by kernel_rfl)
instance : AggT Tryz.prog 54 true := aggT_of (by kernel_rfl)
instance : Fld Tryz.prog 54 0 0 27 := fld_of (by kernel_rfl)
instance : Fld Tryz.prog 54 1 1 27 := fld_of (by kernel_rfl)
instance : Fld Tryz.prog 54 2 2 31 := fld_of (by kernel_rfl)
instance : Fld Tryz.prog 54 3 3 53 := fld_of (by kernel_rfl)
instance : PlOf Tryz.prog 54 [(0, 1), (1, 1), (2, 1), (3, 1)] := plof_of (by kernel_rfl)
instance : TI Tryz.prog 54 (.agg #[.pointer none, .pointer none, .pointer none, .pointer none]) 4 32 := ti_of (by kernel_rfl)
instance : AggT Tryz.prog 55 true := aggT_of (by kernel_rfl)
instance : Fld Tryz.prog 55 0 0 27 := fld_of (by kernel_rfl)
instance : Fld Tryz.prog 55 1 1 27 := fld_of (by kernel_rfl)
instance : Fld Tryz.prog 55 2 2 31 := fld_of (by kernel_rfl)
instance : Fld Tryz.prog 55 3 3 53 := fld_of (by kernel_rfl)
instance : PlOf Tryz.prog 55 [(0, 1), (1, 1), (2, 1), (3, 1)] := plof_of (by kernel_rfl)
instance : TI Tryz.prog 55 (.agg #[.pointer none, .pointer none, .pointer none, .pointer none]) 4 32 := ti_of (by kernel_rfl)
instance : AggT Tryz.prog 56 false := aggT_of (by kernel_rfl)
instance : TI Tryz.prog 56 (.nilFunc) 1 8 := ti_of (by kernel_rfl)
instance : AggT Tryz.prog 57 false := aggT_of (by kernel_rfl)
instance : TI Tryz.prog 57 (.nilFunc) 1 8 := ti_of (by kernel_rfl)
instance : Und Tryz.prog 58 (.slice 5) := ⟨Tryz.underlying58⟩
instance : TI Tryz.prog 58 (.slice none 0 0) 1 24 := ti_of (by kernel_rfl)
instance : Und Tryz.prog 59 (.slice 58) := ⟨Tryz.underlying59⟩
instance : TI Tryz.prog 59 (.slice none 0 0) 1 24 := ti_of (by kernel_rfl)
instance : Und Tryz.prog 60 (.array 2 27) := ⟨Tryz.underlying60⟩
instance : TI Tryz.prog 60 (.agg #[.pointer none, .pointer none]) 2 16 := ti_of (by kernel_rfl)
instance : Und Tryz.prog 61 (.pointer 116) := ⟨Tryz.underlying61⟩
instance : TI Tryz.prog 61 (.pointer none) 1 8 := ti_of (by kernel_rfl)
instance : AggT Tryz.prog 63 false := aggT_of (by kernel_rfl)
instance : TI Tryz.prog 63 (.nilFunc) 1 8 := ti_of (by kernel_rfl)
instance : AggT Tryz.prog 64 false := aggT_of (by kernel_rfl)
instance : TI Tryz.prog 64 (.nilFunc) 1 8 := ti_of (by kernel_rfl)
instance : AggT Tryz.prog 65 false := aggT_of (by kernel_rfl)
instance : TI Tryz.prog 65 (.nilFunc) 1 8 := ti_of (by kernel_rfl)
instance : Und Tryz.prog 66 (.map 3 107) := ⟨Tryz.underlying66⟩
instance : TI Tryz.prog 66 (.map none) 1 8 := ti_of (by kernel_rfl)
instance : Und Tryz.prog 67 (.slice 143) := ⟨Tryz.underlying67⟩
instance : TI Tryz.prog 67 (.slice none 0 0) 1 24 := ti_of (by kernel_rfl)
instance : AggT Tryz.prog 68 true := aggT_of (by kernel_rfl)
instance : Fld Tryz.prog 68 0 0 4 := fld_of (by kernel_rfl)
instance : Fld Tryz.prog 68 1 1 3 := fld_of (by kernel_rfl)
instance : PlOf Tryz.prog 68 [(0, 1), (1, 1)] := plof_of (by kernel_rfl)
instance : TI Tryz.prog 68 (.agg #[.bool false, .int .i64 0]) 2 16 := ti_of (by kernel_rfl)
instance : AggT Tryz.prog 69 true := aggT_of (by kernel_rfl)
instance : Fld Tryz.prog 69 0 0 4 := fld_of (by kernel_rfl)
instance : Fld Tryz.prog 69 1 1 3 := fld_of (by kernel_rfl)
instance : PlOf Tryz.prog 69 [(0, 1), (1, 1)] := plof_of (by kernel_rfl)
instance : TI Tryz.prog 69 (.agg #[.bool false, .int .i64 0]) 2 16 := ti_of (by kernel_rfl)
instance : AggT Tryz.prog 70 true := aggT_of (by kernel_rfl)
instance : Fld Tryz.prog 70 0 0 3 := fld_of (by kernel_rfl)
instance : Fld Tryz.prog 70 1 1 66 := fld_of (by kernel_rfl)
instance : Fld Tryz.prog 70 2 2 67 := fld_of (by kernel_rfl)
instance : Fld Tryz.prog 70 3 3 4 := fld_of (by kernel_rfl)
instance : Fld Tryz.prog 70 4 4 69 := fld_of (by kernel_rfl)
instance : Fld Tryz.prog 70 5 6 69 := fld_of (by kernel_rfl)
instance : Fld Tryz.prog 70 6 8 3 := fld_of (by kernel_rfl)
instance : PlOf Tryz.prog 70 [(0, 1), (1, 1), (2, 1), (3, 1), (4, 2), (6, 2), (8, 1)] := plof_of (by kernel_rfl)
instance : TI Tryz.prog 70 (.agg #[.int .i64 0, .map none, .slice none 0 0, .bool false, .bool false, .int .i64 0, .bool false, .int .i64 0, .int .i64 0]) 9 88 := ti_of (by kernel_rfl)
instance : AggT Tryz.prog 71 true := aggT_of (by kernel_rfl)
instance : Fld Tryz.prog 71 0 0 3 := fld_of (by kernel_rfl)
instance : Fld Tryz.prog 71 1 1 66 := fld_of (by kernel_rfl)
instance : Fld Tryz.prog 71 2 2 67 := fld_of (by kernel_rfl)
instance : Fld Tryz.prog 71 3 3 4 := fld_of (by kernel_rfl)
instance : Fld Tryz.prog 71 4 4 69 := fld_of (by kernel_rfl)
instance : Fld Tryz.prog 71 5 6 69 := fld_of (by kernel_rfl)
instance : Fld Tryz.prog 71 6 8 3 := fld_of (by kernel_rfl)
instance : PlOf Tryz.prog 71 [(0, 1), (1, 1), (2, 1), (3, 1), (4, 2), (6, 2), (8, 1)] := plof_of (by kernel_rfl)
instance : TI Tryz.prog 71 (.agg #[.int .i64 0, .map none, .slice none 0 0, .bool false, .bool false, .int .i64 0, .bool false, .int .i64 0, .int .i64 0]) 9 88 := ti_of (by kernel_rfl)
instance : AggT Tryz.prog 72 true := aggT_of (by kernel_rfl)
instance : Fld Tryz.prog 72 0 0 71 := fld_of (by kernel_rfl)
instance : PlOf Tryz.prog 72 [(0, 9)] := plof_of (by kernel_rfl)
instance : TI Tryz.prog 72 (.agg #[.int .i64 0, .map none, .slice none 0 0, .bool false, .bool false, .int .i64 0, .bool false, .int .i64 0, .int .i64 0]) 9 88 := ti_of (by kernel_rfl)
instance : AggT Tryz.prog 73 true := aggT_of (by kernel_rfl)
instance : Fld Tryz.prog 73 0 0 71 := fld_of (by kernel_rfl)
instance : PlOf Tryz.prog 73 [(0, 9)] := plof_of (by kernel_rfl)
instance : TI Tryz.prog 73 (.agg #[.int .i64 0, .map none, .slice none 0 0, .bool false, .bool false, .int .i64 0, .bool false, .int .i64 0, .int .i64 0]) 9 88 := ti_of (by kernel_rfl)
instance : AggT Tryz.prog 74 false := aggT_of (by kernel_rfl)
instance : TI Tryz.prog 74 (.nilFunc) 1 8 := ti_of (by kernel_rfl)
instance : AggT Tryz.prog 75 false := aggT_of (by kernel_rfl)
instance : TI Tryz.prog 75 (.nilFunc) 1 8 := ti_of (by kernel_rfl)
instance : AggT Tryz.prog 76 true := aggT_of (by kernel_rfl)
instance : Fld Tryz.prog 76 0 0 61 := fld_of (by kernel_rfl)
instance : PlOf Tryz.prog 76 [(0, 1)] := plof_of (by kernel_rfl)
instance : TI Tryz.prog 76 (.agg #[.pointer none]) 1 8 := ti_of (by kernel_rfl)
instance : AggT Tryz.prog 77 true := aggT_of (by kernel_rfl)
instance : Fld Tryz.prog 77 0 0 61 := fld_of (by kernel_rfl)
instance : PlOf Tryz.prog 77 [(0, 1)] := plof_of (by kernel_rfl)
instance : TI Tryz.prog 77 (.agg #[.pointer none]) 1 8 := ti_of (by kernel_rfl)
instance : AggT Tryz.prog 78 true := aggT_of (by kernel_rfl)
instance : Fld Tryz.prog 78 0 0 77 := fld_of (by kernel_rfl)
instance : Fld Tryz.prog 78 1 1 23 := fld_of (by kernel_rfl)
instance : Fld Tryz.prog 78 2 33 3 := fld_of (by kernel_rfl)
instance : PlOf Tryz.prog 78 [(0, 1), (1, 32), (33, 1)] := plof_of (by kernel_rfl)
instance : TI Tryz.prog 78 (.agg ⟨.pointer none :: .int .u8 0 :: .int .u8 0 :: .int .u8 0 :: .int .u8 0 :: .int .u8 0 :: .int .u8 0 :: .int .u8 0 :: .int .u8 0 :: .int .u8 0 :: .int .u8 0 :: .int .u8 0 :: .int .u8 0 :: .int .u8 0 :: .int .u8 0 :: .int .u8 0 :: .int .u8 0 :: .int .u8 0 :: .int .u8 0 :: .int .u8 0 :: .int .u8 0 :: .int .u8 0 :: .int .u8 0 :: .int .u8 0 :: .int .u8 0 :: .int .u8 0 :: .int .u8 0 :: .int .u8 0 :: .int .u8 0 :: .int .u8 0 :: .int .u8 0 :: .int .u8 0 :: .int .u8 0 :: .int .i64 0 :: []⟩) 34 48 := ti_of (by kernel_rfl)
instance : AggT Tryz.prog 79 true := aggT_of (by kernel_rfl)
instance : Fld Tryz.prog 79 0 0 77 := fld_of (by kernel_rfl)
instance : Fld Tryz.prog 79 1 1 23 := fld_of (by kernel_rfl)
instance : Fld Tryz.prog 79 2 33 3 := fld_of (by kernel_rfl)
instance : PlOf Tryz.prog 79 [(0, 1), (1, 32), (33, 1)] := plof_of (by kernel_rfl)
instance : TI Tryz.prog 79 (.agg ⟨.pointer none :: .int .u8 0 :: .int .u8 0 :: .int .u8 0 :: .int .u8 0 :: .int .u8 0 :: .int .u8 0 :: .int .u8 0 :: .int .u8 0 :: .int .u8 0 :: .int .u8 0 :: .int .u8 0 :: .int .u8 0 :: .int .u8 0 :: .int .u8 0 :: .int .u8 0 :: .int .u8 0 :: .int .u8 0 :: .int .u8 0 :: .int .u8 0 :: .int .u8 0 :: .int .u8 0 :: .int .u8 0 :: .int .u8 0 :: .int .u8 0 :: .int .u8 0 :: .int .u8 0 :: .int .u8 0 :: .int .u8 0 :: .int .u8 0 :: .int .u8 0 :: .int .u8 0 :: .int .u8 0 :: .int .i64 0 :: []⟩) 34 48 := ti_of (by kernel_rfl)
instance : AggT Tryz.prog 80 false := aggT_of (by kernel_rfl)
instance : TI Tryz.prog 80 (.nilFunc) 1 8 := ti_of (by kernel_rfl)
instance : AggT Tryz.prog 81 false := aggT_of (by kernel_rfl)
instance : TI Tryz.prog 81 (.nilFunc) 1 8 := ti_of (by kernel_rfl)
instance : AggT Tryz.prog 82 false := aggT_of (by kernel_rfl)
instance : TI Tryz.prog 82 (.nilFunc) 1 8 := ti_of (by kernel_rfl)
instance : AggT Tryz.prog 84 false := aggT_of (by kernel_rfl)
instance : TI Tryz.prog 84 (.nilFunc) 1 8 := ti_of (by kernel_rfl)
instance : AggT Tryz.prog 85 false := aggT_of (by kernel_rfl)
instance : TI Tryz.prog 85 (.nilFunc) 1 8 := ti_of (by kernel_rfl)
instance : AggT Tryz.prog 87 false := aggT_of (by kernel_rfl)
instance : TI Tryz.prog 87 (.nilFunc) 1 8 := ti_of (by kernel_rfl)
instance : AggT Tryz.prog 88 false := aggT_of (by kernel_rfl)
instance : TI Tryz.prog 88 (.nilFunc) 1 8 := ti_of (by kernel_rfl)
instance : AggT Tryz.prog 89 false := aggT_of (by kernel_rfl)
instance : TI Tryz.prog 89 (.nilFunc) 1 8 := ti_of (by kernel_rfl)
instance : AggT Tryz.prog 90 false := aggT_of (by kernel_rfl)
instance : TI Tryz.prog 90 (.nilFunc) 1 8 := ti_of (by kernel_rfl)
instance : AggT Tryz.prog 91 false := aggT_of (by kernel_rfl)
instance : TI Tryz.prog 91 (.nilFunc) 1 8 := ti_of (by kernel_rfl)
instance : AggT Tryz.prog 92 false := aggT_of (by kernel_rfl)
instance : TI Tryz.prog 92 (.nilFunc) 1 8 := ti_of (by kernel_rfl)
instance : AggT Tryz.prog 93 false := aggT_of (by kernel_rfl)
instance : TI Tryz.prog 93 (.nilFunc) 1 8 := ti_of (by kernel_rfl)
instance : AggT Tryz.prog 94 false := aggT_of (by kernel_rfl)
instance : TI Tryz.prog 94 (.nilFunc) 1 8 := ti_of (by kernel_rfl)
instance : AggT Tryz.prog 95 false := aggT_of (by kernel_rfl)
instance : TI Tryz.prog 95 (.nilFunc) 1 8 := ti_of (by kernel_rfl)
instance : AggT Tryz.prog 97 false := aggT_of (by kernel_rfl)
instance : TI Tryz.prog 97 (.nilFunc) 1 8 := ti_of (by kernel_rfl)
instance : AggT Tryz.prog 98 true := aggT_of (by kernel_rfl)
instance : Fld Tryz.prog 98 0 0 61 := fld_of (by kernel_rfl)
instance : Fld Tryz.prog 98 1 1 23 := fld_of (by kernel_rfl)
instance : Fld Tryz.prog 98 2 33 3 := fld_of (by kernel_rfl)
instance : PlOf Tryz.prog 98 [(0, 1), (1, 32), (33, 1)] := plof_of (by kernel_rfl)
instance : TI Tryz.prog 98 (.agg ⟨.pointer none :: .int .u8 0 :: .int .u8 0 :: .int .u8 0 :: .int .u8 0 :: .int .u8 0 :: .int .u8 0 :: .int .u8 0 :: .int .u8 0 :: .int .u8 0 :: .int .u8 0 :: .int .u8 0 :: .int .u8 0 :: .int .u8 0 :: .int .u8 0 :: .int .u8 0 :: .int .u8 0 :: .int .u8 0 :: .int .u8 0 :: .int .u8 0 :: .int .u8 0 :: .int .u8 0 :: .int .u8 0 :: .int .u8 0 :: .int .u8 0 :: .int .u8 0 :: .int .u8 0 :: .int .u8 0 :: .int .u8 0 :: .int .u8 0 :: .int .u8 0 :: .int .u8 0 :: .int .u8 0 :: .int .i64 0 :: []⟩) 34 48 := ti_of (by kernel_rfl)
instance : AggT Tryz.prog 99 true := aggT_of (by kernel_rfl)
instance : Fld Tryz.prog 99 0 0 61 := fld_of (by kernel_rfl)
instance : Fld Tryz.prog 99 1 1 23 := fld_of (by kernel_rfl)
instance : Fld Tryz.prog 99 2 33 3 := fld_of (by kernel_rfl)
instance : PlOf Tryz.prog 99 [(0, 1), (1, 32), (33, 1)] := plof_of (by kernel_rfl)
instance : TI Tryz.prog 99 (.agg ⟨.pointer none :: .int .u8 0 :: .int .u8 0 :: .int .u8 0 :: .int .u8 0 :: .int .u8 0 :: .int .u8 0 :: .int .u8 0 :: .int .u8 0 :: .int .u8 0 :: .int .u8 0 :: .int .u8 0 :: .int .u8 0 :: .int .u8 0 :: .int .u8 0 :: .int .u8 0 :: .int .u8 0 :: .int .u8 0 :: .int .u8 0 :: .int .u8 0 :: .int .u8 0 :: .int .u8 0 :: .int .u8 0 :: .int .u8 0 :: .int .u8 0 :: .int .u8 0 :: .int .u8 0 :: .int .u8 0 :: .int .u8 0 :: .int .u8 0 :: .int .u8 0 :: .int .u8 0 :: .int .u8 0 :: .int .i64 0 :: []⟩) 34 48 := ti_of (by kernel_rfl)
instance : AggT Tryz.prog 100 false := aggT_of (by kernel_rfl)
instance : TI Tryz.prog 100 (.nilFunc) 1 8 := ti_of (by kernel_rfl)
instance : Und Tryz.prog 101 (.slice 3) := ⟨Tryz.underlying101⟩
instance : TI Tryz.prog 101 (.slice none 0 0) 1 24 := ti_of (by kernel_rfl)
instance : AggT Tryz.prog 102 false := aggT_of (by kernel_rfl)
instance : TI Tryz.prog 102 (.nilFunc) 1 8 := ti_of (by kernel_rfl)
instance : Und Tryz.prog 103 (.array 2 4) := ⟨Tryz.underlying103⟩
instance : TI Tryz.prog 103 (.agg #[.bool false, .bool false]) 2 2 := ti_of (by kernel_rfl)
instance : Und Tryz.prog 104 (.slice 107) := ⟨Tryz.underlying104⟩
instance : TI Tryz.prog 104 (.slice none 0 0) 1 24 := ti_of (by kernel_rfl)
instance : AggT Tryz.prog 105 false := aggT_of (by kernel_rfl)
instance : TI Tryz.prog 105 (.nilFunc) 1 8 := ti_of (by kernel_rfl)
instance : Und Tryz.prog 106 (.array 64 5) := ⟨Tryz.underlying106⟩
instance : TI Tryz.prog 106 (.agg ⟨encL (List.replicate 64 (0 : UInt8))⟩) 64 64 := ti_of (by kernel_rfl)
instance : Und Tryz.prog 107 (.array 64 5) := ⟨Tryz.underlying107⟩
instance : TI Tryz.prog 107 (.agg ⟨encL (List.replicate 64 (0 : UInt8))⟩) 64 64 := ti_of (by kernel_rfl)
instance : Und Tryz.prog 108 (.int .u32) := ⟨Tryz.underlying108⟩
instance : TI Tryz.prog 108 (.int .u32 0) 1 4 := ti_of (by kernel_rfl)
instance : AggT Tryz.prog 109 true := aggT_of (by kernel_rfl)
instance : Fld Tryz.prog 109 0 0 27 := fld_of (by kernel_rfl)
instance : Fld Tryz.prog 109 1 1 3 := fld_of (by kernel_rfl)
instance : Fld Tryz.prog 109 2 2 108 := fld_of (by kernel_rfl)
instance : PlOf Tryz.prog 109 [(0, 1), (1, 1), (2, 1)] := plof_of (by kernel_rfl)
instance : TI Tryz.prog 109 (.agg #[.pointer none, .int .i64 0, .int .u32 0]) 3 24 := ti_of (by kernel_rfl)
instance : AggT Tryz.prog 110 true := aggT_of (by kernel_rfl)
instance : Fld Tryz.prog 110 0 0 27 := fld_of (by kernel_rfl)
instance : Fld Tryz.prog 110 1 1 3 := fld_of (by kernel_rfl)
instance : Fld Tryz.prog 110 2 2 108 := fld_of (by kernel_rfl)
instance : PlOf Tryz.prog 110 [(0, 1), (1, 1), (2, 1)] := plof_of (by kernel_rfl)
instance : TI Tryz.prog 110 (.agg #[.pointer none, .int .i64 0, .int .u32 0]) 3 24 := ti_of (by kernel_rfl)
instance : AggT Tryz.prog 112 false := aggT_of (by kernel_rfl)
instance : TI Tryz.prog 112 (.nilFunc) 1 8 := ti_of (by kernel_rfl)
instance : AggT Tryz.prog 114 false := aggT_of (by kernel_rfl)
instance : TI Tryz.prog 114 (.nilFunc) 1 8 := ti_of (by kernel_rfl)
instance : AggT Tryz.prog 115 true := aggT_of (by kernel_rfl)
instance : Fld Tryz.prog 115 0 0 110 := fld_of (by kernel_rfl)
instance : Fld Tryz.prog 115 1 3 59 := fld_of (by kernel_rfl)
instance : Fld Tryz.prog 115 2 4 3 := fld_of (by kernel_rfl)
instance : Fld Tryz.prog 115 3 5 4 := fld_of (by kernel_rfl)
instance : PlOf Tryz.prog 115 [(0, 3), (3, 1), (4, 1), (5, 1)] := plof_of (by kernel_rfl)
instance : TI Tryz.prog 115 (.agg #[.pointer none, .int .i64 0, .int .u32 0, .slice none 0 0, .int .i64 0, .bool false]) 6 64 := ti_of (by kernel_rfl)
instance : AggT Tryz.prog 116 true := aggT_of (by kernel_rfl)
instance : Fld Tryz.prog 116 0 0 110 := fld_of (by kernel_rfl)
instance : Fld Tryz.prog 116 1 3 59 := fld_of (by kernel_rfl)
instance : Fld Tryz.prog 116 2 4 3 := fld_of (by kernel_rfl)
instance : Fld Tryz.prog 116 3 5 4 := fld_of (by kernel_rfl)
instance : PlOf Tryz.prog 116 [(0, 3), (3, 1), (4, 1), (5, 1)] := plof_of (by kernel_rfl)
instance : TI Tryz.prog 116 (.agg #[.pointer none, .int .i64 0, .int .u32 0, .slice none 0 0, .int .i64 0, .bool false]) 6 64 := ti_of (by kernel_rfl)
instance : AggT Tryz.prog 118 false := aggT_of (by kernel_rfl)
instance : TI Tryz.prog 118 (.nilFunc) 1 8 := ti_of (by kernel_rfl)
instance : AggT Tryz.prog 119 false := aggT_of (by kernel_rfl)
instance : TI Tryz.prog 119 (.nilFunc) 1 8 := ti_of (by kernel_rfl)
instance : AggT Tryz.prog 120 false := aggT_of (by kernel_rfl)
instance : TI Tryz.prog 120 (.nilFunc) 1 8 := ti_of (by kernel_rfl)
instance : AggT Tryz.prog 121 false := aggT_of (by kernel_rfl)
instance : TI Tryz.prog 121 (.nilFunc) 1 8 := ti_of (by kernel_rfl)
instance : Und Tryz.prog 122 (.pointer 28) := ⟨Tryz.underlying122⟩
instance : TI Tryz.prog 122 (.pointer none) 1 8 := ti_of (by kernel_rfl)
instance : AggT Tryz.prog 123 false := aggT_of (by kernel_rfl)
instance : TI Tryz.prog 123 (.nilFunc) 1 8 := ti_of (by kernel_rfl)
instance : AggT Tryz.prog 124 false := aggT_of (by kernel_rfl)
instance : TI Tryz.prog 124 (.nilFunc) 1 8 := ti_of (by kernel_rfl)
instance : AggT Tryz.prog 125 false := aggT_of (by kernel_rfl)
instance : TI Tryz.prog 125 (.nilFunc) 1 8 := ti_of (by kernel_rfl)
instance : AggT Tryz.prog 126 false := aggT_of (by kernel_rfl)
instance : TI Tryz.prog 126 (.nilFunc) 1 8 := ti_of (by kernel_rfl)
instance : AggT Tryz.prog 127 false := aggT_of (by kernel_rfl)
instance : TI Tryz.prog 127 (.nilFunc) 1 8 := ti_of (by kernel_rfl)
instance : AggT Tryz.prog 128 false := aggT_of (by kernel_rfl)
instance : TI Tryz.prog 128 (.nilFunc) 1 8 := ti_of (by kernel_rfl)
instance : AggT Tryz.prog 129 false := aggT_of (by kernel_rfl)
instance : TI Tryz.prog 129 (.nilFunc) 1 8 := ti_of (by kernel_rfl)
instance : AggT Tryz.prog 130 false := aggT_of (by kernel_rfl)
instance : TI Tryz.prog 130 (.nilFunc) 1 8 := ti_of (by kernel_rfl)
instance : AggT Tryz.prog 131 false := aggT_of (by kernel_rfl)
instance : TI Tryz.prog 131 (.nilFunc) 1 8 := ti_of (by kernel_rfl)
instance : AggT Tryz.prog 132 false := aggT_of (by kernel_rfl)
instance : TI Tryz.prog 132 (.nilFunc) 1 8 := ti_of (by kernel_rfl)
instance : AggT Tryz.prog 133 false := aggT_of (by kernel_rfl)
instance : TI Tryz.prog 133 (.nilFunc) 1 8 := ti_of (by kernel_rfl)
instance : AggT Tryz.prog 135 false := aggT_of (by kernel_rfl)
instance : TI Tryz.prog 135 (.nilFunc) 1 8 := ti_of (by kernel_rfl)
instance : AggT Tryz.prog 136 false := aggT_of (by kernel_rfl)
instance : TI Tryz.prog 136 (.nilFunc) 1 8 := ti_of (by kernel_rfl)
instance : AggT Tryz.prog 137 false := aggT_of (by kernel_rfl)
instance : TI Tryz.prog 137 (.nilFunc) 1 8 := ti_of (by kernel_rfl)
instance : AggT Tryz.prog 138 false := aggT_of (by kernel_rfl)
instance : TI Tryz.prog 138 (.nilFunc) 1 8 := ti_of (by kernel_rfl)
instance : AggT Tryz.prog 139 false := aggT_of (by kernel_rfl)
instance : TI Tryz.prog 139 (.nilFunc) 1 8 := ti_of (by kernel_rfl)
instance : Und Tryz.prog 140 (.pointer 69) := ⟨Tryz.underlying140⟩
instance : TI Tryz.prog 140 (.pointer none) 1 8 := ti_of (by kernel_rfl)
instance : Und Tryz.prog 141 (.pointer 71) := ⟨Tryz.underlying141⟩
instance : TI Tryz.prog 141 (.pointer none) 1 8 := ti_of (by kernel_rfl)
instance : AggT Tryz.prog 142 true := aggT_of (by kernel_rfl)
instance : Fld Tryz.prog 142 0 0 3 := fld_of (by kernel_rfl)
instance : Fld Tryz.prog 142 1 1 107 := fld_of (by kernel_rfl)
instance : PlOf Tryz.prog 142 [(0, 1), (1, 64)] := plof_of (by kernel_rfl)
instance : TI Tryz.prog 142 (.agg ⟨.int .i64 0 :: encL (List.replicate 64 (0 : UInt8))⟩) 65 72 := ti_of (by kernel_rfl)
instance : AggT Tryz.prog 143 true := aggT_of (by kernel_rfl)
instance : Fld Tryz.prog 143 0 0 3 := fld_of (by kernel_rfl)
instance : Fld Tryz.prog 143 1 1 107 := fld_of (by kernel_rfl)
instance : PlOf Tryz.prog 143 [(0, 1), (1, 64)] := plof_of (by kernel_rfl)
instance : TI Tryz.prog 143 (.agg ⟨.int .i64 0 :: encL (List.replicate 64 (0 : UInt8))⟩) 65 72 := ti_of (by kernel_rfl)
instance : AggT Tryz.prog 144 false := aggT_of (by kernel_rfl)
instance : TI Tryz.prog 144 (.nilFunc) 1 8 := ti_of (by kernel_rfl)
instance : AggT Tryz.prog 145 false := aggT_of (by kernel_rfl)
instance : TI Tryz.prog 145 (.nilFunc) 1 8 := ti_of (by kernel_rfl)
instance : AggT Tryz.prog 146 false := aggT_of (by kernel_rfl)
instance : TI Tryz.prog 146 (.nilFunc) 1 8 := ti_of (by kernel_rfl)
instance : AggT Tryz.prog 147 false := aggT_of (by kernel_rfl)
instance : TI Tryz.prog 147 (.nilFunc) 1 8 := ti_of (by kernel_rfl)
instance : AggT Tryz.prog 148 false := aggT_of (by kernel_rfl)
instance : TI Tryz.prog 148 (.nilFunc) 1 8 := ti_of (by kernel_rfl)
instance : Und Tryz.prog 149 (.pointer 174) := ⟨Tryz.underlying149⟩
instance : TI Tryz.prog 149 (.pointer none) 1 8 := ti_of (by kernel_rfl)
instance : AggT Tryz.prog 150 false := aggT_of (by kernel_rfl)
instance : TI Tryz.prog 150 (.nilFunc) 1 8 := ti_of (by kernel_rfl)
instance : AggT Tryz.prog 151 false := aggT_of (by kernel_rfl)
instance : TI Tryz.prog 151 (.nilFunc) 1 8 := ti_of (by kernel_rfl)
instance : AggT Tryz.prog 152 false := aggT_of (by kernel_rfl)
instance : TI Tryz.prog 152 (.nilFunc) 1 8 := ti_of (by kernel_rfl)
instance : AggT Tryz.prog 153 false := aggT_of (by kernel_rfl)
instance : TI Tryz.prog 153 (.nilFunc) 1 8 := ti_of (by kernel_rfl)
instance : AggT Tryz.prog 154 false := aggT_of (by kernel_rfl)
instance : TI Tryz.prog 154 (.nilFunc) 1 8 := ti_of (by kernel_rfl)
instance : Und Tryz.prog 155 (.int .u16) := ⟨Tryz.underlying155⟩
instance : TI Tryz.prog 155 (.int .u16 0) 1 2 := ti_of (by kernel_rfl)
instance : AggT Tryz.prog 156 false := aggT_of (by kernel_rfl)
instance : TI Tryz.prog 156 (.nilFunc) 1 8 := ti_of (by kernel_rfl)
instance : AggT Tryz.prog 157 false := aggT_of (by kernel_rfl)
instance : TI Tryz.prog 157 (.nilFunc) 1 8 := ti_of (by kernel_rfl)
instance : Und Tryz.prog 158 (.array 2 89) := ⟨Tryz.underlying158⟩
instance : TI Tryz.prog 158 (.agg #[.nilFunc, .nilFunc]) 2 16 := ti_of (by kernel_rfl)
instance : AggT Tryz.prog 159 false := aggT_of (by kernel_rfl)
instance : TI Tryz.prog 159 (.nilFunc) 1 8 := ti_of (by kernel_rfl)
instance : AggT Tryz.prog 160 false := aggT_of (by kernel_rfl)
instance : TI Tryz.prog 160 (.nilFunc) 1 8 := ti_of (by kernel_rfl)
instance : AggT Tryz.prog 161 false := aggT_of (by kernel_rfl)
instance : TI Tryz.prog 161 (.nilFunc) 1 8 := ti_of (by kernel_rfl)
instance : Und Tryz.prog 162 (.array 48 5) := ⟨Tryz.underlying162⟩
instance : TI Tryz.prog 162 (.agg ⟨encL (List.replicate 48 (0 : UInt8))⟩) 48 48 := ti_of (by kernel_rfl)
instance : AggT Tryz.prog 163 false := aggT_of (by kernel_rfl)
instance : TI Tryz.prog 163 (.nilFunc) 1 8 := ti_of (by kernel_rfl)
instance : AggT Tryz.prog 164 false := aggT_of (by kernel_rfl)
instance : TI Tryz.prog 164 (.nilFunc) 1 8 := ti_of (by kernel_rfl)
instance : AggT Tryz.prog 165 false := aggT_of (by kernel_rfl)
instance : TI Tryz.prog 165 (.nilFunc) 1 8 := ti_of (by kernel_rfl)
instance : AggT Tryz.prog 166 false := aggT_of (by kernel_rfl)
instance : TI Tryz.prog 166 (.nilFunc) 1 8 := ti_of (by kernel_rfl)
instance : AggT Tryz.prog 167 false := aggT_of (by kernel_rfl)
instance : TI Tryz.prog 167 (.nilFunc) 1 8 := ti_of (by kernel_rfl)
instance : Und Tryz.prog 168 (.array 2 3) := ⟨Tryz.underlying168⟩
instance : TI Tryz.prog 168 (.agg #[.int .i64 0, .int .i64 0]) 2 16 := ti_of (by kernel_rfl)
instance : AggT Tryz.prog 169 false := aggT_of (by kernel_rfl)
instance : TI Tryz.prog 169 (.nilFunc) 1 8 := ti_of (by kernel_rfl)
instance : AggT Tryz.prog 170 false := aggT_of (by kernel_rfl)
instance : TI Tryz.prog 170 (.nilFunc) 1 8 := ti_of (by kernel_rfl)
instance : AggT Tryz.prog 171 true := aggT_of (by kernel_rfl)
instance : Fld Tryz.prog 171 0 0 58 := fld_of (by kernel_rfl)
instance : Fld Tryz.prog 171 1 1 28 := fld_of (by kernel_rfl)
instance : PlOf Tryz.prog 171 [(0, 1), (1, 1)] := plof_of (by kernel_rfl)
instance : TI Tryz.prog 171 (.agg #[.slice none 0 0, .int .i64 0]) 2 32 := ti_of (by kernel_rfl)
instance : AggT Tryz.prog 172 true := aggT_of (by kernel_rfl)
instance : Fld Tryz.prog 172 0 0 58 := fld_of (by kernel_rfl)
instance : Fld Tryz.prog 172 1 1 28 := fld_of (by kernel_rfl)
instance : PlOf Tryz.prog 172 [(0, 1), (1, 1)] := plof_of (by kernel_rfl)
instance : TI Tryz.prog 172 (.agg #[.slice none 0 0, .int .i64 0]) 2 32 := ti_of (by kernel_rfl)
instance : AggT Tryz.prog 173 true := aggT_of (by kernel_rfl)
instance : Fld Tryz.prog 173 0 0 172 := fld_of (by kernel_rfl)
instance : PlOf Tryz.prog 173 [(0, 2)] := plof_of (by kernel_rfl)
instance : TI Tryz.prog 173 (.agg #[.slice none 0 0, .int .i64 0]) 2 32 := ti_of (by kernel_rfl)
instance : AggT Tryz.prog 174 true := aggT_of (by kernel_rfl)
instance : Fld Tryz.prog 174 0 0 172 := fld_of (by kernel_rfl)
instance : PlOf Tryz.prog 174 [(0, 2)] := plof_of (by kernel_rfl)
instance : TI Tryz.prog 174 (.agg #[.slice none 0 0, .int .i64 0]) 2 32 := ti_of (by kernel_rfl)
instance : Und Tryz.prog 175 (.int .u64) := ⟨Tryz.underlying175⟩
instance : TI Tryz.prog 175 (.int .u64 0) 1 8 := ti_of (by kernel_rfl)
instance : AggT Tryz.prog 176 false := aggT_of (by kernel_rfl)
instance : TI Tryz.prog 176 (.nilFunc) 1 8 := ti_of (by kernel_rfl)
instance : AggT Tryz.prog 177 false := aggT_of (by kernel_rfl)
instance : TI Tryz.prog 177 (.nilFunc) 1 8 := ti_of (by kernel_rfl)
instance : AggT Tryz.prog 178 false := aggT_of (by kernel_rfl)
instance : TI Tryz.prog 178 (.nilFunc) 1 8 := ti_of (by kernel_rfl)
instance : AggT Tryz.prog 179 false := aggT_of (by kernel_rfl)
instance : TI Tryz.prog 179 (.nilFunc) 1 8 := ti_of (by kernel_rfl)
instance : AggT Tryz.prog 180 false := aggT_of (by kernel_rfl)
instance : TI Tryz.prog 180 (.nilFunc) 1 8 := ti_of (by kernel_rfl)
instance : AggT Tryz.prog 181 false := aggT_of (by kernel_rfl)
instance : TI Tryz.prog 181 (.nilFunc) 1 8 := ti_of (by kernel_rfl)
instance : Und Tryz.prog 182 (.array 8 108) := ⟨Tryz.underlying182⟩
instance : TI Tryz.prog 182 (.agg #[.int .u32 0, .int .u32 0, .int .u32 0, .int .u32 0, .int .u32 0, .int .u32 0, .int .u32 0, .int .u32 0]) 8 32 := ti_of (by kernel_rfl)
instance : AggT Tryz.prog 183 false := aggT_of (by kernel_rfl)
instance : TI Tryz.prog 183 (.nilFunc) 1 8 := ti_of (by kernel_rfl)
instance : AggT Tryz.prog 184 false := aggT_of (by kernel_rfl)
instance : TI Tryz.prog 184 (.nilFunc) 1 8 := ti_of (by kernel_rfl)
instance : AggT Tryz.prog 185 false := aggT_of (by kernel_rfl)
instance : TI Tryz.prog 185 (.nilFunc) 1 8 := ti_of (by kernel_rfl)
instance : AggT Tryz.prog 186 false := aggT_of (by kernel_rfl)
instance : TI Tryz.prog 186 (.nilFunc) 1 8 := ti_of (by kernel_rfl)
instance : AggT Tryz.prog 187 false := aggT_of (by kernel_rfl)
instance : TI Tryz.prog 187 (.nilFunc) 1 8 := ti_of (by kernel_rfl)
instance : AggT Tryz.prog 188 false := aggT_of (by kernel_rfl)
instance : TI Tryz.prog 188 (.nilFunc) 1 8 := ti_of (by kernel_rfl)
instance : AggT Tryz.prog 189 false := aggT_of (by kernel_rfl)
instance : TI Tryz.prog 189 (.nilFunc) 1 8 := ti_of (by kernel_rfl)
instance : AggT Tryz.prog 190 false := aggT_of (by kernel_rfl)
instance : TI Tryz.prog 190 (.nilFunc) 1 8 := ti_of (by kernel_rfl)
instance : AggT Tryz.prog 191 false := aggT_of (by kernel_rfl)
instance : TI Tryz.prog 191 (.nilFunc) 1 8 := ti_of (by kernel_rfl)
instance : AggT Tryz.prog 192 true := aggT_of (by kernel_rfl)
instance : Fld Tryz.prog 192 0 0 3 := fld_of (by kernel_rfl)
instance : Fld Tryz.prog 192 1 1 3 := fld_of (by kernel_rfl)
instance : Fld Tryz.prog 192 2 2 3 := fld_of (by kernel_rfl)
instance : Fld Tryz.prog 192 3 3 191 := fld_of (by kernel_rfl)
instance : PlOf Tryz.prog 192 [(0, 1), (1, 1), (2, 1), (3, 1)] := plof_of (by kernel_rfl)
instance : TI Tryz.prog 192 (.agg #[.int .i64 0, .int .i64 0, .int .i64 0, .nilFunc]) 4 32 := ti_of (by kernel_rfl)
instance : AggT Tryz.prog 193 true := aggT_of (by kernel_rfl)
instance : Fld Tryz.prog 193 0 0 3 := fld_of (by kernel_rfl)
instance : Fld Tryz.prog 193 1 1 3 := fld_of (by kernel_rfl)
instance : Fld Tryz.prog 193 2 2 3 := fld_of (by kernel_rfl)
instance : Fld Tryz.prog 193 3 3 191 := fld_of (by kernel_rfl)
instance : PlOf Tryz.prog 193 [(0, 1), (1, 1), (2, 1), (3, 1)] := plof_of (by kernel_rfl)
instance : TI Tryz.prog 193 (.agg #[.int .i64 0, .int .i64 0, .int .i64 0, .nilFunc]) 4 32 := ti_of (by kernel_rfl)
instance : Und Tryz.prog 194 (.array 16 108) := ⟨Tryz.underlying194⟩
instance : TI Tryz.prog 194 (.agg #[.int .u32 0, .int .u32 0, .int .u32 0, .int .u32 0, .int .u32 0, .int .u32 0, .int .u32 0, .int .u32 0, .int .u32 0, .int .u32 0, .int .u32 0, .int .u32 0, .int .u32 0, .int .u32 0, .int .u32 0, .int .u32 0]) 16 64 := ti_of (by kernel_rfl)
instance : Und Tryz.prog 195 (.array 64 108) := ⟨Tryz.underlying195⟩
instance : TI Tryz.prog 195 (.agg ⟨.int .u32 0 :: .int .u32 0 :: .int .u32 0 :: .int .u32 0 :: .int .u32 0 :: .int .u32 0 :: .int .u32 0 :: .int .u32 0 :: .int .u32 0 :: .int .u32 0 :: .int .u32 0 :: .int .u32 0 :: .int .u32 0 :: .int .u32 0 :: .int .u32 0 :: .int .u32 0 :: .int .u32 0 :: .int .u32 0 :: .int .u32 0 :: .int .u32 0 :: .int .u32 0 :: .int .u32 0 :: .int .u32 0 :: .int .u32 0 :: .int .u32 0 :: .int .u32 0 :: .int .u32 0 :: .int .u32 0 :: .int .u32 0 :: .int .u32 0 :: .int .u32 0 :: .int .u32 0 :: .int .u32 0 :: .int .u32 0 :: .int .u32 0 :: .int .u32 0 :: .int .u32 0 :: .int .u32 0 :: .int .u32 0 :: .int .u32 0 :: .int .u32 0 :: .int .u32 0 :: .int .u32 0 :: .int .u32 0 :: .int .u32 0 :: .int .u32 0 :: .int .u32 0 :: .int .u32 0 :: .int .u32 0 :: .int .u32 0 :: .int .u32 0 :: .int .u32 0 :: .int .u32 0 :: .int .u32 0 :: .int .u32 0 :: .int .u32 0 :: .int .u32 0 :: .int .u32 0 :: .int .u32 0 :: .int .u32 0 :: .int .u32 0 :: .int .u32 0 :: .int .u32 0 :: .int .u32 0 :: []⟩) 64 256 := ti_of (by kernel_rfl)
instance : AggT Tryz.prog 196 false := aggT_of (by kernel_rfl)
instance : TI Tryz.prog 196 (.nilFunc) 1 8 := ti_of (by kernel_rfl)
instance : Und Tryz.prog 197 (.pointer 108) := ⟨Tryz.underlying197⟩
instance : TI Tryz.prog 197 (.pointer none) 1 8 := ti_of (by kernel_rfl)
instance : AggT Tryz.prog 198 false := aggT_of (by kernel_rfl)
instance : TI Tryz.prog 198 (.nilFunc) 1 8 := ti_of (by kernel_rfl)
instance : AggT Tryz.prog 199 false := aggT_of (by kernel_rfl)
instance : TI Tryz.prog 199 (.nilFunc) 1 8 := ti_of (by kernel_rfl)
instance : Und Tryz.prog 200 (.pointer 172) := ⟨Tryz.underlying200⟩
instance : TI Tryz.prog 200 (.pointer none) 1 8 := ti_of (by kernel_rfl)
instance : AggT Tryz.prog 201 false := aggT_of (by kernel_rfl)
instance : TI Tryz.prog 201 (.nilFunc) 1 8 := ti_of (by kernel_rfl)
instance : AggT Tryz.prog 202 false := aggT_of (by kernel_rfl)
instance : TI Tryz.prog 202 (.nilFunc) 1 8 := ti_of (by kernel_rfl)
instance : Und Tryz.prog 211 (.pointer 5) := ⟨Tryz.underlying211⟩
instance : TI Tryz.prog 211 (.pointer none) 1 8 := ti_of (by kernel_rfl)
instance : FnRes Tryz.f3 [ResultVar.tmp 6] := ⟨rfl⟩
instance : FnRes Tryz.f4 [ResultVar.tmp 6] := ⟨rfl⟩
instance : FnRes Tryz.f5 [ResultVar.tmp 6] := ⟨rfl⟩
instance : FnRes Tryz.f6 [ResultVar.tmp 0] := ⟨rfl⟩
instance : FnRes Tryz.f7 [ResultVar.tmp 2, ResultVar.tmp 3] := ⟨rfl⟩
instance : FnRes Tryz.f8 [ResultVar.tmp 6, ResultVar.tmp 7] := ⟨rfl⟩
instance : FnRes Tryz.f9 [ResultVar.cell 2 23] := ⟨rfl⟩
instance : FnRes Tryz.f10 [ResultVar.tmp 4] := ⟨rfl⟩
instance : FnRes Tryz.f11 [ResultVar.cell 4 41, ResultVar.tmp 5] := ⟨rfl⟩
instance : FnRes Tryz.f12 [ResultVar.tmp 6] := ⟨rfl⟩
instance : FnRes Tryz.f13 [ResultVar.tmp 4] := ⟨rfl⟩
instance : FnRes Tryz.f14 [ResultVar.tmp 4] := ⟨rfl⟩
instance : FnRes Tryz.f15 [ResultVar.tmp 4] := ⟨rfl⟩
instance : FnRes Tryz.f16 [ResultVar.tmp 2, ResultVar.tmp 3] := ⟨rfl⟩
instance : FnRes Tryz.f17 [ResultVar.cell 2 23] := ⟨rfl⟩
instance : FnRes Tryz.f18 [ResultVar.tmp 2] := ⟨rfl⟩
instance : FnRes Tryz.f19 [ResultVar.tmp 4] := ⟨rfl⟩
instance : FnRes Tryz.f20 [ResultVar.tmp 2] := ⟨rfl⟩
instance : FnRes Tryz.f21 [ResultVar.tmp 4] := ⟨rfl⟩
instance : FnRes Tryz.f22 [ResultVar.tmp 4] := ⟨rfl⟩
instance : FnRes Tryz.f23 [ResultVar.tmp 2, ResultVar.tmp 3] := ⟨rfl⟩
instance : FnRes Tryz.f24 [ResultVar.cell 4 28] := ⟨rfl⟩
instance : FnRes Tryz.f25 [ResultVar.cell 4 28] := ⟨rfl⟩
instance : FnRes Tryz.f26 [ResultVar.tmp 2] := ⟨rfl⟩
instance : FnRes Tryz.f27 [ResultVar.tmp 4, ResultVar.tmp 5] := ⟨rfl⟩
instance : FnRes Tryz.f28 [ResultVar.tmp 4] := ⟨rfl⟩
instance : FnRes Tryz.f29 [ResultVar.tmp 2] := ⟨rfl⟩
instance : FnRes Tryz.f30 [ResultVar.tmp 2] := ⟨rfl⟩
instance : FnRes Tryz.f31 [ResultVar.tmp 2, ResultVar.cell 3 28] := ⟨rfl⟩
instance : FnRes Tryz.f32 [ResultVar.cell 6 41, ResultVar.tmp 7] := ⟨rfl⟩
instance : FnRes Tryz.f33 [ResultVar.cell 4 23, ResultVar.tmp 5] := ⟨rfl⟩
instance : FnRes Tryz.f34 [ResultVar.cell 6 23, ResultVar.tmp 7] := ⟨rfl⟩
instance : FnRes Tryz.f35 [ResultVar.tmp 2] := ⟨rfl⟩
instance : FnRes Tryz.f36 [] := ⟨rfl⟩
instance : FnRes Tryz.f37 [] := ⟨rfl⟩
instance : FnRes Tryz.f38 [ResultVar.tmp 3] := ⟨rfl⟩
instance : FnRes Tryz.f39 [ResultVar.tmp 2] := ⟨rfl⟩
instance : FnRes Tryz.f40 [ResultVar.tmp 2] := ⟨rfl⟩
instance : FnRes Tryz.f41 [ResultVar.tmp 6, ResultVar.tmp 7] := ⟨rfl⟩
instance : FnRes Tryz.f42 [ResultVar.tmp 2] := ⟨rfl⟩
instance : FnRes Tryz.f43 [ResultVar.cell 4 41, ResultVar.tmp 5] := ⟨rfl⟩
instance : FnRes Tryz.f44 [ResultVar.tmp 4] := ⟨rfl⟩
instance : FnRes Tryz.f45 [ResultVar.tmp 2] := ⟨rfl⟩
instance : FnRes Tryz.f46 [ResultVar.tmp 2] := ⟨rfl⟩
instance : FnRes Tryz.f47 [ResultVar.tmp 2] := ⟨rfl⟩
instance : FnRes Tryz.f48 [ResultVar.tmp 2] := ⟨rfl⟩
instance : FnRes Tryz.f49 [ResultVar.tmp 4] := ⟨rfl⟩
instance : FnRes Tryz.f50 [ResultVar.cell 2 110, ResultVar.tmp 3] := ⟨rfl⟩
instance : FnRes Tryz.f51 [ResultVar.cell 4 107, ResultVar.tmp 5] := ⟨rfl⟩
instance : FnRes Tryz.f52 [ResultVar.tmp 2] := ⟨rfl⟩
instance : FnRes Tryz.f53 [ResultVar.cell 8 58, ResultVar.cell 9 4] := ⟨rfl⟩
instance : FnRes Tryz.f54 [ResultVar.tmp 2] := ⟨rfl⟩
instance : FnRes Tryz.f55 [ResultVar.tmp 4] := ⟨rfl⟩
instance : FnRes Tryz.f56 [ResultVar.tmp 4] := ⟨rfl⟩
instance : FnRes Tryz.f57 [] := ⟨rfl⟩
instance : FnRes Tryz.f58 [ResultVar.cell 2 110] := ⟨rfl⟩
instance : FnRes Tryz.f59 [ResultVar.tmp 4] := ⟨rfl⟩
instance : FnRes Tryz.f60 [ResultVar.cell 6 28] := ⟨rfl⟩
instance : FnRes Tryz.f61 [ResultVar.tmp 6] := ⟨rfl⟩
instance : FnRes Tryz.f62 [ResultVar.cell 2 53, ResultVar.cell 3 28] := ⟨rfl⟩
instance : FnRes Tryz.f63 [ResultVar.tmp 4] := ⟨rfl⟩
instance : FnRes Tryz.f64 [ResultVar.tmp 4] := ⟨rfl⟩
instance : FnRes Tryz.f65 [] := ⟨rfl⟩
instance : FnRes Tryz.f66 [ResultVar.cell 4 23, ResultVar.tmp 5] := ⟨rfl⟩
instance : FnRes Tryz.f67 [ResultVar.cell 2 23] := ⟨rfl⟩
instance : FnRes Tryz.f68 [ResultVar.cell 4 23] := ⟨rfl⟩
instance : FnRes Tryz.f69 [] := ⟨rfl⟩
instance : FnRes Tryz.f70 [ResultVar.tmp 2] := ⟨rfl⟩
instance : FnRes Tryz.f71 [ResultVar.tmp 4, ResultVar.tmp 5] := ⟨rfl⟩
instance : FnRes Tryz.f72 [ResultVar.tmp 4] := ⟨rfl⟩
instance : FnRes Tryz.f73 [ResultVar.tmp 2] := ⟨rfl⟩
instance : FnRes Tryz.f74 [ResultVar.cell 8 23, ResultVar.tmp 9] := ⟨rfl⟩
instance : FnRes Tryz.f75 [ResultVar.cell 6 23] := ⟨rfl⟩
instance : FnRes Tryz.f76 [ResultVar.tmp 2] := ⟨rfl⟩
instance : FnRes Tryz.f77 [] := ⟨rfl⟩
instance : FnRes Tryz.f78 [ResultVar.tmp 2] := ⟨rfl⟩
instance : FnRes Tryz.f79 [ResultVar.tmp 2] := ⟨rfl⟩
instance : FnRes Tryz.f80 [ResultVar.tmp 4] := ⟨rfl⟩
instance : FnRes Tryz.f81 [ResultVar.tmp 2] := ⟨rfl⟩
instance : FnRes Tryz.f82 [ResultVar.tmp 2] := ⟨rfl⟩
instance : FnRes Tryz.f83 [ResultVar.tmp 2] := ⟨rfl⟩
instance : FnRes Tryz.f84 [ResultVar.tmp 2] := ⟨rfl⟩
instance : FnRes Tryz.f85 [ResultVar.cell 4 107] := ⟨rfl⟩
instance : FnRes Tryz.f86 [ResultVar.tmp 8] := ⟨rfl⟩
instance : FnRes Tryz.f87 [] := ⟨rfl⟩
instance : FnRes Tryz.f88 [ResultVar.cell 4 107] := ⟨rfl⟩
instance : FnRes Tryz.f89 [ResultVar.tmp 2] := ⟨rfl⟩
instance : FnRes Tryz.f90 [ResultVar.tmp 6] := ⟨rfl⟩
instance : FnRes Tryz.f91 [ResultVar.tmp 2] := ⟨rfl⟩
instance : FnRes Tryz.f92 [ResultVar.tmp 2] := ⟨rfl⟩
instance : FnRes Tryz.f93 [ResultVar.tmp 1] := ⟨rfl⟩
instance : FnRes Tryz.f94 [] := ⟨rfl⟩
instance : FnRes Tryz.f95 [ResultVar.tmp 4] := ⟨rfl⟩
instance : FnRes Tryz.f96 [ResultVar.tmp 4] := ⟨rfl⟩
instance : FnRes Tryz.f97 [ResultVar.cell 2 107] := ⟨rfl⟩
instance : FnRes Tryz.f98 [] := ⟨rfl⟩
instance : FnRes Tryz.f99 [ResultVar.cell 2 23] := ⟨rfl⟩
instance : FnRes Tryz.f100 [ResultVar.tmp 2] := ⟨rfl⟩
instance : FnRes Tryz.f101 [ResultVar.tmp 2] := ⟨rfl⟩
instance : FnRes Tryz.f102 [ResultVar.cell 6 23, ResultVar.tmp 7] := ⟨rfl⟩
instance : FnRes Tryz.f103 [] := ⟨rfl⟩
instance : FnRes Tryz.f104 [ResultVar.cell 4 175] := ⟨rfl⟩
instance : FnRes Tryz.f105 [ResultVar.tmp 2] := ⟨rfl⟩
instance : FnRes Tryz.f106 [ResultVar.tmp 2] := ⟨rfl⟩
instance : FnRes Tryz.f107 [] := ⟨rfl⟩
instance : FnRes Tryz.f108 [] := ⟨rfl⟩
instance : FnRes Tryz.f109 [ResultVar.tmp 2] := ⟨rfl⟩
instance : FnRes Tryz.f110 [ResultVar.tmp 6] := ⟨rfl⟩
instance : FnRes Tryz.f111 [ResultVar.tmp 6] := ⟨rfl⟩
instance : FnRes Tryz.f112 [ResultVar.cell 0 182] := ⟨rfl⟩
instance : FnRes Tryz.f113 [ResultVar.tmp 2] := ⟨rfl⟩
instance : FnRes Tryz.f114 [ResultVar.cell 4 182] := ⟨rfl⟩
instance : FnRes Tryz.f115 [] := ⟨rfl⟩
instance : FnRes Tryz.f116 [ResultVar.cell 4 23, ResultVar.tmp 5] := ⟨rfl⟩
instance : FnRes Tryz.f117 [] := ⟨rfl⟩
instance : FnRes Tryz.f118 [] := ⟨rfl⟩
instance : FnRes Tryz.f119 [] := ⟨rfl⟩
instance : FnRes Tryz.f120 [ResultVar.tmp 4] := ⟨rfl⟩
instance : FnRes Tryz.f121 [ResultVar.tmp 4] := ⟨rfl⟩
instance : FnRes Tryz.f122 [ResultVar.tmp 4] := ⟨rfl⟩
instance : FnRes Tryz.f123 [ResultVar.cell 0 195] := ⟨rfl⟩
instance : FnRes Tryz.f124 [ResultVar.tmp 4] := ⟨rfl⟩
instance : FnRes Tryz.f125 [ResultVar.tmp 4] := ⟨rfl⟩
instance : FnRes Tryz.f126 [ResultVar.tmp 6] := ⟨rfl⟩
instance : FnRes Tryz.f142 [] := ⟨rfl⟩
instance : EntF Tryz.prog 3 := ⟨enters_of Tryz.func3 (by kernel_rfl) rfl⟩ -- safehouse/safehouselaw10.SignerOnce
instance : EntF Tryz.prog 4 := ⟨enters_of Tryz.func4 (by kernel_rfl) rfl⟩ -- safehouse/safehouselaw10.SignerDoes
instance : EntF Tryz.prog 5 := ⟨enters_of Tryz.func5 (by kernel_rfl) rfl⟩ -- safehouse/safehouselaw10.SignerOpens
instance : EntF Tryz.prog 6 := ⟨enters_of Tryz.func6 (by kernel_rfl) rfl⟩ -- safehouse/safehouselaw10.wakes
instance : EntF Tryz.prog 7 := ⟨enters_of Tryz.func7 (by kernel_rfl) rfl⟩ -- safehouse/disk.New
instance : EntF Tryz.prog 8 := ⟨enters_of Tryz.func8 (by kernel_rfl) rfl⟩ -- safehouse/signer.Format
instance : EntF Tryz.prog 9 := ⟨enters_of Tryz.func9 (by kernel_rfl) rfl⟩ -- safehouse/merkle.Root
instance : EntF Tryz.prog 10 := ⟨enters_of Tryz.func10 (by kernel_rfl) rfl⟩ -- safehouse/safehouselaw10.few
instance : EntF Tryz.prog 11 := ⟨enters_of Tryz.func11 (by kernel_rfl) rfl⟩ -- (*safehouse/signer.Signer).Sign
instance : EntF Tryz.prog 12 := ⟨enters_of Tryz.func12 (by kernel_rfl) rfl⟩ -- safehouse/merkle.Verify
instance : EntF Tryz.prog 13 := ⟨enters_of Tryz.func13 (by kernel_rfl) rfl⟩ -- (*safehouse/disk.Disk).Fail
instance : EntF Tryz.prog 14 := ⟨enters_of Tryz.func14 (by kernel_rfl) rfl⟩ -- (*safehouse/disk.Disk).Arm
instance : EntF Tryz.prog 15 := ⟨enters_of Tryz.func15 (by kernel_rfl) rfl⟩ -- (*safehouse/disk.Disk).Crash
instance : EntF Tryz.prog 16 := ⟨enters_of Tryz.func16 (by kernel_rfl) rfl⟩ -- safehouse/signer.Open
instance : EntF Tryz.prog 17 := ⟨enters_of Tryz.func17 (by kernel_rfl) rfl⟩ -- (*safehouse/signer.Signer).Root
instance : EntF Tryz.prog 18 := ⟨enters_of Tryz.func18 (by kernel_rfl) rfl⟩ -- (*safehouse/signer.Signer).Next
instance : EntF Tryz.prog 19 := ⟨enters_of Tryz.func19 (by kernel_rfl) rfl⟩ -- safehouse/safehouselaw10.begun
instance : EntF Tryz.prog 20 := ⟨enters_of Tryz.func20 (by kernel_rfl) rfl⟩ -- (*safehouse/safehouselaw10.pair).agrees
instance : EntF Tryz.prog 21 := ⟨enters_of Tryz.func21 (by kernel_rfl) rfl⟩ -- (*safehouse/safehouselaw10.pair).does
instance : EntF Tryz.prog 22 := ⟨enters_of Tryz.func22 (by kernel_rfl) rfl⟩ -- safehouse/safehouselaw10.alike
instance : EntF Tryz.prog 23 := ⟨enters_of Tryz.func23 (by kernel_rfl) rfl⟩ -- safehouse/wal.Open
instance : EntF Tryz.prog 24 := ⟨enters_of Tryz.func24 (by kernel_rfl) rfl⟩ -- (*safehouse/wal.Wal).Checkpoint
instance : EntF Tryz.prog 25 := ⟨enters_of Tryz.func25 (by kernel_rfl) rfl⟩ -- (*safehouse/wal.Wal).Append
instance : EntF Tryz.prog 26 := ⟨enters_of Tryz.func26 (by kernel_rfl) rfl⟩ -- (*safehouse/safehouselaw10.pair).again0
instance : EntF Tryz.prog 27 := ⟨enters_of Tryz.func27 (by kernel_rfl) rfl⟩ -- safehouse/wal.Format
instance : EntF Tryz.prog 28 := ⟨enters_of Tryz.func28 (by kernel_rfl) rfl⟩ -- safehouse/signer.laid
instance : EntF Tryz.prog 29 := ⟨enters_of Tryz.func29 (by kernel_rfl) rfl⟩ -- safehouse/merkle.rows
instance : EntF Tryz.prog 30 := ⟨enters_of Tryz.func30 (by kernel_rfl) rfl⟩ -- (*safehouse/wal.Wal).Broken
instance : EntF Tryz.prog 31 := ⟨enters_of Tryz.func31 (by kernel_rfl) rfl⟩ -- (*safehouse/signer.Signer).take
instance : EntF Tryz.prog 32 := ⟨enters_of Tryz.func32 (by kernel_rfl) rfl⟩ -- safehouse/merkle.Sign
instance : EntF Tryz.prog 33 := ⟨enters_of Tryz.func33 (by kernel_rfl) rfl⟩ -- safehouse/wots.Recover
instance : EntF Tryz.prog 34 := ⟨enters_of Tryz.func34 (by kernel_rfl) rfl⟩ -- safehouse/merkle.Climb
instance : EntF Tryz.prog 35 := ⟨enters_of Tryz.func35 (by kernel_rfl) rfl⟩ -- (*safehouse/disk.Disk).powered
instance : EntF Tryz.prog 36 := ⟨enters_of Tryz.func36 (by kernel_rfl) rfl⟩ -- (*safehouse/disk.count).set
instance : EntF Tryz.prog 37 := ⟨enters_of Tryz.func37 (by kernel_rfl) rfl⟩ -- (*safehouse/disk.stand).settle
instance : EntF Tryz.prog 38 := ⟨enters_of Tryz.func38 (by kernel_rfl) rfl⟩ -- (*safehouse/disk.Disk).Crash$1
instance : EntF Tryz.prog 39 := ⟨enters_of Tryz.func39 (by kernel_rfl) rfl⟩ -- (*safehouse/wal.Wal).Snapshot
instance : EntF Tryz.prog 40 := ⟨enters_of Tryz.func40 (by kernel_rfl) rfl⟩ -- (safehouse/signer.log).taken
instance : EntF Tryz.prog 41 := ⟨enters_of Tryz.func41 (by kernel_rfl) rfl⟩ -- safehouse/safehouselaw10.format
instance : EntF Tryz.prog 42 := ⟨enters_of Tryz.func42 (by kernel_rfl) rfl⟩ -- (*safehouse/signer.Signer).Broken
instance : EntF Tryz.prog 43 := ⟨enters_of Tryz.func43 (by kernel_rfl) rfl⟩ -- (*safehouse/safehouselaw10.model).sign
instance : EntF Tryz.prog 44 := ⟨enters_of Tryz.func44 (by kernel_rfl) rfl⟩ -- safehouse/safehouselaw10.same
instance : EntF Tryz.prog 45 := ⟨enters_of Tryz.func45 (by kernel_rfl) rfl⟩ -- (*safehouse/safehouselaw10.pair).again
instance : EntF Tryz.prog 46 := ⟨enters_of Tryz.func46 (by kernel_rfl) rfl⟩ -- (*safehouse/disk.Disk).Dead
instance : EntF Tryz.prog 47 := ⟨enters_of Tryz.func47 (by kernel_rfl) rfl⟩ -- (*safehouse/disk.Disk).Ops
instance : EntF Tryz.prog 48 := ⟨enters_of Tryz.func48 (by kernel_rfl) rfl⟩ -- (*safehouse/disk.Disk).Pending
instance : EntF Tryz.prog 49 := ⟨enters_of Tryz.func49 (by kernel_rfl) rfl⟩ -- safehouse/safehouselaw10.held
instance : EntF Tryz.prog 50 := ⟨enters_of Tryz.func50 (by kernel_rfl) rfl⟩ -- safehouse/wal.counts
instance : EntF Tryz.prog 51 := ⟨enters_of Tryz.func51 (by kernel_rfl) rfl⟩ -- (*safehouse/disk.Disk).Read
instance : EntF Tryz.prog 52 := ⟨enters_of Tryz.func52 (by kernel_rfl) rfl⟩ -- (safehouse/wal.book).from
instance : EntF Tryz.prog 53 := ⟨enters_of Tryz.func53 (by kernel_rfl) rfl⟩ -- (safehouse/wal.book).stands
instance : EntF Tryz.prog 54 := ⟨enters_of Tryz.func54 (by kernel_rfl) rfl⟩ -- safehouse/wal.Sectors
instance : EntF Tryz.prog 55 := ⟨enters_of Tryz.func55 (by kernel_rfl) rfl⟩ -- (*safehouse/wal.Wal).clears
instance : EntF Tryz.prog 56 := ⟨enters_of Tryz.func56 (by kernel_rfl) rfl⟩ -- (*safehouse/wal.Wal).refuses
instance : EntF Tryz.prog 57 := ⟨enters_of Tryz.func57 (by kernel_rfl) rfl⟩ -- (*safehouse/wal.Wal).breaks
instance : EntF Tryz.prog 58 := ⟨enters_of Tryz.func58 (by kernel_rfl) rfl⟩ -- (safehouse/wal.book).next
instance : EntF Tryz.prog 59 := ⟨enters_of Tryz.func59 (by kernel_rfl) rfl⟩ -- (safehouse/wal.book).begin
instance : EntF Tryz.prog 60 := ⟨enters_of Tryz.func60 (by kernel_rfl) rfl⟩ -- safehouse/wal.lay
instance : EntF Tryz.prog 61 := ⟨enters_of Tryz.func61 (by kernel_rfl) rfl⟩ -- safehouse/wal.leaves
instance : EntF Tryz.prog 62 := ⟨enters_of Tryz.func62 (by kernel_rfl) rfl⟩ -- safehouse/safehouselaw10.open
instance : EntF Tryz.prog 63 := ⟨enters_of Tryz.func63 (by kernel_rfl) rfl⟩ -- safehouse/wal.may
instance : EntF Tryz.prog 64 := ⟨enters_of Tryz.func64 (by kernel_rfl) rfl⟩ -- safehouse/wal.only
instance : EntF Tryz.prog 65 := ⟨enters_of Tryz.func65 (by kernel_rfl) rfl⟩ -- safehouse/merkle.rows$1
instance : EntF Tryz.prog 66 := ⟨enters_of Tryz.func66 (by kernel_rfl) rfl⟩ -- safehouse/merkle.Seed
instance : EntF Tryz.prog 67 := ⟨enters_of Tryz.func67 (by kernel_rfl) rfl⟩ -- safehouse/wots.Key
instance : EntF Tryz.prog 68 := ⟨enters_of Tryz.func68 (by kernel_rfl) rfl⟩ -- safehouse/merkle.Join
instance : EntF Tryz.prog 69 := ⟨enters_of Tryz.func69 (by kernel_rfl) rfl⟩ -- (*safehouse/signer.Signer).take$1
instance : EntF Tryz.prog 70 := ⟨enters_of Tryz.func70 (by kernel_rfl) rfl⟩ -- (*safehouse/wal.Wal).Left
instance : EntF Tryz.prog 71 := ⟨enters_of Tryz.func71 (by kernel_rfl) rfl⟩ -- safehouse/merkle.Path
instance : EntF Tryz.prog 72 := ⟨enters_of Tryz.func72 (by kernel_rfl) rfl⟩ -- safehouse/wots.Sign
instance : EntF Tryz.prog 73 := ⟨enters_of Tryz.func73 (by kernel_rfl) rfl⟩ -- safehouse/wots.Digits
instance : EntF Tryz.prog 74 := ⟨enters_of Tryz.func74 (by kernel_rfl) rfl⟩ -- safehouse/wots.Chain
instance : EntF Tryz.prog 75 := ⟨enters_of Tryz.func75 (by kernel_rfl) rfl⟩ -- safehouse/wots.digest
instance : EntF Tryz.prog 76 := ⟨enters_of Tryz.func76 (by kernel_rfl) rfl⟩ -- safehouse/merkle.leafed
instance : EntF Tryz.prog 77 := ⟨enters_of Tryz.func77 (by kernel_rfl) rfl⟩ -- (safehouse/signer.log).taken$1
instance : EntF Tryz.prog 78 := ⟨enters_of Tryz.func78 (by kernel_rfl) rfl⟩ -- (*safehouse/wal.Wal).All
instance : EntF Tryz.prog 79 := ⟨enters_of Tryz.func79 (by kernel_rfl) rfl⟩ -- (*safehouse/safehouselaw10.model).bytes
instance : EntF Tryz.prog 80 := ⟨enters_of Tryz.func80 (by kernel_rfl) rfl⟩ -- safehouse/safehouseref06.Same
instance : EntF Tryz.prog 81 := ⟨enters_of Tryz.func81 (by kernel_rfl) rfl⟩ -- (*safehouse/disk.Disk).Copy
instance : EntF Tryz.prog 82 := ⟨enters_of Tryz.func82 (by kernel_rfl) rfl⟩ -- (*safehouse/disk.Disk).Len
instance : EntF Tryz.prog 83 := ⟨enters_of Tryz.func83 (by kernel_rfl) rfl⟩ -- safehouse/octet.Read
instance : EntF Tryz.prog 84 := ⟨enters_of Tryz.func84 (by kernel_rfl) rfl⟩ -- (*safehouse/octet.Reader).U32
instance : EntF Tryz.prog 85 := ⟨enters_of Tryz.func85 (by kernel_rfl) rfl⟩ -- safehouse/wal.title
instance : EntF Tryz.prog 86 := ⟨enters_of Tryz.func86 (by kernel_rfl) rfl⟩ -- (*safehouse/disk.Disk).asked
instance : EntF Tryz.prog 87 := ⟨enters_of Tryz.func87 (by kernel_rfl) rfl⟩ -- (*safehouse/disk.Disk).Read$1
instance : EntF Tryz.prog 88 := ⟨enters_of Tryz.func88 (by kernel_rfl) rfl⟩ -- (*safehouse/disk.stand).holds
instance : EntF Tryz.prog 89 := ⟨enters_of Tryz.func89 (by kernel_rfl) rfl⟩ -- (*safehouse/octet.Reader).U16
instance : EntF Tryz.prog 90 := ⟨enters_of Tryz.func90 (by kernel_rfl) rfl⟩ -- (*safehouse/disk.Disk).Write
instance : EntF Tryz.prog 91 := ⟨enters_of Tryz.func91 (by kernel_rfl) rfl⟩ -- (*safehouse/disk.Disk).Sync
instance : EntF Tryz.prog 92 := ⟨enters_of Tryz.func92 (by kernel_rfl) rfl⟩ -- (safehouse/wal.book).begin$1
instance : EntF Tryz.prog 93 := ⟨enters_of Tryz.func93 (by kernel_rfl) rfl⟩ -- (safehouse/wal.book).begin$2
instance : EntF Tryz.prog 94 := ⟨enters_of Tryz.func94 (by kernel_rfl) rfl⟩ -- safehouse/wal.leaves$1
instance : EntF Tryz.prog 95 := ⟨enters_of Tryz.func95 (by kernel_rfl) rfl⟩ -- safehouse/octet.Put32
instance : EntF Tryz.prog 96 := ⟨enters_of Tryz.func96 (by kernel_rfl) rfl⟩ -- safehouse/octet.Put16
instance : EntF Tryz.prog 97 := ⟨enters_of Tryz.func97 (by kernel_rfl) rfl⟩ -- safehouse/wal.sealed
instance : EntF Tryz.prog 98 := ⟨enters_of Tryz.func98 (by kernel_rfl) rfl⟩ -- safehouse/wal.only$1
instance : EntF Tryz.prog 99 := ⟨enters_of Tryz.func99 (by kernel_rfl) rfl⟩ -- safehouse/sha.Sum
instance : EntF Tryz.prog 100 := ⟨enters_of Tryz.func100 (by kernel_rfl) rfl⟩ -- safehouse/wots.starts
instance : EntF Tryz.prog 101 := ⟨enters_of Tryz.func101 (by kernel_rfl) rfl⟩ -- safehouse/wots.chained
instance : EntF Tryz.prog 102 := ⟨enters_of Tryz.func102 (by kernel_rfl) rfl⟩ -- safehouse/wots.Step
instance : EntF Tryz.prog 103 := ⟨enters_of Tryz.func103 (by kernel_rfl) rfl⟩ -- (*safehouse/wal.Wal).All$1
instance : EntF Tryz.prog 104 := ⟨enters_of Tryz.func104 (by kernel_rfl) rfl⟩ -- (*safehouse/octet.Reader).weigh
instance : EntF Tryz.prog 105 := ⟨enters_of Tryz.func105 (by kernel_rfl) rfl⟩ -- (*safehouse/disk.count).met
instance : EntF Tryz.prog 106 := ⟨enters_of Tryz.func106 (by kernel_rfl) rfl⟩ -- (*safehouse/disk.stand).back
instance : EntF Tryz.prog 107 := ⟨enters_of Tryz.func107 (by kernel_rfl) rfl⟩ -- (*safehouse/disk.Disk).Write$1
instance : EntF Tryz.prog 108 := ⟨enters_of Tryz.func108 (by kernel_rfl) rfl⟩ -- (*safehouse/disk.Disk).Sync$1
instance : EntF Tryz.prog 109 := ⟨enters_of Tryz.func109 (by kernel_rfl) rfl⟩ -- (*safehouse/disk.Disk).Sync$1$1
instance : EntF Tryz.prog 110 := ⟨enters_of Tryz.func110 (by kernel_rfl) rfl⟩ -- safehouse/octet.lay[uint32]
instance : EntF Tryz.prog 111 := ⟨enters_of Tryz.func111 (by kernel_rfl) rfl⟩ -- safehouse/octet.lay[uint16]
instance : EntF Tryz.prog 112 := ⟨enters_of Tryz.func112 (by kernel_rfl) rfl⟩ -- safehouse/sha.Start
instance : EntF Tryz.prog 113 := ⟨enters_of Tryz.func113 (by kernel_rfl) rfl⟩ -- safehouse/sha.Pad
instance : EntF Tryz.prog 114 := ⟨enters_of Tryz.func114 (by kernel_rfl) rfl⟩ -- safehouse/sha.Block
instance : EntF Tryz.prog 115 := ⟨enters_of Tryz.func115 (by kernel_rfl) rfl⟩ -- safehouse/wots.starts$1
instance : EntF Tryz.prog 116 := ⟨enters_of Tryz.func116 (by kernel_rfl) rfl⟩ -- safehouse/wots.Start
instance : EntF Tryz.prog 117 := ⟨enters_of Tryz.func117 (by kernel_rfl) rfl⟩ -- (*safehouse/octet.rest).off
instance : EntF Tryz.prog 118 := ⟨enters_of Tryz.func118 (by kernel_rfl) rfl⟩ -- (*safehouse/octet.Reader).weigh$1
instance : EntF Tryz.prog 119 := ⟨enters_of Tryz.func119 (by kernel_rfl) rfl⟩ -- (*safehouse/disk.stand).back$1
instance : EntF Tryz.prog 120 := ⟨enters_of Tryz.func120 (by kernel_rfl) rfl⟩ -- safehouse/octet.Put64
instance : EntF Tryz.prog 121 := ⟨enters_of Tryz.func121 (by kernel_rfl) rfl⟩ -- safehouse/sha.pushed
instance : EntF Tryz.prog 122 := ⟨enters_of Tryz.func122 (by kernel_rfl) rfl⟩ -- safehouse/sha.turned
instance : EntF Tryz.prog 123 := ⟨enters_of Tryz.func123 (by kernel_rfl) rfl⟩ -- safehouse/sha.Constants
instance : EntF Tryz.prog 124 := ⟨enters_of Tryz.func124 (by kernel_rfl) rfl⟩ -- (safehouse/sha.mix).of
instance : EntF Tryz.prog 125 := ⟨enters_of Tryz.func125 (by kernel_rfl) rfl⟩ -- safehouse/sha.Block$1
instance : EntF Tryz.prog 126 := ⟨enters_of Tryz.func126 (by kernel_rfl) rfl⟩ -- safehouse/octet.lay[uint64]
end
end Go.Proofs.YtlphkccfcodmcaaGreat

/- Package octet: numbers laid as bytes. -/
namespace Go.Proofs.YtlphkccfcodmcaaGreat
open Go Go.Wk
set_option synthInstance.maxSize 100000
set_option synthInstance.maxHeartbeats 400000
set_option maxRecDepth 100000

theorem drop_rep (n m : Nat) (z : Value) : ((List.replicate (n + m) [z]).flatten).drop (n * 1) = List.replicate m z := by
  have h : ∀ k, (List.replicate k [z]).flatten = List.replicate k z := fun k => by
    induction k with
    | zero => rfl
    | succ k ih => rw [List.replicate_succ, List.flatten_cons, ih]; rfl
  rw [h, List.drop_replicate]
  congr 1; omega
theorem enc_set1 (l1 l2 : List UInt8) (y y' : UInt8) : (encL (l1 ++ y :: l2)).take l1.length ++ [.int .u8 (y'.toNat : Int)] ++ (encL (l1 ++ y :: l2)).drop (l1.length + 1) = encL (l1 ++ y' :: l2) := by
  have h1 : (encL l1).length = l1.length := by rw [encL_len]; exact Nat.mul_one _
  have e : encL (l1 ++ y :: l2) = encL l1 ++ (.int .u8 (y.toNat : Int) :: encL l2) := by rw [encL_append, encL_cons]; rfl
  rw [e, ← h1, List.take_left, List.drop_append, List.drop_of_length_le (by omega), encL_append, encL_cons]
  simp [Enc.cells]
end Go.Proofs.YtlphkccfcodmcaaGreat

namespace Go.Wk
open Go

/-! loops over functions -/
/-- such a loop's record, and the block of its rounds' deferred calls. -/
def lpI (L D : Nat) (r : Loop) : Item where
  foot := fun k => k = D ∨ k = L
  holds := fun w => w.heap[L]? = some (.loop r) ∧ w.heap[D]? = some (.deferred (some []))
def lpR (b : Loop) (s : LoopState) (p : Option Code) : Loop := { b with state := s, pending := p }
/-- what such loops leave behind in a frame. -/
def marks (Ds : List Nat) : Item where
  foot := fun k => k ∈ Ds
  holds := fun w => Ds.Nodup ∧ ∀ k ∈ Ds, w.heap[k]? = some (.deferred (some []))
def dsOf (Ds : List Nat) : List Deferred := Ds.map fun D => { target := .collected D, args := #[] }
theorem lpI_loc (L D : Nat) (r : Loop) (w1 w2 : World) (h : ∀ k, (lpI L D r).foot k → w2.heap[k]? = w1.heap[k]?) (h1 : (lpI L D r).holds w1) : (lpI L D r).holds w2 :=
  ⟨(h L (.inr rfl)).trans h1.1, (h D (.inl rfl)).trans h1.2⟩
theorem marks_loc (Ds : List Nat) (w1 w2 : World) (h : ∀ k, (marks Ds).foot k → w2.heap[k]? = w1.heap[k]?) (h1 : (marks Ds).holds w1) : (marks Ds).holds w2 :=
  ⟨h1.1, fun k hk => (h k hk).trans (h1.2 k hk)⟩
theorem Agree.putObj {M : Nat → Prop} (w : World) (g : Nat) (o : Obj) (hg : M g) : Agree M w (w.putObj g o) :=
  ⟨rfl, rfl, rfl, by simp, fun k _ hm => World.putObj_heap_other (fun e => hm (e ▸ hg))⟩

/-- a function that is ranged over: what it hands to yield, one thing after the other. M: what the rounds may write of what lay there. -/
def IterRet {α : Type} (P : Program) (g : Nat) (lb : List Value) (w : World) (M : Nat → Prop) (E : α → List Value → World → World → Prop) (xs : List α) : Prop :=
  ∀ (l : Nat) (J : Nat → World → Prop) (Jx : World → Prop),
    (∀ i x vs W0 W1, xs[i]? = some x → J i W0 → Grow W0 W1 → E x vs W0 W1 → YieldAt (FW none) 0 P l vs.toArray W1 fun e W' =>
      Agree M w W' ∧ ((e = .returned (.bool true) ∧ J (i + 1) W') ∨ (e = .returned (.bool false) ∧ Jx W'))) →
    J 0 w →
    CallsIn (FW none) 0 P g (.func (.yield l) #[] #[] :: lb).toArray w fun e W' => (∃ v, e = .returned v) ∧ ∃ W0, Grow W0 W' ∧ (J xs.length W0 ∨ Jx W0)

theorem Wd.rebase {w0 w1 w : World} {M0 M : Nat → Prop} {bs : List Item} {fs : List (World → Prop)} (h : Wd w1 M w bs fs) (ha : Agree M0 w0 w1) (hM : ∀ k, M k → M0 k ∨ w0.heap.size ≤ k) : Wd w0 M0 w bs fs where
  agree := ha.trans' h.agree fun i hi hm => (hM i hm).elim id (fun h => absurd h (by omega))
  held := h.held
  lt := h.lt
  own := fun it hi ho k hk => (h.own it hi ho k hk).elim (hM k) (fun h1 => .inr (Nat.le_trans ha.size h1))
  apart := h.apart
  facts := h.facts
  loc := h.loc
/-- marks are put together. -/
theorem Wd.join {w0 w : World} {M0 : Nat → Prop} {Es Ds : List Nat} {bs bs' : List Item} {fs : List (World → Prop)} (h : Wd w0 M0 w (marks Es :: bs) fs) (hr : ReplI bs (marks Ds) (marks (Es ++ Ds)) bs') : Wd w0 M0 w bs' fs := by
  obtain ⟨pre, post, rfl, rfl⟩ := hr.ex
  have h2 := h.perm (bs' := marks Es :: marks Ds :: (pre ++ post)) (.cons _ (List.perm_middle.symm))
  have hap := List.pairwise_cons.1 h2.apart
  have hap2 := List.pairwise_cons.1 hap.2
  have he : (marks Es).holds w := h2.held _ (by simp)
  have hd : (marks Ds).holds w := h2.held _ (by simp)
  refine Wd.perm (bs := marks (Es ++ Ds) :: (pre ++ post)) ?_ List.perm_middle
  have hfeq : foots (marks (Es ++ Ds) :: (pre ++ post)) = foots (marks Es :: marks Ds :: (pre ++ post)) := by
    funext k
    simp only [foots, List.mem_cons, or_and_right, exists_or, exists_eq_left, marks, List.mem_append, or_assoc]
  refine ⟨h2.agree, ?_, ?_, ?_, List.pairwise_cons.2 ⟨?_, hap2.2⟩, ?_, ?_⟩
  · intro it hi
    rcases List.mem_cons.1 hi with rfl | hi
    · exact ⟨List.nodup_append.2 ⟨he.1, hd.1, fun a ha b hb e => hap.1 (marks Ds) (by simp) a ha (e ▸ hb)⟩, fun k hk => (List.mem_append.1 hk).elim (he.2 k) (hd.2 k)⟩
    · exact h2.held it (by simp only [List.mem_cons]; exact .inr (.inr hi))
  · intro it hi k hk
    rcases List.mem_cons.1 hi with rfl | hi
    · exact (List.mem_append.1 hk).elim (fun q => h2.lt (marks Es) (by simp) k q) (fun q => h2.lt (marks Ds) (by simp) k q)
    · exact h2.lt it (by simp only [List.mem_cons]; exact .inr (.inr hi)) k hk
  · intro it hi ho k hk
    rcases List.mem_cons.1 hi with rfl | hi
    · exact (List.mem_append.1 hk).elim (fun q => h2.own (marks Es) (by simp) rfl k q) (fun q => h2.own (marks Ds) (by simp) rfl k q)
    · exact h2.own it (by simp only [List.mem_cons]; exact .inr (.inr hi)) ho k hk
  · intro it hi k hk
    rcases List.mem_append.1 hk with q | q
    · exact hap.1 it (by simp only [List.mem_cons]; exact .inr hi) k q
    · exact hap2.1 it hi k q
  · intro Φ hΦ
    rw [hfeq]; exact h2.facts Φ hΦ
  · intro it hi
    rcases List.mem_cons.1 hi with rfl | hi
    · exact marks_loc _
    · exact h2.loc it (by simp only [List.mem_cons]; exact .inr (.inr hi))

section
variable {P : Program} {Q : Exit → Act → World → Prop} {w0 : World} {M0 : Nat → Prop} {ds : List Deferred} {a : Act} {w : World} {l : List Value} {bs bs' : List Item} {fs : List (World → Prop)}

/-- what a round's end must bring. -/
def RoundEnd (P : Program) (L : Nat) (w1 : World) (M : Nat → Prop) (J : World → Prop) (Jx : Code → World → Prop) : Exit → Act → World → Prop :=
  roundPost P L fun e W' => Agree M w1 W' ∧ ((e = .returned (.bool true) ∧ J W') ∨ (e = .returned (.bool false) ∧ ∃ c, Jx c W'))
theorem Wd.putLoop {L D : Nat} {r r' : Loop} (h : Wd w0 M0 w bs fs) [hr : ReplI bs (lpI L D r) (lpI L D r') bs'] : w.heap[L]? = some (.loop r) ∧ Wd w0 M0 (w.putObj L (.loop r')) bs' fs := by
  obtain ⟨pre, post, rfl, rfl⟩ := hr.ex
  have hm : lpI L D r ∈ pre ++ lpI L D r :: post := by simp
  have hl := h.held _ hm
  have hlt : L < w.heap.size := (Array.getElem?_eq_some_iff.1 hl.1).1
  have hDL : D ≠ L := fun e => by have h1 := hl.1; have h2 := hl.2; rw [e, h1] at h2; cases h2
  exact ⟨hl.1, h.swap rfl (Agree.putObj w L _ (.inr rfl)) ⟨World.putObj_heap_same hlt, (World.putObj_heap_other hDL).trans hl.2⟩ (fun k hk => .inl hk) (fun k hk => by simpa using h.lt _ hm k hk) (lpI_loc _ _ _)⟩
theorem rend {L D : Nat} {b : Loop} {w1 : World} {M : Nat → Prop} {J : World → Prop} {Jx : Code → World → Prop} (S : St w1 M ds a w l bs fs) (jump : Option Code)
    [hr : ReplI bs (lpI L D (lpR b .busy none)) (lpI L D (lpR b (if jump.isNone then .ready else .done) jump)) bs']
    (h : ∀ W', Wd w1 M W' bs' fs → (jump = none → J W') ∧ (∀ c, jump = some c → Jx c W')) : ∃ v w', (Instr.endRound L jump).run P w = .ok v w' ∧ (Agree M w1 w' ∧ ((Ending.returned v = .returned (.bool true) ∧ J w') ∨ (Ending.returned v = .returned (.bool false) ∧ ∃ c, Jx c w'))) := by
  obtain ⟨hl, hwd⟩ := S.wd.putLoop (L := L) (D := D) (r := lpR b .busy none) (r' := lpR b (if jump.isNone then .ready else .done) jump)
  obtain ⟨h1, h2⟩ := h _ hwd
  refine ⟨_, _, run_endRound (P := P) jump hl, hwd.agree, ?_⟩
  cases jump with
  | none => exact .inl ⟨rfl, h1 rfl⟩
  | some c => exact .inr ⟨rfl, c, h2 c rfl⟩
theorem rnext {L D : Nat} {b : Loop} {w1 : World} {M : Nat → Prop} {J : World → Prop} {Jx : Code → World → Prop} (S : St w1 M ds a w l bs fs)
    [hr : ReplI bs (lpI L D (lpR b .busy none)) (lpI L D (lpR b .ready none)) bs'] (h : ∀ W', Wd w1 M W' bs' fs → J W') : RoundEnd P L w1 M J Jx .normal a w :=
  rend (D := D) (b := b) S none (hr := hr) fun W' hW => ⟨fun _ => h W' hW, fun _ h => by cases h⟩
theorem rret {L D : Nat} {b : Loop} {w1 : World} {M : Nat → Prop} {J : World → Prop} {Jx : Code → World → Prop} (S : St w1 M ds a w l bs fs)
    [hr : ReplI bs (lpI L D (lpR b .busy none)) (lpI L D (lpR b .done (some .ret))) bs'] (h : ∀ W', Wd w1 M W' bs' fs → Jx .ret W') : RoundEnd P L w1 M J Jx .ret a w :=
  rend (D := D) (b := b) S (some .ret) (hr := hr) fun W' hW => ⟨fun h => by (cases h), fun _ h' => by cases h'; exact h W' hW⟩
theorem rexit {L D id : Nat} {b : Loop} {w1 : World} {M : Nat → Prop} {J : World → Prop} {Jx : Code → World → Prop} (S : St w1 M ds a w l bs fs)
    [hr : ReplI bs (lpI L D (lpR b .busy none)) (lpI L D (lpR b .done (some (.exit id)))) bs'] (h : ∀ W', Wd w1 M W' bs' fs → Jx (.exit id) W') : RoundEnd P L w1 M J Jx (.exit id) a w :=
  rend (D := D) (b := b) S (some (.exit id)) (hr := hr) fun W' hW => ⟨fun h => by (cases h), fun _ h' => by cases h'; exact h W' hW⟩
/-- the body has begun: the record is busy. -/
theorem rbegin {L D : Nat} {b : Loop} {w1 : World} {M : Nat → Prop} {K : Act → World → Prop} (S : St w1 M ds a w l bs fs)
    [hr : ReplI bs (lpI L D (lpR b .ready none)) (lpI L D (lpR b .busy none)) bs']
    (h : ∀ a w, St w1 M ds a w l bs' fs → K a w) : ∃ w2, (Instr.beginRound L).run P w = .ok () w2 ∧ K a w2 := by
  obtain ⟨hl, hwd⟩ := S.wd.putLoop (L := L) (D := D) (r := lpR b .ready none) (r' := lpR b .busy none)
  exact ⟨_, run_beginRound (P := P) hl rfl, h _ _ ⟨S.slots, S.defers, hwd⟩⟩
theorem foldl_put (ps : List Nat) (vs : List Value) : ∀ (t : Array Value), (ps.toArray.zip vs.toArray).foldl (fun t (p, v) => t.setIfInBounds p v) t = (ps.zip vs).foldl (fun t (x : Nat × Value) => t.setIfInBounds x.1 x.2) t := by
  intro t
  simp
/-- the slots of a round. -/
class PutPs (l : List Value) (ps : List Nat) (vs : List Value) (l' : outParam (List Value)) : Prop where eq : (ps.zip vs).foldl (fun (t : Array Value) (x : Nat × Value) => t.setIfInBounds x.1 x.2) l.toArray = l'.toArray ∧ vs.length = ps.length
instance putps0 {l : List Value} : PutPs l [] [] l := ⟨by simp⟩
instance putpsS {l l1 l' : List Value} {p : Nat} {v : Value} {ps : List Nat} {vs : List Value} [h : PutAt l p v l1] [h' : PutPs l1 ps vs l'] : PutPs l (p :: ps) (v :: vs) l' := ⟨by
  obtain ⟨h1, h2⟩ := h'.eq
  have := h.eq
  simp [← h1, h2, ← this]⟩
/-- a loop over a function. -/
theorem c_range {α : Type} {g : Operand} {ps : List Nat} {assign body : Code} {gf : Nat} {lb : List Value} {Ds : List Nat} {κ κx : Type} {E : α → List Value → World → World → Prop} (xs : List α)
    (bsI : Nat → κ → List Item) (fsI : Nat → κ → List (World → Prop)) (φ : Nat → κ → Prop) (bsX : κx → List Item) (fsX : κx → List (World → Prop)) (ψ : Code → κx → Prop) (k0 : κ)
    (S : St w0 M0 (dsOf Ds) a w l bs fs) [EntF P gf] [hg : Ev ⟨[], l⟩ g (.func (.func gf) #[] ⟨lb⟩)]
    (hit : ∀ (M : Nat → Prop) (w1 : World), (∀ k, M k → k < w1.heap.size) → (∀ Φ ∈ fs, Stable M w1 Φ) → (∀ it ∈ bs, it.own = false → Stable M w1 it.holds) → IterRet P gf lb w1 M E xs)
    (hk0 : φ 0 k0 ∧ bsI 0 k0 = bs ∧ fsI 0 k0 = fs)
    (hround : ∀ (L D : Nat) (b : Loop) (M : Nat → Prop) (w1 : World) (i : Nat) (x : α) (vs : List Value) (k : κ) (W0 W : World), xs[i]? = some x → φ i k → Wd w1 M W0 (lpI L D (lpR b .ready none) :: bsI i k) (fsI i k) → Grow W0 W → E x vs W0 W → ∃ lx, PutPs l ps vs lx ∧ ∀ a,
      St w1 M [] a W lx (lpI L D (lpR b .ready none) :: bsI i k) (fsI i k) →
      Wp P (some L) assign (Exit.then (fun a w => ∃ w2, (Instr.beginRound L).run P w = .ok () w2 ∧ Wp P (some L) body (RoundEnd P L w1 M (fun W => ∃ k', φ (i + 1) k' ∧ Wd w1 M W (lpI L D (lpR b .ready none) :: bsI (i + 1) k') (fsI (i + 1) k'))
        (fun c W => (c = .ret ∨ ∃ id, c = .exit id) ∧ ∃ k', ψ c k' ∧ Wd w1 M W (lpI L D (lpR b .done (some c)) :: bsX k') (fsX k'))) a w2) (fun _ _ _ => False)) a W)
    (hdone : ∀ (D : Nat) (k : κ) (a : Act) (W : World), φ xs.length k → St w0 M0 (dsOf ([D] ++ Ds)) a W l (marks [D] :: bsI xs.length k) (fsI xs.length k) → Q .normal a W)
    (hret : ∀ (D : Nat) (k : κx) (a : Act) (W : World), ψ .ret k → St w0 M0 (dsOf ([D] ++ Ds)) a W l (marks [D] :: bsX k) (fsX k) → Q .ret a W)
    (hexit : ∀ (id D : Nat) (k : κx) (a : Act) (W : World), ψ (.exit id) k → St w0 M0 (dsOf ([D] ++ Ds)) a W l (marks [D] :: bsX k) (fsX k) → Q (.exit id) a W) :
    Wp P none (.rangeFunc g ps.toArray assign body) Q a w := by
  refine wpIn_rangeFunc ?_
  intro fn _
  obtain ⟨b, hb⟩ : ∃ b : Loop, b = { state := .ready, pending := none, fn := fn, tmps := a.tmps, params := ps.toArray, assign := assign, body := body, defers := w.heap.size } := ⟨_, rfl⟩
  obtain ⟨w1, hw1⟩ : ∃ w1, (w.alloc (.deferred (some []))).alloc (.loop b) = w1 := ⟨_, rfl⟩
  have hL1 : w1.heap[w.heap.size + 1]? = some (.loop b) := by
    rw [← hw1]; have := World.alloc_heap_new (w.alloc (.deferred (some []))) (.loop b); rwa [World.size_alloc] at this
  have hD1 : w1.heap[w.heap.size]? = some (.deferred (some [])) := by
    rw [← hw1]; exact (RowKit.Below.heap_alloc _ _ _ (by simp)).trans (World.alloc_heap_new w _)
  have hsz : w1.heap.size = w.heap.size + 2 := by rw [← hw1]; simp
  have hgrow : Grow w w1 := by rw [← hw1]; exact (Agree.alloc _ w _).trans (Agree.alloc _ _ _)
  have hlpr : lpR b .ready none = b := by rw [hb]; rfl
  obtain ⟨M, hM⟩ : ∃ M : Nat → Prop, M = fun k => k = w.heap.size ∨ k = w.heap.size + 1 ∨ ∃ it ∈ bs, it.own = true ∧ it.foot k := ⟨_, rfl⟩
  have hwd1 : Wd w1 M w1 (lpI (w.heap.size + 1) w.heap.size (lpR b .ready none) :: bs) fs := by
    have hst := S.wd.step hgrow
    refine ⟨Agree.refl _ _, ?_, ?_, ?_, List.pairwise_cons.2 ⟨?_, hst.apart⟩, ?_, ?_⟩
    · intro it hi
      rcases List.mem_cons.1 hi with rfl | hi
      · exact ⟨by rw [hlpr]; exact hL1, hD1⟩
      · exact hst.held it hi
    · intro it hi k hk
      rcases List.mem_cons.1 hi with rfl | hi
      · simp only [lpI] at hk; omega
      · exact hst.lt it hi k hk
    · intro it hi ho k hk
      rw [hM]
      rcases List.mem_cons.1 hi with rfl | hi
      · exact .inl (hk.elim .inl (fun h => .inr (.inl h)))
      · exact .inl (.inr (.inr ⟨it, hi, ho, hk⟩))
    · intro it hi k hk hk'
      have := S.wd.lt it hi k hk'
      simp only [lpI] at hk; omega
    · intro Φ hΦ w'' hw''
      refine S.wd.facts Φ hΦ w'' ((hgrow.mono (fun _ _ h => h.elim)).trans' hw'' fun i hi ⟨it, hm, hk⟩ => ?_)
      rcases List.mem_cons.1 hm with rfl | hm
      · simp only [lpI] at hk; omega
      · exact ⟨it, hm, hk⟩
    · intro it hi
      rcases List.mem_cons.1 hi with rfl | hi
      · exact lpI_loc _ _ _
      · exact hst.loc it hi
  have hMlt : ∀ k, M k → k < w1.heap.size := fun k hk => by
    rw [hM] at hk
    rcases hk with rfl | rfl | ⟨it, hi, _, hk⟩
    · omega
    · omega
    · have := S.wd.lt it hi k hk; omega
  have hMf : ∀ Φ ∈ fs, Stable M w1 Φ := fun Φ hΦ => (hwd1.facts Φ hΦ).less fun k _ hk => by
    rw [hM] at hk
    rcases hk with rfl | rfl | ⟨it, hi, _, hk⟩
    · exact ⟨_, List.mem_cons_self .., .inl rfl⟩
    · exact ⟨_, List.mem_cons_self .., .inr rfl⟩
    · exact ⟨it, List.mem_cons_of_mem _ hi, hk⟩
  have hMr : ∀ it ∈ bs, it.own = false → Stable M w1 it.holds := fun it hi ho w2 hw2 => by
    have hst := S.wd.step hgrow
    refine hst.loc it hi w1 w2 (fun k hk => hw2.blk (hst.lt it hi k hk) fun hm => ?_) (hst.held it hi)
    rw [hM] at hm
    have hlt := S.wd.lt it hi k hk
    rcases hm with rfl | rfl | ⟨it', hi', ho', hk'⟩
    · omega
    · omega
    · exact apart_of S.wd.apart hi hi' (by rw [ho, ho']; simp) k hk hk'
  have hM0 : ∀ k, M k → M0 k ∨ w0.heap.size ≤ k := fun k hk => by
    have := S.wd.agree.size
    rw [hM] at hk
    rcases hk with rfl | rfl | ⟨it, hi, ho, hk⟩
    · exact .inr this
    · exact .inr (by omega)
    · exact S.wd.own it hi ho k hk
  have hag : Agree M0 w0 w1 := (S.wd.step hgrow).agree
  have hfin : ∀ (r : Loop) (bs2 : List Item) (fs2 : List (World → Prop)) (W : World), r.state ≠ .busy → Wd w1 M W (lpI (w.heap.size + 1) w.heap.size r :: bs2) fs2 →
      ∃ W', (Instr.endLoop (w.heap.size + 1)).run P W = .ok r.pending W' ∧ St w0 M0 (dsOf ([w.heap.size] ++ Ds)) { a with defers := [{ target := .collected w.heap.size, args := #[] }] ++ a.defers } W' l (marks [w.heap.size] :: bs2) fs2 := fun r bs2 fs2 W hr hwd => by
    have hl : W.heap[w.heap.size + 1]? = some (.loop r) ∧ W.heap[w.heap.size]? = some (.deferred (some [])) := hwd.held _ (List.mem_cons_self ..)
    have hlt : w.heap.size + 1 < W.heap.size := (Array.getElem?_eq_some_iff.1 hl.1).1
    refine ⟨_, run_endLoop (P := P) hl.1 hr, S.slots, by rw [S.defers]; rfl, ?_⟩
    refine (hwd.rebase hag hM0).swap (pre := []) (y := marks [w.heap.size]) rfl (Agree.putObj W _ _ (.inr rfl)) ⟨by simp, fun k hk => ?_⟩ (fun k hk => .inl ?_) (fun k hk => ?_) (marks_loc _)
    · obtain rfl := List.mem_singleton.1 hk
      exact (World.putObj_heap_other (by omega)).trans hl.2
    · obtain rfl := List.mem_singleton.1 hk; exact .inl rfl
    · obtain rfl := List.mem_singleton.1 hk; simp; omega
  have heg := hg.eq (by simp) a.defers
  have hae : a.eval g = .func (.func gf) #[] ⟨lb⟩ := S.fr.ev
  refine ⟨w.heap.size + 1, [{ target := .collected w.heap.size, args := #[] }], w1, { target := .fn (.func gf) ⟨lb⟩, args := #[.func (.yield (w.heap.size + 1)) #[] #[]] }, w1, gf,
    (.func (.yield (w.heap.size + 1)) #[] #[] :: lb).toArray, w1, ?_, ?_, fun _ _ => trivial, ?_, fun h => (by cases h), ?_⟩
  · rw [← hw1, hb]; exact run_enterLoop_outer _ _ _ _ _
  · simp only [resolve, hae]
    simp [go_sem]
  · have := EntF.run (P := P) (f := gf) (.func (.yield (w.heap.size + 1)) #[] #[] :: lb).toArray w1
    simpa [invoke, go_sem] using this
  · have hI := hit M w1 hMlt hMf hMr
    refine CallsIn.mono (hI (w.heap.size + 1) (fun i W => ∃ k, φ i k ∧ Wd w1 M W (lpI (w.heap.size + 1) w.heap.size (lpR b .ready none) :: bsI i k) (fsI i k))
      (fun W => ∃ c, (c = .ret ∨ ∃ id, c = .exit id) ∧ ∃ k, ψ c k ∧ Wd w1 M W (lpI (w.heap.size + 1) w.heap.size (lpR b .done (some c)) :: bsX k) (fsX k)) ?_ ⟨k0, hk0.1, by rw [hk0.2.1, hk0.2.2]; exact hwd1⟩) ?_
    · rintro i x vs W0 W1 hx ⟨k, hφ, hwd⟩ hgr hE
      have hwdg := hwd.step hgr
      have hl : W1.heap[w.heap.size + 1]? = some (.loop (lpR b .ready none)) := (hwdg.held _ (List.mem_cons_self ..)).1
      obtain ⟨lx, hps, hround'⟩ := hround (w.heap.size + 1) w.heap.size b M w1 i x vs k W0 W1 hx hφ hwd hgr hE
      have hp := hps.eq
      have hy := run_yield (P := P) (args := vs.toArray) hl (by rw [hb]; simpa [lpR] using hp.2)
      refine ⟨_, _, _, _, hy, roundIn_of_wpIn trivial ?_⟩
      have e1 : (((lpR b .ready none).params.zip vs.toArray).foldl (fun tmps (t, a) => tmps.setIfInBounds t a) (lpR b .ready none).tmps) = lx.toArray := by
        rw [hb]
        simp only [lpR, S.slots, foldl_put, hp.1]
      rw [e1]
      have := hround' { tmps := lx.toArray, defers := [] } ⟨rfl, rfl, hwdg⟩
      simp only [hb, lpR] at this ⊢
      refine wpIn_mono this ?_
      intro e a' w' he
      cases e with
      | normal =>
        obtain ⟨w2, h1, h2⟩ := he
        exact ⟨w2, h1, h2⟩
      | _ => exact he.elim
    · rintro e W ⟨⟨v, rfl⟩, W0, hgr, ⟨k, hφ, hwd⟩ | ⟨c, hc, k, hψ, hwd⟩⟩
      · obtain ⟨W', h1, h2⟩ := hfin (lpR b .ready none) _ _ W (by simp [lpR]) (hwd.step hgr)
        exact ⟨none, W', h1, hdone _ k _ W' hφ h2⟩
      · obtain ⟨W', h1, h2⟩ := hfin (lpR b .done (some c)) _ _ W (by simp [lpR]) (hwd.step hgr)
        refine ⟨some c, W', h1, ?_⟩
        rcases hc with rfl | ⟨id, rfl⟩
        · exact wpIn_ret (hret _ k _ W' hψ h2)
        · exact wpIn_exit (hexit id _ k _ W' hψ h2)

theorem St.join {Es Ds : List Nat} (S : St w0 M0 ds a w l (marks Es :: bs) fs) [hr : ReplI bs (marks Ds) (marks (Es ++ Ds)) bs'] : St w0 M0 ds a w l bs' fs := ⟨S.slots, S.defers, S.wd.join hr⟩
/-! a function with such loops: its beginning and its end -/
theorem enterM {f : Nat} {fn : Func} {c : Code} {args : List Value} {l : List Value} {R : Ending → World → Prop} {M0 : Nat → Prop} {bs : List Item} {fs : List (World → Prop)}
    (hf : P.funcs[f]? = some fn) (hb : fn.body = some c) (hl : args ++ List.replicate (fn.ntmps - args.length) undef = l) (hw : Wd w M0 w bs fs)
    (h : ∀ a, St w M0 (dsOf []) a w l (marks [] :: bs) fs → Wp P none c (bodyPostM (FW none) 0 P fn R) a w) : Calls P f args.toArray w R := by
  refine (callsIn_wide (n := 0)).1 (callsIn_of_wp_marks (F := FW none) (n := 0) hf hb trivial (h _ ⟨?_, rfl, ?_⟩))
  · simp [← hl]
  · exact hw.more (y := marks []) ⟨by simp, by simp⟩ (fun k hk => by cases hk) (fun k hk => by cases hk) (fun it _ k hk => by cases hk)
      (fun Φ hΦ => (hw.facts Φ hΦ).less fun k _ ⟨it, hi, hk⟩ => by
        rcases List.mem_cons.1 hi with rfl | hi
        · cases hk
        · exact ⟨it, hi, hk⟩) (marks_loc _)
theorem leavesM {fn : Func} {R : Ending → World → Prop} {t : Array Value} : ∀ (Ds : List Nat) (w : World), Wd w0 M0 w (marks Ds :: bs) fs → (∀ w', Wd w0 M0 w' bs fs → LeavesIn (FW none) 0 P fn t R [] .returning w') → LeavesInM (FW none) 0 P fn t R (dsOf Ds) .returning w
  | [], w, hw, h => h w (hw.sub (bs0 := bs) (List.sublist_cons_self ..) (List.Sublist.refl _))
  | D :: Ds, w, hw, h => by
    have hm : (marks (D :: Ds)).holds w := hw.held _ (List.mem_cons_self ..)
    have hD := hm.2 D (List.mem_cons_self ..)
    have hlt : D < w.heap.size := (Array.getElem?_eq_some_iff.1 hD).1
    refine ⟨by simp, .inl ⟨D, _, rfl, run_takeDeferred (P := P) hD, leavesM Ds _ ?_ h⟩⟩
    refine hw.swap (pre := []) (y := marks Ds) rfl (Agree.putObj w D _ (List.mem_cons_self ..)) ⟨(List.nodup_cons.1 hm.1).2, fun k hk => ?_⟩ (fun k hk => .inl (List.mem_cons_of_mem _ hk)) (fun k hk => ?_) (marks_loc _)
    · exact (World.putObj_heap_other (fun (e : k = D) => (List.nodup_cons.1 hm.1).1 (by rw [← e]; exact hk))).trans (hm.2 k (List.mem_cons_of_mem _ hk))
    · simpa using hw.lt _ (List.mem_cons_self ..) k (List.mem_cons_of_mem _ hk)
class DropI (bs : List Item) (x : Item) (bs' : outParam (List Item)) : Prop where perm : (x :: bs').Perm bs
instance dri0 {x : Item} {bs : List Item} : DropI (x :: bs) x bs := ⟨.refl _⟩
instance (priority := 900) driS {x y : Item} {bs bs' : List Item} [h : DropI bs x bs'] : DropI (y :: bs) x (y :: bs') := ⟨(List.Perm.swap _ _ _).trans (.cons _ h.perm)⟩
theorem finM {fn : Func} {R : Value → World → Prop} {e : Exit} {Ds : List Nat} {v : Value} (S : St w0 M0 (dsOf Ds) a w l bs fs) [hd : DropI bs (marks Ds) bs'] (hv : ∀ w, (∀ it ∈ bs', it.holds w) → (results fn l.toArray).run P w = .ok v w) (h : ∀ w, Wd w0 M0 w bs' fs → R v w) (he : e = .ret ∨ e = .normal := by simp) :
    bodyPostM (FW none) 0 P fn (fun e w' => ∃ v, e = .returned v ∧ Agree M0 w0 w' ∧ R v w') e a w := by
  have key : LeavesInM (FW none) 0 P fn a.tmps (fun e w' => ∃ v, e = .returned v ∧ Agree M0 w0 w' ∧ R v w') a.defers .returning w := by
    rw [S.defers, S.slots]
    refine leavesM Ds w (S.wd.perm hd.perm) fun w' hw' => ?_
    exact ⟨v, hv w' hw'.held, v, rfl, hw'.agree, h w' hw'⟩
  rcases he with rfl | rfl <;> exact key
theorem endM1 {fn : Func} {R : Value → World → Prop} {e : Exit} {Ds : List Nat} {r1 : ResultVar} {v1 : Value} [hr : FnRes fn [r1]] (S : St w0 M0 (dsOf Ds) a w l bs fs) [hd : DropI bs (marks Ds) bs'] [h1 : ResV P l bs' r1 v1] (h : ∀ w, Wd w0 M0 w bs' fs → R v1 w) (he : e = .ret ∨ e = .normal := by simp) :
    bodyPostM (FW none) 0 P fn (fun e w' => ∃ v, e = .returned v ∧ Agree M0 w0 w' ∧ R v w') e a w :=
  finM S (fun w hw => by rw [results_eq (rs := [r1])]; simp [run_res (P := P) (l := l) (bs := bs') (rv := r1) (v := v1) w hw]) h he
theorem endM0 {fn : Func} {R : Value → World → Prop} {e : Exit} {Ds : List Nat} [hr : FnRes fn []] (S : St w0 M0 (dsOf Ds) a w l bs fs) [hd : DropI bs (marks Ds) bs'] (h : ∀ w, Wd w0 M0 w bs' fs → R (.tuple #[]) w) (he : e = .ret ∨ e = .normal := by simp) :
    bodyPostM (FW none) 0 P fn (fun e w' => ∃ v, e = .returned v ∧ Agree M0 w0 w' ∧ R v w') e a w :=
  finM S (fun w hw => by rw [results_eq (rs := [])]; simp) h he
theorem endM2 {fn : Func} {R : Value → World → Prop} {e : Exit} {Ds : List Nat} {r1 r2 : ResultVar} {v1 v2 : Value} [hr : FnRes fn [r1, r2]] (S : St w0 M0 (dsOf Ds) a w l bs fs) [hd : DropI bs (marks Ds) bs'] [h1 : ResV P l bs' r1 v1] [h2 : ResV P l bs' r2 v2] (h : ∀ w, Wd w0 M0 w bs' fs → R (.tuple ⟨[v1, v2]⟩) w) (he : e = .ret ∨ e = .normal := by simp) :
    bodyPostM (FW none) 0 P fn (fun e w' => ∃ v, e = .returned v ∧ Agree M0 w0 w' ∧ R v w') e a w :=
  finM S (fun w hw => by rw [results_eq (rs := [r1, r2])]; simp [run_res (P := P) (l := l) (bs := bs') (rv := r1) (v := v1) w hw, run_res (P := P) (l := l) (bs := bs') (rv := r2) (v := v2) w hw]) h he
end
end Go.Wk

namespace Go.Wk
open Go

/-! a region whose order is drawn, where more than one loud operation may come next -/
inductive Tr where
  | e
  | q (i : Nat) (t : Tr)
  | l (i : Nat) (t : Tr)
  | b2 (i j : Nat) (t u : Tr)
  | b3 (i j k : Nat) (t u v : Tr)
  | b4 (i j k m : Nat) (t u v x : Tr)
def Tr.len : Tr → Nat
  | .e => 0
  | .q _ t | .l _ t => t.len + 1
  | .b2 _ _ t _ => t.len + 1
  | .b3 _ _ _ t _ _ => t.len + 1
  | .b4 _ _ _ _ t _ _ _ => t.len + 1
def flowT (ops : Array Oper) : Tr → Array Bool → Bool
  | .e, listed => (Region.ready .any ops listed).isEmpty
  | .q i t, listed => ((Region.ready .any ops listed).contains i && Region.free .any ops listed i) && flowT ops t (listed.setIfInBounds i true)
  | .l i t, listed => (match Region.ready .any ops listed with | [j] => Nat.beq j i | _ => false) && flowT ops t (listed.setIfInBounds i true)
  | .b2 i j t u, listed => (match Region.ready .any ops listed with | [x, y] => Nat.beq x i && Nat.beq y j | _ => false) && (Nat.beq u.len t.len && (flowT ops t (listed.setIfInBounds i true) && flowT ops u (listed.setIfInBounds j true)))
  | .b3 i j k t u v, listed => (match Region.ready .any ops listed with | [x, y, z] => Nat.beq x i && (Nat.beq y j && Nat.beq z k) | _ => false) && (Nat.beq u.len t.len && (Nat.beq v.len t.len && (flowT ops t (listed.setIfInBounds i true) && (flowT ops u (listed.setIfInBounds j true) && flowT ops v (listed.setIfInBounds k true)))))
  | .b4 i j k m t u v x, listed => (match Region.ready .any ops listed with | [a, y, z, b] => Nat.beq a i && (Nat.beq y j && (Nat.beq z k && Nat.beq b m)) | _ => false) && (Nat.beq u.len t.len && (Nat.beq v.len t.len && (Nat.beq x.len t.len && (flowT ops t (listed.setIfInBounds i true) && (flowT ops u (listed.setIfInBounds j true) && (flowT ops v (listed.setIfInBounds k true) && flowT ops x (listed.setIfInBounds m true)))))))
section
variable {P : Program} {ops : Array Oper} {C : World → Prop} {R : Act → World → Prop}
variable {r : Option Nat} {Q : Exit → Act → World → Prop} {w0 : World} {M0 : Nat → Prop} {ds : List Deferred} {a : Act} {w : World} {l l' : List Value} {bs bs' bs0 : List Item} {fs fs0 : List (World → Prop)}
  {d : Option Nat} {op : Op} {ty : TypeId} {pos : String} {af : Array Edge} {rest : List Oper} {v v' G : Value} {j g : Nat} {pol : Bool} {cs : List Bool} {n : Nat} {listed : Array Bool}
def AT (P : Program) (ops : Array Oper) (C : World → Prop) (R : Act → World → Prop) (t : Tr) (a : Act) (w : World) : Prop :=
  ∀ listed, Region.noSelect ops = true → flowT ops t listed = true → AC P ops C R t.len listed a w
variable {t u x : Tr} {i k : Nat}
theorem tq (S : St w0 M0 ds a w l bs fs) [hb : SubL bs0 bs] [hf : SubL fs0 fs] [ho : OpAt ops i ⟨d, op, ty, pos, af, none⟩] [hq : OpQ P op ty ⟨[], l⟩ bs0 fs0 v] [hp : PutO l d v l']
    (K : ∀ a, St w0 M0 ds a w l' bs fs → AT P ops (fun w => Wd w0 M0 w bs0 fs0) R t a w) :
    AT P ops (fun w => Wd w0 M0 w bs0 fs0) R (.q i t) a w := by
  intro listed hs hflow
  simp only [flowT, Bool.and_eq_true] at hflow
  refine ac_first ho.eq (Region.noSelect_spec hs) _ listed a w (Region.free_spec ho.eq hflow.1.2) (by simpa using hflow.1.1) (v := v) (.inl ⟨rfl, fun w' hw' => ?_⟩) (S.wd.sub hb.sub hf.sub) (K _ S.put _ hs hflow.2)
  rw [execOp_eq]
  exact hq.run a.eval w' S.fr hw'.mem
/-- one operation out of those that are ready. -/
theorem wn_of {o : Oper} [ho : OpAt ops i o] {K : Act → World → Prop} (h : WL P none ops (fun e a' w' => e = .normal ∧ K a' w') [o] a w) : WN P ops i K a w := by
  unfold WN wpOpIn
  simp only [ho.eq]
  simp only [WL, wpListIn] at h
  split
  · rename_i hw
    rw [if_pos hw] at h
    refine ⟨fun _ _ => trivial, ?_⟩
    have h := h.2
    generalize (o.semAt (FW none).round a.eval).run P w = q at *
    cases q with
    | ok x w' =>
      cases x <;> simp only [Oper.uponIn] at h ⊢
      case value u => exact h.2
      case skip => exact h.2
      case defer d => exact h.2
      case enter f args =>
        refine ⟨h.1, CallsIn.mono h.2 fun e w'' he => ?_⟩
        cases e with
        | returned u => exact he.2
        | panicked c => exact absurd he.1 (by simp)
        | outgrown => obtain ⟨_, _, he, _⟩ := he; exact absurd he (by simp)
      case row row args => exact ⟨h.1, RowsIn.mono h.2 fun u w'' he => he.2⟩
      case round l f tmps assign body =>
        refine ⟨h.1, RoundIn.mono h.2 fun e w'' he => ?_⟩
        cases e with
        | returned u => exact he.2
        | panicked c => exact absurd he.1 (by simp)
        | outgrown => obtain ⟨_, _, he, _⟩ := he; exact absurd he (by simp)
    | halt x w' =>
      cases x <;> simp only [Oper.uponIn] at h ⊢
      case panic u => exact absurd h.1 (by simp)
  · rename_i hw
    rw [if_neg hw] at h
    exact ⟨fun _ _ => trivial, h.2.2⟩
theorem tl {o : Oper} [ho : OpAt ops i o] (h : WL P none ops (fun e a' w' => e = .normal ∧ C w' ∧ AT P ops C R t a' w') [o] a w) : AT P ops C R (.l i t) a w := by
  intro listed hs hflow
  simp only [flowT, Bool.and_eq_true] at hflow
  have hr : Region.ready .any ops listed = [i] := by
    have := hflow.1
    split at this
    · rename_i k hk; rw [hk, Nat.eq_of_beq_eq_true this]
    · cases this
  refine ⟨fun h0 => (by rw [h0] at hr; cases hr), fun k hk => ?_⟩
  rw [hr] at hk
  obtain rfl : k = i := by simpa using hk
  exact wpOpIn_mono (fun a' w' h' => ⟨h'.1, h'.2 _ hs hflow.2⟩) (wn_of h)
theorem tb2 {oi oj : Oper} [hi : OpAt ops i oi] [hj : OpAt ops j oj] (h1 : WL P none ops (fun e a' w' => e = .normal ∧ C w' ∧ AT P ops C R t a' w') [oi] a w) (h2 : WL P none ops (fun e a' w' => e = .normal ∧ C w' ∧ AT P ops C R u a' w') [oj] a w) : AT P ops C R (.b2 i j t u) a w := by
  intro listed hs hflow
  simp only [flowT, Bool.and_eq_true] at hflow
  have hr : Region.ready .any ops listed = [i, j] := by
    have := hflow.1
    split at this
    · rename_i x y hk
      simp only [Bool.and_eq_true] at this
      rw [hk, Nat.eq_of_beq_eq_true this.1, Nat.eq_of_beq_eq_true this.2]
    · cases this
  have hlen := Nat.eq_of_beq_eq_true hflow.2.1
  refine ⟨fun h0 => (by rw [h0] at hr; cases hr), fun k hk => ?_⟩
  rw [hr] at hk
  rcases List.mem_cons.1 hk with rfl | hk
  · exact wpOpIn_mono (fun a' w' h' => ⟨h'.1, h'.2 _ hs hflow.2.2.1⟩) (wn_of h1)
  · obtain rfl := List.mem_singleton.1 hk
    refine wpOpIn_mono (fun a' w' h' => ⟨h'.1, ?_⟩) (wn_of h2)
    have := h'.2 _ hs hflow.2.2.2
    rwa [hlen] at this
theorem te [hb : SubL bs0 bs] [hf : SubL fs0 fs] (S : St w0 M0 ds a w l bs fs) (h : AT P ops (fun w => Wd w0 M0 w bs0 fs0) R t a w) : WL P none ops (fun e a' w' => e = .normal ∧ Wd w0 M0 w' bs0 fs0 ∧ AT P ops (fun w => Wd w0 M0 w bs0 fs0) R t a' w') [] a w :=
  wl_nil ⟨rfl, S.wd.sub hb.sub hf.sub, h⟩
theorem tn (h : R a w) : AT P ops C R .e a w := by
  intro listed hs hflow
  have hr : Region.ready .any ops listed = [] := by simpa [flowT] using hflow
  exact ⟨hr, h⟩
theorem ac_mono {R' : Act → World → Prop} (hR : ∀ a w, R a w → R' a w) : ∀ (fuel : Nat) (listed : Array Bool) (a : Act) (w : World), AC P ops C R fuel listed a w → AC P ops C R' fuel listed a w
  | 0, _, _, _, h => ⟨h.1, hR _ _ h.2⟩
  | fuel + 1, _, _, _, h => ⟨fun h0 => hR _ _ (h.1 h0), fun i hi => wpOpIn_mono (fun _ _ h' => ⟨h'.1, ac_mono hR fuel _ _ _ h'.2⟩) (h.2 i hi)⟩
/-- such a region; whatever the order, the frame is then as I says. -/
theorem c_drawT {id : Nat} {lo : List Oper} (t : Tr) (bs0 : List Item) (S : St w0 M0 ds a w l bs fs) (I : Act → World → Prop) (h : ∀ w, St w0 M0 ds a w l bs fs → AT P lo.toArray (fun w => Wd w0 M0 w bs0 fs) I t a w)
    (hk : ∀ a w, I a w → Q .normal a w) (hm : P.follows .mixedOrders = true := by kernel_rfl)
    (hd : ((lo.all fun o => !isDefer o.op) && (Nat.beq t.len lo.length && (Region.noSelect lo.toArray && flowT lo.toArray t (Array.replicate lo.length false)))) = true := by kernel_rfl) : Wp P r (.region id lo.toArray true) Q a w := by
  simp only [Bool.and_eq_true] at hd
  refine wpIn_region_any hm (any_of_ac (C := fun w => Wd w0 M0 w bs0 fs) (fun i o ho => ?_) _ _ _ _ ?_)
  · have := List.all_eq_true.1 hd.1 o (by
      rw [List.getElem?_toArray] at ho
      exact List.mem_of_getElem? ho)
    simpa using this
  · have := h { w with drawn := w.drawn + 1 } ⟨S.slots, S.defers, S.wd.step (Agree.drawn _ w _)⟩ _ hd.2.2.1 hd.2.2.2
    rw [Nat.eq_of_beq_eq_true hd.2.1] at this
    simpa using ac_mono hk _ _ _ _ this
theorem c_drawT0 {id : Nat} {lo : List Oper} {l2 : List Value} {bs2 : List Item} {fs2 : List (World → Prop)} (t : Tr) (ids : List Nat) [DropBs bs ids bs0] (S : St w0 M0 ds a w l bs fs) (h : ∀ w, St w0 M0 ds a w l bs fs → AT P lo.toArray (fun w => Wd w0 M0 w bs0 fs) (fun a w => St w0 M0 ds a w l2 bs2 fs2) t a w)
    (hk : ∀ a w, St w0 M0 ds a w l2 bs2 fs2 → Q .normal a w) (hm : P.follows .mixedOrders = true := by kernel_rfl)
    (hd : ((lo.all fun o => !isDefer o.op) && (Nat.beq t.len lo.length && (Region.noSelect lo.toArray && flowT lo.toArray t (Array.replicate lo.length false)))) = true := by kernel_rfl) : Wp P r (.region id lo.toArray true) Q a w :=
  c_drawT t _ S _ h hk hm hd
theorem c_drawT1 {id : Nat} {lo : List Oper} {l2 : Nat → List Value} {bs2 : Nat → List Item} {fs2 : Nat → List (World → Prop)} (t : Tr) (ids : List Nat) [DropBs bs ids bs0] (S : St w0 M0 ds a w l bs fs) (h : ∀ w, St w0 M0 ds a w l bs fs → AT P lo.toArray (fun w => Wd w0 M0 w bs0 fs) (fun a w => ∃ b, St w0 M0 ds a w (l2 b) (bs2 b) (fs2 b)) t a w)
    (hk : ∀ b a w, St w0 M0 ds a w (l2 b) (bs2 b) (fs2 b) → Q .normal a w) (hm : P.follows .mixedOrders = true := by kernel_rfl)
    (hd : ((lo.all fun o => !isDefer o.op) && (Nat.beq t.len lo.length && (Region.noSelect lo.toArray && flowT lo.toArray t (Array.replicate lo.length false)))) = true := by kernel_rfl) : Wp P r (.region id lo.toArray true) Q a w :=
  c_drawT t _ S _ h (fun a w ⟨b, h⟩ => hk b a w h) hm hd
end
/-- a function value, with what it captures. -/
instance opMakeFunc {P ty} {l : Cx} {bs fs} {f : Nat} {fi ca : List Operand} {vs us : List Value} [EvL l fi vs] [EvL l ca us] : OpQ P (.makeFunc (.func f) fi.toArray ca.toArray) ty l bs fs (.func (.func f) ⟨vs⟩ ⟨us⟩) := ⟨fun ρ w h _ => by
  have e1 := h.evl (xs := fi) (vs := vs)
  have e2 := h.evl (xs := ca) (vs := us)
  simp [xop, execOp, e1, e2, Instr.makeFunc]⟩
end Go.Wk

namespace Go.Wk
open Go
section
variable {P : Program} {r : Option Nat} {ops : Array Oper} {Q : Exit → Act → World → Prop} {w0 : World} {M0 : Nat → Prop} {ds : List Deferred} {a : Act} {w : World} {l : List Value} {bs bs' : List Item} {fs fs0 : List (World → Prop)}
  {d : Option Nat} {op : Op} {ty : TypeId} {pos : String} {af : Array Edge} {rest : List Oper} {ts : Array TypeId}
/-- a call of yield. -/
theorem sy {x : Operand} {xs : List Operand} {L : Nat} {vs : List Value} {l' : Bool → List Value} {wI : World} {M : Nat → Prop} {J Jx : World → Prop} [hx : Ev ⟨[], l⟩ x (.func (.yield L) #[] #[])] [hv : EvL ⟨[], l⟩ xs vs] [hp : ∀ b : Bool, PutO l d (.bool b) (l' b)]
    (S : St w0 M0 ds a w l bs fs) (hF : ∀ Φ ∈ fs0, Stable M wI Φ)
    (hy : YieldAt (FW none) 0 P L vs.toArray w fun e W' => Agree M wI W' ∧ ((e = .returned (.bool true) ∧ J W') ∨ (e = .returned (.bool false) ∧ Jx W')))
    (K : ∀ (b : Bool) (N : Nat → Prop) a W, (b = true → J W) → (b = false → Jx W) → St W (fun _ => False) ds a W (l' b) [ext N] fs0 → WL P r ops Q rest a W) :
    WL P r ops Q (⟨d, .call { callee := .value x, args := xs.toArray, argTypes := ts }, ty, pos, af, none⟩ :: rest) a w := by
  refine wl_plain rfl ?_
  rw [semAt_nd rfl]
  obtain ⟨fn, tmps, assign, body, hrun, hround⟩ := hy
  have hf : a.eval x = .func (.yield L) #[] #[] := S.fr.ev
  have e := S.fr.evl (xs := xs) (vs := vs)
  have e1 : (xop a.eval (.call { callee := .value x, args := xs.toArray, argTypes := ts }) ty).run P w = .ok (.round L fn tmps assign body) w := by
    rw [← hrun]
    simp [xop, execOp, resolve, hf, Deferred.ofValue, invoke, e]
  simp only [e1, Oper.uponIn]
  refine ⟨fun h => (by cases h), RoundIn.mono hround ?_⟩
  have key : ∀ (b : Bool) (W : World), Agree M wI W → (b = true → J W) → (b = false → Jx W) → WL P r ops Q rest (a.put d (.bool b)) W := fun b W hag h1 h2 => by
    have := hp b
    have S' := S.put (d := d) (v := .bool b)
    refine K b (fun k => (M k ∨ wI.heap.size ≤ k) ∧ k < W.heap.size) _ W h1 h2 ⟨S'.slots, S'.defers, Wd.beginM (fun k hk => hk.2) fun Φ hΦ w'' hw'' => hF Φ hΦ w'' (hag.trans' hw'' fun i hi hk => ?_)⟩
    rcases hk.1 with h | h
    · exact h
    · omega
  rintro e W ⟨hag, ⟨rfl, hJ⟩ | ⟨rfl, hJ⟩⟩
  · exact key true W hag (fun _ => hJ) (fun h => by cases h)
  · exact key false W hag (fun h => by cases h) (fun _ => hJ)
/-- a slice cut out of a slice. -/
class EvB (l : Cx) (x : Option Operand) (dflt : Nat) (v : outParam Nat) : Prop where
  eq : (x = none ∧ v = dflt) ∨ ∃ o kk, x = some o ∧ Ev l o (.int kk (v : Int))
instance evb0 {l : Cx} {n : Nat} : EvB l none n n := ⟨.inl ⟨rfl, rfl⟩⟩
instance evb1 {l : Cx} {x : Operand} {n m : Nat} {kk : IntKind} {mi : Int} [h : Ev l x (.int kk mi)] [hm : IsNat mi m] : EvB l (some x) n m := ⟨.inr ⟨x, kk, rfl, by have := hm.eq; subst this; exact h⟩⟩
theorem run_sliceBound {P : Program} {kk : IntKind} {v y : Nat} (h : v ≤ y) (code : BoundsCode) (w : World) : (Instr.sliceBound (.int kk (v : Int)) y code).run P w = .ok v w := by
  simp [Instr.sliceBound, asIntOf, h]
/-! scopes that no goto goes through -/
theorem c_scope {c : Code} (h : Wp P r c (Exit.noGoto Q) a w) : Wp P r (.scope c) Q a w := by
  intro b k cs hro hb hr
  have h0 : (lone (b.atR a (.code (.scope c) :: k)) cs w).fenced P (FW r) := fenced_calm hb hr rfl
  have s1 : step P (lone (b.atR a (.code (.scope c) :: k)) cs w) = .next (lone (b.atR a (.code c :: .inScope c :: k)) cs w) := step_lone_go (by simp [stepG, stepG.exec, Frame.atR])
  have s2 : ∀ (a : Act) (w : World), step P (lone (b.atR a (.inScope c :: k)) cs w) = .next (lone (b.atR a k) cs w) := fun a w => step_lone_go (by simp [stepG, stepG.exec, Frame.atR])
  obtain ⟨e, a₁, w₁, hq, harr⟩ := h b (.inScope c :: k) cs hro hb hr
  cases e with
  | normal => exact ⟨.normal, a₁, w₁, hq, .head h0 s1 (StepsIn.trans harr (.one (fenced_calm hb hr rfl) (s2 _ _)))⟩
  | exit id =>
    have hx : exitTo id (.inScope c :: k) = exitTo id k := by simp [exitTo]
    exact ⟨.exit id, a₁, w₁, hq, fun k' hk => .head h0 s1 (harr.1 k' (by rw [hx]; exact hk)), fun hr' hk => let ⟨k₁, h1, h2⟩ := harr.2 hr' (by rw [hx]; exact hk); ⟨k₁, h1, .head h0 s1 h2⟩⟩
  | goto l => exact hq.elim
  | ret => exact ⟨_, a₁, w₁, hq, .of_steps (.one h0 s1) harr⟩
  | panic ch => exact ⟨_, a₁, w₁, hq, .of_steps (.one h0 s1) harr⟩
  | outgrown => exact ⟨_, a₁, w₁, hq, .of_steps (.one h0 s1) harr⟩
theorem xsr (h : Q .ret a w) : Exit.noGoto Q .ret a w := h
/-! what is one's own is lent to an iterator -/
def Item.ro (x : Item) : Item := { x with own := false }
theorem St.toRo {x : Item} (S : St w0 M0 ds a w l bs fs) [hr : ReplI bs x x.ro bs'] : St w0 M0 ds a w l bs' fs := by
  obtain ⟨pre, post, rfl, rfl⟩ := hr.ex
  have h := S.wd
  have key : ∀ it, it ∈ pre ++ x.ro :: post → ∃ y, y ∈ pre ++ x :: post ∧ y.foot = it.foot ∧ y.holds = it.holds ∧ (it.own = true → y.own = true) := fun it hi => by
    rcases List.mem_append.1 hi with hi | hi
    · exact ⟨it, by simp [hi], rfl, rfl, id⟩
    · rcases List.mem_cons.1 hi with rfl | hi
      · exact ⟨x, by simp, rfl, rfl, fun h => by cases h⟩
      · exact ⟨it, by simp [hi], rfl, rfl, id⟩
  have hfe : foots (pre ++ x.ro :: post) = foots (pre ++ x :: post) := foots_repl rfl
  refine ⟨S.slots, S.defers, h.agree, ?_, ?_, ?_, ?_, ?_, ?_⟩
  · intro it hi; obtain ⟨y, hy, _, h2, _⟩ := key it hi; rw [← h2]; exact h.held y hy
  · intro it hi k hk; obtain ⟨y, hy, h1, _, _⟩ := key it hi; exact h.lt y hy k (h1 ▸ hk)
  · intro it hi ho k hk; obtain ⟨y, hy, h1, _, h3⟩ := key it hi; exact h.own y hy (h3 ho) k (h1 ▸ hk)
  · have hap := List.pairwise_append.1 h.apart
    have hap2 := List.pairwise_cons.1 hap.2.1
    exact List.pairwise_append.2 ⟨hap.1, List.pairwise_cons.2 hap2, fun u hu y hy => by
      rcases List.mem_cons.1 hy with rfl | hy
      · exact hap.2.2 u hu x (by simp)
      · exact hap.2.2 u hu y (by simp [hy])⟩
  · intro Φ hΦ; rw [hfe]; exact h.facts Φ hΦ
  · intro it hi w1 w2 hk hh; obtain ⟨y, hy, h1, h2, _⟩ := key it hi; rw [← h2] at hh ⊢; exact h.loc y hy w1 w2 (fun k hk' => hk k (h1 ▸ hk')) hh
theorem St.unRo {x : Item} (S : St w0 M0 ds a w l bs fs) [hr : ReplI bs x.ro x bs'] (hown : ∀ k, x.foot k → M0 k ∨ w0.heap.size ≤ k) : St w0 M0 ds a w l bs' fs := by
  obtain ⟨pre, post, rfl, rfl⟩ := hr.ex
  have h := S.wd
  have key : ∀ it, it ∈ pre ++ x :: post → ∃ y, y ∈ pre ++ x.ro :: post ∧ y.foot = it.foot ∧ y.holds = it.holds ∧ (it = x ∨ y.own = it.own) := fun it hi => by
    rcases List.mem_append.1 hi with hi | hi
    · exact ⟨it, by simp [hi], rfl, rfl, .inr rfl⟩
    · rcases List.mem_cons.1 hi with rfl | hi
      · exact ⟨it.ro, by simp, rfl, rfl, .inl rfl⟩
      · exact ⟨it, by simp [hi], rfl, rfl, .inr rfl⟩
  have hfe : foots (pre ++ x :: post) = foots (pre ++ x.ro :: post) := foots_repl rfl
  refine ⟨S.slots, S.defers, h.agree, ?_, ?_, ?_, ?_, ?_, ?_⟩
  · intro it hi; obtain ⟨y, hy, _, h2, _⟩ := key it hi; rw [← h2]; exact h.held y hy
  · intro it hi k hk; obtain ⟨y, hy, h1, _, _⟩ := key it hi; exact h.lt y hy k (h1 ▸ hk)
  · intro it hi ho k hk
    obtain ⟨y, hy, h1, _, h3⟩ := key it hi
    rcases h3 with rfl | h3
    · exact hown k hk
    · exact h.own y hy (h3 ▸ ho) k (h1 ▸ hk)
  · have hap := List.pairwise_append.1 h.apart
    have hap2 := List.pairwise_cons.1 hap.2.1
    exact List.pairwise_append.2 ⟨hap.1, List.pairwise_cons.2 hap2, fun u hu y hy => by
      rcases List.mem_cons.1 hy with rfl | hy
      · exact hap.2.2 u hu y.ro (by simp)
      · exact hap.2.2 u hu y (by simp [hy])⟩
  · intro Φ hΦ; rw [hfe]; exact h.facts Φ hΦ
  · intro it hi w1 w2 hk hh; obtain ⟨y, hy, h1, h2, _⟩ := key it hi; rw [← h2] at hh ⊢; exact h.loc y hy w1 w2 (fun k hk' => hk k (h1 ▸ hk')) hh
end
end Go.Wk
namespace Go.Wk
theorem St.boxNew {w0 M0 ds a w l bs fs} (S : St w0 M0 ds a w l bs fs) (b : Nat) {t : TypeId} {cs : List Value} [h : HasBox bs b t cs] : M0 b ∨ w0.heap.size ≤ b := S.wd.own _ h.mem rfl b rfl
end Go.Wk
namespace Go.Wk
instance isnatL0 : IsNat 0 0 := ⟨rfl⟩
instance isnatL1 : IsNat 1 1 := ⟨rfl⟩
instance isnatL2 : IsNat 2 2 := ⟨rfl⟩
instance isnatL3 : IsNat 3 3 := ⟨rfl⟩
instance isnatL4 : IsNat 4 4 := ⟨rfl⟩
end Go.Wk
namespace Go.Wk
/-- an iterator's end. -/
theorem endI {P : Program} {fn : Func} {R : World → Prop} {w0 : World} {M0 : Nat → Prop} {a : Act} {w : World} {l : List Value} {bs : List Item} {fs : List (World → Prop)} {e : Exit} [hr : FnRes fn []] (S : St w0 M0 [] a w l bs fs) (h : R w) (he : e = .ret ∨ e = .normal := by simp) :
    bodyPost P fn (fun e w' => (∃ v, e = .returned v) ∧ R w') e a w := by
  have hv : (results fn l.toArray).run P w = .ok (.tuple #[]) w := by rw [results_eq (rs := [])]; simp
  rw [← S.slots] at hv
  rcases he with rfl | rfl
  · exact bodyPost_ret hv S.defers ⟨⟨_, rfl⟩, h⟩
  · exact bodyPost_end hv S.defers ⟨⟨_, rfl⟩, h⟩
end Go.Wk
namespace Go.Wk
instance (priority := 100) mulnAny {i s : Nat} : MulN i s (i * s) := ⟨rfl⟩
end Go.Wk

namespace Go.Wk
open Go
section
variable {P : Program} {ty : TypeId} {l : Cx} {bs : List Item} {fs : List (World → Prop)} {x y : Operand} {t e : TypeId}
instance (priority := 960) opIdxB {lc : Cx} {b n c k o : Nat} {kk : IntKind} {m : Int} {z : Value} {sz by_ : Nat} [Ev lc x (.slice (some ⟨b, 0, none⟩) n c)] [Ev lc y (.int kk m)] [Und P t (.slice e)] [TI P e z sz by_] [hm : IsNat m k] [hk : KLt k n] [hmul : MulN k sz o] :
    OpQ P (.indexAddr t x y) ty lc bs fs (.pointer (some ⟨b, o, none⟩)) := ⟨fun ρ w h mm => by
  have hlt := hk.lt
  have h2 := hm.eq
  subst h2
  have he : (⟨b, 0, none⟩ : Addr).add (k * sz) = ⟨b, o, none⟩ := by rw [hmul.eq, add_lit]
  simp [xop, execOp, h.ev (x := x) (v := .slice (some ⟨b, 0, none⟩) n c), h.ev (x := y) (v := .int kk (k : Int))]
  simp [run_indexAt (P := P) (t := t) (e := e) (z := z) (sz := sz) (by_ := by_) (Int.natCast_nonneg k) (Int.ofNat_lt.2 hlt), he]⟩
class LeC (a b : Nat) : Prop where le : a ≤ b
instance (priority := 1100) lec0 {a : Nat} : LeC a a := ⟨Nat.le_refl _⟩
class HiOk (om oh : Option Operand) : Prop where ok : om.isSome = true → oh.isSome = true
instance hiok0 {oh : Option Operand} : HiOk none oh := ⟨fun h => by cases h⟩
instance hiok1 {om : Option Operand} {x : Operand} : HiOk om (some x) := ⟨fun _ => rfl⟩
end
section
variable {P : Program} {r : Option Nat} {ops : Array Oper} {Q : Exit → Act → World → Prop} {w0 : World} {M0 : Nat → Prop} {ds : List Deferred} {a : Act} {w : World} {l : List Value} {bs bs' : List Item} {fs : List (World → Prop)}
  {d : Option Nat} {op : Op} {ty : TypeId} {pos : String} {af : Array Edge} {rest : List Oper} {v : Value} {t e : TypeId} {sz by_ n c : Nat} {z : Value} {p : Option Addr} {xs : List Value} {x y : Operand}
theorem add_lit_off (g o j : Nat) : (⟨g, o, none⟩ : Addr).add j = ⟨g, o + j, none⟩ := by unfold Addr.add; split <;> simp_all
theorem run_cut {ρ : Operand → Value} {lc : Cx} {ol oh om : Option Operand} {lo hi mx : Nat} [Ev lc x (.slice p n c)] [hl : EvB lc ol 0 lo] [hh : EvB lc oh n hi] [hx : EvB lc om c mx] [Und P t (.slice e)] [TI P e z sz by_] (hf : Fr ρ lc)
    (h1 : mx ≤ c) (h2 : hi ≤ mx) (h3 : lo ≤ hi) (hxh : om.isSome = true → oh.isSome = true) (w : World) :
    (xop ρ (.slice t x ol oh om) ty).run P w = .ok (.value (.slice (if mx = lo then p else p.map (·.add (lo * sz))) (hi - lo) (mx - lo))) w := by
  have hsz := run_size (P := P) (t := e) (z := z) (s := sz) (b := by_) w
  have eX : ρ x = .slice p n c := hf.ev
  have hb : (Instr.sliceBounds true n c (ol.map ρ) (oh.map ρ) (om.map ρ)).run P w = .ok (lo, hi, mx) w := by
    rcases hx.eq with ⟨rfl, rfl⟩ | ⟨o, kk, rfl, h⟩
    · rcases hh.eq with ⟨rfl, rfl⟩ | ⟨o2, kk2, rfl, h'⟩
      · rcases hl.eq with ⟨rfl, rfl⟩ | ⟨o3, kk3, rfl, h''⟩
        · simp [Instr.sliceBounds]
        · have e3 := hf.ev (x := o3) (v := .int kk3 (lo : Int))
          simp [Instr.sliceBounds, e3, run_sliceBound h3]
      · have e2 := hf.ev (x := o2) (v := .int kk2 (hi : Int))
        have h2' : hi ≤ mx := h2
        rcases hl.eq with ⟨rfl, rfl⟩ | ⟨o3, kk3, rfl, h''⟩
        · simp [Instr.sliceBounds, e2, run_sliceBound h2']
        · have e3 := hf.ev (x := o3) (v := .int kk3 (lo : Int))
          simp [Instr.sliceBounds, Sem.run_bind, e2, e3, run_sliceBound h2', run_sliceBound h3]
    · have e1 := hf.ev (x := o) (v := .int kk (mx : Int))
      rcases hh.eq with ⟨rfl, rfl⟩ | ⟨o2, kk2, rfl, h'⟩
      · exact absurd (hxh rfl) (by simp)
      · have e2 := hf.ev (x := o2) (v := .int kk2 (hi : Int))
        rcases hl.eq with ⟨rfl, rfl⟩ | ⟨o3, kk3, rfl, h''⟩
        · simp [Instr.sliceBounds, Sem.run_bind, e1, e2, run_sliceBound h1, run_sliceBound h2]
        · have e3 := hf.ev (x := o3) (v := .int kk3 (lo : Int))
          simp [Instr.sliceBounds, Sem.run_bind, e1, e2, e3, run_sliceBound h1, run_sliceBound h2, run_sliceBound h3]
  have key : (Instr.slice t (.slice p n c) (ol.map ρ) (oh.map ρ) (om.map ρ)).run P w = .ok (.slice (if mx = lo then p else p.map (·.add (lo * sz))) (hi - lo) (mx - lo)) w := by
    simp only [Instr.slice, Sem.run_bind, run_und, Result.andThen_ok, hb, hsz, Sem.run_pure]
  simp only [xop, execOp, Instr.sliceAt, eX, Sem.run_bind, run_und, Result.andThen_ok, Sem.run_pure]
  simp [key]
instance (priority := 700) opSliceQ {lc : Cx} {ol oh om : Option Operand} {lo hi mx : Nat} [Ev lc x (.slice p n c)] [EvB lc ol 0 lo] [EvB lc oh n hi] [EvB lc om c mx] [Und P t (.slice e)] [TI P e z sz by_] [h1 : LeC mx c] [h2 : LeC hi mx] [h3 : LeC lo hi] [h4 : HiOk om oh] :
    OpQ P (.slice t x ol oh om) ty lc bs fs (.slice (if mx = lo then p else p.map (·.add (lo * sz))) (hi - lo) (mx - lo)) := ⟨fun _ρ w h _ => run_cut h h1.le h2.le h3.le h4.ok w⟩
end
end Go.Wk
namespace Go.Wk
end Go.Wk
namespace Go.Wk
theorem St.apart2 {w0 M0 ds a w l bs fs} (S : St w0 M0 ds a w l bs fs) (x y : Item) [h : SubL [x, y] bs] (k : Nat) (hk : x.foot k) : ¬ y.foot k := by
  have := (S.wd.apart.sublist h.sub)
  simp only [List.pairwise_cons, List.mem_singleton, forall_eq] at this
  exact this.1 k hk
end Go.Wk

namespace Go.Wk
open Go

/-! going over a map -/
theorem nodup_of_map {α β : Type} {f : α → β} : ∀ {l : List α}, (l.map f).Nodup → l.Nodup
  | [], _ => .nil
  | x :: l, h => by
    rw [List.map_cons, List.nodup_cons] at h
    exact List.nodup_cons.2 ⟨fun hx => h.1 (List.mem_map.2 ⟨x, hx, rfl⟩), nodup_of_map h.2⟩
def kvS (x : List UInt8 × Value) : Value × Value := (str x.1, x.2)
def kvU (x : Value × Value) : List UInt8 × Value := (match x.1 with | .string s => s.data.toList | _ => [], x.2)
def enKV (e : MapEntry) : Value × Value := (e.key, e.val)
/-- a map, and the going over it: what has come out. -/
def mpi (b r : Nat) (kv done : List (List UInt8 × Value)) : Item where
  foot := fun k => k = b ∨ k = r
  holds := fun w => ∃ (es : Array MapEntry) (clock : Nat) (ds : List MapEntry), w.heap[b]? = some (.map es clock) ∧ es.toList.map enKV = kv.map kvS ∧ (∀ e ∈ es.toList, e.born < clock) ∧ (es.toList.map (·.born)).Nodup ∧
    w.heap[r]? = some (.mapIter (some b) clock (ds.map (·.born)).toArray clock) ∧ (∀ e ∈ ds, e ∈ es.toList) ∧ (ds.map (·.born)).Nodup ∧ ds.map enKV = done.map kvS
class HasMpi (bs : List Item) (r : Nat) (b : outParam Nat) (kv done : outParam (List (List UInt8 × Value))) : Prop where mem : mpi b r kv done ∈ bs
/-- what 'next' hands out. -/
def nxV (more : Bool) (k : List UInt8) (v : Value) : Value := bif more then .tuple ⟨[.bool true, str k, v]⟩ else .tuple ⟨[.bool false]⟩
class HasMpiB (bs : List Item) (b : Nat) (kv : outParam (List (List UInt8 × Value))) : Prop where mem : ∃ r done, mpi b r kv done ∈ bs
theorem born_inj {es : List MapEntry} (h : (es.map (·.born)).Nodup) {e e' : MapEntry} (he : e ∈ es) (he' : e' ∈ es) (hb : e.born = e'.born) : e = e' := by
  induction es with
  | nil => cases he
  | cons x xs ih =>
    rw [List.map_cons, List.nodup_cons] at h
    rcases List.mem_cons.1 he with q | q <;> rcases List.mem_cons.1 he' with q' | q'
    · rw [q, q']
    · exact absurd (List.mem_map.2 ⟨e', q', by rw [← hb, q]⟩) h.1
    · exact absurd (List.mem_map.2 ⟨e, q, by rw [hb, q']⟩) h.1
    · exact ih h.2 q q'
section
variable {P : Program} {r0 : Option Nat} {ops : Array Oper} {Q : Exit → Act → World → Prop} {w0 : World} {M0 : Nat → Prop} {ds : List Deferred} {a : Act} {w : World} {l : List Value} {bs : List Item} {fs : List (World → Prop)}
  {d : Option Nat} {op : Op} {ty : TypeId} {pos : String} {af : Array Edge} {rest : List Oper} {t kt et : TypeId} {x : Operand} {b : Nat} {kv : List (List UInt8 × Value)}
theorem of_setBlock {w w1 : World} {r : Nat} {o : Obj} {M : Nat → Prop} (h1 : w1 = w ∨ w1 = w.drew) (hM : M r) (hr : r < w.heap.size) : Agree M w (ChangeMaps.setBlock w1 r o) ∧ (ChangeMaps.setBlock w1 r o).heap[r]? = some o ∧ (ChangeMaps.setBlock w1 r o).heap.size = w.heap.size := by
  have key : Agree M w (ChangeMaps.setBlock w r o) ∧ (ChangeMaps.setBlock w r o).heap[r]? = some o ∧ (ChangeMaps.setBlock w r o).heap.size = w.heap.size := by
    refine ⟨⟨rfl, rfl, rfl, by simp [ChangeMaps.setBlock], fun k hk hm => ?_⟩, ?_, ?_⟩
    · have : r ≠ k := fun e => hm (e ▸ hM)
      simp [ChangeMaps.setBlock, this]
    · simp [ChangeMaps.setBlock, hr]
    · simp [ChangeMaps.setBlock]
  rcases h1 with rfl | rfl
  · exact key
  · exact ⟨⟨rfl, rfl, rfl, key.1.2.2.2.1, key.1.2.2.2.2⟩, key.2⟩
end
section
variable {P : Program} {r : Option Nat} {ops : Array Oper} {Q : Exit → Act → World → Prop} {w0 : World} {M0 : Nat → Prop} {ds : List Deferred} {a : Act} {w : World} {l : List Value} {bs : List Item} {fs : List (World → Prop)}
  {d : Option Nat} {ty : TypeId} {pos : String} {af : Array Edge} {rest : List Oper} {f : Nat} {x : Operand} {ys : List Operand} {args : List Value} {ts : Array TypeId}
/-- what a call hands back: something in new memory. -/
theorem Wd.addItem {w' : World} {y : Item} (hold : Wd w0 M0 w bs fs) (hw : Grow w w') (hy : y.holds w') (hfoot : ∀ k, y.foot k → w.heap.size ≤ k) (hlt : ∀ k, y.foot k → k < w'.heap.size)
    (hloc : ∀ w1 w2 : World, (∀ k, y.foot k → w2.heap[k]? = w1.heap[k]?) → y.holds w1 → y.holds w2) : Wd w0 M0 w' (y :: bs) fs := by
  refine (hold.step hw).more hy (fun k hk => Nat.le_trans hold.agree.size (hfoot k hk)) hlt (fun it hi k hk hk' => absurd (hold.lt it hi k hk') (by have := hfoot k hk; omega)) (fun Φ hΦ w'' hw'' => ?_) hloc
  refine hold.facts Φ hΦ w'' ((hw.mono (fun _ _ h => h.elim)).trans' hw'' fun i hi ⟨it, hm, hk⟩ => ?_)
  rcases List.mem_cons.1 hm with rfl | hm
  · exact absurd (hfoot i hk) (by omega)
  · exact ⟨it, hm, hk⟩
end
end Go.Wk

namespace Go.Wk
open Go Go.Deep Go.ChangeShapes Go.WideShapes Go.ChangeAt Go.RowKit

/-! rows of terms that came in -/
section
variable {H : Type} {enc : TypeId × Value → H} {P : Program} {w : World} {base : Nat} {spare : Nat → Bool} {held : Bool} {L : TypeId}
end
section
variable {w0 : World} {M0 : Nat → Prop} {ds : List Deferred} {a : Act} {w : World} {l : List Value} {bs : List Item} {fs : List (World → Prop)}
/-- a row is taken for a shorter one. -/
theorem St.cutRow {bs' : List Item} {e : TypeId} {sz c : Nat} {xs : List Value} (S : St w0 M0 ds a w l bs fs) (p : Option Addr) (m n : Nat) [hr : HasRow bs p n e sz c xs] [hrep : ReplI bs (Wk.row e sz p n c xs) (Wk.row e sz p m c (xs.take (m * sz))) bs'] (hle : m ≤ n) : St w0 M0 ds a w l bs' fs := by
  have hrow := S.row p n
  have hown : w.ownsRow 0 e sz (.slice p m c) m (xs.take (m * sz)) := by
    refine ⟨by rw [List.length_take, hrow.1, Nat.min_eq_left (Nat.mul_le_mul_right _ hle)], ?_⟩
    rcases hrow.2 with ⟨hv, rfl⟩ | ⟨g, cap, cur, hv, hb, hg, hnc, hcm, hcs, ht⟩
    · cases hv
      exact .inl ⟨by rw [show m = 0 from by omega], by omega⟩
    · cases hv
      exact .inr ⟨g, c, cur, rfl, hb, hg, by omega, hcm, hcs, by rw [← ht, List.take_take, Nat.min_eq_left (Nat.mul_le_mul_right _ hle)]⟩
  exact S.reput (x := Wk.row e sz p n c xs) (y := Wk.row e sz p m c (xs.take (m * sz))) S.slots S.defers rfl (Agree.refl _ _) hown (fun k h => .inl h) (row_foot_lt hown) (row_loc _ _ _ _ _ _)
theorem own_le {w : World} {e : TypeId} {sz : Nat} {p : Option Addr} {n c : Nat} {xs : List Value} (h : w.ownsRow 0 e sz (.slice p n c) n xs) : n ≤ c := by
  rcases h.2 with ⟨hv, h0⟩ | ⟨g, cap, cur, hv, hb, hg, hnc, hcm, hcs, ht⟩
  · omega
  · cases hv; exact hnc
end
/-- the terms of a list lie where they say. -/
def AllL (L : List LTerm) : World → Prop := fun w => ∀ x ∈ L, LtIn w x
/-! rows of numbers that others own -/
def nthI (ys : List Int) (k : Nat) : Int := ys.getD k 0
theorem nthI_get {ys : List Int} {k : Nat} (h : k < ys.length) : ys[k]? = some (nthI ys k) := by simp [nthI, h]
theorem SlF.nil {p : Option Addr} {w : World} : SlF p [] w := ⟨fun _ => rfl, fun _ _ j u hj => by simp at hj⟩
section
variable {P : Program} {l lc : Cx} {bs : List Item} {fs : List (World → Prop)} {x y : Operand} {p : Option Addr} {n c k : Nat} {kk : IntKind} {m : Int} {ys : List Int} {t ty e : TypeId} {z : Value} {by_ : Nat}
end
end Go.Wk

namespace Go.Wk
open Go Go.Deep Go.ChangeShapes Go.WideShapes Go.ChangeAt Go.RowKit

/-! things with depth, whatever they are -/
class Lay (α : Type) extends Enc α where
  dflt : α
  inn : World → α → Prop
  mono : ∀ (w w' : World) (x : α), (∀ ad v, w.cell? ad = some v → w'.cell? ad = some v) → inn w x → inn w' x
instance layI : Lay Int := { encI with dflt := 0, inn := fun _ _ => True, mono := fun _ _ _ _ h => h }
instance layS : Lay (List UInt8) := { encS with dflt := [], inn := fun _ _ => True, mono := fun _ _ _ _ h => h }
instance layT : Lay LTerm := { encT with dflt := zeroL, inn := LtIn, mono := fun _ _ x h hx => LtIn.mono h x hx }
instance encBo : Enc Bool := ⟨1, fun b => [.bool b], fun _ => rfl, fun x u hu => by obtain rfl := List.mem_singleton.1 hu; rfl⟩
instance layBo : Lay Bool := { encBo with dflt := false, inn := fun _ _ => True, mono := fun _ _ _ _ h => h }
instance layB : Lay UInt8 := { encB with dflt := 0, inn := fun _ _ => True, mono := fun _ _ _ _ h => h }
def InF {α : Type} [Lay α] (x : α) : World → Prop := fun w => Lay.inn w x
/-- a row of such things lies at p. -/
def GlF {α : Type} [Lay α] (p : Option Addr) (xs : List α) : World → Prop := fun w => SlF p (encL xs) w ∧ ∀ x ∈ xs, Lay.inn w x
def nthG {α : Type} [Lay α] (xs : List α) (k : Nat) : α := xs.getD k Lay.dflt
theorem nthG_get {α : Type} [Lay α] {xs : List α} {k : Nat} (h : k < xs.length) : xs[k]? = some (nthG xs k) := by simp [nthG, h]
theorem nthG_mem {α : Type} [Lay α] {xs : List α} {k : Nat} (h : k < xs.length) : nthG xs k ∈ xs := List.mem_of_getElem? (nthG_get h)
def gAddr (p : Option Addr) (k sz off : Nat) : Addr := (p.getD ⟨0, 0, none⟩).add (k * sz + off)
/-- a slice, and what lies in it. -/
structure Sl (α : Type) where
  p : Option Addr
  cap : Nat
  xs : List α
abbrev Sl.v {α : Type} (s : Sl α) : Value := .slice s.p s.xs.length s.cap
instance encSl {α : Type} : Enc (Sl α) := ⟨1, fun s => [s.v], fun _ => rfl, fun x u hu => by obtain rfl := List.mem_singleton.1 hu; rfl⟩
theorem SlF.mono {p : Option Addr} {xs : List Value} {w w' : World} (h : ∀ ad v, w.cell? ad = some v → w'.cell? ad = some v) (hs : SlF p xs w) : SlF p xs w' := ⟨hs.1, fun ad hp j u hj => h _ _ (hs.2 ad hp j u hj)⟩
theorem GlF.mono {α : Type} [Lay α] {p : Option Addr} {xs : List α} {w w' : World} (h : ∀ ad v, w.cell? ad = some v → w'.cell? ad = some v) (hs : GlF p xs w) : GlF p xs w' := ⟨hs.1.mono h, fun x hx => Lay.mono w w' x h (hs.2 x hx)⟩
instance laySl {α : Type} [Lay α] : Lay (Sl α) := { encSl with
  dflt := ⟨none, 0, []⟩
  inn := fun w s => s.xs.length ≤ s.cap ∧ s.cap ≤ maxLen ∧ GlF s.p s.xs w
  mono := fun _ _ _ h hx => ⟨hx.1, hx.2.1, hx.2.2.mono h⟩ }
theorem GlF.stable {α : Type} [Lay α] {w : World} {p : Option Addr} {xs : List α} (h : GlF p xs w) : Stable (fun _ => False) w (GlF p xs) := fun _ hw' => h.mono fun _ _ hc => cell_agree hw' hc
theorem gl_nil {α : Type} [Lay α] {w : World} {p : Option Addr} : GlF (α := α) p [] w := ⟨SlF.nil, fun _ h => by cases h⟩
theorem gl_some {α : Type} [Lay α] {w : World} {p : Option Addr} {xs : List α} (h : GlF p xs w) {k : Nat} (hk : k < xs.length) (hz : 0 < Enc.sz α) : ∃ ad, p = some ad := by
  cases hp : p with
  | some ad => exact ⟨ad, rfl⟩
  | none =>
    have h1 := congrArg List.length (h.1.1 hp)
    rw [encL_len] at h1
    have h2 : xs.length * Enc.sz α = 0 := h1
    rcases Nat.mul_eq_zero.1 h2 with h3 | h3 <;> omega
theorem gl_cell {α : Type} [Lay α] {w : World} {p : Option Addr} {xs : List α} (h : GlF p xs w) {k : Nat} (hk : k < xs.length) {j : Nat} {u : Value} (hj : (Enc.cells (nthG xs k))[j]? = some u) : w.cell? (gAddr p k (Enc.sz α) j) = some u := by
  have hjs : j < Enc.sz α := by
    have := (List.getElem?_eq_some_iff.1 hj).1
    rwa [Enc.len] at this
  obtain ⟨ad, rfl⟩ := gl_some h hk (by omega)
  exact h.1.2 ad rfl _ _ ((encL_get xs k _ (nthG_get hk) j hjs).trans hj)
/-! facts about them -/
class HasG (fs : List (World → Prop)) (p : Option Addr) (α : outParam Type) (i : outParam (Lay α)) (xs : outParam (List α)) : Prop where
  of : ∀ (M : Nat → Prop) (w : World), (∀ Φ ∈ fs, Stable M w Φ) → Stable M w (GlF p xs)
instance hasg0 {α : Type} [i : Lay α] {fs : List (World → Prop)} {p : Option Addr} {xs : List α} : HasG (GlF p xs :: fs) p α i xs := ⟨fun _ _ h => h _ (by simp)⟩
instance (priority := 900) hasgS {α : Type} {i : Lay α} {fs : List (World → Prop)} {Φ : World → Prop} {p : Option Addr} {xs : List α} [h : HasG fs p α i xs] : HasG (Φ :: fs) p α i xs := ⟨fun M w hf => h.of M w fun Ψ hΨ => hf Ψ (by simp [hΨ])⟩
/-- likewise, asked for by the list. -/
class HasGx (fs : List (World → Prop)) {α : Type} [Lay α] (xs : List α) : Prop where
  of : ∀ (M : Nat → Prop) (w : World), (∀ Φ ∈ fs, Stable M w Φ) → ∃ p, Stable M w (GlF p xs)
instance hasgx0 {α : Type} [i : Lay α] {fs : List (World → Prop)} {p : Option Addr} {xs : List α} : HasGx (GlF p xs :: fs) xs := ⟨fun _ _ h => ⟨p, h _ (by simp)⟩⟩
instance (priority := 900) hasgxS {α : Type} [i : Lay α] {fs : List (World → Prop)} {Φ : World → Prop} {xs : List α} [h : HasGx fs xs] : HasGx (Φ :: fs) xs := ⟨fun M w hf => h.of M w fun Ψ hΨ => hf Ψ (by simp [hΨ])⟩
/-- the facts say that this lies where it says. -/
class HasI (fs : List (World → Prop)) {α : Type} [Lay α] (x : α) : Prop where
  of : ∀ (M : Nat → Prop) (w : World), (∀ Φ ∈ fs, Stable M w Φ) → Stable M w (InF x)
/-- what lies in a slice that lies where it says. -/
instance (priority := 850) hasgI {α : Type} [i : Lay α] {fs : List (World → Prop)} {s : Sl α} [h : HasI fs s] : HasG fs s.p α i s.xs := ⟨fun M w hf => (h.of M w hf).imp fun _ h => h.2.2⟩
instance (priority := 850) hasgxI {α : Type} [i : Lay α] {fs : List (World → Prop)} {s : Sl α} [h : HasI fs s] : HasGx fs s.xs := ⟨fun M w hf => ⟨s.p, (h.of M w hf).imp fun _ h => h.2.2⟩⟩
section
variable {α : Type} [Lay α] {w0 : World} {M0 : Nat → Prop} {ds : List Deferred} {a : Act} {w : World} {l : List Value} {bs : List Item} {fs : List (World → Prop)}
theorem St.gl {α : Type} {i : Lay α} (S : St w0 M0 ds a w l bs fs) (p : Option Addr) {xs : List α} [h : HasG fs p α i xs] : Stable (foots bs) w (GlF p xs) := h.of _ _ S.wd.facts
/-- one's own row, as others read it. -/
theorem gl_of_own {M : Nat → Prop} {e : TypeId} {p : Option Addr} {n c sz : Nat} {xs : List α} (h : w.ownsRow 0 e sz (.slice p n c) n (encL xs)) (hk : ∀ x ∈ xs, Stable M w (InF x)) (hM : ∀ ad, p = some ad → ¬ M ad.block) : Stable M w (GlF p xs) := fun w' hw' =>
  ⟨SlF.stable (own_sl h) hM w' hw', fun x hx => hk x hx w' hw'⟩
end

/-! places in such rows -/
class SzE (α : Type) [Lay α] (n : outParam Nat) : Prop where
  eq : Enc.sz α = n
  pos : 0 < n
instance : SzE Int 1 := ⟨rfl, by decide⟩
instance : SzE Bool 1 := ⟨rfl, by decide⟩
instance : SzE UInt8 1 := ⟨rfl, by decide⟩
instance : SzE (List UInt8) 1 := ⟨rfl, by decide⟩
instance : SzE LTerm 5 := ⟨rfl, by decide⟩
instance {α : Type} [Lay α] : SzE (Sl α) 1 := ⟨rfl, by decide⟩
/-- what a thing's cells are. -/
class CellsOf {α : Type} [Lay α] (x : α) (cs : outParam (List Value)) : Prop where eq : Enc.cells x = cs
instance {x : Int} : CellsOf x [.int .i64 x] := ⟨rfl⟩
instance {x : Bool} : CellsOf x [.bool x] := ⟨rfl⟩
instance {x : UInt8} : CellsOf x [.int .u8 x.toNat] := ⟨rfl⟩
instance {x : List UInt8} : CellsOf x [str x] := ⟨rfl⟩
instance {x : LTerm} : CellsOf x x.cells := ⟨rfl⟩
instance {α : Type} [Lay α] {x : Sl α} : CellsOf x [.slice x.p x.xs.length x.cap] := ⟨rfl⟩
section
variable {P : Program} {l : Cx} {bs : List Item} {fs : List (World → Prop)} {x y : Operand} {p : Option Addr} {n c k sz off : Nat} {kk : IntKind} {m : Int} {t ty e : TypeId} {z : Value} {by_ : Nat} {α : Type} {i : Lay α} {xs : List α}
instance (priority := 880) opIdxG [Ev l x (.slice p n c)] [Ev l y (.int kk m)] [Und P t (.slice e)] [TI P e z sz by_] [hm : IsNat m k] [hl : HasG fs p α i xs] [hs : SzE α sz] [hk : KLt k n] [hk' : KLt k xs.length] :
    OpQ P (.indexAddr t x y) ty l bs fs (.pointer (some (gAddr p k sz 0))) := ⟨fun ρ w h mm => by
  have hlt := hk.lt
  obtain ⟨ad, rfl⟩ := gl_some (hl.of _ _ mm.facts).now hk'.lt (by rw [hs.eq]; exact hs.pos)
  have h2 := hm.eq
  subst h2
  simp [xop, execOp, h.ev (x := x) (v := .slice (some ad) n c), h.ev (x := y) (v := .int kk (k : Int))]
  simp [run_indexAt (P := P) (t := t) (e := e) (z := z) (sz := sz) (by_ := by_) (Int.natCast_nonneg k) (Int.ofNat_lt.2 hlt), gAddr]⟩
theorem gAddr_add (p : Option Addr) (k sz o j : Nat) : (gAddr p k sz o).add j = gAddr p k sz (o + j) := by simp only [gAddr, add_add, Nat.add_assoc]
theorem gl_cells {cs : List Value} {w : World} [hs : SzE α sz] (h : GlF p xs w) (hk : k < xs.length) [hc : CellsOf (nthG xs k) cs] {j : Nat} {u : Value} (hj : cs[j]? = some u) : w.cell? (gAddr p k sz j) = some u := by
  rw [← hs.eq]
  exact gl_cell h hk (by rw [hc.eq]; exact hj)
instance (priority := 780) opLoadG1 {v : Value} {cs : List Value} [Ev l x (.pointer (some (gAddr p k sz off)))] [ha : AggT P t false] [hl : HasG fs p α i xs] [hs : SzE α sz] [hk : KLt k xs.length] [hc : CellsOf (nthG xs k) cs] [hn : Nth cs off v] :
    OpQ P (.load t x) ty l bs fs v := ⟨fun ρ w h mm => by
  have h1 := gl_cells (hl.of _ _ mm.facts).now hk.lt hn.eq
  simp [xop, execOp, Instr.loadAt, h.ev (x := x) (v := .pointer (some (gAddr p k sz off))), Instr.sureAddr, loadVar, Sem.run_bind, ha.run, load, Sem.run, h1]⟩
instance (priority := 780) opLoadGA {cs vs : List Value} [Ev l x (.pointer (some (gAddr p k sz off)))] [ha : AggT P t true] [TI P t z n by_] [hl : HasG fs p α i xs] [hs : SzE α sz] [hk : KLt k xs.length] [hc : CellsOf (nthG xs k) cs] [hn : Seg cs off n vs] :
    OpQ P (.load t x) ty l bs fs (.agg ⟨vs⟩) := ⟨fun ρ w h mm => by
  have hlc := run_loadCells_list (P := P) w (gAddr p k sz off) vs (fun j v hj => by
    have hjn : j < n := by rw [← hn.eq.1]; exact (List.getElem?_eq_some_iff.1 hj).1
    rw [gAddr_add]
    exact gl_cells (hl.of _ _ mm.facts).now hk.lt ((hn.eq.2 j hjn).trans hj))
  rw [hn.eq.1] at hlc
  simp [xop, execOp, Instr.loadAt, h.ev (x := x) (v := .pointer (some (gAddr p k sz off))), Instr.sureAddr, loadVar, Sem.run_bind, ha.run, run_size, hlc]⟩
instance (priority := 860) srcG {tx : TypeId} [h : Und P tx (.slice e)] [hr : HasG fs p α i xs] [hs : SzE α sz] [hn : LenN xs n] : SrcV P tx (.slice p n c) bs fs sz n (encL xs) := ⟨fun w mm =>
  src_sl h.eq (hr.of _ _ mm.facts).now.1 (by rw [encL_len, hn.eq, hs.eq]) (encL_one xs) hs.pos⟩
end

/-! what came in -/
class Tro (P : Program) (T : TypeId) (α : Type) [Lay α] : Prop where
  of : ∀ {H : Type} (enc : TypeId × Value → H) (w : World) (base : Nat) (spare : Nat → Bool) (held : Bool) (fuel : Nat) (cs : List Value) (x : DataW H × List MemPlace), DataW.trod enc P w base spare held fuel T cs = some x → ∃ a : α, cs = Enc.cells a ∧ Lay.inn w a
  size : P.cellsOf T = Enc.sz α
theorem troI {P : Program} {T : TypeId} (hu : P.underlying T = some (.int .i64)) (hs : P.cellsOf T = 1) : Tro P T Int := ⟨fun enc w base spare held fuel cs x h => by
  obtain ⟨k, e0, _, _⟩ := DataW.trod_int hu h
  exact ⟨k, e0, trivial⟩, hs⟩
theorem troBo {P : Program} {T : TypeId} (hu : P.underlying T = some .bool) (hs : P.cellsOf T = 1) : Tro P T Bool := ⟨fun enc w base spare held fuel cs x h => by
  obtain ⟨k, e0, _⟩ := DataW.trod_bool hu h
  exact ⟨k, e0, trivial⟩, hs⟩
theorem troB {P : Program} {T : TypeId} (hu : P.underlying T = some (.int .u8)) (hs : P.cellsOf T = 1) : Tro P T UInt8 := ⟨fun enc w base spare held fuel cs x h => by
  obtain ⟨k, e0, _, hw⟩ := DataW.trod_int hu h
  have hr : 0 ≤ k ∧ k < 256 := by
    simp [Lit.wf, IntKind.min, IntKind.max, IntKind.bits, IntKind.signed] at hw
    omega
  refine ⟨UInt8.ofNat k.toNat, ?_, trivial⟩
  rw [e0]
  show _ = [Value.int .u8 ((UInt8.ofNat k.toNat).toNat : Int)]
  rw [UInt8.toNat_ofNat_of_lt' (by show k.toNat < 256; omega)]
  congr 2; omega, hs⟩
theorem troSl {P : Program} {T L : TypeId} {α : Type} [Lay α] [hT : Tro P T α] (hu : P.underlying L = some (.slice T)) (hs : P.cellsOf L = 1) : Tro P L (Sl α) := ⟨fun enc w base spare held fuel cs x h => by
  rcases DataW.trod_slice hu h with ⟨e4, _⟩ | ⟨ad, len, cap, elems, rest, n', rfl, e4, _, _, hlc, hcm, hel, hem, _, _⟩
  · exact ⟨⟨none, 0, []⟩, e4, Nat.le_refl _, Nat.zero_le _, gl_nil⟩
  · subst e4
    have : Inhabited α := ⟨Lay.dflt⟩
    obtain ⟨g, hg⟩ := choose_lt (α := α) (p := fun i t => w.cells? base (ad.add (i * Enc.sz α)) (Enc.sz α) = some (Enc.cells t) ∧ Lay.inn w t) (n := len) (fun i hi => by
      have h1 := hem i hi
      rw [hT.size, List.getElem?_eq_getElem (by omega)] at h1
      obtain ⟨cs', h2, h3⟩ := Option.bind_eq_some_iff.1 h1
      obtain ⟨t, rfl, ht⟩ := hT.of _ _ _ _ _ _ _ _ h3
      exact ⟨t, h2, ht⟩)
    refine ⟨⟨some ad, cap, (List.range len).map g⟩, by simp [Enc.cells, Sl.v], by simpa using hlc, hcm, ⟨fun h => (by cases h), fun ad' hp j u hj => ?_⟩, fun t ht => ?_⟩
    · obtain rfl : ad = ad' := by simpa using hp
      have hjl : j < len * Enc.sz α := by
        have := (List.getElem?_eq_some_iff.1 hj).1
        rw [encL_len] at this; simpa using this
      have hz : 0 < Enc.sz α := Nat.pos_of_ne_zero fun h0 => by rw [h0] at hjl; omega
      have hi : j / Enc.sz α < len := (Nat.div_lt_iff_lt_mul hz).2 hjl
      have hm : j % Enc.sz α < Enc.sz α := Nat.mod_lt _ hz
      have hdm : j / Enc.sz α * Enc.sz α + j % Enc.sz α = j := Nat.div_add_mod' j _
      obtain ⟨hc, -⟩ := hg _ hi
      obtain ⟨_, _, h5⟩ := World.cells?_some hc
      have h6 := h5 _ hm
      have h7 := encL_get ((List.range len).map g) (j / Enc.sz α) (g (j / Enc.sz α)) (by simp [hi]) _ hm
      rw [hdm, hj] at h7
      rw [Go.Deep.add_add, hdm] at h6
      rw [h6, ← h7]
    · obtain ⟨i, hi, rfl⟩ := List.mem_map.1 ht
      exact (hg i (List.mem_range.1 hi)).2, hs⟩
theorem slice_of_Trod {P : Program} {L T : TypeId} {α : Type} [Lay α] [hT : Tro P L (Sl α)] {H : Type} {enc : TypeId × Value → H} {w : World} {base : Nat} {spare : Nat → Bool} {held : Bool} (hu : P.underlying L = some (.slice T)) {v : Value} {d : DataW H} {p : List MemPlace} {r : Reach} {W : World} {base' : Nat} (h : DataW.Trod enc P w base spare held L v d p) (hv : Value.okWide P W r base' L v) :
    ∃ s : Sl α, v = s.v ∧ s.xs.length ≤ s.cap ∧ s.cap ≤ maxLen ∧ GlF s.p s.xs w := by
  obtain ⟨a, len, cap, rfl⟩ := okWide_slice hu hv
  obtain ⟨fuel, hf⟩ := h
  obtain ⟨s, e, hs⟩ := hT.of _ _ _ _ _ _ _ _ hf
  refine ⟨s, ?_, hs⟩
  have : [Value.slice a len cap] = [s.v] := by simpa [Value.cells, Enc.cells] using e
  simpa using this
end Go.Wk

namespace Go.Wk
open Go

/-! frames that keep what a piece of code does not touch -/
/-- slots set one behind the other: (how many are passed over, the value). -/
class SetG (l : List Value) (ms : List (Nat × Value)) (l' : outParam (List Value)) : Prop where ok : True
instance setg0 {l : List Value} : SetG l [] l := ⟨trivial⟩
instance setg1 {u v : Value} {l l' : List Value} {ms : List (Nat × Value)} [SetG l ms l'] : SetG (u :: l) ((0, v) :: ms) (v :: l') := ⟨trivial⟩
instance setg2 {u v : Value} {g : Nat} {l l' : List Value} {ms : List (Nat × Value)} [SetG l ((g, v) :: ms) l'] : SetG (u :: l) ((g + 1, v) :: ms) (u :: l') := ⟨trivial⟩
section
variable {P : Program} {r : Option Nat} {Q : Exit → Act → World → Prop} {w0 : World} {M0 : Nat → Prop} {ds : List Deferred} {a : Act} {w : World} {l : List Value} {bs : List Item} {fs : List (World → Prop)}
theorem c_drwe0 {id : Nat} {lo : List Oper}  (t : Tr) (S : St w0 M0 ds a w l bs fs) (mods : (Nat → Value) → List (Nat × Value)) {l1 : (Nat → Value) → List Value} [∀ uu, SetG l (mods uu) (l1 uu)] (bs0 : List Item) (bs1 : List Item) (fs1 : List (World → Prop)) (rel : Prop)
    (h : ∀ w, St w0 M0 ds a w l bs fs → AT P lo.toArray (fun w => Wd w0 M0 w bs0 fs) (fun a w => ∃ vv, rel ∧ St w0 M0 ds a w (l1 vv) bs1 fs1) t a w) (hK : ∀  uu a w, rel → St w0 M0 ds a w (l1 uu) bs1 fs1 → Q .normal a w) (hm : P.follows .mixedOrders = true := by kernel_rfl)
    (hd : ((lo.all fun o => !isDefer o.op) && (Nat.beq t.len lo.length && (Region.noSelect lo.toArray && flowT lo.toArray t (Array.replicate lo.length false)))) = true := by kernel_rfl) : Wp P r (.region id lo.toArray true) Q a w :=
  c_drawT t bs0 S _ h (fun a w h => by obtain ⟨vv, h1, h2⟩ := h; exact hK  vv a w h1 h2) hm hd
theorem c_fore1 {c : Code} {ι1 : Type} (_S : St w0 M0 ds a w l bs fs) (mods : ι1 → (Nat → Value) → List (Nat × Value)) {l1 : ι1 → (Nat → Value) → List Value} [∀ x1 uu, SetG l (mods x1 uu) (l1 x1 uu)] (bs1 : ι1 → List Item) (fs1 : ι1 → List (World → Prop)) (rel : ι1 → Prop) (μ : ι1 → Nat) (z1 : ι1) (h0 : rel z1) (uu0 : Nat → Value) (S0 : St w0 M0 ds a w (l1 z1 uu0) (bs1 z1) (fs1 z1))
    (hr : ∀ x1 uu a w, rel x1 → St w0 M0 ds a w (l1 x1 uu) (bs1 x1) (fs1 x1) → Wp P r c (Exit.then (fun a w => ∃ y1 vv, rel y1 ∧ St w0 M0 ds a w (l1 y1 vv) (bs1 y1) (fs1 y1) ∧ μ y1 < μ x1) Q) a w) : Wp P r (.loop c) Q a w := by
  refine c_loop (ι := ι1) (fun p a w => rel p ∧ ∃ uu, St w0 M0 ds a w (l1 p uu) (bs1 p) (fs1 p)) (fun p => μ p) (z1) ⟨h0, uu0, S0⟩ ?_
  rintro p a w ⟨h1, uu, S1⟩
  refine wpIn_mono (hr p uu a w h1 S1) fun e a1 w1 hq => ?_
  cases e <;> first | exact hq | skip
  obtain ⟨y1, vv, h2, S2, hm⟩ := hq
  exact ⟨y1, ⟨h2, vv, S2⟩, hm⟩
theorem c_mrge1 {x y : Code} {ι1 : Type} (_S : St w0 M0 ds a w l bs fs) (mods : ι1 → (Nat → Value) → List (Nat × Value)) {l1 : ι1 → (Nat → Value) → List Value} [∀ x1 uu, SetG l (mods x1 uu) (l1 x1 uu)] (bs1 : ι1 → List Item) (fs1 : ι1 → List (World → Prop)) (rel : ι1 → Prop)
    (hx : Wp P r x (Exit.then (fun a w => ∃ y1 vv, rel y1 ∧ St w0 M0 ds a w (l1 y1 vv) (bs1 y1) (fs1 y1)) Q) a w) (hy : ∀ x1 uu a w, rel x1 → St w0 M0 ds a w (l1 x1 uu) (bs1 x1) (fs1 x1) → Wp P r y Q a w) : Wp P r (.seq x y) Q a w :=
  c_merge _ hx fun a w h => by obtain ⟨y1, vv, h1, h2⟩ := h; exact hy y1 vv a w h1 h2
theorem c_forb1 {c : Code} {ι1 : Type} (_S : St w0 M0 ds a w l bs fs) (mods : ι1 → (Nat → Value) → List (Nat × Value)) {l1 : ι1 → (Nat → Value) → List Value} [∀ x1 uu, SetG l (mods x1 uu) (l1 x1 uu)]   (rel : ι1 → Prop) (μ : ι1 → Nat) (z1 : ι1) (h0 : rel z1) (uu0 : Nat → Value) (S0 : St w0 M0 ds a w (l1 z1 uu0) bs fs)
    (hr : ∀ x1 uu a w, rel x1 → St w0 M0 ds a w (l1 x1 uu) bs fs → Wp P r c (Exit.then (fun a w => ∃ y1 vv, rel y1 ∧ St w0 M0 ds a w (l1 y1 vv) bs fs ∧ μ y1 < μ x1) Q) a w) : Wp P r (.loop c) Q a w := by
  refine c_loop (ι := ι1) (fun p a w => rel p ∧ ∃ uu, St w0 M0 ds a w (l1 p uu) bs fs) (fun p => μ p) (z1) ⟨h0, uu0, S0⟩ ?_
  rintro p a w ⟨h1, uu, S1⟩
  refine wpIn_mono (hr p uu a w h1 S1) fun e a1 w1 hq => ?_
  cases e <;> first | exact hq | skip
  obtain ⟨y1, vv, h2, S2, hm⟩ := hq
  exact ⟨y1, ⟨h2, vv, S2⟩, hm⟩
theorem c_mrgb1 {x y : Code} {ι1 : Type} (_S : St w0 M0 ds a w l bs fs) (mods : ι1 → (Nat → Value) → List (Nat × Value)) {l1 : ι1 → (Nat → Value) → List Value} [∀ x1 uu, SetG l (mods x1 uu) (l1 x1 uu)]   (rel : ι1 → Prop)
    (hx : Wp P r x (Exit.then (fun a w => ∃ y1 vv, rel y1 ∧ St w0 M0 ds a w (l1 y1 vv) bs fs) Q) a w) (hy : ∀ x1 uu a w, rel x1 → St w0 M0 ds a w (l1 x1 uu) bs fs → Wp P r y Q a w) : Wp P r (.seq x y) Q a w :=
  c_merge _ hx fun a w h => by obtain ⟨y1, vv, h1, h2⟩ := h; exact hy y1 vv a w h1 h2
theorem c_forf1 {c : Code} {ι1 : Type} (_S : St w0 M0 ds a w l bs fs) (mods : ι1 → (Nat → Value) → List (Nat × Value)) {l1 : ι1 → (Nat → Value) → List Value} [∀ x1 uu, SetG l (mods x1 uu) (l1 x1 uu)] (bs1 : ι1 → List Item)  (rel : ι1 → Prop) (μ : ι1 → Nat) (z1 : ι1) (h0 : rel z1) (uu0 : Nat → Value) (S0 : St w0 M0 ds a w (l1 z1 uu0) (bs1 z1) fs)
    (hr : ∀ x1 uu a w, rel x1 → St w0 M0 ds a w (l1 x1 uu) (bs1 x1) fs → Wp P r c (Exit.then (fun a w => ∃ y1 vv, rel y1 ∧ St w0 M0 ds a w (l1 y1 vv) (bs1 y1) fs ∧ μ y1 < μ x1) Q) a w) : Wp P r (.loop c) Q a w := by
  refine c_loop (ι := ι1) (fun p a w => rel p ∧ ∃ uu, St w0 M0 ds a w (l1 p uu) (bs1 p) fs) (fun p => μ p) (z1) ⟨h0, uu0, S0⟩ ?_
  rintro p a w ⟨h1, uu, S1⟩
  refine wpIn_mono (hr p uu a w h1 S1) fun e a1 w1 hq => ?_
  cases e <;> first | exact hq | skip
  obtain ⟨y1, vv, h2, S2, hm⟩ := hq
  exact ⟨y1, ⟨h2, vv, S2⟩, hm⟩
theorem c_mrgf1 {x y : Code} {ι1 : Type} (_S : St w0 M0 ds a w l bs fs) (mods : ι1 → (Nat → Value) → List (Nat × Value)) {l1 : ι1 → (Nat → Value) → List Value} [∀ x1 uu, SetG l (mods x1 uu) (l1 x1 uu)] (bs1 : ι1 → List Item)  (rel : ι1 → Prop)
    (hx : Wp P r x (Exit.then (fun a w => ∃ y1 vv, rel y1 ∧ St w0 M0 ds a w (l1 y1 vv) (bs1 y1) fs) Q) a w) (hy : ∀ x1 uu a w, rel x1 → St w0 M0 ds a w (l1 x1 uu) (bs1 x1) fs → Wp P r y Q a w) : Wp P r (.seq x y) Q a w :=
  c_merge _ hx fun a w h => by obtain ⟨y1, vv, h1, h2⟩ := h; exact hy y1 vv a w h1 h2
theorem c_fore2 {c : Code} {ι1 : Type} {ι2 : Type} (_S : St w0 M0 ds a w l bs fs) (mods : ι1 → ι2 → (Nat → Value) → List (Nat × Value)) {l1 : ι1 → ι2 → (Nat → Value) → List Value} [∀ x1 x2 uu, SetG l (mods x1 x2 uu) (l1 x1 x2 uu)] (bs1 : ι1 → ι2 → List Item) (fs1 : ι1 → ι2 → List (World → Prop)) (rel : ι1 → ι2 → Prop) (μ : ι1 → ι2 → Nat) (z1 : ι1) (z2 : ι2) (h0 : rel z1 z2) (uu0 : Nat → Value) (S0 : St w0 M0 ds a w (l1 z1 z2 uu0) (bs1 z1 z2) (fs1 z1 z2))
    (hr : ∀ x1 x2 uu a w, rel x1 x2 → St w0 M0 ds a w (l1 x1 x2 uu) (bs1 x1 x2) (fs1 x1 x2) → Wp P r c (Exit.then (fun a w => ∃ y1 y2 vv, rel y1 y2 ∧ St w0 M0 ds a w (l1 y1 y2 vv) (bs1 y1 y2) (fs1 y1 y2) ∧ μ y1 y2 < μ x1 x2) Q) a w) : Wp P r (.loop c) Q a w := by
  refine c_loop (ι := ι1 × ι2) (fun p a w => rel (p.1) (p.2) ∧ ∃ uu, St w0 M0 ds a w (l1 (p.1) (p.2) uu) (bs1 (p.1) (p.2)) (fs1 (p.1) (p.2))) (fun p => μ (p.1) (p.2)) (z1, z2) ⟨h0, uu0, S0⟩ ?_
  rintro p a w ⟨h1, uu, S1⟩
  refine wpIn_mono (hr (p.1) (p.2) uu a w h1 S1) fun e a1 w1 hq => ?_
  cases e <;> first | exact hq | skip
  obtain ⟨y1, y2, vv, h2, S2, hm⟩ := hq
  exact ⟨(y1, y2), ⟨h2, vv, S2⟩, hm⟩
theorem c_drwe2 {id : Nat} {lo : List Oper} {ι1 : Type} {ι2 : Type} (t : Tr) (S : St w0 M0 ds a w l bs fs) (mods : ι1 → ι2 → (Nat → Value) → List (Nat × Value)) {l1 : ι1 → ι2 → (Nat → Value) → List Value} [∀ x1 x2 uu, SetG l (mods x1 x2 uu) (l1 x1 x2 uu)] (bs0 : List Item) (bs1 : ι1 → ι2 → List Item) (fs1 : ι1 → ι2 → List (World → Prop)) (rel : ι1 → ι2 → Prop)
    (h : ∀ w, St w0 M0 ds a w l bs fs → AT P lo.toArray (fun w => Wd w0 M0 w bs0 fs) (fun a w => ∃ y1 y2 vv, rel y1 y2 ∧ St w0 M0 ds a w (l1 y1 y2 vv) (bs1 y1 y2) (fs1 y1 y2)) t a w) (hK : ∀ x1 x2 uu a w, rel x1 x2 → St w0 M0 ds a w (l1 x1 x2 uu) (bs1 x1 x2) (fs1 x1 x2) → Q .normal a w) (hm : P.follows .mixedOrders = true := by kernel_rfl)
    (hd : ((lo.all fun o => !isDefer o.op) && (Nat.beq t.len lo.length && (Region.noSelect lo.toArray && flowT lo.toArray t (Array.replicate lo.length false)))) = true := by kernel_rfl) : Wp P r (.region id lo.toArray true) Q a w :=
  c_drawT t bs0 S _ h (fun a w h => by obtain ⟨y1, y2, vv, h1, h2⟩ := h; exact hK y1 y2 vv a w h1 h2) hm hd
theorem c_fore3 {c : Code} {ι1 : Type} {ι2 : Type} {ι3 : Type} (_S : St w0 M0 ds a w l bs fs) (mods : ι1 → ι2 → ι3 → (Nat → Value) → List (Nat × Value)) {l1 : ι1 → ι2 → ι3 → (Nat → Value) → List Value} [∀ x1 x2 x3 uu, SetG l (mods x1 x2 x3 uu) (l1 x1 x2 x3 uu)] (bs1 : ι1 → ι2 → ι3 → List Item) (fs1 : ι1 → ι2 → ι3 → List (World → Prop)) (rel : ι1 → ι2 → ι3 → Prop) (μ : ι1 → ι2 → ι3 → Nat) (z1 : ι1) (z2 : ι2) (z3 : ι3) (h0 : rel z1 z2 z3) (uu0 : Nat → Value) (S0 : St w0 M0 ds a w (l1 z1 z2 z3 uu0) (bs1 z1 z2 z3) (fs1 z1 z2 z3))
    (hr : ∀ x1 x2 x3 uu a w, rel x1 x2 x3 → St w0 M0 ds a w (l1 x1 x2 x3 uu) (bs1 x1 x2 x3) (fs1 x1 x2 x3) → Wp P r c (Exit.then (fun a w => ∃ y1 y2 y3 vv, rel y1 y2 y3 ∧ St w0 M0 ds a w (l1 y1 y2 y3 vv) (bs1 y1 y2 y3) (fs1 y1 y2 y3) ∧ μ y1 y2 y3 < μ x1 x2 x3) Q) a w) : Wp P r (.loop c) Q a w := by
  refine c_loop (ι := ι1 × ι2 × ι3) (fun p a w => rel (p.1) (p.2.1) (p.2.2) ∧ ∃ uu, St w0 M0 ds a w (l1 (p.1) (p.2.1) (p.2.2) uu) (bs1 (p.1) (p.2.1) (p.2.2)) (fs1 (p.1) (p.2.1) (p.2.2))) (fun p => μ (p.1) (p.2.1) (p.2.2)) (z1, z2, z3) ⟨h0, uu0, S0⟩ ?_
  rintro p a w ⟨h1, uu, S1⟩
  refine wpIn_mono (hr (p.1) (p.2.1) (p.2.2) uu a w h1 S1) fun e a1 w1 hq => ?_
  cases e <;> first | exact hq | skip
  obtain ⟨y1, y2, y3, vv, h2, S2, hm⟩ := hq
  exact ⟨(y1, y2, y3), ⟨h2, vv, S2⟩, hm⟩
theorem c_drwe3 {id : Nat} {lo : List Oper} {ι1 : Type} {ι2 : Type} {ι3 : Type} (t : Tr) (S : St w0 M0 ds a w l bs fs) (mods : ι1 → ι2 → ι3 → (Nat → Value) → List (Nat × Value)) {l1 : ι1 → ι2 → ι3 → (Nat → Value) → List Value} [∀ x1 x2 x3 uu, SetG l (mods x1 x2 x3 uu) (l1 x1 x2 x3 uu)] (bs0 : List Item) (bs1 : ι1 → ι2 → ι3 → List Item) (fs1 : ι1 → ι2 → ι3 → List (World → Prop)) (rel : ι1 → ι2 → ι3 → Prop)
    (h : ∀ w, St w0 M0 ds a w l bs fs → AT P lo.toArray (fun w => Wd w0 M0 w bs0 fs) (fun a w => ∃ y1 y2 y3 vv, rel y1 y2 y3 ∧ St w0 M0 ds a w (l1 y1 y2 y3 vv) (bs1 y1 y2 y3) (fs1 y1 y2 y3)) t a w) (hK : ∀ x1 x2 x3 uu a w, rel x1 x2 x3 → St w0 M0 ds a w (l1 x1 x2 x3 uu) (bs1 x1 x2 x3) (fs1 x1 x2 x3) → Q .normal a w) (hm : P.follows .mixedOrders = true := by kernel_rfl)
    (hd : ((lo.all fun o => !isDefer o.op) && (Nat.beq t.len lo.length && (Region.noSelect lo.toArray && flowT lo.toArray t (Array.replicate lo.length false)))) = true := by kernel_rfl) : Wp P r (.region id lo.toArray true) Q a w :=
  c_drawT t bs0 S _ h (fun a w h => by obtain ⟨y1, y2, y3, vv, h1, h2⟩ := h; exact hK y1 y2 y3 vv a w h1 h2) hm hd
theorem c_forf3 {c : Code} {ι1 : Type} {ι2 : Type} {ι3 : Type} (_S : St w0 M0 ds a w l bs fs) (mods : ι1 → ι2 → ι3 → (Nat → Value) → List (Nat × Value)) {l1 : ι1 → ι2 → ι3 → (Nat → Value) → List Value} [∀ x1 x2 x3 uu, SetG l (mods x1 x2 x3 uu) (l1 x1 x2 x3 uu)] (bs1 : ι1 → ι2 → ι3 → List Item)  (rel : ι1 → ι2 → ι3 → Prop) (μ : ι1 → ι2 → ι3 → Nat) (z1 : ι1) (z2 : ι2) (z3 : ι3) (h0 : rel z1 z2 z3) (uu0 : Nat → Value) (S0 : St w0 M0 ds a w (l1 z1 z2 z3 uu0) (bs1 z1 z2 z3) fs)
    (hr : ∀ x1 x2 x3 uu a w, rel x1 x2 x3 → St w0 M0 ds a w (l1 x1 x2 x3 uu) (bs1 x1 x2 x3) fs → Wp P r c (Exit.then (fun a w => ∃ y1 y2 y3 vv, rel y1 y2 y3 ∧ St w0 M0 ds a w (l1 y1 y2 y3 vv) (bs1 y1 y2 y3) fs ∧ μ y1 y2 y3 < μ x1 x2 x3) Q) a w) : Wp P r (.loop c) Q a w := by
  refine c_loop (ι := ι1 × ι2 × ι3) (fun p a w => rel (p.1) (p.2.1) (p.2.2) ∧ ∃ uu, St w0 M0 ds a w (l1 (p.1) (p.2.1) (p.2.2) uu) (bs1 (p.1) (p.2.1) (p.2.2)) fs) (fun p => μ (p.1) (p.2.1) (p.2.2)) (z1, z2, z3) ⟨h0, uu0, S0⟩ ?_
  rintro p a w ⟨h1, uu, S1⟩
  refine wpIn_mono (hr (p.1) (p.2.1) (p.2.2) uu a w h1 S1) fun e a1 w1 hq => ?_
  cases e <;> first | exact hq | skip
  obtain ⟨y1, y2, y3, vv, h2, S2, hm⟩ := hq
  exact ⟨(y1, y2, y3), ⟨h2, vv, S2⟩, hm⟩
theorem c_fore4 {c : Code} {ι1 : Type} {ι2 : Type} {ι3 : Type} {ι4 : Type} (_S : St w0 M0 ds a w l bs fs) (mods : ι1 → ι2 → ι3 → ι4 → (Nat → Value) → List (Nat × Value)) {l1 : ι1 → ι2 → ι3 → ι4 → (Nat → Value) → List Value} [∀ x1 x2 x3 x4 uu, SetG l (mods x1 x2 x3 x4 uu) (l1 x1 x2 x3 x4 uu)] (bs1 : ι1 → ι2 → ι3 → ι4 → List Item) (fs1 : ι1 → ι2 → ι3 → ι4 → List (World → Prop)) (rel : ι1 → ι2 → ι3 → ι4 → Prop) (μ : ι1 → ι2 → ι3 → ι4 → Nat) (z1 : ι1) (z2 : ι2) (z3 : ι3) (z4 : ι4) (h0 : rel z1 z2 z3 z4) (uu0 : Nat → Value) (S0 : St w0 M0 ds a w (l1 z1 z2 z3 z4 uu0) (bs1 z1 z2 z3 z4) (fs1 z1 z2 z3 z4))
    (hr : ∀ x1 x2 x3 x4 uu a w, rel x1 x2 x3 x4 → St w0 M0 ds a w (l1 x1 x2 x3 x4 uu) (bs1 x1 x2 x3 x4) (fs1 x1 x2 x3 x4) → Wp P r c (Exit.then (fun a w => ∃ y1 y2 y3 y4 vv, rel y1 y2 y3 y4 ∧ St w0 M0 ds a w (l1 y1 y2 y3 y4 vv) (bs1 y1 y2 y3 y4) (fs1 y1 y2 y3 y4) ∧ μ y1 y2 y3 y4 < μ x1 x2 x3 x4) Q) a w) : Wp P r (.loop c) Q a w := by
  refine c_loop (ι := ι1 × ι2 × ι3 × ι4) (fun p a w => rel (p.1) (p.2.1) (p.2.2.1) (p.2.2.2) ∧ ∃ uu, St w0 M0 ds a w (l1 (p.1) (p.2.1) (p.2.2.1) (p.2.2.2) uu) (bs1 (p.1) (p.2.1) (p.2.2.1) (p.2.2.2)) (fs1 (p.1) (p.2.1) (p.2.2.1) (p.2.2.2))) (fun p => μ (p.1) (p.2.1) (p.2.2.1) (p.2.2.2)) (z1, z2, z3, z4) ⟨h0, uu0, S0⟩ ?_
  rintro p a w ⟨h1, uu, S1⟩
  refine wpIn_mono (hr (p.1) (p.2.1) (p.2.2.1) (p.2.2.2) uu a w h1 S1) fun e a1 w1 hq => ?_
  cases e <;> first | exact hq | skip
  obtain ⟨y1, y2, y3, y4, vv, h2, S2, hm⟩ := hq
  exact ⟨(y1, y2, y3, y4), ⟨h2, vv, S2⟩, hm⟩
theorem c_forf4 {c : Code} {ι1 : Type} {ι2 : Type} {ι3 : Type} {ι4 : Type} (_S : St w0 M0 ds a w l bs fs) (mods : ι1 → ι2 → ι3 → ι4 → (Nat → Value) → List (Nat × Value)) {l1 : ι1 → ι2 → ι3 → ι4 → (Nat → Value) → List Value} [∀ x1 x2 x3 x4 uu, SetG l (mods x1 x2 x3 x4 uu) (l1 x1 x2 x3 x4 uu)] (bs1 : ι1 → ι2 → ι3 → ι4 → List Item)  (rel : ι1 → ι2 → ι3 → ι4 → Prop) (μ : ι1 → ι2 → ι3 → ι4 → Nat) (z1 : ι1) (z2 : ι2) (z3 : ι3) (z4 : ι4) (h0 : rel z1 z2 z3 z4) (uu0 : Nat → Value) (S0 : St w0 M0 ds a w (l1 z1 z2 z3 z4 uu0) (bs1 z1 z2 z3 z4) fs)
    (hr : ∀ x1 x2 x3 x4 uu a w, rel x1 x2 x3 x4 → St w0 M0 ds a w (l1 x1 x2 x3 x4 uu) (bs1 x1 x2 x3 x4) fs → Wp P r c (Exit.then (fun a w => ∃ y1 y2 y3 y4 vv, rel y1 y2 y3 y4 ∧ St w0 M0 ds a w (l1 y1 y2 y3 y4 vv) (bs1 y1 y2 y3 y4) fs ∧ μ y1 y2 y3 y4 < μ x1 x2 x3 x4) Q) a w) : Wp P r (.loop c) Q a w := by
  refine c_loop (ι := ι1 × ι2 × ι3 × ι4) (fun p a w => rel (p.1) (p.2.1) (p.2.2.1) (p.2.2.2) ∧ ∃ uu, St w0 M0 ds a w (l1 (p.1) (p.2.1) (p.2.2.1) (p.2.2.2) uu) (bs1 (p.1) (p.2.1) (p.2.2.1) (p.2.2.2)) fs) (fun p => μ (p.1) (p.2.1) (p.2.2.1) (p.2.2.2)) (z1, z2, z3, z4) ⟨h0, uu0, S0⟩ ?_
  rintro p a w ⟨h1, uu, S1⟩
  refine wpIn_mono (hr (p.1) (p.2.1) (p.2.2.1) (p.2.2.2) uu a w h1 S1) fun e a1 w1 hq => ?_
  cases e <;> first | exact hq | skip
  obtain ⟨y1, y2, y3, y4, vv, h2, S2, hm⟩ := hq
  exact ⟨(y1, y2, y3, y4), ⟨h2, vv, S2⟩, hm⟩
theorem c_fore5 {c : Code} {ι1 : Type} {ι2 : Type} {ι3 : Type} {ι4 : Type} {ι5 : Type} (_S : St w0 M0 ds a w l bs fs) (mods : ι1 → ι2 → ι3 → ι4 → ι5 → (Nat → Value) → List (Nat × Value)) {l1 : ι1 → ι2 → ι3 → ι4 → ι5 → (Nat → Value) → List Value} [∀ x1 x2 x3 x4 x5 uu, SetG l (mods x1 x2 x3 x4 x5 uu) (l1 x1 x2 x3 x4 x5 uu)] (bs1 : ι1 → ι2 → ι3 → ι4 → ι5 → List Item) (fs1 : ι1 → ι2 → ι3 → ι4 → ι5 → List (World → Prop)) (rel : ι1 → ι2 → ι3 → ι4 → ι5 → Prop) (μ : ι1 → ι2 → ι3 → ι4 → ι5 → Nat) (z1 : ι1) (z2 : ι2) (z3 : ι3) (z4 : ι4) (z5 : ι5) (h0 : rel z1 z2 z3 z4 z5) (uu0 : Nat → Value) (S0 : St w0 M0 ds a w (l1 z1 z2 z3 z4 z5 uu0) (bs1 z1 z2 z3 z4 z5) (fs1 z1 z2 z3 z4 z5))
    (hr : ∀ x1 x2 x3 x4 x5 uu a w, rel x1 x2 x3 x4 x5 → St w0 M0 ds a w (l1 x1 x2 x3 x4 x5 uu) (bs1 x1 x2 x3 x4 x5) (fs1 x1 x2 x3 x4 x5) → Wp P r c (Exit.then (fun a w => ∃ y1 y2 y3 y4 y5 vv, rel y1 y2 y3 y4 y5 ∧ St w0 M0 ds a w (l1 y1 y2 y3 y4 y5 vv) (bs1 y1 y2 y3 y4 y5) (fs1 y1 y2 y3 y4 y5) ∧ μ y1 y2 y3 y4 y5 < μ x1 x2 x3 x4 x5) Q) a w) : Wp P r (.loop c) Q a w := by
  refine c_loop (ι := ι1 × ι2 × ι3 × ι4 × ι5) (fun p a w => rel (p.1) (p.2.1) (p.2.2.1) (p.2.2.2.1) (p.2.2.2.2) ∧ ∃ uu, St w0 M0 ds a w (l1 (p.1) (p.2.1) (p.2.2.1) (p.2.2.2.1) (p.2.2.2.2) uu) (bs1 (p.1) (p.2.1) (p.2.2.1) (p.2.2.2.1) (p.2.2.2.2)) (fs1 (p.1) (p.2.1) (p.2.2.1) (p.2.2.2.1) (p.2.2.2.2))) (fun p => μ (p.1) (p.2.1) (p.2.2.1) (p.2.2.2.1) (p.2.2.2.2)) (z1, z2, z3, z4, z5) ⟨h0, uu0, S0⟩ ?_
  rintro p a w ⟨h1, uu, S1⟩
  refine wpIn_mono (hr (p.1) (p.2.1) (p.2.2.1) (p.2.2.2.1) (p.2.2.2.2) uu a w h1 S1) fun e a1 w1 hq => ?_
  cases e <;> first | exact hq | skip
  obtain ⟨y1, y2, y3, y4, y5, vv, h2, S2, hm⟩ := hq
  exact ⟨(y1, y2, y3, y4, y5), ⟨h2, vv, S2⟩, hm⟩
theorem c_forf5 {c : Code} {ι1 : Type} {ι2 : Type} {ι3 : Type} {ι4 : Type} {ι5 : Type} (_S : St w0 M0 ds a w l bs fs) (mods : ι1 → ι2 → ι3 → ι4 → ι5 → (Nat → Value) → List (Nat × Value)) {l1 : ι1 → ι2 → ι3 → ι4 → ι5 → (Nat → Value) → List Value} [∀ x1 x2 x3 x4 x5 uu, SetG l (mods x1 x2 x3 x4 x5 uu) (l1 x1 x2 x3 x4 x5 uu)] (bs1 : ι1 → ι2 → ι3 → ι4 → ι5 → List Item)  (rel : ι1 → ι2 → ι3 → ι4 → ι5 → Prop) (μ : ι1 → ι2 → ι3 → ι4 → ι5 → Nat) (z1 : ι1) (z2 : ι2) (z3 : ι3) (z4 : ι4) (z5 : ι5) (h0 : rel z1 z2 z3 z4 z5) (uu0 : Nat → Value) (S0 : St w0 M0 ds a w (l1 z1 z2 z3 z4 z5 uu0) (bs1 z1 z2 z3 z4 z5) fs)
    (hr : ∀ x1 x2 x3 x4 x5 uu a w, rel x1 x2 x3 x4 x5 → St w0 M0 ds a w (l1 x1 x2 x3 x4 x5 uu) (bs1 x1 x2 x3 x4 x5) fs → Wp P r c (Exit.then (fun a w => ∃ y1 y2 y3 y4 y5 vv, rel y1 y2 y3 y4 y5 ∧ St w0 M0 ds a w (l1 y1 y2 y3 y4 y5 vv) (bs1 y1 y2 y3 y4 y5) fs ∧ μ y1 y2 y3 y4 y5 < μ x1 x2 x3 x4 x5) Q) a w) : Wp P r (.loop c) Q a w := by
  refine c_loop (ι := ι1 × ι2 × ι3 × ι4 × ι5) (fun p a w => rel (p.1) (p.2.1) (p.2.2.1) (p.2.2.2.1) (p.2.2.2.2) ∧ ∃ uu, St w0 M0 ds a w (l1 (p.1) (p.2.1) (p.2.2.1) (p.2.2.2.1) (p.2.2.2.2) uu) (bs1 (p.1) (p.2.1) (p.2.2.1) (p.2.2.2.1) (p.2.2.2.2)) fs) (fun p => μ (p.1) (p.2.1) (p.2.2.1) (p.2.2.2.1) (p.2.2.2.2)) (z1, z2, z3, z4, z5) ⟨h0, uu0, S0⟩ ?_
  rintro p a w ⟨h1, uu, S1⟩
  refine wpIn_mono (hr (p.1) (p.2.1) (p.2.2.1) (p.2.2.2.1) (p.2.2.2.2) uu a w h1 S1) fun e a1 w1 hq => ?_
  cases e <;> first | exact hq | skip
  obtain ⟨y1, y2, y3, y4, y5, vv, h2, S2, hm⟩ := hq
  exact ⟨(y1, y2, y3, y4, y5), ⟨h2, vv, S2⟩, hm⟩
theorem c_fore6 {c : Code} {ι1 : Type} {ι2 : Type} {ι3 : Type} {ι4 : Type} {ι5 : Type} {ι6 : Type} (_S : St w0 M0 ds a w l bs fs) (mods : ι1 → ι2 → ι3 → ι4 → ι5 → ι6 → (Nat → Value) → List (Nat × Value)) {l1 : ι1 → ι2 → ι3 → ι4 → ι5 → ι6 → (Nat → Value) → List Value} [∀ x1 x2 x3 x4 x5 x6 uu, SetG l (mods x1 x2 x3 x4 x5 x6 uu) (l1 x1 x2 x3 x4 x5 x6 uu)] (bs1 : ι1 → ι2 → ι3 → ι4 → ι5 → ι6 → List Item) (fs1 : ι1 → ι2 → ι3 → ι4 → ι5 → ι6 → List (World → Prop)) (rel : ι1 → ι2 → ι3 → ι4 → ι5 → ι6 → Prop) (μ : ι1 → ι2 → ι3 → ι4 → ι5 → ι6 → Nat) (z1 : ι1) (z2 : ι2) (z3 : ι3) (z4 : ι4) (z5 : ι5) (z6 : ι6) (h0 : rel z1 z2 z3 z4 z5 z6) (uu0 : Nat → Value) (S0 : St w0 M0 ds a w (l1 z1 z2 z3 z4 z5 z6 uu0) (bs1 z1 z2 z3 z4 z5 z6) (fs1 z1 z2 z3 z4 z5 z6))
    (hr : ∀ x1 x2 x3 x4 x5 x6 uu a w, rel x1 x2 x3 x4 x5 x6 → St w0 M0 ds a w (l1 x1 x2 x3 x4 x5 x6 uu) (bs1 x1 x2 x3 x4 x5 x6) (fs1 x1 x2 x3 x4 x5 x6) → Wp P r c (Exit.then (fun a w => ∃ y1 y2 y3 y4 y5 y6 vv, rel y1 y2 y3 y4 y5 y6 ∧ St w0 M0 ds a w (l1 y1 y2 y3 y4 y5 y6 vv) (bs1 y1 y2 y3 y4 y5 y6) (fs1 y1 y2 y3 y4 y5 y6) ∧ μ y1 y2 y3 y4 y5 y6 < μ x1 x2 x3 x4 x5 x6) Q) a w) : Wp P r (.loop c) Q a w := by
  refine c_loop (ι := ι1 × ι2 × ι3 × ι4 × ι5 × ι6) (fun p a w => rel (p.1) (p.2.1) (p.2.2.1) (p.2.2.2.1) (p.2.2.2.2.1) (p.2.2.2.2.2) ∧ ∃ uu, St w0 M0 ds a w (l1 (p.1) (p.2.1) (p.2.2.1) (p.2.2.2.1) (p.2.2.2.2.1) (p.2.2.2.2.2) uu) (bs1 (p.1) (p.2.1) (p.2.2.1) (p.2.2.2.1) (p.2.2.2.2.1) (p.2.2.2.2.2)) (fs1 (p.1) (p.2.1) (p.2.2.1) (p.2.2.2.1) (p.2.2.2.2.1) (p.2.2.2.2.2))) (fun p => μ (p.1) (p.2.1) (p.2.2.1) (p.2.2.2.1) (p.2.2.2.2.1) (p.2.2.2.2.2)) (z1, z2, z3, z4, z5, z6) ⟨h0, uu0, S0⟩ ?_
  rintro p a w ⟨h1, uu, S1⟩
  refine wpIn_mono (hr (p.1) (p.2.1) (p.2.2.1) (p.2.2.2.1) (p.2.2.2.2.1) (p.2.2.2.2.2) uu a w h1 S1) fun e a1 w1 hq => ?_
  cases e <;> first | exact hq | skip
  obtain ⟨y1, y2, y3, y4, y5, y6, vv, h2, S2, hm⟩ := hq
  exact ⟨(y1, y2, y3, y4, y5, y6), ⟨h2, vv, S2⟩, hm⟩
end
/-! items, whatever they are -/
class ItOk (x : Item) : Prop where
  loc : ∀ w1 w2 : World, (∀ k, x.foot k → w2.heap[k]? = w1.heap[k]?) → x.holds w1 → x.holds w2
  lt : ∀ w : World, x.holds w → ∀ k, x.foot k → k < w.heap.size
instance itBox {b : Nat} {t : TypeId} {cs : List Value} : ItOk (box b t cs) := ⟨box_loc b t cs, fun w h k hk => by simp only [box] at hk h; subst hk; exact (Array.getElem?_eq_some_iff.1 h).1⟩
instance itRow {e : TypeId} {sz : Nat} {p : Option Addr} {n c : Nat} {xs : List Value} : ItOk (row e sz p n c xs) := ⟨row_loc e sz p n c xs, fun _ h => row_foot_lt h⟩
/-- two items taken for one. -/
def both (x y : Item) : Item where
  foot := fun k => x.foot k ∨ y.foot k
  holds := fun w => x.holds w ∧ y.holds w ∧ ∀ k, x.foot k → ¬ y.foot k
  own := x.own && y.own
instance itBoth {x y : Item} [hx : ItOk x] [hy : ItOk y] : ItOk (both x y) := ⟨fun w1 w2 h h1 => ⟨hx.loc w1 w2 (fun k hk => h k (.inl hk)) h1.1, hy.loc w1 w2 (fun k hk => h k (.inr hk)) h1.2.1, h1.2.2⟩, fun w h k hk => hk.elim (hx.lt w h.1 k) (hy.lt w h.2.1 k)⟩
theorem foots_both {x y : Item} {bs : List Item} : foots (both x y :: bs) = foots (x :: y :: bs) := by
  funext k
  simp only [foots, List.mem_cons, or_and_right, exists_or, exists_eq_left, both, or_assoc]
section
variable {w0 : World} {M0 : Nat → Prop} {ds : List Deferred} {a : Act} {w : World} {l : List Value} {bs bs' : List Item} {fs : List (World → Prop)} {x y : Item}
theorem Wd.toBoth [ox : ItOk x] [oy : ItOk y] (h : Wd w0 M0 w (x :: y :: bs) fs) (hx : x.own = true) (hy : y.own = true) : Wd w0 M0 w (both x y :: bs) fs := by
  have hp := List.pairwise_cons.1 h.apart
  have hp2 := List.pairwise_cons.1 hp.2
  have hap : ∀ k, x.foot k → ¬ y.foot k := hp.1 y (by simp)
  refine ⟨h.agree, ?_, ?_, ?_, ?_, ?_, ?_⟩
  · intro it hi
    rcases List.mem_cons.1 hi with rfl | hi
    · exact ⟨h.held x (by simp), h.held y (by simp), hap⟩
    · exact h.held it (by simp [hi])
  · intro it hi k hk
    rcases List.mem_cons.1 hi with rfl | hi
    · exact hk.elim (h.lt x (by simp) k) (h.lt y (by simp) k)
    · exact h.lt it (by simp [hi]) k hk
  · intro it hi ho k hk
    rcases List.mem_cons.1 hi with rfl | hi
    · exact hk.elim (h.own x (by simp) hx k) (h.own y (by simp) hy k)
    · exact h.own it (by simp [hi]) ho k hk
  · exact List.pairwise_cons.2 ⟨fun it hi k hk => hk.elim (hp.1 it (by simp [hi]) k) (hp2.1 it hi k), hp2.2⟩
  · intro Φ hΦ; rw [foots_both]; exact h.facts Φ hΦ
  · intro it hi
    rcases List.mem_cons.1 hi with rfl | hi
    · exact (itBoth (x := x) (y := y)).loc
    · exact h.loc it (by simp [hi])
theorem Wd.ofBoth [ox : ItOk x] [oy : ItOk y] (h : Wd w0 M0 w (both x y :: bs) fs) (hx : x.own = true) (hy : y.own = true) : Wd w0 M0 w (x :: y :: bs) fs := by
  have hb := h.held (both x y) (by simp)
  have hp := List.pairwise_cons.1 h.apart
  have hown := h.own (both x y) (by simp) (by simp [both, hx, hy])
  refine ⟨h.agree, ?_, ?_, ?_, ?_, ?_, ?_⟩
  · intro it hi
    rcases List.mem_cons.1 hi with rfl | hi
    · exact hb.1
    · rcases List.mem_cons.1 hi with rfl | hi
      · exact hb.2.1
      · exact h.held it (by simp [hi])
  · intro it hi k hk
    rcases List.mem_cons.1 hi with rfl | hi
    · exact h.lt (both it y) (by simp) k (.inl hk)
    · rcases List.mem_cons.1 hi with rfl | hi
      · exact h.lt (both x it) (by simp) k (.inr hk)
      · exact h.lt it (by simp [hi]) k hk
  · intro it hi ho k hk
    rcases List.mem_cons.1 hi with rfl | hi
    · exact hown k (.inl hk)
    · rcases List.mem_cons.1 hi with rfl | hi
      · exact hown k (.inr hk)
      · exact h.own it (by simp [hi]) ho k hk
  · refine List.pairwise_cons.2 ⟨fun it hi k hk => ?_, List.pairwise_cons.2 ⟨fun it hi k hk => hp.1 it hi k (.inr hk), hp.2⟩⟩
    rcases List.mem_cons.1 hi with rfl | hi
    · exact hb.2.2 k hk
    · exact hp.1 it hi k (.inl hk)
  · intro Φ hΦ; rw [← foots_both]; exact h.facts Φ hΦ
  · intro it hi
    rcases List.mem_cons.1 hi with rfl | hi
    · exact ox.loc
    · rcases List.mem_cons.1 hi with rfl | hi
      · exact oy.loc
      · exact h.loc it (by simp [hi])
/-- items in another order. -/
theorem St.perm (S : St w0 M0 ds a w l bs fs) (bs' : List Item) (hp : bs'.Perm bs) : St w0 M0 ds a w l bs' fs := ⟨S.slots, S.defers, S.wd.perm hp⟩
/-- an item is taken to the front. -/
theorem St.front (S : St w0 M0 ds a w l bs fs) (x : Item) [hd : DropI bs x bs'] : St w0 M0 ds a w l (x :: bs') fs := S.perm _ hd.perm
theorem St.toBoth [ItOk x] [ItOk y] (S : St w0 M0 ds a w l (x :: y :: bs) fs) (hx : x.own = true := by rfl) (hy : y.own = true := by rfl) : St w0 M0 ds a w l (both x y :: bs) fs := ⟨S.slots, S.defers, S.wd.toBoth hx hy⟩
theorem St.ofBoth [ItOk x] [ItOk y] (S : St w0 M0 ds a w l (both x y :: bs) fs) (hx : x.own = true := by rfl) (hy : y.own = true := by rfl) : St w0 M0 ds a w l (x :: y :: bs) fs := ⟨S.slots, S.defers, S.wd.ofBoth hx hy⟩
/-- what a function begins with that is lent an item. -/
theorem Wd.itLent {x : Item} [ox : ItOk x] (h : x.holds w) (hf : ∀ Φ ∈ fs, Stable x.foot w Φ) : Wd w x.foot w [x] fs := by
  refine ⟨Agree.refl _ _, ?_, ?_, ?_, by simp, ?_, ?_⟩
  · intro it hi; obtain rfl := List.mem_singleton.1 hi; exact h
  · intro it hi; obtain rfl := List.mem_singleton.1 hi; exact ox.lt w h
  · intro it hi _ k hk; obtain rfl := List.mem_singleton.1 hi; exact .inl hk
  · intro Φ hΦ
    refine (hf Φ hΦ).less fun k _ hk => ?_
    obtain ⟨it, hi, hk⟩ := hk
    obtain rfl := List.mem_singleton.1 hi; exact hk
  · intro it hi; obtain rfl := List.mem_singleton.1 hi; exact ox.loc
/-- likewise two items. -/
theorem Wd.it2Lent {x y : Item} [ox : ItOk x] [oy : ItOk y] (h : (both x y).holds w) (hx : x.own = true) (hy : y.own = true) (hf : ∀ Φ ∈ fs, Stable (both x y).foot w Φ) : Wd w (both x y).foot w [x, y] fs := (Wd.itLent h hf).ofBoth hx hy
class HasIt (bs : List Item) (x : Item) : Prop where mem : x ∈ bs
instance hit0 {x : Item} {bs : List Item} : HasIt (x :: bs) x := ⟨List.mem_cons_self ..⟩
instance (priority := 900) hit1 {x y : Item} {bs : List Item} [h : HasIt bs x] : HasIt (y :: bs) x := ⟨List.mem_cons_of_mem _ h.mem⟩
theorem St.it (S : St w0 M0 ds a w l bs fs) (x : Item) [h : HasIt bs x] : x.holds w := S.wd.held _ h.mem
/-- facts as a callee sees them to whom an item is lent. -/
theorem St.lend (_S : St w0 M0 ds a w l bs fs) (x : Item) [h : HasIt bs x] {Φ : World → Prop} (hΦ : Stable (foots bs) w Φ) : Stable x.foot w Φ := hΦ.less fun _ _ hk => ⟨_, h.mem, hk⟩
theorem St.itNew (S : St w0 M0 ds a w l bs fs) (x : Item) [h : HasIt bs x] (ho : x.own = true := by rfl) : ∀ k, x.foot k → M0 k ∨ w0.heap.size ≤ k := S.wd.own _ h.mem ho
end
section
variable {P : Program} {r : Option Nat} {ops : Array Oper} {Q : Exit → Act → World → Prop} {w0 : World} {M0 : Nat → Prop} {ds : List Deferred} {a : Act} {w : World} {l : List Value} {bs : List Item} {fs : List (World → Prop)}
  {d : Option Nat} {ty : TypeId} {pos : String} {af : Array Edge} {rest : List Oper} {f : Nat} {x : Operand} {ys : List Operand} {args : List Value} {ts : Array TypeId}
/-- a call that may write what one item holds. -/
theorem sit {l' : Value → List Value} (it : Item) [EntF P f] [CallTo ⟨[], l⟩ x ys f args] [hp : ∀ v, PutO l d v (l' v)] (S : St w0 M0 ds a w l bs fs) {R : Value → World → Prop} (hc : Ret P f args w it.foot R) (ho : it.own = true)
    (K : ∀ v a w', R v w' → (∀ (y : Item) {bs' : List Item} [ReplI bs it y bs'] [ItOk y], y.holds w' → (∀ k, y.foot k → it.foot k ∨ w.heap.size ≤ k) → St w0 M0 ds a w' (l' v) bs' fs) → WL P r ops Q rest a w') :
    WL P r ops Q (⟨d, .call { callee := .value x, args := ys.toArray, argTypes := ts }, ty, pos, af, none⟩ :: rest) a w :=
  sri it S hc ho fun v a w' hR hS => K v a w' hR fun y bs' hr oy h hf => hS y bs' hr h hf (oy.lt w' h) oy.loc
/-- a call that hands back something in new memory. -/
theorem snew {l' : Value → List Value} [EntF P f] [CallTo ⟨[], l⟩ x ys f args] [hp : ∀ v, PutO l d v (l' v)] (S : St w0 M0 ds a w l bs fs) {R : Value → World → Prop} (hc : Ret P f args w (fun _ => False) R)
    (K : ∀ v a w', w.heap.size ≤ w'.heap.size → R v w' → (∀ (y : Item) [ItOk y], y.holds w' → (∀ k, y.foot k → w.heap.size ≤ k) → St w0 M0 ds a w' (l' v) (y :: bs) fs) → St w0 M0 ds a w' (l' v) bs fs → WL P r ops Q rest a w') :
    WL P r ops Q (⟨d, .call { callee := .value x, args := ys.toArray, argTypes := ts }, ty, pos, af, none⟩ :: rest) a w := by
  refine cv_any S hc ?_
  rintro e w' ⟨v, rfl, ha, hR⟩
  have := hp v
  have S' := S.put (d := d) (v := v)
  exact ⟨v, rfl, K v _ w' ha.size hR (fun y oy hy hf => ⟨S'.slots, S'.defers, S'.wd.addItem ha hy hf (oy.lt w' hy) oy.loc⟩) ⟨S'.slots, S'.defers, S'.wd.step ha⟩⟩
end

/-! texts cut out of texts -/
instance : IsNat 6 6 := ⟨rfl⟩
instance : IsNat 7 7 := ⟨rfl⟩
instance : IsNat 8 8 := ⟨rfl⟩
instance : IsNat 9 9 := ⟨rfl⟩
instance : IsNat 10 10 := ⟨rfl⟩
instance : IsNat 11 11 := ⟨rfl⟩
instance : IsNat 12 12 := ⟨rfl⟩
instance : IsNat 13 13 := ⟨rfl⟩
instance : IsNat 14 14 := ⟨rfl⟩
instance : IsNat 15 15 := ⟨rfl⟩
instance : IsNat 16 16 := ⟨rfl⟩
instance : IsNat 17 17 := ⟨rfl⟩
instance : IsNat 18 18 := ⟨rfl⟩
instance : IsNat 19 19 := ⟨rfl⟩
instance : IsNat 20 20 := ⟨rfl⟩
instance : IsNat 21 21 := ⟨rfl⟩
instance : IsNat 22 22 := ⟨rfl⟩
instance : IsNat 23 23 := ⟨rfl⟩
instance : IsNat 24 24 := ⟨rfl⟩
instance : IsNat 25 25 := ⟨rfl⟩
instance : IsNat 26 26 := ⟨rfl⟩
instance : IsNat 27 27 := ⟨rfl⟩
instance : IsNat 28 28 := ⟨rfl⟩
instance : IsNat 29 29 := ⟨rfl⟩
instance : IsNat 30 30 := ⟨rfl⟩
instance : IsNat 31 31 := ⟨rfl⟩
instance : IsNat 32 32 := ⟨rfl⟩
instance : IsNat 33 33 := ⟨rfl⟩
instance : IsNat 34 34 := ⟨rfl⟩
instance : IsNat 35 35 := ⟨rfl⟩
instance : IsNat 36 36 := ⟨rfl⟩
instance : IsNat 37 37 := ⟨rfl⟩
instance : IsNat 38 38 := ⟨rfl⟩
instance : IsNat 39 39 := ⟨rfl⟩
instance : IsNat 40 40 := ⟨rfl⟩
instance : IsNat 41 41 := ⟨rfl⟩
instance : IsNat 42 42 := ⟨rfl⟩
instance : IsNat 43 43 := ⟨rfl⟩
instance : IsNat 44 44 := ⟨rfl⟩
instance : IsNat 45 45 := ⟨rfl⟩
instance : IsNat 46 46 := ⟨rfl⟩
instance : IsNat 47 47 := ⟨rfl⟩
instance : IsNat 48 48 := ⟨rfl⟩
instance : IsNat 49 49 := ⟨rfl⟩
instance : IsNat 50 50 := ⟨rfl⟩
instance : IsNat 51 51 := ⟨rfl⟩
instance : IsNat 52 52 := ⟨rfl⟩
instance : IsNat 53 53 := ⟨rfl⟩
instance : IsNat 54 54 := ⟨rfl⟩
instance : IsNat 55 55 := ⟨rfl⟩
instance : IsNat 56 56 := ⟨rfl⟩
instance : IsNat 57 57 := ⟨rfl⟩
instance : IsNat 58 58 := ⟨rfl⟩
instance : IsNat 59 59 := ⟨rfl⟩
instance : IsNat 60 60 := ⟨rfl⟩
instance : IsNat 61 61 := ⟨rfl⟩
instance : IsNat 62 62 := ⟨rfl⟩
instance : IsNat 63 63 := ⟨rfl⟩
instance : IsNat 64 64 := ⟨rfl⟩
instance : IsNat 65 65 := ⟨rfl⟩
instance : IsNat 66 66 := ⟨rfl⟩
instance : IsNat 67 67 := ⟨rfl⟩
instance : IsNat 68 68 := ⟨rfl⟩
instance : IsNat 69 69 := ⟨rfl⟩
instance : IsNat 70 70 := ⟨rfl⟩
instance : IsNat 71 71 := ⟨rfl⟩
instance : IsNat 72 72 := ⟨rfl⟩
instance : IsNat 73 73 := ⟨rfl⟩
instance : IsNat 74 74 := ⟨rfl⟩
instance : IsNat 75 75 := ⟨rfl⟩
instance : IsNat 76 76 := ⟨rfl⟩
instance : IsNat 77 77 := ⟨rfl⟩
instance : IsNat 78 78 := ⟨rfl⟩
instance : IsNat 79 79 := ⟨rfl⟩
instance : IsNat 80 80 := ⟨rfl⟩
instance : IsNat 81 81 := ⟨rfl⟩
instance : IsNat 82 82 := ⟨rfl⟩
instance : IsNat 83 83 := ⟨rfl⟩
instance : IsNat 84 84 := ⟨rfl⟩
instance : IsNat 85 85 := ⟨rfl⟩
instance : IsNat 86 86 := ⟨rfl⟩
instance : IsNat 87 87 := ⟨rfl⟩
instance : IsNat 88 88 := ⟨rfl⟩
instance : IsNat 89 89 := ⟨rfl⟩
instance : IsNat 90 90 := ⟨rfl⟩
instance : IsNat 91 91 := ⟨rfl⟩
instance : IsNat 92 92 := ⟨rfl⟩
instance : IsNat 93 93 := ⟨rfl⟩
instance : IsNat 94 94 := ⟨rfl⟩
instance : IsNat 95 95 := ⟨rfl⟩
instance : IsNat 96 96 := ⟨rfl⟩
instance : IsNat 97 97 := ⟨rfl⟩
instance : IsNat 98 98 := ⟨rfl⟩
instance : IsNat 99 99 := ⟨rfl⟩
instance : IsNat 100 100 := ⟨rfl⟩
instance : IsNat 101 101 := ⟨rfl⟩
instance : IsNat 102 102 := ⟨rfl⟩
instance : IsNat 103 103 := ⟨rfl⟩
instance : IsNat 104 104 := ⟨rfl⟩
instance : IsNat 105 105 := ⟨rfl⟩
instance : IsNat 106 106 := ⟨rfl⟩
instance : IsNat 107 107 := ⟨rfl⟩
instance : IsNat 108 108 := ⟨rfl⟩
instance : IsNat 109 109 := ⟨rfl⟩
instance : IsNat 110 110 := ⟨rfl⟩
instance : IsNat 111 111 := ⟨rfl⟩
instance : IsNat 112 112 := ⟨rfl⟩
instance : IsNat 113 113 := ⟨rfl⟩
instance : IsNat 114 114 := ⟨rfl⟩
instance : IsNat 115 115 := ⟨rfl⟩
instance : IsNat 116 116 := ⟨rfl⟩
instance : IsNat 117 117 := ⟨rfl⟩
instance : IsNat 118 118 := ⟨rfl⟩
instance : IsNat 119 119 := ⟨rfl⟩
instance : IsNat 120 120 := ⟨rfl⟩
instance : IsNat 121 121 := ⟨rfl⟩
instance : IsNat 122 122 := ⟨rfl⟩
instance : IsNat 123 123 := ⟨rfl⟩
instance : IsNat 124 124 := ⟨rfl⟩
instance : IsNat 125 125 := ⟨rfl⟩
instance : IsNat 126 126 := ⟨rfl⟩
instance : IsNat 127 127 := ⟨rfl⟩
instance : IsNat 128 128 := ⟨rfl⟩
instance : IsNat 129 129 := ⟨rfl⟩
instance : IsNat 130 130 := ⟨rfl⟩
instance : IsNat 200 200 := ⟨rfl⟩
instance : IsNat 250 250 := ⟨rfl⟩
instance : IsNat 255 255 := ⟨rfl⟩
instance : IsNat 256 256 := ⟨rfl⟩
instance : IsNat 300 300 := ⟨rfl⟩
instance : IsNat 400 400 := ⟨rfl⟩
instance : IsNat 430 430 := ⟨rfl⟩
instance : IsNat 500 500 := ⟨rfl⟩
instance : IsNat 501 501 := ⟨rfl⟩
instance : IsNat 512 512 := ⟨rfl⟩
instance : IsNat 600 600 := ⟨rfl⟩
instance : IsNat 1000 1000 := ⟨rfl⟩
instance : IsNat 1024 1024 := ⟨rfl⟩
instance : IsNat 1200 1200 := ⟨rfl⟩
instance : IsNat 1300 1300 := ⟨rfl⟩
instance : IsNat 2048 2048 := ⟨rfl⟩
instance : IsNat 4096 4096 := ⟨rfl⟩
instance : IsNat 9999 9999 := ⟨rfl⟩
instance : IsNat 20000 20000 := ⟨rfl⟩
instance : IsNat 40000 40000 := ⟨rfl⟩
instance : IsNat 65535 65535 := ⟨rfl⟩
instance : IsNat 65536 65536 := ⟨rfl⟩
instance : IsNat 262144 262144 := ⟨rfl⟩
instance isnatMin {a b : Int} {n m : Nat} [h : IsNat a n] [h' : IsNat b m] : IsNat (min a b) (min n m) := ⟨by rw [h.eq, h'.eq]; omega⟩
instance (priority := 900) lecZ {a : Nat} : LeC 0 a := ⟨Nat.zero_le _⟩
section
variable {P : Program} {l lc : Cx} {bs : List Item} {fs : List (World → Prop)} {x y : Operand} {p : Option Addr} {n c k : Nat} {t ty e : TypeId} {z : Value} {sz by_ : Nat} {ol oh om : Option Operand} {lo hi mx : Nat} {s : List UInt8}
instance (priority := 710) opSliceQ0 [Ev lc x (.slice p n c)] [EvB lc oh n hi] [EvB lc om c mx] [Und P t (.slice e)] [TI P e z sz by_] [h1 : LeC mx c] [h2 : LeC hi mx] [h4 : HiOk om oh] :
    OpQ P (.slice t x none oh om) ty lc bs fs (.slice p hi mx) := ⟨fun ρ w h _ => by
  have := run_cut (P := P) (ρ := ρ) (lc := lc) (ol := none) (oh := oh) (om := om) (lo := 0) (hi := hi) (mx := mx) (t := t) (e := e) (z := z) (sz := sz) (by_ := by_) (x := x) (p := p) (n := n) (c := c) (ty := ty) h h1.le h2.le (Nat.zero_le _) h4.ok w
  rw [this]
  have e1 : (if mx = 0 then p else p.map (·.add (0 * sz))) = p := by
    split
    · rfl
    · cases p <;> simp [Addr.add]
  rw [e1]; simp⟩
end
/-- a list of terms that somebody has. -/
def IsLs (M : Nat → Prop) (w : World) (v : Value) (Ts : List Term) : Prop := ∃ (p : Option Addr) (c : Nat) (os : List LTerm), v = .slice p os.length c ∧ os.map LTerm.t = Ts ∧ os.length ≤ c ∧ c ≤ maxLen ∧ Stable M w (LsF p 0 os)

/-- what a function begins with that is lent an item; of the blocks Mr it knows nothing. -/
theorem Wd.itLentM {w : World} {fs : List (World → Prop)} {x : Item} {Mr : Nat → Prop} [ox : ItOk x] (h : x.holds w) (hM : ∀ k, Mr k → k < w.heap.size ∧ ¬ x.foot k) (hf : ∀ Φ ∈ fs, Stable (fun k => x.foot k ∨ Mr k) w Φ) : Wd w x.foot w [x, ext Mr] fs := by
  refine ⟨Agree.refl _ _, ?_, ?_, ?_, ?_, ?_, ?_⟩
  · intro it hi
    rcases List.mem_cons.1 hi with rfl | hi
    · exact h
    · obtain rfl := List.mem_singleton.1 hi; trivial
  · intro it hi k hk
    rcases List.mem_cons.1 hi with rfl | hi
    · exact ox.lt w h k hk
    · obtain rfl := List.mem_singleton.1 hi; exact (hM k hk).1
  · intro it hi ho k hk
    rcases List.mem_cons.1 hi with rfl | hi
    · exact .inl hk
    · obtain rfl := List.mem_singleton.1 hi; cases ho
  · refine List.pairwise_cons.2 ⟨fun it hi k hk hk' => ?_, by simp⟩
    obtain rfl := List.mem_singleton.1 hi; exact (hM k hk').2 hk
  · intro Φ hΦ
    refine (hf Φ hΦ).less fun k _ hk => ?_
    obtain ⟨it, hi, hk⟩ := hk
    rcases List.mem_cons.1 hi with rfl | hi
    · exact .inl hk
    · obtain rfl := List.mem_singleton.1 hi; exact .inr hk
  · intro it hi
    rcases List.mem_cons.1 hi with rfl | hi
    · exact ox.loc
    · obtain rfl := List.mem_singleton.1 hi; exact fun _ _ _ _ => trivial
theorem Wd.it2LentM {w : World} {fs : List (World → Prop)} {x y : Item} {Mr : Nat → Prop} [ox : ItOk x] [oy : ItOk y] (h : (both x y).holds w) (hx : x.own = true) (hy : y.own = true) (hM : ∀ k, Mr k → k < w.heap.size ∧ ¬ (both x y).foot k) (hf : ∀ Φ ∈ fs, Stable (fun k => (both x y).foot k ∨ Mr k) w Φ) : Wd w (both x y).foot w [x, y, ext Mr] fs := (Wd.itLentM h hM hf).ofBoth hx hy
/-- what else a caller holds. -/
def restOf (bs : List Item) (x : Item) : Nat → Prop := fun k => foots bs k ∧ ¬ x.foot k
theorem St.restOk {w0 : World} {M0 : Nat → Prop} {ds : List Deferred} {a : Act} {w : World} {l : List Value} {bs : List Item} {fs : List (World → Prop)} (S : St w0 M0 ds a w l bs fs) (x : Item) : ∀ k, restOf bs x k → k < w.heap.size ∧ ¬ x.foot k := fun k h => ⟨foots_lt S k h.1, h.2⟩
theorem Stable.split {bs : List Item} {w : World} {Φ : World → Prop} (x : Item) [hx : HasIt bs x] (h : Stable (foots bs) w Φ) : Stable (fun k => x.foot k ∨ restOf bs x k) w Φ := h.less fun _ _ hk => hk.elim (fun h => ⟨x, hx.mem, h⟩) (fun h => h.1)

section
variable {P : Program} {r : Option Nat} {ops : Array Oper} {Q : Exit → Act → World → Prop} {w0 : World} {M0 : Nat → Prop} {ds : List Deferred} {a : Act} {w : World} {l : List Value} {bs bs' : List Item} {fs : List (World → Prop)}
  {d : Option Nat} {ty : TypeId} {pos : String} {af : Array Edge} {rest : List Oper} {f : Nat} {x : Operand} {ys : List Operand} {args : List Value} {ts : Array TypeId}
theorem St.addAll (S : St w0 M0 ds a w l bs fs) : ∀ (fs2 : List (World → Prop)), (∀ Φ ∈ fs2, Stable (foots bs) w Φ) → St w0 M0 ds a w l bs (fs2 ++ fs)
  | [], _ => S
  | Φ :: fs2, h => (St.addAll S fs2 (fun Ψ hΨ => h Ψ (by simp [hΨ]))).add (h Φ (by simp))
/-- a call that may write what one item holds, and hands facts back. -/
theorem sitM {l' : Value → List Value} (it : Item) [EntF P f] [CallTo ⟨[], l⟩ x ys f args] [hp : ∀ v, PutO l d v (l' v)] (S : St w0 M0 ds a w l bs fs) {R : Value → World → Prop} (hc : Ret P f args w it.foot R) (ho : it.own = true)
    (K : ∀ v a w', R v w' → (∀ (y : Item) (fs2 : List (World → Prop)) {fs3 : List (World → Prop)} {bs' : List Item} [AppL fs2 fs fs3] [ReplI bs it y bs'] [ItOk y], y.holds w' → (∀ k, y.foot k → it.foot k ∨ w.heap.size ≤ k) → (∀ Φ ∈ fs2, Stable (fun k => y.foot k ∨ restOf bs it k) w' Φ) → St w0 M0 ds a w' (l' v) bs' fs3) → WL P r ops Q rest a w') :
    WL P r ops Q (⟨d, .call { callee := .value x, args := ys.toArray, argTypes := ts }, ty, pos, af, none⟩ :: rest) a w := by
  have hap := S.wd.apart
  refine sit it S hc ho fun v a w' hR hS => K v a w' hR fun y fs2 fs3 bs' happ hr oy hy hf hfs => ?_
  rw [← happ.eq]
  refine (hS y hy hf).addAll fs2 fun Φ hΦ => (hfs Φ hΦ).less fun k _ hk => ?_
  obtain ⟨pre, post, rfl, rfl⟩ := hr.ex
  obtain ⟨z, hz, hk⟩ := hk
  have hp := List.pairwise_append.1 hap
  rcases List.mem_append.1 hz with hz | hz
  · exact .inr ⟨⟨z, by simp [hz], hk⟩, hp.2.2 z hz it (by simp) k hk⟩
  · rcases List.mem_cons.1 hz with rfl | hz
    · exact .inl hk
    · exact .inr ⟨⟨z, by simp [hz], hk⟩, fun hx => (List.pairwise_cons.1 hp.2.1).1 z hz k hx hk⟩
/-- a variable of one's own that is only read from here on. -/
theorem St.boxToF (S : St w0 M0 ds a w l bs fs) (b : Nat) {t : TypeId} {cs : List Value} [_hb : HasBox bs b t cs] [hd : DropI bs (Wk.box b t cs) bs'] : St w0 M0 ds a w l bs' (BoxF b t cs :: fs) := by
  have S1 := S.perm _ hd.perm
  have hap := List.pairwise_cons.1 S1.wd.apart
  have hbx : BoxF b t cs w := S1.wd.held (Wk.box b t cs) (by simp)
  have S2 : St w0 M0 ds a w l bs' fs := ⟨S1.slots, S1.defers, S1.wd.sub (.cons _ (.refl _)) (.refl _)⟩
  exact S2.add (BoxF.stable hbx fun ⟨it, hi, hk⟩ => hap.1 it hi b rfl hk)
end

/-! a byte of a text -/
section
variable {P : Program} {l : Cx} {bs : List Item} {fs : List (World → Prop)} {x y : Operand} {k : Nat} {kk : IntKind} {m : Int} {t ty : TypeId} {s : List UInt8}
end
/-! the first of those for which something holds -/
def idxG {α : Type} (q : α → Bool) : List α → Int → Int
  | [], _ => -1
  | x :: xs, i => if q x then i else idxG q xs (i + 1)
theorem encL_takeG {α : Type} [Enc α] (xs : List α) (m : Nat) : encL (xs.take m) = (encL xs).take (m * Enc.sz α) := (encL_take xs m).symm
theorem GlF.take {α : Type} [Lay α] {p : Option Addr} {xs : List α} {w : World} (m : Nat) (h : GlF p xs w) : GlF p (xs.take m) w := by
  refine ⟨⟨fun hp => by rw [encL_takeG, h.1.1 hp]; simp, fun ad hp j u hj => h.1.2 ad hp j u ?_⟩, fun x hx => h.2 x (List.mem_of_mem_take hx)⟩
  rw [encL_takeG, List.getElem?_take] at hj
  split at hj
  · exact hj
  · cases hj
/-- what these things have below them lies where they say. -/
def AllI {α : Type} [Lay α] (L : List α) : World → Prop := fun w => ∀ x ∈ L, Lay.inn w x
theorem AllI.get {α : Type} [Lay α] {M : Nat → Prop} {w : World} {L : List α} (h : Stable M w (AllI L)) {x : α} (hx : x ∈ L) : Stable M w (InF x) := fun w' hw => h w' hw x hx
theorem gl_own {α : Type} [Lay α] {M : Nat → Prop} {w : World} {e : TypeId} {p : Option Addr} {n c sz : Nat} {xs : List α} (h : w.ownsRow 0 e sz (.slice p n c) n (encL xs)) (hk : Stable M w (AllI xs)) (hM : ∀ ad, p = some ad → ¬ M ad.block) : Stable M w (GlF p xs) := gl_of_own h (fun _ hx => AllI.get hk hx) hM
end Go.Wk
