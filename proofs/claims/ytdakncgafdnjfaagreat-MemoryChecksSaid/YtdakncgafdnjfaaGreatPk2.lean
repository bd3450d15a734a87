/- 2: a part of this claim's texts, joined: Inst Octet TermA TermB TermC SlicesT TermD RefTerm PlainRight TermE TermF CloseA PlainName. -/
import Derived.Test.YtdakncgafdnjfaaGreatPk1
import Derived.Test.YtdakncgafdnjfaaGreatProg
namespace Go.Proofs.YtdakncgafdnjfaaGreat
open Go Go.Wk
section
set_option maxRecDepth 100000
instance:Und Tryz.prog 3 (.int .i64):=⟨Tryz.underlying3⟩
instance:TI Tryz.prog 3 (.int .i64 0) 1 8:=ti_of (by kernel_rfl)
instance:Und Tryz.prog 4 (.bool):=⟨Tryz.underlying4⟩
instance:TI Tryz.prog 4 (.bool false) 1 1:=ti_of (by kernel_rfl)
instance:Und Tryz.prog 5 (.int .u8):=⟨Tryz.underlying5⟩
instance:TI Tryz.prog 5 (.int .u8 0) 1 1:=ti_of (by kernel_rfl)
instance:Und Tryz.prog 9 (.string):=⟨Tryz.underlying9⟩
instance:TI Tryz.prog 9 (.string ⟨#[]⟩) 1 16:=ti_of (by kernel_rfl)
instance:Und Tryz.prog 25 (.slice 5):=⟨Tryz.underlying25⟩
instance:TI Tryz.prog 25 (.slice none 0 0) 1 24:=ti_of (by kernel_rfl)
instance:Und Tryz.prog 26 (.int .i64):=⟨Tryz.underlying26⟩
instance:TI Tryz.prog 26 (.int .i64 0) 1 8:=ti_of (by kernel_rfl)
instance:Und Tryz.prog 33 (.slice 25):=⟨Tryz.underlying33⟩
instance:TI Tryz.prog 33 (.slice none 0 0) 1 24:=ti_of (by kernel_rfl)
instance:Und Tryz.prog 34 (.pointer 170):=⟨Tryz.underlying34⟩
instance:Und Tryz.prog 36 (.pointer 134):=⟨Tryz.underlying36⟩
instance:Und Tryz.prog 41 (.slice 43):=⟨Tryz.underlying41⟩
instance:TI Tryz.prog 41 (.slice none 0 0) 1 24:=ti_of (by kernel_rfl)
instance:AggT Tryz.prog 43 true:=aggT_of (by kernel_rfl)
instance:Fld Tryz.prog 43 0 0 3:=fld_of (by kernel_rfl)
instance:Fld Tryz.prog 43 1 1 3:=fld_of (by kernel_rfl)
instance:Fld Tryz.prog 43 2 2 3:=fld_of (by kernel_rfl)
instance:Fld Tryz.prog 43 3 3 9:=fld_of (by kernel_rfl)
instance:Fld Tryz.prog 43 4 4 41:=fld_of (by kernel_rfl)
instance:PlOf Tryz.prog 43 [(0,1),(1,1),(2,1),(3,1),(4,1)]:=plof_of (by kernel_rfl)
instance:TI Tryz.prog 43 (.agg #[.int .i64 0,.int .i64 0,.int .i64 0,.string ⟨#[]⟩,.slice none 0 0]) 5 64:=ti_of (by kernel_rfl)
instance:Und Tryz.prog 62 (.slice 67):=⟨Tryz.underlying62⟩
instance:Und Tryz.prog 63 (.slice 175):=⟨Tryz.underlying63⟩
instance:TI Tryz.prog 63 (.slice none 0 0) 1 24:=ti_of (by kernel_rfl)
instance:Und Tryz.prog 64 (.slice 177):=⟨Tryz.underlying64⟩
instance:TI Tryz.prog 64 (.slice none 0 0) 1 24:=ti_of (by kernel_rfl)
instance:Und Tryz.prog 65 (.slice 179):=⟨Tryz.underlying65⟩
instance:TI Tryz.prog 65 (.slice none 0 0) 1 24:=ti_of (by kernel_rfl)
instance:AggT Tryz.prog 67 true:=aggT_of (by kernel_rfl)
instance:Fld Tryz.prog 67 0 0 3:=fld_of (by kernel_rfl)
instance:Fld Tryz.prog 67 1 1 3:=fld_of (by kernel_rfl)
instance:Fld Tryz.prog 67 2 2 3:=fld_of (by kernel_rfl)
instance:Fld Tryz.prog 67 3 3 3:=fld_of (by kernel_rfl)
instance:Fld Tryz.prog 67 4 4 63:=fld_of (by kernel_rfl)
instance:Fld Tryz.prog 67 5 5 64:=fld_of (by kernel_rfl)
instance:Fld Tryz.prog 67 6 6 65:=fld_of (by kernel_rfl)
instance:PlOf Tryz.prog 67 [(0,1),(1,1),(2,1),(3,1),(4,1),(5,1),(6,1)]:=plof_of (by kernel_rfl)
instance:TI Tryz.prog 67 (.agg #[.int .i64 0,.int .i64 0,.int .i64 0,.int .i64 0,.slice none 0 0,.slice none 0 0,.slice none 0 0]) 7 104:=ti_of (by kernel_rfl)
instance:Und Tryz.prog 79 (.int .u64):=⟨Tryz.underlying79⟩
instance:Und Tryz.prog 84 (.pointer 214):=⟨Tryz.underlying84⟩
instance:TI Tryz.prog 84 (.pointer none) 1 8:=ti_of (by kernel_rfl)
instance:Und Tryz.prog 113 (.int .u16):=⟨Tryz.underlying113⟩
instance:Und Tryz.prog 114 (.pointer 238):=⟨Tryz.underlying114⟩
instance:AggT Tryz.prog 121 false:=aggT_of (by kernel_rfl)
instance:TI Tryz.prog 121 (.nilFunc) 1 8:=ti_of (by kernel_rfl)
instance:Und Tryz.prog 128 (.array 64 5):=⟨Tryz.underlying128⟩
instance:TI Tryz.prog 128 (.agg ⟨encL (List.replicate 64 (0:UInt8))⟩) 64 64:=ti_of (by kernel_rfl)
instance:Und Tryz.prog 129 (.array 64 5):=⟨Tryz.underlying129⟩
instance:TI Tryz.prog 129 (.agg ⟨encL (List.replicate 64 (0:UInt8))⟩) 64 64:=ti_of (by kernel_rfl)
instance:Und Tryz.prog 130 (.int .u32):=⟨Tryz.underlying130⟩
instance:TI Tryz.prog 130 (.int .u32 0) 1 4:=ti_of (by kernel_rfl)
instance:AggT Tryz.prog 132 true:=aggT_of (by kernel_rfl)
instance:Fld Tryz.prog 132 0 0 34:=fld_of (by kernel_rfl)
instance:Fld Tryz.prog 132 1 1 3:=fld_of (by kernel_rfl)
instance:Fld Tryz.prog 132 2 2 130:=fld_of (by kernel_rfl)
instance:PlOf Tryz.prog 132 [(0,1),(1,1),(2,1)]:=plof_of (by kernel_rfl)
instance:TI Tryz.prog 132 (.agg #[.pointer none,.int .i64 0,.int .u32 0]) 3 24:=ti_of (by kernel_rfl)
instance:Fld Tryz.prog 134 0 0 132:=fld_of (by kernel_rfl)
instance:Fld Tryz.prog 134 1 3 33:=fld_of (by kernel_rfl)
instance:Fld Tryz.prog 134 2 4 3:=fld_of (by kernel_rfl)
instance:Fld Tryz.prog 134 3 5 4:=fld_of (by kernel_rfl)
instance:PlOf Tryz.prog 134 [(0,3),(3,1),(4,1),(5,1)]:=plof_of (by kernel_rfl)
instance:TI Tryz.prog 134 (.agg #[.pointer none,.int .i64 0,.int .u32 0,.slice none 0 0,.int .i64 0,.bool false]) 6 64:=ti_of (by kernel_rfl)
instance:Und Tryz.prog 163 (.map 3 129):=⟨Tryz.underlying163⟩
instance:Und Tryz.prog 164 (.slice 265):=⟨Tryz.underlying164⟩
instance:TI Tryz.prog 164 (.slice none 0 0) 1 24:=ti_of (by kernel_rfl)
instance:Fld Tryz.prog 166 0 0 4:=fld_of (by kernel_rfl)
instance:Fld Tryz.prog 166 1 1 3:=fld_of (by kernel_rfl)
instance:PlOf Tryz.prog 166 [(0,1),(1,1)]:=plof_of (by kernel_rfl)
instance:TI Tryz.prog 166 (.agg #[.bool false,.int .i64 0]) 2 16:=ti_of (by kernel_rfl)
instance:Fld Tryz.prog 168 0 0 3:=fld_of (by kernel_rfl)
instance:Fld Tryz.prog 168 1 1 163:=fld_of (by kernel_rfl)
instance:Fld Tryz.prog 168 2 2 164:=fld_of (by kernel_rfl)
instance:Fld Tryz.prog 168 3 3 4:=fld_of (by kernel_rfl)
instance:Fld Tryz.prog 168 4 4 166:=fld_of (by kernel_rfl)
instance:Fld Tryz.prog 168 5 6 166:=fld_of (by kernel_rfl)
instance:Fld Tryz.prog 168 6 8 3:=fld_of (by kernel_rfl)
instance:PlOf Tryz.prog 168 [(0,1),(1,1),(2,1),(3,1),(4,2),(6,2),(8,1)]:=plof_of (by kernel_rfl)
instance:TI Tryz.prog 168 (.agg #[.int .i64 0,.map none,.slice none 0 0,.bool false,.bool false,.int .i64 0,.bool false,.int .i64 0,.int .i64 0]) 9 88:=ti_of (by kernel_rfl)
instance:Fld Tryz.prog 170 0 0 168:=fld_of (by kernel_rfl)
instance:PlOf Tryz.prog 170 [(0,9)]:=plof_of (by kernel_rfl)
instance:TI Tryz.prog 170 (.agg #[.int .i64 0,.map none,.slice none 0 0,.bool false,.bool false,.int .i64 0,.bool false,.int .i64 0,.int .i64 0]) 9 88:=ti_of (by kernel_rfl)
instance:AggT Tryz.prog 175 true:=aggT_of (by kernel_rfl)
instance:Fld Tryz.prog 175 0 0 9:=fld_of (by kernel_rfl)
instance:Fld Tryz.prog 175 1 1 3:=fld_of (by kernel_rfl)
instance:PlOf Tryz.prog 175 [(0,1),(1,1)]:=plof_of (by kernel_rfl)
instance:TI Tryz.prog 175 (.agg #[.string ⟨#[]⟩,.int .i64 0]) 2 24:=ti_of (by kernel_rfl)
instance:AggT Tryz.prog 177 true:=aggT_of (by kernel_rfl)
instance:Fld Tryz.prog 177 0 0 9:=fld_of (by kernel_rfl)
instance:Fld Tryz.prog 177 1 1 3:=fld_of (by kernel_rfl)
instance:PlOf Tryz.prog 177 [(0,1),(1,1)]:=plof_of (by kernel_rfl)
instance:TI Tryz.prog 177 (.agg #[.string ⟨#[]⟩,.int .i64 0]) 2 24:=ti_of (by kernel_rfl)
instance:AggT Tryz.prog 179 true:=aggT_of (by kernel_rfl)
instance:Fld Tryz.prog 179 0 0 3:=fld_of (by kernel_rfl)
instance:Fld Tryz.prog 179 1 1 3:=fld_of (by kernel_rfl)
instance:Fld Tryz.prog 179 2 2 43:=fld_of (by kernel_rfl)
instance:PlOf Tryz.prog 179 [(0,1),(1,1),(2,5)]:=plof_of (by kernel_rfl)
instance:TI Tryz.prog 179 (.agg #[.int .i64 0,.int .i64 0,.int .i64 0,.int .i64 0,.int .i64 0,.string ⟨#[]⟩,.slice none 0 0]) 7 80:=ti_of (by kernel_rfl)
instance:Und Tryz.prog 183 (.slice 3):=⟨Tryz.underlying183⟩
instance:AggT Tryz.prog 192 false:=aggT_of (by kernel_rfl)
instance:AggT Tryz.prog 196 false:=aggT_of (by kernel_rfl)
instance:Und Tryz.prog 204 (.array 3 3):=⟨Tryz.underlying204⟩
instance:TI Tryz.prog 204 (.agg #[.int .i64 0,.int .i64 0,.int .i64 0]) 3 24:=ti_of (by kernel_rfl)
instance:Und Tryz.prog 207 (.pointer 209):=⟨Tryz.underlying207⟩
instance:TI Tryz.prog 207 (.pointer none) 1 8:=ti_of (by kernel_rfl)
instance:Fld Tryz.prog 209 0 0 114:=fld_of (by kernel_rfl)
instance:Fld Tryz.prog 209 1 1 4:=fld_of (by kernel_rfl)
instance:PlOf Tryz.prog 209 [(0,1),(1,1)]:=plof_of (by kernel_rfl)
instance:TI Tryz.prog 209 (.agg #[.pointer none,.bool false]) 2 16:=ti_of (by kernel_rfl)
instance:Fld Tryz.prog 214 0 0 36:=fld_of (by kernel_rfl)
instance:Fld Tryz.prog 214 1 1 67:=fld_of (by kernel_rfl)
instance:PlOf Tryz.prog 214 [(0,1),(1,7)]:=plof_of (by kernel_rfl)
instance:TI Tryz.prog 214 (.agg #[.pointer none,.int .i64 0,.int .i64 0,.int .i64 0,.int .i64 0,.slice none 0 0,.slice none 0 0,.slice none 0 0]) 8 112:=ti_of (by kernel_rfl)
instance:Und Tryz.prog 219 (.slice 129):=⟨Tryz.underlying219⟩
instance:Fld Tryz.prog 236 0 0 25:=fld_of (by kernel_rfl)
instance:Fld Tryz.prog 236 1 1 26:=fld_of (by kernel_rfl)
instance:PlOf Tryz.prog 236 [(0,1),(1,1)]:=plof_of (by kernel_rfl)
instance:TI Tryz.prog 236 (.agg #[.slice none 0 0,.int .i64 0]) 2 32:=ti_of (by kernel_rfl)
instance:Fld Tryz.prog 238 0 0 236:=fld_of (by kernel_rfl)
instance:PlOf Tryz.prog 238 [(0,2)]:=plof_of (by kernel_rfl)
instance:TI Tryz.prog 238 (.agg #[.slice none 0 0,.int .i64 0]) 2 32:=ti_of (by kernel_rfl)
instance:Und Tryz.prog 239 (.int .u64):=⟨Tryz.underlying239⟩
instance:TI Tryz.prog 239 (.int .u64 0) 1 8:=ti_of (by kernel_rfl)
instance:Fld Tryz.prog 245 0 0 114:=fld_of (by kernel_rfl)
instance:Fld Tryz.prog 245 1 1 3:=fld_of (by kernel_rfl)
instance:PlOf Tryz.prog 245 [(0,1),(1,1)]:=plof_of (by kernel_rfl)
instance:TI Tryz.prog 245 (.agg #[.pointer none,.int .i64 0]) 2 16:=ti_of (by kernel_rfl)
instance:Fld Tryz.prog 247 0 0 26:=fld_of (by kernel_rfl)
instance:PlOf Tryz.prog 247 [(0,1)]:=plof_of (by kernel_rfl)
instance:TI Tryz.prog 247 (.agg #[.int .i64 0]) 1 8:=ti_of (by kernel_rfl)
instance:Und Tryz.prog 252 (.array 2 121):=⟨Tryz.underlying252⟩
instance:TI Tryz.prog 252 (.agg #[.nilFunc,.nilFunc]) 2 16:=ti_of (by kernel_rfl)
instance:Und Tryz.prog 253 (.array 48 5):=⟨Tryz.underlying253⟩
instance:TI Tryz.prog 253 (.agg ⟨encL (List.replicate 48 (0:UInt8))⟩) 48 48:=ti_of (by kernel_rfl)
instance:Und Tryz.prog 263 (.pointer 168):=⟨Tryz.underlying263⟩
instance:AggT Tryz.prog 265 true:=aggT_of (by kernel_rfl)
instance:Fld Tryz.prog 265 0 0 3:=fld_of (by kernel_rfl)
instance:Fld Tryz.prog 265 1 1 129:=fld_of (by kernel_rfl)
instance:PlOf Tryz.prog 265 [(0,1),(1,64)]:=plof_of (by kernel_rfl)
instance:TI Tryz.prog 265 (.agg ⟨.int .i64 0::encL (List.replicate 64 (0:UInt8))⟩) 65 72:=ti_of (by kernel_rfl)
instance:AggT Tryz.prog 271 true:=aggT_of (by kernel_rfl)
instance:Fld Tryz.prog 271 0 0 3:=fld_of (by kernel_rfl)
instance:Fld Tryz.prog 271 1 1 3:=fld_of (by kernel_rfl)
instance:Fld Tryz.prog 271 2 2 9:=fld_of (by kernel_rfl)
instance:PlOf Tryz.prog 271 [(0,1),(1,1),(2,1),(3,1),(4,1),(5,1),(6,5)]:=plof_of (by kernel_rfl)
instance:TI Tryz.prog 271 (.agg #[.int .i64 0,.int .i64 0,.string ⟨#[]⟩,.int .i64 0,.int .i64 0,.bool false,.int .i64 0,.int .i64 0,.int .i64 0,.string ⟨#[]⟩,.slice none 0 0]) 11 120:=ti_of (by kernel_rfl)
instance:Und Tryz.prog 296 (.array 32 5):=⟨Tryz.underlying296⟩
instance:TI Tryz.prog 296 (.agg ⟨encL (List.replicate 32 (0:UInt8))⟩) 32 32:=ti_of (by kernel_rfl)
instance:Und Tryz.prog 313 (.array 8 130):=⟨Tryz.underlying313⟩
instance:TI Tryz.prog 313 (.agg #[.int .u32 0,.int .u32 0,.int .u32 0,.int .u32 0,.int .u32 0,.int .u32 0,.int .u32 0,.int .u32 0]) 8 32:=ti_of (by kernel_rfl)
instance:AggT Tryz.prog 319 false:=aggT_of (by kernel_rfl)
instance:AggT Tryz.prog 321 true:=aggT_of (by kernel_rfl)
instance:Fld Tryz.prog 321 0 0 3:=fld_of (by kernel_rfl)
instance:Fld Tryz.prog 321 1 1 3:=fld_of (by kernel_rfl)
instance:Fld Tryz.prog 321 2 2 3:=fld_of (by kernel_rfl)
instance:Fld Tryz.prog 321 3 3 319:=fld_of (by kernel_rfl)
instance:PlOf Tryz.prog 321 [(0,1),(1,1),(2,1),(3,1)]:=plof_of (by kernel_rfl)
instance:TI Tryz.prog 321 (.agg #[.int .i64 0,.int .i64 0,.int .i64 0,.nilFunc]) 4 32:=ti_of (by kernel_rfl)
instance:Und Tryz.prog 322 (.array 16 130):=⟨Tryz.underlying322⟩
instance:TI Tryz.prog 322 (.agg #[.int .u32 0,.int .u32 0,.int .u32 0,.int .u32 0,.int .u32 0,.int .u32 0,.int .u32 0,.int .u32 0,.int .u32 0,.int .u32 0,.int .u32 0,.int .u32 0,.int .u32 0,.int .u32 0,.int .u32 0,.int .u32 0]) 16 64:=ti_of (by kernel_rfl)
instance:Und Tryz.prog 323 (.array 64 130):=⟨Tryz.underlying323⟩
instance:TI Tryz.prog 323 (.agg ⟨.int .u32 0::.int .u32 0::.int .u32 0::.int .u32 0::.int .u32 0::.int .u32 0::.int .u32 0::.int .u32 0::.int .u32 0::.int .u32 0::.int .u32 0::.int .u32 0::.int .u32 0::.int .u32 0::.int .u32 0::.int .u32 0::.int .u32 0::.int .u32 0::.int .u32 0::.int .u32 0::.int .u32 0::.int .u32 0::.int .u32 0::.int .u32 0::.int .u32 0::.int .u32 0::.int .u32 0::.int .u32 0::.int .u32 0::.int .u32 0::.int .u32 0::.int .u32 0::.int .u32 0::.int .u32 0::.int .u32 0::.int .u32 0::.int .u32 0::.int .u32 0::.int .u32 0::.int .u32 0::.int .u32 0::.int .u32 0::.int .u32 0::.int .u32 0::.int .u32 0::.int .u32 0::.int .u32 0::.int .u32 0::.int .u32 0::.int .u32 0::.int .u32 0::.int .u32 0::.int .u32 0::.int .u32 0::.int .u32 0::.int .u32 0::.int .u32 0::.int .u32 0::.int .u32 0::.int .u32 0::.int .u32 0::.int .u32 0::.int .u32 0::.int .u32 0::[]⟩) 64 256:=ti_of (by kernel_rfl)
instance:FnRes Tryz.f7 [ResultVar.tmp 2]:=⟨rfl⟩
instance:FnRes Tryz.f18 [ResultVar.tmp 4,ResultVar.tmp 5]:=⟨rfl⟩
instance:FnRes Tryz.f19 [ResultVar.cell 4 26]:=⟨rfl⟩
instance:FnRes Tryz.f20 [ResultVar.cell 4 26]:=⟨rfl⟩
instance:FnRes Tryz.f33 [ResultVar.tmp 0]:=⟨rfl⟩
instance:FnRes Tryz.f34 [ResultVar.cell 2 67]:=⟨rfl⟩
instance:FnRes Tryz.f35 [ResultVar.tmp 2]:=⟨rfl⟩
instance:FnRes Tryz.f36 [ResultVar.tmp 2,ResultVar.tmp 3]:=⟨rfl⟩
instance:FnRes Tryz.f37 [ResultVar.tmp 2]:=⟨rfl⟩
instance:FnRes Tryz.f38 [ResultVar.tmp 4]:=⟨rfl⟩
instance:FnRes Tryz.f39 [ResultVar.tmp 4]:=⟨rfl⟩
instance:FnRes Tryz.f40 [ResultVar.tmp 4]:=⟨rfl⟩
instance:FnRes Tryz.f41 [ResultVar.tmp 4]:=⟨rfl⟩
instance:FnRes Tryz.f42 [ResultVar.tmp 4]:=⟨rfl⟩
instance:FnRes Tryz.f43 [ResultVar.tmp 2]:=⟨rfl⟩
instance:FnRes Tryz.f44 [ResultVar.cell 2 67,ResultVar.tmp 3]:=⟨rfl⟩
instance:FnRes Tryz.f45 [ResultVar.tmp 2,ResultVar.tmp 3]:=⟨rfl⟩
instance:FnRes Tryz.f46 [ResultVar.tmp 6,ResultVar.tmp 7]:=⟨rfl⟩
instance:FnRes Tryz.f47 [ResultVar.cell 2 67]:=⟨rfl⟩
instance:FnRes Tryz.f50 [ResultVar.tmp 4]:=⟨rfl⟩
instance:FnRes Tryz.f52 [ResultVar.cell 2 84,ResultVar.cell 3 26]:=⟨rfl⟩
instance:FnRes Tryz.f54 [ResultVar.tmp 2,ResultVar.tmp 3]:=⟨rfl⟩
instance:FnRes Tryz.f61 [ResultVar.tmp 4]:=⟨rfl⟩
instance:FnRes Tryz.f64 [ResultVar.tmp 2,ResultVar.tmp 3]:=⟨rfl⟩
instance:FnRes Tryz.f65 [ResultVar.tmp 4]:=⟨rfl⟩
instance:FnRes Tryz.f66 [ResultVar.tmp 2]:=⟨rfl⟩
instance:FnRes Tryz.f67 [ResultVar.tmp 2]:=⟨rfl⟩
instance:FnRes Tryz.f68 [ResultVar.cell 4 25]:=⟨rfl⟩
instance:FnRes Tryz.f69 [ResultVar.tmp 2]:=⟨rfl⟩
instance:FnRes Tryz.f70 [ResultVar.cell 2 43,ResultVar.cell 3 3,ResultVar.cell 4 26]:=⟨rfl⟩
instance:FnRes Tryz.f71 [ResultVar.tmp 2]:=⟨rfl⟩
instance:FnRes Tryz.f72 [ResultVar.tmp 2]:=⟨rfl⟩
instance:FnRes Tryz.f73 [ResultVar.tmp 4]:=⟨rfl⟩
instance:FnRes Tryz.f74 [ResultVar.cell 6 26]:=⟨rfl⟩
instance:FnRes Tryz.f75 [ResultVar.tmp 4]:=⟨rfl⟩
instance:FnRes Tryz.f76 [ResultVar.tmp 4]:=⟨rfl⟩
instance:FnRes Tryz.f77 [ResultVar.tmp 4]:=⟨rfl⟩
instance:FnRes Tryz.f78 [ResultVar.tmp 2]:=⟨rfl⟩
instance:FnRes Tryz.f79 []:=⟨rfl⟩
instance:FnRes Tryz.f80 [ResultVar.cell 2 132]:=⟨rfl⟩
instance:FnRes Tryz.f81 [ResultVar.tmp 2]:=⟨rfl⟩
instance:FnRes Tryz.f82 [ResultVar.tmp 6]:=⟨rfl⟩
instance:FnRes Tryz.f85 [ResultVar.tmp 4]:=⟨rfl⟩
instance:FnRes Tryz.f86 [ResultVar.tmp 2]:=⟨rfl⟩
instance:FnRes Tryz.f94 [ResultVar.tmp 2]:=⟨rfl⟩
instance:FnRes Tryz.f99 [ResultVar.tmp 2]:=⟨rfl⟩
instance:FnRes Tryz.f100 [ResultVar.tmp 2]:=⟨rfl⟩
instance:FnRes Tryz.f103 []:=⟨rfl⟩
instance:FnRes Tryz.f105 [ResultVar.cell 4 43]:=⟨rfl⟩
instance:FnRes Tryz.f106 [ResultVar.tmp 2]:=⟨rfl⟩
instance:FnRes Tryz.f107 [ResultVar.tmp 2]:=⟨rfl⟩
instance:FnRes Tryz.f108 [ResultVar.tmp 2]:=⟨rfl⟩
instance:FnRes Tryz.f109 [ResultVar.tmp 2]:=⟨rfl⟩
instance:FnRes Tryz.f110 []:=⟨rfl⟩
instance:FnRes Tryz.f111 []:=⟨rfl⟩
instance:FnRes Tryz.f112 [ResultVar.tmp 4]:=⟨rfl⟩
instance:FnRes Tryz.f113 [ResultVar.tmp 2]:=⟨rfl⟩
instance:FnRes Tryz.f114 [ResultVar.tmp 4]:=⟨rfl⟩
instance:FnRes Tryz.f115 [ResultVar.tmp 2]:=⟨rfl⟩
instance:FnRes Tryz.f116 [ResultVar.tmp 2]:=⟨rfl⟩
instance:FnRes Tryz.f117 [ResultVar.tmp 3]:=⟨rfl⟩
instance:FnRes Tryz.f118 [ResultVar.tmp 4]:=⟨rfl⟩
instance:FnRes Tryz.f119 [ResultVar.tmp 3]:=⟨rfl⟩
instance:FnRes Tryz.f120 [ResultVar.cell 4 179,ResultVar.tmp 5]:=⟨rfl⟩
instance:FnRes Tryz.f121 [ResultVar.tmp 4]:=⟨rfl⟩
instance:FnRes Tryz.f122 [ResultVar.tmp 4]:=⟨rfl⟩
instance:FnRes Tryz.f123 [ResultVar.tmp 4]:=⟨rfl⟩
instance:FnRes Tryz.f124 [ResultVar.tmp 4]:=⟨rfl⟩
instance:FnRes Tryz.f125 [ResultVar.tmp 4]:=⟨rfl⟩
instance:FnRes Tryz.f126 [ResultVar.tmp 4]:=⟨rfl⟩
instance:FnRes Tryz.f127 [ResultVar.cell 4 179,ResultVar.tmp 5]:=⟨rfl⟩
instance:FnRes Tryz.f128 [ResultVar.tmp 4]:=⟨rfl⟩
instance:FnRes Tryz.f129 [ResultVar.tmp 4]:=⟨rfl⟩
instance:FnRes Tryz.f130 [ResultVar.tmp 4]:=⟨rfl⟩
instance:FnRes Tryz.f131 [ResultVar.tmp 6]:=⟨rfl⟩
instance:FnRes Tryz.f132 [ResultVar.tmp 4]:=⟨rfl⟩
instance:FnRes Tryz.f133 [ResultVar.tmp 4]:=⟨rfl⟩
instance:FnRes Tryz.f134 [ResultVar.tmp 2]:=⟨rfl⟩
instance:FnRes Tryz.f135 [ResultVar.tmp 4]:=⟨rfl⟩
instance:FnRes Tryz.f136 [ResultVar.tmp 2]:=⟨rfl⟩
instance:FnRes Tryz.f137 []:=⟨rfl⟩
instance:FnRes Tryz.f138 []:=⟨rfl⟩
instance:FnRes Tryz.f139 [ResultVar.tmp 2]:=⟨rfl⟩
instance:FnRes Tryz.f140 []:=⟨rfl⟩
instance:FnRes Tryz.f141 []:=⟨rfl⟩
instance:FnRes Tryz.f142 [ResultVar.cell 2 43]:=⟨rfl⟩
instance:FnRes Tryz.f143 [ResultVar.cell 2 67]:=⟨rfl⟩
instance:FnRes Tryz.f146 [ResultVar.cell 2 132,ResultVar.tmp 3]:=⟨rfl⟩
instance:FnRes Tryz.f147 [ResultVar.cell 4 129,ResultVar.tmp 5]:=⟨rfl⟩
instance:FnRes Tryz.f148 [ResultVar.cell 8 25,ResultVar.cell 9 4]:=⟨rfl⟩
instance:FnRes Tryz.f149 [ResultVar.tmp 4]:=⟨rfl⟩
instance:FnRes Tryz.f157 [ResultVar.tmp 2]:=⟨rfl⟩
instance:FnRes Tryz.f159 [ResultVar.tmp 6]:=⟨rfl⟩
instance:FnRes Tryz.f162 [ResultVar.tmp 2]:=⟨rfl⟩
instance:FnRes Tryz.f163 [ResultVar.tmp 4]:=⟨rfl⟩
instance:FnRes Tryz.f164 [ResultVar.tmp 6]:=⟨rfl⟩
instance:FnRes Tryz.f165 [ResultVar.cell 4 239]:=⟨rfl⟩
instance:FnRes Tryz.f166 []:=⟨rfl⟩
instance:FnRes Tryz.f167 []:=⟨rfl⟩
instance:FnRes Tryz.f168 []:=⟨rfl⟩
instance:FnRes Tryz.f169 [ResultVar.cell 4 43]:=⟨rfl⟩
instance:FnRes Tryz.f170 [ResultVar.tmp 2]:=⟨rfl⟩
instance:FnRes Tryz.f171 [ResultVar.tmp 6]:=⟨rfl⟩
instance:FnRes Tryz.f172 [ResultVar.tmp 2]:=⟨rfl⟩
instance:FnRes Tryz.f173 []:=⟨rfl⟩
instance:FnRes Tryz.f174 [ResultVar.tmp 2]:=⟨rfl⟩
instance:FnRes Tryz.f175 [ResultVar.tmp 1]:=⟨rfl⟩
instance:FnRes Tryz.f176 [ResultVar.cell 4 129]:=⟨rfl⟩
instance:FnRes Tryz.f177 []:=⟨rfl⟩
instance:FnRes Tryz.f178 [ResultVar.cell 2 129]:=⟨rfl⟩
instance:FnRes Tryz.f179 [ResultVar.tmp 2]:=⟨rfl⟩
instance:FnRes Tryz.f180 [ResultVar.tmp 2]:=⟨rfl⟩
instance:FnRes Tryz.f181 [ResultVar.tmp 2]:=⟨rfl⟩
instance:FnRes Tryz.f182 [ResultVar.tmp 2]:=⟨rfl⟩
instance:FnRes Tryz.f188 []:=⟨rfl⟩
instance:FnRes Tryz.f191 [ResultVar.tmp 2]:=⟨rfl⟩
instance:FnRes Tryz.f192 [ResultVar.tmp 2]:=⟨rfl⟩
instance:FnRes Tryz.f193 [ResultVar.tmp 2]:=⟨rfl⟩
instance:FnRes Tryz.f194 [ResultVar.tmp 2]:=⟨rfl⟩
instance:FnRes Tryz.f195 [ResultVar.tmp 2]:=⟨rfl⟩
instance:FnRes Tryz.f196 [ResultVar.tmp 6]:=⟨rfl⟩
instance:FnRes Tryz.f197 [ResultVar.tmp 4]:=⟨rfl⟩
instance:FnRes Tryz.f198 [ResultVar.tmp 2]:=⟨rfl⟩
instance:FnRes Tryz.f199 [ResultVar.tmp 2]:=⟨rfl⟩
instance:FnRes Tryz.f200 [ResultVar.tmp 2]:=⟨rfl⟩
instance:FnRes Tryz.f201 [ResultVar.tmp 2]:=⟨rfl⟩
instance:FnRes Tryz.f202 [ResultVar.tmp 2]:=⟨rfl⟩
instance:FnRes Tryz.f203 [ResultVar.tmp 2]:=⟨rfl⟩
instance:FnRes Tryz.f204 [ResultVar.tmp 4]:=⟨rfl⟩
instance:FnRes Tryz.f205 [ResultVar.tmp 4,ResultVar.tmp 5]:=⟨rfl⟩
instance:FnRes Tryz.f206 [ResultVar.cell 2 43]:=⟨rfl⟩
instance:FnRes Tryz.f207 [ResultVar.tmp 2]:=⟨rfl⟩
instance:FnRes Tryz.f208 [ResultVar.tmp 4]:=⟨rfl⟩
instance:FnRes Tryz.f209 [ResultVar.tmp 3]:=⟨rfl⟩
instance:FnRes Tryz.f210 [ResultVar.tmp 3]:=⟨rfl⟩
instance:FnRes Tryz.f211 [ResultVar.tmp 4]:=⟨rfl⟩
instance:FnRes Tryz.f212 [ResultVar.tmp 3]:=⟨rfl⟩
instance:FnRes Tryz.f213 [ResultVar.tmp 4]:=⟨rfl⟩
instance:FnRes Tryz.f214 [ResultVar.tmp 3]:=⟨rfl⟩
instance:FnRes Tryz.f215 [ResultVar.tmp 4]:=⟨rfl⟩
instance:FnRes Tryz.f216 [ResultVar.tmp 4]:=⟨rfl⟩
instance:FnRes Tryz.f217 [ResultVar.tmp 2]:=⟨rfl⟩
instance:FnRes Tryz.f218 [ResultVar.tmp 2]:=⟨rfl⟩
instance:FnRes Tryz.f219 [ResultVar.tmp 2]:=⟨rfl⟩
instance:FnRes Tryz.f220 [ResultVar.tmp 2]:=⟨rfl⟩
instance:FnRes Tryz.f221 [ResultVar.cell 2 43]:=⟨rfl⟩
instance:FnRes Tryz.f222 [ResultVar.tmp 8]:=⟨rfl⟩
instance:FnRes Tryz.f223 []:=⟨rfl⟩
instance:FnRes Tryz.f224 [ResultVar.cell 4 129]:=⟨rfl⟩
instance:FnRes Tryz.f233 []:=⟨rfl⟩
instance:FnRes Tryz.f234 []:=⟨rfl⟩
instance:FnRes Tryz.f237 []:=⟨rfl⟩
instance:FnRes Tryz.f238 []:=⟨rfl⟩
instance:FnRes Tryz.f239 [ResultVar.tmp 2]:=⟨rfl⟩
instance:FnRes Tryz.f240 [ResultVar.cell 2 296]:=⟨rfl⟩
instance:FnRes Tryz.f241 [ResultVar.tmp 6,ResultVar.tmp 7]:=⟨rfl⟩
instance:FnRes Tryz.f245 [ResultVar.tmp 4]:=⟨rfl⟩
instance:FnRes Tryz.f246 [ResultVar.tmp 2]:=⟨rfl⟩
instance:FnRes Tryz.f247 [ResultVar.tmp 2]:=⟨rfl⟩
instance:FnRes Tryz.f249 [ResultVar.tmp 6,ResultVar.tmp 7]:=⟨rfl⟩
instance:FnRes Tryz.f250 [ResultVar.tmp 4]:=⟨rfl⟩
instance:FnRes Tryz.f251 [ResultVar.tmp 2]:=⟨rfl⟩
instance:FnRes Tryz.f252 [ResultVar.tmp 4]:=⟨rfl⟩
instance:FnRes Tryz.f253 [ResultVar.tmp 4]:=⟨rfl⟩
instance:FnRes Tryz.f254 [ResultVar.tmp 4]:=⟨rfl⟩
instance:FnRes Tryz.f255 [ResultVar.tmp 6]:=⟨rfl⟩
instance:FnRes Tryz.f256 [ResultVar.tmp 2]:=⟨rfl⟩
instance:FnRes Tryz.f257 [ResultVar.tmp 2]:=⟨rfl⟩
instance:FnRes Tryz.f262 [ResultVar.cell 0 313]:=⟨rfl⟩
instance:FnRes Tryz.f263 [ResultVar.tmp 2]:=⟨rfl⟩
instance:FnRes Tryz.f264 [ResultVar.cell 4 313]:=⟨rfl⟩
instance:FnRes Tryz.f265 [ResultVar.tmp 2]:=⟨rfl⟩
instance:FnRes Tryz.f267 [ResultVar.tmp 2]:=⟨rfl⟩
instance:FnRes Tryz.f270 []:=⟨rfl⟩
instance:FnRes Tryz.f272 [ResultVar.tmp 4]:=⟨rfl⟩
instance:FnRes Tryz.f273 [ResultVar.tmp 4]:=⟨rfl⟩
instance:FnRes Tryz.f274 [ResultVar.tmp 4]:=⟨rfl⟩
instance:FnRes Tryz.f275 [ResultVar.cell 0 323]:=⟨rfl⟩
instance:FnRes Tryz.f276 [ResultVar.tmp 4]:=⟨rfl⟩
instance:FnRes Tryz.f277 [ResultVar.tmp 4]:=⟨rfl⟩
instance:FnRes Tryz.f281 [ResultVar.tmp 6]:=⟨rfl⟩
instance:EntF Tryz.prog 18:=⟨enters_of Tryz.func18 (by kernel_rfl) rfl⟩
instance:EntF Tryz.prog 19:=⟨enters_of Tryz.func19 (by kernel_rfl) rfl⟩
instance:EntF Tryz.prog 20:=⟨enters_of Tryz.func20 (by kernel_rfl) rfl⟩
instance:EntF Tryz.prog 33:=⟨enters_of Tryz.func33 (by kernel_rfl) rfl⟩
instance:EntF Tryz.prog 34:=⟨enters_of Tryz.func34 (by kernel_rfl) rfl⟩
instance:EntF Tryz.prog 35:=⟨enters_of Tryz.func35 (by kernel_rfl) rfl⟩
instance:EntF Tryz.prog 36:=⟨enters_of Tryz.func36 (by kernel_rfl) rfl⟩
instance:EntF Tryz.prog 37:=⟨enters_of Tryz.func37 (by kernel_rfl) rfl⟩
instance:EntF Tryz.prog 38:=⟨enters_of Tryz.func38 (by kernel_rfl) rfl⟩
instance:EntF Tryz.prog 39:=⟨enters_of Tryz.func39 (by kernel_rfl) rfl⟩
instance:EntF Tryz.prog 40:=⟨enters_of Tryz.func40 (by kernel_rfl) rfl⟩
instance:EntF Tryz.prog 41:=⟨enters_of Tryz.func41 (by kernel_rfl) rfl⟩
instance:EntF Tryz.prog 42:=⟨enters_of Tryz.func42 (by kernel_rfl) rfl⟩
instance:EntF Tryz.prog 43:=⟨enters_of Tryz.func43 (by kernel_rfl) rfl⟩
instance:EntF Tryz.prog 44:=⟨enters_of Tryz.func44 (by kernel_rfl) rfl⟩
instance:EntF Tryz.prog 45:=⟨enters_of Tryz.func45 (by kernel_rfl) rfl⟩
instance:EntF Tryz.prog 46:=⟨enters_of Tryz.func46 (by kernel_rfl) rfl⟩
instance:EntF Tryz.prog 47:=⟨enters_of Tryz.func47 (by kernel_rfl) rfl⟩
instance:EntF Tryz.prog 50:=⟨enters_of Tryz.func50 (by kernel_rfl) rfl⟩
instance:EntF Tryz.prog 52:=⟨enters_of Tryz.func52 (by kernel_rfl) rfl⟩
instance:EntF Tryz.prog 54:=⟨enters_of Tryz.func54 (by kernel_rfl) rfl⟩
instance:EntF Tryz.prog 61:=⟨enters_of Tryz.func61 (by kernel_rfl) rfl⟩
instance:EntF Tryz.prog 64:=⟨enters_of Tryz.func64 (by kernel_rfl) rfl⟩
instance:EntF Tryz.prog 65:=⟨enters_of Tryz.func65 (by kernel_rfl) rfl⟩
instance:EntF Tryz.prog 66:=⟨enters_of Tryz.func66 (by kernel_rfl) rfl⟩
instance:EntF Tryz.prog 67:=⟨enters_of Tryz.func67 (by kernel_rfl) rfl⟩
instance:EntF Tryz.prog 68:=⟨enters_of Tryz.func68 (by kernel_rfl) rfl⟩
instance:EntF Tryz.prog 69:=⟨enters_of Tryz.func69 (by kernel_rfl) rfl⟩
instance:EntF Tryz.prog 70:=⟨enters_of Tryz.func70 (by kernel_rfl) rfl⟩
instance:EntF Tryz.prog 71:=⟨enters_of Tryz.func71 (by kernel_rfl) rfl⟩
instance:EntF Tryz.prog 72:=⟨enters_of Tryz.func72 (by kernel_rfl) rfl⟩
instance:EntF Tryz.prog 73:=⟨enters_of Tryz.func73 (by kernel_rfl) rfl⟩
instance:EntF Tryz.prog 74:=⟨enters_of Tryz.func74 (by kernel_rfl) rfl⟩
instance:EntF Tryz.prog 75:=⟨enters_of Tryz.func75 (by kernel_rfl) rfl⟩
instance:EntF Tryz.prog 76:=⟨enters_of Tryz.func76 (by kernel_rfl) rfl⟩
instance:EntF Tryz.prog 77:=⟨enters_of Tryz.func77 (by kernel_rfl) rfl⟩
instance:EntF Tryz.prog 78:=⟨enters_of Tryz.func78 (by kernel_rfl) rfl⟩
instance:EntF Tryz.prog 79:=⟨enters_of Tryz.func79 (by kernel_rfl) rfl⟩
instance:EntF Tryz.prog 80:=⟨enters_of Tryz.func80 (by kernel_rfl) rfl⟩
instance:EntF Tryz.prog 81:=⟨enters_of Tryz.func81 (by kernel_rfl) rfl⟩
instance:EntF Tryz.prog 82:=⟨enters_of Tryz.func82 (by kernel_rfl) rfl⟩
instance:EntF Tryz.prog 85:=⟨enters_of Tryz.func85 (by kernel_rfl) rfl⟩
instance:EntF Tryz.prog 86:=⟨enters_of Tryz.func86 (by kernel_rfl) rfl⟩
instance:EntF Tryz.prog 94:=⟨enters_of Tryz.func94 (by kernel_rfl) rfl⟩
instance:EntF Tryz.prog 99:=⟨enters_of Tryz.func99 (by kernel_rfl) rfl⟩
instance:EntF Tryz.prog 100:=⟨enters_of Tryz.func100 (by kernel_rfl) rfl⟩
instance:EntF Tryz.prog 103:=⟨enters_of Tryz.func103 (by kernel_rfl) rfl⟩
instance:EntF Tryz.prog 105:=⟨enters_of Tryz.func105 (by kernel_rfl) rfl⟩
instance:EntF Tryz.prog 106:=⟨enters_of Tryz.func106 (by kernel_rfl) rfl⟩
instance:EntF Tryz.prog 107:=⟨enters_of Tryz.func107 (by kernel_rfl) rfl⟩
instance:EntF Tryz.prog 108:=⟨enters_of Tryz.func108 (by kernel_rfl) rfl⟩
instance:EntF Tryz.prog 109:=⟨enters_of Tryz.func109 (by kernel_rfl) rfl⟩
instance:EntF Tryz.prog 110:=⟨enters_of Tryz.func110 (by kernel_rfl) rfl⟩
instance:EntF Tryz.prog 111:=⟨enters_of Tryz.func111 (by kernel_rfl) rfl⟩
instance:EntF Tryz.prog 112:=⟨enters_of Tryz.func112 (by kernel_rfl) rfl⟩
instance:EntF Tryz.prog 113:=⟨enters_of Tryz.func113 (by kernel_rfl) rfl⟩
instance:EntF Tryz.prog 114:=⟨enters_of Tryz.func114 (by kernel_rfl) rfl⟩
instance:EntF Tryz.prog 115:=⟨enters_of Tryz.func115 (by kernel_rfl) rfl⟩
instance:EntF Tryz.prog 116:=⟨enters_of Tryz.func116 (by kernel_rfl) rfl⟩
instance:EntF Tryz.prog 117:=⟨enters_of Tryz.func117 (by kernel_rfl) rfl⟩
instance:EntF Tryz.prog 118:=⟨enters_of Tryz.func118 (by kernel_rfl) rfl⟩
instance:EntF Tryz.prog 119:=⟨enters_of Tryz.func119 (by kernel_rfl) rfl⟩
instance:EntF Tryz.prog 120:=⟨enters_of Tryz.func120 (by kernel_rfl) rfl⟩
instance:EntF Tryz.prog 121:=⟨enters_of Tryz.func121 (by kernel_rfl) rfl⟩
instance:EntF Tryz.prog 122:=⟨enters_of Tryz.func122 (by kernel_rfl) rfl⟩
instance:EntF Tryz.prog 123:=⟨enters_of Tryz.func123 (by kernel_rfl) rfl⟩
instance:EntF Tryz.prog 124:=⟨enters_of Tryz.func124 (by kernel_rfl) rfl⟩
instance:EntF Tryz.prog 125:=⟨enters_of Tryz.func125 (by kernel_rfl) rfl⟩
instance:EntF Tryz.prog 126:=⟨enters_of Tryz.func126 (by kernel_rfl) rfl⟩
instance:EntF Tryz.prog 127:=⟨enters_of Tryz.func127 (by kernel_rfl) rfl⟩
instance:EntF Tryz.prog 128:=⟨enters_of Tryz.func128 (by kernel_rfl) rfl⟩
instance:EntF Tryz.prog 129:=⟨enters_of Tryz.func129 (by kernel_rfl) rfl⟩
instance:EntF Tryz.prog 130:=⟨enters_of Tryz.func130 (by kernel_rfl) rfl⟩
instance:EntF Tryz.prog 131:=⟨enters_of Tryz.func131 (by kernel_rfl) rfl⟩
instance:EntF Tryz.prog 132:=⟨enters_of Tryz.func132 (by kernel_rfl) rfl⟩
instance:EntF Tryz.prog 133:=⟨enters_of Tryz.func133 (by kernel_rfl) rfl⟩
instance:EntF Tryz.prog 134:=⟨enters_of Tryz.func134 (by kernel_rfl) rfl⟩
instance:EntF Tryz.prog 135:=⟨enters_of Tryz.func135 (by kernel_rfl) rfl⟩
instance:EntF Tryz.prog 136:=⟨enters_of Tryz.func136 (by kernel_rfl) rfl⟩
instance:EntF Tryz.prog 137:=⟨enters_of Tryz.func137 (by kernel_rfl) rfl⟩
instance:EntF Tryz.prog 138:=⟨enters_of Tryz.func138 (by kernel_rfl) rfl⟩
instance:EntF Tryz.prog 139:=⟨enters_of Tryz.func139 (by kernel_rfl) rfl⟩
instance:EntF Tryz.prog 140:=⟨enters_of Tryz.func140 (by kernel_rfl) rfl⟩
instance:EntF Tryz.prog 141:=⟨enters_of Tryz.func141 (by kernel_rfl) rfl⟩
instance:EntF Tryz.prog 142:=⟨enters_of Tryz.func142 (by kernel_rfl) rfl⟩
instance:EntF Tryz.prog 143:=⟨enters_of Tryz.func143 (by kernel_rfl) rfl⟩
instance:EntF Tryz.prog 146:=⟨enters_of Tryz.func146 (by kernel_rfl) rfl⟩
instance:EntF Tryz.prog 147:=⟨enters_of Tryz.func147 (by kernel_rfl) rfl⟩
instance:EntF Tryz.prog 148:=⟨enters_of Tryz.func148 (by kernel_rfl) rfl⟩
instance:EntF Tryz.prog 149:=⟨enters_of Tryz.func149 (by kernel_rfl) rfl⟩
instance:EntF Tryz.prog 157:=⟨enters_of Tryz.func157 (by kernel_rfl) rfl⟩
instance:EntF Tryz.prog 159:=⟨enters_of Tryz.func159 (by kernel_rfl) rfl⟩
instance:EntF Tryz.prog 162:=⟨enters_of Tryz.func162 (by kernel_rfl) rfl⟩
instance:EntF Tryz.prog 163:=⟨enters_of Tryz.func163 (by kernel_rfl) rfl⟩
instance:EntF Tryz.prog 164:=⟨enters_of Tryz.func164 (by kernel_rfl) rfl⟩
instance:EntF Tryz.prog 165:=⟨enters_of Tryz.func165 (by kernel_rfl) rfl⟩
instance:EntF Tryz.prog 166:=⟨enters_of Tryz.func166 (by kernel_rfl) rfl⟩
instance:EntF Tryz.prog 167:=⟨enters_of Tryz.func167 (by kernel_rfl) rfl⟩
instance:EntF Tryz.prog 168:=⟨enters_of Tryz.func168 (by kernel_rfl) rfl⟩
instance:EntF Tryz.prog 169:=⟨enters_of Tryz.func169 (by kernel_rfl) rfl⟩
instance:EntF Tryz.prog 170:=⟨enters_of Tryz.func170 (by kernel_rfl) rfl⟩
instance:EntF Tryz.prog 171:=⟨enters_of Tryz.func171 (by kernel_rfl) rfl⟩
instance:EntF Tryz.prog 172:=⟨enters_of Tryz.func172 (by kernel_rfl) rfl⟩
instance:EntF Tryz.prog 173:=⟨enters_of Tryz.func173 (by kernel_rfl) rfl⟩
instance:EntF Tryz.prog 174:=⟨enters_of Tryz.func174 (by kernel_rfl) rfl⟩
instance:EntF Tryz.prog 175:=⟨enters_of Tryz.func175 (by kernel_rfl) rfl⟩
instance:EntF Tryz.prog 176:=⟨enters_of Tryz.func176 (by kernel_rfl) rfl⟩
instance:EntF Tryz.prog 177:=⟨enters_of Tryz.func177 (by kernel_rfl) rfl⟩
instance:EntF Tryz.prog 178:=⟨enters_of Tryz.func178 (by kernel_rfl) rfl⟩
instance:EntF Tryz.prog 179:=⟨enters_of Tryz.func179 (by kernel_rfl) rfl⟩
instance:EntF Tryz.prog 180:=⟨enters_of Tryz.func180 (by kernel_rfl) rfl⟩
instance:EntF Tryz.prog 181:=⟨enters_of Tryz.func181 (by kernel_rfl) rfl⟩
instance:EntF Tryz.prog 182:=⟨enters_of Tryz.func182 (by kernel_rfl) rfl⟩
instance:EntF Tryz.prog 188:=⟨enters_of Tryz.func188 (by kernel_rfl) rfl⟩
instance:EntF Tryz.prog 191:=⟨enters_of Tryz.func191 (by kernel_rfl) rfl⟩
instance:EntF Tryz.prog 192:=⟨enters_of Tryz.func192 (by kernel_rfl) rfl⟩
instance:EntF Tryz.prog 193:=⟨enters_of Tryz.func193 (by kernel_rfl) rfl⟩
instance:EntF Tryz.prog 194:=⟨enters_of Tryz.func194 (by kernel_rfl) rfl⟩
instance:EntF Tryz.prog 195:=⟨enters_of Tryz.func195 (by kernel_rfl) rfl⟩
instance:EntF Tryz.prog 196:=⟨enters_of Tryz.func196 (by kernel_rfl) rfl⟩
instance:EntF Tryz.prog 197:=⟨enters_of Tryz.func197 (by kernel_rfl) rfl⟩
instance:EntF Tryz.prog 198:=⟨enters_of Tryz.func198 (by kernel_rfl) rfl⟩
instance:EntF Tryz.prog 199:=⟨enters_of Tryz.func199 (by kernel_rfl) rfl⟩
instance:EntF Tryz.prog 200:=⟨enters_of Tryz.func200 (by kernel_rfl) rfl⟩
instance:EntF Tryz.prog 201:=⟨enters_of Tryz.func201 (by kernel_rfl) rfl⟩
instance:EntF Tryz.prog 202:=⟨enters_of Tryz.func202 (by kernel_rfl) rfl⟩
instance:EntF Tryz.prog 203:=⟨enters_of Tryz.func203 (by kernel_rfl) rfl⟩
instance:EntF Tryz.prog 204:=⟨enters_of Tryz.func204 (by kernel_rfl) rfl⟩
instance:EntF Tryz.prog 205:=⟨enters_of Tryz.func205 (by kernel_rfl) rfl⟩
instance:EntF Tryz.prog 206:=⟨enters_of Tryz.func206 (by kernel_rfl) rfl⟩
instance:EntF Tryz.prog 207:=⟨enters_of Tryz.func207 (by kernel_rfl) rfl⟩
instance:EntF Tryz.prog 208:=⟨enters_of Tryz.func208 (by kernel_rfl) rfl⟩
instance:EntF Tryz.prog 209:=⟨enters_of Tryz.func209 (by kernel_rfl) rfl⟩
instance:EntF Tryz.prog 210:=⟨enters_of Tryz.func210 (by kernel_rfl) rfl⟩
instance:EntF Tryz.prog 211:=⟨enters_of Tryz.func211 (by kernel_rfl) rfl⟩
instance:EntF Tryz.prog 212:=⟨enters_of Tryz.func212 (by kernel_rfl) rfl⟩
instance:EntF Tryz.prog 213:=⟨enters_of Tryz.func213 (by kernel_rfl) rfl⟩
instance:EntF Tryz.prog 214:=⟨enters_of Tryz.func214 (by kernel_rfl) rfl⟩
instance:EntF Tryz.prog 215:=⟨enters_of Tryz.func215 (by kernel_rfl) rfl⟩
instance:EntF Tryz.prog 216:=⟨enters_of Tryz.func216 (by kernel_rfl) rfl⟩
instance:EntF Tryz.prog 217:=⟨enters_of Tryz.func217 (by kernel_rfl) rfl⟩
instance:EntF Tryz.prog 218:=⟨enters_of Tryz.func218 (by kernel_rfl) rfl⟩
instance:EntF Tryz.prog 219:=⟨enters_of Tryz.func219 (by kernel_rfl) rfl⟩
instance:EntF Tryz.prog 220:=⟨enters_of Tryz.func220 (by kernel_rfl) rfl⟩
instance:EntF Tryz.prog 221:=⟨enters_of Tryz.func221 (by kernel_rfl) rfl⟩
instance:EntF Tryz.prog 222:=⟨enters_of Tryz.func222 (by kernel_rfl) rfl⟩
instance:EntF Tryz.prog 223:=⟨enters_of Tryz.func223 (by kernel_rfl) rfl⟩
instance:EntF Tryz.prog 224:=⟨enters_of Tryz.func224 (by kernel_rfl) rfl⟩
instance:EntF Tryz.prog 230:=⟨enters_of Tryz.func230 (by kernel_rfl) rfl⟩
instance:EntF Tryz.prog 231:=⟨enters_of Tryz.func231 (by kernel_rfl) rfl⟩
instance:EntF Tryz.prog 232:=⟨enters_of Tryz.func232 (by kernel_rfl) rfl⟩
instance:EntF Tryz.prog 233:=⟨enters_of Tryz.func233 (by kernel_rfl) rfl⟩
instance:EntF Tryz.prog 234:=⟨enters_of Tryz.func234 (by kernel_rfl) rfl⟩
instance:EntF Tryz.prog 235:=⟨enters_of Tryz.func235 (by kernel_rfl) rfl⟩
instance:EntF Tryz.prog 236:=⟨enters_of Tryz.func236 (by kernel_rfl) rfl⟩
instance:EntF Tryz.prog 237:=⟨enters_of Tryz.func237 (by kernel_rfl) rfl⟩
instance:EntF Tryz.prog 238:=⟨enters_of Tryz.func238 (by kernel_rfl) rfl⟩
instance:EntF Tryz.prog 239:=⟨enters_of Tryz.func239 (by kernel_rfl) rfl⟩
instance:EntF Tryz.prog 240:=⟨enters_of Tryz.func240 (by kernel_rfl) rfl⟩
instance:EntF Tryz.prog 241:=⟨enters_of Tryz.func241 (by kernel_rfl) rfl⟩
instance:EntF Tryz.prog 245:=⟨enters_of Tryz.func245 (by kernel_rfl) rfl⟩
instance:EntF Tryz.prog 246:=⟨enters_of Tryz.func246 (by kernel_rfl) rfl⟩
instance:EntF Tryz.prog 247:=⟨enters_of Tryz.func247 (by kernel_rfl) rfl⟩
instance:EntF Tryz.prog 249:=⟨enters_of Tryz.func249 (by kernel_rfl) rfl⟩
instance:EntF Tryz.prog 250:=⟨enters_of Tryz.func250 (by kernel_rfl) rfl⟩
instance:EntF Tryz.prog 251:=⟨enters_of Tryz.func251 (by kernel_rfl) rfl⟩
instance:EntF Tryz.prog 252:=⟨enters_of Tryz.func252 (by kernel_rfl) rfl⟩
instance:EntF Tryz.prog 253:=⟨enters_of Tryz.func253 (by kernel_rfl) rfl⟩
instance:EntF Tryz.prog 254:=⟨enters_of Tryz.func254 (by kernel_rfl) rfl⟩
instance:EntF Tryz.prog 255:=⟨enters_of Tryz.func255 (by kernel_rfl) rfl⟩
instance:EntF Tryz.prog 256:=⟨enters_of Tryz.func256 (by kernel_rfl) rfl⟩
instance:EntF Tryz.prog 257:=⟨enters_of Tryz.func257 (by kernel_rfl) rfl⟩
instance:EntF Tryz.prog 261:=⟨enters_of Tryz.func261 (by kernel_rfl) rfl⟩
instance:EntF Tryz.prog 262:=⟨enters_of Tryz.func262 (by kernel_rfl) rfl⟩
instance:EntF Tryz.prog 263:=⟨enters_of Tryz.func263 (by kernel_rfl) rfl⟩
instance:EntF Tryz.prog 264:=⟨enters_of Tryz.func264 (by kernel_rfl) rfl⟩
instance:EntF Tryz.prog 265:=⟨enters_of Tryz.func265 (by kernel_rfl) rfl⟩
instance:EntF Tryz.prog 267:=⟨enters_of Tryz.func267 (by kernel_rfl) rfl⟩
instance:EntF Tryz.prog 270:=⟨enters_of Tryz.func270 (by kernel_rfl) rfl⟩
instance:EntF Tryz.prog 272:=⟨enters_of Tryz.func272 (by kernel_rfl) rfl⟩
instance:EntF Tryz.prog 273:=⟨enters_of Tryz.func273 (by kernel_rfl) rfl⟩
instance:EntF Tryz.prog 274:=⟨enters_of Tryz.func274 (by kernel_rfl) rfl⟩
instance:EntF Tryz.prog 275:=⟨enters_of Tryz.func275 (by kernel_rfl) rfl⟩
instance:EntF Tryz.prog 276:=⟨enters_of Tryz.func276 (by kernel_rfl) rfl⟩
instance:EntF Tryz.prog 277:=⟨enters_of Tryz.func277 (by kernel_rfl) rfl⟩
instance:EntF Tryz.prog 281:=⟨enters_of Tryz.func281 (by kernel_rfl) rfl⟩
end
set_option synthInstance.maxSize 100000
set_option synthInstance.maxHeartbeats 400000
theorem drop_rep (n m:Nat) (z:Value):((List.replicate (n+m) [z]).flatten).drop (n*1)=List.replicate m z:=by
 have h:∀ k,(List.replicate k [z]).flatten=List.replicate k z:=fun k=>by
  induction k with
  | zero=>rfl
  | succ k ih=>rw[qqC,List.flatten_cons,ih];rfl
 rw[h,List.drop_replicate]
 congr 1;omega
theorem enc_set1 (l1 l2:List UInt8) (y y':UInt8):(encL (l1++y::l2)).take l1.length++[.int .u8 (y'.toNat:Int)]++(encL (l1++y::l2)).drop (l1.length+1)=encL (l1++y'::l2):=by
 have h1:(encL l1).length=l1.length:=by rw[encL_len];exact Nat.mul_one _
 have e:encL (l1++y::l2)=encL l1++(.int .u8 (y.toNat:Int)::encL l2):=by rw[encL_append,encL_cons];rfl
 rw[e,←h1,List.take_left,List.drop_append,List.drop_of_length_le (by omega),encL_append,encL_cons]
 simp[Enc.cells]
theorem lay16_c (p:Option Addr) (n c:Nat) (b:List UInt8) (v:Int) (w0:World) (hn:b.length=n) (hb:n≤1073741824) (hv:0≤v) (hv':v≤65535) (hs:Stable (fun _=>False) w0 (SlF p (encL b))) :
  Ret Tryz.prog 164 [.slice p n c,.int .u16 v,.int .i64 2] w0 (fun _=>False) fun r w'=>∃ g,r=.slice (some ⟨g,0,none⟩) (n+2) (n+2)∧w0.heap.size≤g∧w'.ownsRow 0 5 1 (.slice (some ⟨g,0,none⟩) (n+2) (n+2)) (n+2) (encL (b++be 2 v)):=by
 have hln:LenN b n:=⟨hn⟩
 refine enter Tryz.func164 rfl rfl (Wd.begin (fs:=[SlF p (encL b)]) (by simpa using hs)) (fun a S=>?_)
 simp only[Tryz.ntmps164,qqA,qqB,Nat.reduceAdd,Nat.reduceSub,qqC,qqD,qqE,qqF]at S
 refine kS (kR (sq S ?_));clear S;intro a S;refine kN (xtn (kS (kR ?_)));(iterate 4 (refine sq S ?_;clear S;intro a S))
 rw[w64 ((n:Int)+2) (by omega) (by omega)]at S
 refine smk (n+2) S (by omega) (by omega) (by omega) (by simp only[maxLen];omega) ?_;clear S;intro g a w S
 refine sq S ?_;clear S;intro a S;refine kN (xtn (kS (kR ?_)));(iterate 2 (refine sq S ?_;clear S;intro a S))
 refine scp S (by omega) ?_;clear S;intro a w S
 rw[drop_rep]at S
 refine kN (xtn (kS (kS (kR ?_))));(iterate 2 (refine sq S ?_;clear S;intro a S));refine kN (xtn (kB ?_))
 refine c_loop (ι:=Nat) (fun k a w=>k≤2∧∃ uu:Nat→Value,St w0 (fun _=>False) [] a w ((.slice p n c)::(.int .u16 v)::(.int .i64 2)::uu 3::uu 4::uu 5::uu 6::(.slice (some ⟨g,0,none⟩) (n+2) (n+2))::uu 8::uu 9::uu 10::uu 11::uu 12::uu 13::uu 14::uu 15::uu 16::(.int .i64 2)::(.int .i64 (k:Nat))::uu 19::uu 20::uu 21::uu 22::uu 23::uu 24::uu 25::uu 26::uu 27::uu 28::uu 29::uu 30::uu 31::uu 32::uu 33::uu 34::uu 35::uu 36::uu 37::[]) [row 5 1 (some ⟨g,0,none⟩) (n+2) (n+2) (encL (b++((be 2 v).take k++List.replicate (2 - k) 0)))] [SlF p (encL b)]) (fun k=>2 - k) 0 ?_ ?_
 rw[show encL b++List.replicate 2 (Value.int .u8 0)=encL (b++((be 2 v).take 0++List.replicate (2 - 0) 0)) from by rw[encL_append];rfl]at S
 exact ⟨Nat.zero_le _,S.uu,S⟩
 clear S
 rintro k a w ⟨hk,uu,S⟩
 refine kS (kR (sq S ?_));clear S;intro a S;refine kN (xtn (kS ?_))
 refine kC S (fun h4=>?_) (fun h4=>?_)
 refine kK (xtn (kS (kB (kS (kR ?_)))));(iterate 2 (refine sq S ?_;clear S;intro a S));refine kN (xtn (kR ?_));(iterate 4 (refine sq S ?_;clear S;intro a S))
 have hk2:k < 2:=by simp at h4;omega
 refine sq S ?_;clear S;intro a S
 rw[w64 ((n:Int)+(k:Int)) (by omega) (by omega),show (n:Int)+(k:Int)=((n+k:Nat):Int) from by omega]at S
 (iterate 2 (refine sq S ?_;clear S;intro a S))
 rw[wu64 v (by omega) (by omega)]at S
 (iterate 2 (refine sq S ?_;clear S;intro a S))
 rw[show IntKind.i64.wrap (2 - 1)=1 from rfl]at S
 (iterate 2 (refine sq S ?_;clear S;intro a S))
 rw[w64 (1 - (k:Int)) (by omega) (by omega)]at S
 refine sq S ?_;clear S;intro a S
 rw[w64 (8*(1 - (k:Int))) (by omega) (by omega),show 8*(1 - (k:Int))=((8*(2 - 1 - k):Nat):Int) from by omega]at S
 refine sq S ?_;clear S;intro a S
 rw[show min (8*(2 - 1 - k)) IntKind.u64.bits=8*(2 - 1 - k) from Nat.min_eq_left (by simp only[IntKind.bits];omega)]at S
 refine sq S ?_;clear S;intro a S
 rw[u8_wrap]at S
 have hK:KLt (n+k) (n+2):=⟨by omega⟩
 refine sq S ?_;clear S;intro a S
 refine sws S (n+2) (by omega) (by omega) ?_;clear S;intro a w S
 refine kN (xbn (xtn (kR ?_)));(iterate 2 (refine sq S ?_;clear S;intro a S));refine kN (xtn ?_)
 rw[w64 ((k:Int)+1) (by omega) (by omega)]at S
 have e:encL (b++((be 2 v).take (k+1)++List.replicate (2 - (k+1)) 0))=(encL (b++((be 2 v).take k++List.replicate (2 - k) 0))).take (n+k)++[.int .u8 ((Wk.u8 (v.fdiv (2 ^ (8*(2 - 1 - k))))).toNat:Int)]++(encL (b++((be 2 v).take k++List.replicate (2 - k) 0))).drop (n+k+1):=by
  have hk2:k=0∨k=1:=by omega
  rcases hk2 with rfl | rfl
  have:=enc_set1 b [0] 0 (Wk.u8 (v.fdiv (2 ^ (8*(2 - 1 - 0)))))
  rw[hn]at this
  exact this.symm
  have:=enc_set1 (b++[Wk.u8 (v.fdiv (2 ^ 8))]) [] 0 (Wk.u8 (v.fdiv (2 ^ (8*(2 - 1 - 1)))))
  rw[List.length_append,hn]at this
  simp only[List.append_assoc]at this⊢
  exact this.symm
 rw[List.length_singleton,←e]at S
 exact ⟨k+1,⟨by omega,S.uu,S⟩,by omega⟩
 refine kE (xte (xte (xbe (xtn (kS (kR ?_))))));(iterate 2 (refine sq S ?_;clear S;intro a S));refine kN (xtn (kT ?_))
 have hk2:k=2:=by simp at h4;omega
 subst hk2
 have hrow:=S.row (some ⟨g,0,none⟩) (n+2)
 have hnew:=S.rowNew (some ⟨g,0,none⟩) (n+2)
 refine end1 S (fun _=>⟨g,rfl,?_,?_⟩)
 exact (hnew _ rfl).elim (fun h=>h.elim) id
 rw[List.take_of_length_le (by simp[be]),show List.replicate (2 - 2) (0:UInt8)=[] from rfl,List.append_nil]at hrow
 exact hrow
theorem put16_c (p:Option Addr) (n c:Nat) (b:List UInt8) (v:Int) (w0:World) (hn:b.length=n) (hb:n≤1073741824) (hv:0≤v) (hv':v≤65535) (hs:Stable (fun _=>False) w0 (SlF p (encL b))) :
  Ret Tryz.prog 65 [.slice p n c,.int .u16 v] w0 (fun _=>False) fun r w'=>∃ g,r=.slice (some ⟨g,0,none⟩) (n+2) (n+2)∧w0.heap.size≤g∧w'.ownsRow 0 5 1 (.slice (some ⟨g,0,none⟩) (n+2) (n+2)) (n+2) (encL (b++be 2 v)):=by
 refine enter Tryz.func65 rfl rfl (Wd.begin (fs:=[SlF p (encL b)]) (by simpa using hs)) (fun a S=>?_)
 simp only[Tryz.ntmps65,qqA,qqB,Nat.reduceAdd,Nat.reduceSub,qqC,qqD,qqE,qqF]at S
 refine kS (kR (sq S ?_));clear S;intro a S;refine kN (xtn (kS (kR ?_)));(iterate 2 (refine sq S ?_;clear S;intro a S))
 refine srn S (lay16_c p n c b v _ hn hb hv hv' ((S.fact (Φ:=SlF p (encL b)) (by simp)).less fun _ _ h=>h.elim)) ?_;clear S;rintro _ a w1 ⟨g,rfl,hg,hown⟩ - S
 refine sq S ?_;clear S;intro a S;refine kN (xtn (kT ?_))
 exact end1 S (fun _=>⟨g,rfl,hg,hown⟩)
def fieldsOf (k:Int):Int:=
 if k=1 then 1 else if k=2 then 6 else if k=3 then 2 else if k=4∨k=6 then 16 else if k=5 then 8 else if k=7 then 10 else if k=8 then 14 else 0
theorem fields_c (k:Int) (w:World):Ret Tryz.prog 231 [.int .i64 k] w (fun _=>False) fun v _=>v=.int .i64 (fieldsOf k):=by
 refine enter Tryz.func231 rfl rfl (Wd.start w) (fun a S=>?_)
 simp only[Tryz.ntmps231,qqA,qqB,Nat.reduceAdd,Nat.reduceSub,qqC,qqD,qqE,qqF]at S
 refine kS (kR (sq S ?_));clear S;intro a S;refine kN (xtn (kS (kS (kR (sq S ?_)))));clear S;intro a S;refine kN (xtn (kB (kS (kR ?_))));(iterate 2 (refine sq S ?_;clear S;intro a S));refine kN (xtn ?_)
 refine kC S (fun h2=>?_) (fun h2=>?_)
 refine kS (kR (sq S ?_));clear S;intro a S;refine kN (xtn (kT (xbr (xtr ?_))))
 refine fin1 S (fun _=>?_)
 simp at *;first | (exfalso;omega) | simp[*,fieldsOf]
 refine kS (kR ?_);(iterate 2 (refine sq S ?_;clear S;intro a S));refine kN (xtn ?_)
 refine kC S (fun h4=>?_) (fun h4=>?_)
 refine kS (kR (sq S ?_));clear S;intro a S;refine kN (xtn (kT (xbr (xtr ?_))))
 refine fin1 S (fun _=>?_)
 simp at *;first | (exfalso;omega) | simp[*,fieldsOf]
 refine kS (kR ?_);(iterate 2 (refine sq S ?_;clear S;intro a S));refine kN (xtn ?_)
 refine kC S (fun h6=>?_) (fun h6=>?_)
 refine kS (kR (sq S ?_));clear S;intro a S;refine kN (xtn (kT (xbr (xtr ?_))))
 refine fin1 S (fun _=>?_)
 simp at *;first | (exfalso;omega) | simp[*,fieldsOf]
 refine kS (kS (kR ?_));(iterate 2 (refine sq S ?_;clear S;intro a S));refine kN (xtn ?_)
 refine kC S (fun h8=>?_) (fun h8=>?_)
 refine kK (xtn ?_)
 refine kC S (fun h8=>?_) (fun h8=>?_)
 refine kS (kR (sq S ?_));clear S;intro a S;refine kN (xtn (kT (xbr (xtr ?_))))
 refine fin1 S (fun _=>?_)
 simp at *;first | (exfalso;omega) | simp[*,fieldsOf]
 refine kS (kR ?_);(iterate 2 (refine sq S ?_;clear S;intro a S));refine kN (xtn ?_)
 refine kC S (fun h11=>?_) (fun h11=>?_)
 refine kS (kR (sq S ?_));clear S;intro a S;refine kN (xtn (kT (xbr (xtr ?_))))
 refine fin1 S (fun _=>?_)
 simp at *;first | (exfalso;omega) | simp[*,fieldsOf]
 refine kS (kR ?_);(iterate 2 (refine sq S ?_;clear S;intro a S));refine kN (xtn ?_)
 refine kC S (fun h13=>?_) (fun h13=>?_)
 refine kS (kR (sq S ?_));clear S;intro a S;refine kN (xtn (kT (xbr (xtr ?_))))
 refine fin1 S (fun _=>?_)
 simp at *;first | (exfalso;omega) | simp[*,fieldsOf]
 refine kS (kR ?_);(iterate 2 (refine sq S ?_;clear S;intro a S));refine kN (xtn ?_)
 refine kC S (fun h15=>?_) (fun h15=>?_)
 refine kS (kR (sq S ?_));clear S;intro a S;refine kN (xtn (kT (xbr (xtr ?_))))
 refine fin1 S (fun _=>?_)
 simp at *;first | (exfalso;omega) | simp[*,fieldsOf]
 refine kK (xbn (xtn (kS (kR (sq S ?_)))));clear S;intro a S;refine kN (xtn (kT ?_))
 refine fin1 S (fun _=>?_)
 simp at *;first | (exfalso;omega) | simp[*,fieldsOf]
 refine kR ?_;(iterate 2 (refine sq S ?_;clear S;intro a S));refine kN (xtn ?_)
 refine kC S (fun h9=>?_) (fun h9=>?_)
 refine kS (kR (sq S ?_));clear S;intro a S;refine kN (xtn (kT (xbr (xtr ?_))))
 refine fin1 S (fun _=>?_)
 simp at *;first | (exfalso;omega) | simp[*,fieldsOf]
 refine kS (kR ?_);(iterate 2 (refine sq S ?_;clear S;intro a S));refine kN (xtn ?_)
 refine kC S (fun h11=>?_) (fun h11=>?_)
 refine kS (kR (sq S ?_));clear S;intro a S;refine kN (xtn (kT (xbr (xtr ?_))))
 refine fin1 S (fun _=>?_)
 simp at *;first | (exfalso;omega) | simp[*,fieldsOf]
 refine kS (kR ?_);(iterate 2 (refine sq S ?_;clear S;intro a S));refine kN (xtn ?_)
 refine kC S (fun h13=>?_) (fun h13=>?_)
 refine kS (kR (sq S ?_));clear S;intro a S;refine kN (xtn (kT (xbr (xtr ?_))))
 refine fin1 S (fun _=>?_)
 simp at *;first | (exfalso;omega) | simp[*,fieldsOf]
 refine kS (kR ?_);(iterate 2 (refine sq S ?_;clear S;intro a S));refine kN (xtn ?_)
 refine kC S (fun h15=>?_) (fun h15=>?_)
 refine kS (kR (sq S ?_));clear S;intro a S;refine kN (xtn (kT (xbr (xtr ?_))))
 refine fin1 S (fun _=>?_)
 simp at *;first | (exfalso;omega) | simp[*,fieldsOf]
 refine kK (xbn (xtn (kS (kR (sq S ?_)))));clear S;intro a S;refine kN (xtn (kT ?_))
 refine fin1 S (fun _=>?_)
 simp at *;first | (exfalso;omega) | simp[*,fieldsOf]
instance {k:Int} {bs fs} : CallV Tryz.prog 231 [.int .i64 k] bs fs (.int .i64 (fieldsOf k)):=⟨fun w _=>fields_c k w⟩
def hasF (f g:Int):Bool:=!decide (iand .i64 f g=0)
theorem has_c (f g:Int) (w:World):Ret Tryz.prog 232 [.int .i64 f,.int .i64 g] w (fun _=>False) fun v _=>v=.bool (hasF f g):=by
 refine enter Tryz.func232 rfl rfl (Wd.start w) (fun a S=>?_)
 simp only[Tryz.ntmps232,qqA,qqB,Nat.reduceAdd,Nat.reduceSub,qqC,qqD,qqE,qqF]at S
 refine kS (kR (sq S ?_));clear S;intro a S;refine kN (xtn (kS (kR ?_)));(iterate 5 (refine sq S ?_;clear S;intro a S));refine kN (xtn (kT ?_))
 refine fin1 S (fun _=>?_)
 rfl
instance {f g:Int} {bs fs} : CallV Tryz.prog 232 [.int .i64 f,.int .i64 g] bs fs (.bool (hasF f g)):=⟨fun w _=>has_c f g w⟩
def kidsF (f:Int):Int:=if hasF f 16 then 2 else if hasF f 8 then 1 else 0
theorem kids_c (f:Int) (w:World):Ret Tryz.prog 236 [.int .i64 f] w (fun _=>False) fun v _=>v=.int .i64 (kidsF f):=by
 refine enter Tryz.func236 rfl rfl (Wd.start w) (fun a S=>?_)
 simp only[Tryz.ntmps236,qqA,qqB,Nat.reduceAdd,Nat.reduceSub,qqC,qqD,qqE,qqF]at S
 refine kS (kR (sq S ?_));clear S;intro a S;refine kN (xtn (kS (kB (kS (kR (sq S ?_))))));clear S;intro a S;refine sc S ?_;clear S;intro a w S;refine sq S ?_;clear S;intro a S;refine kN (xtn ?_)
 refine kC S (fun h1=>?_) (fun h1=>?_)
 refine kS (kR (sq S ?_));clear S;intro a S;refine kN (xtn (kT (xbr (xtr ?_))))
 refine fin1 S (fun _=>?_)
 simp[*,kidsF]
 refine kS (kR (sq S ?_));clear S;intro a S;refine sc S ?_;clear S;intro a w S;refine sq S ?_;clear S;intro a S;refine kN (xtn ?_)
 refine kC S (fun h3=>?_) (fun h3=>?_)
 refine kS (kR (sq S ?_));clear S;intro a S;refine kN (xtn (kT (xbr (xtr ?_))))
 refine fin1 S (fun _=>?_)
 simp[*,kidsF]
 refine kK (xbn (xtn (kS (kR (sq S ?_)))));clear S;intro a S;refine kN (xtn (kT ?_))
 refine fin1 S (fun _=>?_)
 simp[*,kidsF]
instance {f:Int} {bs fs} : CallV Tryz.prog 236 [.int .i64 f] bs fs (.int .i64 (kidsF f)):=⟨fun w _=>kids_c f w⟩
def knownF (n:Int):Bool:=decide (1≤n)&&decide (n≤6)
theorem known_c (n:Int) (w:World):Ret Tryz.prog 235 [.int .i64 n] w (fun _=>False) fun v _=>v=.bool (knownF n):=by
 refine enter Tryz.func235 rfl rfl (Wd.start w) (fun a S=>?_)
 simp only[Tryz.ntmps235,qqA,qqB,Nat.reduceAdd,Nat.reduceSub,qqC,qqD,qqE,qqF]at S
 refine kS (kR (sq S ?_));clear S;intro a S;refine kN (xtn (kS (kR ?_)));(iterate 3 (refine sq S ?_;clear S;intro a S));(iterate 2 (refine gQ S ?_;clear S;intro a S));(iterate 2 (refine sq S ?_;clear S;intro a S));refine kN (xtn (kT ?_))
 refine fin1 S (fun _=>?_)
 rfl
instance {n:Int} {bs fs} : CallV Tryz.prog 235 [.int .i64 n] bs fs (.bool (knownF n)):=⟨fun w _=>known_c n w⟩
def plainF (k u n:Int) (s:List UInt8) (m:Nat):Bool:=
 let f:=fieldsOf k
 !decide (f=0)&&decide ((m:Int)=kidsF f)&&decide ((s.length:Int)≤64)&&(hasF f 1||decide (s=[]))&&(hasF f 2&&knownF u||!hasF f 2&&decide (u=0))&&(hasF f 4&&decide (0≤n)&&decide (n≤65535)||!hasF f 4&&decide (n=0))
theorem plain_c (k u n:Int) (s:List UInt8) (p:Option Addr) (m c:Nat) (w:World):Ret Tryz.prog 261 [.agg #[.int .i64 k,.int .i64 u,.int .i64 n,str s,.slice p m c]] w (fun _=>False) fun v _=>v=.bool (plainF k u n s m):=by
 refine enter Tryz.func261 rfl rfl (Wd.start w) (fun a S=>?_)
 simp only[Tryz.ntmps261,qqA,qqB,Nat.reduceAdd,Nat.reduceSub,qqC,qqD,qqE,qqF]at S
 refine kS (kR ?_);refine sa S ?_;clear S;intro b1 a w S;refine sq S ?_;clear S;intro a S;refine kN (xtn (kS (kR ?_)));(iterate 2 (refine sq S ?_;clear S;intro a S));refine sc S ?_;clear S;intro a w S;refine sq S ?_;clear S;intro a S;refine kN (xtn (kS ?_));refine c_drawD [(0,true),(1,true),(2,true),(3,true),(4,true),(5,true),(6,true),(7,false),(8,true),(9,true),(10,true),(11,true),(12,true),(13,true),(14,true),(15,true),(16,true),(17,true),(18,false),(19,true),(20,true),(21,true),(22,true),(23,true),(24,true),(25,true)] [] S ?_;clear S;intro w S
 (iterate 3 (refine dq S ?_;clear S;intro a S));(iterate 4 (refine dqG S ?_;clear S;intro a S));refine dl ?_;refine gC S ?_;clear S;intro a w S;refine de S ?_;refine dqG S ?_;clear S;intro a S;(iterate 2 (refine dq S ?_;clear S;intro a S));(iterate 4 (refine dqG S ?_;clear S;intro a S));(iterate 2 (refine dq S ?_;clear S;intro a S));refine dqG S ?_;clear S;intro a S;refine dl ?_
 refine gC S ?_;clear S;intro a w S;refine de S ?_;(iterate 5 (refine dqG S ?_;clear S;intro a S));(iterate 2 (refine dq S ?_;clear S;intro a S));refine dn (xtn (kS (kR ?_)));(iterate 2 (refine sq S ?_;clear S;intro a S));refine gQ S ?_;clear S;intro a S;refine gC S ?_;clear S;intro a w S;(iterate 3 (refine gQ S ?_;clear S;intro a S));refine gC S ?_;clear S;intro a w S
 (iterate 3 (refine gQ S ?_;clear S;intro a S));refine gC S ?_;clear S;intro a w S;(iterate 7 (refine gQ S ?_;clear S;intro a S));(iterate 2 (refine sq S ?_;clear S;intro a S));refine kN (xtn (kS (kR ?_)));(iterate 2 (refine sq S ?_;clear S;intro a S));refine gQ S ?_;clear S;intro a S;refine gC S ?_;clear S;intro a w S;(iterate 12 (refine gQ S ?_;clear S;intro a S));refine gC S ?_;clear S;intro a w S;(iterate 7 (refine gQ S ?_;clear S;intro a S));(iterate 2 (refine sq S ?_;clear S;intro a S));refine kN (xtn (kT ?_))
 refine fin1 S (fun _=>?_)
 first | rfl | simp[plainF]
instance {k u n:Int} {s:List UInt8} {p:Option Addr} {m c:Nat} {bs fs} : CallV Tryz.prog 261 [.agg #[.int .i64 k,.int .i64 u,.int .i64 n,str s,.slice p m c]] bs fs (.bool (plainF k u n s m)):=⟨fun w _=>plain_c k u n s p m c w⟩
mutual
def walkF:Term→Int→Int→Bool × Int
 | .mk k u n s kids,deep,left=>if left - 1 < 0∨60 < deep∨plainF k u n s kids.length=false then (false,left - 1) else walkLF kids (deep+1) (left - 1)
def walkLF:List Term→Int→Int→Bool × Int
 | [],_,left=>(true,left)
 | t::ts,deep,left=>if (walkF t deep left).1 then walkLF ts deep (walkF t deep left).2 else (false,(walkF t deep left).2)
end
mutual
theorem walkF_le:∀ (t:Term) (deep left:Int),(walkF t deep left).2≤left
 | .mk k u n s kids,deep,left=>by
  rw[walkF];split
  simp;omega
  have:=walkLF_le kids (deep+1) (left - 1);omega
theorem walkLF_le:∀ (ts:List Term) (deep left:Int),(walkLF ts deep left).2≤left
 | [],deep,left=>by simp[walkLF]
 | t::ts,deep,left=>by
  have h1:=walkF_le t deep left
  have h2:=walkLF_le ts deep (walkF t deep left).2
  rw[walkLF];split
  omega
  exact h1
end
mutual
theorem walkF_ge:∀ (t:Term) (deep left:Int),0≤left→(walkF t deep left).1=true→0≤(walkF t deep left).2
 | .mk k u n s kids,deep,left=>by
  intro h0 h
  rw[walkF]at h⊢
  split at h
  simp at h
  rename_i hc
  rw[if_neg hc]
  exact walkLF_ge kids (deep+1) (left - 1) (by omega) h
theorem walkLF_ge:∀ (ts:List Term) (deep left:Int),0≤left→(walkLF ts deep left).1=true→0≤(walkLF ts deep left).2
 | [],deep,left=>by intro h0 _;simpa [walkLF] using h0
 | t::ts,deep,left=>by
  intro h0 h
  rw[walkLF]at h⊢
  split at h
  rename_i hc
  rw[if_pos hc]
  exact walkLF_ge ts deep _ (walkF_ge t deep left h0 hc) h
  simp at h
end
theorem walk_c (N:Nat):∀ (t:LTerm) (deep left:Int) (b:Nat) (w0:World),SizeOf.sizeOf t≤N→0≤deep→deep≤61→0≤left→left≤1200→Stable (fun k=>k=b) w0 (LtF t)→w0.heap[b]? = some (.cells #[.int .i64 left] 3 (0,0))→
  Ret Tryz.prog 230 [vL t,.int .i64 deep,.pointer (some ⟨b,0,none⟩)] w0 (fun k=>k=b) fun v w'=>v=.bool (walkF t.t deep left).1∧w'.heap[b]? = some (.cells #[.int .i64 (walkF t.t deep left).2] 3 (0,0)):=by
 induction N with
 | zero=>intro t _ _ _ _ h;cases t;simp at h
 | succ N ih=>
 intro t deep left b w0 hN hd hd' hl hl' hf hb
 have e0:=t.t_eq
 refine enter Tryz.func230 rfl rfl (Wd.lent (fs:=[LtF t]) hb (by simpa using hf)) (fun a S=>?_)
 simp only[Tryz.ntmps230,qqA,qqB,Nat.reduceAdd,Nat.reduceSub,qqC,qqD,qqE,qqF]at S
 refine kS (kR ?_);refine sa S ?_;clear S;intro b3 a w S;refine sq S ?_;clear S;intro a S;refine kN (xtn (kS (kS (kR ?_))));(iterate 4 (refine sq S ?_;clear S;intro a S))
 rw[w64 (left - 1) (by omega) (by omega)]at S
 refine sq S ?_;clear S;intro a S;refine sw S ?_;clear S;intro a w S;refine kN (xtn (kS (kR ?_)));(iterate 5 (refine sq S ?_;clear S;intro a S));(iterate 2 (refine gQ S ?_;clear S;intro a S));(iterate 2 (refine sq S ?_;clear S;intro a S));refine gQ S ?_;clear S;intro a S;refine gC S ?_;clear S;intro a w S;refine gQ S ?_;clear S;intro a S;refine sq S ?_;clear S;intro a S;refine kN (xtn ?_)
 refine kC S (fun h2=>?_) (fun h2=>?_)
 ·refine kS (kR (sq S ?_));clear S;intro a S;refine kN (xtn (kT (xtr ?_)))
  have hbx:=S.box b
  refine fin1 S (fun _=>?_)
  have h3:left - 1 < 0∨60 < deep∨plainF t.kind t.user t.num t.text t.kids.length=false:=by simpa [or_assoc] using h2
  rw[e0,walkF,if_pos (by simpa using h3)]
  exact ⟨rfl,hbx⟩
 ·refine kK (xtn (kS (kS (kR ?_))));(iterate 4 (refine sq S ?_;clear S;intro a S));refine kN (xtn (kB ?_))
  have h3:¬(left - 1 < 0∨60 < deep∨plainF t.kind t.user t.num t.text t.kids.length=false):=by simpa [and_assoc] using h2
  have hlen:=LTerm.len_le hf
  refine c_loop (ι:=Nat) (fun k a w=>k≤t.kids.length∧∃ lf,0≤lf∧lf≤1200∧walkLF ((t.kids.drop k).map LTerm.t) (deep+1) lf=walkF t.t deep left∧∃ uu:Nat→Value,St w0 (fun k=>k=b) [] a w ((vL t)::(.int .i64 deep)::(.pointer (some ⟨b,0,none⟩))::(.pointer (some ⟨b3,0,none⟩))::uu 4::uu 5::(.bool false)::uu 7::uu 8::uu 9::uu 10::uu 11::uu 12::uu 13::uu 14::uu 15::uu 16::uu 17::uu 18::uu 19::uu 20::uu 21::uu 22::uu 23::uu 24::uu 25::uu 26::uu 27::(.slice t.p t.kids.length t.cap)::(.int .i64 t.kids.length)::(.int .i64 (k:Nat))::uu 31::uu 32::uu 33::uu 34::uu 35::uu 36::uu 37::uu 38::uu 39::uu 40::[]) [box b3 43 t.cells,box b 3 [.int .i64 lf]] [LtF t]) (fun k=>t.kids.length - k) 0 ?_ ?_
  ·refine ⟨Nat.zero_le _,left - 1,by omega,by omega,?_,S.uu,S⟩
   rw[e0,walkF,if_neg (by simpa using h3)];rfl
  ·clear S
   rintro k a w ⟨hk,lf,hlf,hlf',hrel,uu,S⟩
   refine kS (kR (sq S ?_));clear S;intro a S;refine kN (xtn (kS ?_))
   refine kC S (fun h5=>?_) (fun h5=>?_)
   ·refine kK (xtn (kS (kB (kS (kR ?_)))))
    have hkl:k < t.kids.length:=by simpa using h5
    obtain ⟨x,ad,hx,hm,hp,hcell,hfx⟩:=LTerm.kid (S.fact (Φ:=LtF t) (by simp)) hkl
    replace S:=S.add hfx
    refine si S ad hp (by omega) (by omega) ?_;clear S;intro a S
    refine slA x.cells S hcell ?_;clear S;intro a S;refine sa S ?_;clear S;intro b8 a w S;refine sw S ?_;clear S;intro a w S;refine kN (xtn (kS (kR ?_)));(iterate 3 (refine sq S ?_;clear S;intro a S))
    rw[w64 (deep+1) (by omega) (by omega)]at S
    refine sq S ?_;clear S;intro a S
    have hdr:t.kids.drop k=x::t.kids.drop (k+1):=by
     rw[List.drop_eq_getElem_cons hkl];congr 1
     exact (List.getElem?_eq_some_iff.1 hx).2
    rw[hdr,List.map_cons,walkLF]at hrel
    have hb1:=walkF_le x.t (deep+1) lf
    refine sb S (b:=b) (ih x (deep+1) lf b w (by have:=LTerm.kid_lt hm;omega) (by omega) (by have:¬60 < deep:=fun h=>h3 (.inr (.inl h));omega) hlf hlf' (S.fb b (by simp)) (S.box b)) ?_;clear S
    rintro v a w ⟨rfl,hcb⟩ hS
    have S:=hS [.int .i64 _] _ inferInstance hcb
    clear hS
    refine sq S ?_;clear S;intro a S;refine kN (xtn ?_)
    refine kC S (fun h7=>?_) (fun h7=>?_)
    ·refine kS (kR (sq S ?_));clear S;intro a S;refine kN (xtn (kT (xbr (xtr (xtr (xbr (xtr ?_)))))))
     have hbx:=S.box b
     refine fin1 S (fun _=>?_)
     have h8:(walkF x.t (deep+1) lf).1=false:=by simpa using h7
     rw[if_neg (by simp[h8])]at hrel
     rw[←hrel]
     exact ⟨rfl,hbx⟩
    ·refine kK (xbn (xtn (kR ?_)));(iterate 2 (refine sq S ?_;clear S;intro a S));refine kN (xtn ?_)
     have h8:(walkF x.t (deep+1) lf).1=true:=by simpa using h7
     rw[if_pos h8]at hrel
     replace S:=S.sub [box b3 43 t.cells,box b 3 [.int .i64 (walkF x.t (deep+1) lf).2]] [LtF t]
     rw[w64 ((k:Int)+1) (by omega) (by omega)]at S
     exact ⟨k+1,⟨hkl,_,walkF_ge x.t (deep+1) lf hlf h8,by omega,hrel,S.uu,S⟩,by omega⟩
   ·refine kE (xte (xte (xbe (xtn (kS (kR (sq S ?_)))))));clear S;intro a S;refine kN (xtn (kT ?_))
    have hbx:=S.box b
    refine fin1 S (fun _=>?_)
    have h6:t.kids.length≤k:=by simpa using h5
    rw[List.drop_of_length_le h6,List.map_nil,walkLF]at hrel
    rw[←hrel]
    exact ⟨rfl,hbx⟩
def sizeF (t:Term):Int:=if (walkF t 1 1200).1 then 1200 - (walkF t 1 1200).2 else 0
theorem size_c (t:LTerm) (w0:World) (hf:Stable (fun _=>False) w0 (LtF t)):Ret Tryz.prog 162 [vL t] w0 (fun _=>False) fun v _=>v=.int .i64 (sizeF t.t):=by
 have h1:=walkF_le t.t 1 1200
 refine enter Tryz.func162 rfl rfl (Wd.begin (fs:=[LtF t]) (by simpa using hf)) (fun a S=>?_)
 simp only[Tryz.ntmps162,qqA,qqB,Nat.reduceAdd,Nat.reduceSub,qqC,qqD,qqE,qqF]at S
 refine kS (kR ?_);refine sa S ?_;clear S;intro b1 a w S;refine sq S ?_;clear S;intro a S;refine kN (xtn (kS (kR ?_)));refine sa S ?_;clear S;intro b3 a w S;refine sw S ?_;clear S;intro a w S;refine kN (xtn (kS (kS (kR (sq S ?_)))));clear S;intro a S
 refine sb S (b:=b3) (walk_c _ t 1 1200 b3 w (Nat.le_refl _) (by omega) (by omega) (by omega) (by omega) (S.fb b3 (by simp)) (S.box b3)) ?_;clear S
 rintro v a w ⟨rfl,hcb⟩ hS
 have S:=hS [.int .i64 _] _ inferInstance hcb
 clear hS
 refine sq S ?_;clear S;intro a S;refine kN (xtn ?_)
 refine kC S (fun h2=>?_) (fun h2=>?_)
 refine kS (kR (sq S ?_));clear S;intro a S;refine kN (xtn (kT (xtr ?_)))
 refine end1 S (fun _=>?_)
 have h3:(walkF t.t 1 1200).1=false:=by simpa using h2
 simp[sizeF,h3]
 refine kK (xtn (kS (kR (sq S ?_))));clear S;intro a S
 have h3:(walkF t.t 1 1200).1=true:=by simpa using h2
 have h4:=walkF_ge t.t 1 1200 (by omega) h3
 refine sq S ?_;clear S;intro a S
 rw[w64 (1200 - (walkF t.t 1 1200).2) (by omega) (by omega)]at S
 refine sq S ?_;clear S;intro a S;refine kN (xtn (kT ?_))
 refine end1 S (fun _=>?_)
 simp[sizeF,h3]
instance {t:LTerm} {bs fs} [HasT fs t]:CallV Tryz.prog 162 [vL t] bs fs (.int .i64 (sizeF t.t)):=⟨fun w m=>size_c t w (m.t0 _)⟩
def checkF (t:Term):Int:=if sizeF t=0 then 150 else 0
theorem check_c (t:LTerm) (w0:World) (hf:Stable (fun _=>False) w0 (LtF t)):Ret Tryz.prog 203 [vL t] w0 (fun _=>False) fun v _=>v=.int .i64 (checkF t.t):=by
 refine enter Tryz.func203 rfl rfl (Wd.begin (fs:=[LtF t]) (by simpa using hf)) (fun a S=>?_)
 simp only[Tryz.ntmps203,qqA,qqB,Nat.reduceAdd,Nat.reduceSub,qqC,qqD,qqE,qqF]at S
 refine kS (kR ?_);refine sa S ?_;clear S;intro b1 a w S;refine sq S ?_;clear S;intro a S;refine kN (xtn (kS (kS (kR (sq S ?_)))));clear S;intro a S;refine sc S ?_;clear S;intro a w S;refine sq S ?_;clear S;intro a S;refine kN (xtn ?_)
 refine kC S (fun h1=>?_) (fun h1=>?_)
 refine kS (kR (sq S ?_));clear S;intro a S;refine kN (xtn (kT (xtr ?_)))
 refine end1 S (fun _=>?_)
 simp at h1
 simp[checkF,h1]
 refine kK (xtn (kS (kR (sq S ?_))));clear S;intro a S;refine kN (xtn (kT ?_))
 refine end1 S (fun _=>?_)
 simp at h1
 simp[checkF,h1]
instance {t:LTerm} {bs fs} [HasT fs t]:CallV Tryz.prog 203 [vL t] bs fs (.int .i64 (checkF t.t)):=⟨fun w m=>check_c t w (m.t0 _)⟩
mutual
def sameF:Term→Term→Bool
 | .mk k u n s ks,.mk k' u' n' s' ks'=>decide (k=k')&&decide (u=u')&&decide (n=n')&&decide (s=s')&&sameLF ks ks'
def sameLF:List Term→List Term→Bool
 | [],[]=>true
 | a::l,b::m=>sameF a b&&sameLF l m
 | [],_::_=>false
 | _::_,[]=>false
end
mutual
theorem sameF_iff:∀ a b:Term,sameF a b=true↔a=b
 | .mk k u n s ks,.mk k' u' n' s' ks'=>by
  have:=sameLF_iff ks ks'
  simp[sameF,this,and_assoc]
theorem sameLF_iff:∀ a b:List Term,sameLF a b=true↔a=b
 | [],[]=>by simp[sameLF]
 | a::l,b::m=>by
  have h1:=sameF_iff a b
  have h2:=sameLF_iff l m
  simp[sameLF,h1,h2]
 | [],_::_=>by simp[sameLF]
 | _::_,[]=>by simp[sameLF]
end
theorem sameLF_len {a b:List Term} (h:a.length≠b.length):sameLF a b=false:=by
 cases hs:sameLF a b with
 | false=>rfl
 | true=>exact absurd (by rw[(sameLF_iff a b).1 hs]) h
def SameC (N:Nat):Prop:=∀ (x y:LTerm) (w:World),SizeOf.sizeOf x≤N→Stable (fun _=>False) w (LtF x)→Stable (fun _=>False) w (LtF y)→Ret Tryz.prog 61 [vL x,vL y] w (fun _=>False) fun v _=>v=.bool (sameF x.t y.t)
theorem equal_c (N:Nat) (hS:SameC N) (p q:Option Addr) (c e n m:Nat) (xs ys:List LTerm) (hn:xs.length=n) (hm:ys.length=m) (w0:World) (hl:n≤9223372036854775807) (hN:∀ x∈xs,SizeOf.sizeOf x≤N) (hx:Stable (fun _=>False) w0 (LsF p 0 xs)) (hy:Stable (fun _=>False) w0 (LsF q 0 ys)) :
  Ret Tryz.prog 159 [.slice p n c,.slice q m e,.func (.func 61) #[] #[]] w0 (fun _=>False) fun v _=>v=.bool (sameLF (xs.map LTerm.t) (ys.map LTerm.t)):=by
 refine enter Tryz.func159 rfl rfl (Wd.begin (fs:=[LsF p 0 xs,LsF q 0 ys]) (by simp;exact ⟨hx,hy⟩)) (fun a S=>?_)
 simp only[Tryz.ntmps159,qqA,qqB,Nat.reduceAdd,Nat.reduceSub,qqC,qqD,qqE,qqF]at S
 refine kS (kR (sq S ?_));clear S;intro a S;refine kN (xtn (kS (kS (kR ?_))));(iterate 5 (refine sq S ?_;clear S;intro a S));refine kN (xtn ?_)
 refine kC S (fun h1=>?_) (fun h1=>?_)
 refine kS (kR (sq S ?_));clear S;intro a S;refine kN (xtn (kT (xtr ?_)))
 refine end1 S (fun _=>?_)
 rw[sameLF_len]
 simp[hn,hm];simp at h1;omega
 refine kK (xtn (kS (kS (kR ?_))));(iterate 3 (refine sq S ?_;clear S;intro a S));refine kN (xtn (kB ?_))
 obtain rfl:n=m:=by simp at h1;omega
 refine c_loop (ι:=Nat) (fun k a w=>k≤n∧sameLF ((xs.drop k).map LTerm.t) ((ys.drop k).map LTerm.t)=sameLF (xs.map LTerm.t) (ys.map LTerm.t)∧∃ uu:Nat→Value,St w0 (fun _=>False) [] a w ((.slice p n c)::(.slice q n e)::(.func (.func 61) #[] #[])::uu 3::uu 4::uu 5::(.bool false)::uu 7::uu 8::uu 9::uu 10::uu 11::uu 12::uu 13::uu 14::(.slice p n c)::(.int .i64 n)::(.int .i64 (k:Nat))::uu 18::uu 19::uu 20::uu 21::uu 22::uu 23::uu 24::uu 25::uu 26::uu 27::uu 28::uu 29::uu 30::uu 31::[]) [] [LsF p 0 xs,LsF q 0 ys]) (fun k=>n - k) 0 ?_ ?_
 exact ⟨Nat.zero_le _,rfl,S.uu,S⟩
 clear S
 rintro k a w ⟨hk,hrel,uu,S⟩
 refine kS (kR (sq S ?_));clear S;intro a S;refine kN (xtn (kS ?_))
 refine kC S (fun h4=>?_) (fun h4=>?_)
 refine kK (xtn (kS (kB (kS (kR (sq S ?_))))));clear S;intro a S
 have hkl:k < n:=by simpa using h4
 obtain ⟨x,ad,hx1,hxm,hxd,hp,hcell,hfx⟩:=ls_kid (S.fact (Φ:=LsF p 0 xs) (by simp)) (k:=k) (by omega)
 replace S:=S.add hfx
 refine si S ad hp (by omega) (by omega) ?_;clear S;intro a S
 refine slA x.cells S hcell ?_;clear S;intro a S;refine sa S ?_;clear S;intro b8 a w S;refine sq S ?_;clear S;intro a S;refine sw S ?_;clear S;intro a w S;refine kN (xtn (kS (kR ?_)));(iterate 2 (refine sq S ?_;clear S;intro a S))
 obtain ⟨y,ad',hy1,hym,hyd,hq,hcell',hfy⟩:=ls_kid (S.fact (Φ:=LsF q 0 ys) (by simp)) (k:=k) (by omega)
 replace S:=S.add hfy
 refine si S ad' hq (by omega) (by omega) ?_;clear S;intro a S
 refine slA y.cells S hcell' ?_;clear S;intro a S;refine sa S ?_;clear S;intro b9 a w S;refine sw S ?_;clear S;intro a w S;refine kN (xtn (kS (kR ?_)));(iterate 3 (refine sq S ?_;clear S;intro a S))
 rw[hxd,hyd,List.map_cons,List.map_cons,sameLF]at hrel
 refine sr S (hS x y w (hN x hxm) (S.mem.fact0 (LtF x)) (S.mem.fact0 (LtF y))) ?_;clear S;rintro v a w rfl S;refine sq S ?_;clear S;intro a S;refine kN (xtn ?_)
 refine kC S (fun h7=>?_) (fun h7=>?_)
 refine kS (kR (sq S ?_));clear S;intro a S;refine kN (xtn (kT (xbr (xtr (xtr (xbr (xtr ?_)))))))
 refine end1 S (fun _=>?_)
 have h8:sameF x.t y.t=false:=by simpa using h7
 simp[←hrel,h8]
 refine kK (xbn (xtn (kR ?_)));(iterate 2 (refine sq S ?_;clear S;intro a S));refine kN (xtn ?_)
 have h8:sameF x.t y.t=true:=by simpa using h7
 rw[h8,Bool.true_and]at hrel
 replace S:=S.sub [] [LsF p 0 xs,LsF q 0 ys]
 rw[w64 ((k:Int)+1) (by omega) (by omega)]at S
 exact ⟨k+1,⟨hkl,hrel,S.uu,S⟩,by omega⟩
 refine kE (xte (xte (xbe (xtn (kS (kR (sq S ?_)))))));clear S;intro a S;refine kN (xtn (kT ?_))
 refine end1 S (fun _=>?_)
 have h6:n≤k:=by simpa using h4
 rw[List.drop_of_length_le (by omega),List.drop_of_length_le (by omega)]at hrel
 simp[←hrel,sameLF]
theorem same_all:∀ N,SameC N:=by
 intro N
 induction N with
 | zero=>intro x y w h;cases x;simp at h
 | succ N ih=>
 intro x y w0 hN hx hy
 have e1:=x.t_eq
 have e2:=y.t_eq
 have hq:∀ {bs fs} [HasT fs x] [HasT fs y],CallV Tryz.prog 159 [.slice x.p x.kids.length x.cap,.slice y.p y.kids.length y.cap,.func (.func 61) #[] #[]] bs fs (.bool (sameLF (x.kids.map LTerm.t) (y.kids.map LTerm.t))):=
  ⟨fun w m=>equal_c N ih x.p y.p x.cap y.cap _ _ x.kids y.kids rfl rfl w (LTerm.len_le hx) (fun z hz=>by have:=LTerm.kid_lt hz;omega) (ls_of_lt (m.t0 _)) (ls_of_lt (m.t0 _))⟩
 refine enter Tryz.func61 rfl rfl (Wd.begin (fs:=[LtF x,LtF y]) (by simp;exact ⟨hx,hy⟩)) (fun a S=>?_)
 simp only[Tryz.ntmps61,qqA,qqB,Nat.reduceAdd,Nat.reduceSub,qqC,qqD,qqE,qqF]at S
 refine kS (kR ?_);refine sa S ?_;clear S;intro b2 a w S;refine sa S ?_;clear S;intro b3 a w S;refine sq S ?_;clear S;intro a S;refine kN (xtn (kS (kR ?_)));(iterate 6 (refine sq S ?_;clear S;intro a S));(iterate 5 (refine gQ S ?_;clear S;intro a S));(iterate 2 (refine sq S ?_;clear S;intro a S));(iterate 5 (refine gQ S ?_;clear S;intro a S));(iterate 2 (refine sq S ?_;clear S;intro a S));(iterate 5 (refine gQ S ?_;clear S;intro a S));(iterate 2 (refine sq S ?_;clear S;intro a S));(iterate 4 (refine gQ S ?_;clear S;intro a S));refine gC S ?_;clear S;intro a w S;(iterate 2 (refine sq S ?_;clear S;intro a S));refine kN (xtn (kT ?_))
 refine end1 S (fun _=>?_)
 rw[e1,e2,sameF]
theorem same_c (x y:LTerm) (w:World) (hx:Stable (fun _=>False) w (LtF x)) (hy:Stable (fun _=>False) w (LtF y)):Ret Tryz.prog 61 [vL x,vL y] w (fun _=>False) fun v _=>v=.bool (sameF x.t y.t):=same_all _ x y w (Nat.le_refl _) hx hy
def rKids (k:Int):Int:=if k < 1∨8 < k then -1 else if k≤3 then 0 else if k=4∨k=6 then 2 else 1
theorem rkids_c (k:Int) (w:World):Ret Tryz.prog 179 [.int .i64 k] w (fun _=>False) fun v _=>v=.int .i64 (rKids k):=by
 refine enter Tryz.func179 rfl rfl (Wd.start w) (fun a S=>?_)
 simp only[Tryz.ntmps179,qqA,qqB,Nat.reduceAdd,Nat.reduceSub,qqC,qqD,qqE,qqF]at S
 refine kS (kR (sq S ?_));clear S;intro a S;refine kN (xtn (kS (kS (kR ?_))));(iterate 3 (refine sq S ?_;clear S;intro a S));(iterate 2 (refine gQ S ?_;clear S;intro a S));refine sq S ?_;clear S;intro a S;refine kN (xtn ?_)
 refine kC S (fun h1=>?_) (fun h1=>?_)
 ·refine kS (kR (sq S ?_));clear S;intro a S;refine kN (xtn (kT (xtr ?_)))
  refine end1 S (fun _=>?_)
  clear S;congr 1;unfold rKids;simp at *
  (repeat' split) <;> omega
 ·refine kK (xtn (kS (kS (kR ?_))));(iterate 2 (refine sq S ?_;clear S;intro a S));refine kN (xtn ?_)
  refine kC S (fun h3=>?_) (fun h3=>?_)
  ·refine kS (kR (sq S ?_));clear S;intro a S;refine kN (xtn (kT (xtr ?_)))
   refine end1 S (fun _=>?_)
   clear S;congr 1;unfold rKids;simp at *
   (repeat' split) <;> omega
  ·refine kK (xtn (kS (kS (kR ?_))));(iterate 3 (refine sq S ?_;clear S;intro a S));(iterate 2 (refine gQ S ?_;clear S;intro a S));refine sq S ?_;clear S;intro a S;refine kN (xtn ?_)
   refine kC S (fun h5=>?_) (fun h5=>?_)
   ·refine kS (kR (sq S ?_));clear S;intro a S;refine kN (xtn (kT (xtr ?_)))
    refine end1 S (fun _=>?_)
    clear S;congr 1;unfold rKids;simp at *
    (repeat' split) <;> omega
   ·refine kK (xtn (kS (kR (sq S ?_))));clear S;intro a S;refine kN (xtn (kT ?_))
    refine end1 S (fun _=>?_)
    clear S;congr 1;unfold rKids;simp at *
    (repeat' split) <;> omega
instance {k:Int} {bs fs} : CallV Tryz.prog 179 [.int .i64 k] bs fs (.int .i64 (rKids k)):=⟨fun w _=>rkids_c k w⟩
def rUser (k:Int):Bool:=decide (k=2)||decide (k=3)||decide (k=7)||decide (k=8)
theorem ruser_c (k:Int) (w:World):Ret Tryz.prog 180 [.int .i64 k] w (fun _=>False) fun v _=>v=.bool (rUser k):=by
 refine enter Tryz.func180 rfl rfl (Wd.start w) (fun a S=>?_)
 simp only[Tryz.ntmps180,qqA,qqB,Nat.reduceAdd,Nat.reduceSub,qqC,qqD,qqE,qqF]at S
 refine kS (kR (sq S ?_));clear S;intro a S;refine kN (xtn (kS (kR ?_)));(iterate 3 (refine sq S ?_;clear S;intro a S));(iterate 2 (refine gQ S ?_;clear S;intro a S));(iterate 2 (refine sq S ?_;clear S;intro a S));(iterate 2 (refine gQ S ?_;clear S;intro a S));(iterate 2 (refine sq S ?_;clear S;intro a S));(iterate 2 (refine gQ S ?_;clear S;intro a S));(iterate 2 (refine sq S ?_;clear S;intro a S));refine kN (xtn (kT ?_))
 refine end1 S (fun _=>?_)
 rfl
instance {k:Int} {bs fs} : CallV Tryz.prog 180 [.int .i64 k] bs fs (.bool (rUser k)):=⟨fun w _=>ruser_c k w⟩
def rNum (k:Int):Bool:=decide (k=2)||decide (k=8)
theorem rnum_c (k:Int) (w:World):Ret Tryz.prog 181 [.int .i64 k] w (fun _=>False) fun v _=>v=.bool (rNum k):=by
 refine enter Tryz.func181 rfl rfl (Wd.start w) (fun a S=>?_)
 simp only[Tryz.ntmps181,qqA,qqB,Nat.reduceAdd,Nat.reduceSub,qqC,qqD,qqE,qqF]at S
 refine kS (kR (sq S ?_));clear S;intro a S;refine kN (xtn (kS (kR ?_)));(iterate 3 (refine sq S ?_;clear S;intro a S));(iterate 2 (refine gQ S ?_;clear S;intro a S));(iterate 2 (refine sq S ?_;clear S;intro a S));refine kN (xtn (kT ?_))
 refine end1 S (fun _=>?_)
 rfl
instance {k:Int} {bs fs} : CallV Tryz.prog 181 [.int .i64 k] bs fs (.bool (rNum k)):=⟨fun w _=>rnum_c k w⟩
def rOne (k u n:Int) (s:List UInt8) (m:Nat):Bool:=
 !(decide (rKids k < 0)||!decide ((m:Int)=rKids k)||decide (64 < (s.length:Int))||(!decide (k=1)&&!decide (s=[])))&&
 !(rUser k&&(decide (u < 1)||decide (6 < u))||!rUser k&&!decide (u=0))&&
 (decide (n=0)||rNum k&&decide (0 < n)&&decide (n≤65535))
theorem rone_c (t:LTerm) (w:World):Ret Tryz.prog 265 [vL t] w (fun _=>False) fun v _=>v=.bool (rOne t.kind t.user t.num t.text t.kids.length):=by
 refine enter Tryz.func265 rfl rfl (Wd.start w) (fun a S=>?_)
 simp only[Tryz.ntmps265,qqA,qqB,Nat.reduceAdd,Nat.reduceSub,qqC,qqD,qqE,qqF]at S
 refine kS (kR ?_);refine sa S ?_;clear S;intro b1 a w S;refine sq S ?_;clear S;intro a S;refine kN (xtn (kS (kS ?_)));refine c_drawD [(0,true),(1,true),(2,false),(3,true),(4,true),(5,true),(6,true),(7,true),(8,true),(9,true),(10,false),(11,true),(12,true),(13,true),(14,true),(15,true),(16,true),(17,true),(18,true),(19,true),(20,true),(21,true),(22,true),(23,true),(24,true),(25,true),(26,true),(27,true),(28,true)] [] S ?_;clear S;intro w S
 (iterate 2 (refine dq S ?_;clear S;intro a S));refine dl (sc S ?_);clear S;intro a w S;refine de S ?_;(iterate 2 (refine dq S ?_;clear S;intro a S));(iterate 5 (refine dqG S ?_;clear S;intro a S));refine dl ?_;refine gC S ?_;clear S;intro a w S;refine de S ?_;refine dqG S ?_;clear S;intro a S;(iterate 2 (refine dq S ?_;clear S;intro a S));(iterate 4 (refine dqG S ?_;clear S;intro a S));(iterate 2 (refine dq S ?_;clear S;intro a S));(iterate 8 (refine dqG S ?_;clear S;intro a S));refine dq S ?_;clear S;intro a S;refine dn (xtn ?_)
 refine kC S (fun h1=>?_) (fun h1=>?_)
 refine kS (kR (sq S ?_));clear S;intro a S;refine kN (xtn (kT (xtr ?_)))
 refine end1 S (fun _=>?_)
 simp only[rOne,h1];rfl
 refine kK (xtn (kS (kS (kR ?_))));(iterate 2 (refine sq S ?_;clear S;intro a S));refine sc S ?_;clear S;intro a w S;refine sq S ?_;clear S;intro a S;(iterate 8 (refine gQ S ?_;clear S;intro a S));(iterate 2 (refine sq S ?_;clear S;intro a S));(iterate 2 (refine gQ S ?_;clear S;intro a S));refine gC S ?_;clear S;intro a w S;(iterate 6 (refine gQ S ?_;clear S;intro a S));refine sq S ?_;clear S;intro a S;refine kN (xtn ?_)
 refine kC S (fun h3=>?_) (fun h3=>?_)
 refine kS (kR (sq S ?_));clear S;intro a S;refine kN (xtn (kT (xtr ?_)))
 refine end1 S (fun _=>?_)
 simp only[rOne,h3];simp
 refine kK (xtn (kS (kR ?_)));(iterate 4 (refine sq S ?_;clear S;intro a S));(iterate 2 (refine gQ S ?_;clear S;intro a S));refine gC S ?_;clear S;intro a w S;(iterate 10 (refine gQ S ?_;clear S;intro a S));(iterate 2 (refine sq S ?_;clear S;intro a S));refine kN (xtn (kT ?_))
 refine end1 S (fun _=>?_)
 simp only[rOne,h1,h3];simp
instance {t:LTerm} {bs fs} : CallV Tryz.prog 265 [vL t] bs fs (.bool (rOne t.kind t.user t.num t.text t.kids.length)):=⟨fun w _=>rone_c t w⟩
mutual
def rSize:Term→Int→Int→Int × Bool
 | .mk k u n s kids,most,deep=>if most < 1∨deep < 1∨rOne k u n s kids.length=false then (0,false) else rSizeL kids most deep 1
def rSizeL:List Term→Int→Int→Int→Int × Bool
 | [],_,_,n=>(n,true)
 | t::ts,most,deep,n=>if (rSize t (most - n) (deep - 1)).2 then rSizeL ts most deep (n+(rSize t (most - n) (deep - 1)).1) else (0,false)
end
mutual
theorem rSize_le:∀ (t:Term) (most deep:Int),(rSize t most deep).2=true→1≤(rSize t most deep).1∧(rSize t most deep).1≤most
 | .mk k u n s kids,most,deep=>by
  intro h
  rw[rSize]at h⊢
  split at h
  simp at h
  rename_i hc
  rw[if_neg hc]
  exact rSizeL_le kids most deep 1 (by omega) (by omega) h
theorem rSizeL_le:∀ (ts:List Term) (most deep n:Int),1≤n→n≤most→(rSizeL ts most deep n).2=true→1≤(rSizeL ts most deep n).1∧(rSizeL ts most deep n).1≤most
 | [],most,deep,n=>by intro h1 h2 _;simp[rSizeL];omega
 | t::ts,most,deep,n=>by
  intro h1 h2 h
  rw[rSizeL]at h⊢
  split at h
  rename_i hc
  rw[if_pos hc]
  have:=rSize_le t (most - n) (deep - 1) hc
  exact rSizeL_le ts most deep _ (by omega) (by omega) h
  simp at h
end
theorem rsize_c (N:Nat):∀ (t:LTerm) (most deep:Int) (w0:World),SizeOf.sizeOf t≤N→most≤1200→-1200≤most→deep≤60→-60≤deep→Stable (fun _=>False) w0 (LtF t)→
  Ret Tryz.prog 241 [vL t,.int .i64 most,.int .i64 deep] w0 (fun _=>False) fun v _=>v=.tuple ⟨[.int .i64 (rSize t.t most deep).1,.bool (rSize t.t most deep).2]⟩:=by
 induction N with
 | zero=>intro t _ _ _ h;cases t;simp at h
 | succ N ih=>
 intro t most deep w0 hN hm hm' hd hd' hf
 have e0:=t.t_eq
 have hlen:=LTerm.len_le hf
 refine enter Tryz.func241 rfl rfl (Wd.begin (fs:=[LtF t]) (by simpa using hf)) (fun a S=>?_)
 simp only[Tryz.ntmps241,qqA,qqB,Nat.reduceAdd,Nat.reduceSub,qqC,qqD,qqE,qqF]at S
 refine kS (kR ?_);refine sa S ?_;clear S;intro b3 a w S;(iterate 2 (refine sq S ?_;clear S;intro a S));refine kN (xtn (kS (kS (kR ?_))));(iterate 3 (refine sq S ?_;clear S;intro a S));(iterate 2 (refine gQ S ?_;clear S;intro a S));(iterate 2 (refine sq S ?_;clear S;intro a S));refine gQ S ?_;clear S;intro a S;refine gC S ?_;clear S;intro a w S;refine gQ S ?_;clear S;intro a S;refine sq S ?_;clear S;intro a S;refine kN (xtn ?_)
 refine kC S (fun h1=>?_) (fun h1=>?_)
 ·refine kS (kR ?_);(iterate 2 (refine sq S ?_;clear S;intro a S));refine kN (xtn (kT (xtr ?_)))
  refine end2 S (fun _=>?_)
  have h3:most < 1∨deep < 1∨rOne t.kind t.user t.num t.text t.kids.length=false:=by simpa [or_assoc] using h1
  rw[e0,rSize,if_pos (by simpa using h3)]
 ·refine kK (xtn (kS (kR (sq S ?_))));clear S;intro a S;refine kN (xtn (kS (kS (kR (sq S ?_)))));clear S;intro a S;refine kN (xtn (kB ?_))
  have h3:¬(most < 1∨deep < 1∨rOne t.kind t.user t.num t.text t.kids.length=false):=by simpa [and_assoc] using h1
  have h4:1≤most∧1≤deep:=by omega
  refine c_loop (ι:=Nat) (fun k a w=>k≤t.kids.length∧∃ n:Int,1≤n∧n≤most∧rSizeL ((t.kids.drop k).map LTerm.t) most deep n=rSize t.t most deep∧∃ uu:Nat→Value,St w0 (fun _=>False) [] a w ((vL t)::(.int .i64 most)::(.int .i64 deep)::(.pointer (some ⟨b3,0,none⟩))::uu 4::uu 5::(.int .i64 0)::(.bool false)::(.int .i64 n)::(.int .i64 (k:Nat))::uu 10::uu 11::uu 12::uu 13::uu 14::uu 15::uu 16::uu 17::uu 18::uu 19::uu 20::uu 21::uu 22::uu 23::uu 24::uu 25::uu 26::uu 27::uu 28::uu 29::uu 30::uu 31::uu 32::uu 33::uu 34::uu 35::uu 36::uu 37::uu 38::uu 39::uu 40::uu 41::uu 42::uu 43::uu 44::uu 45::uu 46::uu 47::uu 48::uu 49::[]) [box b3 43 t.cells] [LtF t]) (fun k=>t.kids.length - k) 0 ?_ ?_
  ·refine ⟨Nat.zero_le _,1,by omega,by omega,?_,S.uu,S⟩
   rw[e0,rSize,if_neg (by simpa using h3)];rfl
  ·clear S
   rintro k a w ⟨hk,n,hn1,hn2,hrel,uu,S⟩
   refine kS (kS (kR ?_));(iterate 5 (refine sq S ?_;clear S;intro a S));refine kN (xtn ?_)
   refine kC S (fun h5=>?_) (fun h5=>?_)
   ·refine kK (xtn (kS (kB (kS (kR ?_)))))
    have hkl:k < t.kids.length:=by simpa using h5
    have hK:KLt k t.kids.length:=⟨hkl⟩
    (iterate 8 (refine sq S ?_;clear S;intro a S))
    rw[w64 (most - n) (by omega) (by omega)]at S
    (iterate 2 (refine sq S ?_;clear S;intro a S))
    rw[w64 (deep - 1) (by omega) (by omega)]at S
    rw[nth_drop hkl,List.map_cons,rSizeL]at hrel
    refine sr S (ih (nthL t.kids k) (most - n) (deep - 1) w (by have:=LTerm.kid_lt (nth_mem hkl);omega) (by omega) (by omega) (by omega) (by omega) (S.t0 _)) ?_;clear S;rintro _ a w rfl S
    (iterate 5 (refine sq S ?_;clear S;intro a S));refine kN (xtn (kS (kS (kR ?_))));(iterate 2 (refine sq S ?_;clear S;intro a S));refine kN (xtn ?_)
    refine kC S (fun h8=>?_) (fun h8=>?_)
    ·refine kS (kR ?_);(iterate 2 (refine sq S ?_;clear S;intro a S));refine kN (xtn (kT (xtr (xbr (xtr (xtr (xbr (xtr ?_))))))))
     refine end2 S (fun _=>?_)
     have h9:(rSize (nthL t.kids k).t (most - n) (deep - 1)).2=false:=by simpa using h8
     rw[if_neg (by simp[h9])]at hrel
     rw[←hrel]
    ·refine kK (xtn (kR ?_));(iterate 2 (refine sq S ?_;clear S;intro a S))
     have h9:(rSize (nthL t.kids k).t (most - n) (deep - 1)).2=true:=by simpa using h8
     have h10:=rSize_le _ _ _ h9
     rw[if_pos h9]at hrel
     refine sq S ?_;clear S;intro a S
     rw[w64 (n+(rSize (nthL t.kids k).t (most - n) (deep - 1)).1) (by omega) (by omega)]at S
     refine sq S ?_;clear S;intro a S;refine kN (xbn (xtn (kR ?_)));(iterate 3 (refine sq S ?_;clear S;intro a S));refine kN (xtn ?_)
     rw[w64 ((k:Int)+1) (by omega) (by omega)]at S
     exact ⟨k+1,⟨hkl,_,by omega,by omega,hrel,S.uu,S⟩,by omega⟩
   ·refine kE (xte (xte (xbe (xtn (kS (kR ?_))))));(iterate 3 (refine sq S ?_;clear S;intro a S));refine kN (xtn (kT ?_))
    refine end2 S (fun _=>?_)
    have h6:t.kids.length≤k:=by simpa using h5
    rw[List.drop_of_length_le h6,List.map_nil,rSizeL]at hrel
    rw[←hrel]
def rightF (t:Term):Bool:=(rSize t 1200 60).2
theorem right_c (t:LTerm) (w0:World) (hf:Stable (fun _=>False) w0 (LtF t)):Ret Tryz.prog 182 [vL t] w0 (fun _=>False) fun v _=>v=.bool (rightF t.t):=by
 refine enter Tryz.func182 rfl rfl (Wd.begin (fs:=[LtF t]) (by simpa using hf)) (fun a S=>?_)
 simp only[Tryz.ntmps182,qqA,qqB,Nat.reduceAdd,Nat.reduceSub,qqC,qqD,qqE,qqF]at S
 refine kS (kR ?_);refine sa S ?_;clear S;intro b1 a w S;refine sq S ?_;clear S;intro a S;refine kN (xtn (kS (kR (sq S ?_))));clear S;intro a S
 refine sr S (rsize_c _ t 1200 60 w (Nat.le_refl _) (by omega) (by omega) (by omega) (by omega) (S.t0 _)) ?_;clear S;rintro _ a w rfl S
 (iterate 5 (refine sq S ?_;clear S;intro a S));refine kN (xtn (kS (kR ?_)));(iterate 2 (refine sq S ?_;clear S;intro a S));refine kN (xtn (kT ?_))
 refine end1 S (fun _=>?_)
 rfl
instance {t:LTerm} {bs fs} [HasT fs t]:CallV Tryz.prog 182 [vL t] bs fs (.bool (rightF t.t)):=⟨fun w m=>right_c t w (m.t0 _)⟩
theorem plain_one (k u n : Int) (s : List UInt8) (m : Nat) : plainF k u n s m = rOne k u n s m := by
  by_cases hk : 1 ≤ k ∧ k ≤ 8
  · obtain ⟨h1, h2⟩ := hk
    have hk8 : k = 1 ∨ k = 2 ∨ k = 3 ∨ k = 4 ∨ k = 5 ∨ k = 6 ∨ k = 7 ∨ k = 8 := by omega
    rcases hk8 with rfl | rfl | rfl | rfl | rfl | rfl | rfl | rfl <;>
      (simp only [plainF, rOne, show fieldsOf 1 = 1 from rfl, show fieldsOf 2 = 6 from rfl, show fieldsOf 3 = 2 from rfl, show fieldsOf 4 = 16 from rfl, show fieldsOf 5 = 8 from rfl, show fieldsOf 6 = 16 from rfl, show fieldsOf 7 = 10 from rfl, show fieldsOf 8 = 14 from rfl,
        show kidsF 1 = 0 from by decide, show kidsF 6 = 0 from by decide, show kidsF 2 = 0 from by decide, show kidsF 16 = 2 from by decide, show kidsF 8 = 1 from by decide, show kidsF 10 = 1 from by decide, show kidsF 14 = 1 from by decide,
        show rKids 1 = 0 from rfl, show rKids 2 = 0 from rfl, show rKids 3 = 0 from rfl, show rKids 4 = 2 from rfl, show rKids 5 = 1 from rfl, show rKids 6 = 2 from rfl, show rKids 7 = 1 from rfl, show rKids 8 = 1 from rfl,
        show hasF 1 1 = true from by decide, show hasF 1 2 = false from by decide, show hasF 1 4 = false from by decide,
        show hasF 6 1 = false from by decide, show hasF 6 2 = true from by decide, show hasF 6 4 = true from by decide,
        show hasF 2 1 = false from by decide, show hasF 2 2 = true from by decide, show hasF 2 4 = false from by decide,
        show hasF 16 1 = false from by decide, show hasF 16 2 = false from by decide, show hasF 16 4 = false from by decide,
        show hasF 8 1 = false from by decide, show hasF 8 2 = false from by decide, show hasF 8 4 = false from by decide,
        show hasF 10 1 = false from by decide, show hasF 10 2 = true from by decide, show hasF 10 4 = false from by decide,
        show hasF 14 1 = false from by decide, show hasF 14 2 = true from by decide, show hasF 14 4 = true from by decide,
        show rUser 1 = false from rfl, show rUser 2 = true from rfl, show rUser 3 = true from rfl, show rUser 4 = false from rfl, show rUser 5 = false from rfl, show rUser 6 = false from rfl, show rUser 7 = true from rfl, show rUser 8 = true from rfl,
        show rNum 1 = false from rfl, show rNum 2 = true from rfl, show rNum 3 = false from rfl, show rNum 4 = false from rfl, show rNum 5 = false from rfl, show rNum 6 = false from rfl, show rNum 7 = false from rfl, show rNum 8 = true from rfl, knownF]
       rw [Bool.eq_iff_iff]
       simp
       try omega)
  · have h1 : fieldsOf k = 0 := by
      unfold fieldsOf; (repeat' split) <;> omega
    have h2 : rKids k = -1 := by
      unfold rKids; rw [if_pos]; omega
    simp [plainF, rOne, h1, h2]
mutual
theorem walk_size:∀ (t:Term) (deep left:Int),(walkF t deep left).1=(rSize t left (61 - deep)).2∧((walkF t deep left).1=true→(walkF t deep left).2=left - (rSize t left (61 - deep)).1)
 | .mk k u n s kids,deep,left=>by
  rw[walkF,rSize,plain_one]
  have e:(left - 1 < 0∨60 < deep∨rOne k u n s kids.length=false)↔(left < 1∨61 - deep < 1∨rOne k u n s kids.length=false):=or_congr (by omega) (or_congr (by omega) Iff.rfl)
  by_cases hc:left - 1 < 0∨60 < deep∨rOne k u n s kids.length=false
  rw[if_pos hc,if_pos (e.1 hc)];simp
  rw[if_neg hc,if_neg (fun h=>hc (e.2 h))]
  have:=walk_sizeL kids (deep+1) left 1
  rw[show 61 - (deep+1)+1=61 - deep from by omega]at this
  exact this
theorem walk_sizeL:∀ (ts:List Term) (deep left n:Int),(walkLF ts deep (left - n)).1=(rSizeL ts left (61 - deep+1) n).2∧((walkLF ts deep (left - n)).1=true→(walkLF ts deep (left - n)).2=left - (rSizeL ts left (61 - deep+1) n).1)
 | [],deep,left,n=>by simp[walkLF,rSizeL]
 | t::ts,deep,left,n=>by
  rw[walkLF,rSizeL]
  have h1:=walk_size t deep (left - n)
  rw[show 61 - deep+1 - 1=61 - deep from by omega]
  cases hb:(rSize t (left - n) (61 - deep)).2 with
  | false=>
   rw[hb]at h1
   simp[h1.1]
  | true=>
   rw[hb]at h1
   rw[if_pos h1.1,if_pos rfl,h1.2 h1.1]
   have h2:=walk_sizeL ts deep left (n+(rSize t (left - n) (61 - deep)).1)
   rw[show left - (n+(rSize t (left - n) (61 - deep)).1)=left - n - (rSize t (left - n) (61 - deep)).1 from by omega]at h2
   exact h2
end
theorem size_ref (t:Term):sizeF t=if rightF t then (rSize t 1200 60).1 else 0:=by
 have:=walk_size t 1 1200
 rw[show (61:Int) - 1=60 from rfl]at this
 unfold sizeF rightF
 rw[this.1]
 split
 rename_i h;rw[this.2 (by rw[this.1];exact h)];omega
 rfl
theorem check_right (t:Term):checkF t=if rightF t then 0 else 150:=by
 have h:=size_ref t
 unfold checkF
 cases hr:rightF t with
 | false=>rw[hr]at h;simp at h;simp[h]
 | true=>
  rw[hr]at h;simp at h
  have:=rSize_le t 1200 60 hr
  rw[if_neg (by omega),if_pos rfl]
theorem check_zero {t:Term} : checkF t=0↔rightF t=true:=by
 rw[check_right];cases rightF t <;> simp
def put1 (k:Int) (s:List UInt8):List UInt8:=if hasF (fieldsOf k) 1 then Wk.u8 s.length::s else []
def put2 (k u:Int):List UInt8:=if hasF (fieldsOf k) 2 then [Wk.u8 u] else []
def put4 (k n:Int):List UInt8:=if hasF (fieldsOf k) 4 then be 2 (IntKind.u16.wrap n) else []
def headF (k u n:Int) (s:List UInt8):List UInt8:=[Wk.u8 k]++put1 k s++put2 k u++put4 k n
mutual
def bytesF:Term→List UInt8
 | .mk k u n s ks=>headF k u n s++bytesLF ks
def bytesLF:List Term→List UInt8
 | []=>[]
 | t::ts=>bytesF t++bytesLF ts
end
theorem wu16_range (n:Int):0≤IntKind.u16.wrap n∧IntKind.u16.wrap n≤65535:=by
 unfold IntKind.wrap
 simp only[IntKind.bits,IntKind.signed,Bool.false_and]
 simp;omega
theorem sl_stable {w:World} {e:TypeId} {sz:Nat} {p:Option Addr} {n c:Nat} {xs:List Value} (h:w.ownsRow 0 e sz (.slice p n c) n xs):Stable (fun _=>False) w (SlF p xs):=(own_sl h).stable fun _ _ h=>h
def Grew (w0 w':World) (p:Option Addr) (b:List UInt8) (v:Value):Prop:=∃ p' c',v=.slice p' b.length c'∧w'.ownsRow 0 5 1 (.slice p' b.length c') b.length (encL b)∧∀ ad,p'=some ad→(∃ ad',p=some ad'∧ad.block=ad'.block)∨w0.heap.size≤ad.block
theorem put_c (N:Nat):∀ (t:LTerm) (p:Option Addr) (n c:Nat) (b:List UInt8) (w0:World),SizeOf.sizeOf t≤N→b.length=n→n+(bytesF t.t).length≤1073741824→w0.ownsRow 0 5 1 (.slice p n c) n (encL b)→Stable (fun k=>∃ ad,p=some ad∧k=ad.block) w0 (LtF t)→
  Ret Tryz.prog 163 [.slice p n c,vL t] w0 (fun k=>∃ ad,p=some ad∧k=ad.block) fun v w'=>Grew w0 w' p (b++bytesF t.t) v:=by
 induction N with
 | zero=>intro t _ _ _ _ _ h;cases t;simp at h
 | succ N ih=>
 intro t p n c b w0 hN hbn hbd hown hf
 have hlen:=LTerm.len_le hf
 have e0:bytesF t.t=headF t.kind t.user t.num t.text++bytesLF (t.kids.map LTerm.t):=by rw[t.t_eq,bytesF]
 have hL:n+(1+(put1 t.kind t.text).length+(put2 t.kind t.user).length+(put4 t.kind t.num).length+(bytesLF (t.kids.map LTerm.t)).length)≤1073741824:=by
  rw[e0]at hbd;simp only[headF,List.length_append,List.length_singleton]at hbd;omega
 refine enter Tryz.func163 rfl rfl (Wd.rowLent (fs:=[LtF t]) hown (by simpa using hf)) (fun a S=>?_)
 simp only[Tryz.ntmps163,qqA,qqB,Nat.reduceAdd,Nat.reduceSub,qqC,qqD,qqE,qqF]at S
 refine kS (kR ?_);refine sa S ?_;clear S;intro b3 a w S;refine sq S ?_;clear S;intro a S;refine kN (xtn (kS (kR ?_)));(iterate 2 (refine sq S ?_;clear S;intro a S));refine sc S ?_;clear S;intro a w S;refine sq S ?_;clear S;intro a S;refine kN (xtn (kS (kR ?_)));(iterate 4 (refine sq S ?_;clear S;intro a S));refine sn S ?_;clear S;intro b15 a w S
 refine sap S (by simp only[maxLen];omega) (by omega) ?_;clear S;intro p1 c1 a w _ S
 rw[show encL b++[Value.int .u8 (IntKind.u8.wrap t.kind)]=encL (b++([Wk.u8 t.kind])) from by rw[encL_append,u8_wrap];rfl]at S
 refine sq S ?_;clear S;intro a S;refine kN (xtn ?_)
 have hm1:n+1=(b++([Wk.u8 t.kind])).length:=by rw[List.length_append,hbn];rfl
 generalize n+1=m1 at S hm1
 refine c_merge (fun a w=>∃ (p':Option Addr) (c' m:Nat),m=(b++([Wk.u8 t.kind]++put1 t.kind t.text)).length∧∃ uu:Nat→Value,St w0 (fun k=>∃ ad,p=some ad∧k=ad.block) [] a w ((.slice p' m c')::(vL t)::uu 2::(.pointer (some ⟨b3,0,none⟩))::(.slice none 0 0)::(.int .i64 (fieldsOf t.kind))::uu 6::uu 7::uu 8::uu 9::uu 10::uu 11::uu 12::uu 13::uu 14::uu 15::uu 16::uu 17::uu 18::uu 19::uu 20::uu 21::uu 22::uu 23::uu 24::uu 25::uu 26::uu 27::uu 28::uu 29::uu 30::uu 31::uu 32::uu 33::uu 34::uu 35::uu 36::uu 37::uu 38::uu 39::uu 40::uu 41::uu 42::uu 43::uu 44::uu 45::uu 46::uu 47::uu 48::uu 49::uu 50::uu 51::uu 52::uu 53::uu 54::uu 55::[]) [box b3 43 t.cells,row 5 1 p' m c' (encL (b++([Wk.u8 t.kind]++put1 t.kind t.text)))] [LtF t]) ?_ ?_
 ·refine kS (kR (sq S ?_));clear S;intro a S;refine sc S ?_;clear S;intro a w S;refine kN (xtn ?_)
  refine kC S (fun h3=>?_) (fun h3=>?_)
  ·refine c_drawE [(0,true),(1,true),(2,true),(3,true),(4,true),(7,true),(8,true),(5,false),(6,false),(9,false),(10,true)] [box b3 43 t.cells] S ?_;clear S;intro w S;(iterate 7 (refine dq S ?_;clear S;intro a S));refine dl (sn S ?_);clear S;intro b24 a w S;refine de S ?_;refine dl ?_
   have h3':hasF (fieldsOf t.kind) 1=true:=h3
   have e1:put1 t.kind t.text=Wk.u8 t.text.length::t.text:=by rw[put1,if_pos h3']
   have hl1:(put1 t.kind t.text).length=t.text.length+1:=by rw[e1];rfl
   have hm2:m1=n+1:=by rw[hm1,List.length_append,hbn];rfl
   refine sap S (by simp only[maxLen];omega) (by omega) ?_;clear S;intro p2 c2 a w _ S
   refine de S ?_;refine dl ?_
   refine sap S (by simp only[maxLen];omega) (by omega) ?_;clear S;intro p3 c3 a w _ S
   rw[show encL (b++([Wk.u8 t.kind]))++[Value.int .u8 (IntKind.u8.wrap (t.text.length:Int))]++encL t.text=encL (b++([Wk.u8 t.kind]++put1 t.kind t.text)) from by rw[e1,u8_wrap];simp[encL,Enc.cells]]at S
   refine de S ?_;refine dq S ?_;clear S;intro a S;refine dn (xtn ?_)
   replace S:=S.sub [box b3 43 t.cells,row 5 1 p3 (m1+1+t.text.length) c3 (encL (b++([Wk.u8 t.kind]++put1 t.kind t.text)))] [LtF t]
   exact ⟨p3,c3,_,by rw[hm2,List.length_append,List.length_append,hl1,hbn];simp;omega,S.uu,S⟩
  ·refine kK (xtn ?_)
   have h3':¬hasF (fieldsOf t.kind) 1=true:=by simpa using h3
   have e1:put1 t.kind t.text=[]:=by rw[put1,if_neg h3']
   rw[show b++([Wk.u8 t.kind])=b++([Wk.u8 t.kind]++put1 t.kind t.text) from by rw[e1,List.append_nil]]at S hm1
   replace S:=S.sub [box b3 43 t.cells,row 5 1 p1 m1 c1 (encL (b++([Wk.u8 t.kind]++put1 t.kind t.text)))] [LtF t]
   exact ⟨p1,c1,m1,hm1,S.uu,S⟩
 ·clear S;rintro a w ⟨p',c',m,hm,uu,S⟩
  have hlm:m=n+1+(put1 t.kind t.text).length:=by rw[hm];simp[hbn];omega
  refine c_merge (fun a w=>∃ (p':Option Addr) (c' m:Nat),m=(b++([Wk.u8 t.kind]++put1 t.kind t.text++put2 t.kind t.user)).length∧∃ uu:Nat→Value,St w0 (fun k=>∃ ad,p=some ad∧k=ad.block) [] a w ((.slice p' m c')::(vL t)::uu 2::(.pointer (some ⟨b3,0,none⟩))::(.slice none 0 0)::(.int .i64 (fieldsOf t.kind))::uu 6::uu 7::uu 8::uu 9::uu 10::uu 11::uu 12::uu 13::uu 14::uu 15::uu 16::uu 17::uu 18::uu 19::uu 20::uu 21::uu 22::uu 23::uu 24::uu 25::uu 26::uu 27::uu 28::uu 29::uu 30::uu 31::uu 32::uu 33::uu 34::uu 35::uu 36::uu 37::uu 38::uu 39::uu 40::uu 41::uu 42::uu 43::uu 44::uu 45::uu 46::uu 47::uu 48::uu 49::uu 50::uu 51::uu 52::uu 53::uu 54::uu 55::[]) [box b3 43 t.cells,row 5 1 p' m c' (encL (b++([Wk.u8 t.kind]++put1 t.kind t.text++put2 t.kind t.user)))] [LtF t]) ?_ ?_
  ·refine kS (kR (sq S ?_));clear S;intro a S;refine sc S ?_;clear S;intro a w S;refine kN (xtn ?_)
   refine kC S (fun h5=>?_) (fun h5=>?_)
   ·refine kR ?_;(iterate 4 (refine sq S ?_;clear S;intro a S))
    have h5':hasF (fieldsOf t.kind) 2=true:=h5
    have e2:put2 t.kind t.user=[Wk.u8 t.user]:=by rw[put2,if_pos h5']
    have hl2:(put2 t.kind t.user).length=1:=by rw[e2];rfl
    refine sn S ?_;clear S;intro b35 a w S
    refine sap S (by simp only[maxLen];omega) (by omega) ?_;clear S;intro p2 c2 a w _ S
    rw[show encL (b++([Wk.u8 t.kind]++put1 t.kind t.text))++[Value.int .u8 (IntKind.u8.wrap t.user)]=encL (b++([Wk.u8 t.kind]++put1 t.kind t.text++put2 t.kind t.user)) from by rw[e2,u8_wrap];simp[encL,Enc.cells]]at S
    refine sq S ?_;clear S;intro a S;refine kN (xtn ?_)
    replace S:=S.sub [box b3 43 t.cells,row 5 1 p2 (m+1) c2 (encL (b++([Wk.u8 t.kind]++put1 t.kind t.text++put2 t.kind t.user)))] [LtF t]
    exact ⟨p2,c2,_,by rw[hm];simp[hl2];omega,S.uu,S⟩
   ·refine kK (xtn ?_)
    have h5':¬hasF (fieldsOf t.kind) 2=true:=by simpa using h5
    have e2:put2 t.kind t.user=[]:=by rw[put2,if_neg h5']
    rw[show b++([Wk.u8 t.kind]++put1 t.kind t.text)=b++([Wk.u8 t.kind]++put1 t.kind t.text++put2 t.kind t.user) from by rw[e2,List.append_nil]]at S hm
    exact ⟨p',c',m,hm,S.uu,S⟩
  ·clear S;clear hlm hm;clear m;rintro a w ⟨p',c',m,hm,uu,S⟩
   have hlm:m=n+1+(put1 t.kind t.text).length+(put2 t.kind t.user).length:=by rw[hm];simp[hbn];omega
   refine c_merge (fun a w=>∃ (p':Option Addr) (c' m:Nat),m=(b++(headF t.kind t.user t.num t.text)).length∧∃ uu:Nat→Value,St w0 (fun k=>∃ ad,p=some ad∧k=ad.block) [] a w ((.slice p' m c')::(vL t)::uu 2::(.pointer (some ⟨b3,0,none⟩))::(.slice none 0 0)::(.int .i64 (fieldsOf t.kind))::uu 6::uu 7::uu 8::uu 9::uu 10::uu 11::uu 12::uu 13::uu 14::uu 15::uu 16::uu 17::uu 18::uu 19::uu 20::uu 21::uu 22::uu 23::uu 24::uu 25::uu 26::uu 27::uu 28::uu 29::uu 30::uu 31::uu 32::uu 33::uu 34::uu 35::uu 36::uu 37::uu 38::uu 39::uu 40::uu 41::uu 42::uu 43::uu 44::uu 45::uu 46::uu 47::uu 48::uu 49::uu 50::uu 51::uu 52::uu 53::uu 54::uu 55::[]) [box b3 43 t.cells,row 5 1 p' m c' (encL (b++(headF t.kind t.user t.num t.text)))] [LtF t]) ?_ ?_
   ·refine kS (kR (sq S ?_));clear S;intro a S;refine sc S ?_;clear S;intro a w S;refine kN (xtn ?_)
    refine kC S (fun h7=>?_) (fun h7=>?_)
    ·refine kR ?_;(iterate 4 (refine sq S ?_;clear S;intro a S))
     have h7':hasF (fieldsOf t.kind) 4=true:=h7
     have e4:put4 t.kind t.num=be 2 (IntKind.u16.wrap t.num):=by rw[put4,if_pos h7']
     have hwr:=wu16_range t.num
     refine srn S (put16_c p' m c' (b++([Wk.u8 t.kind]++put1 t.kind t.text++put2 t.kind t.user)) (IntKind.u16.wrap t.num) w hm.symm (by omega) hwr.1 hwr.2 (sl_stable (S.row p' m))) ?_;clear S;rintro _ a w ⟨g,rfl,hg,hown2⟩ hS -
     have S:=hS hown2 (fun ad h=>by cases h;exact hg)
     clear hS
     rw[show b++([Wk.u8 t.kind]++put1 t.kind t.text++put2 t.kind t.user)++be 2 (IntKind.u16.wrap t.num)=b++(headF t.kind t.user t.num t.text) from by rw[headF,e4,List.append_assoc]]at S
     refine sq S ?_;clear S;intro a S;refine kN (xtn ?_)
     have S2:St w0 (fun k=>∃ ad,p=some ad∧k=ad.block) [] _ _ _ [box b3 43 t.cells,row 5 1 (some ⟨g,0,none⟩) (m+2) (m+2) (encL (b++(headF t.kind t.user t.num t.text)))] [LtF t]:=S.swap2
     exact ⟨_,_,_,by rw[hm,headF,e4];simp[be];omega,S.uu,S2⟩
    ·refine kK (xtn ?_)
     have h7':¬hasF (fieldsOf t.kind) 4=true:=by simpa using h7
     have e4:put4 t.kind t.num=[]:=by rw[put4,if_neg h7']
     rw[show b++([Wk.u8 t.kind]++put1 t.kind t.text++put2 t.kind t.user)=b++(headF t.kind t.user t.num t.text) from by rw[headF,e4,List.append_nil]]at S hm
     exact ⟨p',c',m,hm,S.uu,S⟩
   ·clear S;clear hlm hm;clear m;rintro a w ⟨p',c',m,hm,uu,S⟩
    refine kS (kS (kR ?_));(iterate 4 (refine sq S ?_;clear S;intro a S));refine kN (xtn (kB ?_))
    refine c_loop (ι:=Nat) (fun k a w=>k≤t.kids.length∧∃ (p':Option Addr) (c' m:Nat) (b':List UInt8),m=b'.length∧b'++bytesLF ((t.kids.drop k).map LTerm.t)=b++bytesF t.t∧∃ uu:Nat→Value,St w0 (fun k=>∃ ad,p=some ad∧k=ad.block) [] a w ((.slice p' m c')::(vL t)::uu 2::(.pointer (some ⟨b3,0,none⟩))::(.slice none 0 0)::(.int .i64 (fieldsOf t.kind))::uu 6::uu 7::uu 8::uu 9::uu 10::uu 11::uu 12::uu 13::uu 14::uu 15::uu 16::uu 17::uu 18::uu 19::uu 20::uu 21::uu 22::uu 23::uu 24::uu 25::uu 26::uu 27::uu 28::uu 29::uu 30::uu 31::uu 32::uu 33::uu 34::uu 35::uu 36::uu 37::uu 38::uu 39::uu 40::uu 41::uu 42::uu 43::uu 44::(.slice t.p t.kids.length t.cap)::(.int .i64 t.kids.length)::(.int .i64 (k:Nat))::uu 48::uu 49::uu 50::uu 51::uu 52::uu 53::uu 54::uu 55::[]) [box b3 43 t.cells,row 5 1 p' m c' (encL b')] [LtF t]) (fun k=>t.kids.length - k) 0 ?_ ?_
    ·exact ⟨Nat.zero_le _,p',c',m,_,hm,by rw[e0,List.append_assoc];rfl,S.uu,S⟩
    ·clear S;clear hm;clear m p' c'
     rintro k a w ⟨hk,p',c',m,b',hm,hrel,uu,S⟩
     refine kS (kR (sq S ?_));clear S;intro a S;refine kN (xtn (kS ?_))
     refine kC S (fun h10=>?_) (fun h10=>?_)
     ·refine kK (xtn (kS (kB (kS (kR ?_)))))
      have hkl:k < t.kids.length:=by simpa using h10
      have hK:KLt k t.kids.length:=⟨hkl⟩
      (iterate 2 (refine sq S ?_;clear S;intro a S));refine sa S ?_;clear S;intro b7 a w S;refine sw S ?_;clear S;intro a w S;refine kN (xtn (kR ?_));(iterate 2 (refine sq S ?_;clear S;intro a S))
      rw[nth_drop hkl,List.map_cons,bytesLF]at hrel
      have hbl:=congrArg List.length hrel
      simp only[List.length_append,hbn]at hbl
      refine srg p' m S (ih (nthL t.kids k) p' m c' b' w (by have:=LTerm.kid_lt (nth_mem hkl);omega) hm.symm (by omega) (S.row p' m) ((S.t _).less fun _ _ hk=>⟨_,HasRow.mem (p:=p') (n:=m),hk⟩)) ?_;clear S;rintro _ a w ⟨p2,c2,rfl,hown2,hnew2⟩ hS
      have S:=hS _ hown2 hnew2
      clear hS
      refine sq S ?_;clear S;intro a S;refine kN (xbn (xtn (kR ?_)));(iterate 2 (refine sq S ?_;clear S;intro a S));refine kN (xtn ?_)
      rw[w64 ((k:Int)+1) (by omega) (by omega)]at S
      replace S:=S.sub [box b3 43 t.cells,row 5 1 p2 (b'++bytesF (nthL t.kids k).t).length c2 (encL (b'++bytesF (nthL t.kids k).t))] [LtF t]
      exact ⟨k+1,⟨hkl,p2,c2,_,_,rfl,by rw[List.append_assoc];exact hrel,S.uu,S⟩,by omega⟩
     ·refine kE (xte (xte (xbe (xtn (kS (kR ?_))))));(iterate 2 (refine sq S ?_;clear S;intro a S));refine kN (xtn (kT ?_))
      have h9:t.kids.length≤k:=by simpa using h10
      rw[List.drop_of_length_le h9,List.map_nil,bytesLF,List.append_nil]at hrel
      subst hrel hm
      have hrow:=S.row p' (b++bytesF t.t).length
      have hnew:=S.rowNew p' (b++bytesF t.t).length
      exact end1 S (fun _=>⟨p',c',rfl,hrow,hnew⟩)
theorem head_le {k u n:Int} {s:List UInt8} {m:Nat} (h:plainF k u n s m=true):(headF k u n s).length≤69:=by
 have h1:s.length≤64:=by
  simp only[plainF,Bool.and_eq_true,decide_eq_true_eq]at h
  omega
 have h2:(put1 k s).length≤65:=by unfold put1;split <;> simp <;> omega
 have h3:(put2 k u).length≤1:=by unfold put2;split <;> simp
 have h4:(put4 k n).length≤2:=by unfold put4;split <;> simp[be]
 simp only[headF,List.length_append,List.length_singleton]
 omega
mutual
theorem bytes_le:∀ (t:Term) (deep left:Int),(walkF t deep left).1=true→((bytesF t).length:Int)≤70*(left - (walkF t deep left).2)
 | .mk k u n s ks,deep,left=>by
  intro h
  rw[walkF]at h⊢
  split at h
  simp at h
  rename_i hc
  rw[if_neg hc]
  have hp:plainF k u n s ks.length=true:=by
   cases hb:plainF k u n s ks.length with
   | true=>rfl
   | false=>exact absurd (.inr (.inr hb)) hc
  have h1:=head_le hp
  have h2:=bytesL_le ks (deep+1) (left - 1) h
  rw[bytesF,List.length_append]
  omega
theorem bytesL_le:∀ (ts:List Term) (deep left:Int),(walkLF ts deep left).1=true→((bytesLF ts).length:Int)≤70*(left - (walkLF ts deep left).2)
 | [],deep,left=>by intro _;simp[bytesLF,walkLF]
 | t::ts,deep,left=>by
  intro h
  rw[walkLF]at h⊢
  split at h
  rename_i hc
  rw[if_pos hc]
  have h1:=bytes_le t deep left hc
  have h2:=bytesL_le ts deep _ h
  rw[bytesLF,List.length_append]
  omega
  simp at h
end
theorem bytes_small {t:Term} (h:sizeF t≠0):(bytesF t).length≤84000:=by
 unfold sizeF at h
 split at h
 rename_i hc
 have h1:=bytes_le t 1 1200 hc
 have h2:=walkF_ge t 1 1200 (by omega) hc
 omega
 exact absurd rfl h
def nameF (t:Term):List UInt8:=if sizeF t=0 then [] else bytesF t
theorem encode_c (t:LTerm) (w0:World) (hf:Stable (fun _=>False) w0 (LtF t)):Ret Tryz.prog 64 [vL t] w0 (fun _=>False) fun v w'=>
  ∃ p c,v=.tuple ⟨[.slice p (nameF t.t).length c,.int .i64 (checkF t.t)]⟩∧w'.ownsRow 0 5 1 (.slice p (nameF t.t).length c) (nameF t.t).length (encL (nameF t.t))∧∀ ad,p=some ad→w0.heap.size≤ad.block:=by
 refine enter Tryz.func64 rfl rfl (Wd.begin (fs:=[LtF t]) (by simpa using hf)) (fun a S=>?_)
 simp only[Tryz.ntmps64,qqA,qqB,Nat.reduceAdd,Nat.reduceSub,qqC,qqD,qqE,qqF]at S
 refine kS (kR ?_);refine sa S ?_;clear S;intro b1 a w S;(iterate 2 (refine sq S ?_;clear S;intro a S));refine kN (xtn (kS (kS (kR (sq S ?_)))));clear S;intro a S;refine sc S ?_;clear S;intro a w S;refine sq S ?_;clear S;intro a S;refine kN (xtn ?_)
 refine kC S (fun h1=>?_) (fun h1=>?_)
 refine kS (kR ?_);(iterate 2 (refine sq S ?_;clear S;intro a S));refine kN (xtn (kT (xtr ?_)))
 have hz:sizeF t.t=0:=by simpa using h1
 have e1:nameF t.t=[]:=by rw[nameF,if_pos hz]
 have e2:checkF t.t=150:=by rw[checkF,if_pos hz]
 refine end2 S (fun _=>?_)
 rw[e1,e2]
 exact ⟨none,0,rfl,World.ownsRow_nil _ _ _ _,fun _ h=>by cases h⟩
 refine kK (xtn (kS (kR (sq S ?_))));clear S;intro a S
 have hz:sizeF t.t≠0:=by simpa using h1
 have hsm:=bytes_small hz
 have e1:nameF t.t=bytesF t.t:=by rw[nameF,if_neg hz]
 have e2:checkF t.t=0:=by rw[checkF,if_neg hz]
 replace S:=S.addNil 5 1
 refine srg none 0 S (put_c _ t none 0 0 [] w (Nat.le_refl _) rfl (by omega) (S.row none 0) ((S.t t).less fun _ _ ⟨_,h,_⟩=>by cases h)) ?_;clear S;rintro _ a w ⟨p2,c2,rfl,hown2,hnew2⟩ hS
 have S:=hS _ hown2 hnew2
 clear hS
 rw[qqF]at S
 (iterate 2 (refine sq S ?_;clear S;intro a S));refine kN (xtn (kT ?_))
 have hrow:=S.row p2 (bytesF t.t).length
 have hnew:=S.rowNew p2 (bytesF t.t).length
 refine end2 S (fun _=>?_)
 rw[e1,e2]
 exact ⟨p2,c2,rfl,hrow,fun ad h=>(hnew ad h).elim (fun h=>h.elim) id⟩
inductive Ok:Term→Prop where
 | mk {k u n:Int} {s:List UInt8} {ks:List Term} (h:plainF k u n s ks.length=true) (hk:∀ t∈ks,Ok t):Ok (.mk k u n s ks)
def Good (t:Term):Prop:=sizeF t≠0
mutual
def cnt:Term→Nat
 | .mk _ _ _ _ ks=>1+cntL ks
def cntL:List Term→Nat
 | []=>0
 | t::ts=>cnt t+cntL ts
end
theorem cnt_pos (t:Term):0 < cnt t:=by cases t;simp[cnt];omega
theorem cntL_mem {t:Term} {ts:List Term} (h:t∈ts):cnt t≤cntL ts:=by
 induction ts with
 | nil=>cases h
 | cons x xs ih=>
  simp only[cntL]
  rcases List.mem_cons.1 h with rfl | h
  ·omega
  ·have:=ih h;omega
mutual
theorem walk_more:∀ (t:Term) (d l d' l':Int),(walkF t d l).1=true→d'≤d→l≤l'→(walkF t d' l').1=true∧(walkF t d' l').2=l' - cnt t
 | .mk k u n s ks,d,l,d',l'=>by
  intro h hd hl
  rw[walkF]at h⊢
  split at h
  cases h
  rename_i hc
  rw[if_neg (fun hn=>hc (hn.elim (fun q=>.inl (by omega)) (fun q=>.inr (q.elim (fun q=>.inl (by omega)) .inr))))]
  obtain ⟨h1,h2⟩:=walkL_more ks (d+1) (l - 1) (d'+1) (l' - 1) h (by omega) (by omega)
  refine ⟨h1,?_⟩
  rw[h2,cnt];omega
theorem walkL_more:∀ (ts:List Term) (d l d' l':Int),(walkLF ts d l).1=true→d'≤d→l≤l'→(walkLF ts d' l').1=true∧(walkLF ts d' l').2=l' - cntL ts
 | [],d,l,d',l'=>by intro _ _ _;simp[walkLF,cntL]
 | t::ts,d,l,d',l'=>by
  intro h hd hl
  rw[walkLF]at h⊢
  split at h
  rename_i hc
  obtain ⟨h1,h2⟩:=walk_more t d l d' l' hc hd hl
  obtain ⟨_,h2'⟩:=walk_more t d l d l hc (Int.le_refl _) (Int.le_refl _)
  rw[if_pos h1]
  obtain ⟨h3,h4⟩:=walkL_more ts d _ d' (walkF t d' l').2 h hd (by omega)
  refine ⟨h3,?_⟩
  rw[h4,h2,cntL];omega
  cases h
end
theorem good_walk {t:Term} : Good t↔(walkF t 1 1200).1=true:=by
 constructor
 intro h
 unfold Good sizeF at h
 split at h
 assumption
 exact absurd rfl h
 intro h
 unfold Good sizeF
 rw[if_pos h]
 obtain ⟨_,h2⟩:=walk_more t 1 1200 1 1200 h (Int.le_refl _) (Int.le_refl _)
 have:=cnt_pos t
 omega
theorem good_le {t:Term} (h:Good t):cnt t≤1200:=by
 have h1:=good_walk.1 h
 obtain ⟨_,h2⟩:=walk_more t 1 1200 1 1200 h1 (Int.le_refl _) (Int.le_refl _)
 have:=walkF_ge t 1 1200 (by omega) h1
 omega
theorem good_check {t:Term} : checkF t=0↔Good t:=by
 unfold checkF Good
 split <;> simp_all
end Go.Proofs.YtdakncgafdnjfaaGreat