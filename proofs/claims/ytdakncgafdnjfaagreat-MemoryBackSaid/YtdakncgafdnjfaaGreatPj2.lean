/- 2: a part of this claim's texts, joined: Inst Octet TermA TermB TermC SlicesT TermD TermE TermF CloseA PlainName W4 CloseB SlicesV. -/
import Derived.Test.YtdakncgafdnjfaaGreatPj1
import Derived.Test.YtdakncgafdnjfaaGreatProg
import Derived.Scope
import Derived.Lib.AppendZeros
import Derived.Maps.RangeRun
namespace Go.Proofs.YtdakncgafdnjfaaGreat
open Go Go.Wk
section
set_option maxRecDepth 100000
instance:Und Tryz.prog 3 (.int .i64):=⟨Tryz.underlying3⟩
instance:TI Tryz.prog 3 (.int .i64 0) 1 8:=ti_of (by kernel_rfl)
instance:Und Tryz.prog 4 (.bool):=⟨Tryz.underlying4⟩
instance:TI Tryz.prog 4 (.bool false) 1 1:=ti_of (by kernel_rfl)
instance:Und Tryz.prog 5 (.int .u8):=⟨Tryz.underlying5⟩
instance:TI Tryz.prog 5 (.int .u8 0) 1 1:=ti_of (by kernel_rfl)
instance:Und Tryz.prog 9 (.string):=⟨Tryz.underlying9⟩
instance:TI Tryz.prog 9 (.string ⟨#[]⟩) 1 16:=ti_of (by kernel_rfl)
instance:Und Tryz.prog 25 (.slice 5):=⟨Tryz.underlying25⟩
instance:TI Tryz.prog 25 (.slice none 0 0) 1 24:=ti_of (by kernel_rfl)
instance:Und Tryz.prog 26 (.int .i64):=⟨Tryz.underlying26⟩
instance:TI Tryz.prog 26 (.int .i64 0) 1 8:=ti_of (by kernel_rfl)
instance:Und Tryz.prog 33 (.slice 25):=⟨Tryz.underlying33⟩
instance:TI Tryz.prog 33 (.slice none 0 0) 1 24:=ti_of (by kernel_rfl)
instance:Und Tryz.prog 34 (.pointer 170):=⟨Tryz.underlying34⟩
instance:Und Tryz.prog 36 (.pointer 134):=⟨Tryz.underlying36⟩
instance:Und Tryz.prog 41 (.slice 43):=⟨Tryz.underlying41⟩
instance:TI Tryz.prog 41 (.slice none 0 0) 1 24:=ti_of (by kernel_rfl)
instance:AggT Tryz.prog 43 true:=aggT_of (by kernel_rfl)
instance:Fld Tryz.prog 43 0 0 3:=fld_of (by kernel_rfl)
instance:Fld Tryz.prog 43 1 1 3:=fld_of (by kernel_rfl)
instance:Fld Tryz.prog 43 2 2 3:=fld_of (by kernel_rfl)
instance:Fld Tryz.prog 43 3 3 9:=fld_of (by kernel_rfl)
instance:Fld Tryz.prog 43 4 4 41:=fld_of (by kernel_rfl)
instance:PlOf Tryz.prog 43 [(0,1),(1,1),(2,1),(3,1),(4,1)]:=plof_of (by kernel_rfl)
instance:TI Tryz.prog 43 (.agg #[.int .i64 0,.int .i64 0,.int .i64 0,.string ⟨#[]⟩,.slice none 0 0]) 5 64:=ti_of (by kernel_rfl)
instance:Und Tryz.prog 63 (.slice 175):=⟨Tryz.underlying63⟩
instance:TI Tryz.prog 63 (.slice none 0 0) 1 24:=ti_of (by kernel_rfl)
instance:Und Tryz.prog 64 (.slice 177):=⟨Tryz.underlying64⟩
instance:TI Tryz.prog 64 (.slice none 0 0) 1 24:=ti_of (by kernel_rfl)
instance:Und Tryz.prog 65 (.slice 179):=⟨Tryz.underlying65⟩
instance:TI Tryz.prog 65 (.slice none 0 0) 1 24:=ti_of (by kernel_rfl)
instance:AggT Tryz.prog 67 true:=aggT_of (by kernel_rfl)
instance:Fld Tryz.prog 67 0 0 3:=fld_of (by kernel_rfl)
instance:Fld Tryz.prog 67 1 1 3:=fld_of (by kernel_rfl)
instance:Fld Tryz.prog 67 2 2 3:=fld_of (by kernel_rfl)
instance:Fld Tryz.prog 67 3 3 3:=fld_of (by kernel_rfl)
instance:Fld Tryz.prog 67 4 4 63:=fld_of (by kernel_rfl)
instance:Fld Tryz.prog 67 5 5 64:=fld_of (by kernel_rfl)
instance:Fld Tryz.prog 67 6 6 65:=fld_of (by kernel_rfl)
instance:PlOf Tryz.prog 67 [(0,1),(1,1),(2,1),(3,1),(4,1),(5,1),(6,1)]:=plof_of (by kernel_rfl)
instance:TI Tryz.prog 67 (.agg #[.int .i64 0,.int .i64 0,.int .i64 0,.int .i64 0,.slice none 0 0,.slice none 0 0,.slice none 0 0]) 7 104:=ti_of (by kernel_rfl)
instance:Und Tryz.prog 79 (.int .u64):=⟨Tryz.underlying79⟩
instance:Und Tryz.prog 84 (.pointer 214):=⟨Tryz.underlying84⟩
instance:TI Tryz.prog 84 (.pointer none) 1 8:=ti_of (by kernel_rfl)
instance:Und Tryz.prog 113 (.int .u16):=⟨Tryz.underlying113⟩
instance:Und Tryz.prog 114 (.pointer 238):=⟨Tryz.underlying114⟩
instance:AggT Tryz.prog 121 false:=aggT_of (by kernel_rfl)
instance:TI Tryz.prog 121 (.nilFunc) 1 8:=ti_of (by kernel_rfl)
instance:Und Tryz.prog 128 (.array 64 5):=⟨Tryz.underlying128⟩
instance:TI Tryz.prog 128 (.agg ⟨encL (List.replicate 64 (0:UInt8))⟩) 64 64:=ti_of (by kernel_rfl)
instance:Und Tryz.prog 129 (.array 64 5):=⟨Tryz.underlying129⟩
instance:TI Tryz.prog 129 (.agg ⟨encL (List.replicate 64 (0:UInt8))⟩) 64 64:=ti_of (by kernel_rfl)
instance:Und Tryz.prog 130 (.int .u32):=⟨Tryz.underlying130⟩
instance:TI Tryz.prog 130 (.int .u32 0) 1 4:=ti_of (by kernel_rfl)
instance:AggT Tryz.prog 132 true:=aggT_of (by kernel_rfl)
instance:Fld Tryz.prog 132 0 0 34:=fld_of (by kernel_rfl)
instance:Fld Tryz.prog 132 1 1 3:=fld_of (by kernel_rfl)
instance:Fld Tryz.prog 132 2 2 130:=fld_of (by kernel_rfl)
instance:PlOf Tryz.prog 132 [(0,1),(1,1),(2,1)]:=plof_of (by kernel_rfl)
instance:TI Tryz.prog 132 (.agg #[.pointer none,.int .i64 0,.int .u32 0]) 3 24:=ti_of (by kernel_rfl)
instance:Fld Tryz.prog 134 0 0 132:=fld_of (by kernel_rfl)
instance:Fld Tryz.prog 134 1 3 33:=fld_of (by kernel_rfl)
instance:Fld Tryz.prog 134 2 4 3:=fld_of (by kernel_rfl)
instance:Fld Tryz.prog 134 3 5 4:=fld_of (by kernel_rfl)
instance:PlOf Tryz.prog 134 [(0,3),(3,1),(4,1),(5,1)]:=plof_of (by kernel_rfl)
instance:TI Tryz.prog 134 (.agg #[.pointer none,.int .i64 0,.int .u32 0,.slice none 0 0,.int .i64 0,.bool false]) 6 64:=ti_of (by kernel_rfl)
instance:Und Tryz.prog 163 (.map 3 129):=⟨Tryz.underlying163⟩
instance:Und Tryz.prog 164 (.slice 265):=⟨Tryz.underlying164⟩
instance:TI Tryz.prog 164 (.slice none 0 0) 1 24:=ti_of (by kernel_rfl)
instance:Fld Tryz.prog 166 0 0 4:=fld_of (by kernel_rfl)
instance:Fld Tryz.prog 166 1 1 3:=fld_of (by kernel_rfl)
instance:PlOf Tryz.prog 166 [(0,1),(1,1)]:=plof_of (by kernel_rfl)
instance:TI Tryz.prog 166 (.agg #[.bool false,.int .i64 0]) 2 16:=ti_of (by kernel_rfl)
instance:Fld Tryz.prog 168 0 0 3:=fld_of (by kernel_rfl)
instance:Fld Tryz.prog 168 1 1 163:=fld_of (by kernel_rfl)
instance:Fld Tryz.prog 168 2 2 164:=fld_of (by kernel_rfl)
instance:Fld Tryz.prog 168 3 3 4:=fld_of (by kernel_rfl)
instance:Fld Tryz.prog 168 4 4 166:=fld_of (by kernel_rfl)
instance:Fld Tryz.prog 168 5 6 166:=fld_of (by kernel_rfl)
instance:Fld Tryz.prog 168 6 8 3:=fld_of (by kernel_rfl)
instance:PlOf Tryz.prog 168 [(0,1),(1,1),(2,1),(3,1),(4,2),(6,2),(8,1)]:=plof_of (by kernel_rfl)
instance:TI Tryz.prog 168 (.agg #[.int .i64 0,.map none,.slice none 0 0,.bool false,.bool false,.int .i64 0,.bool false,.int .i64 0,.int .i64 0]) 9 88:=ti_of (by kernel_rfl)
instance:Fld Tryz.prog 170 0 0 168:=fld_of (by kernel_rfl)
instance:PlOf Tryz.prog 170 [(0,9)]:=plof_of (by kernel_rfl)
instance:TI Tryz.prog 170 (.agg #[.int .i64 0,.map none,.slice none 0 0,.bool false,.bool false,.int .i64 0,.bool false,.int .i64 0,.int .i64 0]) 9 88:=ti_of (by kernel_rfl)
instance:AggT Tryz.prog 175 true:=aggT_of (by kernel_rfl)
instance:Fld Tryz.prog 175 0 0 9:=fld_of (by kernel_rfl)
instance:Fld Tryz.prog 175 1 1 3:=fld_of (by kernel_rfl)
instance:PlOf Tryz.prog 175 [(0,1),(1,1)]:=plof_of (by kernel_rfl)
instance:TI Tryz.prog 175 (.agg #[.string ⟨#[]⟩,.int .i64 0]) 2 24:=ti_of (by kernel_rfl)
instance:AggT Tryz.prog 177 true:=aggT_of (by kernel_rfl)
instance:Fld Tryz.prog 177 0 0 9:=fld_of (by kernel_rfl)
instance:Fld Tryz.prog 177 1 1 3:=fld_of (by kernel_rfl)
instance:PlOf Tryz.prog 177 [(0,1),(1,1)]:=plof_of (by kernel_rfl)
instance:TI Tryz.prog 177 (.agg #[.string ⟨#[]⟩,.int .i64 0]) 2 24:=ti_of (by kernel_rfl)
instance:AggT Tryz.prog 179 true:=aggT_of (by kernel_rfl)
instance:Fld Tryz.prog 179 0 0 3:=fld_of (by kernel_rfl)
instance:Fld Tryz.prog 179 1 1 3:=fld_of (by kernel_rfl)
instance:Fld Tryz.prog 179 2 2 43:=fld_of (by kernel_rfl)
instance:PlOf Tryz.prog 179 [(0,1),(1,1),(2,5)]:=plof_of (by kernel_rfl)
instance:TI Tryz.prog 179 (.agg #[.int .i64 0,.int .i64 0,.int .i64 0,.int .i64 0,.int .i64 0,.string ⟨#[]⟩,.slice none 0 0]) 7 80:=ti_of (by kernel_rfl)
instance:Und Tryz.prog 183 (.slice 3):=⟨Tryz.underlying183⟩
instance:AggT Tryz.prog 192 false:=aggT_of (by kernel_rfl)
instance:AggT Tryz.prog 196 false:=aggT_of (by kernel_rfl)
instance:Und Tryz.prog 207 (.pointer 209):=⟨Tryz.underlying207⟩
instance:TI Tryz.prog 207 (.pointer none) 1 8:=ti_of (by kernel_rfl)
instance:Fld Tryz.prog 209 0 0 114:=fld_of (by kernel_rfl)
instance:Fld Tryz.prog 209 1 1 4:=fld_of (by kernel_rfl)
instance:PlOf Tryz.prog 209 [(0,1),(1,1)]:=plof_of (by kernel_rfl)
instance:TI Tryz.prog 209 (.agg #[.pointer none,.bool false]) 2 16:=ti_of (by kernel_rfl)
instance:Fld Tryz.prog 214 0 0 36:=fld_of (by kernel_rfl)
instance:Fld Tryz.prog 214 1 1 67:=fld_of (by kernel_rfl)
instance:PlOf Tryz.prog 214 [(0,1),(1,7)]:=plof_of (by kernel_rfl)
instance:TI Tryz.prog 214 (.agg #[.pointer none,.int .i64 0,.int .i64 0,.int .i64 0,.int .i64 0,.slice none 0 0,.slice none 0 0,.slice none 0 0]) 8 112:=ti_of (by kernel_rfl)
instance:Und Tryz.prog 219 (.slice 129):=⟨Tryz.underlying219⟩
instance:Fld Tryz.prog 236 0 0 25:=fld_of (by kernel_rfl)
instance:Fld Tryz.prog 236 1 1 26:=fld_of (by kernel_rfl)
instance:PlOf Tryz.prog 236 [(0,1),(1,1)]:=plof_of (by kernel_rfl)
instance:TI Tryz.prog 236 (.agg #[.slice none 0 0,.int .i64 0]) 2 32:=ti_of (by kernel_rfl)
instance:Fld Tryz.prog 238 0 0 236:=fld_of (by kernel_rfl)
instance:PlOf Tryz.prog 238 [(0,2)]:=plof_of (by kernel_rfl)
instance:TI Tryz.prog 238 (.agg #[.slice none 0 0,.int .i64 0]) 2 32:=ti_of (by kernel_rfl)
instance:Und Tryz.prog 239 (.int .u64):=⟨Tryz.underlying239⟩
instance:TI Tryz.prog 239 (.int .u64 0) 1 8:=ti_of (by kernel_rfl)
instance:Fld Tryz.prog 245 0 0 114:=fld_of (by kernel_rfl)
instance:Fld Tryz.prog 245 1 1 3:=fld_of (by kernel_rfl)
instance:PlOf Tryz.prog 245 [(0,1),(1,1)]:=plof_of (by kernel_rfl)
instance:TI Tryz.prog 245 (.agg #[.pointer none,.int .i64 0]) 2 16:=ti_of (by kernel_rfl)
instance:Fld Tryz.prog 247 0 0 26:=fld_of (by kernel_rfl)
instance:PlOf Tryz.prog 247 [(0,1)]:=plof_of (by kernel_rfl)
instance:TI Tryz.prog 247 (.agg #[.int .i64 0]) 1 8:=ti_of (by kernel_rfl)
instance:Und Tryz.prog 252 (.array 2 121):=⟨Tryz.underlying252⟩
instance:TI Tryz.prog 252 (.agg #[.nilFunc,.nilFunc]) 2 16:=ti_of (by kernel_rfl)
instance:Und Tryz.prog 253 (.array 48 5):=⟨Tryz.underlying253⟩
instance:TI Tryz.prog 253 (.agg ⟨encL (List.replicate 48 (0:UInt8))⟩) 48 48:=ti_of (by kernel_rfl)
instance:Und Tryz.prog 263 (.pointer 168):=⟨Tryz.underlying263⟩
instance:AggT Tryz.prog 265 true:=aggT_of (by kernel_rfl)
instance:Fld Tryz.prog 265 0 0 3:=fld_of (by kernel_rfl)
instance:Fld Tryz.prog 265 1 1 129:=fld_of (by kernel_rfl)
instance:PlOf Tryz.prog 265 [(0,1),(1,64)]:=plof_of (by kernel_rfl)
instance:TI Tryz.prog 265 (.agg ⟨.int .i64 0::encL (List.replicate 64 (0:UInt8))⟩) 65 72:=ti_of (by kernel_rfl)
instance:AggT Tryz.prog 271 true:=aggT_of (by kernel_rfl)
instance:Fld Tryz.prog 271 0 0 3:=fld_of (by kernel_rfl)
instance:Fld Tryz.prog 271 1 1 3:=fld_of (by kernel_rfl)
instance:Fld Tryz.prog 271 2 2 9:=fld_of (by kernel_rfl)
instance:PlOf Tryz.prog 271 [(0,1),(1,1),(2,1),(3,1),(4,1),(5,1),(6,5)]:=plof_of (by kernel_rfl)
instance:TI Tryz.prog 271 (.agg #[.int .i64 0,.int .i64 0,.string ⟨#[]⟩,.int .i64 0,.int .i64 0,.bool false,.int .i64 0,.int .i64 0,.int .i64 0,.string ⟨#[]⟩,.slice none 0 0]) 11 120:=ti_of (by kernel_rfl)
instance:Und Tryz.prog 296 (.array 32 5):=⟨Tryz.underlying296⟩
instance:TI Tryz.prog 296 (.agg ⟨encL (List.replicate 32 (0:UInt8))⟩) 32 32:=ti_of (by kernel_rfl)
instance:Und Tryz.prog 313 (.array 8 130):=⟨Tryz.underlying313⟩
instance:TI Tryz.prog 313 (.agg #[.int .u32 0,.int .u32 0,.int .u32 0,.int .u32 0,.int .u32 0,.int .u32 0,.int .u32 0,.int .u32 0]) 8 32:=ti_of (by kernel_rfl)
instance:AggT Tryz.prog 319 false:=aggT_of (by kernel_rfl)
instance:AggT Tryz.prog 321 true:=aggT_of (by kernel_rfl)
instance:Fld Tryz.prog 321 0 0 3:=fld_of (by kernel_rfl)
instance:Fld Tryz.prog 321 1 1 3:=fld_of (by kernel_rfl)
instance:Fld Tryz.prog 321 2 2 3:=fld_of (by kernel_rfl)
instance:Fld Tryz.prog 321 3 3 319:=fld_of (by kernel_rfl)
instance:PlOf Tryz.prog 321 [(0,1),(1,1),(2,1),(3,1)]:=plof_of (by kernel_rfl)
instance:TI Tryz.prog 321 (.agg #[.int .i64 0,.int .i64 0,.int .i64 0,.nilFunc]) 4 32:=ti_of (by kernel_rfl)
instance:Und Tryz.prog 322 (.array 16 130):=⟨Tryz.underlying322⟩
instance:TI Tryz.prog 322 (.agg #[.int .u32 0,.int .u32 0,.int .u32 0,.int .u32 0,.int .u32 0,.int .u32 0,.int .u32 0,.int .u32 0,.int .u32 0,.int .u32 0,.int .u32 0,.int .u32 0,.int .u32 0,.int .u32 0,.int .u32 0,.int .u32 0]) 16 64:=ti_of (by kernel_rfl)
instance:Und Tryz.prog 323 (.array 64 130):=⟨Tryz.underlying323⟩
instance:TI Tryz.prog 323 (.agg ⟨.int .u32 0::.int .u32 0::.int .u32 0::.int .u32 0::.int .u32 0::.int .u32 0::.int .u32 0::.int .u32 0::.int .u32 0::.int .u32 0::.int .u32 0::.int .u32 0::.int .u32 0::.int .u32 0::.int .u32 0::.int .u32 0::.int .u32 0::.int .u32 0::.int .u32 0::.int .u32 0::.int .u32 0::.int .u32 0::.int .u32 0::.int .u32 0::.int .u32 0::.int .u32 0::.int .u32 0::.int .u32 0::.int .u32 0::.int .u32 0::.int .u32 0::.int .u32 0::.int .u32 0::.int .u32 0::.int .u32 0::.int .u32 0::.int .u32 0::.int .u32 0::.int .u32 0::.int .u32 0::.int .u32 0::.int .u32 0::.int .u32 0::.int .u32 0::.int .u32 0::.int .u32 0::.int .u32 0::.int .u32 0::.int .u32 0::.int .u32 0::.int .u32 0::.int .u32 0::.int .u32 0::.int .u32 0::.int .u32 0::.int .u32 0::.int .u32 0::.int .u32 0::.int .u32 0::.int .u32 0::.int .u32 0::.int .u32 0::.int .u32 0::.int .u32 0::[]⟩) 64 256:=ti_of (by kernel_rfl)
instance:FnRes Tryz.f9 [ResultVar.tmp 6]:=⟨rfl⟩
instance:FnRes Tryz.f18 [ResultVar.tmp 4,ResultVar.tmp 5]:=⟨rfl⟩
instance:FnRes Tryz.f19 [ResultVar.cell 4 26]:=⟨rfl⟩
instance:FnRes Tryz.f20 [ResultVar.cell 4 26]:=⟨rfl⟩
instance:FnRes Tryz.f33 [ResultVar.tmp 0]:=⟨rfl⟩
instance:FnRes Tryz.f34 [ResultVar.cell 2 67]:=⟨rfl⟩
instance:FnRes Tryz.f36 [ResultVar.tmp 2,ResultVar.tmp 3]:=⟨rfl⟩
instance:FnRes Tryz.f37 [ResultVar.tmp 2]:=⟨rfl⟩
instance:FnRes Tryz.f38 [ResultVar.tmp 4]:=⟨rfl⟩
instance:FnRes Tryz.f40 [ResultVar.tmp 4]:=⟨rfl⟩
instance:FnRes Tryz.f42 [ResultVar.tmp 4]:=⟨rfl⟩
instance:FnRes Tryz.f44 [ResultVar.cell 2 67,ResultVar.tmp 3]:=⟨rfl⟩
instance:FnRes Tryz.f45 [ResultVar.tmp 2,ResultVar.tmp 3]:=⟨rfl⟩
instance:FnRes Tryz.f46 [ResultVar.tmp 6,ResultVar.tmp 7]:=⟨rfl⟩
instance:FnRes Tryz.f47 [ResultVar.cell 2 67]:=⟨rfl⟩
instance:FnRes Tryz.f50 [ResultVar.tmp 4]:=⟨rfl⟩
instance:FnRes Tryz.f52 [ResultVar.cell 2 84,ResultVar.cell 3 26]:=⟨rfl⟩
instance:FnRes Tryz.f54 [ResultVar.tmp 2,ResultVar.tmp 3]:=⟨rfl⟩
instance:FnRes Tryz.f61 [ResultVar.tmp 4]:=⟨rfl⟩
instance:FnRes Tryz.f64 [ResultVar.tmp 2,ResultVar.tmp 3]:=⟨rfl⟩
instance:FnRes Tryz.f65 [ResultVar.tmp 4]:=⟨rfl⟩
instance:FnRes Tryz.f66 [ResultVar.tmp 2]:=⟨rfl⟩
instance:FnRes Tryz.f67 [ResultVar.tmp 2]:=⟨rfl⟩
instance:FnRes Tryz.f68 [ResultVar.cell 4 25]:=⟨rfl⟩
instance:FnRes Tryz.f69 [ResultVar.tmp 2]:=⟨rfl⟩
instance:FnRes Tryz.f70 [ResultVar.cell 2 43,ResultVar.cell 3 3,ResultVar.cell 4 26]:=⟨rfl⟩
instance:FnRes Tryz.f71 [ResultVar.tmp 2]:=⟨rfl⟩
instance:FnRes Tryz.f72 [ResultVar.tmp 2]:=⟨rfl⟩
instance:FnRes Tryz.f73 [ResultVar.tmp 4]:=⟨rfl⟩
instance:FnRes Tryz.f74 [ResultVar.cell 6 26]:=⟨rfl⟩
instance:FnRes Tryz.f75 [ResultVar.tmp 4]:=⟨rfl⟩
instance:FnRes Tryz.f76 [ResultVar.tmp 4]:=⟨rfl⟩
instance:FnRes Tryz.f77 [ResultVar.tmp 4]:=⟨rfl⟩
instance:FnRes Tryz.f78 [ResultVar.tmp 2]:=⟨rfl⟩
instance:FnRes Tryz.f79 []:=⟨rfl⟩
instance:FnRes Tryz.f80 [ResultVar.cell 2 132]:=⟨rfl⟩
instance:FnRes Tryz.f81 [ResultVar.tmp 2]:=⟨rfl⟩
instance:FnRes Tryz.f82 [ResultVar.tmp 6]:=⟨rfl⟩
instance:FnRes Tryz.f86 [ResultVar.tmp 2]:=⟨rfl⟩
instance:FnRes Tryz.f94 [ResultVar.tmp 2]:=⟨rfl⟩
instance:FnRes Tryz.f99 [ResultVar.tmp 2]:=⟨rfl⟩
instance:FnRes Tryz.f100 [ResultVar.tmp 2]:=⟨rfl⟩
instance:FnRes Tryz.f103 []:=⟨rfl⟩
instance:FnRes Tryz.f105 [ResultVar.cell 4 43]:=⟨rfl⟩
instance:FnRes Tryz.f110 []:=⟨rfl⟩
instance:FnRes Tryz.f111 []:=⟨rfl⟩
instance:FnRes Tryz.f112 [ResultVar.tmp 4]:=⟨rfl⟩
instance:FnRes Tryz.f113 [ResultVar.tmp 2]:=⟨rfl⟩
instance:FnRes Tryz.f114 [ResultVar.tmp 4]:=⟨rfl⟩
instance:FnRes Tryz.f115 [ResultVar.tmp 2]:=⟨rfl⟩
instance:FnRes Tryz.f116 [ResultVar.tmp 2]:=⟨rfl⟩
instance:FnRes Tryz.f117 [ResultVar.tmp 3]:=⟨rfl⟩
instance:FnRes Tryz.f118 [ResultVar.tmp 4]:=⟨rfl⟩
instance:FnRes Tryz.f119 [ResultVar.tmp 3]:=⟨rfl⟩
instance:FnRes Tryz.f120 [ResultVar.cell 4 179,ResultVar.tmp 5]:=⟨rfl⟩
instance:FnRes Tryz.f121 [ResultVar.tmp 4]:=⟨rfl⟩
instance:FnRes Tryz.f122 [ResultVar.tmp 4]:=⟨rfl⟩
instance:FnRes Tryz.f123 [ResultVar.tmp 4]:=⟨rfl⟩
instance:FnRes Tryz.f124 [ResultVar.tmp 4]:=⟨rfl⟩
instance:FnRes Tryz.f128 [ResultVar.tmp 4]:=⟨rfl⟩
instance:FnRes Tryz.f129 [ResultVar.tmp 4]:=⟨rfl⟩
instance:FnRes Tryz.f130 [ResultVar.tmp 4]:=⟨rfl⟩
instance:FnRes Tryz.f131 [ResultVar.tmp 6]:=⟨rfl⟩
instance:FnRes Tryz.f137 []:=⟨rfl⟩
instance:FnRes Tryz.f138 []:=⟨rfl⟩
instance:FnRes Tryz.f139 [ResultVar.tmp 2]:=⟨rfl⟩
instance:FnRes Tryz.f140 []:=⟨rfl⟩
instance:FnRes Tryz.f141 []:=⟨rfl⟩
instance:FnRes Tryz.f142 [ResultVar.cell 2 43]:=⟨rfl⟩
instance:FnRes Tryz.f143 [ResultVar.cell 2 67]:=⟨rfl⟩
instance:FnRes Tryz.f146 [ResultVar.cell 2 132,ResultVar.tmp 3]:=⟨rfl⟩
instance:FnRes Tryz.f147 [ResultVar.cell 4 129,ResultVar.tmp 5]:=⟨rfl⟩
instance:FnRes Tryz.f148 [ResultVar.cell 8 25,ResultVar.cell 9 4]:=⟨rfl⟩
instance:FnRes Tryz.f149 [ResultVar.tmp 4]:=⟨rfl⟩
instance:FnRes Tryz.f157 [ResultVar.tmp 2]:=⟨rfl⟩
instance:FnRes Tryz.f159 [ResultVar.tmp 6]:=⟨rfl⟩
instance:FnRes Tryz.f162 [ResultVar.tmp 2]:=⟨rfl⟩
instance:FnRes Tryz.f163 [ResultVar.tmp 4]:=⟨rfl⟩
instance:FnRes Tryz.f164 [ResultVar.tmp 6]:=⟨rfl⟩
instance:FnRes Tryz.f165 [ResultVar.cell 4 239]:=⟨rfl⟩
instance:FnRes Tryz.f166 []:=⟨rfl⟩
instance:FnRes Tryz.f167 []:=⟨rfl⟩
instance:FnRes Tryz.f168 []:=⟨rfl⟩
instance:FnRes Tryz.f169 [ResultVar.cell 4 43]:=⟨rfl⟩
instance:FnRes Tryz.f170 [ResultVar.tmp 2]:=⟨rfl⟩
instance:FnRes Tryz.f171 [ResultVar.tmp 6]:=⟨rfl⟩
instance:FnRes Tryz.f172 [ResultVar.tmp 2]:=⟨rfl⟩
instance:FnRes Tryz.f173 []:=⟨rfl⟩
instance:FnRes Tryz.f174 [ResultVar.tmp 2]:=⟨rfl⟩
instance:FnRes Tryz.f175 [ResultVar.tmp 1]:=⟨rfl⟩
instance:FnRes Tryz.f176 [ResultVar.cell 4 129]:=⟨rfl⟩
instance:FnRes Tryz.f177 []:=⟨rfl⟩
instance:FnRes Tryz.f178 [ResultVar.cell 2 129]:=⟨rfl⟩
instance:FnRes Tryz.f188 []:=⟨rfl⟩
instance:FnRes Tryz.f196 [ResultVar.tmp 6]:=⟨rfl⟩
instance:FnRes Tryz.f197 [ResultVar.tmp 4]:=⟨rfl⟩
instance:FnRes Tryz.f198 [ResultVar.tmp 2]:=⟨rfl⟩
instance:FnRes Tryz.f199 [ResultVar.tmp 2]:=⟨rfl⟩
instance:FnRes Tryz.f200 [ResultVar.tmp 2]:=⟨rfl⟩
instance:FnRes Tryz.f201 [ResultVar.tmp 2]:=⟨rfl⟩
instance:FnRes Tryz.f202 [ResultVar.tmp 2]:=⟨rfl⟩
instance:FnRes Tryz.f203 [ResultVar.tmp 2]:=⟨rfl⟩
instance:FnRes Tryz.f204 [ResultVar.tmp 4]:=⟨rfl⟩
instance:FnRes Tryz.f205 [ResultVar.tmp 4,ResultVar.tmp 5]:=⟨rfl⟩
instance:FnRes Tryz.f206 [ResultVar.cell 2 43]:=⟨rfl⟩
instance:FnRes Tryz.f207 [ResultVar.tmp 2]:=⟨rfl⟩
instance:FnRes Tryz.f208 [ResultVar.tmp 4]:=⟨rfl⟩
instance:FnRes Tryz.f209 [ResultVar.tmp 3]:=⟨rfl⟩
instance:FnRes Tryz.f210 [ResultVar.tmp 3]:=⟨rfl⟩
instance:FnRes Tryz.f211 [ResultVar.tmp 4]:=⟨rfl⟩
instance:FnRes Tryz.f212 [ResultVar.tmp 3]:=⟨rfl⟩
instance:FnRes Tryz.f213 [ResultVar.tmp 4]:=⟨rfl⟩
instance:FnRes Tryz.f214 [ResultVar.tmp 3]:=⟨rfl⟩
instance:FnRes Tryz.f217 [ResultVar.tmp 2]:=⟨rfl⟩
instance:FnRes Tryz.f218 [ResultVar.tmp 2]:=⟨rfl⟩
instance:FnRes Tryz.f219 [ResultVar.tmp 2]:=⟨rfl⟩
instance:FnRes Tryz.f220 [ResultVar.tmp 2]:=⟨rfl⟩
instance:FnRes Tryz.f221 [ResultVar.cell 2 43]:=⟨rfl⟩
instance:FnRes Tryz.f222 [ResultVar.tmp 8]:=⟨rfl⟩
instance:FnRes Tryz.f223 []:=⟨rfl⟩
instance:FnRes Tryz.f224 [ResultVar.cell 4 129]:=⟨rfl⟩
instance:FnRes Tryz.f233 []:=⟨rfl⟩
instance:FnRes Tryz.f234 []:=⟨rfl⟩
instance:FnRes Tryz.f237 []:=⟨rfl⟩
instance:FnRes Tryz.f238 []:=⟨rfl⟩
instance:FnRes Tryz.f239 [ResultVar.tmp 2]:=⟨rfl⟩
instance:FnRes Tryz.f240 [ResultVar.cell 2 296]:=⟨rfl⟩
instance:FnRes Tryz.f245 [ResultVar.tmp 4]:=⟨rfl⟩
instance:FnRes Tryz.f246 [ResultVar.tmp 2]:=⟨rfl⟩
instance:FnRes Tryz.f247 [ResultVar.tmp 2]:=⟨rfl⟩
instance:FnRes Tryz.f249 [ResultVar.tmp 6,ResultVar.tmp 7]:=⟨rfl⟩
instance:FnRes Tryz.f250 [ResultVar.tmp 4]:=⟨rfl⟩
instance:FnRes Tryz.f251 [ResultVar.tmp 2]:=⟨rfl⟩
instance:FnRes Tryz.f252 [ResultVar.tmp 4]:=⟨rfl⟩
instance:FnRes Tryz.f253 [ResultVar.tmp 4]:=⟨rfl⟩
instance:FnRes Tryz.f254 [ResultVar.tmp 4]:=⟨rfl⟩
instance:FnRes Tryz.f256 [ResultVar.tmp 2]:=⟨rfl⟩
instance:FnRes Tryz.f257 [ResultVar.tmp 2]:=⟨rfl⟩
instance:FnRes Tryz.f262 [ResultVar.cell 0 313]:=⟨rfl⟩
instance:FnRes Tryz.f263 [ResultVar.tmp 2]:=⟨rfl⟩
instance:FnRes Tryz.f264 [ResultVar.cell 4 313]:=⟨rfl⟩
instance:FnRes Tryz.f267 [ResultVar.tmp 2]:=⟨rfl⟩
instance:FnRes Tryz.f270 []:=⟨rfl⟩
instance:FnRes Tryz.f272 [ResultVar.tmp 4]:=⟨rfl⟩
instance:FnRes Tryz.f273 [ResultVar.tmp 4]:=⟨rfl⟩
instance:FnRes Tryz.f274 [ResultVar.tmp 4]:=⟨rfl⟩
instance:FnRes Tryz.f275 [ResultVar.cell 0 323]:=⟨rfl⟩
instance:FnRes Tryz.f276 [ResultVar.tmp 4]:=⟨rfl⟩
instance:FnRes Tryz.f277 [ResultVar.tmp 4]:=⟨rfl⟩
instance:FnRes Tryz.f281 [ResultVar.tmp 6]:=⟨rfl⟩
instance:EntF Tryz.prog 18:=⟨enters_of Tryz.func18 (by kernel_rfl) rfl⟩
instance:EntF Tryz.prog 19:=⟨enters_of Tryz.func19 (by kernel_rfl) rfl⟩
instance:EntF Tryz.prog 20:=⟨enters_of Tryz.func20 (by kernel_rfl) rfl⟩
instance:EntF Tryz.prog 33:=⟨enters_of Tryz.func33 (by kernel_rfl) rfl⟩
instance:EntF Tryz.prog 34:=⟨enters_of Tryz.func34 (by kernel_rfl) rfl⟩
instance:EntF Tryz.prog 36:=⟨enters_of Tryz.func36 (by kernel_rfl) rfl⟩
instance:EntF Tryz.prog 37:=⟨enters_of Tryz.func37 (by kernel_rfl) rfl⟩
instance:EntF Tryz.prog 38:=⟨enters_of Tryz.func38 (by kernel_rfl) rfl⟩
instance:EntF Tryz.prog 40:=⟨enters_of Tryz.func40 (by kernel_rfl) rfl⟩
instance:EntF Tryz.prog 42:=⟨enters_of Tryz.func42 (by kernel_rfl) rfl⟩
instance:EntF Tryz.prog 44:=⟨enters_of Tryz.func44 (by kernel_rfl) rfl⟩
instance:EntF Tryz.prog 45:=⟨enters_of Tryz.func45 (by kernel_rfl) rfl⟩
instance:EntF Tryz.prog 46:=⟨enters_of Tryz.func46 (by kernel_rfl) rfl⟩
instance:EntF Tryz.prog 47:=⟨enters_of Tryz.func47 (by kernel_rfl) rfl⟩
instance:EntF Tryz.prog 50:=⟨enters_of Tryz.func50 (by kernel_rfl) rfl⟩
instance:EntF Tryz.prog 52:=⟨enters_of Tryz.func52 (by kernel_rfl) rfl⟩
instance:EntF Tryz.prog 54:=⟨enters_of Tryz.func54 (by kernel_rfl) rfl⟩
instance:EntF Tryz.prog 61:=⟨enters_of Tryz.func61 (by kernel_rfl) rfl⟩
instance:EntF Tryz.prog 64:=⟨enters_of Tryz.func64 (by kernel_rfl) rfl⟩
instance:EntF Tryz.prog 65:=⟨enters_of Tryz.func65 (by kernel_rfl) rfl⟩
instance:EntF Tryz.prog 66:=⟨enters_of Tryz.func66 (by kernel_rfl) rfl⟩
instance:EntF Tryz.prog 67:=⟨enters_of Tryz.func67 (by kernel_rfl) rfl⟩
instance:EntF Tryz.prog 68:=⟨enters_of Tryz.func68 (by kernel_rfl) rfl⟩
instance:EntF Tryz.prog 69:=⟨enters_of Tryz.func69 (by kernel_rfl) rfl⟩
instance:EntF Tryz.prog 70:=⟨enters_of Tryz.func70 (by kernel_rfl) rfl⟩
instance:EntF Tryz.prog 71:=⟨enters_of Tryz.func71 (by kernel_rfl) rfl⟩
instance:EntF Tryz.prog 72:=⟨enters_of Tryz.func72 (by kernel_rfl) rfl⟩
instance:EntF Tryz.prog 73:=⟨enters_of Tryz.func73 (by kernel_rfl) rfl⟩
instance:EntF Tryz.prog 74:=⟨enters_of Tryz.func74 (by kernel_rfl) rfl⟩
instance:EntF Tryz.prog 75:=⟨enters_of Tryz.func75 (by kernel_rfl) rfl⟩
instance:EntF Tryz.prog 76:=⟨enters_of Tryz.func76 (by kernel_rfl) rfl⟩
instance:EntF Tryz.prog 77:=⟨enters_of Tryz.func77 (by kernel_rfl) rfl⟩
instance:EntF Tryz.prog 78:=⟨enters_of Tryz.func78 (by kernel_rfl) rfl⟩
instance:EntF Tryz.prog 79:=⟨enters_of Tryz.func79 (by kernel_rfl) rfl⟩
instance:EntF Tryz.prog 80:=⟨enters_of Tryz.func80 (by kernel_rfl) rfl⟩
instance:EntF Tryz.prog 81:=⟨enters_of Tryz.func81 (by kernel_rfl) rfl⟩
instance:EntF Tryz.prog 82:=⟨enters_of Tryz.func82 (by kernel_rfl) rfl⟩
instance:EntF Tryz.prog 86:=⟨enters_of Tryz.func86 (by kernel_rfl) rfl⟩
instance:EntF Tryz.prog 94:=⟨enters_of Tryz.func94 (by kernel_rfl) rfl⟩
instance:EntF Tryz.prog 99:=⟨enters_of Tryz.func99 (by kernel_rfl) rfl⟩
instance:EntF Tryz.prog 100:=⟨enters_of Tryz.func100 (by kernel_rfl) rfl⟩
instance:EntF Tryz.prog 103:=⟨enters_of Tryz.func103 (by kernel_rfl) rfl⟩
instance:EntF Tryz.prog 105:=⟨enters_of Tryz.func105 (by kernel_rfl) rfl⟩
instance:EntF Tryz.prog 110:=⟨enters_of Tryz.func110 (by kernel_rfl) rfl⟩
instance:EntF Tryz.prog 111:=⟨enters_of Tryz.func111 (by kernel_rfl) rfl⟩
instance:EntF Tryz.prog 112:=⟨enters_of Tryz.func112 (by kernel_rfl) rfl⟩
instance:EntF Tryz.prog 113:=⟨enters_of Tryz.func113 (by kernel_rfl) rfl⟩
instance:EntF Tryz.prog 114:=⟨enters_of Tryz.func114 (by kernel_rfl) rfl⟩
instance:EntF Tryz.prog 115:=⟨enters_of Tryz.func115 (by kernel_rfl) rfl⟩
instance:EntF Tryz.prog 116:=⟨enters_of Tryz.func116 (by kernel_rfl) rfl⟩
instance:EntF Tryz.prog 117:=⟨enters_of Tryz.func117 (by kernel_rfl) rfl⟩
instance:EntF Tryz.prog 118:=⟨enters_of Tryz.func118 (by kernel_rfl) rfl⟩
instance:EntF Tryz.prog 119:=⟨enters_of Tryz.func119 (by kernel_rfl) rfl⟩
instance:EntF Tryz.prog 120:=⟨enters_of Tryz.func120 (by kernel_rfl) rfl⟩
instance:EntF Tryz.prog 121:=⟨enters_of Tryz.func121 (by kernel_rfl) rfl⟩
instance:EntF Tryz.prog 122:=⟨enters_of Tryz.func122 (by kernel_rfl) rfl⟩
instance:EntF Tryz.prog 123:=⟨enters_of Tryz.func123 (by kernel_rfl) rfl⟩
instance:EntF Tryz.prog 124:=⟨enters_of Tryz.func124 (by kernel_rfl) rfl⟩
instance:EntF Tryz.prog 128:=⟨enters_of Tryz.func128 (by kernel_rfl) rfl⟩
instance:EntF Tryz.prog 129:=⟨enters_of Tryz.func129 (by kernel_rfl) rfl⟩
instance:EntF Tryz.prog 130:=⟨enters_of Tryz.func130 (by kernel_rfl) rfl⟩
instance:EntF Tryz.prog 131:=⟨enters_of Tryz.func131 (by kernel_rfl) rfl⟩
instance:EntF Tryz.prog 137:=⟨enters_of Tryz.func137 (by kernel_rfl) rfl⟩
instance:EntF Tryz.prog 138:=⟨enters_of Tryz.func138 (by kernel_rfl) rfl⟩
instance:EntF Tryz.prog 139:=⟨enters_of Tryz.func139 (by kernel_rfl) rfl⟩
instance:EntF Tryz.prog 140:=⟨enters_of Tryz.func140 (by kernel_rfl) rfl⟩
instance:EntF Tryz.prog 141:=⟨enters_of Tryz.func141 (by kernel_rfl) rfl⟩
instance:EntF Tryz.prog 142:=⟨enters_of Tryz.func142 (by kernel_rfl) rfl⟩
instance:EntF Tryz.prog 143:=⟨enters_of Tryz.func143 (by kernel_rfl) rfl⟩
instance:EntF Tryz.prog 146:=⟨enters_of Tryz.func146 (by kernel_rfl) rfl⟩
instance:EntF Tryz.prog 147:=⟨enters_of Tryz.func147 (by kernel_rfl) rfl⟩
instance:EntF Tryz.prog 148:=⟨enters_of Tryz.func148 (by kernel_rfl) rfl⟩
instance:EntF Tryz.prog 149:=⟨enters_of Tryz.func149 (by kernel_rfl) rfl⟩
instance:EntF Tryz.prog 157:=⟨enters_of Tryz.func157 (by kernel_rfl) rfl⟩
instance:EntF Tryz.prog 159:=⟨enters_of Tryz.func159 (by kernel_rfl) rfl⟩
instance:EntF Tryz.prog 162:=⟨enters_of Tryz.func162 (by kernel_rfl) rfl⟩
instance:EntF Tryz.prog 163:=⟨enters_of Tryz.func163 (by kernel_rfl) rfl⟩
instance:EntF Tryz.prog 164:=⟨enters_of Tryz.func164 (by kernel_rfl) rfl⟩
instance:EntF Tryz.prog 165:=⟨enters_of Tryz.func165 (by kernel_rfl) rfl⟩
instance:EntF Tryz.prog 166:=⟨enters_of Tryz.func166 (by kernel_rfl) rfl⟩
instance:EntF Tryz.prog 167:=⟨enters_of Tryz.func167 (by kernel_rfl) rfl⟩
instance:EntF Tryz.prog 168:=⟨enters_of Tryz.func168 (by kernel_rfl) rfl⟩
instance:EntF Tryz.prog 169:=⟨enters_of Tryz.func169 (by kernel_rfl) rfl⟩
instance:EntF Tryz.prog 170:=⟨enters_of Tryz.func170 (by kernel_rfl) rfl⟩
instance:EntF Tryz.prog 171:=⟨enters_of Tryz.func171 (by kernel_rfl) rfl⟩
instance:EntF Tryz.prog 172:=⟨enters_of Tryz.func172 (by kernel_rfl) rfl⟩
instance:EntF Tryz.prog 173:=⟨enters_of Tryz.func173 (by kernel_rfl) rfl⟩
instance:EntF Tryz.prog 174:=⟨enters_of Tryz.func174 (by kernel_rfl) rfl⟩
instance:EntF Tryz.prog 175:=⟨enters_of Tryz.func175 (by kernel_rfl) rfl⟩
instance:EntF Tryz.prog 176:=⟨enters_of Tryz.func176 (by kernel_rfl) rfl⟩
instance:EntF Tryz.prog 177:=⟨enters_of Tryz.func177 (by kernel_rfl) rfl⟩
instance:EntF Tryz.prog 178:=⟨enters_of Tryz.func178 (by kernel_rfl) rfl⟩
instance:EntF Tryz.prog 188:=⟨enters_of Tryz.func188 (by kernel_rfl) rfl⟩
instance:EntF Tryz.prog 196:=⟨enters_of Tryz.func196 (by kernel_rfl) rfl⟩
instance:EntF Tryz.prog 197:=⟨enters_of Tryz.func197 (by kernel_rfl) rfl⟩
instance:EntF Tryz.prog 198:=⟨enters_of Tryz.func198 (by kernel_rfl) rfl⟩
instance:EntF Tryz.prog 199:=⟨enters_of Tryz.func199 (by kernel_rfl) rfl⟩
instance:EntF Tryz.prog 200:=⟨enters_of Tryz.func200 (by kernel_rfl) rfl⟩
instance:EntF Tryz.prog 201:=⟨enters_of Tryz.func201 (by kernel_rfl) rfl⟩
instance:EntF Tryz.prog 202:=⟨enters_of Tryz.func202 (by kernel_rfl) rfl⟩
instance:EntF Tryz.prog 203:=⟨enters_of Tryz.func203 (by kernel_rfl) rfl⟩
instance:EntF Tryz.prog 204:=⟨enters_of Tryz.func204 (by kernel_rfl) rfl⟩
instance:EntF Tryz.prog 205:=⟨enters_of Tryz.func205 (by kernel_rfl) rfl⟩
instance:EntF Tryz.prog 206:=⟨enters_of Tryz.func206 (by kernel_rfl) rfl⟩
instance:EntF Tryz.prog 207:=⟨enters_of Tryz.func207 (by kernel_rfl) rfl⟩
instance:EntF Tryz.prog 208:=⟨enters_of Tryz.func208 (by kernel_rfl) rfl⟩
instance:EntF Tryz.prog 209:=⟨enters_of Tryz.func209 (by kernel_rfl) rfl⟩
instance:EntF Tryz.prog 210:=⟨enters_of Tryz.func210 (by kernel_rfl) rfl⟩
instance:EntF Tryz.prog 211:=⟨enters_of Tryz.func211 (by kernel_rfl) rfl⟩
instance:EntF Tryz.prog 212:=⟨enters_of Tryz.func212 (by kernel_rfl) rfl⟩
instance:EntF Tryz.prog 213:=⟨enters_of Tryz.func213 (by kernel_rfl) rfl⟩
instance:EntF Tryz.prog 214:=⟨enters_of Tryz.func214 (by kernel_rfl) rfl⟩
instance:EntF Tryz.prog 217:=⟨enters_of Tryz.func217 (by kernel_rfl) rfl⟩
instance:EntF Tryz.prog 218:=⟨enters_of Tryz.func218 (by kernel_rfl) rfl⟩
instance:EntF Tryz.prog 219:=⟨enters_of Tryz.func219 (by kernel_rfl) rfl⟩
instance:EntF Tryz.prog 220:=⟨enters_of Tryz.func220 (by kernel_rfl) rfl⟩
instance:EntF Tryz.prog 221:=⟨enters_of Tryz.func221 (by kernel_rfl) rfl⟩
instance:EntF Tryz.prog 222:=⟨enters_of Tryz.func222 (by kernel_rfl) rfl⟩
instance:EntF Tryz.prog 223:=⟨enters_of Tryz.func223 (by kernel_rfl) rfl⟩
instance:EntF Tryz.prog 224:=⟨enters_of Tryz.func224 (by kernel_rfl) rfl⟩
instance:EntF Tryz.prog 230:=⟨enters_of Tryz.func230 (by kernel_rfl) rfl⟩
instance:EntF Tryz.prog 231:=⟨enters_of Tryz.func231 (by kernel_rfl) rfl⟩
instance:EntF Tryz.prog 232:=⟨enters_of Tryz.func232 (by kernel_rfl) rfl⟩
instance:EntF Tryz.prog 233:=⟨enters_of Tryz.func233 (by kernel_rfl) rfl⟩
instance:EntF Tryz.prog 234:=⟨enters_of Tryz.func234 (by kernel_rfl) rfl⟩
instance:EntF Tryz.prog 235:=⟨enters_of Tryz.func235 (by kernel_rfl) rfl⟩
instance:EntF Tryz.prog 236:=⟨enters_of Tryz.func236 (by kernel_rfl) rfl⟩
instance:EntF Tryz.prog 237:=⟨enters_of Tryz.func237 (by kernel_rfl) rfl⟩
instance:EntF Tryz.prog 238:=⟨enters_of Tryz.func238 (by kernel_rfl) rfl⟩
instance:EntF Tryz.prog 239:=⟨enters_of Tryz.func239 (by kernel_rfl) rfl⟩
instance:EntF Tryz.prog 240:=⟨enters_of Tryz.func240 (by kernel_rfl) rfl⟩
instance:EntF Tryz.prog 245:=⟨enters_of Tryz.func245 (by kernel_rfl) rfl⟩
instance:EntF Tryz.prog 246:=⟨enters_of Tryz.func246 (by kernel_rfl) rfl⟩
instance:EntF Tryz.prog 247:=⟨enters_of Tryz.func247 (by kernel_rfl) rfl⟩
instance:EntF Tryz.prog 249:=⟨enters_of Tryz.func249 (by kernel_rfl) rfl⟩
instance:EntF Tryz.prog 250:=⟨enters_of Tryz.func250 (by kernel_rfl) rfl⟩
instance:EntF Tryz.prog 251:=⟨enters_of Tryz.func251 (by kernel_rfl) rfl⟩
instance:EntF Tryz.prog 252:=⟨enters_of Tryz.func252 (by kernel_rfl) rfl⟩
instance:EntF Tryz.prog 253:=⟨enters_of Tryz.func253 (by kernel_rfl) rfl⟩
instance:EntF Tryz.prog 254:=⟨enters_of Tryz.func254 (by kernel_rfl) rfl⟩
instance:EntF Tryz.prog 256:=⟨enters_of Tryz.func256 (by kernel_rfl) rfl⟩
instance:EntF Tryz.prog 257:=⟨enters_of Tryz.func257 (by kernel_rfl) rfl⟩
instance:EntF Tryz.prog 261:=⟨enters_of Tryz.func261 (by kernel_rfl) rfl⟩
instance:EntF Tryz.prog 262:=⟨enters_of Tryz.func262 (by kernel_rfl) rfl⟩
instance:EntF Tryz.prog 263:=⟨enters_of Tryz.func263 (by kernel_rfl) rfl⟩
instance:EntF Tryz.prog 264:=⟨enters_of Tryz.func264 (by kernel_rfl) rfl⟩
instance:EntF Tryz.prog 267:=⟨enters_of Tryz.func267 (by kernel_rfl) rfl⟩
instance:EntF Tryz.prog 270:=⟨enters_of Tryz.func270 (by kernel_rfl) rfl⟩
instance:EntF Tryz.prog 272:=⟨enters_of Tryz.func272 (by kernel_rfl) rfl⟩
instance:EntF Tryz.prog 273:=⟨enters_of Tryz.func273 (by kernel_rfl) rfl⟩
instance:EntF Tryz.prog 274:=⟨enters_of Tryz.func274 (by kernel_rfl) rfl⟩
instance:EntF Tryz.prog 275:=⟨enters_of Tryz.func275 (by kernel_rfl) rfl⟩
instance:EntF Tryz.prog 276:=⟨enters_of Tryz.func276 (by kernel_rfl) rfl⟩
instance:EntF Tryz.prog 277:=⟨enters_of Tryz.func277 (by kernel_rfl) rfl⟩
instance:EntF Tryz.prog 281:=⟨enters_of Tryz.func281 (by kernel_rfl) rfl⟩
end
set_option synthInstance.maxSize 100000
set_option synthInstance.maxHeartbeats 400000
theorem drop_rep (n m:Nat) (z:Value):((List.replicate (n+m) [z]).flatten).drop (n*1)=List.replicate m z:=by
 have h:∀ k,(List.replicate k [z]).flatten=List.replicate k z:=fun k=>by
  induction k with
  | zero=>rfl
  | succ k ih=>rw[qqC,List.flatten_cons,ih];rfl
 rw[h,List.drop_replicate]
 congr 1;omega
theorem enc_set1 (l1 l2:List UInt8) (y y':UInt8):(encL (l1++y::l2)).take l1.length++[.int .u8 (y'.toNat:Int)]++(encL (l1++y::l2)).drop (l1.length+1)=encL (l1++y'::l2):=by
 have h1:(encL l1).length=l1.length:=by rw[encL_len];exact Nat.mul_one _
 have e:encL (l1++y::l2)=encL l1++(.int .u8 (y.toNat:Int)::encL l2):=by rw[encL_append,encL_cons];rfl
 rw[e,←h1,List.take_left,List.drop_append,List.drop_of_length_le (by omega),encL_append,encL_cons]
 simp[Enc.cells]
theorem lay16_c (p:Option Addr) (n c:Nat) (b:List UInt8) (v:Int) (w0:World) (hn:b.length=n) (hb:n≤1073741824) (hv:0≤v) (hv':v≤65535) (hs:Stable (fun _=>False) w0 (SlF p (encL b))) :
  Ret Tryz.prog 164 [.slice p n c,.int .u16 v,.int .i64 2] w0 (fun _=>False) fun r w'=>∃ g,r=.slice (some ⟨g,0,none⟩) (n+2) (n+2)∧w0.heap.size≤g∧w'.ownsRow 0 5 1 (.slice (some ⟨g,0,none⟩) (n+2) (n+2)) (n+2) (encL (b++be 2 v)):=by
 have hln:LenN b n:=⟨hn⟩
 refine enter Tryz.func164 rfl rfl (Wd.begin (fs:=[SlF p (encL b)]) (by simpa using hs)) (fun a S=>?_)
 simp only[Tryz.ntmps164,qqA,qqB,Nat.reduceAdd,Nat.reduceSub,qqC,qqD,qqE,qqF]at S
 refine kS (kR (sq S ?_));clear S;intro a S;refine kN (xtn (kS (kR ?_)));(iterate 4 (refine sq S ?_;clear S;intro a S))
 rw[w64 ((n:Int)+2) (by omega) (by omega)]at S
 refine smk (n+2) S (by omega) (by omega) (by omega) (by simp only[maxLen];omega) ?_;clear S;intro g a w S
 refine sq S ?_;clear S;intro a S;refine kN (xtn (kS (kR ?_)));(iterate 2 (refine sq S ?_;clear S;intro a S))
 refine scp S (by omega) ?_;clear S;intro a w S
 rw[drop_rep]at S
 refine kN (xtn (kS (kS (kR ?_))));(iterate 2 (refine sq S ?_;clear S;intro a S));refine kN (xtn (kB ?_))
 refine c_loop (ι:=Nat) (fun k a w=>k≤2∧∃ uu:Nat→Value,St w0 (fun _=>False) [] a w ((.slice p n c)::(.int .u16 v)::(.int .i64 2)::uu 3::uu 4::uu 5::uu 6::(.slice (some ⟨g,0,none⟩) (n+2) (n+2))::uu 8::uu 9::uu 10::uu 11::uu 12::uu 13::uu 14::uu 15::uu 16::(.int .i64 2)::(.int .i64 (k:Nat))::uu 19::uu 20::uu 21::uu 22::uu 23::uu 24::uu 25::uu 26::uu 27::uu 28::uu 29::uu 30::uu 31::uu 32::uu 33::uu 34::uu 35::uu 36::uu 37::[]) [row 5 1 (some ⟨g,0,none⟩) (n+2) (n+2) (encL (b++((be 2 v).take k++List.replicate (2 - k) 0)))] [SlF p (encL b)]) (fun k=>2 - k) 0 ?_ ?_
 rw[show encL b++List.replicate 2 (Value.int .u8 0)=encL (b++((be 2 v).take 0++List.replicate (2 - 0) 0)) from by rw[encL_append];rfl]at S
 exact ⟨Nat.zero_le _,S.uu,S⟩
 clear S
 rintro k a w ⟨hk,uu,S⟩
 refine kS (kR (sq S ?_));clear S;intro a S;refine kN (xtn (kS ?_))
 refine kC S (fun h4=>?_) (fun h4=>?_)
 refine kK (xtn (kS (kB (kS (kR ?_)))));(iterate 2 (refine sq S ?_;clear S;intro a S));refine kN (xtn (kR ?_));(iterate 4 (refine sq S ?_;clear S;intro a S))
 have hk2:k < 2:=by simp at h4;omega
 refine sq S ?_;clear S;intro a S
 rw[w64 ((n:Int)+(k:Int)) (by omega) (by omega),show (n:Int)+(k:Int)=((n+k:Nat):Int) from by omega]at S
 (iterate 2 (refine sq S ?_;clear S;intro a S))
 rw[wu64 v (by omega) (by omega)]at S
 (iterate 2 (refine sq S ?_;clear S;intro a S))
 rw[show IntKind.i64.wrap (2 - 1)=1 from rfl]at S
 (iterate 2 (refine sq S ?_;clear S;intro a S))
 rw[w64 (1 - (k:Int)) (by omega) (by omega)]at S
 refine sq S ?_;clear S;intro a S
 rw[w64 (8*(1 - (k:Int))) (by omega) (by omega),show 8*(1 - (k:Int))=((8*(2 - 1 - k):Nat):Int) from by omega]at S
 refine sq S ?_;clear S;intro a S
 rw[show min (8*(2 - 1 - k)) IntKind.u64.bits=8*(2 - 1 - k) from Nat.min_eq_left (by simp only[IntKind.bits];omega)]at S
 refine sq S ?_;clear S;intro a S
 rw[u8_wrap]at S
 have hK:KLt (n+k) (n+2):=⟨by omega⟩
 refine sq S ?_;clear S;intro a S
 refine sws S (n+2) (by omega) (by omega) ?_;clear S;intro a w S
 refine kN (xbn (xtn (kR ?_)));(iterate 2 (refine sq S ?_;clear S;intro a S));refine kN (xtn ?_)
 rw[w64 ((k:Int)+1) (by omega) (by omega)]at S
 have e:encL (b++((be 2 v).take (k+1)++List.replicate (2 - (k+1)) 0))=(encL (b++((be 2 v).take k++List.replicate (2 - k) 0))).take (n+k)++[.int .u8 ((Wk.u8 (v.fdiv (2 ^ (8*(2 - 1 - k))))).toNat:Int)]++(encL (b++((be 2 v).take k++List.replicate (2 - k) 0))).drop (n+k+1):=by
  have hk2:k=0∨k=1:=by omega
  rcases hk2 with rfl | rfl
  have:=enc_set1 b [0] 0 (Wk.u8 (v.fdiv (2 ^ (8*(2 - 1 - 0)))))
  rw[hn]at this
  exact this.symm
  have:=enc_set1 (b++[Wk.u8 (v.fdiv (2 ^ 8))]) [] 0 (Wk.u8 (v.fdiv (2 ^ (8*(2 - 1 - 1)))))
  rw[List.length_append,hn]at this
  simp only[List.append_assoc]at this⊢
  exact this.symm
 rw[List.length_singleton,←e]at S
 exact ⟨k+1,⟨by omega,S.uu,S⟩,by omega⟩
 refine kE (xte (xte (xbe (xtn (kS (kR ?_))))));(iterate 2 (refine sq S ?_;clear S;intro a S));refine kN (xtn (kT ?_))
 have hk2:k=2:=by simp at h4;omega
 subst hk2
 have hrow:=S.row (some ⟨g,0,none⟩) (n+2)
 have hnew:=S.rowNew (some ⟨g,0,none⟩) (n+2)
 refine end1 S (fun _=>⟨g,rfl,?_,?_⟩)
 exact (hnew _ rfl).elim (fun h=>h.elim) id
 rw[List.take_of_length_le (by simp[be]),show List.replicate (2 - 2) (0:UInt8)=[] from rfl,List.append_nil]at hrow
 exact hrow
theorem put16_c (p:Option Addr) (n c:Nat) (b:List UInt8) (v:Int) (w0:World) (hn:b.length=n) (hb:n≤1073741824) (hv:0≤v) (hv':v≤65535) (hs:Stable (fun _=>False) w0 (SlF p (encL b))) :
  Ret Tryz.prog 65 [.slice p n c,.int .u16 v] w0 (fun _=>False) fun r w'=>∃ g,r=.slice (some ⟨g,0,none⟩) (n+2) (n+2)∧w0.heap.size≤g∧w'.ownsRow 0 5 1 (.slice (some ⟨g,0,none⟩) (n+2) (n+2)) (n+2) (encL (b++be 2 v)):=by
 refine enter Tryz.func65 rfl rfl (Wd.begin (fs:=[SlF p (encL b)]) (by simpa using hs)) (fun a S=>?_)
 simp only[Tryz.ntmps65,qqA,qqB,Nat.reduceAdd,Nat.reduceSub,qqC,qqD,qqE,qqF]at S
 refine kS (kR (sq S ?_));clear S;intro a S;refine kN (xtn (kS (kR ?_)));(iterate 2 (refine sq S ?_;clear S;intro a S))
 refine srn S (lay16_c p n c b v _ hn hb hv hv' ((S.fact (Φ:=SlF p (encL b)) (by simp)).less fun _ _ h=>h.elim)) ?_;clear S;rintro _ a w1 ⟨g,rfl,hg,hown⟩ - S
 refine sq S ?_;clear S;intro a S;refine kN (xtn (kT ?_))
 exact end1 S (fun _=>⟨g,rfl,hg,hown⟩)
def fieldsOf (k:Int):Int:=
 if k=1 then 1 else if k=2 then 6 else if k=3 then 2 else if k=4∨k=6 then 16 else if k=5 then 8 else if k=7 then 10 else if k=8 then 14 else 0
theorem fields_c (k:Int) (w:World):Ret Tryz.prog 231 [.int .i64 k] w (fun _=>False) fun v _=>v=.int .i64 (fieldsOf k):=by
 refine enter Tryz.func231 rfl rfl (Wd.start w) (fun a S=>?_)
 simp only[Tryz.ntmps231,qqA,qqB,Nat.reduceAdd,Nat.reduceSub,qqC,qqD,qqE,qqF]at S
 refine kS (kR (sq S ?_));clear S;intro a S;refine kN (xtn (kS (kS (kR (sq S ?_)))));clear S;intro a S;refine kN (xtn (kB (kS (kR ?_))));(iterate 2 (refine sq S ?_;clear S;intro a S));refine kN (xtn ?_)
 refine kC S (fun h2=>?_) (fun h2=>?_)
 refine kS (kR (sq S ?_));clear S;intro a S;refine kN (xtn (kT (xbr (xtr ?_))))
 refine fin1 S (fun _=>?_)
 simp at *;first | (exfalso;omega) | simp[*,fieldsOf]
 refine kS (kR ?_);(iterate 2 (refine sq S ?_;clear S;intro a S));refine kN (xtn ?_)
 refine kC S (fun h4=>?_) (fun h4=>?_)
 refine kS (kR (sq S ?_));clear S;intro a S;refine kN (xtn (kT (xbr (xtr ?_))))
 refine fin1 S (fun _=>?_)
 simp at *;first | (exfalso;omega) | simp[*,fieldsOf]
 refine kS (kR ?_);(iterate 2 (refine sq S ?_;clear S;intro a S));refine kN (xtn ?_)
 refine kC S (fun h6=>?_) (fun h6=>?_)
 refine kS (kR (sq S ?_));clear S;intro a S;refine kN (xtn (kT (xbr (xtr ?_))))
 refine fin1 S (fun _=>?_)
 simp at *;first | (exfalso;omega) | simp[*,fieldsOf]
 refine kS (kS (kR ?_));(iterate 2 (refine sq S ?_;clear S;intro a S));refine kN (xtn ?_)
 refine kC S (fun h8=>?_) (fun h8=>?_)
 refine kK (xtn ?_)
 refine kC S (fun h8=>?_) (fun h8=>?_)
 refine kS (kR (sq S ?_));clear S;intro a S;refine kN (xtn (kT (xbr (xtr ?_))))
 refine fin1 S (fun _=>?_)
 simp at *;first | (exfalso;omega) | simp[*,fieldsOf]
 refine kS (kR ?_);(iterate 2 (refine sq S ?_;clear S;intro a S));refine kN (xtn ?_)
 refine kC S (fun h11=>?_) (fun h11=>?_)
 refine kS (kR (sq S ?_));clear S;intro a S;refine kN (xtn (kT (xbr (xtr ?_))))
 refine fin1 S (fun _=>?_)
 simp at *;first | (exfalso;omega) | simp[*,fieldsOf]
 refine kS (kR ?_);(iterate 2 (refine sq S ?_;clear S;intro a S));refine kN (xtn ?_)
 refine kC S (fun h13=>?_) (fun h13=>?_)
 refine kS (kR (sq S ?_));clear S;intro a S;refine kN (xtn (kT (xbr (xtr ?_))))
 refine fin1 S (fun _=>?_)
 simp at *;first | (exfalso;omega) | simp[*,fieldsOf]
 refine kS (kR ?_);(iterate 2 (refine sq S ?_;clear S;intro a S));refine kN (xtn ?_)
 refine kC S (fun h15=>?_) (fun h15=>?_)
 refine kS (kR (sq S ?_));clear S;intro a S;refine kN (xtn (kT (xbr (xtr ?_))))
 refine fin1 S (fun _=>?_)
 simp at *;first | (exfalso;omega) | simp[*,fieldsOf]
 refine kK (xbn (xtn (kS (kR (sq S ?_)))));clear S;intro a S;refine kN (xtn (kT ?_))
 refine fin1 S (fun _=>?_)
 simp at *;first | (exfalso;omega) | simp[*,fieldsOf]
 refine kR ?_;(iterate 2 (refine sq S ?_;clear S;intro a S));refine kN (xtn ?_)
 refine kC S (fun h9=>?_) (fun h9=>?_)
 refine kS (kR (sq S ?_));clear S;intro a S;refine kN (xtn (kT (xbr (xtr ?_))))
 refine fin1 S (fun _=>?_)
 simp at *;first | (exfalso;omega) | simp[*,fieldsOf]
 refine kS (kR ?_);(iterate 2 (refine sq S ?_;clear S;intro a S));refine kN (xtn ?_)
 refine kC S (fun h11=>?_) (fun h11=>?_)
 refine kS (kR (sq S ?_));clear S;intro a S;refine kN (xtn (kT (xbr (xtr ?_))))
 refine fin1 S (fun _=>?_)
 simp at *;first | (exfalso;omega) | simp[*,fieldsOf]
 refine kS (kR ?_);(iterate 2 (refine sq S ?_;clear S;intro a S));refine kN (xtn ?_)
 refine kC S (fun h13=>?_) (fun h13=>?_)
 refine kS (kR (sq S ?_));clear S;intro a S;refine kN (xtn (kT (xbr (xtr ?_))))
 refine fin1 S (fun _=>?_)
 simp at *;first | (exfalso;omega) | simp[*,fieldsOf]
 refine kS (kR ?_);(iterate 2 (refine sq S ?_;clear S;intro a S));refine kN (xtn ?_)
 refine kC S (fun h15=>?_) (fun h15=>?_)
 refine kS (kR (sq S ?_));clear S;intro a S;refine kN (xtn (kT (xbr (xtr ?_))))
 refine fin1 S (fun _=>?_)
 simp at *;first | (exfalso;omega) | simp[*,fieldsOf]
 refine kK (xbn (xtn (kS (kR (sq S ?_)))));clear S;intro a S;refine kN (xtn (kT ?_))
 refine fin1 S (fun _=>?_)
 simp at *;first | (exfalso;omega) | simp[*,fieldsOf]
instance {k:Int} {bs fs} : CallV Tryz.prog 231 [.int .i64 k] bs fs (.int .i64 (fieldsOf k)):=⟨fun w _=>fields_c k w⟩
def hasF (f g:Int):Bool:=!decide (iand .i64 f g=0)
theorem has_c (f g:Int) (w:World):Ret Tryz.prog 232 [.int .i64 f,.int .i64 g] w (fun _=>False) fun v _=>v=.bool (hasF f g):=by
 refine enter Tryz.func232 rfl rfl (Wd.start w) (fun a S=>?_)
 simp only[Tryz.ntmps232,qqA,qqB,Nat.reduceAdd,Nat.reduceSub,qqC,qqD,qqE,qqF]at S
 refine kS (kR (sq S ?_));clear S;intro a S;refine kN (xtn (kS (kR ?_)));(iterate 5 (refine sq S ?_;clear S;intro a S));refine kN (xtn (kT ?_))
 refine fin1 S (fun _=>?_)
 rfl
instance {f g:Int} {bs fs} : CallV Tryz.prog 232 [.int .i64 f,.int .i64 g] bs fs (.bool (hasF f g)):=⟨fun w _=>has_c f g w⟩
def kidsF (f:Int):Int:=if hasF f 16 then 2 else if hasF f 8 then 1 else 0
theorem kids_c (f:Int) (w:World):Ret Tryz.prog 236 [.int .i64 f] w (fun _=>False) fun v _=>v=.int .i64 (kidsF f):=by
 refine enter Tryz.func236 rfl rfl (Wd.start w) (fun a S=>?_)
 simp only[Tryz.ntmps236,qqA,qqB,Nat.reduceAdd,Nat.reduceSub,qqC,qqD,qqE,qqF]at S
 refine kS (kR (sq S ?_));clear S;intro a S;refine kN (xtn (kS (kB (kS (kR (sq S ?_))))));clear S;intro a S;refine sc S ?_;clear S;intro a w S;refine sq S ?_;clear S;intro a S;refine kN (xtn ?_)
 refine kC S (fun h1=>?_) (fun h1=>?_)
 refine kS (kR (sq S ?_));clear S;intro a S;refine kN (xtn (kT (xbr (xtr ?_))))
 refine fin1 S (fun _=>?_)
 simp[*,kidsF]
 refine kS (kR (sq S ?_));clear S;intro a S;refine sc S ?_;clear S;intro a w S;refine sq S ?_;clear S;intro a S;refine kN (xtn ?_)
 refine kC S (fun h3=>?_) (fun h3=>?_)
 refine kS (kR (sq S ?_));clear S;intro a S;refine kN (xtn (kT (xbr (xtr ?_))))
 refine fin1 S (fun _=>?_)
 simp[*,kidsF]
 refine kK (xbn (xtn (kS (kR (sq S ?_)))));clear S;intro a S;refine kN (xtn (kT ?_))
 refine fin1 S (fun _=>?_)
 simp[*,kidsF]
instance {f:Int} {bs fs} : CallV Tryz.prog 236 [.int .i64 f] bs fs (.int .i64 (kidsF f)):=⟨fun w _=>kids_c f w⟩
def knownF (n:Int):Bool:=decide (1≤n)&&decide (n≤6)
theorem known_c (n:Int) (w:World):Ret Tryz.prog 235 [.int .i64 n] w (fun _=>False) fun v _=>v=.bool (knownF n):=by
 refine enter Tryz.func235 rfl rfl (Wd.start w) (fun a S=>?_)
 simp only[Tryz.ntmps235,qqA,qqB,Nat.reduceAdd,Nat.reduceSub,qqC,qqD,qqE,qqF]at S
 refine kS (kR (sq S ?_));clear S;intro a S;refine kN (xtn (kS (kR ?_)));(iterate 3 (refine sq S ?_;clear S;intro a S));(iterate 2 (refine gQ S ?_;clear S;intro a S));(iterate 2 (refine sq S ?_;clear S;intro a S));refine kN (xtn (kT ?_))
 refine fin1 S (fun _=>?_)
 rfl
instance {n:Int} {bs fs} : CallV Tryz.prog 235 [.int .i64 n] bs fs (.bool (knownF n)):=⟨fun w _=>known_c n w⟩
def plainF (k u n:Int) (s:List UInt8) (m:Nat):Bool:=
 let f:=fieldsOf k
 !decide (f=0)&&decide ((m:Int)=kidsF f)&&decide ((s.length:Int)≤64)&&(hasF f 1||decide (s=[]))&&(hasF f 2&&knownF u||!hasF f 2&&decide (u=0))&&(hasF f 4&&decide (0≤n)&&decide (n≤65535)||!hasF f 4&&decide (n=0))
theorem plain_c (k u n:Int) (s:List UInt8) (p:Option Addr) (m c:Nat) (w:World):Ret Tryz.prog 261 [.agg #[.int .i64 k,.int .i64 u,.int .i64 n,str s,.slice p m c]] w (fun _=>False) fun v _=>v=.bool (plainF k u n s m):=by
 refine enter Tryz.func261 rfl rfl (Wd.start w) (fun a S=>?_)
 simp only[Tryz.ntmps261,qqA,qqB,Nat.reduceAdd,Nat.reduceSub,qqC,qqD,qqE,qqF]at S
 refine kS (kR ?_);refine sa S ?_;clear S;intro b1 a w S;refine sq S ?_;clear S;intro a S;refine kN (xtn (kS (kR ?_)));(iterate 2 (refine sq S ?_;clear S;intro a S));refine sc S ?_;clear S;intro a w S;refine sq S ?_;clear S;intro a S;refine kN (xtn (kS ?_));refine c_drawD [(0,true),(1,true),(2,true),(3,true),(4,true),(5,true),(6,true),(7,false),(8,true),(9,true),(10,true),(11,true),(12,true),(13,true),(14,true),(15,true),(16,true),(17,true),(18,false),(19,true),(20,true),(21,true),(22,true),(23,true),(24,true),(25,true)] [] S ?_;clear S;intro w S
 (iterate 3 (refine dq S ?_;clear S;intro a S));(iterate 4 (refine dqG S ?_;clear S;intro a S));refine dl ?_;refine gC S ?_;clear S;intro a w S;refine de S ?_;refine dqG S ?_;clear S;intro a S;(iterate 2 (refine dq S ?_;clear S;intro a S));(iterate 4 (refine dqG S ?_;clear S;intro a S));(iterate 2 (refine dq S ?_;clear S;intro a S));refine dqG S ?_;clear S;intro a S;refine dl ?_
 refine gC S ?_;clear S;intro a w S;refine de S ?_;(iterate 5 (refine dqG S ?_;clear S;intro a S));(iterate 2 (refine dq S ?_;clear S;intro a S));refine dn (xtn (kS (kR ?_)));(iterate 2 (refine sq S ?_;clear S;intro a S));refine gQ S ?_;clear S;intro a S;refine gC S ?_;clear S;intro a w S;(iterate 3 (refine gQ S ?_;clear S;intro a S));refine gC S ?_;clear S;intro a w S
 (iterate 3 (refine gQ S ?_;clear S;intro a S));refine gC S ?_;clear S;intro a w S;(iterate 7 (refine gQ S ?_;clear S;intro a S));(iterate 2 (refine sq S ?_;clear S;intro a S));refine kN (xtn (kS (kR ?_)));(iterate 2 (refine sq S ?_;clear S;intro a S));refine gQ S ?_;clear S;intro a S;refine gC S ?_;clear S;intro a w S;(iterate 12 (refine gQ S ?_;clear S;intro a S));refine gC S ?_;clear S;intro a w S;(iterate 7 (refine gQ S ?_;clear S;intro a S));(iterate 2 (refine sq S ?_;clear S;intro a S));refine kN (xtn (kT ?_))
 refine fin1 S (fun _=>?_)
 first | rfl | simp[plainF]
instance {k u n:Int} {s:List UInt8} {p:Option Addr} {m c:Nat} {bs fs} : CallV Tryz.prog 261 [.agg #[.int .i64 k,.int .i64 u,.int .i64 n,str s,.slice p m c]] bs fs (.bool (plainF k u n s m)):=⟨fun w _=>plain_c k u n s p m c w⟩
mutual
def walkF:Term→Int→Int→Bool × Int
 | .mk k u n s kids,deep,left=>if left - 1 < 0∨60 < deep∨plainF k u n s kids.length=false then (false,left - 1) else walkLF kids (deep+1) (left - 1)
def walkLF:List Term→Int→Int→Bool × Int
 | [],_,left=>(true,left)
 | t::ts,deep,left=>if (walkF t deep left).1 then walkLF ts deep (walkF t deep left).2 else (false,(walkF t deep left).2)
end
mutual
theorem walkF_le:∀ (t:Term) (deep left:Int),(walkF t deep left).2≤left
 | .mk k u n s kids,deep,left=>by
  rw[walkF];split
  simp;omega
  have:=walkLF_le kids (deep+1) (left - 1);omega
theorem walkLF_le:∀ (ts:List Term) (deep left:Int),(walkLF ts deep left).2≤left
 | [],deep,left=>by simp[walkLF]
 | t::ts,deep,left=>by
  have h1:=walkF_le t deep left
  have h2:=walkLF_le ts deep (walkF t deep left).2
  rw[walkLF];split
  omega
  exact h1
end
mutual
theorem walkF_ge:∀ (t:Term) (deep left:Int),0≤left→(walkF t deep left).1=true→0≤(walkF t deep left).2
 | .mk k u n s kids,deep,left=>by
  intro h0 h
  rw[walkF]at h⊢
  split at h
  simp at h
  rename_i hc
  rw[if_neg hc]
  exact walkLF_ge kids (deep+1) (left - 1) (by omega) h
theorem walkLF_ge:∀ (ts:List Term) (deep left:Int),0≤left→(walkLF ts deep left).1=true→0≤(walkLF ts deep left).2
 | [],deep,left=>by intro h0 _;simpa [walkLF] using h0
 | t::ts,deep,left=>by
  intro h0 h
  rw[walkLF]at h⊢
  split at h
  rename_i hc
  rw[if_pos hc]
  exact walkLF_ge ts deep _ (walkF_ge t deep left h0 hc) h
  simp at h
end
theorem walk_c (N:Nat):∀ (t:LTerm) (deep left:Int) (b:Nat) (w0:World),SizeOf.sizeOf t≤N→0≤deep→deep≤61→0≤left→left≤1200→Stable (fun k=>k=b) w0 (LtF t)→w0.heap[b]? = some (.cells #[.int .i64 left] 3 (0,0))→
  Ret Tryz.prog 230 [vL t,.int .i64 deep,.pointer (some ⟨b,0,none⟩)] w0 (fun k=>k=b) fun v w'=>v=.bool (walkF t.t deep left).1∧w'.heap[b]? = some (.cells #[.int .i64 (walkF t.t deep left).2] 3 (0,0)):=by
 induction N with
 | zero=>intro t _ _ _ _ h;cases t;simp at h
 | succ N ih=>
 intro t deep left b w0 hN hd hd' hl hl' hf hb
 have e0:=t.t_eq
 refine enter Tryz.func230 rfl rfl (Wd.lent (fs:=[LtF t]) hb (by simpa using hf)) (fun a S=>?_)
 simp only[Tryz.ntmps230,qqA,qqB,Nat.reduceAdd,Nat.reduceSub,qqC,qqD,qqE,qqF]at S
 refine kS (kR ?_);refine sa S ?_;clear S;intro b3 a w S;refine sq S ?_;clear S;intro a S;refine kN (xtn (kS (kS (kR ?_))));(iterate 4 (refine sq S ?_;clear S;intro a S))
 rw[w64 (left - 1) (by omega) (by omega)]at S
 refine sq S ?_;clear S;intro a S;refine sw S ?_;clear S;intro a w S;refine kN (xtn (kS (kR ?_)));(iterate 5 (refine sq S ?_;clear S;intro a S));(iterate 2 (refine gQ S ?_;clear S;intro a S));(iterate 2 (refine sq S ?_;clear S;intro a S));refine gQ S ?_;clear S;intro a S;refine gC S ?_;clear S;intro a w S;refine gQ S ?_;clear S;intro a S;refine sq S ?_;clear S;intro a S;refine kN (xtn ?_)
 refine kC S (fun h2=>?_) (fun h2=>?_)
 ·refine kS (kR (sq S ?_));clear S;intro a S;refine kN (xtn (kT (xtr ?_)))
  have hbx:=S.box b
  refine fin1 S (fun _=>?_)
  have h3:left - 1 < 0∨60 < deep∨plainF t.kind t.user t.num t.text t.kids.length=false:=by simpa [or_assoc] using h2
  rw[e0,walkF,if_pos (by simpa using h3)]
  exact ⟨rfl,hbx⟩
 ·refine kK (xtn (kS (kS (kR ?_))));(iterate 4 (refine sq S ?_;clear S;intro a S));refine kN (xtn (kB ?_))
  have h3:¬(left - 1 < 0∨60 < deep∨plainF t.kind t.user t.num t.text t.kids.length=false):=by simpa [and_assoc] using h2
  have hlen:=LTerm.len_le hf
  refine c_loop (ι:=Nat) (fun k a w=>k≤t.kids.length∧∃ lf,0≤lf∧lf≤1200∧walkLF ((t.kids.drop k).map LTerm.t) (deep+1) lf=walkF t.t deep left∧∃ uu:Nat→Value,St w0 (fun k=>k=b) [] a w ((vL t)::(.int .i64 deep)::(.pointer (some ⟨b,0,none⟩))::(.pointer (some ⟨b3,0,none⟩))::uu 4::uu 5::(.bool false)::uu 7::uu 8::uu 9::uu 10::uu 11::uu 12::uu 13::uu 14::uu 15::uu 16::uu 17::uu 18::uu 19::uu 20::uu 21::uu 22::uu 23::uu 24::uu 25::uu 26::uu 27::(.slice t.p t.kids.length t.cap)::(.int .i64 t.kids.length)::(.int .i64 (k:Nat))::uu 31::uu 32::uu 33::uu 34::uu 35::uu 36::uu 37::uu 38::uu 39::uu 40::[]) [box b3 43 t.cells,box b 3 [.int .i64 lf]] [LtF t]) (fun k=>t.kids.length - k) 0 ?_ ?_
  ·refine ⟨Nat.zero_le _,left - 1,by omega,by omega,?_,S.uu,S⟩
   rw[e0,walkF,if_neg (by simpa using h3)];rfl
  ·clear S
   rintro k a w ⟨hk,lf,hlf,hlf',hrel,uu,S⟩
   refine kS (kR (sq S ?_));clear S;intro a S;refine kN (xtn (kS ?_))
   refine kC S (fun h5=>?_) (fun h5=>?_)
   ·refine kK (xtn (kS (kB (kS (kR ?_)))))
    have hkl:k < t.kids.length:=by simpa using h5
    obtain ⟨x,ad,hx,hm,hp,hcell,hfx⟩:=LTerm.kid (S.fact (Φ:=LtF t) (by simp)) hkl
    replace S:=S.add hfx
    refine si S ad hp (by omega) (by omega) ?_;clear S;intro a S
    refine slA x.cells S hcell ?_;clear S;intro a S;refine sa S ?_;clear S;intro b8 a w S;refine sw S ?_;clear S;intro a w S;refine kN (xtn (kS (kR ?_)));(iterate 3 (refine sq S ?_;clear S;intro a S))
    rw[w64 (deep+1) (by omega) (by omega)]at S
    refine sq S ?_;clear S;intro a S
    have hdr:t.kids.drop k=x::t.kids.drop (k+1):=by
     rw[List.drop_eq_getElem_cons hkl];congr 1
     exact (List.getElem?_eq_some_iff.1 hx).2
    rw[hdr,List.map_cons,walkLF]at hrel
    have hb1:=walkF_le x.t (deep+1) lf
    refine sb S (b:=b) (ih x (deep+1) lf b w (by have:=LTerm.kid_lt hm;omega) (by omega) (by have:¬60 < deep:=fun h=>h3 (.inr (.inl h));omega) hlf hlf' (S.fb b (by simp)) (S.box b)) ?_;clear S
    rintro v a w ⟨rfl,hcb⟩ hS
    have S:=hS [.int .i64 _] _ inferInstance hcb
    clear hS
    refine sq S ?_;clear S;intro a S;refine kN (xtn ?_)
    refine kC S (fun h7=>?_) (fun h7=>?_)
    ·refine kS (kR (sq S ?_));clear S;intro a S;refine kN (xtn (kT (xbr (xtr (xtr (xbr (xtr ?_)))))))
     have hbx:=S.box b
     refine fin1 S (fun _=>?_)
     have h8:(walkF x.t (deep+1) lf).1=false:=by simpa using h7
     rw[if_neg (by simp[h8])]at hrel
     rw[←hrel]
     exact ⟨rfl,hbx⟩
    ·refine kK (xbn (xtn (kR ?_)));(iterate 2 (refine sq S ?_;clear S;intro a S));refine kN (xtn ?_)
     have h8:(walkF x.t (deep+1) lf).1=true:=by simpa using h7
     rw[if_pos h8]at hrel
     replace S:=S.sub [box b3 43 t.cells,box b 3 [.int .i64 (walkF x.t (deep+1) lf).2]] [LtF t]
     rw[w64 ((k:Int)+1) (by omega) (by omega)]at S
     exact ⟨k+1,⟨hkl,_,walkF_ge x.t (deep+1) lf hlf h8,by omega,hrel,S.uu,S⟩,by omega⟩
   ·refine kE (xte (xte (xbe (xtn (kS (kR (sq S ?_)))))));clear S;intro a S;refine kN (xtn (kT ?_))
    have hbx:=S.box b
    refine fin1 S (fun _=>?_)
    have h6:t.kids.length≤k:=by simpa using h5
    rw[List.drop_of_length_le h6,List.map_nil,walkLF]at hrel
    rw[←hrel]
    exact ⟨rfl,hbx⟩
def sizeF (t:Term):Int:=if (walkF t 1 1200).1 then 1200 - (walkF t 1 1200).2 else 0
theorem size_c (t:LTerm) (w0:World) (hf:Stable (fun _=>False) w0 (LtF t)):Ret Tryz.prog 162 [vL t] w0 (fun _=>False) fun v _=>v=.int .i64 (sizeF t.t):=by
 have h1:=walkF_le t.t 1 1200
 refine enter Tryz.func162 rfl rfl (Wd.begin (fs:=[LtF t]) (by simpa using hf)) (fun a S=>?_)
 simp only[Tryz.ntmps162,qqA,qqB,Nat.reduceAdd,Nat.reduceSub,qqC,qqD,qqE,qqF]at S
 refine kS (kR ?_);refine sa S ?_;clear S;intro b1 a w S;refine sq S ?_;clear S;intro a S;refine kN (xtn (kS (kR ?_)));refine sa S ?_;clear S;intro b3 a w S;refine sw S ?_;clear S;intro a w S;refine kN (xtn (kS (kS (kR (sq S ?_)))));clear S;intro a S
 refine sb S (b:=b3) (walk_c _ t 1 1200 b3 w (Nat.le_refl _) (by omega) (by omega) (by omega) (by omega) (S.fb b3 (by simp)) (S.box b3)) ?_;clear S
 rintro v a w ⟨rfl,hcb⟩ hS
 have S:=hS [.int .i64 _] _ inferInstance hcb
 clear hS
 refine sq S ?_;clear S;intro a S;refine kN (xtn ?_)
 refine kC S (fun h2=>?_) (fun h2=>?_)
 refine kS (kR (sq S ?_));clear S;intro a S;refine kN (xtn (kT (xtr ?_)))
 refine end1 S (fun _=>?_)
 have h3:(walkF t.t 1 1200).1=false:=by simpa using h2
 simp[sizeF,h3]
 refine kK (xtn (kS (kR (sq S ?_))));clear S;intro a S
 have h3:(walkF t.t 1 1200).1=true:=by simpa using h2
 have h4:=walkF_ge t.t 1 1200 (by omega) h3
 refine sq S ?_;clear S;intro a S
 rw[w64 (1200 - (walkF t.t 1 1200).2) (by omega) (by omega)]at S
 refine sq S ?_;clear S;intro a S;refine kN (xtn (kT ?_))
 refine end1 S (fun _=>?_)
 simp[sizeF,h3]
instance {t:LTerm} {bs fs} [HasT fs t]:CallV Tryz.prog 162 [vL t] bs fs (.int .i64 (sizeF t.t)):=⟨fun w m=>size_c t w (m.t0 _)⟩
def checkF (t:Term):Int:=if sizeF t=0 then 150 else 0
theorem check_c (t:LTerm) (w0:World) (hf:Stable (fun _=>False) w0 (LtF t)):Ret Tryz.prog 203 [vL t] w0 (fun _=>False) fun v _=>v=.int .i64 (checkF t.t):=by
 refine enter Tryz.func203 rfl rfl (Wd.begin (fs:=[LtF t]) (by simpa using hf)) (fun a S=>?_)
 simp only[Tryz.ntmps203,qqA,qqB,Nat.reduceAdd,Nat.reduceSub,qqC,qqD,qqE,qqF]at S
 refine kS (kR ?_);refine sa S ?_;clear S;intro b1 a w S;refine sq S ?_;clear S;intro a S;refine kN (xtn (kS (kS (kR (sq S ?_)))));clear S;intro a S;refine sc S ?_;clear S;intro a w S;refine sq S ?_;clear S;intro a S;refine kN (xtn ?_)
 refine kC S (fun h1=>?_) (fun h1=>?_)
 refine kS (kR (sq S ?_));clear S;intro a S;refine kN (xtn (kT (xtr ?_)))
 refine end1 S (fun _=>?_)
 simp at h1
 simp[checkF,h1]
 refine kK (xtn (kS (kR (sq S ?_))));clear S;intro a S;refine kN (xtn (kT ?_))
 refine end1 S (fun _=>?_)
 simp at h1
 simp[checkF,h1]
instance {t:LTerm} {bs fs} [HasT fs t]:CallV Tryz.prog 203 [vL t] bs fs (.int .i64 (checkF t.t)):=⟨fun w m=>check_c t w (m.t0 _)⟩
mutual
def sameF:Term→Term→Bool
 | .mk k u n s ks,.mk k' u' n' s' ks'=>decide (k=k')&&decide (u=u')&&decide (n=n')&&decide (s=s')&&sameLF ks ks'
def sameLF:List Term→List Term→Bool
 | [],[]=>true
 | a::l,b::m=>sameF a b&&sameLF l m
 | [],_::_=>false
 | _::_,[]=>false
end
mutual
theorem sameF_iff:∀ a b:Term,sameF a b=true↔a=b
 | .mk k u n s ks,.mk k' u' n' s' ks'=>by
  have:=sameLF_iff ks ks'
  simp[sameF,this,and_assoc]
theorem sameLF_iff:∀ a b:List Term,sameLF a b=true↔a=b
 | [],[]=>by simp[sameLF]
 | a::l,b::m=>by
  have h1:=sameF_iff a b
  have h2:=sameLF_iff l m
  simp[sameLF,h1,h2]
 | [],_::_=>by simp[sameLF]
 | _::_,[]=>by simp[sameLF]
end
theorem sameLF_len {a b:List Term} (h:a.length≠b.length):sameLF a b=false:=by
 cases hs:sameLF a b with
 | false=>rfl
 | true=>exact absurd (by rw[(sameLF_iff a b).1 hs]) h
def SameC (N:Nat):Prop:=∀ (x y:LTerm) (w:World),SizeOf.sizeOf x≤N→Stable (fun _=>False) w (LtF x)→Stable (fun _=>False) w (LtF y)→Ret Tryz.prog 61 [vL x,vL y] w (fun _=>False) fun v _=>v=.bool (sameF x.t y.t)
theorem equal_c (N:Nat) (hS:SameC N) (p q:Option Addr) (c e n m:Nat) (xs ys:List LTerm) (hn:xs.length=n) (hm:ys.length=m) (w0:World) (hl:n≤9223372036854775807) (hN:∀ x∈xs,SizeOf.sizeOf x≤N) (hx:Stable (fun _=>False) w0 (LsF p 0 xs)) (hy:Stable (fun _=>False) w0 (LsF q 0 ys)) :
  Ret Tryz.prog 159 [.slice p n c,.slice q m e,.func (.func 61) #[] #[]] w0 (fun _=>False) fun v _=>v=.bool (sameLF (xs.map LTerm.t) (ys.map LTerm.t)):=by
 refine enter Tryz.func159 rfl rfl (Wd.begin (fs:=[LsF p 0 xs,LsF q 0 ys]) (by simp;exact ⟨hx,hy⟩)) (fun a S=>?_)
 simp only[Tryz.ntmps159,qqA,qqB,Nat.reduceAdd,Nat.reduceSub,qqC,qqD,qqE,qqF]at S
 refine kS (kR (sq S ?_));clear S;intro a S;refine kN (xtn (kS (kS (kR ?_))));(iterate 5 (refine sq S ?_;clear S;intro a S));refine kN (xtn ?_)
 refine kC S (fun h1=>?_) (fun h1=>?_)
 refine kS (kR (sq S ?_));clear S;intro a S;refine kN (xtn (kT (xtr ?_)))
 refine end1 S (fun _=>?_)
 rw[sameLF_len]
 simp[hn,hm];simp at h1;omega
 refine kK (xtn (kS (kS (kR ?_))));(iterate 3 (refine sq S ?_;clear S;intro a S));refine kN (xtn (kB ?_))
 obtain rfl:n=m:=by simp at h1;omega
 refine c_loop (ι:=Nat) (fun k a w=>k≤n∧sameLF ((xs.drop k).map LTerm.t) ((ys.drop k).map LTerm.t)=sameLF (xs.map LTerm.t) (ys.map LTerm.t)∧∃ uu:Nat→Value,St w0 (fun _=>False) [] a w ((.slice p n c)::(.slice q n e)::(.func (.func 61) #[] #[])::uu 3::uu 4::uu 5::(.bool false)::uu 7::uu 8::uu 9::uu 10::uu 11::uu 12::uu 13::uu 14::(.slice p n c)::(.int .i64 n)::(.int .i64 (k:Nat))::uu 18::uu 19::uu 20::uu 21::uu 22::uu 23::uu 24::uu 25::uu 26::uu 27::uu 28::uu 29::uu 30::uu 31::[]) [] [LsF p 0 xs,LsF q 0 ys]) (fun k=>n - k) 0 ?_ ?_
 exact ⟨Nat.zero_le _,rfl,S.uu,S⟩
 clear S
 rintro k a w ⟨hk,hrel,uu,S⟩
 refine kS (kR (sq S ?_));clear S;intro a S;refine kN (xtn (kS ?_))
 refine kC S (fun h4=>?_) (fun h4=>?_)
 refine kK (xtn (kS (kB (kS (kR (sq S ?_))))));clear S;intro a S
 have hkl:k < n:=by simpa using h4
 obtain ⟨x,ad,hx1,hxm,hxd,hp,hcell,hfx⟩:=ls_kid (S.fact (Φ:=LsF p 0 xs) (by simp)) (k:=k) (by omega)
 replace S:=S.add hfx
 refine si S ad hp (by omega) (by omega) ?_;clear S;intro a S
 refine slA x.cells S hcell ?_;clear S;intro a S;refine sa S ?_;clear S;intro b8 a w S;refine sq S ?_;clear S;intro a S;refine sw S ?_;clear S;intro a w S;refine kN (xtn (kS (kR ?_)));(iterate 2 (refine sq S ?_;clear S;intro a S))
 obtain ⟨y,ad',hy1,hym,hyd,hq,hcell',hfy⟩:=ls_kid (S.fact (Φ:=LsF q 0 ys) (by simp)) (k:=k) (by omega)
 replace S:=S.add hfy
 refine si S ad' hq (by omega) (by omega) ?_;clear S;intro a S
 refine slA y.cells S hcell' ?_;clear S;intro a S;refine sa S ?_;clear S;intro b9 a w S;refine sw S ?_;clear S;intro a w S;refine kN (xtn (kS (kR ?_)));(iterate 3 (refine sq S ?_;clear S;intro a S))
 rw[hxd,hyd,List.map_cons,List.map_cons,sameLF]at hrel
 refine sr S (hS x y w (hN x hxm) (S.mem.fact0 (LtF x)) (S.mem.fact0 (LtF y))) ?_;clear S;rintro v a w rfl S;refine sq S ?_;clear S;intro a S;refine kN (xtn ?_)
 refine kC S (fun h7=>?_) (fun h7=>?_)
 refine kS (kR (sq S ?_));clear S;intro a S;refine kN (xtn (kT (xbr (xtr (xtr (xbr (xtr ?_)))))))
 refine end1 S (fun _=>?_)
 have h8:sameF x.t y.t=false:=by simpa using h7
 simp[←hrel,h8]
 refine kK (xbn (xtn (kR ?_)));(iterate 2 (refine sq S ?_;clear S;intro a S));refine kN (xtn ?_)
 have h8:sameF x.t y.t=true:=by simpa using h7
 rw[h8,Bool.true_and]at hrel
 replace S:=S.sub [] [LsF p 0 xs,LsF q 0 ys]
 rw[w64 ((k:Int)+1) (by omega) (by omega)]at S
 exact ⟨k+1,⟨hkl,hrel,S.uu,S⟩,by omega⟩
 refine kE (xte (xte (xbe (xtn (kS (kR (sq S ?_)))))));clear S;intro a S;refine kN (xtn (kT ?_))
 refine end1 S (fun _=>?_)
 have h6:n≤k:=by simpa using h4
 rw[List.drop_of_length_le (by omega),List.drop_of_length_le (by omega)]at hrel
 simp[←hrel,sameLF]
theorem same_all:∀ N,SameC N:=by
 intro N
 induction N with
 | zero=>intro x y w h;cases x;simp at h
 | succ N ih=>
 intro x y w0 hN hx hy
 have e1:=x.t_eq
 have e2:=y.t_eq
 have hq:∀ {bs fs} [HasT fs x] [HasT fs y],CallV Tryz.prog 159 [.slice x.p x.kids.length x.cap,.slice y.p y.kids.length y.cap,.func (.func 61) #[] #[]] bs fs (.bool (sameLF (x.kids.map LTerm.t) (y.kids.map LTerm.t))):=
  ⟨fun w m=>equal_c N ih x.p y.p x.cap y.cap _ _ x.kids y.kids rfl rfl w (LTerm.len_le hx) (fun z hz=>by have:=LTerm.kid_lt hz;omega) (ls_of_lt (m.t0 _)) (ls_of_lt (m.t0 _))⟩
 refine enter Tryz.func61 rfl rfl (Wd.begin (fs:=[LtF x,LtF y]) (by simp;exact ⟨hx,hy⟩)) (fun a S=>?_)
 simp only[Tryz.ntmps61,qqA,qqB,Nat.reduceAdd,Nat.reduceSub,qqC,qqD,qqE,qqF]at S
 refine kS (kR ?_);refine sa S ?_;clear S;intro b2 a w S;refine sa S ?_;clear S;intro b3 a w S;refine sq S ?_;clear S;intro a S;refine kN (xtn (kS (kR ?_)));(iterate 6 (refine sq S ?_;clear S;intro a S));(iterate 5 (refine gQ S ?_;clear S;intro a S));(iterate 2 (refine sq S ?_;clear S;intro a S));(iterate 5 (refine gQ S ?_;clear S;intro a S));(iterate 2 (refine sq S ?_;clear S;intro a S));(iterate 5 (refine gQ S ?_;clear S;intro a S));(iterate 2 (refine sq S ?_;clear S;intro a S));(iterate 4 (refine gQ S ?_;clear S;intro a S));refine gC S ?_;clear S;intro a w S;(iterate 2 (refine sq S ?_;clear S;intro a S));refine kN (xtn (kT ?_))
 refine end1 S (fun _=>?_)
 rw[e1,e2,sameF]
theorem same_c (x y:LTerm) (w:World) (hx:Stable (fun _=>False) w (LtF x)) (hy:Stable (fun _=>False) w (LtF y)):Ret Tryz.prog 61 [vL x,vL y] w (fun _=>False) fun v _=>v=.bool (sameF x.t y.t):=same_all _ x y w (Nat.le_refl _) hx hy
def put1 (k:Int) (s:List UInt8):List UInt8:=if hasF (fieldsOf k) 1 then Wk.u8 s.length::s else []
def put2 (k u:Int):List UInt8:=if hasF (fieldsOf k) 2 then [Wk.u8 u] else []
def put4 (k n:Int):List UInt8:=if hasF (fieldsOf k) 4 then be 2 (IntKind.u16.wrap n) else []
def headF (k u n:Int) (s:List UInt8):List UInt8:=[Wk.u8 k]++put1 k s++put2 k u++put4 k n
mutual
def bytesF:Term→List UInt8
 | .mk k u n s ks=>headF k u n s++bytesLF ks
def bytesLF:List Term→List UInt8
 | []=>[]
 | t::ts=>bytesF t++bytesLF ts
end
theorem wu16_range (n:Int):0≤IntKind.u16.wrap n∧IntKind.u16.wrap n≤65535:=by
 unfold IntKind.wrap
 simp only[IntKind.bits,IntKind.signed,Bool.false_and]
 simp;omega
theorem sl_stable {w:World} {e:TypeId} {sz:Nat} {p:Option Addr} {n c:Nat} {xs:List Value} (h:w.ownsRow 0 e sz (.slice p n c) n xs):Stable (fun _=>False) w (SlF p xs):=(own_sl h).stable fun _ _ h=>h
def Grew (w0 w':World) (p:Option Addr) (b:List UInt8) (v:Value):Prop:=∃ p' c',v=.slice p' b.length c'∧w'.ownsRow 0 5 1 (.slice p' b.length c') b.length (encL b)∧∀ ad,p'=some ad→(∃ ad',p=some ad'∧ad.block=ad'.block)∨w0.heap.size≤ad.block
theorem put_c (N:Nat):∀ (t:LTerm) (p:Option Addr) (n c:Nat) (b:List UInt8) (w0:World),SizeOf.sizeOf t≤N→b.length=n→n+(bytesF t.t).length≤1073741824→w0.ownsRow 0 5 1 (.slice p n c) n (encL b)→Stable (fun k=>∃ ad,p=some ad∧k=ad.block) w0 (LtF t)→
  Ret Tryz.prog 163 [.slice p n c,vL t] w0 (fun k=>∃ ad,p=some ad∧k=ad.block) fun v w'=>Grew w0 w' p (b++bytesF t.t) v:=by
 induction N with
 | zero=>intro t _ _ _ _ _ h;cases t;simp at h
 | succ N ih=>
 intro t p n c b w0 hN hbn hbd hown hf
 have hlen:=LTerm.len_le hf
 have e0:bytesF t.t=headF t.kind t.user t.num t.text++bytesLF (t.kids.map LTerm.t):=by rw[t.t_eq,bytesF]
 have hL:n+(1+(put1 t.kind t.text).length+(put2 t.kind t.user).length+(put4 t.kind t.num).length+(bytesLF (t.kids.map LTerm.t)).length)≤1073741824:=by
  rw[e0]at hbd;simp only[headF,List.length_append,List.length_singleton]at hbd;omega
 refine enter Tryz.func163 rfl rfl (Wd.rowLent (fs:=[LtF t]) hown (by simpa using hf)) (fun a S=>?_)
 simp only[Tryz.ntmps163,qqA,qqB,Nat.reduceAdd,Nat.reduceSub,qqC,qqD,qqE,qqF]at S
 refine kS (kR ?_);refine sa S ?_;clear S;intro b3 a w S;refine sq S ?_;clear S;intro a S;refine kN (xtn (kS (kR ?_)));(iterate 2 (refine sq S ?_;clear S;intro a S));refine sc S ?_;clear S;intro a w S;refine sq S ?_;clear S;intro a S;refine kN (xtn (kS (kR ?_)));(iterate 4 (refine sq S ?_;clear S;intro a S));refine sn S ?_;clear S;intro b15 a w S
 refine sap S (by simp only[maxLen];omega) (by omega) ?_;clear S;intro p1 c1 a w _ S
 rw[show encL b++[Value.int .u8 (IntKind.u8.wrap t.kind)]=encL (b++([Wk.u8 t.kind])) from by rw[encL_append,u8_wrap];rfl]at S
 refine sq S ?_;clear S;intro a S;refine kN (xtn ?_)
 have hm1:n+1=(b++([Wk.u8 t.kind])).length:=by rw[List.length_append,hbn];rfl
 generalize n+1=m1 at S hm1
 refine c_merge (fun a w=>∃ (p':Option Addr) (c' m:Nat),m=(b++([Wk.u8 t.kind]++put1 t.kind t.text)).length∧∃ uu:Nat→Value,St w0 (fun k=>∃ ad,p=some ad∧k=ad.block) [] a w ((.slice p' m c')::(vL t)::uu 2::(.pointer (some ⟨b3,0,none⟩))::(.slice none 0 0)::(.int .i64 (fieldsOf t.kind))::uu 6::uu 7::uu 8::uu 9::uu 10::uu 11::uu 12::uu 13::uu 14::uu 15::uu 16::uu 17::uu 18::uu 19::uu 20::uu 21::uu 22::uu 23::uu 24::uu 25::uu 26::uu 27::uu 28::uu 29::uu 30::uu 31::uu 32::uu 33::uu 34::uu 35::uu 36::uu 37::uu 38::uu 39::uu 40::uu 41::uu 42::uu 43::uu 44::uu 45::uu 46::uu 47::uu 48::uu 49::uu 50::uu 51::uu 52::uu 53::uu 54::uu 55::[]) [box b3 43 t.cells,row 5 1 p' m c' (encL (b++([Wk.u8 t.kind]++put1 t.kind t.text)))] [LtF t]) ?_ ?_
 ·refine kS (kR (sq S ?_));clear S;intro a S;refine sc S ?_;clear S;intro a w S;refine kN (xtn ?_)
  refine kC S (fun h3=>?_) (fun h3=>?_)
  ·refine c_drawE [(0,true),(1,true),(2,true),(3,true),(4,true),(7,true),(8,true),(5,false),(6,false),(9,false),(10,true)] [box b3 43 t.cells] S ?_;clear S;intro w S;(iterate 7 (refine dq S ?_;clear S;intro a S));refine dl (sn S ?_);clear S;intro b24 a w S;refine de S ?_;refine dl ?_
   have h3':hasF (fieldsOf t.kind) 1=true:=h3
   have e1:put1 t.kind t.text=Wk.u8 t.text.length::t.text:=by rw[put1,if_pos h3']
   have hl1:(put1 t.kind t.text).length=t.text.length+1:=by rw[e1];rfl
   have hm2:m1=n+1:=by rw[hm1,List.length_append,hbn];rfl
   refine sap S (by simp only[maxLen];omega) (by omega) ?_;clear S;intro p2 c2 a w _ S
   refine de S ?_;refine dl ?_
   refine sap S (by simp only[maxLen];omega) (by omega) ?_;clear S;intro p3 c3 a w _ S
   rw[show encL (b++([Wk.u8 t.kind]))++[Value.int .u8 (IntKind.u8.wrap (t.text.length:Int))]++encL t.text=encL (b++([Wk.u8 t.kind]++put1 t.kind t.text)) from by rw[e1,u8_wrap];simp[encL,Enc.cells]]at S
   refine de S ?_;refine dq S ?_;clear S;intro a S;refine dn (xtn ?_)
   replace S:=S.sub [box b3 43 t.cells,row 5 1 p3 (m1+1+t.text.length) c3 (encL (b++([Wk.u8 t.kind]++put1 t.kind t.text)))] [LtF t]
   exact ⟨p3,c3,_,by rw[hm2,List.length_append,List.length_append,hl1,hbn];simp;omega,S.uu,S⟩
  ·refine kK (xtn ?_)
   have h3':¬hasF (fieldsOf t.kind) 1=true:=by simpa using h3
   have e1:put1 t.kind t.text=[]:=by rw[put1,if_neg h3']
   rw[show b++([Wk.u8 t.kind])=b++([Wk.u8 t.kind]++put1 t.kind t.text) from by rw[e1,List.append_nil]]at S hm1
   replace S:=S.sub [box b3 43 t.cells,row 5 1 p1 m1 c1 (encL (b++([Wk.u8 t.kind]++put1 t.kind t.text)))] [LtF t]
   exact ⟨p1,c1,m1,hm1,S.uu,S⟩
 ·clear S;rintro a w ⟨p',c',m,hm,uu,S⟩
  have hlm:m=n+1+(put1 t.kind t.text).length:=by rw[hm];simp[hbn];omega
  refine c_merge (fun a w=>∃ (p':Option Addr) (c' m:Nat),m=(b++([Wk.u8 t.kind]++put1 t.kind t.text++put2 t.kind t.user)).length∧∃ uu:Nat→Value,St w0 (fun k=>∃ ad,p=some ad∧k=ad.block) [] a w ((.slice p' m c')::(vL t)::uu 2::(.pointer (some ⟨b3,0,none⟩))::(.slice none 0 0)::(.int .i64 (fieldsOf t.kind))::uu 6::uu 7::uu 8::uu 9::uu 10::uu 11::uu 12::uu 13::uu 14::uu 15::uu 16::uu 17::uu 18::uu 19::uu 20::uu 21::uu 22::uu 23::uu 24::uu 25::uu 26::uu 27::uu 28::uu 29::uu 30::uu 31::uu 32::uu 33::uu 34::uu 35::uu 36::uu 37::uu 38::uu 39::uu 40::uu 41::uu 42::uu 43::uu 44::uu 45::uu 46::uu 47::uu 48::uu 49::uu 50::uu 51::uu 52::uu 53::uu 54::uu 55::[]) [box b3 43 t.cells,row 5 1 p' m c' (encL (b++([Wk.u8 t.kind]++put1 t.kind t.text++put2 t.kind t.user)))] [LtF t]) ?_ ?_
  ·refine kS (kR (sq S ?_));clear S;intro a S;refine sc S ?_;clear S;intro a w S;refine kN (xtn ?_)
   refine kC S (fun h5=>?_) (fun h5=>?_)
   ·refine kR ?_;(iterate 4 (refine sq S ?_;clear S;intro a S))
    have h5':hasF (fieldsOf t.kind) 2=true:=h5
    have e2:put2 t.kind t.user=[Wk.u8 t.user]:=by rw[put2,if_pos h5']
    have hl2:(put2 t.kind t.user).length=1:=by rw[e2];rfl
    refine sn S ?_;clear S;intro b35 a w S
    refine sap S (by simp only[maxLen];omega) (by omega) ?_;clear S;intro p2 c2 a w _ S
    rw[show encL (b++([Wk.u8 t.kind]++put1 t.kind t.text))++[Value.int .u8 (IntKind.u8.wrap t.user)]=encL (b++([Wk.u8 t.kind]++put1 t.kind t.text++put2 t.kind t.user)) from by rw[e2,u8_wrap];simp[encL,Enc.cells]]at S
    refine sq S ?_;clear S;intro a S;refine kN (xtn ?_)
    replace S:=S.sub [box b3 43 t.cells,row 5 1 p2 (m+1) c2 (encL (b++([Wk.u8 t.kind]++put1 t.kind t.text++put2 t.kind t.user)))] [LtF t]
    exact ⟨p2,c2,_,by rw[hm];simp[hl2];omega,S.uu,S⟩
   ·refine kK (xtn ?_)
    have h5':¬hasF (fieldsOf t.kind) 2=true:=by simpa using h5
    have e2:put2 t.kind t.user=[]:=by rw[put2,if_neg h5']
    rw[show b++([Wk.u8 t.kind]++put1 t.kind t.text)=b++([Wk.u8 t.kind]++put1 t.kind t.text++put2 t.kind t.user) from by rw[e2,List.append_nil]]at S hm
    exact ⟨p',c',m,hm,S.uu,S⟩
  ·clear S;clear hlm hm;clear m;rintro a w ⟨p',c',m,hm,uu,S⟩
   have hlm:m=n+1+(put1 t.kind t.text).length+(put2 t.kind t.user).length:=by rw[hm];simp[hbn];omega
   refine c_merge (fun a w=>∃ (p':Option Addr) (c' m:Nat),m=(b++(headF t.kind t.user t.num t.text)).length∧∃ uu:Nat→Value,St w0 (fun k=>∃ ad,p=some ad∧k=ad.block) [] a w ((.slice p' m c')::(vL t)::uu 2::(.pointer (some ⟨b3,0,none⟩))::(.slice none 0 0)::(.int .i64 (fieldsOf t.kind))::uu 6::uu 7::uu 8::uu 9::uu 10::uu 11::uu 12::uu 13::uu 14::uu 15::uu 16::uu 17::uu 18::uu 19::uu 20::uu 21::uu 22::uu 23::uu 24::uu 25::uu 26::uu 27::uu 28::uu 29::uu 30::uu 31::uu 32::uu 33::uu 34::uu 35::uu 36::uu 37::uu 38::uu 39::uu 40::uu 41::uu 42::uu 43::uu 44::uu 45::uu 46::uu 47::uu 48::uu 49::uu 50::uu 51::uu 52::uu 53::uu 54::uu 55::[]) [box b3 43 t.cells,row 5 1 p' m c' (encL (b++(headF t.kind t.user t.num t.text)))] [LtF t]) ?_ ?_
   ·refine kS (kR (sq S ?_));clear S;intro a S;refine sc S ?_;clear S;intro a w S;refine kN (xtn ?_)
    refine kC S (fun h7=>?_) (fun h7=>?_)
    ·refine kR ?_;(iterate 4 (refine sq S ?_;clear S;intro a S))
     have h7':hasF (fieldsOf t.kind) 4=true:=h7
     have e4:put4 t.kind t.num=be 2 (IntKind.u16.wrap t.num):=by rw[put4,if_pos h7']
     have hwr:=wu16_range t.num
     refine srn S (put16_c p' m c' (b++([Wk.u8 t.kind]++put1 t.kind t.text++put2 t.kind t.user)) (IntKind.u16.wrap t.num) w hm.symm (by omega) hwr.1 hwr.2 (sl_stable (S.row p' m))) ?_;clear S;rintro _ a w ⟨g,rfl,hg,hown2⟩ hS -
     have S:=hS hown2 (fun ad h=>by cases h;exact hg)
     clear hS
     rw[show b++([Wk.u8 t.kind]++put1 t.kind t.text++put2 t.kind t.user)++be 2 (IntKind.u16.wrap t.num)=b++(headF t.kind t.user t.num t.text) from by rw[headF,e4,List.append_assoc]]at S
     refine sq S ?_;clear S;intro a S;refine kN (xtn ?_)
     have S2:St w0 (fun k=>∃ ad,p=some ad∧k=ad.block) [] _ _ _ [box b3 43 t.cells,row 5 1 (some ⟨g,0,none⟩) (m+2) (m+2) (encL (b++(headF t.kind t.user t.num t.text)))] [LtF t]:=S.swap2
     exact ⟨_,_,_,by rw[hm,headF,e4];simp[be];omega,S.uu,S2⟩
    ·refine kK (xtn ?_)
     have h7':¬hasF (fieldsOf t.kind) 4=true:=by simpa using h7
     have e4:put4 t.kind t.num=[]:=by rw[put4,if_neg h7']
     rw[show b++([Wk.u8 t.kind]++put1 t.kind t.text++put2 t.kind t.user)=b++(headF t.kind t.user t.num t.text) from by rw[headF,e4,List.append_nil]]at S hm
     exact ⟨p',c',m,hm,S.uu,S⟩
   ·clear S;clear hlm hm;clear m;rintro a w ⟨p',c',m,hm,uu,S⟩
    refine kS (kS (kR ?_));(iterate 4 (refine sq S ?_;clear S;intro a S));refine kN (xtn (kB ?_))
    refine c_loop (ι:=Nat) (fun k a w=>k≤t.kids.length∧∃ (p':Option Addr) (c' m:Nat) (b':List UInt8),m=b'.length∧b'++bytesLF ((t.kids.drop k).map LTerm.t)=b++bytesF t.t∧∃ uu:Nat→Value,St w0 (fun k=>∃ ad,p=some ad∧k=ad.block) [] a w ((.slice p' m c')::(vL t)::uu 2::(.pointer (some ⟨b3,0,none⟩))::(.slice none 0 0)::(.int .i64 (fieldsOf t.kind))::uu 6::uu 7::uu 8::uu 9::uu 10::uu 11::uu 12::uu 13::uu 14::uu 15::uu 16::uu 17::uu 18::uu 19::uu 20::uu 21::uu 22::uu 23::uu 24::uu 25::uu 26::uu 27::uu 28::uu 29::uu 30::uu 31::uu 32::uu 33::uu 34::uu 35::uu 36::uu 37::uu 38::uu 39::uu 40::uu 41::uu 42::uu 43::uu 44::(.slice t.p t.kids.length t.cap)::(.int .i64 t.kids.length)::(.int .i64 (k:Nat))::uu 48::uu 49::uu 50::uu 51::uu 52::uu 53::uu 54::uu 55::[]) [box b3 43 t.cells,row 5 1 p' m c' (encL b')] [LtF t]) (fun k=>t.kids.length - k) 0 ?_ ?_
    ·exact ⟨Nat.zero_le _,p',c',m,_,hm,by rw[e0,List.append_assoc];rfl,S.uu,S⟩
    ·clear S;clear hm;clear m p' c'
     rintro k a w ⟨hk,p',c',m,b',hm,hrel,uu,S⟩
     refine kS (kR (sq S ?_));clear S;intro a S;refine kN (xtn (kS ?_))
     refine kC S (fun h10=>?_) (fun h10=>?_)
     ·refine kK (xtn (kS (kB (kS (kR ?_)))))
      have hkl:k < t.kids.length:=by simpa using h10
      have hK:KLt k t.kids.length:=⟨hkl⟩
      (iterate 2 (refine sq S ?_;clear S;intro a S));refine sa S ?_;clear S;intro b7 a w S;refine sw S ?_;clear S;intro a w S;refine kN (xtn (kR ?_));(iterate 2 (refine sq S ?_;clear S;intro a S))
      rw[nth_drop hkl,List.map_cons,bytesLF]at hrel
      have hbl:=congrArg List.length hrel
      simp only[List.length_append,hbn]at hbl
      refine srg p' m S (ih (nthL t.kids k) p' m c' b' w (by have:=LTerm.kid_lt (nth_mem hkl);omega) hm.symm (by omega) (S.row p' m) ((S.t _).less fun _ _ hk=>⟨_,HasRow.mem (p:=p') (n:=m),hk⟩)) ?_;clear S;rintro _ a w ⟨p2,c2,rfl,hown2,hnew2⟩ hS
      have S:=hS _ hown2 hnew2
      clear hS
      refine sq S ?_;clear S;intro a S;refine kN (xbn (xtn (kR ?_)));(iterate 2 (refine sq S ?_;clear S;intro a S));refine kN (xtn ?_)
      rw[w64 ((k:Int)+1) (by omega) (by omega)]at S
      replace S:=S.sub [box b3 43 t.cells,row 5 1 p2 (b'++bytesF (nthL t.kids k).t).length c2 (encL (b'++bytesF (nthL t.kids k).t))] [LtF t]
      exact ⟨k+1,⟨hkl,p2,c2,_,_,rfl,by rw[List.append_assoc];exact hrel,S.uu,S⟩,by omega⟩
     ·refine kE (xte (xte (xbe (xtn (kS (kR ?_))))));(iterate 2 (refine sq S ?_;clear S;intro a S));refine kN (xtn (kT ?_))
      have h9:t.kids.length≤k:=by simpa using h10
      rw[List.drop_of_length_le h9,List.map_nil,bytesLF,List.append_nil]at hrel
      subst hrel hm
      have hrow:=S.row p' (b++bytesF t.t).length
      have hnew:=S.rowNew p' (b++bytesF t.t).length
      exact end1 S (fun _=>⟨p',c',rfl,hrow,hnew⟩)
theorem head_le {k u n:Int} {s:List UInt8} {m:Nat} (h:plainF k u n s m=true):(headF k u n s).length≤69:=by
 have h1:s.length≤64:=by
  simp only[plainF,Bool.and_eq_true,decide_eq_true_eq]at h
  omega
 have h2:(put1 k s).length≤65:=by unfold put1;split <;> simp <;> omega
 have h3:(put2 k u).length≤1:=by unfold put2;split <;> simp
 have h4:(put4 k n).length≤2:=by unfold put4;split <;> simp[be]
 simp only[headF,List.length_append,List.length_singleton]
 omega
mutual
theorem bytes_le:∀ (t:Term) (deep left:Int),(walkF t deep left).1=true→((bytesF t).length:Int)≤70*(left - (walkF t deep left).2)
 | .mk k u n s ks,deep,left=>by
  intro h
  rw[walkF]at h⊢
  split at h
  simp at h
  rename_i hc
  rw[if_neg hc]
  have hp:plainF k u n s ks.length=true:=by
   cases hb:plainF k u n s ks.length with
   | true=>rfl
   | false=>exact absurd (.inr (.inr hb)) hc
  have h1:=head_le hp
  have h2:=bytesL_le ks (deep+1) (left - 1) h
  rw[bytesF,List.length_append]
  omega
theorem bytesL_le:∀ (ts:List Term) (deep left:Int),(walkLF ts deep left).1=true→((bytesLF ts).length:Int)≤70*(left - (walkLF ts deep left).2)
 | [],deep,left=>by intro _;simp[bytesLF,walkLF]
 | t::ts,deep,left=>by
  intro h
  rw[walkLF]at h⊢
  split at h
  rename_i hc
  rw[if_pos hc]
  have h1:=bytes_le t deep left hc
  have h2:=bytesL_le ts deep _ h
  rw[bytesLF,List.length_append]
  omega
  simp at h
end
theorem bytes_small {t:Term} (h:sizeF t≠0):(bytesF t).length≤84000:=by
 unfold sizeF at h
 split at h
 rename_i hc
 have h1:=bytes_le t 1 1200 hc
 have h2:=walkF_ge t 1 1200 (by omega) hc
 omega
 exact absurd rfl h
def nameF (t:Term):List UInt8:=if sizeF t=0 then [] else bytesF t
theorem encode_c (t:LTerm) (w0:World) (hf:Stable (fun _=>False) w0 (LtF t)):Ret Tryz.prog 64 [vL t] w0 (fun _=>False) fun v w'=>
  ∃ p c,v=.tuple ⟨[.slice p (nameF t.t).length c,.int .i64 (checkF t.t)]⟩∧w'.ownsRow 0 5 1 (.slice p (nameF t.t).length c) (nameF t.t).length (encL (nameF t.t))∧∀ ad,p=some ad→w0.heap.size≤ad.block:=by
 refine enter Tryz.func64 rfl rfl (Wd.begin (fs:=[LtF t]) (by simpa using hf)) (fun a S=>?_)
 simp only[Tryz.ntmps64,qqA,qqB,Nat.reduceAdd,Nat.reduceSub,qqC,qqD,qqE,qqF]at S
 refine kS (kR ?_);refine sa S ?_;clear S;intro b1 a w S;(iterate 2 (refine sq S ?_;clear S;intro a S));refine kN (xtn (kS (kS (kR (sq S ?_)))));clear S;intro a S;refine sc S ?_;clear S;intro a w S;refine sq S ?_;clear S;intro a S;refine kN (xtn ?_)
 refine kC S (fun h1=>?_) (fun h1=>?_)
 refine kS (kR ?_);(iterate 2 (refine sq S ?_;clear S;intro a S));refine kN (xtn (kT (xtr ?_)))
 have hz:sizeF t.t=0:=by simpa using h1
 have e1:nameF t.t=[]:=by rw[nameF,if_pos hz]
 have e2:checkF t.t=150:=by rw[checkF,if_pos hz]
 refine end2 S (fun _=>?_)
 rw[e1,e2]
 exact ⟨none,0,rfl,World.ownsRow_nil _ _ _ _,fun _ h=>by cases h⟩
 refine kK (xtn (kS (kR (sq S ?_))));clear S;intro a S
 have hz:sizeF t.t≠0:=by simpa using h1
 have hsm:=bytes_small hz
 have e1:nameF t.t=bytesF t.t:=by rw[nameF,if_neg hz]
 have e2:checkF t.t=0:=by rw[checkF,if_neg hz]
 replace S:=S.addNil 5 1
 refine srg none 0 S (put_c _ t none 0 0 [] w (Nat.le_refl _) rfl (by omega) (S.row none 0) ((S.t t).less fun _ _ ⟨_,h,_⟩=>by cases h)) ?_;clear S;rintro _ a w ⟨p2,c2,rfl,hown2,hnew2⟩ hS
 have S:=hS _ hown2 hnew2
 clear hS
 rw[qqF]at S
 (iterate 2 (refine sq S ?_;clear S;intro a S));refine kN (xtn (kT ?_))
 have hrow:=S.row p2 (bytesF t.t).length
 have hnew:=S.rowNew p2 (bytesF t.t).length
 refine end2 S (fun _=>?_)
 rw[e1,e2]
 exact ⟨p2,c2,rfl,hrow,fun ad h=>(hnew ad h).elim (fun h=>h.elim) id⟩
inductive Ok:Term→Prop where
 | mk {k u n:Int} {s:List UInt8} {ks:List Term} (h:plainF k u n s ks.length=true) (hk:∀ t∈ks,Ok t):Ok (.mk k u n s ks)
def Good (t:Term):Prop:=sizeF t≠0
mutual
def cnt:Term→Nat
 | .mk _ _ _ _ ks=>1+cntL ks
def cntL:List Term→Nat
 | []=>0
 | t::ts=>cnt t+cntL ts
end
theorem cnt_pos (t:Term):0 < cnt t:=by cases t;simp[cnt];omega
theorem cntL_mem {t:Term} {ts:List Term} (h:t∈ts):cnt t≤cntL ts:=by
 induction ts with
 | nil=>cases h
 | cons x xs ih=>
  simp only[cntL]
  rcases List.mem_cons.1 h with rfl | h
  ·omega
  ·have:=ih h;omega
mutual
theorem walk_more:∀ (t:Term) (d l d' l':Int),(walkF t d l).1=true→d'≤d→l≤l'→(walkF t d' l').1=true∧(walkF t d' l').2=l' - cnt t
 | .mk k u n s ks,d,l,d',l'=>by
  intro h hd hl
  rw[walkF]at h⊢
  split at h
  cases h
  rename_i hc
  rw[if_neg (fun hn=>hc (hn.elim (fun q=>.inl (by omega)) (fun q=>.inr (q.elim (fun q=>.inl (by omega)) .inr))))]
  obtain ⟨h1,h2⟩:=walkL_more ks (d+1) (l - 1) (d'+1) (l' - 1) h (by omega) (by omega)
  refine ⟨h1,?_⟩
  rw[h2,cnt];omega
theorem walkL_more:∀ (ts:List Term) (d l d' l':Int),(walkLF ts d l).1=true→d'≤d→l≤l'→(walkLF ts d' l').1=true∧(walkLF ts d' l').2=l' - cntL ts
 | [],d,l,d',l'=>by intro _ _ _;simp[walkLF,cntL]
 | t::ts,d,l,d',l'=>by
  intro h hd hl
  rw[walkLF]at h⊢
  split at h
  rename_i hc
  obtain ⟨h1,h2⟩:=walk_more t d l d' l' hc hd hl
  obtain ⟨_,h2'⟩:=walk_more t d l d l hc (Int.le_refl _) (Int.le_refl _)
  rw[if_pos h1]
  obtain ⟨h3,h4⟩:=walkL_more ts d _ d' (walkF t d' l').2 h hd (by omega)
  refine ⟨h3,?_⟩
  rw[h4,h2,cntL];omega
  cases h
end
theorem good_walk {t:Term} : Good t↔(walkF t 1 1200).1=true:=by
 constructor
 intro h
 unfold Good sizeF at h
 split at h
 assumption
 exact absurd rfl h
 intro h
 unfold Good sizeF
 rw[if_pos h]
 obtain ⟨_,h2⟩:=walk_more t 1 1200 1 1200 h (Int.le_refl _) (Int.le_refl _)
 have:=cnt_pos t
 omega
theorem good_le {t:Term} (h:Good t):cnt t≤1200:=by
 have h1:=good_walk.1 h
 obtain ⟨_,h2⟩:=walk_more t 1 1200 1 1200 h1 (Int.le_refl _) (Int.le_refl _)
 have:=walkF_ge t 1 1200 (by omega) h1
 omega
theorem good_check {t:Term} : checkF t=0↔Good t:=by
 unfold checkF Good
 split <;> simp_all
end Go.Proofs.YtdakncgafdnjfaaGreat
namespace Go.Wk
open Go
def lpI (L D:Nat) (r:Loop):Item where
 foot:=fun k=>k=D∨k=L
 holds:=fun w=>w.heap[L]? = some (.loop r)∧w.heap[D]? = some (.deferred (some []))
def lpR (b:Loop) (s:LoopState) (p:Option Code):Loop:={ b with state:=s,pending:=p }
def marks (Ds:List Nat):Item where
 foot:=fun k=>k∈Ds
 holds:=fun w=>Ds.Nodup∧∀ k∈Ds,w.heap[k]? = some (.deferred (some []))
def dsOf (Ds:List Nat):List Deferred:=Ds.map fun D=>{ target:=.collected D,args:=#[] }
theorem lpI_loc (L D:Nat) (r:Loop) (w1 w2:World) (h:∀ k,(lpI L D r).foot k→w2.heap[k]? = w1.heap[k]?) (h1:(lpI L D r).holds w1):(lpI L D r).holds w2:=
 ⟨(h L (.inr rfl)).trans h1.1,(h D (.inl rfl)).trans h1.2⟩
theorem marks_loc (Ds:List Nat) (w1 w2:World) (h:∀ k,(marks Ds).foot k→w2.heap[k]? = w1.heap[k]?) (h1:(marks Ds).holds w1):(marks Ds).holds w2:=
 ⟨h1.1,fun k hk=>(h k hk).trans (h1.2 k hk)⟩
theorem Agree.putObj {M:Nat→Prop} (w:World) (g:Nat) (o:Obj) (hg:M g):Agree M w (w.putObj g o):=
 ⟨rfl,rfl,rfl,by simp,fun k _ hm=>World.putObj_heap_other (fun e=>hm (e▸hg))⟩
def IterRet {α:Type} (P:Program) (g:Nat) (lb:List Value) (w:World) (M:Nat→Prop) (E:α→List Value→World→World→Prop) (xs:List α):Prop:=
 ∀ (l:Nat) (J:Nat→World→Prop) (Jx:World→Prop),
  (∀ i x vs W0 W1,xs[i]? = some x→J i W0→Grow W0 W1→E x vs W0 W1→YieldAt (FW none) 0 P l vs.toArray W1 fun e W'=>
   Agree M w W'∧((e=.returned (.bool true)∧J (i+1) W')∨(e=.returned (.bool false)∧Jx W')))→
  J 0 w→
  CallsIn (FW none) 0 P g (.func (.yield l) #[] #[]::lb).toArray w fun e W'=>(∃ v,e=.returned v)∧∃ W0,Grow W0 W'∧(J xs.length W0∨Jx W0)
theorem Wd.rebase {w0 w1 w:World} {M0 M:Nat→Prop} {bs:List Item} {fs:List (World→Prop)} (h:Wd w1 M w bs fs) (ha:Agree M0 w0 w1) (hM:∀ k,M k→M0 k∨w0.heap.size≤k):Wd w0 M0 w bs fs where
 agree:=ha.trans' h.agree fun i hi hm=>(hM i hm).elim id (fun h=>absurd h (by omega))
 held:=h.held
 lt:=h.lt
 own:=fun it hi ho k hk=>(h.own it hi ho k hk).elim (hM k) (fun h1=>.inr (Nat.le_trans ha.size h1))
 apart:=h.apart
 facts:=h.facts
 loc:=h.loc
theorem Wd.join {w0 w:World} {M0:Nat→Prop} {Es Ds:List Nat} {bs bs':List Item} {fs:List (World→Prop)} (h:Wd w0 M0 w (marks Es::bs) fs) (hr:ReplI bs (marks Ds) (marks (Es++Ds)) bs'):Wd w0 M0 w bs' fs:=by
 obtain ⟨pre,post,rfl,rfl⟩:=hr.ex
 have h2:=h.perm (bs':=marks Es::marks Ds::(pre++post)) (.cons _ (List.perm_middle.symm))
 have hap:=List.pairwise_cons.1 h2.apart
 have hap2:=List.pairwise_cons.1 hap.2
 have he:(marks Es).holds w:=h2.held _ (by simp)
 have hd:(marks Ds).holds w:=h2.held _ (by simp)
 refine Wd.perm (bs:=marks (Es++Ds)::(pre++post)) ?_ List.perm_middle
 have hfeq:foots (marks (Es++Ds)::(pre++post))=foots (marks Es::marks Ds::(pre++post)):=by
  funext k
  simp only[foots,List.mem_cons,or_and_right,exists_or,exists_eq_left,marks,List.mem_append,or_assoc]
 refine ⟨h2.agree,?_,?_,?_,List.pairwise_cons.2 ⟨?_,hap2.2⟩,?_,?_⟩
 intro it hi
 rcases List.mem_cons.1 hi with rfl | hi
 exact ⟨List.nodup_append.2 ⟨he.1,hd.1,fun a ha b hb e=>hap.1 (marks Ds) (by simp) a ha (e▸hb)⟩,fun k hk=>(List.mem_append.1 hk).elim (he.2 k) (hd.2 k)⟩
 exact h2.held it (by simp only[List.mem_cons];exact .inr (.inr hi))
 intro it hi k hk
 rcases List.mem_cons.1 hi with rfl | hi
 exact (List.mem_append.1 hk).elim (fun q=>h2.lt (marks Es) (by simp) k q) (fun q=>h2.lt (marks Ds) (by simp) k q)
 exact h2.lt it (by simp only[List.mem_cons];exact .inr (.inr hi)) k hk
 intro it hi ho k hk
 rcases List.mem_cons.1 hi with rfl | hi
 exact (List.mem_append.1 hk).elim (fun q=>h2.own (marks Es) (by simp) rfl k q) (fun q=>h2.own (marks Ds) (by simp) rfl k q)
 exact h2.own it (by simp only[List.mem_cons];exact .inr (.inr hi)) ho k hk
 intro it hi k hk
 rcases List.mem_append.1 hk with q | q
 exact hap.1 it (by simp only[List.mem_cons];exact .inr hi) k q
 exact hap2.1 it hi k q
 intro Φ hΦ
 rw[hfeq];exact h2.facts Φ hΦ
 intro it hi
 rcases List.mem_cons.1 hi with rfl | hi
 exact marks_loc _
 exact h2.loc it (by simp only[List.mem_cons];exact .inr (.inr hi))
section
variable {P:Program} {Q:Exit→Act→World→Prop} {w0:World} {M0:Nat→Prop} {ds:List Deferred} {a:Act} {w:World} {l:List Value} {bs bs':List Item} {fs:List (World→Prop)}
def RoundEnd (P:Program) (L:Nat) (w1:World) (M:Nat→Prop) (J:World→Prop) (Jx:Code→World→Prop):Exit→Act→World→Prop:=
 roundPost P L fun e W'=>Agree M w1 W'∧((e=.returned (.bool true)∧J W')∨(e=.returned (.bool false)∧∃ c,Jx c W'))
theorem Wd.putLoop {L D:Nat} {r r':Loop} (h:Wd w0 M0 w bs fs) [hr:ReplI bs (lpI L D r) (lpI L D r') bs']:w.heap[L]? = some (.loop r)∧Wd w0 M0 (w.putObj L (.loop r')) bs' fs:=by
 obtain ⟨pre,post,rfl,rfl⟩:=hr.ex
 have hm:lpI L D r∈pre++lpI L D r::post:=by simp
 have hl:=h.held _ hm
 have hlt:L < w.heap.size:=(Array.getElem?_eq_some_iff.1 hl.1).1
 have hDL:D≠L:=fun e=>by have h1:=hl.1;have h2:=hl.2;rw[e,h1]at h2;cases h2
 exact ⟨hl.1,h.swap rfl (Agree.putObj w L _ (.inr rfl)) ⟨World.putObj_heap_same hlt,(World.putObj_heap_other hDL).trans hl.2⟩ (fun k hk=>.inl hk) (fun k hk=>by simpa using h.lt _ hm k hk) (lpI_loc _ _ _)⟩
theorem rend {L D:Nat} {b:Loop} {w1:World} {M:Nat→Prop} {J:World→Prop} {Jx:Code→World→Prop} (S:St w1 M ds a w l bs fs) (jump:Option Code)
  [hr:ReplI bs (lpI L D (lpR b .busy none)) (lpI L D (lpR b (if jump.isNone then .ready else .done) jump)) bs']
  (h:∀ W',Wd w1 M W' bs' fs→(jump=none→J W')∧(∀ c,jump=some c→Jx c W')):∃ v w',(Instr.endRound L jump).run P w=.ok v w'∧(Agree M w1 w'∧((Ending.returned v=.returned (.bool true)∧J w')∨(Ending.returned v=.returned (.bool false)∧∃ c,Jx c w'))):=by
 obtain ⟨hl,hwd⟩:=S.wd.putLoop (L:=L) (D:=D) (r:=lpR b .busy none) (r':=lpR b (if jump.isNone then .ready else .done) jump)
 obtain ⟨h1,h2⟩:=h _ hwd
 refine ⟨_,_,run_endRound (P:=P) jump hl,hwd.agree,?_⟩
 cases jump with
 | none=>exact .inl ⟨rfl,h1 rfl⟩
 | some c=>exact .inr ⟨rfl,c,h2 c rfl⟩
theorem rnext {L D:Nat} {b:Loop} {w1:World} {M:Nat→Prop} {J:World→Prop} {Jx:Code→World→Prop} (S:St w1 M ds a w l bs fs)
  [hr:ReplI bs (lpI L D (lpR b .busy none)) (lpI L D (lpR b .ready none)) bs'] (h:∀ W',Wd w1 M W' bs' fs→J W'):RoundEnd P L w1 M J Jx .normal a w:=
 rend (D:=D) (b:=b) S none (hr:=hr) fun W' hW=>⟨fun _=>h W' hW,fun _ h=>by cases h⟩
theorem rret {L D:Nat} {b:Loop} {w1:World} {M:Nat→Prop} {J:World→Prop} {Jx:Code→World→Prop} (S:St w1 M ds a w l bs fs)
  [hr:ReplI bs (lpI L D (lpR b .busy none)) (lpI L D (lpR b .done (some .ret))) bs'] (h:∀ W',Wd w1 M W' bs' fs→Jx .ret W'):RoundEnd P L w1 M J Jx .ret a w:=
 rend (D:=D) (b:=b) S (some .ret) (hr:=hr) fun W' hW=>⟨fun h=>by (cases h),fun _ h'=>by cases h';exact h W' hW⟩
theorem rexit {L D id:Nat} {b:Loop} {w1:World} {M:Nat→Prop} {J:World→Prop} {Jx:Code→World→Prop} (S:St w1 M ds a w l bs fs)
  [hr:ReplI bs (lpI L D (lpR b .busy none)) (lpI L D (lpR b .done (some (.exit id)))) bs'] (h:∀ W',Wd w1 M W' bs' fs→Jx (.exit id) W'):RoundEnd P L w1 M J Jx (.exit id) a w:=
 rend (D:=D) (b:=b) S (some (.exit id)) (hr:=hr) fun W' hW=>⟨fun h=>by (cases h),fun _ h'=>by cases h';exact h W' hW⟩
theorem rbegin {L D:Nat} {b:Loop} {w1:World} {M:Nat→Prop} {K:Act→World→Prop} (S:St w1 M ds a w l bs fs)
  [hr:ReplI bs (lpI L D (lpR b .ready none)) (lpI L D (lpR b .busy none)) bs']
  (h:∀ a w,St w1 M ds a w l bs' fs→K a w):∃ w2,(Instr.beginRound L).run P w=.ok () w2∧K a w2:=by
 obtain ⟨hl,hwd⟩:=S.wd.putLoop (L:=L) (D:=D) (r:=lpR b .ready none) (r':=lpR b .busy none)
 exact ⟨_,run_beginRound (P:=P) hl rfl,h _ _ ⟨S.slots,S.defers,hwd⟩⟩
theorem foldl_put (ps:List Nat) (vs:List Value):∀ (t:Array Value),(ps.toArray.zip vs.toArray).foldl (fun t (p,v)=>t.setIfInBounds p v) t=(ps.zip vs).foldl (fun t (x:Nat × Value)=>t.setIfInBounds x.1 x.2) t:=by
 intro t
 simp
class PutPs (l:List Value) (ps:List Nat) (vs:List Value) (l':outParam (List Value)):Prop where eq:(ps.zip vs).foldl (fun(t:Array Value) (x:Nat × Value)=>t.setIfInBounds x.1 x.2) l.toArray=l'.toArray∧vs.length=ps.length
instance putps0 {l:List Value} : PutPs l [] [] l:=⟨by simp⟩
instance putpsS {l l1 l':List Value} {p:Nat} {v:Value} {ps:List Nat} {vs:List Value} [h:PutAt l p v l1] [h':PutPs l1 ps vs l']:PutPs l (p::ps) (v::vs) l':=⟨by
 obtain ⟨h1,h2⟩:=h'.eq
 have:=h.eq
 simp[←h1,h2,←this]⟩
theorem c_range {α:Type} {g:Operand} {ps:List Nat} {assign body:Code} {gf:Nat} {lb:List Value} {Ds:List Nat} {κ κx:Type} {E:α→List Value→World→World→Prop} (xs:List α)
  (bsI:Nat→κ→List Item) (fsI:Nat→κ→List (World→Prop)) (φ:Nat→κ→Prop) (bsX:κx→List Item) (fsX:κx→List (World→Prop)) (ψ:Code→κx→Prop) (k0:κ)
  (S:St w0 M0 (dsOf Ds) a w l bs fs) [EntF P gf] [hg:Ev ⟨[],l⟩ g (.func (.func gf) #[] ⟨lb⟩)]
  (hit:∀ (M:Nat→Prop) (w1:World),(∀ k,M k→k < w1.heap.size)→(∀ Φ∈fs,Stable M w1 Φ)→(∀ it∈bs,it.own=false→Stable M w1 it.holds)→IterRet P gf lb w1 M E xs)
  (hk0:φ 0 k0∧bsI 0 k0=bs∧fsI 0 k0=fs)
  (hround:∀ (L D:Nat) (b:Loop) (M:Nat→Prop) (w1:World) (i:Nat) (x:α) (vs:List Value) (k:κ) (W0 W:World),xs[i]? = some x→φ i k→Wd w1 M W0 (lpI L D (lpR b .ready none)::bsI i k) (fsI i k)→Grow W0 W→E x vs W0 W→∃ lx,PutPs l ps vs lx∧∀ a,
   St w1 M [] a W lx (lpI L D (lpR b .ready none)::bsI i k) (fsI i k)→
   Wp P (some L) assign (Exit.then (fun a w=>∃ w2,(Instr.beginRound L).run P w=.ok () w2∧Wp P (some L) body (RoundEnd P L w1 M (fun W=>∃ k',φ (i+1) k'∧Wd w1 M W (lpI L D (lpR b .ready none)::bsI (i+1) k') (fsI (i+1) k'))
    (fun c W=>(c=.ret∨∃ id,c=.exit id)∧∃ k',ψ c k'∧Wd w1 M W (lpI L D (lpR b .done (some c))::bsX k') (fsX k'))) a w2) (fun _ _ _=>False)) a W)
  (hdone:∀ (D:Nat) (k:κ) (a:Act) (W:World),φ xs.length k→St w0 M0 (dsOf ([D]++Ds)) a W l (marks [D]::bsI xs.length k) (fsI xs.length k)→Q .normal a W)
  (hret:∀ (D:Nat) (k:κx) (a:Act) (W:World),ψ .ret k→St w0 M0 (dsOf ([D]++Ds)) a W l (marks [D]::bsX k) (fsX k)→Q .ret a W)
  (hexit:∀ (id D:Nat) (k:κx) (a:Act) (W:World),ψ (.exit id) k→St w0 M0 (dsOf ([D]++Ds)) a W l (marks [D]::bsX k) (fsX k)→Q (.exit id) a W) :
  Wp P none (.rangeFunc g ps.toArray assign body) Q a w:=by
 refine wpIn_rangeFunc ?_
 intro fn _
 obtain ⟨b,hb⟩:∃ b:Loop,b = { state:=.ready,pending:=none,fn:=fn,tmps:=a.tmps,params:=ps.toArray,assign:=assign,body:=body,defers:=w.heap.size }:=⟨_,rfl⟩
 obtain ⟨w1,hw1⟩:∃ w1,(w.alloc (.deferred (some []))).alloc (.loop b)=w1:=⟨_,rfl⟩
 have hL1:w1.heap[w.heap.size+1]? = some (.loop b):=by
  rw[←hw1];have:=World.alloc_heap_new (w.alloc (.deferred (some []))) (.loop b);rwa [World.size_alloc]at this
 have hD1:w1.heap[w.heap.size]? = some (.deferred (some [])):=by
  rw[←hw1];exact (RowKit.Below.heap_alloc _ _ _ (by simp)).trans (World.alloc_heap_new w _)
 have hsz:w1.heap.size=w.heap.size+2:=by rw[←hw1];simp
 have hgrow:Grow w w1:=by rw[←hw1];exact (Agree.alloc _ w _).trans (Agree.alloc _ _ _)
 have hlpr:lpR b .ready none=b:=by rw[hb];rfl
 obtain ⟨M,hM⟩:∃ M:Nat→Prop,M=fun k=>k=w.heap.size∨k=w.heap.size+1∨∃ it∈bs,it.own=true∧it.foot k:=⟨_,rfl⟩
 have hwd1:Wd w1 M w1 (lpI (w.heap.size+1) w.heap.size (lpR b .ready none)::bs) fs:=by
  have hst:=S.wd.step hgrow
  refine ⟨Agree.refl _ _,?_,?_,?_,List.pairwise_cons.2 ⟨?_,hst.apart⟩,?_,?_⟩
  ·intro it hi
   rcases List.mem_cons.1 hi with rfl | hi
   ·exact ⟨by rw[hlpr];exact hL1,hD1⟩
   ·exact hst.held it hi
  ·intro it hi k hk
   rcases List.mem_cons.1 hi with rfl | hi
   ·simp only[lpI]at hk;omega
   ·exact hst.lt it hi k hk
  ·intro it hi ho k hk
   rw[hM]
   rcases List.mem_cons.1 hi with rfl | hi
   ·exact .inl (hk.elim .inl (fun h=>.inr (.inl h)))
   ·exact .inl (.inr (.inr ⟨it,hi,ho,hk⟩))
  ·intro it hi k hk hk'
   have:=S.wd.lt it hi k hk'
   simp only[lpI]at hk;omega
  ·intro Φ hΦ w'' hw''
   refine S.wd.facts Φ hΦ w'' ((hgrow.mono (fun _ _ h=>h.elim)).trans' hw'' fun i hi ⟨it,hm,hk⟩=>?_)
   rcases List.mem_cons.1 hm with rfl | hm
   ·simp only[lpI]at hk;omega
   ·exact ⟨it,hm,hk⟩
  ·intro it hi
   rcases List.mem_cons.1 hi with rfl | hi
   ·exact lpI_loc _ _ _
   ·exact hst.loc it hi
 have hMlt:∀ k,M k→k < w1.heap.size:=fun k hk=>by
  rw[hM]at hk
  rcases hk with rfl | rfl | ⟨it,hi,_,hk⟩
  ·omega
  ·omega
  ·have:=S.wd.lt it hi k hk;omega
 have hMf:∀ Φ∈fs,Stable M w1 Φ:=fun Φ hΦ=>(hwd1.facts Φ hΦ).less fun k _ hk=>by
  rw[hM]at hk
  rcases hk with rfl | rfl | ⟨it,hi,_,hk⟩
  ·exact ⟨_,List.mem_cons_self ..,.inl rfl⟩
  ·exact ⟨_,List.mem_cons_self ..,.inr rfl⟩
  ·exact ⟨it,List.mem_cons_of_mem _ hi,hk⟩
 have hMr:∀ it∈bs,it.own=false→Stable M w1 it.holds:=fun it hi ho w2 hw2=>by
  have hst:=S.wd.step hgrow
  refine hst.loc it hi w1 w2 (fun k hk=>hw2.blk (hst.lt it hi k hk) fun hm=>?_) (hst.held it hi)
  rw[hM]at hm
  have hlt:=S.wd.lt it hi k hk
  rcases hm with rfl | rfl | ⟨it',hi',ho',hk'⟩
  ·omega
  ·omega
  ·exact apart_of S.wd.apart hi hi' (by rw[ho,ho'];simp) k hk hk'
 have hM0:∀ k,M k→M0 k∨w0.heap.size≤k:=fun k hk=>by
  have:=S.wd.agree.size
  rw[hM]at hk
  rcases hk with rfl | rfl | ⟨it,hi,ho,hk⟩
  ·exact .inr this
  ·exact .inr (by omega)
  ·exact S.wd.own it hi ho k hk
 have hag:Agree M0 w0 w1:=(S.wd.step hgrow).agree
 have hfin:∀ (r:Loop) (bs2:List Item) (fs2:List (World→Prop)) (W:World),r.state≠.busy→Wd w1 M W (lpI (w.heap.size+1) w.heap.size r::bs2) fs2→
   ∃ W',(Instr.endLoop (w.heap.size+1)).run P W=.ok r.pending W'∧St w0 M0 (dsOf ([w.heap.size]++Ds)) { a with defers:=[{ target:=.collected w.heap.size,args:=#[] }]++a.defers } W' l (marks [w.heap.size]::bs2) fs2:=fun r bs2 fs2 W hr hwd=>by
  have hl:W.heap[w.heap.size+1]? = some (.loop r)∧W.heap[w.heap.size]? = some (.deferred (some [])):=hwd.held _ (List.mem_cons_self ..)
  have hlt:w.heap.size+1 < W.heap.size:=(Array.getElem?_eq_some_iff.1 hl.1).1
  refine ⟨_,run_endLoop (P:=P) hl.1 hr,S.slots,by rw[S.defers];rfl,?_⟩
  refine (hwd.rebase hag hM0).swap (pre:=[]) (y:=marks [w.heap.size]) rfl (Agree.putObj W _ _ (.inr rfl)) ⟨by simp,fun k hk=>?_⟩ (fun k hk=>.inl ?_) (fun k hk=>?_) (marks_loc _)
  ·obtain rfl:=List.mem_singleton.1 hk
   exact (World.putObj_heap_other (by omega)).trans hl.2
  ·obtain rfl:=List.mem_singleton.1 hk;exact .inl rfl
  ·obtain rfl:=List.mem_singleton.1 hk;simp;omega
 have heg:=hg.eq (by simp) a.defers
 have hae:a.eval g=.func (.func gf) #[] ⟨lb⟩:=S.fr.ev
 refine ⟨w.heap.size+1,[{ target:=.collected w.heap.size,args:=#[] }],w1,{ target:=.fn (.func gf) ⟨lb⟩,args:=#[.func (.yield (w.heap.size+1)) #[] #[]] },w1,gf,
  (.func (.yield (w.heap.size+1)) #[] #[]::lb).toArray,w1,?_,?_,fun _ _=>trivial,?_,fun h=>(by cases h),?_⟩
 ·rw[←hw1,hb];exact run_enterLoop_outer _ _ _ _ _
 ·simp only[resolve,hae]
  simp[go_sem]
 ·have:=EntF.run (P:=P) (f:=gf) (.func (.yield (w.heap.size+1)) #[] #[]::lb).toArray w1
  simpa [invoke,go_sem] using this
 ·have hI:=hit M w1 hMlt hMf hMr
  refine CallsIn.mono (hI (w.heap.size+1) (fun i W=>∃ k,φ i k∧Wd w1 M W (lpI (w.heap.size+1) w.heap.size (lpR b .ready none)::bsI i k) (fsI i k))
   (fun W=>∃ c,(c=.ret∨∃ id,c=.exit id)∧∃ k,ψ c k∧Wd w1 M W (lpI (w.heap.size+1) w.heap.size (lpR b .done (some c))::bsX k) (fsX k)) ?_ ⟨k0,hk0.1,by rw[hk0.2.1,hk0.2.2];exact hwd1⟩) ?_
  ·rintro i x vs W0 W1 hx ⟨k,hφ,hwd⟩ hgr hE
   have hwdg:=hwd.step hgr
   have hl:W1.heap[w.heap.size+1]? = some (.loop (lpR b .ready none)):=(hwdg.held _ (List.mem_cons_self ..)).1
   obtain ⟨lx,hps,hround'⟩:=hround (w.heap.size+1) w.heap.size b M w1 i x vs k W0 W1 hx hφ hwd hgr hE
   have hp:=hps.eq
   have hy:=run_yield (P:=P) (args:=vs.toArray) hl (by rw[hb];simpa [lpR] using hp.2)
   refine ⟨_,_,_,_,hy,roundIn_of_wpIn trivial ?_⟩
   have e1:(((lpR b .ready none).params.zip vs.toArray).foldl (fun tmps (t,a)=>tmps.setIfInBounds t a) (lpR b .ready none).tmps)=lx.toArray:=by
    rw[hb]
    simp only[lpR,S.slots,foldl_put,hp.1]
   rw[e1]
   have:=hround' { tmps:=lx.toArray,defers:=[] } ⟨rfl,rfl,hwdg⟩
   simp only[hb,lpR]at this⊢
   refine wpIn_mono this ?_
   intro e a' w' he
   cases e with
   | normal=>
    obtain ⟨w2,h1,h2⟩:=he
    exact ⟨w2,h1,h2⟩
   | _=>exact he.elim
  ·rintro e W ⟨⟨v,rfl⟩,W0,hgr,⟨k,hφ,hwd⟩ | ⟨c,hc,k,hψ,hwd⟩⟩
   ·obtain ⟨W',h1,h2⟩:=hfin (lpR b .ready none) _ _ W (by simp[lpR]) (hwd.step hgr)
    exact ⟨none,W',h1,hdone _ k _ W' hφ h2⟩
   ·obtain ⟨W',h1,h2⟩:=hfin (lpR b .done (some c)) _ _ W (by simp[lpR]) (hwd.step hgr)
    refine ⟨some c,W',h1,?_⟩
    rcases hc with rfl | ⟨id,rfl⟩
    ·exact wpIn_ret (hret _ k _ W' hψ h2)
    ·exact wpIn_exit (hexit id _ k _ W' hψ h2)
theorem St.join {Es Ds:List Nat} (S:St w0 M0 ds a w l (marks Es::bs) fs) [hr:ReplI bs (marks Ds) (marks (Es++Ds)) bs']:St w0 M0 ds a w l bs' fs:=⟨S.slots,S.defers,S.wd.join hr⟩
theorem enterM {f:Nat} {fn:Func} {c:Code} {args:List Value} {l:List Value} {R:Ending→World→Prop} {M0:Nat→Prop} {bs:List Item} {fs:List (World→Prop)}
  (hf:P.funcs[f]? = some fn) (hb:fn.body=some c) (hl:args++List.replicate (fn.ntmps - args.length) undef=l) (hw:Wd w M0 w bs fs)
  (h:∀ a,St w M0 (dsOf []) a w l (marks []::bs) fs→Wp P none c (bodyPostM (FW none) 0 P fn R) a w):Calls P f args.toArray w R:=by
 refine (callsIn_wide (n:=0)).1 (callsIn_of_wp_marks (F:=FW none) (n:=0) hf hb trivial (h _ ⟨?_,rfl,?_⟩))
 simp[←hl]
 exact hw.more (y:=marks []) ⟨by simp,by simp⟩ (fun k hk=>by cases hk) (fun k hk=>by cases hk) (fun it _ k hk=>by cases hk)
  (fun Φ hΦ=>(hw.facts Φ hΦ).less fun k _ ⟨it,hi,hk⟩=>by
   rcases List.mem_cons.1 hi with rfl | hi
   cases hk
   exact ⟨it,hi,hk⟩) (marks_loc _)
theorem leavesM {fn:Func} {R:Ending→World→Prop} {t:Array Value} : ∀ (Ds:List Nat) (w:World),Wd w0 M0 w (marks Ds::bs) fs→(∀ w',Wd w0 M0 w' bs fs→LeavesIn (FW none) 0 P fn t R [] .returning w')→LeavesInM (FW none) 0 P fn t R (dsOf Ds) .returning w
 | [],w,hw,h=>h w (hw.sub (bs0:=bs) (List.sublist_cons_self ..) (List.Sublist.refl _))
 | D::Ds,w,hw,h=>by
  have hm:(marks (D::Ds)).holds w:=hw.held _ (List.mem_cons_self ..)
  have hD:=hm.2 D (List.mem_cons_self ..)
  have hlt:D < w.heap.size:=(Array.getElem?_eq_some_iff.1 hD).1
  refine ⟨by simp,.inl ⟨D,_,rfl,run_takeDeferred (P:=P) hD,leavesM Ds _ ?_ h⟩⟩
  refine hw.swap (pre:=[]) (y:=marks Ds) rfl (Agree.putObj w D _ (List.mem_cons_self ..)) ⟨(List.nodup_cons.1 hm.1).2,fun k hk=>?_⟩ (fun k hk=>.inl (List.mem_cons_of_mem _ hk)) (fun k hk=>?_) (marks_loc _)
  ·exact (World.putObj_heap_other (fun(e:k=D)=>(List.nodup_cons.1 hm.1).1 (by rw[←e];exact hk))).trans (hm.2 k (List.mem_cons_of_mem _ hk))
  ·simpa using hw.lt _ (List.mem_cons_self ..) k (List.mem_cons_of_mem _ hk)
class DropI (bs:List Item) (x:Item) (bs':outParam (List Item)):Prop where perm:(x::bs').Perm bs
instance dri0 {x:Item} {bs:List Item} : DropI (x::bs) x bs:=⟨.refl _⟩
instance (priority:=900) driS {x y:Item} {bs bs':List Item} [h:DropI bs x bs']:DropI (y::bs) x (y::bs'):=⟨(List.Perm.swap _ _ _).trans (.cons _ h.perm)⟩
theorem finM {fn:Func} {R:Value→World→Prop} {e:Exit} {Ds:List Nat} {v:Value} (S:St w0 M0 (dsOf Ds) a w l bs fs) [hd:DropI bs (marks Ds) bs'] (hv:∀ w,(∀ it∈bs',it.holds w)→(results fn l.toArray).run P w=.ok v w) (h:∀ w,Wd w0 M0 w bs' fs→R v w) (he:e=.ret∨e=.normal:=by simp) :
  bodyPostM (FW none) 0 P fn (fun e w'=>∃ v,e=.returned v∧Agree M0 w0 w'∧R v w') e a w:=by
 have key:LeavesInM (FW none) 0 P fn a.tmps (fun e w'=>∃ v,e=.returned v∧Agree M0 w0 w'∧R v w') a.defers .returning w:=by
  rw[S.defers,S.slots]
  refine leavesM Ds w (S.wd.perm hd.perm) fun w' hw'=>?_
  exact ⟨v,hv w' hw'.held,v,rfl,hw'.agree,h w' hw'⟩
 rcases he with rfl | rfl <;> exact key
theorem endM1 {fn:Func} {R:Value→World→Prop} {e:Exit} {Ds:List Nat} {r1:ResultVar} {v1:Value} [hr:FnRes fn [r1]] (S:St w0 M0 (dsOf Ds) a w l bs fs) [hd:DropI bs (marks Ds) bs'] [h1:ResV P l bs' r1 v1] (h:∀ w,Wd w0 M0 w bs' fs→R v1 w) (he:e=.ret∨e=.normal:=by simp) :
  bodyPostM (FW none) 0 P fn (fun e w'=>∃ v,e=.returned v∧Agree M0 w0 w'∧R v w') e a w:=
 finM S (fun w hw=>by rw[results_eq (rs:=[r1])];simp[run_res (P:=P) (l:=l) (bs:=bs') (rv:=r1) (v:=v1) w hw]) h he
theorem endM2 {fn:Func} {R:Value→World→Prop} {e:Exit} {Ds:List Nat} {r1 r2:ResultVar} {v1 v2:Value} [hr:FnRes fn [r1,r2]] (S:St w0 M0 (dsOf Ds) a w l bs fs) [hd:DropI bs (marks Ds) bs'] [h1:ResV P l bs' r1 v1] [h2:ResV P l bs' r2 v2] (h:∀ w,Wd w0 M0 w bs' fs→R (.tuple ⟨[v1,v2]⟩) w) (he:e=.ret∨e=.normal:=by simp) :
  bodyPostM (FW none) 0 P fn (fun e w'=>∃ v,e=.returned v∧Agree M0 w0 w'∧R v w') e a w:=
 finM S (fun w hw=>by rw[results_eq (rs:=[r1,r2])];simp[run_res (P:=P) (l:=l) (bs:=bs') (rv:=r1) (v:=v1) w hw,run_res (P:=P) (l:=l) (bs:=bs') (rv:=r2) (v:=v2) w hw]) h he
end
inductive Tr where
 | e
 | q (i:Nat) (t:Tr)
 | l (i:Nat) (t:Tr)
 | b2 (i j:Nat) (t u:Tr)
 | b3 (i j k:Nat) (t u v:Tr)
 | b4 (i j k m:Nat) (t u v x:Tr)
def Tr.len:Tr→Nat
 | .e=>0
 | .q _ t | .l _ t=>t.len+1
 | .b2 _ _ t _=>t.len+1
 | .b3 _ _ _ t _ _=>t.len+1
 | .b4 _ _ _ _ t _ _ _=>t.len+1
def flowT (ops:Array Oper):Tr→Array Bool→Bool
 | .e,listed=>(Region.ready .any ops listed).isEmpty
 | .q i t,listed=>((Region.ready .any ops listed).contains i&&Region.free .any ops listed i)&&flowT ops t (listed.setIfInBounds i true)
 | .l i t,listed=>(match Region.ready .any ops listed with | [j]=>Nat.beq j i | _=>false)&&flowT ops t (listed.setIfInBounds i true)
 | .b2 i j t u,listed=>(match Region.ready .any ops listed with | [x,y]=>Nat.beq x i&&Nat.beq y j | _=>false)&&(Nat.beq u.len t.len&&(flowT ops t (listed.setIfInBounds i true)&&flowT ops u (listed.setIfInBounds j true)))
 | .b3 i j k t u v,listed=>(match Region.ready .any ops listed with | [x,y,z]=>Nat.beq x i&&(Nat.beq y j&&Nat.beq z k) | _=>false)&&(Nat.beq u.len t.len&&(Nat.beq v.len t.len&&(flowT ops t (listed.setIfInBounds i true)&&(flowT ops u (listed.setIfInBounds j true)&&flowT ops v (listed.setIfInBounds k true)))))
 | .b4 i j k m t u v x,listed=>(match Region.ready .any ops listed with | [a,y,z,b]=>Nat.beq a i&&(Nat.beq y j&&(Nat.beq z k&&Nat.beq b m)) | _=>false)&&(Nat.beq u.len t.len&&(Nat.beq v.len t.len&&(Nat.beq x.len t.len&&(flowT ops t (listed.setIfInBounds i true)&&(flowT ops u (listed.setIfInBounds j true)&&(flowT ops v (listed.setIfInBounds k true)&&flowT ops x (listed.setIfInBounds m true)))))))
section
variable {P:Program} {ops:Array Oper} {C:World→Prop} {R:Act→World→Prop}
variable {r:Option Nat} {Q:Exit→Act→World→Prop} {w0:World} {M0:Nat→Prop} {ds:List Deferred} {a:Act} {w:World} {l l':List Value} {bs bs' bs0:List Item} {fs fs0:List (World→Prop)}
 {d:Option Nat} {op:Op} {ty:TypeId} {pos:String} {af:Array Edge} {rest:List Oper} {v v' G:Value} {j g:Nat} {pol:Bool} {cs:List Bool} {n:Nat} {listed:Array Bool}
def AT (P:Program) (ops:Array Oper) (C:World→Prop) (R:Act→World→Prop) (t:Tr) (a:Act) (w:World):Prop:=
 ∀ listed,Region.noSelect ops=true→flowT ops t listed=true→AC P ops C R t.len listed a w
variable {t u x:Tr} {i k:Nat}
theorem tq (S:St w0 M0 ds a w l bs fs) [hb:SubL bs0 bs] [hf:SubL fs0 fs] [ho:OpAt ops i ⟨d,op,ty,pos,af,none⟩] [hq:OpQ P op ty ⟨[],l⟩ bs0 fs0 v] [hp:PutO l d v l']
  (K:∀ a,St w0 M0 ds a w l' bs fs→AT P ops (fun w=>Wd w0 M0 w bs0 fs0) R t a w) :
  AT P ops (fun w=>Wd w0 M0 w bs0 fs0) R (.q i t) a w:=by
 intro listed hs hflow
 simp only[flowT,Bool.and_eq_true]at hflow
 refine ac_first ho.eq (Region.noSelect_spec hs) _ listed a w (Region.free_spec ho.eq hflow.1.2) (by simpa using hflow.1.1) (v:=v) (.inl ⟨rfl,fun w' hw'=>?_⟩) (S.wd.sub hb.sub hf.sub) (K _ S.put _ hs hflow.2)
 rw[execOp_eq]
 exact hq.run a.eval w' S.fr hw'.mem
theorem wn_of {o:Oper} [ho:OpAt ops i o] {K:Act→World→Prop} (h:WL P none ops (fun e a' w'=>e=.normal∧K a' w') [o] a w):WN P ops i K a w:=by
 unfold WN wpOpIn
 simp only[ho.eq]
 simp only[WL,wpListIn]at h
 split
 ·rename_i hw
  rw[if_pos hw]at h
  refine ⟨fun _ _=>trivial,?_⟩
  have h:=h.2
  generalize (o.semAt (FW none).round a.eval).run P w=q at *
  cases q with
  | ok x w'=>
   cases x <;> simp only[Oper.uponIn]at h⊢
   case value u=>exact h.2
   case skip=>exact h.2
   case defer d=>exact h.2
   case enter f args=>
    refine ⟨h.1,CallsIn.mono h.2 fun e w'' he=>?_⟩
    cases e with
    | returned u=>exact he.2
    | panicked c=>exact absurd he.1 (by simp)
    | outgrown=>obtain ⟨_,_,he,_⟩:=he;exact absurd he (by simp)
   case row row args=>exact ⟨h.1,RowsIn.mono h.2 fun u w'' he=>he.2⟩
   case round l f tmps assign body=>
    refine ⟨h.1,RoundIn.mono h.2 fun e w'' he=>?_⟩
    cases e with
    | returned u=>exact he.2
    | panicked c=>exact absurd he.1 (by simp)
    | outgrown=>obtain ⟨_,_,he,_⟩:=he;exact absurd he (by simp)
  | halt x w'=>
   cases x <;> simp only[Oper.uponIn]at h⊢
   case panic u=>exact absurd h.1 (by simp)
 ·rename_i hw
  rw[if_neg hw]at h
  exact ⟨fun _ _=>trivial,h.2.2⟩
theorem tl {o:Oper} [ho:OpAt ops i o] (h:WL P none ops (fun e a' w'=>e=.normal∧C w'∧AT P ops C R t a' w') [o] a w):AT P ops C R (.l i t) a w:=by
 intro listed hs hflow
 simp only[flowT,Bool.and_eq_true]at hflow
 have hr:Region.ready .any ops listed=[i]:=by
  have:=hflow.1
  split at this
  rename_i k hk;rw[hk,Nat.eq_of_beq_eq_true this]
  cases this
 refine ⟨fun h0=>(by rw[h0]at hr;cases hr),fun k hk=>?_⟩
 rw[hr]at hk
 obtain rfl:k=i:=by simpa using hk
 exact wpOpIn_mono (fun a' w' h'=>⟨h'.1,h'.2 _ hs hflow.2⟩) (wn_of h)
theorem tb2 {oi oj:Oper} [hi:OpAt ops i oi] [hj:OpAt ops j oj] (h1:WL P none ops (fun e a' w'=>e=.normal∧C w'∧AT P ops C R t a' w') [oi] a w) (h2:WL P none ops (fun e a' w'=>e=.normal∧C w'∧AT P ops C R u a' w') [oj] a w):AT P ops C R (.b2 i j t u) a w:=by
 intro listed hs hflow
 simp only[flowT,Bool.and_eq_true]at hflow
 have hr:Region.ready .any ops listed=[i,j]:=by
  have:=hflow.1
  split at this
  rename_i x y hk
  simp only[Bool.and_eq_true]at this
  rw[hk,Nat.eq_of_beq_eq_true this.1,Nat.eq_of_beq_eq_true this.2]
  cases this
 have hlen:=Nat.eq_of_beq_eq_true hflow.2.1
 refine ⟨fun h0=>(by rw[h0]at hr;cases hr),fun k hk=>?_⟩
 rw[hr]at hk
 rcases List.mem_cons.1 hk with rfl | hk
 exact wpOpIn_mono (fun a' w' h'=>⟨h'.1,h'.2 _ hs hflow.2.2.1⟩) (wn_of h1)
 obtain rfl:=List.mem_singleton.1 hk
 refine wpOpIn_mono (fun a' w' h'=>⟨h'.1,?_⟩) (wn_of h2)
 have:=h'.2 _ hs hflow.2.2.2
 rwa [hlen]at this
theorem te [hb:SubL bs0 bs] [hf:SubL fs0 fs] (S:St w0 M0 ds a w l bs fs) (h:AT P ops (fun w=>Wd w0 M0 w bs0 fs0) R t a w):WL P none ops (fun e a' w'=>e=.normal∧Wd w0 M0 w' bs0 fs0∧AT P ops (fun w=>Wd w0 M0 w bs0 fs0) R t a' w') [] a w:=
 kN ⟨rfl,S.wd.sub hb.sub hf.sub,h⟩
theorem tn (h:R a w):AT P ops C R .e a w:=by
 intro listed hs hflow
 have hr:Region.ready .any ops listed=[]:=by simpa [flowT] using hflow
 exact ⟨hr,h⟩
theorem ac_mono {R':Act→World→Prop} (hR:∀ a w,R a w→R' a w):∀ (fuel:Nat) (listed:Array Bool) (a:Act) (w:World),AC P ops C R fuel listed a w→AC P ops C R' fuel listed a w
 | 0,_,_,_,h=>⟨h.1,hR _ _ h.2⟩
 | fuel+1,_,_,_,h=>⟨fun h0=>hR _ _ (h.1 h0),fun i hi=>wpOpIn_mono (fun _ _ h'=>⟨h'.1,ac_mono hR fuel _ _ _ h'.2⟩) (h.2 i hi)⟩
theorem c_drawT {id:Nat} {lo:List Oper} (t:Tr) (bs0:List Item) (S:St w0 M0 ds a w l bs fs) (I:Act→World→Prop) (h:∀ w,St w0 M0 ds a w l bs fs→AT P lo.toArray (fun w=>Wd w0 M0 w bs0 fs) I t a w)
  (hk:∀ a w,I a w→Q .normal a w) (hm:P.follows .mixedOrders=true:=by kernel_rfl)
  (hd:((lo.all fun o=>!isDefer o.op)&&(Nat.beq t.len lo.length&&(Region.noSelect lo.toArray&&flowT lo.toArray t (Array.replicate lo.length false))))=true:=by kernel_rfl):Wp P r (.region id lo.toArray true) Q a w:=by
 simp only[Bool.and_eq_true]at hd
 refine wpIn_region_any hm (any_of_ac (C:=fun w=>Wd w0 M0 w bs0 fs) (fun i o ho=>?_) _ _ _ _ ?_)
 have:=List.all_eq_true.1 hd.1 o (by
  rw[List.getElem?_toArray]at ho
  exact List.mem_of_getElem? ho)
 simpa using this
 have:=h { w with drawn:=w.drawn+1 } ⟨S.slots,S.defers,S.wd.step (Agree.drawn _ w _)⟩ _ hd.2.2.1 hd.2.2.2
 rw[Nat.eq_of_beq_eq_true hd.2.1]at this
 simpa using ac_mono hk _ _ _ _ this
theorem c_drawT0 {id:Nat} {lo:List Oper} {l2:List Value} {bs2:List Item} {fs2:List (World→Prop)} (t:Tr) (ids:List Nat) [DropBs bs ids bs0] (S:St w0 M0 ds a w l bs fs) (h:∀ w,St w0 M0 ds a w l bs fs→AT P lo.toArray (fun w=>Wd w0 M0 w bs0 fs) (fun a w=>St w0 M0 ds a w l2 bs2 fs2) t a w)
  (hk:∀ a w,St w0 M0 ds a w l2 bs2 fs2→Q .normal a w) (hm:P.follows .mixedOrders=true:=by kernel_rfl)
  (hd:((lo.all fun o=>!isDefer o.op)&&(Nat.beq t.len lo.length&&(Region.noSelect lo.toArray&&flowT lo.toArray t (Array.replicate lo.length false))))=true:=by kernel_rfl):Wp P r (.region id lo.toArray true) Q a w:=
 c_drawT t _ S _ h hk hm hd
end
instance opMakeFunc {P ty} {l:Cx} {bs fs} {f:Nat} {fi ca:List Operand} {vs us:List Value} [EvL l fi vs] [EvL l ca us]:OpQ P (.makeFunc (.func f) fi.toArray ca.toArray) ty l bs fs (.func (.func f) ⟨vs⟩ ⟨us⟩):=⟨fun ρ w h _=>by
 have e1:=h.evl (xs:=fi) (vs:=vs)
 have e2:=h.evl (xs:=ca) (vs:=us)
 simp[xop,execOp,e1,e2,Instr.makeFunc]⟩
section
variable {P:Program} {r:Option Nat} {ops:Array Oper} {Q:Exit→Act→World→Prop} {w0:World} {M0:Nat→Prop} {ds:List Deferred} {a:Act} {w:World} {l:List Value} {bs bs':List Item} {fs fs0:List (World→Prop)}
 {d:Option Nat} {op:Op} {ty:TypeId} {pos:String} {af:Array Edge} {rest:List Oper} {ts:Array TypeId}
theorem sy {x:Operand} {xs:List Operand} {L:Nat} {vs:List Value} {l':Bool→List Value} {wI:World} {M:Nat→Prop} {J Jx:World→Prop} [hx:Ev ⟨[],l⟩ x (.func (.yield L) #[] #[])] [hv:EvL ⟨[],l⟩ xs vs] [hp:∀ b:Bool,PutO l d (.bool b) (l' b)]
  (S:St w0 M0 ds a w l bs fs) (hF:∀ Φ∈fs0,Stable M wI Φ)
  (hy:YieldAt (FW none) 0 P L vs.toArray w fun e W'=>Agree M wI W'∧((e=.returned (.bool true)∧J W')∨(e=.returned (.bool false)∧Jx W')))
  (K:∀ (b:Bool) (N:Nat→Prop) a W,(b=true→J W)→(b=false→Jx W)→St W (fun _=>False) ds a W (l' b) [ext N] fs0→WL P r ops Q rest a W) :
  WL P r ops Q (⟨d,.call { callee:=.value x,args:=xs.toArray,argTypes:=ts },ty,pos,af,none⟩::rest) a w:=by
 refine wl_plain rfl ?_
 rw[semAt_nd rfl]
 obtain ⟨fn,tmps,assign,body,hrun,hround⟩:=hy
 have hf:a.eval x=.func (.yield L) #[] #[]:=S.fr.ev
 have e:=S.fr.evl (xs:=xs) (vs:=vs)
 have e1:(xop a.eval (.call { callee:=.value x,args:=xs.toArray,argTypes:=ts }) ty).run P w=.ok (.round L fn tmps assign body) w:=by
  rw[←hrun]
  simp[xop,execOp,resolve,hf,Deferred.ofValue,invoke,e]
 simp only[e1,Oper.uponIn]
 refine ⟨fun h=>(by cases h),RoundIn.mono hround ?_⟩
 have key:∀ (b:Bool) (W:World),Agree M wI W→(b=true→J W)→(b=false→Jx W)→WL P r ops Q rest (a.put d (.bool b)) W:=fun b W hag h1 h2=>by
  have:=hp b
  have S':=S.put (d:=d) (v:=.bool b)
  refine K b (fun k=>(M k∨wI.heap.size≤k)∧k < W.heap.size) _ W h1 h2 ⟨S'.slots,S'.defers,Wd.beginM (fun k hk=>hk.2) fun Φ hΦ w'' hw''=>hF Φ hΦ w'' (hag.trans' hw'' fun i hi hk=>?_)⟩
  rcases hk.1 with h | h
  exact h
  omega
 rintro e W ⟨hag,⟨rfl,hJ⟩ | ⟨rfl,hJ⟩⟩
 exact key true W hag (fun _=>hJ) (fun h=>by cases h)
 exact key false W hag (fun h=>by cases h) (fun _=>hJ)
class EvB (l:Cx) (x:Option Operand) (dflt:Nat) (v:outParam Nat):Prop where
 eq:(x=none∧v=dflt)∨∃ o kk,x=some o∧Ev l o (.int kk (v:Int))
instance evb0 {l:Cx} {n:Nat} : EvB l none n n:=⟨.inl ⟨rfl,rfl⟩⟩
instance evb1 {l:Cx} {x:Operand} {n m:Nat} {kk:IntKind} {mi:Int} [h:Ev l x (.int kk mi)] [hm:IsNat mi m]:EvB l (some x) n m:=⟨.inr ⟨x,kk,rfl,by have:=hm.eq;subst this;exact h⟩⟩
theorem run_sliceBound {P:Program} {kk:IntKind} {v y:Nat} (h:v≤y) (code:BoundsCode) (w:World):(Instr.sliceBound (.int kk (v:Int)) y code).run P w=.ok v w:=by
 simp[Instr.sliceBound,asIntOf,h]
theorem c_scope {c:Code} (h:Wp P r c (Exit.noGoto Q) a w):Wp P r (.scope c) Q a w:=by
 intro b k cs hro hb hr
 have h0:(lone (b.atR a (.code (.scope c)::k)) cs w).fenced P (FW r):=fenced_calm hb hr rfl
 have s1:step P (lone (b.atR a (.code (.scope c)::k)) cs w)=.next (lone (b.atR a (.code c::.inScope c::k)) cs w):=step_lone_go (by simp[stepG,stepG.exec,Frame.atR])
 have s2:∀ (a:Act) (w:World),step P (lone (b.atR a (.inScope c::k)) cs w)=.next (lone (b.atR a k) cs w):=fun a w=>step_lone_go (by simp[stepG,stepG.exec,Frame.atR])
 obtain ⟨e,a₁,w₁,hq,harr⟩:=h b (.inScope c::k) cs hro hb hr
 cases e with
 | normal=>exact ⟨.normal,a₁,w₁,hq,.head h0 s1 (StepsIn.trans harr (.one (fenced_calm hb hr rfl) (s2 _ _)))⟩
 | exit id=>
  have hx:exitTo id (.inScope c::k)=exitTo id k:=by simp[exitTo]
  exact ⟨.exit id,a₁,w₁,hq,fun k' hk=>.head h0 s1 (harr.1 k' (by rw[hx];exact hk)),fun hr' hk=>let ⟨k₁,h1,h2⟩:=harr.2 hr' (by rw[hx];exact hk);⟨k₁,h1,.head h0 s1 h2⟩⟩
 | goto l=>exact hq.elim
 | ret=>exact ⟨_,a₁,w₁,hq,.of_steps (.one h0 s1) harr⟩
 | panic ch=>exact ⟨_,a₁,w₁,hq,.of_steps (.one h0 s1) harr⟩
 | outgrown=>exact ⟨_,a₁,w₁,hq,.of_steps (.one h0 s1) harr⟩
theorem xsr (h:Q .ret a w):Exit.noGoto Q .ret a w:=h
def Item.ro (x:Item):Item:={ x with own:=false }
theorem St.toRo {x:Item} (S:St w0 M0 ds a w l bs fs) [hr:ReplI bs x x.ro bs']:St w0 M0 ds a w l bs' fs:=by
 obtain ⟨pre,post,rfl,rfl⟩:=hr.ex
 have h:=S.wd
 have key:∀ it,it∈pre++x.ro::post→∃ y,y∈pre++x::post∧y.foot=it.foot∧y.holds=it.holds∧(it.own=true→y.own=true):=fun it hi=>by
  rcases List.mem_append.1 hi with hi | hi
  exact ⟨it,by simp[hi],rfl,rfl,id⟩
  rcases List.mem_cons.1 hi with rfl | hi
  exact ⟨x,by simp,rfl,rfl,fun h=>by cases h⟩
  exact ⟨it,by simp[hi],rfl,rfl,id⟩
 have hfe:foots (pre++x.ro::post)=foots (pre++x::post):=foots_repl rfl
 refine ⟨S.slots,S.defers,h.agree,?_,?_,?_,?_,?_,?_⟩
 intro it hi;obtain ⟨y,hy,_,h2,_⟩:=key it hi;rw[←h2];exact h.held y hy
 intro it hi k hk;obtain ⟨y,hy,h1,_,_⟩:=key it hi;exact h.lt y hy k (h1▸hk)
 intro it hi ho k hk;obtain ⟨y,hy,h1,_,h3⟩:=key it hi;exact h.own y hy (h3 ho) k (h1▸hk)
 have hap:=List.pairwise_append.1 h.apart
 have hap2:=List.pairwise_cons.1 hap.2.1
 exact List.pairwise_append.2 ⟨hap.1,List.pairwise_cons.2 hap2,fun u hu y hy=>by
  rcases List.mem_cons.1 hy with rfl | hy
  exact hap.2.2 u hu x (by simp)
  exact hap.2.2 u hu y (by simp[hy])⟩
 intro Φ hΦ;rw[hfe];exact h.facts Φ hΦ
 intro it hi w1 w2 hk hh;obtain ⟨y,hy,h1,h2,_⟩:=key it hi;rw[←h2]at hh⊢;exact h.loc y hy w1 w2 (fun k hk'=>hk k (h1▸hk')) hh
theorem St.unRo {x:Item} (S:St w0 M0 ds a w l bs fs) [hr:ReplI bs x.ro x bs'] (hown:∀ k,x.foot k→M0 k∨w0.heap.size≤k):St w0 M0 ds a w l bs' fs:=by
 obtain ⟨pre,post,rfl,rfl⟩:=hr.ex
 have h:=S.wd
 have key:∀ it,it∈pre++x::post→∃ y,y∈pre++x.ro::post∧y.foot=it.foot∧y.holds=it.holds∧(it=x∨y.own=it.own):=fun it hi=>by
  rcases List.mem_append.1 hi with hi | hi
  exact ⟨it,by simp[hi],rfl,rfl,.inr rfl⟩
  rcases List.mem_cons.1 hi with rfl | hi
  exact ⟨it.ro,by simp,rfl,rfl,.inl rfl⟩
  exact ⟨it,by simp[hi],rfl,rfl,.inr rfl⟩
 have hfe:foots (pre++x::post)=foots (pre++x.ro::post):=foots_repl rfl
 refine ⟨S.slots,S.defers,h.agree,?_,?_,?_,?_,?_,?_⟩
 intro it hi;obtain ⟨y,hy,_,h2,_⟩:=key it hi;rw[←h2];exact h.held y hy
 intro it hi k hk;obtain ⟨y,hy,h1,_,_⟩:=key it hi;exact h.lt y hy k (h1▸hk)
 intro it hi ho k hk
 obtain ⟨y,hy,h1,_,h3⟩:=key it hi
 rcases h3 with rfl | h3
 exact hown k hk
 exact h.own y hy (h3▸ho) k (h1▸hk)
 have hap:=List.pairwise_append.1 h.apart
 have hap2:=List.pairwise_cons.1 hap.2.1
 exact List.pairwise_append.2 ⟨hap.1,List.pairwise_cons.2 hap2,fun u hu y hy=>by
  rcases List.mem_cons.1 hy with rfl | hy
  exact hap.2.2 u hu y.ro (by simp)
  exact hap.2.2 u hu y (by simp[hy])⟩
 intro Φ hΦ;rw[hfe];exact h.facts Φ hΦ
 intro it hi w1 w2 hk hh;obtain ⟨y,hy,h1,h2,_⟩:=key it hi;rw[←h2]at hh⊢;exact h.loc y hy w1 w2 (fun k hk'=>hk k (h1▸hk')) hh
end
theorem St.boxNew {w0 M0 ds a w l bs fs} (S:St w0 M0 ds a w l bs fs) (b:Nat) {t:TypeId} {cs:List Value} [h:HasBox bs b t cs]:M0 b∨w0.heap.size≤b:=S.wd.own _ h.mem rfl b rfl
instance isnatL0:IsNat 0 0:=⟨rfl⟩
instance isnatL1:IsNat 1 1:=⟨rfl⟩
instance isnatL4:IsNat 4 4:=⟨rfl⟩
theorem endI {P:Program} {fn:Func} {R:World→Prop} {w0:World} {M0:Nat→Prop} {a:Act} {w:World} {l:List Value} {bs:List Item} {fs:List (World→Prop)} {e:Exit} [hr:FnRes fn []] (S:St w0 M0 [] a w l bs fs) (h:R w) (he:e=.ret∨e=.normal:=by simp) :
  bodyPost P fn (fun e w'=>(∃ v,e=.returned v)∧R w') e a w:=by
 have hv:(results fn l.toArray).run P w=.ok (.tuple #[]) w:=by rw[results_eq (rs:=[])];simp
 rw[←S.slots]at hv
 rcases he with rfl | rfl
 exact bodyPost_ret hv S.defers ⟨⟨_,rfl⟩,h⟩
 exact bodyPost_end hv S.defers ⟨⟨_,rfl⟩,h⟩
instance (priority:=100) mulnAny {i s:Nat} : MulN i s (i*s):=⟨rfl⟩
theorem LsIn.nil_of {w:World} {i:Nat} {xs:List LTerm} (h:LsIn w none i xs):xs=[]:=by
 cases xs with
 | nil=>rfl
 | cons x xs=>obtain ⟨⟨ad,h0,_⟩,_⟩:=h;cases h0
section
variable {P:Program} {ty:TypeId} {l:Cx} {bs:List Item} {fs:List (World→Prop)} {x y:Operand} {t e:TypeId}
instance (priority:=960) opIdxB {lc:Cx} {b n c k o:Nat} {kk:IntKind} {m:Int} {z:Value} {sz by_:Nat} [Ev lc x (.slice (some ⟨b,0,none⟩) n c)] [Ev lc y (.int kk m)] [Und P t (.slice e)] [TI P e z sz by_] [hm:IsNat m k] [hk:KLt k n] [hmul:MulN k sz o] :
  OpQ P (.indexAddr t x y) ty lc bs fs (.pointer (some ⟨b,o,none⟩)):=⟨fun ρ w h mm=>by
 have hlt:=hk.lt
 have h2:=hm.eq
 subst h2
 have he:(⟨b,0,none⟩:Addr).add (k*sz)=⟨b,o,none⟩:=by rw[hmul.eq,add_lit]
 simp[xop,execOp,h.ev (x:=x) (v:=.slice (some ⟨b,0,none⟩) n c),h.ev (x:=y) (v:=.int kk (k:Int))]
 simp[run_indexAt (P:=P) (t:=t) (e:=e) (z:=z) (sz:=sz) (by_:=by_) (Int.natCast_nonneg k) (Int.ofNat_lt.2 hlt),he]⟩
class LeC (a b:Nat):Prop where le:a≤b
instance (priority:=1100) lec0 {a:Nat} : LeC a a:=⟨Nat.le_refl _⟩
class HiOk (om oh:Option Operand):Prop where ok:om.isSome=true→oh.isSome=true
instance hiok0 {oh:Option Operand} : HiOk none oh:=⟨fun h=>by cases h⟩
instance hiok1 {om:Option Operand} {x:Operand} : HiOk om (some x):=⟨fun _=>rfl⟩
end
section
variable {P:Program} {r:Option Nat} {ops:Array Oper} {Q:Exit→Act→World→Prop} {w0:World} {M0:Nat→Prop} {ds:List Deferred} {a:Act} {w:World} {l:List Value} {bs bs':List Item} {fs:List (World→Prop)}
 {d:Option Nat} {op:Op} {ty:TypeId} {pos:String} {af:Array Edge} {rest:List Oper} {v:Value} {t e:TypeId} {sz by_ n c:Nat} {z:Value} {p:Option Addr} {xs:List Value} {x y:Operand}
theorem add_lit_off (g o j:Nat):(⟨g,o,none⟩:Addr).add j=⟨g,o+j,none⟩:=by unfold Addr.add;split <;> simp_all
theorem run_cut {ρ:Operand→Value} {lc:Cx} {ol oh om:Option Operand} {lo hi mx:Nat} [Ev lc x (.slice p n c)] [hl:EvB lc ol 0 lo] [hh:EvB lc oh n hi] [hx:EvB lc om c mx] [Und P t (.slice e)] [TI P e z sz by_] (hf:Fr ρ lc)
  (h1:mx≤c) (h2:hi≤mx) (h3:lo≤hi) (hxh:om.isSome=true→oh.isSome=true) (w:World) :
  (xop ρ (.slice t x ol oh om) ty).run P w=.ok (.value (.slice (if mx=lo then p else p.map (·.add (lo*sz))) (hi - lo) (mx - lo))) w:=by
 have hsz:=run_size (P:=P) (t:=e) (z:=z) (s:=sz) (b:=by_) w
 have eX:ρ x=.slice p n c:=hf.ev
 have hb:(Instr.sliceBounds true n c (ol.map ρ) (oh.map ρ) (om.map ρ)).run P w=.ok (lo,hi,mx) w:=by
  rcases hx.eq with ⟨rfl,rfl⟩ | ⟨o,kk,rfl,h⟩
  rcases hh.eq with ⟨rfl,rfl⟩ | ⟨o2,kk2,rfl,h'⟩
  rcases hl.eq with ⟨rfl,rfl⟩ | ⟨o3,kk3,rfl,h''⟩
  simp[Instr.sliceBounds]
  have e3:=hf.ev (x:=o3) (v:=.int kk3 (lo:Int))
  simp[Instr.sliceBounds,e3,run_sliceBound h3]
  have e2:=hf.ev (x:=o2) (v:=.int kk2 (hi:Int))
  have h2':hi≤mx:=h2
  rcases hl.eq with ⟨rfl,rfl⟩ | ⟨o3,kk3,rfl,h''⟩
  simp[Instr.sliceBounds,e2,run_sliceBound h2']
  have e3:=hf.ev (x:=o3) (v:=.int kk3 (lo:Int))
  simp[Instr.sliceBounds,Sem.run_bind,e2,e3,run_sliceBound h2',run_sliceBound h3]
  have e1:=hf.ev (x:=o) (v:=.int kk (mx:Int))
  rcases hh.eq with ⟨rfl,rfl⟩ | ⟨o2,kk2,rfl,h'⟩
  exact absurd (hxh rfl) (by simp)
  have e2:=hf.ev (x:=o2) (v:=.int kk2 (hi:Int))
  rcases hl.eq with ⟨rfl,rfl⟩ | ⟨o3,kk3,rfl,h''⟩
  simp[Instr.sliceBounds,Sem.run_bind,e1,e2,run_sliceBound h1,run_sliceBound h2]
  have e3:=hf.ev (x:=o3) (v:=.int kk3 (lo:Int))
  simp[Instr.sliceBounds,Sem.run_bind,e1,e2,e3,run_sliceBound h1,run_sliceBound h2,run_sliceBound h3]
 have key:(Instr.slice t (.slice p n c) (ol.map ρ) (oh.map ρ) (om.map ρ)).run P w=.ok (.slice (if mx=lo then p else p.map (·.add (lo*sz))) (hi - lo) (mx - lo)) w:=by
  simp only[Instr.slice,Sem.run_bind,run_und,Result.andThen_ok,hb,hsz,Sem.run_pure]
 simp only[xop,execOp,Instr.sliceAt,eX,Sem.run_bind,run_und,Result.andThen_ok,Sem.run_pure]
 simp[key]
instance (priority:=700) opSliceQ {lc:Cx} {ol oh om:Option Operand} {lo hi mx:Nat} [Ev lc x (.slice p n c)] [EvB lc ol 0 lo] [EvB lc oh n hi] [EvB lc om c mx] [Und P t (.slice e)] [TI P e z sz by_] [h1:LeC mx c] [h2:LeC hi mx] [h3:LeC lo hi] [h4:HiOk om oh] :
  OpQ P (.slice t x ol oh om) ty lc bs fs (.slice (if mx=lo then p else p.map (·.add (lo*sz))) (hi - lo) (mx - lo)):=⟨fun _ρ w h _=>run_cut h h1.le h2.le h3.le h4.ok w⟩
end
theorem ls_own_from {w:World} {e:TypeId} {p:Option Addr} {n c:Nat} {xs:List LTerm} (h:w.ownsRow 0 e 5 (.slice p n c) n (encL xs)) (hk:∀ x∈xs,LtIn w x):∀ (k i:Nat),xs.length - i=k→i≤xs.length→LsIn w p i (xs.drop i)
 | 0,i,hi,hle=>by rw[List.drop_of_length_le (by omega)];simp[LsIn]
 | k+1,i,hi,hle=>by
  have hlt:i < xs.length:=by omega
  have hn:n=xs.length:=by
   have:=h.1
   rw[encL_len]at this
   have e5:Enc.sz LTerm=5:=rfl
   rw[e5]at this;omega
  obtain ⟨g,cur,hp,_⟩:=own_cells h (by omega)
  rw[nth_drop hlt]
  refine ⟨⟨⟨g,0,none⟩,hp,fun j v hj=>?_⟩,hk _ (nth_mem hlt),ls_own_from h hk k (i+1) (by omega) hlt⟩
  have hj5:j < 5:=(List.getElem?_eq_some_iff.1 hj).1
  have h1:=encL_get xs i _ (nth_get hlt) j hj5
  have h2:(encL xs)[i*5+j]? = some v:=by
   rw[←hj];exact h1
  have h3:=own_cell h h2
  rw[hp]at h3
  simp only[rAddr,Option.getD_some,add_add]at h3
  exact h3
theorem ls_of_own {M:Nat→Prop} {w:World} {e:TypeId} {p:Option Addr} {n c:Nat} {xs:List LTerm} (h:w.ownsRow 0 e 5 (.slice p n c) n (encL xs)) (hk:∀ x∈xs,Stable M w (LtF x)) (hM:∀ ad,p=some ad→¬M ad.block):Stable M w (LsF p 0 xs):=fun w' hw'=>by
 have h':w'.ownsRow 0 e 5 (.slice p n c) n (encL xs):=row_loc e 5 p n c (encL xs) w w' (fun k hkf=>by
  obtain ⟨ad,h1,h2⟩:=hkf
  exact hw'.blk (row_foot_lt h k ⟨ad,h1,h2⟩) (by rw[h2];exact hM ad h1)) h
 have:=ls_own_from h' (fun x hx=>hk x hx w' hw') _ 0 rfl (Nat.zero_le _)
 rw[List.drop_zero]at this
 exact this
theorem St.apart2 {w0 M0 ds a w l bs fs} (S:St w0 M0 ds a w l bs fs) (x y:Item) [h:SubL [x,y] bs] (k:Nat) (hk:x.foot k):¬y.foot k:=by
 have:=(S.wd.apart.sublist h.sub)
 simp only[List.pairwise_cons,List.mem_singleton,forall_eq]at this
 exact this.1 k hk
def kvS (x:List UInt8 × Value):Value × Value:=(str x.1,x.2)
def enKV (e:MapEntry):Value × Value:=(e.key,e.val)
def mpi (b r:Nat) (kv done:List (List UInt8 × Value)):Item where
 foot:=fun k=>k=b∨k=r
 holds:=fun w=>∃ (es:Array MapEntry) (clock:Nat) (ds:List MapEntry),w.heap[b]? = some (.map es clock)∧es.toList.map enKV=kv.map kvS∧(∀ e∈es.toList,e.born < clock)∧(es.toList.map (·.born)).Nodup∧
  w.heap[r]? = some (.mapIter (some b) clock (ds.map (·.born)).toArray clock)∧(∀ e∈ds,e∈es.toList)∧(ds.map (·.born)).Nodup∧ds.map enKV=done.map kvS
class HasMpi (bs:List Item) (r:Nat) (b:outParam Nat) (kv done:outParam (List (List UInt8 × Value))):Prop where mem:mpi b r kv done∈bs
class HasMpiB (bs:List Item) (b:Nat) (kv:outParam (List (List UInt8 × Value))):Prop where mem:∃ r done,mpi b r kv done∈bs
section
variable {P:Program} {r0:Option Nat} {ops:Array Oper} {Q:Exit→Act→World→Prop} {w0:World} {M0:Nat→Prop} {ds:List Deferred} {a:Act} {w:World} {l:List Value} {bs:List Item} {fs:List (World→Prop)}
 {d:Option Nat} {op:Op} {ty:TypeId} {pos:String} {af:Array Edge} {rest:List Oper} {t kt et:TypeId} {x:Operand} {b:Nat} {kv:List (List UInt8 × Value)}
end
section
variable {P:Program} {r:Option Nat} {ops:Array Oper} {Q:Exit→Act→World→Prop} {w0:World} {M0:Nat→Prop} {ds:List Deferred} {a:Act} {w:World} {l:List Value} {bs:List Item} {fs:List (World→Prop)}
 {d:Option Nat} {ty:TypeId} {pos:String} {af:Array Edge} {rest:List Oper} {f:Nat} {x:Operand} {ys:List Operand} {args:List Value} {ts:Array TypeId}
theorem Wd.addItem {w':World} {y:Item} (hold:Wd w0 M0 w bs fs) (hw:Grow w w') (hy:y.holds w') (hfoot:∀ k,y.foot k→w.heap.size≤k) (hlt:∀ k,y.foot k→k < w'.heap.size)
  (hloc:∀ w1 w2:World,(∀ k,y.foot k→w2.heap[k]? = w1.heap[k]?)→y.holds w1→y.holds w2):Wd w0 M0 w' (y::bs) fs:=by
 refine (hold.step hw).more hy (fun k hk=>Nat.le_trans hold.agree.size (hfoot k hk)) hlt (fun it hi k hk hk'=>absurd (hold.lt it hi k hk') (by have:=hfoot k hk;omega)) (fun Φ hΦ w'' hw''=>?_) hloc
 refine hold.facts Φ hΦ w'' ((hw.mono (fun _ _ h=>h.elim)).trans' hw'' fun i hi ⟨it,hm,hk⟩=>?_)
 rcases List.mem_cons.1 hm with rfl | hm
 exact absurd (hfoot i hk) (by omega)
 exact ⟨it,hm,hk⟩
end
end Go.Wk
namespace Go.Proofs.YtdakncgafdnjfaaGreat
open Go Go.Wk
set_option synthInstance.maxSize 100000
set_option synthInstance.maxHeartbeats 400000
set_option maxRecDepth 100000
abbrev zeroL:LTerm:=.mk 0 0 0 [] none 0 []
theorem kid_st {M:Nat→Prop} {w:World} {t x:LTerm} (h:Stable M w (LtF t)) (hx:x∈t.kids):Stable M w (LtF x):=by
 obtain ⟨k,hk,rfl⟩:=List.mem_iff_getElem.1 hx
 exact h.imp fun w' hw'=>((LtIn.iff.1 hw').2.2.get (List.getElem?_eq_getElem hk)).2
theorem clone_c (xs:List LTerm) (p:Option Addr) (n c:Nat) (w0:World) (hn:xs.length=n) (hl:n≤10000000) (hx:Stable (fun _=>False) w0 (LsF p 0 xs)) :
  Ret Tryz.prog 251 [.slice p n c] w0 (fun _=>False) fun v w'=>∃ p' c',v=.slice p' n c'∧w'.ownsRow 0 43 5 (.slice p' n c') n (encL xs)∧∀ ad,p'=some ad→w0.heap.size≤ad.block:=by
 refine enter Tryz.func251 rfl rfl (Wd.begin (fs:=[LsF p 0 xs]) (by simpa using hx)) (fun a S=>?_)
 simp only[Tryz.ntmps251,qqA,qqB,Nat.reduceAdd,Nat.reduceSub,qqC,qqD,qqE,qqF]at S
 refine kS (kR (sq S ?_));clear S;intro a S;refine kN (xtn (kS (kS (kR ?_))));(iterate 2 (refine sq S ?_;clear S;intro a S));refine kN (xtn ?_)
 refine kC S (fun h1=>?_) (fun h1=>?_)
 refine kS (kR (sq S ?_));clear S;intro a S;refine kN (xtn (kT (xtr ?_)))
 have hp:p=none:=by simpa using h1
 subst hp
 have hx0:=hx.now.nil_of
 subst hx0
 simp at hn
 subst hn
 refine end1 S (fun _=>?_)
 exact ⟨none,0,rfl,World.ownsRow_nil _ _ _ _,fun _ h=>by cases h⟩
 refine kK (xtn (kS (kR ?_)));refine sn S ?_;clear S;intro b5 a w S;refine sq S ?_;clear S;intro a S
 replace S:=S.boxRow b5 5 0 rfl (by omega)
 have hN:LenN xs n:=⟨hn⟩
 refine sap S (by simp[maxLen];omega) (by omega) ?_;clear S;rintro p2 c2 a w - S
 rw[qqF,Nat.zero_add]at S
 refine sq S ?_;clear S;intro a S;refine kN (xtn (kT ?_))
 have hrow:=S.row p2 n
 have hnew:=S.rowNew p2 n
 refine end1 S (fun _=>?_)
 exact ⟨p2,c2,rfl,hrow,fun ad h=>(hnew ad h).elim (fun h=>h.elim) id⟩
theorem encL_drop (xs:List LTerm) (k:Nat) (h:k≤xs.length):(encL xs).drop (k*5)=encL (xs.drop k):=by
 have e:encL xs=encL (xs.take k)++encL (xs.drop k):=by rw[←encL_append,List.take_append_drop]
 have hl:(encL (xs.take k)).length=k*5:=by rw[encL_len,List.length_take,Nat.min_eq_left h];rfl
 rw[e,←hl,List.drop_left]
end Go.Proofs.YtdakncgafdnjfaaGreat