/- 2: a part of this claim's texts, joined: Inst Octet TermA TermB TermC SlicesT TermD RefTerm PlainRight TermE TermF CloseA PlainName. -/
import Derived.Test.YtdakncgafdnjfaaGreatPm1
import Derived.Test.YtdakncgafdnjfaaGreatProg
namespace Go.Proofs.YtdakncgafdnjfaaGreat
open Go.Proofs.Tryz
open Go Go.Wk
section
set_option maxRecDepth 100000
instance:dN prog 3 (.int .i64):=⟨underlying3⟩
instance:TI prog 3 (.int .i64 0) 1 8:=bZ (by kernel_rfl)
instance:dN prog 4 (.bool):=⟨underlying4⟩
instance:TI prog 4 (.bool false) 1 1:=bZ (by kernel_rfl)
instance:dN prog 5 (.int .u8):=⟨underlying5⟩
instance:TI prog 5 (.int .u8 0) 1 1:=bZ (by kernel_rfl)
instance:dN prog 9 (.string):=⟨underlying9⟩
instance:TI prog 9 (.string ⟨#[]⟩) 1 16:=bZ (by kernel_rfl)
instance:dN prog 25 (.slice 5):=⟨underlying25⟩
instance:TI prog 25 (.slice none 0 0) 1 24:=bZ (by kernel_rfl)
instance:dN prog 26 (.int .i64):=⟨underlying26⟩
instance:TI prog 26 (.int .i64 0) 1 8:=bZ (by kernel_rfl)
instance:dN prog 33 (.slice 25):=⟨underlying33⟩
instance:TI prog 33 (.slice none 0 0) 1 24:=bZ (by kernel_rfl)
instance:dN prog 34 (.pointer 170):=⟨underlying34⟩
instance:TI prog 34 (.pointer none) 1 8:=bZ (by kernel_rfl)
instance:dN prog 36 (.pointer 134):=⟨underlying36⟩
instance:dN prog 41 (.slice 43):=⟨underlying41⟩
instance:TI prog 41 (.slice none 0 0) 1 24:=bZ (by kernel_rfl)
instance:eU prog 43 true:=fO (by kernel_rfl)
instance:fZ prog 43 0 0 3:=aX (by kernel_rfl)
instance:fZ prog 43 1 1 3:=aX (by kernel_rfl)
instance:fZ prog 43 2 2 3:=aX (by kernel_rfl)
instance:fZ prog 43 3 3 9:=aX (by kernel_rfl)
instance:fZ prog 43 4 4 41:=aX (by kernel_rfl)
instance:jT prog 43 [(0,1),(1,1),(2,1),(3,1),(4,1)]:=dH (by kernel_rfl)
instance:TI prog 43 (.agg #[.int .i64 0,.int .i64 0,.int .i64 0,.string ⟨#[]⟩,.slice none 0 0]) 5 64:=bZ (by kernel_rfl)
instance:dN prog 58 (.slice 4):=⟨underlying58⟩
instance:dN prog 63 (.slice 175):=⟨underlying63⟩
instance:TI prog 63 (.slice none 0 0) 1 24:=bZ (by kernel_rfl)
instance:dN prog 64 (.slice 177):=⟨underlying64⟩
instance:TI prog 64 (.slice none 0 0) 1 24:=bZ (by kernel_rfl)
instance:dN prog 65 (.slice 179):=⟨underlying65⟩
instance:TI prog 65 (.slice none 0 0) 1 24:=bZ (by kernel_rfl)
instance:eU prog 67 true:=fO (by kernel_rfl)
instance:fZ prog 67 0 0 3:=aX (by kernel_rfl)
instance:fZ prog 67 1 1 3:=aX (by kernel_rfl)
instance:fZ prog 67 2 2 3:=aX (by kernel_rfl)
instance:fZ prog 67 3 3 3:=aX (by kernel_rfl)
instance:fZ prog 67 4 4 63:=aX (by kernel_rfl)
instance:fZ prog 67 5 5 64:=aX (by kernel_rfl)
instance:fZ prog 67 6 6 65:=aX (by kernel_rfl)
instance:jT prog 67 [(0,1),(1,1),(2,1),(3,1),(4,1),(5,1),(6,1)]:=dH (by kernel_rfl)
instance:TI prog 67 (.agg #[.int .i64 0,.int .i64 0,.int .i64 0,.int .i64 0,.slice none 0 0,.slice none 0 0,.slice none 0 0]) 7 104:=bZ (by kernel_rfl)
instance:dN prog 79 (.int .u64):=⟨underlying79⟩
instance:dN prog 84 (.pointer 214):=⟨underlying84⟩
instance:TI prog 84 (.pointer none) 1 8:=bZ (by kernel_rfl)
instance:eU prog 90 true:=fO (by kernel_rfl)
instance:fZ prog 90 0 0 3:=aX (by kernel_rfl)
instance:fZ prog 90 1 1 3:=aX (by kernel_rfl)
instance:fZ prog 90 2 2 67:=aX (by kernel_rfl)
instance:fZ prog 90 3 9 58:=aX (by kernel_rfl)
instance:TI prog 90 (.agg #[.int .i64 0,.int .i64 0,.int .i64 0,.int .i64 0,.int .i64 0,.int .i64 0,.slice none 0 0,.slice none 0 0,.slice none 0 0,.slice none 0 0]) 10 144:=bZ (by kernel_rfl)
instance:dN prog 94 (.pointer 98):=⟨underlying94⟩
instance:dN prog 96 (.pointer 226):=⟨underlying96⟩
instance:TI prog 96 (.pointer none) 1 8:=bZ (by kernel_rfl)
instance:fZ prog 98 0 0 34:=aX (by kernel_rfl)
instance:fZ prog 98 1 1 34:=aX (by kernel_rfl)
instance:fZ prog 98 2 2 84:=aX (by kernel_rfl)
instance:fZ prog 98 3 3 96:=aX (by kernel_rfl)
instance:jT prog 98 [(0,1),(1,1),(2,1),(3,1)]:=dH (by kernel_rfl)
instance:TI prog 98 (.agg #[.pointer none,.pointer none,.pointer none,.pointer none]) 4 32:=bZ (by kernel_rfl)
instance:dN prog 99 (.array 2 34):=⟨underlying99⟩
instance:TI prog 99 (.agg #[.pointer none,.pointer none]) 2 16:=bZ (by kernel_rfl)
instance:dN prog 113 (.int .u16):=⟨underlying113⟩
instance:dN prog 114 (.pointer 238):=⟨underlying114⟩
instance:eU prog 121 false:=fO (by kernel_rfl)
instance:TI prog 121 (.nilFunc) 1 8:=bZ (by kernel_rfl)
instance:dN prog 128 (.array 64 5):=⟨underlying128⟩
instance:TI prog 128 (.agg ⟨aa (List.replicate 64 (0:UInt8))⟩) 64 64:=bZ (by kernel_rfl)
instance:dN prog 129 (.array 64 5):=⟨underlying129⟩
instance:TI prog 129 (.agg ⟨aa (List.replicate 64 (0:UInt8))⟩) 64 64:=bZ (by kernel_rfl)
instance:dN prog 130 (.int .u32):=⟨underlying130⟩
instance:TI prog 130 (.int .u32 0) 1 4:=bZ (by kernel_rfl)
instance:eU prog 132 true:=fO (by kernel_rfl)
instance:fZ prog 132 0 0 34:=aX (by kernel_rfl)
instance:fZ prog 132 1 1 3:=aX (by kernel_rfl)
instance:fZ prog 132 2 2 130:=aX (by kernel_rfl)
instance:jT prog 132 [(0,1),(1,1),(2,1)]:=dH (by kernel_rfl)
instance:TI prog 132 (.agg #[.pointer none,.int .i64 0,.int .u32 0]) 3 24:=bZ (by kernel_rfl)
instance:fZ prog 134 0 0 132:=aX (by kernel_rfl)
instance:fZ prog 134 1 3 33:=aX (by kernel_rfl)
instance:fZ prog 134 2 4 3:=aX (by kernel_rfl)
instance:fZ prog 134 3 5 4:=aX (by kernel_rfl)
instance:jT prog 134 [(0,3),(3,1),(4,1),(5,1)]:=dH (by kernel_rfl)
instance:TI prog 134 (.agg #[.pointer none,.int .i64 0,.int .u32 0,.slice none 0 0,.int .i64 0,.bool false]) 6 64:=bZ (by kernel_rfl)
instance:dN prog 163 (.map 3 129):=⟨underlying163⟩
instance:TI prog 163 (.map none) 1 8:=bZ (by kernel_rfl)
instance:dN prog 164 (.slice 265):=⟨underlying164⟩
instance:TI prog 164 (.slice none 0 0) 1 24:=bZ (by kernel_rfl)
instance:fZ prog 166 0 0 4:=aX (by kernel_rfl)
instance:fZ prog 166 1 1 3:=aX (by kernel_rfl)
instance:jT prog 166 [(0,1),(1,1)]:=dH (by kernel_rfl)
instance:TI prog 166 (.agg #[.bool false,.int .i64 0]) 2 16:=bZ (by kernel_rfl)
instance:eU prog 168 true:=fO (by kernel_rfl)
instance:fZ prog 168 0 0 3:=aX (by kernel_rfl)
instance:fZ prog 168 1 1 163:=aX (by kernel_rfl)
instance:fZ prog 168 2 2 164:=aX (by kernel_rfl)
instance:fZ prog 168 3 3 4:=aX (by kernel_rfl)
instance:fZ prog 168 4 4 166:=aX (by kernel_rfl)
instance:fZ prog 168 5 6 166:=aX (by kernel_rfl)
instance:fZ prog 168 6 8 3:=aX (by kernel_rfl)
instance:jT prog 168 [(0,1),(1,1),(2,1),(3,1),(4,2),(6,2),(8,1)]:=dH (by kernel_rfl)
instance:TI prog 168 (.agg #[.int .i64 0,.map none,.slice none 0 0,.bool false,.bool false,.int .i64 0,.bool false,.int .i64 0,.int .i64 0]) 9 88:=bZ (by kernel_rfl)
instance:fZ prog 170 0 0 168:=aX (by kernel_rfl)
instance:jT prog 170 [(0,9)]:=dH (by kernel_rfl)
instance:TI prog 170 (.agg #[.int .i64 0,.map none,.slice none 0 0,.bool false,.bool false,.int .i64 0,.bool false,.int .i64 0,.int .i64 0]) 9 88:=bZ (by kernel_rfl)
instance:eU prog 175 true:=fO (by kernel_rfl)
instance:fZ prog 175 0 0 9:=aX (by kernel_rfl)
instance:fZ prog 175 1 1 3:=aX (by kernel_rfl)
instance:jT prog 175 [(0,1),(1,1)]:=dH (by kernel_rfl)
instance:TI prog 175 (.agg #[.string ⟨#[]⟩,.int .i64 0]) 2 24:=bZ (by kernel_rfl)
instance:eU prog 177 true:=fO (by kernel_rfl)
instance:fZ prog 177 0 0 9:=aX (by kernel_rfl)
instance:fZ prog 177 1 1 3:=aX (by kernel_rfl)
instance:jT prog 177 [(0,1),(1,1)]:=dH (by kernel_rfl)
instance:TI prog 177 (.agg #[.string ⟨#[]⟩,.int .i64 0]) 2 24:=bZ (by kernel_rfl)
instance:eU prog 179 true:=fO (by kernel_rfl)
instance:fZ prog 179 0 0 3:=aX (by kernel_rfl)
instance:fZ prog 179 1 1 3:=aX (by kernel_rfl)
instance:fZ prog 179 2 2 43:=aX (by kernel_rfl)
instance:jT prog 179 [(0,1),(1,1),(2,5)]:=dH (by kernel_rfl)
instance:TI prog 179 (.agg #[.int .i64 0,.int .i64 0,.int .i64 0,.int .i64 0,.int .i64 0,.string ⟨#[]⟩,.slice none 0 0]) 7 80:=bZ (by kernel_rfl)
instance:dN prog 183 (.slice 3):=⟨underlying183⟩
instance:eU prog 192 false:=fO (by kernel_rfl)
instance:eU prog 196 false:=fO (by kernel_rfl)
instance:dN prog 204 (.array 3 3):=⟨underlying204⟩
instance:TI prog 204 (.agg #[.int .i64 0,.int .i64 0,.int .i64 0]) 3 24:=bZ (by kernel_rfl)
instance:dN prog 207 (.pointer 209):=⟨underlying207⟩
instance:TI prog 207 (.pointer none) 1 8:=bZ (by kernel_rfl)
instance:fZ prog 209 0 0 114:=aX (by kernel_rfl)
instance:fZ prog 209 1 1 4:=aX (by kernel_rfl)
instance:jT prog 209 [(0,1),(1,1)]:=dH (by kernel_rfl)
instance:TI prog 209 (.agg #[.pointer none,.bool false]) 2 16:=bZ (by kernel_rfl)
instance:fZ prog 214 0 0 36:=aX (by kernel_rfl)
instance:fZ prog 214 1 1 67:=aX (by kernel_rfl)
instance:jT prog 214 [(0,1),(1,7)]:=dH (by kernel_rfl)
instance:TI prog 214 (.agg #[.pointer none,.int .i64 0,.int .i64 0,.int .i64 0,.int .i64 0,.slice none 0 0,.slice none 0 0,.slice none 0 0]) 8 112:=bZ (by kernel_rfl)
instance:dN prog 219 (.slice 129):=⟨underlying219⟩
instance:fZ prog 226 0 0 36:=aX (by kernel_rfl)
instance:fZ prog 226 1 1 67:=aX (by kernel_rfl)
instance:jT prog 226 [(0,1),(1,7)]:=dH (by kernel_rfl)
instance:TI prog 226 (.agg #[.pointer none,.int .i64 0,.int .i64 0,.int .i64 0,.int .i64 0,.slice none 0 0,.slice none 0 0,.slice none 0 0]) 8 112:=bZ (by kernel_rfl)
instance:dN prog 229 (.array 2 4):=⟨underlying229⟩
instance:TI prog 229 (.agg #[.bool false,.bool false]) 2 2:=bZ (by kernel_rfl)
instance:fZ prog 236 0 0 25:=aX (by kernel_rfl)
instance:fZ prog 236 1 1 26:=aX (by kernel_rfl)
instance:jT prog 236 [(0,1),(1,1)]:=dH (by kernel_rfl)
instance:TI prog 236 (.agg #[.slice none 0 0,.int .i64 0]) 2 32:=bZ (by kernel_rfl)
instance:fZ prog 238 0 0 236:=aX (by kernel_rfl)
instance:jT prog 238 [(0,2)]:=dH (by kernel_rfl)
instance:TI prog 238 (.agg #[.slice none 0 0,.int .i64 0]) 2 32:=bZ (by kernel_rfl)
instance:dN prog 239 (.int .u64):=⟨underlying239⟩
instance:TI prog 239 (.int .u64 0) 1 8:=bZ (by kernel_rfl)
instance:fZ prog 245 0 0 114:=aX (by kernel_rfl)
instance:fZ prog 245 1 1 3:=aX (by kernel_rfl)
instance:jT prog 245 [(0,1),(1,1)]:=dH (by kernel_rfl)
instance:TI prog 245 (.agg #[.pointer none,.int .i64 0]) 2 16:=bZ (by kernel_rfl)
instance:fZ prog 247 0 0 26:=aX (by kernel_rfl)
instance:jT prog 247 [(0,1)]:=dH (by kernel_rfl)
instance:TI prog 247 (.agg #[.int .i64 0]) 1 8:=bZ (by kernel_rfl)
instance:dN prog 252 (.array 2 121):=⟨underlying252⟩
instance:TI prog 252 (.agg #[.nilFunc,.nilFunc]) 2 16:=bZ (by kernel_rfl)
instance:dN prog 253 (.array 48 5):=⟨underlying253⟩
instance:TI prog 253 (.agg ⟨aa (List.replicate 48 (0:UInt8))⟩) 48 48:=bZ (by kernel_rfl)
instance:dN prog 263 (.pointer 168):=⟨underlying263⟩
instance:eU prog 265 true:=fO (by kernel_rfl)
instance:fZ prog 265 0 0 3:=aX (by kernel_rfl)
instance:fZ prog 265 1 1 129:=aX (by kernel_rfl)
instance:jT prog 265 [(0,1),(1,64)]:=dH (by kernel_rfl)
instance:TI prog 265 (.agg ⟨.int .i64 0::aa (List.replicate 64 (0:UInt8))⟩) 65 72:=bZ (by kernel_rfl)
instance:eU prog 271 true:=fO (by kernel_rfl)
instance:fZ prog 271 0 0 3:=aX (by kernel_rfl)
instance:fZ prog 271 1 1 3:=aX (by kernel_rfl)
instance:fZ prog 271 2 2 9:=aX (by kernel_rfl)
instance:jT prog 271 [(0,1),(1,1),(2,1),(3,1),(4,1),(5,1),(6,5)]:=dH (by kernel_rfl)
instance:TI prog 271 (.agg #[.int .i64 0,.int .i64 0,.string ⟨#[]⟩,.int .i64 0,.int .i64 0,.bool false,.int .i64 0,.int .i64 0,.int .i64 0,.string ⟨#[]⟩,.slice none 0 0]) 11 120:=bZ (by kernel_rfl)
instance:fZ prog 288 0 0 25:=aX (by kernel_rfl)
instance:fZ prog 288 1 1 4:=aX (by kernel_rfl)
instance:fZ prog 288 2 2 4:=aX (by kernel_rfl)
instance:jT prog 288 [(0,1),(1,1),(2,1)]:=dH (by kernel_rfl)
instance:TI prog 288 (.agg #[.slice none 0 0,.bool false,.bool false]) 3 32:=bZ (by kernel_rfl)
instance:dN prog 296 (.array 32 5):=⟨underlying296⟩
instance:TI prog 296 (.agg ⟨aa (List.replicate 32 (0:UInt8))⟩) 32 32:=bZ (by kernel_rfl)
instance:dN prog 313 (.array 8 130):=⟨underlying313⟩
instance:TI prog 313 (.agg #[.int .u32 0,.int .u32 0,.int .u32 0,.int .u32 0,.int .u32 0,.int .u32 0,.int .u32 0,.int .u32 0]) 8 32:=bZ (by kernel_rfl)
instance:eU prog 319 false:=fO (by kernel_rfl)
instance:eU prog 321 true:=fO (by kernel_rfl)
instance:fZ prog 321 0 0 3:=aX (by kernel_rfl)
instance:fZ prog 321 1 1 3:=aX (by kernel_rfl)
instance:fZ prog 321 2 2 3:=aX (by kernel_rfl)
instance:fZ prog 321 3 3 319:=aX (by kernel_rfl)
instance:jT prog 321 [(0,1),(1,1),(2,1),(3,1)]:=dH (by kernel_rfl)
instance:TI prog 321 (.agg #[.int .i64 0,.int .i64 0,.int .i64 0,.nilFunc]) 4 32:=bZ (by kernel_rfl)
instance:dN prog 322 (.array 16 130):=⟨underlying322⟩
instance:TI prog 322 (.agg #[.int .u32 0,.int .u32 0,.int .u32 0,.int .u32 0,.int .u32 0,.int .u32 0,.int .u32 0,.int .u32 0,.int .u32 0,.int .u32 0,.int .u32 0,.int .u32 0,.int .u32 0,.int .u32 0,.int .u32 0,.int .u32 0]) 16 64:=bZ (by kernel_rfl)
instance:dN prog 323 (.array 64 130):=⟨underlying323⟩
instance:TI prog 323 (.agg ⟨.int .u32 0::.int .u32 0::.int .u32 0::.int .u32 0::.int .u32 0::.int .u32 0::.int .u32 0::.int .u32 0::.int .u32 0::.int .u32 0::.int .u32 0::.int .u32 0::.int .u32 0::.int .u32 0::.int .u32 0::.int .u32 0::.int .u32 0::.int .u32 0::.int .u32 0::.int .u32 0::.int .u32 0::.int .u32 0::.int .u32 0::.int .u32 0::.int .u32 0::.int .u32 0::.int .u32 0::.int .u32 0::.int .u32 0::.int .u32 0::.int .u32 0::.int .u32 0::.int .u32 0::.int .u32 0::.int .u32 0::.int .u32 0::.int .u32 0::.int .u32 0::.int .u32 0::.int .u32 0::.int .u32 0::.int .u32 0::.int .u32 0::.int .u32 0::.int .u32 0::.int .u32 0::.int .u32 0::.int .u32 0::.int .u32 0::.int .u32 0::.int .u32 0::.int .u32 0::.int .u32 0::.int .u32 0::.int .u32 0::.int .u32 0::.int .u32 0::.int .u32 0::.int .u32 0::.int .u32 0::.int .u32 0::.int .u32 0::.int .u32 0::.int .u32 0::[]⟩) 64 256:=bZ (by kernel_rfl)
instance:ax Tryz.f11 [ResultVar.tmp 6]:=⟨rfl⟩
instance:ax Tryz.f18 [ResultVar.tmp 4,ResultVar.tmp 5]:=⟨rfl⟩
instance:ax Tryz.f19 [ResultVar.cell 4 26]:=⟨rfl⟩
instance:ax Tryz.f20 [ResultVar.cell 4 26]:=⟨rfl⟩
instance:ax Tryz.f31 [ResultVar.tmp 4]:=⟨rfl⟩
instance:ax Tryz.f32 [ResultVar.tmp 4]:=⟨rfl⟩
instance:ax Tryz.f33 [ResultVar.tmp 0]:=⟨rfl⟩
instance:ax Tryz.f34 [ResultVar.cell 2 67]:=⟨rfl⟩
instance:ax Tryz.f35 [ResultVar.tmp 2]:=⟨rfl⟩
instance:ax Tryz.f36 [ResultVar.tmp 2,ResultVar.tmp 3]:=⟨rfl⟩
instance:ax Tryz.f37 [ResultVar.tmp 2]:=⟨rfl⟩
instance:ax Tryz.f38 [ResultVar.tmp 4]:=⟨rfl⟩
instance:ax Tryz.f39 [ResultVar.tmp 4]:=⟨rfl⟩
instance:ax Tryz.f40 [ResultVar.tmp 4]:=⟨rfl⟩
instance:ax Tryz.f41 [ResultVar.tmp 4]:=⟨rfl⟩
instance:ax Tryz.f42 [ResultVar.tmp 4]:=⟨rfl⟩
instance:ax Tryz.f43 [ResultVar.tmp 2]:=⟨rfl⟩
instance:ax Tryz.f44 [ResultVar.cell 2 67,ResultVar.tmp 3]:=⟨rfl⟩
instance:ax Tryz.f45 [ResultVar.tmp 2,ResultVar.tmp 3]:=⟨rfl⟩
instance:ax Tryz.f46 [ResultVar.tmp 6,ResultVar.tmp 7]:=⟨rfl⟩
instance:ax Tryz.f47 [ResultVar.cell 2 67]:=⟨rfl⟩
instance:ax Tryz.f49 [ResultVar.cell 4 67]:=⟨rfl⟩
instance:ax Tryz.f50 [ResultVar.tmp 4]:=⟨rfl⟩
instance:ax Tryz.f51 [ResultVar.tmp 4]:=⟨rfl⟩
instance:ax Tryz.f52 [ResultVar.cell 2 84,ResultVar.cell 3 26]:=⟨rfl⟩
instance:ax Tryz.f53 [ResultVar.tmp 4]:=⟨rfl⟩
instance:ax Tryz.f54 [ResultVar.tmp 2,ResultVar.tmp 3]:=⟨rfl⟩
instance:ax Tryz.f55 [ResultVar.cell 2 96,ResultVar.cell 3 26]:=⟨rfl⟩
instance:ax Tryz.f56 [ResultVar.tmp 2]:=⟨rfl⟩
instance:ax Tryz.f57 [ResultVar.tmp 4]:=⟨rfl⟩
instance:ax Tryz.f58 [ResultVar.tmp 4]:=⟨rfl⟩
instance:ax Tryz.f61 [ResultVar.tmp 4]:=⟨rfl⟩
instance:ax Tryz.f64 [ResultVar.tmp 2,ResultVar.tmp 3]:=⟨rfl⟩
instance:ax Tryz.f65 [ResultVar.tmp 4]:=⟨rfl⟩
instance:ax Tryz.f66 [ResultVar.tmp 2]:=⟨rfl⟩
instance:ax Tryz.f67 [ResultVar.tmp 2]:=⟨rfl⟩
instance:ax Tryz.f68 [ResultVar.cell 4 25]:=⟨rfl⟩
instance:ax Tryz.f69 [ResultVar.tmp 2]:=⟨rfl⟩
instance:ax Tryz.f70 [ResultVar.cell 2 43,ResultVar.cell 3 3,ResultVar.cell 4 26]:=⟨rfl⟩
instance:ax Tryz.f71 [ResultVar.tmp 2]:=⟨rfl⟩
instance:ax Tryz.f72 [ResultVar.tmp 2]:=⟨rfl⟩
instance:ax Tryz.f73 [ResultVar.tmp 4]:=⟨rfl⟩
instance:ax Tryz.f74 [ResultVar.cell 6 26]:=⟨rfl⟩
instance:ax Tryz.f75 [ResultVar.tmp 4]:=⟨rfl⟩
instance:ax Tryz.f76 [ResultVar.tmp 4]:=⟨rfl⟩
instance:ax Tryz.f77 [ResultVar.tmp 4]:=⟨rfl⟩
instance:ax Tryz.f78 [ResultVar.tmp 2]:=⟨rfl⟩
instance:ax Tryz.f79 []:=⟨rfl⟩
instance:ax Tryz.f80 [ResultVar.cell 2 132]:=⟨rfl⟩
instance:ax Tryz.f81 [ResultVar.tmp 2]:=⟨rfl⟩
instance:ax Tryz.f82 [ResultVar.tmp 6]:=⟨rfl⟩
instance:ax Tryz.f83 [ResultVar.cell 8 43,ResultVar.tmp 9,ResultVar.tmp 10,ResultVar.tmp 11]:=⟨rfl⟩
instance:ax Tryz.f85 [ResultVar.tmp 4]:=⟨rfl⟩
instance:ax Tryz.f86 [ResultVar.tmp 2]:=⟨rfl⟩
instance:ax Tryz.f94 [ResultVar.tmp 2]:=⟨rfl⟩
instance:ax Tryz.f99 [ResultVar.tmp 2]:=⟨rfl⟩
instance:ax Tryz.f100 [ResultVar.tmp 2]:=⟨rfl⟩
instance:ax Tryz.f101 [ResultVar.tmp 2]:=⟨rfl⟩
instance:ax Tryz.f102 []:=⟨rfl⟩
instance:ax Tryz.f103 []:=⟨rfl⟩
instance:ax Tryz.f104 [ResultVar.tmp 3]:=⟨rfl⟩
instance:ax Tryz.f105 [ResultVar.cell 4 43]:=⟨rfl⟩
instance:ax Tryz.f106 [ResultVar.tmp 2]:=⟨rfl⟩
instance:ax Tryz.f107 [ResultVar.tmp 2]:=⟨rfl⟩
instance:ax Tryz.f108 [ResultVar.tmp 2]:=⟨rfl⟩
instance:ax Tryz.f109 [ResultVar.tmp 2]:=⟨rfl⟩
instance:ax Tryz.f110 []:=⟨rfl⟩
instance:ax Tryz.f111 []:=⟨rfl⟩
instance:ax Tryz.f112 [ResultVar.tmp 4]:=⟨rfl⟩
instance:ax Tryz.f113 [ResultVar.tmp 2]:=⟨rfl⟩
instance:ax Tryz.f114 [ResultVar.tmp 4]:=⟨rfl⟩
instance:ax Tryz.f115 [ResultVar.tmp 2]:=⟨rfl⟩
instance:ax Tryz.f116 [ResultVar.tmp 2]:=⟨rfl⟩
instance:ax Tryz.f117 [ResultVar.tmp 3]:=⟨rfl⟩
instance:ax Tryz.f118 [ResultVar.tmp 4]:=⟨rfl⟩
instance:ax Tryz.f119 [ResultVar.tmp 3]:=⟨rfl⟩
instance:ax Tryz.f120 [ResultVar.cell 4 179,ResultVar.tmp 5]:=⟨rfl⟩
instance:ax Tryz.f121 [ResultVar.tmp 4]:=⟨rfl⟩
instance:ax Tryz.f122 [ResultVar.tmp 4]:=⟨rfl⟩
instance:ax Tryz.f123 [ResultVar.tmp 4]:=⟨rfl⟩
instance:ax Tryz.f124 [ResultVar.tmp 4]:=⟨rfl⟩
instance:ax Tryz.f125 [ResultVar.tmp 4]:=⟨rfl⟩
instance:ax Tryz.f126 [ResultVar.tmp 4]:=⟨rfl⟩
instance:ax Tryz.f127 [ResultVar.cell 4 179,ResultVar.tmp 5]:=⟨rfl⟩
instance:ax Tryz.f128 [ResultVar.tmp 4]:=⟨rfl⟩
instance:ax Tryz.f129 [ResultVar.tmp 4]:=⟨rfl⟩
instance:ax Tryz.f130 [ResultVar.tmp 4]:=⟨rfl⟩
instance:ax Tryz.f131 [ResultVar.tmp 6]:=⟨rfl⟩
instance:ax Tryz.f132 [ResultVar.tmp 4]:=⟨rfl⟩
instance:ax Tryz.f133 [ResultVar.tmp 4]:=⟨rfl⟩
instance:ax Tryz.f134 [ResultVar.tmp 2]:=⟨rfl⟩
instance:ax Tryz.f135 [ResultVar.tmp 4]:=⟨rfl⟩
instance:ax Tryz.f136 [ResultVar.tmp 2]:=⟨rfl⟩
instance:ax Tryz.f137 []:=⟨rfl⟩
instance:ax Tryz.f138 []:=⟨rfl⟩
instance:ax Tryz.f139 [ResultVar.tmp 2]:=⟨rfl⟩
instance:ax Tryz.f140 []:=⟨rfl⟩
instance:ax Tryz.f141 []:=⟨rfl⟩
instance:ax Tryz.f142 [ResultVar.cell 2 43]:=⟨rfl⟩
instance:ax Tryz.f143 [ResultVar.cell 2 67]:=⟨rfl⟩
instance:ax Tryz.f144 []:=⟨rfl⟩
instance:ax Tryz.f145 [ResultVar.tmp 6,ResultVar.tmp 7]:=⟨rfl⟩
instance:ax Tryz.f146 [ResultVar.cell 2 132,ResultVar.tmp 3]:=⟨rfl⟩
instance:ax Tryz.f147 [ResultVar.cell 4 129,ResultVar.tmp 5]:=⟨rfl⟩
instance:ax Tryz.f148 [ResultVar.cell 8 25,ResultVar.cell 9 4]:=⟨rfl⟩
instance:ax Tryz.f149 [ResultVar.tmp 4]:=⟨rfl⟩
instance:ax Tryz.f150 [ResultVar.cell 2 67,ResultVar.tmp 3]:=⟨rfl⟩
instance:ax Tryz.f151 [ResultVar.tmp 2]:=⟨rfl⟩
instance:ax Tryz.f152 []:=⟨rfl⟩
instance:ax Tryz.f153 [ResultVar.tmp 4]:=⟨rfl⟩
instance:ax Tryz.f154 [ResultVar.tmp 2]:=⟨rfl⟩
instance:ax Tryz.f155 [ResultVar.tmp 2]:=⟨rfl⟩
instance:ax Tryz.f156 [ResultVar.tmp 2]:=⟨rfl⟩
instance:ax Tryz.f157 [ResultVar.tmp 2]:=⟨rfl⟩
instance:ax Tryz.f158 [ResultVar.tmp 4]:=⟨rfl⟩
instance:ax Tryz.f159 [ResultVar.tmp 6]:=⟨rfl⟩
instance:ax Tryz.f162 [ResultVar.tmp 2]:=⟨rfl⟩
instance:ax Tryz.f163 [ResultVar.tmp 4]:=⟨rfl⟩
instance:ax Tryz.f164 [ResultVar.tmp 6]:=⟨rfl⟩
instance:ax Tryz.f165 [ResultVar.cell 4 239]:=⟨rfl⟩
instance:ax Tryz.f166 []:=⟨rfl⟩
instance:ax Tryz.f167 []:=⟨rfl⟩
instance:ax Tryz.f168 []:=⟨rfl⟩
instance:ax Tryz.f169 [ResultVar.cell 4 43]:=⟨rfl⟩
instance:ax Tryz.f170 [ResultVar.tmp 2]:=⟨rfl⟩
instance:ax Tryz.f171 [ResultVar.tmp 6]:=⟨rfl⟩
instance:ax Tryz.f172 [ResultVar.tmp 2]:=⟨rfl⟩
instance:ax Tryz.f173 []:=⟨rfl⟩
instance:ax Tryz.f174 [ResultVar.tmp 2]:=⟨rfl⟩
instance:ax Tryz.f175 [ResultVar.tmp 1]:=⟨rfl⟩
instance:ax Tryz.f176 [ResultVar.cell 4 129]:=⟨rfl⟩
instance:ax Tryz.f177 []:=⟨rfl⟩
instance:ax Tryz.f178 [ResultVar.cell 2 129]:=⟨rfl⟩
instance:ax Tryz.f179 [ResultVar.tmp 2]:=⟨rfl⟩
instance:ax Tryz.f180 [ResultVar.tmp 2]:=⟨rfl⟩
instance:ax Tryz.f181 [ResultVar.tmp 2]:=⟨rfl⟩
instance:ax Tryz.f182 [ResultVar.tmp 2]:=⟨rfl⟩
instance:ax Tryz.f188 []:=⟨rfl⟩
instance:ax Tryz.f191 [ResultVar.tmp 2]:=⟨rfl⟩
instance:ax Tryz.f192 [ResultVar.tmp 2]:=⟨rfl⟩
instance:ax Tryz.f193 [ResultVar.tmp 2]:=⟨rfl⟩
instance:ax Tryz.f194 [ResultVar.tmp 2]:=⟨rfl⟩
instance:ax Tryz.f195 [ResultVar.tmp 2]:=⟨rfl⟩
instance:ax Tryz.f196 [ResultVar.tmp 6]:=⟨rfl⟩
instance:ax Tryz.f197 [ResultVar.tmp 4]:=⟨rfl⟩
instance:ax Tryz.f198 [ResultVar.tmp 2]:=⟨rfl⟩
instance:ax Tryz.f199 [ResultVar.tmp 2]:=⟨rfl⟩
instance:ax Tryz.f200 [ResultVar.tmp 2]:=⟨rfl⟩
instance:ax Tryz.f201 [ResultVar.tmp 2]:=⟨rfl⟩
instance:ax Tryz.f202 [ResultVar.tmp 2]:=⟨rfl⟩
instance:ax Tryz.f203 [ResultVar.tmp 2]:=⟨rfl⟩
instance:ax Tryz.f204 [ResultVar.tmp 4]:=⟨rfl⟩
instance:ax Tryz.f205 [ResultVar.tmp 4,ResultVar.tmp 5]:=⟨rfl⟩
instance:ax Tryz.f206 [ResultVar.cell 2 43]:=⟨rfl⟩
instance:ax Tryz.f207 [ResultVar.tmp 2]:=⟨rfl⟩
instance:ax Tryz.f208 [ResultVar.tmp 4]:=⟨rfl⟩
instance:ax Tryz.f209 [ResultVar.tmp 3]:=⟨rfl⟩
instance:ax Tryz.f210 [ResultVar.tmp 3]:=⟨rfl⟩
instance:ax Tryz.f211 [ResultVar.tmp 4]:=⟨rfl⟩
instance:ax Tryz.f212 [ResultVar.tmp 3]:=⟨rfl⟩
instance:ax Tryz.f213 [ResultVar.tmp 4]:=⟨rfl⟩
instance:ax Tryz.f214 [ResultVar.tmp 3]:=⟨rfl⟩
instance:ax Tryz.f215 [ResultVar.tmp 4]:=⟨rfl⟩
instance:ax Tryz.f216 [ResultVar.tmp 4]:=⟨rfl⟩
instance:ax Tryz.f217 [ResultVar.tmp 2]:=⟨rfl⟩
instance:ax Tryz.f218 [ResultVar.tmp 2]:=⟨rfl⟩
instance:ax Tryz.f219 [ResultVar.tmp 2]:=⟨rfl⟩
instance:ax Tryz.f220 [ResultVar.tmp 2]:=⟨rfl⟩
instance:ax Tryz.f221 [ResultVar.cell 2 43]:=⟨rfl⟩
instance:ax Tryz.f222 [ResultVar.tmp 8]:=⟨rfl⟩
instance:ax Tryz.f223 []:=⟨rfl⟩
instance:ax Tryz.f224 [ResultVar.cell 4 129]:=⟨rfl⟩
instance:ax Tryz.f225 [ResultVar.tmp 4]:=⟨rfl⟩
instance:ax Tryz.f226 [ResultVar.tmp 4]:=⟨rfl⟩
instance:ax Tryz.f227 [ResultVar.cell 2 43]:=⟨rfl⟩
instance:ax Tryz.f228 [ResultVar.cell 2 67]:=⟨rfl⟩
instance:ax Tryz.f229 [ResultVar.tmp 2]:=⟨rfl⟩
instance:ax Tryz.f233 []:=⟨rfl⟩
instance:ax Tryz.f234 []:=⟨rfl⟩
instance:ax Tryz.f237 []:=⟨rfl⟩
instance:ax Tryz.f238 []:=⟨rfl⟩
instance:ax Tryz.f239 [ResultVar.tmp 2]:=⟨rfl⟩
instance:ax Tryz.f240 [ResultVar.cell 2 296]:=⟨rfl⟩
instance:ax Tryz.f241 [ResultVar.tmp 6,ResultVar.tmp 7]:=⟨rfl⟩
instance:ax Tryz.f245 [ResultVar.tmp 4]:=⟨rfl⟩
instance:ax Tryz.f246 [ResultVar.tmp 2]:=⟨rfl⟩
instance:ax Tryz.f247 [ResultVar.tmp 2]:=⟨rfl⟩
instance:ax Tryz.f249 [ResultVar.tmp 6,ResultVar.tmp 7]:=⟨rfl⟩
instance:ax Tryz.f250 [ResultVar.tmp 4]:=⟨rfl⟩
instance:ax Tryz.f251 [ResultVar.tmp 2]:=⟨rfl⟩
instance:ax Tryz.f252 [ResultVar.tmp 4]:=⟨rfl⟩
instance:ax Tryz.f253 [ResultVar.tmp 4]:=⟨rfl⟩
instance:ax Tryz.f254 [ResultVar.tmp 4]:=⟨rfl⟩
instance:ax Tryz.f255 [ResultVar.tmp 6]:=⟨rfl⟩
instance:ax Tryz.f256 [ResultVar.tmp 2]:=⟨rfl⟩
instance:ax Tryz.f257 [ResultVar.tmp 2]:=⟨rfl⟩
instance:ax Tryz.f258 [ResultVar.tmp 2]:=⟨rfl⟩
instance:ax Tryz.f259 [ResultVar.tmp 4]:=⟨rfl⟩
instance:ax Tryz.f260 [ResultVar.tmp 2]:=⟨rfl⟩
instance:ax Tryz.f262 [ResultVar.cell 0 313]:=⟨rfl⟩
instance:ax Tryz.f263 [ResultVar.tmp 2]:=⟨rfl⟩
instance:ax Tryz.f264 [ResultVar.cell 4 313]:=⟨rfl⟩
instance:ax Tryz.f265 [ResultVar.tmp 2]:=⟨rfl⟩
instance:ax Tryz.f267 [ResultVar.tmp 2]:=⟨rfl⟩
instance:ax Tryz.f270 []:=⟨rfl⟩
instance:ax Tryz.f271 [ResultVar.cell 2 43]:=⟨rfl⟩
instance:ax Tryz.f272 [ResultVar.tmp 4]:=⟨rfl⟩
instance:ax Tryz.f273 [ResultVar.tmp 4]:=⟨rfl⟩
instance:ax Tryz.f274 [ResultVar.tmp 4]:=⟨rfl⟩
instance:ax Tryz.f275 [ResultVar.cell 0 323]:=⟨rfl⟩
instance:ax Tryz.f276 [ResultVar.tmp 4]:=⟨rfl⟩
instance:ax Tryz.f277 [ResultVar.tmp 4]:=⟨rfl⟩
instance:ax Tryz.f281 [ResultVar.tmp 6]:=⟨rfl⟩
instance:aF prog 18:=⟨enters_of func18 (by kernel_rfl) rfl⟩
instance:aF prog 19:=⟨enters_of func19 (by kernel_rfl) rfl⟩
instance:aF prog 20:=⟨enters_of func20 (by kernel_rfl) rfl⟩
instance:aF prog 31:=⟨enters_of func31 (by kernel_rfl) rfl⟩
instance:aF prog 32:=⟨enters_of func32 (by kernel_rfl) rfl⟩
instance:aF prog 33:=⟨enters_of func33 (by kernel_rfl) rfl⟩
instance:aF prog 34:=⟨enters_of func34 (by kernel_rfl) rfl⟩
instance:aF prog 35:=⟨enters_of func35 (by kernel_rfl) rfl⟩
instance:aF prog 36:=⟨enters_of func36 (by kernel_rfl) rfl⟩
instance:aF prog 37:=⟨enters_of func37 (by kernel_rfl) rfl⟩
instance:aF prog 38:=⟨enters_of func38 (by kernel_rfl) rfl⟩
instance:aF prog 39:=⟨enters_of func39 (by kernel_rfl) rfl⟩
instance:aF prog 40:=⟨enters_of func40 (by kernel_rfl) rfl⟩
instance:aF prog 41:=⟨enters_of func41 (by kernel_rfl) rfl⟩
instance:aF prog 42:=⟨enters_of func42 (by kernel_rfl) rfl⟩
instance:aF prog 43:=⟨enters_of func43 (by kernel_rfl) rfl⟩
instance:aF prog 44:=⟨enters_of func44 (by kernel_rfl) rfl⟩
instance:aF prog 45:=⟨enters_of func45 (by kernel_rfl) rfl⟩
instance:aF prog 46:=⟨enters_of func46 (by kernel_rfl) rfl⟩
instance:aF prog 47:=⟨enters_of func47 (by kernel_rfl) rfl⟩
instance:aF prog 49:=⟨enters_of func49 (by kernel_rfl) rfl⟩
instance:aF prog 50:=⟨enters_of func50 (by kernel_rfl) rfl⟩
instance:aF prog 51:=⟨enters_of func51 (by kernel_rfl) rfl⟩
instance:aF prog 52:=⟨enters_of func52 (by kernel_rfl) rfl⟩
instance:aF prog 53:=⟨enters_of func53 (by kernel_rfl) rfl⟩
instance:aF prog 54:=⟨enters_of func54 (by kernel_rfl) rfl⟩
instance:aF prog 55:=⟨enters_of func55 (by kernel_rfl) rfl⟩
instance:aF prog 56:=⟨enters_of func56 (by kernel_rfl) rfl⟩
instance:aF prog 57:=⟨enters_of func57 (by kernel_rfl) rfl⟩
instance:aF prog 58:=⟨enters_of func58 (by kernel_rfl) rfl⟩
instance:aF prog 61:=⟨enters_of func61 (by kernel_rfl) rfl⟩
instance:aF prog 64:=⟨enters_of func64 (by kernel_rfl) rfl⟩
instance:aF prog 65:=⟨enters_of func65 (by kernel_rfl) rfl⟩
instance:aF prog 66:=⟨enters_of func66 (by kernel_rfl) rfl⟩
instance:aF prog 67:=⟨enters_of func67 (by kernel_rfl) rfl⟩
instance:aF prog 68:=⟨enters_of func68 (by kernel_rfl) rfl⟩
instance:aF prog 69:=⟨enters_of func69 (by kernel_rfl) rfl⟩
instance:aF prog 70:=⟨enters_of func70 (by kernel_rfl) rfl⟩
instance:aF prog 71:=⟨enters_of func71 (by kernel_rfl) rfl⟩
instance:aF prog 72:=⟨enters_of func72 (by kernel_rfl) rfl⟩
instance:aF prog 73:=⟨enters_of func73 (by kernel_rfl) rfl⟩
instance:aF prog 74:=⟨enters_of func74 (by kernel_rfl) rfl⟩
instance:aF prog 75:=⟨enters_of func75 (by kernel_rfl) rfl⟩
instance:aF prog 76:=⟨enters_of func76 (by kernel_rfl) rfl⟩
instance:aF prog 77:=⟨enters_of func77 (by kernel_rfl) rfl⟩
instance:aF prog 78:=⟨enters_of func78 (by kernel_rfl) rfl⟩
instance:aF prog 79:=⟨enters_of func79 (by kernel_rfl) rfl⟩
instance:aF prog 80:=⟨enters_of func80 (by kernel_rfl) rfl⟩
instance:aF prog 81:=⟨enters_of func81 (by kernel_rfl) rfl⟩
instance:aF prog 82:=⟨enters_of func82 (by kernel_rfl) rfl⟩
instance:aF prog 83:=⟨enters_of func83 (by kernel_rfl) rfl⟩
instance:aF prog 85:=⟨enters_of func85 (by kernel_rfl) rfl⟩
instance:aF prog 86:=⟨enters_of func86 (by kernel_rfl) rfl⟩
instance:aF prog 94:=⟨enters_of func94 (by kernel_rfl) rfl⟩
instance:aF prog 99:=⟨enters_of func99 (by kernel_rfl) rfl⟩
instance:aF prog 100:=⟨enters_of func100 (by kernel_rfl) rfl⟩
instance:aF prog 101:=⟨enters_of func101 (by kernel_rfl) rfl⟩
instance:aF prog 102:=⟨enters_of func102 (by kernel_rfl) rfl⟩
instance:aF prog 103:=⟨enters_of func103 (by kernel_rfl) rfl⟩
instance:aF prog 104:=⟨enters_of func104 (by kernel_rfl) rfl⟩
instance:aF prog 105:=⟨enters_of func105 (by kernel_rfl) rfl⟩
instance:aF prog 106:=⟨enters_of func106 (by kernel_rfl) rfl⟩
instance:aF prog 107:=⟨enters_of func107 (by kernel_rfl) rfl⟩
instance:aF prog 108:=⟨enters_of func108 (by kernel_rfl) rfl⟩
instance:aF prog 109:=⟨enters_of func109 (by kernel_rfl) rfl⟩
instance:aF prog 110:=⟨enters_of func110 (by kernel_rfl) rfl⟩
instance:aF prog 111:=⟨enters_of func111 (by kernel_rfl) rfl⟩
instance:aF prog 112:=⟨enters_of func112 (by kernel_rfl) rfl⟩
instance:aF prog 113:=⟨enters_of func113 (by kernel_rfl) rfl⟩
instance:aF prog 114:=⟨enters_of func114 (by kernel_rfl) rfl⟩
instance:aF prog 115:=⟨enters_of func115 (by kernel_rfl) rfl⟩
instance:aF prog 116:=⟨enters_of func116 (by kernel_rfl) rfl⟩
instance:aF prog 117:=⟨enters_of func117 (by kernel_rfl) rfl⟩
instance:aF prog 118:=⟨enters_of func118 (by kernel_rfl) rfl⟩
instance:aF prog 119:=⟨enters_of func119 (by kernel_rfl) rfl⟩
instance:aF prog 120:=⟨enters_of func120 (by kernel_rfl) rfl⟩
instance:aF prog 121:=⟨enters_of func121 (by kernel_rfl) rfl⟩
instance:aF prog 122:=⟨enters_of func122 (by kernel_rfl) rfl⟩
instance:aF prog 123:=⟨enters_of func123 (by kernel_rfl) rfl⟩
instance:aF prog 124:=⟨enters_of func124 (by kernel_rfl) rfl⟩
instance:aF prog 125:=⟨enters_of func125 (by kernel_rfl) rfl⟩
instance:aF prog 126:=⟨enters_of func126 (by kernel_rfl) rfl⟩
instance:aF prog 127:=⟨enters_of func127 (by kernel_rfl) rfl⟩
instance:aF prog 128:=⟨enters_of func128 (by kernel_rfl) rfl⟩
instance:aF prog 129:=⟨enters_of func129 (by kernel_rfl) rfl⟩
instance:aF prog 130:=⟨enters_of func130 (by kernel_rfl) rfl⟩
instance:aF prog 131:=⟨enters_of func131 (by kernel_rfl) rfl⟩
instance:aF prog 132:=⟨enters_of func132 (by kernel_rfl) rfl⟩
instance:aF prog 133:=⟨enters_of func133 (by kernel_rfl) rfl⟩
instance:aF prog 134:=⟨enters_of func134 (by kernel_rfl) rfl⟩
instance:aF prog 135:=⟨enters_of func135 (by kernel_rfl) rfl⟩
instance:aF prog 136:=⟨enters_of func136 (by kernel_rfl) rfl⟩
instance:aF prog 137:=⟨enters_of func137 (by kernel_rfl) rfl⟩
instance:aF prog 138:=⟨enters_of func138 (by kernel_rfl) rfl⟩
instance:aF prog 139:=⟨enters_of func139 (by kernel_rfl) rfl⟩
instance:aF prog 140:=⟨enters_of func140 (by kernel_rfl) rfl⟩
instance:aF prog 141:=⟨enters_of func141 (by kernel_rfl) rfl⟩
instance:aF prog 142:=⟨enters_of func142 (by kernel_rfl) rfl⟩
instance:aF prog 143:=⟨enters_of func143 (by kernel_rfl) rfl⟩
instance:aF prog 144:=⟨enters_of func144 (by kernel_rfl) rfl⟩
instance:aF prog 145:=⟨enters_of func145 (by kernel_rfl) rfl⟩
instance:aF prog 146:=⟨enters_of func146 (by kernel_rfl) rfl⟩
instance:aF prog 147:=⟨enters_of func147 (by kernel_rfl) rfl⟩
instance:aF prog 148:=⟨enters_of func148 (by kernel_rfl) rfl⟩
instance:aF prog 149:=⟨enters_of func149 (by kernel_rfl) rfl⟩
instance:aF prog 150:=⟨enters_of func150 (by kernel_rfl) rfl⟩
instance:aF prog 151:=⟨enters_of func151 (by kernel_rfl) rfl⟩
instance:aF prog 152:=⟨enters_of func152 (by kernel_rfl) rfl⟩
instance:aF prog 153:=⟨enters_of func153 (by kernel_rfl) rfl⟩
instance:aF prog 154:=⟨enters_of func154 (by kernel_rfl) rfl⟩
instance:aF prog 155:=⟨enters_of func155 (by kernel_rfl) rfl⟩
instance:aF prog 156:=⟨enters_of func156 (by kernel_rfl) rfl⟩
instance:aF prog 157:=⟨enters_of func157 (by kernel_rfl) rfl⟩
instance:aF prog 158:=⟨enters_of func158 (by kernel_rfl) rfl⟩
instance:aF prog 159:=⟨enters_of func159 (by kernel_rfl) rfl⟩
instance:aF prog 162:=⟨enters_of func162 (by kernel_rfl) rfl⟩
instance:aF prog 163:=⟨enters_of func163 (by kernel_rfl) rfl⟩
instance:aF prog 164:=⟨enters_of func164 (by kernel_rfl) rfl⟩
instance:aF prog 165:=⟨enters_of func165 (by kernel_rfl) rfl⟩
instance:aF prog 166:=⟨enters_of func166 (by kernel_rfl) rfl⟩
instance:aF prog 167:=⟨enters_of func167 (by kernel_rfl) rfl⟩
instance:aF prog 168:=⟨enters_of func168 (by kernel_rfl) rfl⟩
instance:aF prog 169:=⟨enters_of func169 (by kernel_rfl) rfl⟩
instance:aF prog 170:=⟨enters_of func170 (by kernel_rfl) rfl⟩
instance:aF prog 171:=⟨enters_of func171 (by kernel_rfl) rfl⟩
instance:aF prog 172:=⟨enters_of func172 (by kernel_rfl) rfl⟩
instance:aF prog 173:=⟨enters_of func173 (by kernel_rfl) rfl⟩
instance:aF prog 174:=⟨enters_of func174 (by kernel_rfl) rfl⟩
instance:aF prog 175:=⟨enters_of func175 (by kernel_rfl) rfl⟩
instance:aF prog 176:=⟨enters_of func176 (by kernel_rfl) rfl⟩
instance:aF prog 177:=⟨enters_of func177 (by kernel_rfl) rfl⟩
instance:aF prog 178:=⟨enters_of func178 (by kernel_rfl) rfl⟩
instance:aF prog 179:=⟨enters_of func179 (by kernel_rfl) rfl⟩
instance:aF prog 180:=⟨enters_of func180 (by kernel_rfl) rfl⟩
instance:aF prog 181:=⟨enters_of func181 (by kernel_rfl) rfl⟩
instance:aF prog 182:=⟨enters_of func182 (by kernel_rfl) rfl⟩
instance:aF prog 188:=⟨enters_of func188 (by kernel_rfl) rfl⟩
instance:aF prog 191:=⟨enters_of func191 (by kernel_rfl) rfl⟩
instance:aF prog 192:=⟨enters_of func192 (by kernel_rfl) rfl⟩
instance:aF prog 193:=⟨enters_of func193 (by kernel_rfl) rfl⟩
instance:aF prog 194:=⟨enters_of func194 (by kernel_rfl) rfl⟩
instance:aF prog 195:=⟨enters_of func195 (by kernel_rfl) rfl⟩
instance:aF prog 196:=⟨enters_of func196 (by kernel_rfl) rfl⟩
instance:aF prog 197:=⟨enters_of func197 (by kernel_rfl) rfl⟩
instance:aF prog 198:=⟨enters_of func198 (by kernel_rfl) rfl⟩
instance:aF prog 199:=⟨enters_of func199 (by kernel_rfl) rfl⟩
instance:aF prog 200:=⟨enters_of func200 (by kernel_rfl) rfl⟩
instance:aF prog 201:=⟨enters_of func201 (by kernel_rfl) rfl⟩
instance:aF prog 202:=⟨enters_of func202 (by kernel_rfl) rfl⟩
instance:aF prog 203:=⟨enters_of func203 (by kernel_rfl) rfl⟩
instance:aF prog 204:=⟨enters_of func204 (by kernel_rfl) rfl⟩
instance:aF prog 205:=⟨enters_of func205 (by kernel_rfl) rfl⟩
instance:aF prog 206:=⟨enters_of func206 (by kernel_rfl) rfl⟩
instance:aF prog 207:=⟨enters_of func207 (by kernel_rfl) rfl⟩
instance:aF prog 208:=⟨enters_of func208 (by kernel_rfl) rfl⟩
instance:aF prog 209:=⟨enters_of func209 (by kernel_rfl) rfl⟩
instance:aF prog 210:=⟨enters_of func210 (by kernel_rfl) rfl⟩
instance:aF prog 211:=⟨enters_of func211 (by kernel_rfl) rfl⟩
instance:aF prog 212:=⟨enters_of func212 (by kernel_rfl) rfl⟩
instance:aF prog 213:=⟨enters_of func213 (by kernel_rfl) rfl⟩
instance:aF prog 214:=⟨enters_of func214 (by kernel_rfl) rfl⟩
instance:aF prog 215:=⟨enters_of func215 (by kernel_rfl) rfl⟩
instance:aF prog 216:=⟨enters_of func216 (by kernel_rfl) rfl⟩
instance:aF prog 217:=⟨enters_of func217 (by kernel_rfl) rfl⟩
instance:aF prog 218:=⟨enters_of func218 (by kernel_rfl) rfl⟩
instance:aF prog 219:=⟨enters_of func219 (by kernel_rfl) rfl⟩
instance:aF prog 220:=⟨enters_of func220 (by kernel_rfl) rfl⟩
instance:aF prog 221:=⟨enters_of func221 (by kernel_rfl) rfl⟩
instance:aF prog 222:=⟨enters_of func222 (by kernel_rfl) rfl⟩
instance:aF prog 223:=⟨enters_of func223 (by kernel_rfl) rfl⟩
instance:aF prog 224:=⟨enters_of func224 (by kernel_rfl) rfl⟩
instance:aF prog 225:=⟨enters_of func225 (by kernel_rfl) rfl⟩
instance:aF prog 226:=⟨enters_of func226 (by kernel_rfl) rfl⟩
instance:aF prog 227:=⟨enters_of func227 (by kernel_rfl) rfl⟩
instance:aF prog 228:=⟨enters_of func228 (by kernel_rfl) rfl⟩
instance:aF prog 229:=⟨enters_of func229 (by kernel_rfl) rfl⟩
instance:aF prog 230:=⟨enters_of func230 (by kernel_rfl) rfl⟩
instance:aF prog 231:=⟨enters_of func231 (by kernel_rfl) rfl⟩
instance:aF prog 232:=⟨enters_of func232 (by kernel_rfl) rfl⟩
instance:aF prog 233:=⟨enters_of func233 (by kernel_rfl) rfl⟩
instance:aF prog 234:=⟨enters_of func234 (by kernel_rfl) rfl⟩
instance:aF prog 235:=⟨enters_of func235 (by kernel_rfl) rfl⟩
instance:aF prog 236:=⟨enters_of func236 (by kernel_rfl) rfl⟩
instance:aF prog 237:=⟨enters_of func237 (by kernel_rfl) rfl⟩
instance:aF prog 238:=⟨enters_of func238 (by kernel_rfl) rfl⟩
instance:aF prog 239:=⟨enters_of func239 (by kernel_rfl) rfl⟩
instance:aF prog 240:=⟨enters_of func240 (by kernel_rfl) rfl⟩
instance:aF prog 241:=⟨enters_of func241 (by kernel_rfl) rfl⟩
instance:aF prog 245:=⟨enters_of func245 (by kernel_rfl) rfl⟩
instance:aF prog 246:=⟨enters_of func246 (by kernel_rfl) rfl⟩
instance:aF prog 247:=⟨enters_of func247 (by kernel_rfl) rfl⟩
instance:aF prog 249:=⟨enters_of func249 (by kernel_rfl) rfl⟩
instance:aF prog 250:=⟨enters_of func250 (by kernel_rfl) rfl⟩
instance:aF prog 251:=⟨enters_of func251 (by kernel_rfl) rfl⟩
instance:aF prog 252:=⟨enters_of func252 (by kernel_rfl) rfl⟩
instance:aF prog 253:=⟨enters_of func253 (by kernel_rfl) rfl⟩
instance:aF prog 254:=⟨enters_of func254 (by kernel_rfl) rfl⟩
instance:aF prog 255:=⟨enters_of func255 (by kernel_rfl) rfl⟩
instance:aF prog 256:=⟨enters_of func256 (by kernel_rfl) rfl⟩
instance:aF prog 257:=⟨enters_of func257 (by kernel_rfl) rfl⟩
instance:aF prog 258:=⟨enters_of func258 (by kernel_rfl) rfl⟩
instance:aF prog 259:=⟨enters_of func259 (by kernel_rfl) rfl⟩
instance:aF prog 260:=⟨enters_of func260 (by kernel_rfl) rfl⟩
instance:aF prog 261:=⟨enters_of func261 (by kernel_rfl) rfl⟩
instance:aF prog 262:=⟨enters_of func262 (by kernel_rfl) rfl⟩
instance:aF prog 263:=⟨enters_of func263 (by kernel_rfl) rfl⟩
instance:aF prog 264:=⟨enters_of func264 (by kernel_rfl) rfl⟩
instance:aF prog 265:=⟨enters_of func265 (by kernel_rfl) rfl⟩
instance:aF prog 267:=⟨enters_of func267 (by kernel_rfl) rfl⟩
instance:aF prog 270:=⟨enters_of func270 (by kernel_rfl) rfl⟩
instance:aF prog 271:=⟨enters_of func271 (by kernel_rfl) rfl⟩
instance:aF prog 272:=⟨enters_of func272 (by kernel_rfl) rfl⟩
instance:aF prog 273:=⟨enters_of func273 (by kernel_rfl) rfl⟩
instance:aF prog 274:=⟨enters_of func274 (by kernel_rfl) rfl⟩
instance:aF prog 275:=⟨enters_of func275 (by kernel_rfl) rfl⟩
instance:aF prog 276:=⟨enters_of func276 (by kernel_rfl) rfl⟩
instance:aF prog 277:=⟨enters_of func277 (by kernel_rfl) rfl⟩
instance:aF prog 281:=⟨enters_of func281 (by kernel_rfl) rfl⟩
end
set_option synthInstance.maxSize 100000
set_option synthInstance.maxHeartbeats 400000
theorem nO (n m:Nat)(z:Value):((List.replicate (n+m) [z]).flatten).drop (n*1)=List.replicate m z:=by
 have h:∀ k,(List.replicate k [z]).flatten=List.replicate k z:=fun k=>by
  induction k with
  | zero=>rfl
  | succ k ih=>rw[rQ,List.flatten_cons,ih];rfl
 rw[h,List.drop_replicate]
 congr 1;omega
theorem lW (l1 l2:List UInt8)(y y':UInt8):(aa (l1++y::l2)).take l1.length++[.int .u8 (y'.toNat:Int)]++(aa (l1++y::l2)).drop (l1.length+1)=aa (l1++y'::l2):=by
 have h1:(aa l1).length=l1.length:=by rw[aU];exact Nat.mul_one _
 have e:aa (l1++y::l2)=aa l1++(.int .u8 (y.toNat:Int)::aa l2):=by rw[aC,bf];rfl
 rw[e,←h1,List.take_left,List.drop_append,List.drop_of_length_le (by omega),aC,bf];simp[cX.cells]
theorem Ls (p:Option Addr)(n c:Nat)(b:List UInt8)(v:Int)(w0:World)(hn:b.length=n)(hb:n≤1073741824)(hv:0≤v)(Hl:v≤65535)(hs:Fx w0 (iE p (aa b))) :
  aT prog 164 [.slice p n c,.int .u16 v,.int .i64 2] w0 (fun _=>False) fun r w'=>∃ g,r=.slice (some ⟨g,0,none⟩) (n+2) (n+2)∧w0.heap.size≤g∧w'.ownsRow 0 5 1 (.slice (some ⟨g,0,none⟩) (n+2) (n+2)) (n+2) (aa (b++be 2 v)):=by
 have RA:eu b n:=⟨hn⟩;refine E1 func164 rfl ntmps164 (Wd.begin (fs:=[iE p (aa b)]) (by simpa using hs)) ?_;intro a S;refine gM ?_;intro a S;rw[w6 ((n:Int)+2)]at S;refine NO (n+2) S (by omega) (by omega) (by omega) (by simp only[maxLen];omega) ?_;intro g a w S;refine J7 ?_;intro a S;refine scp S (by omega) ?_;intro a w S;rw[nO]at S;refine mJ ?_;intro a S;refine eR (ι:=Nat) (fun k a w=>k≤2∧∃ uu:Nat→Value,St w0 (fun _=>False) [] a w ((.slice p n c)::(.int .u16 v)::(.int .i64 2)::uu 3::uu 4::uu 5::uu 6::(.slice (some ⟨g,0,none⟩) (n+2) (n+2))::uu 8::uu 9::uu 10::uu 11::uu 12::uu 13::uu 14::uu 15::uu 16::(.int .i64 2)::(.int .i64 (k:Nat))::uu 19::uu 20::uu 21::uu 22::uu 23::uu 24::uu 25::uu 26::uu 27::uu 28::uu 29::uu 30::uu 31::uu 32::uu 33::uu 34::uu 35::uu 36::uu 37::[]) [row 5 1 (some ⟨g,0,none⟩) (n+2) (n+2) (aa (b++((be 2 v).take k++List.replicate (2 - k) 0)))] [iE p (aa b)]) (fun k=>2 - k) 0 ?_ ?_;rw[show aa b++List.replicate 2 (Value.int .u8 0)=aa (b++((be 2 v).take 0++List.replicate (2 - 0) 0)) from by rw[aC];rfl]at S;exact ⟨Nat.zero_le _,S.uu,S⟩;clear S;rintro k a w ⟨hk,uu,S⟩;refine J6 ?_;intro a S;refine kC S (fun h4=>?_) (fun h4=>?_);refine tI ?_;intro a S;have hk2:k < 2:=by simp at h4;omega
 refine J1 ?_;intro a S;rw[w6 ((n:Int)+(k:Int)),show (n:Int)+(k:Int)=((n+k:Nat):Int) from by omega]at S;refine J2 ?_;intro a S;rw[jV v (by omega) (by omega)]at S;refine J2 ?_;intro a S;rw[show IntKind.i64.wrap (2 - 1)=1 from rfl]at S;refine J2 ?_;intro a S;rw[w6 (1 - (k:Int))]at S;refine J1 ?_;intro a S;rw[Ar (8*(1 - (k:Int))) (by omega) (by omega),show 8*(1 - (k:Int))=((8*(2 - 1 - k):Nat):Int) from by omega]at S;refine J1 ?_;intro a S;rw[show min (8*(2 - 1 - k)) IntKind.u64.bits=8*(2 - 1 - k) from Nat.min_eq_left (by simp only[IntKind.bits];omega)]at S;refine J1 ?_;intro a S;rw[cF]at S;have hK:cx (n+k) (n+2):=⟨by omega⟩;refine J1 ?_;intro a S;refine CJ S (n+2) (by omega) (by omega) ?_;intro a w S;refine J8 ?_;intro a S;rw[w6 ((k:Int)+1)]at S;have e:aa (b++((be 2 v).take (k+1)++List.replicate (2 - (k+1)) 0))=(aa (b++((be 2 v).take k++List.replicate (2 - k) 0))).take (n+k)++[.int .u8 ((Wk.u8 (v.fdiv (2 ^ (8*(2 - 1 - k))))).toNat:Int)]++(aa (b++((be 2 v).take k++List.replicate (2 - k) 0))).drop (n+k+1):=by
  have hk2:k=0∨k=1:=by omega
  rcases hk2 with rfl | rfl
  have:=lW b [0] 0 (Wk.u8 (v.fdiv (2 ^ (8*(2 - 1 - 0)))));rw[hn]at this;exact this.symm;have:=lW (b++[Wk.u8 (v.fdiv (2 ^ 8))]) [] 0 (Wk.u8 (v.fdiv (2 ^ (8*(2 - 1 - 1)))));rw[List.length_append,hn]at this;simp only[List.append_assoc]at this⊢;exact this.symm
 rw[List.length_singleton,←e]at S;exact ⟨k+1,⟨by omega,S.uu,S⟩,by omega⟩;refine jq ?_;intro a S;have hk2:k=2:=by simp at h4;omega
 subst hk2;have hrow:=S.row (some ⟨g,0,none⟩) (n+2);have hnew:=S.cQ (some ⟨g,0,none⟩) (n+2);refine aD S (fun _=>⟨g,rfl,?_,?_⟩);exact (hnew _ rfl).elim (fun h=>h.elim) id;rw[List.take_of_length_le (by simp[be]),show List.replicate (2 - 2) (0:UInt8)=[] from rfl,List.append_nil]at hrow;exact hrow
theorem Eh (p:Option Addr)(n c:Nat)(b:List UInt8)(v:Int)(w0:World)(hn:b.length=n)(hb:n≤1073741824)(hv:0≤v)(Hl:v≤65535)(hs:Fx w0 (iE p (aa b))) :
  aT prog 65 [.slice p n c,.int .u16 v] w0 (fun _=>False) fun r w'=>∃ g,r=.slice (some ⟨g,0,none⟩) (n+2) (n+2)∧w0.heap.size≤g∧w'.ownsRow 0 5 1 (.slice (some ⟨g,0,none⟩) (n+2) (n+2)) (n+2) (aa (b++be 2 v)):=by
 refine E1 func65 rfl ntmps65 (Wd.begin (fs:=[iE p (aa b)]) (by simpa using hs)) ?_;intro a S;refine J9 ?_;intro a S;refine jU S (Ls p n c b v _ hn hb hv Hl ((S.fact (Φ:=iE p (aa b)) (by simp)).less fun _ _ h=>h.elim)) ?_;rintro _ a w1 ⟨g,rfl,hg,hown⟩ - S;refine J4 ?_;intro a S;exact aD S (fun _=>⟨g,rfl,hg,hown⟩)
def fieldsOf (k:Int):Int:=
 if k=1 then 1 else if k=2 then 6 else if k=3 then 2 else if k=4∨k=6 then 16 else if k=5 then 8 else if k=7 then 10 else if k=8 then 14 else 0
theorem HK (k:Int)(w:World):aT prog 231 [.int .i64 k] w (fun _=>False) fun v _=>v=.int .i64 (fieldsOf k):=by
 refine E1 func231 rfl ntmps231 (Wd.start w) ?_;intro a S;refine Lh ?_;clear S;intro a S;refine kC S (fun h2=>?_) (fun h2=>?_);refine J8 ?_;clear S;intro a S;refine kY S (fun _=>?_);simp at *;first | (exfalso;omega) | simp[*,fieldsOf]
 refine J6 ?_;clear S;intro a S;refine kC S (fun h4=>?_) (fun h4=>?_);refine J8 ?_;clear S;intro a S;refine kY S (fun _=>?_);simp at *;first | (exfalso;omega) | simp[*,fieldsOf]
 refine J6 ?_;clear S;intro a S;refine kC S (fun h6=>?_) (fun h6=>?_);refine J8 ?_;clear S;intro a S;refine kY S (fun _=>?_);simp at *;first | (exfalso;omega) | simp[*,fieldsOf]
 refine J7 ?_;clear S;intro a S;refine kC S (fun h8=>?_) (fun h8=>?_);refine kK (aQ ?_);refine kC S (fun h8=>?_) (fun h8=>?_);refine J8 ?_;clear S;intro a S;refine kY S (fun _=>?_);simp at *;first | (exfalso;omega) | simp[*,fieldsOf]
 refine J6 ?_;clear S;intro a S;refine kC S (fun wF=>?_) (fun wF=>?_);refine J8 ?_;clear S;intro a S;refine kY S (fun _=>?_);simp at *;first | (exfalso;omega) | simp[*,fieldsOf]
 refine J6 ?_;clear S;intro a S;refine kC S (fun Ah=>?_) (fun Ah=>?_);refine J8 ?_;clear S;intro a S;refine kY S (fun _=>?_);simp at *;first | (exfalso;omega) | simp[*,fieldsOf]
 refine J6 ?_;clear S;intro a S;refine kC S (fun w_=>?_) (fun w_=>?_);refine J8 ?_;clear S;intro a S;refine kY S (fun _=>?_);simp at *;first | (exfalso;omega) | simp[*,fieldsOf]
 refine J9 ?_;clear S;intro a S;refine kY S (fun _=>?_);simp at *;first | (exfalso;omega) | simp[*,fieldsOf]
 refine J5 ?_;clear S;intro a S;refine kC S (fun h9=>?_) (fun h9=>?_);refine J8 ?_;clear S;intro a S;refine kY S (fun _=>?_);simp at *;first | (exfalso;omega) | simp[*,fieldsOf]
 refine J6 ?_;clear S;intro a S;refine kC S (fun wF=>?_) (fun wF=>?_);refine J8 ?_;clear S;intro a S;refine kY S (fun _=>?_);simp at *;first | (exfalso;omega) | simp[*,fieldsOf]
 refine J6 ?_;clear S;intro a S;refine kC S (fun Ah=>?_) (fun Ah=>?_);refine J8 ?_;clear S;intro a S;refine kY S (fun _=>?_);simp at *;first | (exfalso;omega) | simp[*,fieldsOf]
 refine J6 ?_;clear S;intro a S;refine kC S (fun w_=>?_) (fun w_=>?_);refine J8 ?_;clear S;intro a S;refine kY S (fun _=>?_);simp at *;first | (exfalso;omega) | simp[*,fieldsOf]
 refine J9 ?_;clear S;intro a S;refine kY S (fun _=>?_);simp at *;first | (exfalso;omega) | simp[*,fieldsOf]
instance {k:Int}{bs fs} : cB prog 231 [.int .i64 k] bs fs (.int .i64 (fieldsOf k)):=⟨fun w _=>HK k w⟩
def cm (f g:Int):Bool:=!decide (yC .i64 f g=0)
theorem Sv (f g:Int)(w:World):aT prog 232 [.int .i64 f,.int .i64 g] w (fun _=>False) fun v _=>v=.bool (cm f g):=by
 refine E1 func232 rfl ntmps232 (Wd.start w) ?_;intro a S;refine tI ?_;intro a S;refine kY S (fun _=>?_);rfl
instance {f g:Int}{bs fs} : cB prog 232 [.int .i64 f,.int .i64 g] bs fs (.bool (cm f g)):=⟨fun w _=>Sv f g w⟩
def jt (f:Int):Int:=if cm f 16 then 2 else if cm f 8 then 1 else 0
theorem HL (f:Int)(w:World):aT prog 236 [.int .i64 f] w (fun _=>False) fun v _=>v=.int .i64 (jt f):=by
 refine E1 func236 rfl ntmps236 (Wd.start w) ?_;intro a S;refine Li ?_;intro a w S;refine kC S (fun h1=>?_) (fun h1=>?_);refine J8 ?_;intro a S;refine kY S (fun _=>?_);simp[*,jt];refine Y7 ?_;intro a w S;refine kC S (fun h3=>?_) (fun h3=>?_);refine J8 ?_;intro a S;refine kY S (fun _=>?_);simp[*,jt];refine J9 ?_;intro a S;refine kY S (fun _=>?_);simp[*,jt]
instance {f:Int}{bs fs} : cB prog 236 [.int .i64 f] bs fs (.int .i64 (jt f)):=⟨fun w _=>HL f w⟩
def bX (n:Int):Bool:=decide (1≤n)&&decide (n≤6)
theorem Lt (n:Int)(w:World):aT prog 235 [.int .i64 n] w (fun _=>False) fun v _=>v=.bool (bX n):=by
 refine E1 func235 rfl ntmps235 (Wd.start w) ?_;intro a S;refine D8 ?_;intro a S;refine kY S (fun _=>?_);rfl
instance {n:Int}{bs fs} : cB prog 235 [.int .i64 n] bs fs (.bool (bX n)):=⟨fun w _=>Lt n w⟩
def gh (k u n:Int)(s:List UInt8)(m:Nat):Bool:=
 let f:=fieldsOf k
 !decide (f=0)&&decide ((m:Int)=jt f)&&decide ((s.length:Int)≤64)&&(cm f 1||decide (s=[]))&&(cm f 2&&bX u||!cm f 2&&decide (u=0))&&(cm f 4&&decide (0≤n)&&decide (n≤65535)||!cm f 4&&decide (n=0))
theorem Lu (k u n:Int)(s:List UInt8)(p:Option Addr)(m c:Nat)(w:World):aT prog 261 [.agg #[.int .i64 k,.int .i64 u,.int .i64 n,str s,.slice p m c]] w (fun _=>False) fun v _=>v=.bool (gh k u n s m):=by
 refine E1 func261 rfl ntmps261 (Wd.start w) ?_;intro a S;refine kS (kR ?_);refine sa S ?_;intro b1 a w S;refine uh ?_;intro a w S;refine bM [T9 0,T9 1,T9 2,T9 3,T9 4,T9 5,T9 6,F9 7,T9 8,T9 9,T9 10,T9 11,T9 12,T9 13,T9 14,T9 15,T9 16,T9 17,F9 18,T9 19,T9 20,T9 21,T9 22,T9 23,T9 24,T9 25] [] S ?_;intro w S;(iterate 3 (refine dq S ?_;intro a S));(iterate 4 (refine iX S ?_;intro a S));refine dl ?_;refine gC S ?_;intro a w S;refine de S ?_;refine iX S ?_;intro a S;(iterate 2 (refine dq S ?_;intro a S));(iterate 4 (refine iX S ?_;intro a S));(iterate 2 (refine dq S ?_;intro a S));refine iX S ?_;intro a S;refine dl ?_;refine gC S ?_;intro a w S;refine de S ?_;(iterate 5 (refine iX S ?_;intro a S));(iterate 2 (refine dq S ?_;intro a S));refine dn (aQ (kS (kR ?_)));(iterate 2 (refine sq S ?_;intro a S));refine gQ S ?_;intro a S;refine gC S ?_;intro a w S;(iterate 3 (refine gQ S ?_;intro a S));refine gC S ?_;intro a w S;refine sP ?_;intro a w S;refine sP ?_;intro a w S;refine J6 ?_;intro a S;refine kY S (fun _=>?_)
 first | rfl | simp[gh]
instance {k u n:Int}{s:List UInt8}{p:Option Addr}{m c:Nat}{bs fs} : cB prog 261 [.agg #[.int .i64 k,.int .i64 u,.int .i64 n,str s,.slice p m c]] bs fs (.bool (gh k u n s m)):=⟨fun w _=>Lu k u n s p m c w⟩
mutual
def cY:Term→Int→Int→Bool × Int
 | .mk k u n s kids,deep,left=>if left - 1 < 0∨60 < deep∨gh k u n s kids.length=false then (false,left - 1) else dm kids (deep+1) (left - 1)
def dm:List Term→Int→Int→Bool × Int
 | [],_,left=>(true,left)
 | t::ts,deep,left=>if (cY t deep left).1 then dm ts deep (cY t deep left).2 else (false,(cY t deep left).2)
end
mutual
theorem uz:∀ (t:Term) (deep left:Int),(cY t deep left).2≤left
 | .mk k u n s kids,deep,left=>by
  rw[cY];split;simp;omega;have:=xb kids (deep+1) (left - 1);omega
theorem xb:∀ (ts:List Term) (deep left:Int),(dm ts deep left).2≤left
 | [],deep,left=>by simp[dm]
 | t::ts,deep,left=>by
  have h1:=uz t deep left;have h2:=xb ts deep (cY t deep left).2;rw[dm];split;omega;exact h1
end
mutual
theorem lX:∀ (t:Term) (deep left:Int),0≤left→(cY t deep left).1=true→0≤(cY t deep left).2
 | .mk k u n s kids,deep,left=>by
  intro h0 h;rw[cY]at h⊢;split at h;simp at h
  rename_i hc
  rw[if_neg hc];exact xd kids (deep+1) (left - 1) (by omega) h
theorem xd:∀ (ts:List Term) (deep left:Int),0≤left→(dm ts deep left).1=true→0≤(dm ts deep left).2
 | [],deep,left=>by intro h0 _;simpa [dm] using h0
 | t::ts,deep,left=>by
  intro h0 h;rw[dm]at h⊢;split at h
  rename_i hc
  rw[if_pos hc];exact xd ts deep _ (lX t deep left h0 hc) h;simp at h
end
theorem OX (N:Nat):∀ (t:ak) (deep left:Int) (b:Nat) (w0:World),SizeOf.sizeOf t≤N→0≤deep→deep≤61→0≤left→left≤1200→ag (fun k=>k=b) w0 (dc t)→w0.heap[b]? = some (.cells #[.int .i64 left] 3 (0,0))→
  aT prog 230 [vL t,.int .i64 deep,.pointer (some ⟨b,0,none⟩)] w0 (fun k=>k=b) fun v w'=>v=.bool (cY t.t deep left).1∧w'.heap[b]? = some (.cells #[.int .i64 (cY t.t deep left).2] 3 (0,0)):=by
 induction N with
 | zero=>intro t _ _ _ _ h;cases t;simp at h
 | succ N ih=>
 intro t deep left b w0 hN hd hd' hl hl' hf hb;have e0:=t.mN;refine E1 func230 rfl ntmps230 (Wd.Xf (fs:=[dc t]) hb (by simpa using hf)) ?_;intro a S;refine kS (kR ?_);refine sa S ?_;intro b3 a w S;refine mJ ?_;intro a S;rw[w6 (left - 1)]at S;refine Y21 ?_;intro a w S;refine kC S (fun h2=>?_) (fun h2=>?_)
 ·refine J7 ?_;intro a S
  have ju:=S.box b;refine kY S (fun _=>?_);have h3:left - 1 < 0∨60 < deep∨gh t.kind t.user t.num t.text t.kids.length=false:=by simpa [or_assoc] using h2
  rw[e0,cY,if_pos (by simpa using h3)];exact ⟨rfl,ju⟩
 ·refine jq ?_;intro a S
  have h3:¬(left - 1 < 0∨60 < deep∨gh t.kind t.user t.num t.text t.kids.length=false):=by simpa [and_assoc] using h2
  have hlen:=ak.pR hf;refine eR (ι:=Nat) (fun k a w=>k≤t.kids.length∧∃ lf,0≤lf∧lf≤1200∧dm ((t.kids.drop k).map ak.t) (deep+1) lf=cY t.t deep left∧∃ uu:Nat→Value,St w0 (fun k=>k=b) [] a w ((vL t)::(.int .i64 deep)::(.pointer (some ⟨b,0,none⟩))::(.pointer (some ⟨b3,0,none⟩))::uu 4::uu 5::(.bool false)::uu 7::uu 8::uu 9::uu 10::uu 11::uu 12::uu 13::uu 14::uu 15::uu 16::uu 17::uu 18::uu 19::uu 20::uu 21::uu 22::uu 23::uu 24::uu 25::uu 26::uu 27::(.slice t.p t.kids.length t.cap)::(.int .i64 t.kids.length)::(.int .i64 (k:Nat))::uu 31::uu 32::uu 33::uu 34::uu 35::uu 36::uu 37::uu 38::uu 39::uu 40::[]) [box b3 43 t.cells,box b 3 [.int .i64 lf]] [dc t]) (fun k=>t.kids.length - k) 0 ?_ ?_
  ·refine ⟨Nat.zero_le _,left - 1,by omega,by omega,?_,S.uu,S⟩
   rw[e0,cY,if_neg (by simpa using h3)];rfl
  ·clear S
   rintro k a w ⟨hk,lf,hlf,Sw,aI,uu,S⟩;refine J6 ?_;intro a S;refine kC S (fun h5=>?_) (fun h5=>?_)
   ·refine kK (aQ (kS (kB (kS (kR ?_)))))
    have bn:k < t.kids.length:=by simpa using h5
    obtain ⟨x,ad,hx,hm,hp,hcell,s_⟩:=ak.Rw (S.fact (Φ:=dc t) (by simp)) bn;replace S:=S.add s_;refine si S ad hp (by omega) (by omega) ?_;intro a S;refine Sh x.cells S hcell ?_;intro a S;refine sa S ?_;intro b8 a w S;refine Y8 ?_;intro a w S;rw[w6 (deep+1)]at S;refine J1 ?_;intro a S;have Cn:t.kids.drop k=x::t.kids.drop (k+1):=by
     rw[List.drop_eq_getElem_cons bn];congr 1;exact (List.getElem?_eq_some_iff.1 hx).2
    rw[Cn,List.map_cons,dm]at aI;have Vp:=uz x.t (deep+1) lf;refine sb S (b:=b) (ih x (deep+1) lf b w (by have:=ak.lH hm;omega) (by omega) (by have:¬60 < deep:=fun h=>h3 (.inr (.inl h));omega) hlf Sw (S.fb b (by simp)) (S.box b)) ?_;clear S;rintro v a w ⟨rfl,hcb⟩ hS;have S:=hS [.int .i64 _] _ inferInstance hcb;clear hS;refine J3 ?_;intro a S;refine kC S (fun h7=>?_) (fun h7=>?_)
    ·refine gM ?_;intro a S
     have ju:=S.box b;refine kY S (fun _=>?_);have h8:(cY x.t (deep+1) lf).1=false:=by simpa using h7
     rw[if_neg (by simp[h8])]at aI;rw[←aI];exact ⟨rfl,ju⟩
    ·refine J8 ?_;intro a S
     have h8:(cY x.t (deep+1) lf).1=true:=by simpa using h7
     rw[if_pos h8]at aI;replace S:=S.sub [box b3 43 t.cells,box b 3 [.int .i64 (cY x.t (deep+1) lf).2]] [dc t];rw[w6 ((k:Int)+1)]at S;exact ⟨k+1,⟨bn,_,lX x.t (deep+1) lf hlf h8,by omega,aI,S.uu,S⟩,by omega⟩
   ·refine gM ?_;intro a S
    have ju:=S.box b;refine kY S (fun _=>?_);have h6:t.kids.length≤k:=by simpa using h5
    rw[List.drop_of_length_le h6,List.map_nil,dm]at aI;rw[←aI];exact ⟨rfl,ju⟩
def jv (t:Term):Int:=if (cY t 1 1200).1 then 1200 - (cY t 1 1200).2 else 0
theorem OY (t:ak)(w0:World)(hf:Fx w0 (dc t)):aT prog 162 [vL t] w0 (fun _=>False) fun v _=>v=.int .i64 (jv t.t):=by
 have h1:=uz t.t 1 1200;refine E1 func162 rfl ntmps162 (Wd.begin (fs:=[dc t]) (by simpa using hf)) ?_;intro a S;refine kS (kR ?_);refine sa S ?_;intro b1 a w S;refine J5 ?_;intro a S;refine sa S ?_;intro b3 a w S;refine Y7 ?_;intro a w S;refine sb S (b:=b3) (OX _ t 1 1200 b3 w (Nat.le_refl _) (by omega) (by omega) (by omega) (by omega) (S.fb b3 (by simp)) (S.box b3)) ?_;clear S;rintro v a w ⟨rfl,hcb⟩ hS;have S:=hS [.int .i64 _] _ inferInstance hcb;clear hS;refine J3 ?_;intro a S;refine kC S (fun h2=>?_) (fun h2=>?_);refine J7 ?_;intro a S;refine aD S (fun _=>?_);have h3:(cY t.t 1 1200).1=false:=by simpa using h2
 simp[jv,h3];refine J5 ?_;intro a S;have h3:(cY t.t 1 1200).1=true:=by simpa using h2
 have h4:=lX t.t 1 1200 (by omega) h3;refine J1 ?_;intro a S;rw[w6 (1200 - (cY t.t 1 1200).2)]at S;refine J4 ?_;intro a S;refine aD S (fun _=>?_);simp[jv,h3]
instance {t:ak}{bs fs}[qA fs t]:cB prog 162 [vL t] bs fs (.int .i64 (jv t.t)):=⟨fun w m=>OY t w (m.t0 _)⟩
def cR (t:Term):Int:=if jv t=0 then 150 else 0
theorem Lv (t:ak)(w0:World)(hf:Fx w0 (dc t)):aT prog 203 [vL t] w0 (fun _=>False) fun v _=>v=.int .i64 (cR t.t):=by
 refine E1 func203 rfl ntmps203 (Wd.begin (fs:=[dc t]) (by simpa using hf)) ?_;intro a S;refine kS (kR ?_);refine sa S ?_;intro b1 a w S;refine yA ?_;intro a w S;refine kC S (fun h1=>?_) (fun h1=>?_);refine J7 ?_;intro a S;refine aD S (fun _=>?_);simp at h1;simp[cR,h1];refine J8 ?_;intro a S;refine aD S (fun _=>?_);simp at h1;simp[cR,h1]
instance {t:ak}{bs fs}[qA fs t]:cB prog 203 [vL t] bs fs (.int .i64 (cR t.t)):=⟨fun w m=>Lv t w (m.t0 _)⟩
mutual
def gw:Term→Term→Bool
 | .mk k u n s ks,.mk k' u' n' s' ks'=>decide (k=k')&&decide (u=u')&&decide (n=n')&&decide (s=s')&&fc ks ks'
def fc:List Term→List Term→Bool
 | [],[]=>true
 | a::l,b::m=>gw a b&&fc l m
 | [],_::_=>false
 | _::_,[]=>false
end
mutual
theorem xe:∀ a b:Term,gw a b=true↔a=b
 | .mk k u n s ks,.mk k' u' n' s' ks'=>by
  have:=mR ks ks';simp[gw,this,and_assoc]
theorem mR:∀ a b:List Term,fc a b=true↔a=b
 | [],[]=>by simp[fc]
 | a::l,b::m=>by
  have h1:=xe a b;have h2:=mR l m;simp[fc,h1,h2]
 | [],_::_=>by simp[fc]
 | _::_,[]=>by simp[fc]
end
theorem CM {a b:List Term}(h:a.length≠b.length):fc a b=false:=by
 cases hs:fc a b with
 | false=>rfl
 | true=>exact absurd (by rw[(mR a b).1 hs]) h
def NP (N:Nat):Prop:=∀ (x y:ak) (w:World),SizeOf.sizeOf x≤N→Fx w (dc x)→Fx w (dc y)→aT prog 61 [vL x,vL y] w (fun _=>False) fun v _=>v=.bool (gw x.t y.t)
theorem Lw (N:Nat)(hS:NP N)(p q:Option Addr)(c e n m:Nat)(xs ys:List ak)(hn:xs.length=n)(hm:ys.length=m)(w0:World)(hl:n≤9223372036854775807)(hN:∀ x∈xs,SizeOf.sizeOf x≤N)(hx:Fx w0 (Ae p 0 xs))(hy:Fx w0 (Ae q 0 ys)) :
  aT prog 159 [.slice p n c,.slice q m e,.func (.func 61) #[] #[]] w0 (fun _=>False) fun v _=>v=.bool (fc (xs.map ak.t) (ys.map ak.t)):=by
 refine E1 func159 rfl ntmps159 (Wd.begin (fs:=[Ae p 0 xs,Ae q 0 ys]) (by simp;exact ⟨hx,hy⟩)) ?_;intro a S;refine tI ?_;intro a S;refine kC S (fun h1=>?_) (fun h1=>?_);refine J7 ?_;intro a S;refine aD S (fun _=>?_);rw[CM];simp[hn,hm];simp at h1;omega;refine gM ?_;intro a S;obtain rfl:n=m:=by simp at h1;omega
 refine eR (ι:=Nat) (fun k a w=>k≤n∧fc ((xs.drop k).map ak.t) ((ys.drop k).map ak.t)=fc (xs.map ak.t) (ys.map ak.t)∧∃ uu:Nat→Value,St w0 (fun _=>False) [] a w ((.slice p n c)::(.slice q n e)::(.func (.func 61) #[] #[])::uu 3::uu 4::uu 5::(.bool false)::uu 7::uu 8::uu 9::uu 10::uu 11::uu 12::uu 13::uu 14::(.slice p n c)::(.int .i64 n)::(.int .i64 (k:Nat))::uu 18::uu 19::uu 20::uu 21::uu 22::uu 23::uu 24::uu 25::uu 26::uu 27::uu 28::uu 29::uu 30::uu 31::[]) [] [Ae p 0 xs,Ae q 0 ys]) (fun k=>n - k) 0 ?_ ?_;exact ⟨Nat.zero_le _,rfl,S.uu,S⟩;clear S;rintro k a w ⟨hk,aI,uu,S⟩;refine J6 ?_;intro a S;refine kC S (fun h4=>?_) (fun h4=>?_);refine J7 ?_;intro a S;have bn:k < n:=by simpa using h4
 obtain ⟨x,ad,hx1,hxm,hxd,hp,hcell,s_⟩:=HE (S.fact (Φ:=Ae p 0 xs) (by simp)) (k:=k) (by omega);replace S:=S.add s_;refine si S ad hp (by omega) (by omega) ?_;intro a S;refine Sh x.cells S hcell ?_;intro a S;refine sa S ?_;intro b8 a w S;refine Y8 ?_;intro a w S;obtain ⟨y,Ee,hy1,CN,OZ,hq,O0,AA⟩:=HE (S.fact (Φ:=Ae q 0 ys) (by simp)) (k:=k) (by omega);replace S:=S.add AA;refine si S Ee hq (by omega) (by omega) ?_;intro a S;refine Sh y.cells S O0 ?_;intro a S;refine sa S ?_;intro b9 a w S;refine Y8 ?_;intro a w S;rw[hxd,OZ,List.map_cons,List.map_cons,fc]at aI;refine sr S (hS x y w (hN x hxm) (S.mem.HD (dc x)) (S.mem.HD (dc y))) ?_;rintro v a w rfl S;refine J3 ?_;intro a S;refine kC S (fun h7=>?_) (fun h7=>?_);refine gM ?_;intro a S;refine aD S (fun _=>?_);have h8:gw x.t y.t=false:=by simpa using h7
 simp[←aI,h8];refine J8 ?_;intro a S;have h8:gw x.t y.t=true:=by simpa using h7
 rw[h8,Bool.true_and]at aI;replace S:=S.sub [] [Ae p 0 xs,Ae q 0 ys];rw[w6 ((k:Int)+1)]at S;exact ⟨k+1,⟨bn,aI,S.uu,S⟩,by omega⟩;refine gM ?_;intro a S;refine aD S (fun _=>?_);have h6:n≤k:=by simpa using h4
 rw[List.drop_of_length_le (by omega),List.drop_of_length_le (by omega)]at aI;simp[←aI,fc]
theorem HM:∀ N,NP N:=by
 intro N
 induction N with
 | zero=>intro x y w h;cases x;simp at h
 | succ N ih=>
 intro x y w0 hN hx hy;have e1:=x.mN;have e2:=y.mN;have hq:∀ {bs fs} [qA fs x] [qA fs y],cB prog 159 [.slice x.p x.kids.length x.cap,.slice y.p y.kids.length y.cap,.func (.func 61) #[] #[]] bs fs (.bool (fc (x.kids.map ak.t) (y.kids.map ak.t))):=
  ⟨fun w m=>Lw N ih x.p y.p x.cap y.cap _ _ x.kids y.kids rfl rfl w (ak.pR hx) (fun z hz=>by have:=ak.lH hz;omega) (lT (m.t0 _)) (lT (m.t0 _))⟩
 refine E1 func61 rfl ntmps61 (Wd.begin (fs:=[dc x,dc y]) (by simp;exact ⟨hx,hy⟩)) ?_;intro a S;refine kS (kR ?_);refine sa S ?_;intro b2 a w S;refine sa S ?_;intro b3 a w S;refine mK ?_;intro a S;refine WR ?_;intro a w S;refine aD S (fun _=>?_);rw[e1,e2,gw]
theorem HN (x y:ak)(w:World)(hx:Fx w (dc x))(hy:Fx w (dc y)):aT prog 61 [vL x,vL y] w (fun _=>False) fun v _=>v=.bool (gw x.t y.t):=HM _ x y w (Nat.le_refl _) hx hy
def gG (k:Int):Int:=if k < 1∨8 < k then -1 else if k≤3 then 0 else if k=4∨k=6 then 2 else 1
theorem Ei (k:Int)(w:World):aT prog 179 [.int .i64 k] w (fun _=>False) fun v _=>v=.int .i64 (gG k):=by
 refine E1 func179 rfl ntmps179 (Wd.start w) ?_;intro a S;refine FF ?_;clear S;intro a S;refine kC S (fun h1=>?_) (fun h1=>?_)
 ·refine J7 ?_;clear S;intro a S
  refine aD S (fun _=>?_);clear S;congr 1;unfold gG;simp at *
  (repeat' split) <;> omega
 ·refine J9 ?_;clear S;intro a S
  refine kC S (fun h3=>?_) (fun h3=>?_)
  ·refine J7 ?_;clear S;intro a S
   refine aD S (fun _=>?_);clear S;congr 1;unfold gG;simp at *
   (repeat' split) <;> omega
  ·refine rP ?_;clear S;intro a S
   refine kC S (fun h5=>?_) (fun h5=>?_)
   ·refine J7 ?_;clear S;intro a S
    refine aD S (fun _=>?_);clear S;congr 1;unfold gG;simp at *
    (repeat' split) <;> omega
   ·refine J8 ?_;clear S;intro a S
    refine aD S (fun _=>?_);clear S;congr 1;unfold gG;simp at *
    (repeat' split) <;> omega
instance {k:Int}{bs fs} : cB prog 179 [.int .i64 k] bs fs (.int .i64 (gG k)):=⟨fun w _=>Ei k w⟩
def jO (k:Int):Bool:=decide (k=2)||decide (k=3)||decide (k=7)||decide (k=8)
theorem Lx (k:Int)(w:World):aT prog 180 [.int .i64 k] w (fun _=>False) fun v _=>v=.bool (jO k):=by
 refine E1 func180 rfl ntmps180 (Wd.start w) ?_;intro a S;refine mK ?_;intro a S;refine J5 ?_;intro a S;refine aD S (fun _=>?_);rfl
instance {k:Int}{bs fs} : cB prog 180 [.int .i64 k] bs fs (.bool (jO k)):=⟨fun w _=>Lx k w⟩
def pV (k:Int):Bool:=decide (k=2)||decide (k=8)
theorem O1 (k:Int)(w:World):aT prog 181 [.int .i64 k] w (fun _=>False) fun v _=>v=.bool (pV k):=by
 refine E1 func181 rfl ntmps181 (Wd.start w) ?_;intro a S;refine D8 ?_;intro a S;refine aD S (fun _=>?_);rfl
instance {k:Int}{bs fs} : cB prog 181 [.int .i64 k] bs fs (.bool (pV k)):=⟨fun w _=>O1 k w⟩
def qC (k u n:Int)(s:List UInt8)(m:Nat):Bool:=
 !(decide (gG k < 0)||!decide ((m:Int)=gG k)||decide (64 < (s.length:Int))||(!decide (k=1)&&!decide (s=[])))&&
 !(jO k&&(decide (u < 1)||decide (6 < u))||!jO k&&!decide (u=0))&&
 (decide (n=0)||pV k&&decide (0 < n)&&decide (n≤65535))
theorem O2 (t:ak)(w:World):aT prog 265 [vL t] w (fun _=>False) fun v _=>v=.bool (qC t.kind t.user t.num t.text t.kids.length):=by
 refine E1 func265 rfl ntmps265 (Wd.start w) ?_;intro a S;refine kS (kR ?_);refine sa S ?_;intro b1 a w S;refine J5 ?_;intro a S;refine bM [T9 0,T9 1,F9 2,T9 3,T9 4,T9 5,T9 6,T9 7,T9 8,T9 9,F9 10,T9 11,T9 12,T9 13,T9 14,T9 15,T9 16,T9 17,T9 18,T9 19,T9 20,T9 21,T9 22,T9 23,T9 24,T9 25,T9 26,T9 27,T9 28] [] S ?_;intro w S;(iterate 2 (refine dq S ?_;intro a S));refine dl (sc S ?_);intro a w S;refine de S ?_;(iterate 2 (refine dq S ?_;intro a S));(iterate 5 (refine iX S ?_;intro a S));refine dl ?_;refine gC S ?_;intro a w S;refine de S ?_;refine iX S ?_;intro a S;(iterate 2 (refine dq S ?_;intro a S));(iterate 4 (refine iX S ?_;intro a S));(iterate 2 (refine dq S ?_;intro a S));(iterate 8 (refine iX S ?_;intro a S));refine dq S ?_;intro a S;refine dn (aQ ?_);refine kC S (fun h1=>?_) (fun h1=>?_);refine J7 ?_;intro a S;refine aD S (fun _=>?_);simp only[qC,h1];rfl;refine sP ?_;intro a w S;refine yA ?_;intro a w S;refine kC S (fun h3=>?_) (fun h3=>?_);refine J7 ?_;intro a S;refine aD S (fun _=>?_);simp only[qC,h3];simp;refine sP ?_;intro a w S;refine J6 ?_;intro a S;refine aD S (fun _=>?_);simp only[qC,h1,h3];simp
instance {t:ak}{bs fs} : cB prog 265 [vL t] bs fs (.bool (qC t.kind t.user t.num t.text t.kids.length)):=⟨fun w _=>O2 t w⟩
mutual
def gH:Term→Int→Int→Int × Bool
 | .mk k u n s kids,most,deep=>if most < 1∨deep < 1∨qC k u n s kids.length=false then (0,false) else iG kids most deep 1
def iG:List Term→Int→Int→Int→Int × Bool
 | [],_,_,n=>(n,true)
 | t::ts,most,deep,n=>if (gH t (most - n) (deep - 1)).2 then iG ts most deep (n+(gH t (most - n) (deep - 1)).1) else (0,false)
end
mutual
theorem uA:∀ (t:Term) (most deep:Int),(gH t most deep).2=true→1≤(gH t most deep).1∧(gH t most deep).1≤most
 | .mk k u n s kids,most,deep=>by
  intro h;rw[gH]at h⊢;split at h;simp at h
  rename_i hc
  rw[if_neg hc];exact xg kids most deep 1 (by omega) (by omega) h
theorem xg:∀ (ts:List Term) (most deep n:Int),1≤n→n≤most→(iG ts most deep n).2=true→1≤(iG ts most deep n).1∧(iG ts most deep n).1≤most
 | [],most,deep,n=>by intro h1 h2 _;simp[iG];omega
 | t::ts,most,deep,n=>by
  intro h1 h2 h;rw[iG]at h⊢;split at h
  rename_i hc
  rw[if_pos hc];have:=uA t (most - n) (deep - 1) hc;exact xg ts most deep _ (by omega) (by omega) h;simp at h
end
theorem Ly (N:Nat):∀ (t:ak) (most deep:Int) (w0:World),SizeOf.sizeOf t≤N→most≤1200→-1200≤most→deep≤60→-60≤deep→Fx w0 (dc t)→
  aT prog 241 [vL t,.int .i64 most,.int .i64 deep] w0 (fun _=>False) fun v _=>v=.tuple ⟨[.int .i64 (gH t.t most deep).1,.bool (gH t.t most deep).2]⟩:=by
 induction N with
 | zero=>intro t _ _ _ h;cases t;simp at h
 | succ N ih=>
 intro t most deep w0 hN hm hm' hd hd' hf;have e0:=t.mN;have hlen:=ak.pR hf;refine E1 func241 rfl ntmps241 (Wd.begin (fs:=[dc t]) (by simpa using hf)) ?_;intro a S;refine kS (kR ?_);refine sa S ?_;intro b3 a w S;refine sP ?_;intro a w S;refine kC S (fun h1=>?_) (fun h1=>?_)
 ·refine J8 ?_;intro a S
  refine gO S (fun _=>?_);have h3:most < 1∨deep < 1∨qC t.kind t.user t.num t.text t.kids.length=false:=by simpa [or_assoc] using h1
  rw[e0,gH,if_pos (by simpa using h3)]
 ·refine ug ?_;intro a S
  have h3:¬(most < 1∨deep < 1∨qC t.kind t.user t.num t.text t.kids.length=false):=by simpa [and_assoc] using h1
  have h4:1≤most∧1≤deep:=by omega
  refine eR (ι:=Nat) (fun k a w=>k≤t.kids.length∧∃ n:Int,1≤n∧n≤most∧iG ((t.kids.drop k).map ak.t) most deep n=gH t.t most deep∧∃ uu:Nat→Value,St w0 (fun _=>False) [] a w ((vL t)::(.int .i64 most)::(.int .i64 deep)::(.pointer (some ⟨b3,0,none⟩))::uu 4::uu 5::(.int .i64 0)::(.bool false)::(.int .i64 n)::(.int .i64 (k:Nat))::uu 10::uu 11::uu 12::uu 13::uu 14::uu 15::uu 16::uu 17::uu 18::uu 19::uu 20::uu 21::uu 22::uu 23::uu 24::uu 25::uu 26::uu 27::uu 28::uu 29::uu 30::uu 31::uu 32::uu 33::uu 34::uu 35::uu 36::uu 37::uu 38::uu 39::uu 40::uu 41::uu 42::uu 43::uu 44::uu 45::uu 46::uu 47::uu 48::uu 49::[]) [box b3 43 t.cells] [dc t]) (fun k=>t.kids.length - k) 0 ?_ ?_
  ·refine ⟨Nat.zero_le _,1,by omega,by omega,?_,S.uu,S⟩
   rw[e0,gH,if_neg (by simpa using h3)];rfl
  ·clear S
   rintro k a w ⟨hk,n,wG,hn2,aI,uu,S⟩;refine mJ ?_;intro a S;refine kC S (fun h5=>?_) (fun h5=>?_)
   ·refine kK (aQ (kS (kB (kS (kR ?_)))))
    have bn:k < t.kids.length:=by simpa using h5
    have hK:cx k t.kids.length:=⟨bn⟩;refine J8 ?_;intro a S;rw[w6 (most - n)]at S;refine J2 ?_;intro a S;rw[w6 (deep - 1)]at S;rw[js bn,List.map_cons,iG]at aI;refine sr S (ih (gP t.kids k) (most - n) (deep - 1) w (by have:=ak.lH (fC bn);omega) (by omega) (by omega) (by omega) (by omega) (S.t0 _)) ?_;rintro _ a w rfl S;refine ug ?_;intro a S;refine kC S (fun h8=>?_) (fun h8=>?_)
    ·refine rP ?_;intro a S
     refine gO S (fun _=>?_);have h9:(gH (gP t.kids k).t (most - n) (deep - 1)).2=false:=by simpa using h8
     rw[if_neg (by simp[h9])]at aI;rw[←aI]
    ·refine J5 ?_;intro a S
     have h9:(gH (gP t.kids k).t (most - n) (deep - 1)).2=true:=by simpa using h8
     have gi:=uA _ _ _ h9;rw[if_pos h9]at aI;refine J1 ?_;intro a S;rw[Ar (n+(gH (gP t.kids k).t (most - n) (deep - 1)).1) (by omega) (by omega)]at S;refine mJ ?_;intro a S;rw[w6 ((k:Int)+1)]at S;exact ⟨k+1,⟨bn,_,by omega,by omega,aI,S.uu,S⟩,by omega⟩
   ·refine rP ?_;intro a S
    refine gO S (fun _=>?_);have h6:t.kids.length≤k:=by simpa using h5
    rw[List.drop_of_length_le h6,List.map_nil,iG]at aI;rw[←aI]
def ku (t:Term):Bool:=(gH t 1200 60).2
theorem Lz (t:ak)(w0:World)(hf:Fx w0 (dc t)):aT prog 182 [vL t] w0 (fun _=>False) fun v _=>v=.bool (ku t.t):=by
 refine E1 func182 rfl ntmps182 (Wd.begin (fs:=[dc t]) (by simpa using hf)) ?_;intro a S;refine kS (kR ?_);refine sa S ?_;intro b1 a w S;refine J6 ?_;intro a S;refine sr S (Ly _ t 1200 60 w (Nat.le_refl _) (by omega) (by omega) (by omega) (by omega) (S.t0 _)) ?_;rintro _ a w rfl S;refine ug ?_;intro a S;refine aD S (fun _=>?_);rfl
instance {t:ak}{bs fs}[qA fs t]:cB prog 182 [vL t] bs fs (.bool (ku t.t)):=⟨fun w m=>Lz t w (m.t0 _)⟩
theorem FK (k u n:Int)(s:List UInt8)(m:Nat):gh k u n s m=qC k u n s m:=by
  by_cases hk:1≤k∧k≤8
  · obtain ⟨h1,h2⟩:=hk
    have NQ:k=1∨k=2∨k=3∨k=4∨k=5∨k=6∨k=7∨k=8:=by omega
    rcases NQ with rfl | rfl | rfl | rfl | rfl | rfl | rfl | rfl <;>
      (simp only[gh,qC,show fieldsOf 1=1 from rfl,show fieldsOf 2=6 from rfl,show fieldsOf 3=2 from rfl,show fieldsOf 4=16 from rfl,show fieldsOf 5=8 from rfl,show fieldsOf 6=16 from rfl,show fieldsOf 7=10 from rfl,show fieldsOf 8=14 from rfl,
        show jt 1=0 from by decide,show jt 6=0 from by decide,show jt 2=0 from by decide,show jt 16=2 from by decide,show jt 8=1 from by decide,show jt 10=1 from by decide,show jt 14=1 from by decide,
        show gG 1=0 from rfl,show gG 2=0 from rfl,show gG 3=0 from rfl,show gG 4=2 from rfl,show gG 5=1 from rfl,show gG 6=2 from rfl,show gG 7=1 from rfl,show gG 8=1 from rfl,
        show cm 1 1=true from by decide,show cm 1 2=false from by decide,show cm 1 4=false from by decide,
        show cm 6 1=false from by decide,show cm 6 2=true from by decide,show cm 6 4=true from by decide,
        show cm 2 1=false from by decide,show cm 2 2=true from by decide,show cm 2 4=false from by decide,
        show cm 16 1=false from by decide,show cm 16 2=false from by decide,show cm 16 4=false from by decide,
        show cm 8 1=false from by decide,show cm 8 2=false from by decide,show cm 8 4=false from by decide,
        show cm 10 1=false from by decide,show cm 10 2=true from by decide,show cm 10 4=false from by decide,
        show cm 14 1=false from by decide,show cm 14 2=true from by decide,show cm 14 4=true from by decide,
        show jO 1=false from rfl,show jO 2=true from rfl,show jO 3=true from rfl,show jO 4=false from rfl,show jO 5=false from rfl,show jO 6=false from rfl,show jO 7=true from rfl,show jO 8=true from rfl,
        show pV 1=false from rfl,show pV 2=true from rfl,show pV 3=false from rfl,show pV 4=false from rfl,show pV 5=false from rfl,show pV 6=false from rfl,show pV 7=false from rfl,show pV 8=true from rfl,bX]
       rw[Bool.eq_iff_iff];simp
       try omega)
  · have h1:fieldsOf k=0:=by
      unfold fieldsOf;(repeat' split) <;> omega
    have h2:gG k = -1:=by
      unfold gG;rw[if_pos];omega
    simp[gh,qC,h1,h2]
mutual
theorem xh:∀ (t:Term) (deep left:Int),(cY t deep left).1=(gH t left (61 - deep)).2∧((cY t deep left).1=true→(cY t deep left).2=left - (gH t left (61 - deep)).1)
 | .mk k u n s kids,deep,left=>by
  rw[cY,gH,FK];have e:(left - 1 < 0∨60 < deep∨qC k u n s kids.length=false)↔(left < 1∨61 - deep < 1∨qC k u n s kids.length=false):=or_congr (by omega) (or_congr (by omega) Iff.rfl)
  by_cases hc:left - 1 < 0∨60 < deep∨qC k u n s kids.length=false
  rw[if_pos hc,if_pos (e.1 hc)];simp;rw[if_neg hc,if_neg (fun h=>hc (e.2 h))];have:=uB kids (deep+1) left 1;rw[show 61 - (deep+1)+1=61 - deep from by omega]at this;exact this
theorem uB:∀ (ts:List Term) (deep left n:Int),(dm ts deep (left - n)).1=(iG ts left (61 - deep+1) n).2∧((dm ts deep (left - n)).1=true→(dm ts deep (left - n)).2=left - (iG ts left (61 - deep+1) n).1)
 | [],deep,left,n=>by simp[dm,iG]
 | t::ts,deep,left,n=>by
  rw[dm,iG];have h1:=xh t deep (left - n);rw[show 61 - deep+1 - 1=61 - deep from by omega];cases hb:(gH t (left - n) (61 - deep)).2 with
  | false=>
   rw[hb]at h1;simp[h1.1]
  | true=>
   rw[hb]at h1;rw[if_pos h1.1,if_pos rfl,h1.2 h1.1];have h2:=uB ts deep left (n+(gH t (left - n) (61 - deep)).1);rw[show left - (n+(gH t (left - n) (61 - deep)).1)=left - n - (gH t (left - n) (61 - deep)).1 from by omega]at h2;exact h2
end
theorem HO (t:Term):jv t=if ku t then (gH t 1200 60).1 else 0:=by
 have:=xh t 1 1200;rw[show (61:Int) - 1=60 from rfl]at this;unfold jv ku;rw[this.1];split
 rename_i h;rw[this.2 (by rw[this.1];exact h)];omega
 rfl
theorem AB (t:Term):cR t=if ku t then 0 else 150:=by
 have h:=HO t;unfold cR;cases hr:ku t with
 | false=>rw[hr]at h;simp at h;simp[h]
 | true=>
  rw[hr]at h;simp at h;have:=uA t 1200 60 hr;rw[if_neg (by omega),if_pos rfl]
theorem CO {t:Term} : cR t=0↔ku t=true:=by
 rw[AB];cases ku t <;> simp
def gR (k:Int)(s:List UInt8):List UInt8:=if cm (fieldsOf k) 1 then Wk.u8 s.length::s else []
def jM (k u:Int):List UInt8:=if cm (fieldsOf k) 2 then [Wk.u8 u] else []
def pW (k n:Int):List UInt8:=if cm (fieldsOf k) 4 then be 2 (IntKind.u16.wrap n) else []
def iY (k u n:Int)(s:List UInt8):List UInt8:=[Wk.u8 k]++gR k s++jM k u++pW k n
mutual
def cn:Term→List UInt8
 | .mk k u n s ks=>iY k u n s++dP ks
def dP:List Term→List UInt8
 | []=>[]
 | t::ts=>cn t++dP ts
end
theorem uC (n:Int):0≤IntKind.u16.wrap n∧IntKind.u16.wrap n≤65535:=by
 unfold IntKind.wrap;simp only[IntKind.bits,IntKind.signed,Bool.false_and];simp;omega
theorem rT {w:World}{e:TypeId}{sz:Nat}{p:Option Addr}{n c:Nat}{xs:List Value}(h:w.ownsRow 0 e sz (.slice p n c) n xs):Fx w (iE p xs):=(jc h).aO fun _ _ h=>h
def XG (w0 w':World)(p:Option Addr)(b:List UInt8)(v:Value):Prop:=∃ p' c',v=.slice p' b.length c'∧w'.ownsRow 0 5 1 (.slice p' b.length c') b.length (aa b)∧∀ ad,p'=some ad→(∃ Ee,p=some Ee∧ad.block=Ee.block)∨w0.heap.size≤ad.block
theorem Sx (N:Nat):∀ (t:ak) (p:Option Addr) (n c:Nat) (b:List UInt8) (w0:World),SizeOf.sizeOf t≤N→b.length=n→n+(cn t.t).length≤1073741824→w0.ownsRow 0 5 1 (.slice p n c) n (aa b)→ag (fun k=>∃ ad,p=some ad∧k=ad.block) w0 (dc t)→
  aT prog 163 [.slice p n c,vL t] w0 (fun k=>∃ ad,p=some ad∧k=ad.block) fun v w'=>XG w0 w' p (b++cn t.t) v:=by
 induction N with
 | zero=>intro t _ _ _ _ _ h;cases t;simp at h
 | succ N ih=>
 intro t p n c b w0 hN Co hbd hown hf;have hlen:=ak.pR hf;have e0:cn t.t=iY t.kind t.user t.num t.text++dP (t.kids.map ak.t):=by rw[t.mN,cn]
 have hL:n+(1+(gR t.kind t.text).length+(jM t.kind t.user).length+(pW t.kind t.num).length+(dP (t.kids.map ak.t)).length)≤1073741824:=by
  rw[e0]at hbd;simp only[iY,List.length_append,List.length_singleton]at hbd;omega
 refine E1 func163 rfl ntmps163 (Wd.Lp (fs:=[dc t]) hown (by simpa using hf)) ?_;intro a S;refine kS (kR ?_);refine sa S ?_;clear S;intro b3 a w S;refine CD ?_;clear S;intro a w S;refine sn S ?_;clear S;intro O3 a w S;refine gA S (by simp only[maxLen];omega) (by omega) ?_;clear S;intro p1 c1 a w _ S;rw[show aa b++[Value.int .u8 (IntKind.u8.wrap t.kind)]=aa (b++([Wk.u8 t.kind])) from by rw[aC,cF];rfl]at S;refine J3 ?_;clear S;intro a S;have uD:n+1=(b++([Wk.u8 t.kind])).length:=by rw[List.length_append,Co];rfl
 generalize n+1=m1 at S uD
 refine oC (fun a w=>∃ (p':Option Addr) (c' m:Nat),m=(b++([Wk.u8 t.kind]++gR t.kind t.text)).length∧∃ uu:Nat→Value,St w0 (fun k=>∃ ad,p=some ad∧k=ad.block) [] a w ((.slice p' m c')::(vL t)::uu 2::(.pointer (some ⟨b3,0,none⟩))::(.slice none 0 0)::(.int .i64 (fieldsOf t.kind))::uu 6::uu 7::uu 8::uu 9::uu 10::uu 11::uu 12::uu 13::uu 14::uu 15::uu 16::uu 17::uu 18::uu 19::uu 20::uu 21::uu 22::uu 23::uu 24::uu 25::uu 26::uu 27::uu 28::uu 29::uu 30::uu 31::uu 32::uu 33::uu 34::uu 35::uu 36::uu 37::uu 38::uu 39::uu 40::uu 41::uu 42::uu 43::uu 44::uu 45::uu 46::uu 47::uu 48::uu 49::uu 50::uu 51::uu 52::uu 53::uu 54::uu 55::[]) [box b3 43 t.cells,row 5 1 p' m c' (aa (b++([Wk.u8 t.kind]++gR t.kind t.text)))] [dc t]) ?_ ?_
 ·refine Y6 ?_;clear S;intro a w S
  refine kC S (fun h3=>?_) (fun h3=>?_)
  ·refine eY [T9 0,T9 1,T9 2,T9 3,T9 4,T9 7,T9 8,F9 5,F9 6,F9 9,T9 10] [box b3 43 t.cells] S ?_;clear S;intro w S;(iterate 7 (refine dq S ?_;clear S;intro a S));refine dl (sn S ?_);clear S;intro HP a w S;refine de S ?_;refine dl ?_
   have Sy:cm (fieldsOf t.kind) 1=true:=h3;have e1:gR t.kind t.text=Wk.u8 t.text.length::t.text:=by rw[gR,if_pos Sy]
   have nw:(gR t.kind t.text).length=t.text.length+1:=by rw[e1];rfl
   have hm2:m1=n+1:=by rw[uD,List.length_append,Co];rfl
   refine gA S (by simp only[maxLen];omega) (by omega) ?_;clear S;intro p2 c2 a w _ S;refine de S ?_;refine dl ?_;refine gA S (by simp only[maxLen];omega) (by omega) ?_;clear S;intro p3 c3 a w _ S;rw[show aa (b++([Wk.u8 t.kind]))++[Value.int .u8 (IntKind.u8.wrap (t.text.length:Int))]++aa t.text=aa (b++([Wk.u8 t.kind]++gR t.kind t.text)) from by rw[e1,cF];simp[aa,cX.cells]]at S;refine de S ?_;refine dq S ?_;clear S;intro a S;refine dn (aQ ?_);replace S:=S.sub [box b3 43 t.cells,row 5 1 p3 (m1+1+t.text.length) c3 (aa (b++([Wk.u8 t.kind]++gR t.kind t.text)))] [dc t];exact ⟨p3,c3,_,by rw[hm2,List.length_append,List.length_append,nw,Co];simp;omega,S.uu,S⟩
  ·refine kK (aQ ?_)
   have Sy:¬cm (fieldsOf t.kind) 1=true:=by simpa using h3
   have e1:gR t.kind t.text=[]:=by rw[gR,if_neg Sy]
   rw[show b++([Wk.u8 t.kind])=b++([Wk.u8 t.kind]++gR t.kind t.text) from by rw[e1,List.append_nil]]at S uD;replace S:=S.sub [box b3 43 t.cells,row 5 1 p1 m1 c1 (aa (b++([Wk.u8 t.kind]++gR t.kind t.text)))] [dc t];exact ⟨p1,c1,m1,uD,S.uu,S⟩
 ·clear S;rintro a w ⟨p',c',m,hm,uu,S⟩
  have VG:m=n+1+(gR t.kind t.text).length:=by rw[hm];simp[Co];omega
  refine oC (fun a w=>∃ (p':Option Addr) (c' m:Nat),m=(b++([Wk.u8 t.kind]++gR t.kind t.text++jM t.kind t.user)).length∧∃ uu:Nat→Value,St w0 (fun k=>∃ ad,p=some ad∧k=ad.block) [] a w ((.slice p' m c')::(vL t)::uu 2::(.pointer (some ⟨b3,0,none⟩))::(.slice none 0 0)::(.int .i64 (fieldsOf t.kind))::uu 6::uu 7::uu 8::uu 9::uu 10::uu 11::uu 12::uu 13::uu 14::uu 15::uu 16::uu 17::uu 18::uu 19::uu 20::uu 21::uu 22::uu 23::uu 24::uu 25::uu 26::uu 27::uu 28::uu 29::uu 30::uu 31::uu 32::uu 33::uu 34::uu 35::uu 36::uu 37::uu 38::uu 39::uu 40::uu 41::uu 42::uu 43::uu 44::uu 45::uu 46::uu 47::uu 48::uu 49::uu 50::uu 51::uu 52::uu 53::uu 54::uu 55::[]) [box b3 43 t.cells,row 5 1 p' m c' (aa (b++([Wk.u8 t.kind]++gR t.kind t.text++jM t.kind t.user)))] [dc t]) ?_ ?_
  ·refine Y6 ?_;clear S;intro a w S
   refine kC S (fun h5=>?_) (fun h5=>?_)
   ·refine J5 ?_;clear S;intro a S
    have O4:cm (fieldsOf t.kind) 2=true:=h5;have e2:jM t.kind t.user=[Wk.u8 t.user]:=by rw[jM,if_pos O4]
    have rU:(jM t.kind t.user).length=1:=by rw[e2];rfl
    refine sn S ?_;clear S;intro b35 a w S;refine gA S (by simp only[maxLen];omega) (by omega) ?_;clear S;intro p2 c2 a w _ S;rw[show aa (b++([Wk.u8 t.kind]++gR t.kind t.text))++[Value.int .u8 (IntKind.u8.wrap t.user)]=aa (b++([Wk.u8 t.kind]++gR t.kind t.text++jM t.kind t.user)) from by rw[e2,cF];simp[aa,cX.cells]]at S;refine J3 ?_;clear S;intro a S;replace S:=S.sub [box b3 43 t.cells,row 5 1 p2 (m+1) c2 (aa (b++([Wk.u8 t.kind]++gR t.kind t.text++jM t.kind t.user)))] [dc t];exact ⟨p2,c2,_,by rw[hm];simp[rU];omega,S.uu,S⟩
   ·refine kK (aQ ?_)
    have O4:¬cm (fieldsOf t.kind) 2=true:=by simpa using h5
    have e2:jM t.kind t.user=[]:=by rw[jM,if_neg O4]
    rw[show b++([Wk.u8 t.kind]++gR t.kind t.text)=b++([Wk.u8 t.kind]++gR t.kind t.text++jM t.kind t.user) from by rw[e2,List.append_nil]]at S hm;exact ⟨p',c',m,hm,S.uu,S⟩
  ·clear S;clear VG hm;clear m;rintro a w ⟨p',c',m,hm,uu,S⟩
   have VG:m=n+1+(gR t.kind t.text).length+(jM t.kind t.user).length:=by rw[hm];simp[Co];omega
   refine oC (fun a w=>∃ (p':Option Addr) (c' m:Nat),m=(b++(iY t.kind t.user t.num t.text)).length∧∃ uu:Nat→Value,St w0 (fun k=>∃ ad,p=some ad∧k=ad.block) [] a w ((.slice p' m c')::(vL t)::uu 2::(.pointer (some ⟨b3,0,none⟩))::(.slice none 0 0)::(.int .i64 (fieldsOf t.kind))::uu 6::uu 7::uu 8::uu 9::uu 10::uu 11::uu 12::uu 13::uu 14::uu 15::uu 16::uu 17::uu 18::uu 19::uu 20::uu 21::uu 22::uu 23::uu 24::uu 25::uu 26::uu 27::uu 28::uu 29::uu 30::uu 31::uu 32::uu 33::uu 34::uu 35::uu 36::uu 37::uu 38::uu 39::uu 40::uu 41::uu 42::uu 43::uu 44::uu 45::uu 46::uu 47::uu 48::uu 49::uu 50::uu 51::uu 52::uu 53::uu 54::uu 55::[]) [box b3 43 t.cells,row 5 1 p' m c' (aa (b++(iY t.kind t.user t.num t.text)))] [dc t]) ?_ ?_
   ·refine Y6 ?_;clear S;intro a w S
    refine kC S (fun h7=>?_) (fun h7=>?_)
    ·refine J5 ?_;clear S;intro a S
     have XH:cm (fieldsOf t.kind) 4=true:=h7;have e4:pW t.kind t.num=be 2 (IntKind.u16.wrap t.num):=by rw[pW,if_pos XH]
     have RC:=uC t.num;refine jU S (Eh p' m c' (b++([Wk.u8 t.kind]++gR t.kind t.text++jM t.kind t.user)) (IntKind.u16.wrap t.num) w hm.symm (by omega) RC.1 RC.2 (rT (S.row p' m))) ?_;clear S;rintro _ a w ⟨g,rfl,hg,lp⟩ hS -;have S:=hS lp (fun ad h=>by cases h;exact hg);clear hS;rw[show b++([Wk.u8 t.kind]++gR t.kind t.text++jM t.kind t.user)++be 2 (IntKind.u16.wrap t.num)=b++(iY t.kind t.user t.num t.text) from by rw[iY,e4,List.append_assoc]]at S;refine J3 ?_;clear S;intro a S;have S2:St w0 (fun k=>∃ ad,p=some ad∧k=ad.block) [] _ _ _ [box b3 43 t.cells,row 5 1 (some ⟨g,0,none⟩) (m+2) (m+2) (aa (b++(iY t.kind t.user t.num t.text)))] [dc t]:=S.Sq;exact ⟨_,_,_,by rw[hm,iY,e4];simp[be];omega,S.uu,S2⟩
    ·refine kK (aQ ?_)
     have XH:¬cm (fieldsOf t.kind) 4=true:=by simpa using h7
     have e4:pW t.kind t.num=[]:=by rw[pW,if_neg XH]
     rw[show b++([Wk.u8 t.kind]++gR t.kind t.text++jM t.kind t.user)=b++(iY t.kind t.user t.num t.text) from by rw[iY,e4,List.append_nil]]at S hm;exact ⟨p',c',m,hm,S.uu,S⟩
   ·clear S;clear VG hm;clear m;rintro a w ⟨p',c',m,hm,uu,S⟩
    refine mJ ?_;clear S;intro a S;refine eR (ι:=Nat) (fun k a w=>k≤t.kids.length∧∃ (p':Option Addr) (c' m:Nat) (b':List UInt8),m=b'.length∧b'++dP ((t.kids.drop k).map ak.t)=b++cn t.t∧∃ uu:Nat→Value,St w0 (fun k=>∃ ad,p=some ad∧k=ad.block) [] a w ((.slice p' m c')::(vL t)::uu 2::(.pointer (some ⟨b3,0,none⟩))::(.slice none 0 0)::(.int .i64 (fieldsOf t.kind))::uu 6::uu 7::uu 8::uu 9::uu 10::uu 11::uu 12::uu 13::uu 14::uu 15::uu 16::uu 17::uu 18::uu 19::uu 20::uu 21::uu 22::uu 23::uu 24::uu 25::uu 26::uu 27::uu 28::uu 29::uu 30::uu 31::uu 32::uu 33::uu 34::uu 35::uu 36::uu 37::uu 38::uu 39::uu 40::uu 41::uu 42::uu 43::uu 44::(.slice t.p t.kids.length t.cap)::(.int .i64 t.kids.length)::(.int .i64 (k:Nat))::uu 48::uu 49::uu 50::uu 51::uu 52::uu 53::uu 54::uu 55::[]) [box b3 43 t.cells,row 5 1 p' m c' (aa b')] [dc t]) (fun k=>t.kids.length - k) 0 ?_ ?_
    ·exact ⟨Nat.zero_le _,p',c',m,_,hm,by rw[e0,List.append_assoc];rfl,S.uu,S⟩
    ·clear S;clear hm;clear m p' c'
     rintro k a w ⟨hk,p',c',m,b',hm,aI,uu,S⟩;refine J6 ?_;clear S;intro a S;refine kC S (fun gi=>?_) (fun gi=>?_)
     ·refine kK (aQ (kS (kB (kS (kR ?_)))))
      have bn:k < t.kids.length:=by simpa using gi
      have hK:cx k t.kids.length:=⟨bn⟩;refine J2 ?_;clear S;intro a S;refine sa S ?_;clear S;intro b7 a w S;refine Y6 ?_;clear S;intro a w S;rw[js bn,List.map_cons,dP]at aI;have wH:=congrArg List.length aI;simp only[List.length_append,Co]at wH;refine srg p' m S (ih (gP t.kids k) p' m c' b' w (by have:=ak.lH (fC bn);omega) hm.symm (by omega) (S.row p' m) ((S.t _).less fun _ _ hk=>⟨_,gE.mem (p:=p') (n:=m),hk⟩)) ?_;clear S;rintro _ a w ⟨p2,c2,rfl,lp,hnew2⟩ hS;have S:=hS _ lp hnew2;clear hS;refine J9 ?_;clear S;intro a S;rw[w6 ((k:Int)+1)]at S;replace S:=S.sub [box b3 43 t.cells,row 5 1 p2 (b'++cn (gP t.kids k).t).length c2 (aa (b'++cn (gP t.kids k).t))] [dc t];exact ⟨k+1,⟨bn,p2,c2,_,_,rfl,by rw[List.append_assoc];exact aI,S.uu,S⟩,by omega⟩
     ·refine jq ?_;clear S;intro a S
      have h9:t.kids.length≤k:=by simpa using gi
      rw[List.drop_of_length_le h9,List.map_nil,dP,List.append_nil]at aI;subst aI hm;have hrow:=S.row p' (b++cn t.t).length;have hnew:=S.cQ p' (b++cn t.t).length;exact aD S (fun _=>⟨p',c',rfl,hrow,hnew⟩)
theorem LA {k u n:Int}{s:List UInt8}{m:Nat}(h:gh k u n s m=true):(iY k u n s).length≤69:=by
 have h1:s.length≤64:=by
  simp only[gh,Bool.and_eq_true,decide_eq_true_eq]at h;omega
 have h2:(gR k s).length≤65:=by unfold gR;split <;> simp <;> omega
 have h3:(jM k u).length≤1:=by unfold jM;split <;> simp
 have h4:(pW k n).length≤2:=by unfold pW;split <;> simp[be]
 simp only[iY,List.length_append,List.length_singleton];omega
mutual
theorem AD:∀ (t:Term) (deep left:Int),(cY t deep left).1=true→((cn t).length:Int)≤70*(left - (cY t deep left).2)
 | .mk k u n s ks,deep,left=>by
  intro h;rw[cY]at h⊢;split at h;simp at h
  rename_i hc
  rw[if_neg hc];have hp:gh k u n s ks.length=true:=by
   cases hb:gh k u n s ks.length with
   | true=>rfl
   | false=>exact absurd (.inr (.inr hb)) hc
  have h1:=LA hp;have h2:=xj ks (deep+1) (left - 1) h;rw[cn,List.length_append];omega
theorem xj:∀ (ts:List Term) (deep left:Int),(dm ts deep left).1=true→((dP ts).length:Int)≤70*(left - (dm ts deep left).2)
 | [],deep,left=>by intro _;simp[dP,dm]
 | t::ts,deep,left=>by
  intro h;rw[dm]at h⊢;split at h
  rename_i hc
  rw[if_pos hc];have h1:=AD t deep left hc;have h2:=xj ts deep _ h;rw[dP,List.length_append];omega;simp at h
end
theorem sQ {t:Term}(h:jv t≠0):(cn t).length≤84000:=by
 unfold jv at h;split at h
 rename_i hc
 have h1:=AD t 1 1200 hc;have h2:=lX t 1 1200 (by omega) hc;omega;exact absurd rfl h
def dJ (t:Term):List UInt8:=if jv t=0 then [] else cn t
theorem HQ (t:ak)(w0:World)(hf:Fx w0 (dc t)):aT prog 64 [vL t] w0 (fun _=>False) fun v w'=>
  ∃ p c,v=.tuple ⟨[.slice p (dJ t.t).length c,.int .i64 (cR t.t)]⟩∧w'.ownsRow 0 5 1 (.slice p (dJ t.t).length c) (dJ t.t).length (aa (dJ t.t))∧∀ ad,p=some ad→w0.heap.size≤ad.block:=by
 refine E1 func64 rfl ntmps64 (Wd.begin (fs:=[dc t]) (by simpa using hf)) ?_;intro a S;refine kS (kR ?_);refine sa S ?_;intro b1 a w S;refine uh ?_;intro a w S;refine kC S (fun h1=>?_) (fun h1=>?_);refine J8 ?_;intro a S;have hz:jv t.t=0:=by simpa using h1
 have e1:dJ t.t=[]:=by rw[dJ,if_pos hz]
 have e2:cR t.t=150:=by rw[cR,if_pos hz]
 refine gO S (fun _=>?_);rw[e1,e2];exact ⟨none,0,rfl,World.ownsRow_nil _ _ _ _,fun _ h=>by cases h⟩;refine J5 ?_;intro a S;have hz:jv t.t≠0:=by simpa using h1
 have K6:=sQ hz;have e1:dJ t.t=cn t.t:=by rw[dJ,if_neg hz]
 have e2:cR t.t=0:=by rw[cR,if_neg hz]
 replace S:=S.cP 5 1;refine srg none 0 S (Sx _ t none 0 0 [] w (Nat.le_refl _) rfl (by omega) (S.row none 0) ((S.t t).less fun _ _ ⟨_,h,_⟩=>by cases h)) ?_;rintro _ a w ⟨p2,c2,rfl,lp,hnew2⟩ hS;have S:=hS _ lp hnew2;clear hS;rw[j6]at S;refine J5 ?_;intro a S;have hrow:=S.row p2 (cn t.t).length;have hnew:=S.cQ p2 (cn t.t).length;refine gO S (fun _=>?_);rw[e1,e2];exact ⟨p2,c2,rfl,hrow,fun ad h=>(hnew ad h).elim (fun h=>h.elim) id⟩
inductive Ok:Term→Prop where
 | mk {k u n:Int} {s:List UInt8} {ks:List Term} (h:gh k u n s ks.length=true) (hk:∀ t∈ks,Ok t):Ok (.mk k u n s ks)
def Good (t:Term):Prop:=jv t≠0
mutual
def cnt:Term→Nat
 | .mk _ _ _ _ ks=>1+wN ks
def wN:List Term→Nat
 | []=>0
 | t::ts=>cnt t+wN ts
end
theorem Ej (t:Term):0 < cnt t:=by cases t;simp[cnt];omega
theorem uE {t:Term}{ts:List Term}(h:t∈ts):cnt t≤wN ts:=by
 induction ts with
 | nil=>cases h
 | cons x xs ih=>
  simp only[wN];rcases List.mem_cons.1 h with rfl | h
  ·omega
  ·have:=ih h;omega
mutual
theorem oD:∀ (t:Term) (d l d' l':Int),(cY t d l).1=true→d'≤d→l≤l'→(cY t d' l').1=true∧(cY t d' l').2=l' - cnt t
 | .mk k u n s ks,d,l,d',l'=>by
  intro h hd hl;rw[cY]at h⊢;split at h;cases h
  rename_i hc
  rw[if_neg (fun hn=>hc (hn.elim (fun q=>.inl (by omega)) (fun q=>.inr (q.elim (fun q=>.inl (by omega)) .inr))))];obtain ⟨h1,h2⟩:=uF ks (d+1) (l - 1) (d'+1) (l' - 1) h (by omega) (by omega);refine ⟨h1,?_⟩;rw[h2,cnt];omega
theorem uF:∀ (ts:List Term) (d l d' l':Int),(dm ts d l).1=true→d'≤d→l≤l'→(dm ts d' l').1=true∧(dm ts d' l').2=l' - wN ts
 | [],d,l,d',l'=>by intro _ _ _;simp[dm,wN]
 | t::ts,d,l,d',l'=>by
  intro h hd hl;rw[dm]at h⊢;split at h
  rename_i hc
  obtain ⟨h1,h2⟩:=oD t d l d' l' hc hd hl;obtain ⟨_,NR⟩:=oD t d l d l hc (Int.le_refl _) (Int.le_refl _);rw[if_pos h1];obtain ⟨h3,h4⟩:=uF ts d _ d' (cY t d' l').2 h hd (by omega);refine ⟨h3,?_⟩;rw[h4,h2,wN];omega;cases h
end
theorem FL {t:Term} : Good t↔(cY t 1 1200).1=true:=by
 constructor;intro h;unfold Good jv at h;split at h
 assumption
 exact absurd rfl h;intro h;unfold Good jv;rw[if_pos h];obtain ⟨_,h2⟩:=oD t 1 1200 1 1200 h (Int.le_refl _) (Int.le_refl _);have:=Ej t;omega
theorem yH {t:Term}(h:Good t):cnt t≤1200:=by
 have h1:=FL.1 h;obtain ⟨_,h2⟩:=oD t 1 1200 1 1200 h1 (Int.le_refl _) (Int.le_refl _);have:=lX t 1 1200 (by omega) h1;omega
theorem kz {t:Term} : cR t=0↔Good t:=by
 unfold cR Good;split <;> simp_all
end Go.Proofs.YtdakncgafdnjfaaGreat