/- 2: a part of this claim's texts, joined: Inst Octet TermA TermB TermC TermD TermE TermF PlainName PlainSize W4 W5 RowRegress RowBase TermG PlainList W6 TermH TreeA TreeB PlainTree TreeC TreeD TreeE TreeF LaidA PlainTreeB TreeG TreeH LaidB. -/
import Derived.Test.YtlgnhhebeandkaaGreatDoorPk1
import Derived.Test.YtlgnhhebeandkaaGreatDoorProg
import Derived.Scope
import Derived.Lib.AppendZeros
import Derived.Maps.RangeRun
import Derived.Test.YtlgnhhebeandkaaGreatDoorRows
import Derived.LaidLaws
import Derived.LaidHandle
import Derived.Stop.LaidErr
import Derived.Deep.DeepLaidRun
import Derived.Lib.ItoaLen
import Derived.Laws.StructEq
import Derived.Lib.LaidTab
import Derived.SizedLaws
import Derived.ChangeVars
import Derived.JoinedOf
import Derived.JoinedAt
namespace Go.Proofs.YtlgnhhebeandkaaGreatDoor
open Go Go.Wk
section
set_option maxRecDepth 100000
instance:Und Tryz.prog 3 (.int .i64):=⟨Tryz.underlying3⟩
instance:TI Tryz.prog 3 (.int .i64 0) 1 8:=ti_of (by kernel_rfl)
instance:Und Tryz.prog 4 (.bool):=⟨Tryz.underlying4⟩
instance:TI Tryz.prog 4 (.bool false) 1 1:=ti_of (by kernel_rfl)
instance:Und Tryz.prog 5 (.int .u8):=⟨Tryz.underlying5⟩
instance:TI Tryz.prog 5 (.int .u8 0) 1 1:=ti_of (by kernel_rfl)
instance:Und Tryz.prog 9 (.string):=⟨Tryz.underlying9⟩
instance:TI Tryz.prog 9 (.string ⟨#[]⟩) 1 16:=ti_of (by kernel_rfl)
instance:Fld Tryz.prog 23 0 0 3:=fld_of (by kernel_rfl)
instance:Und Tryz.prog 24 (.slice 47):=⟨Tryz.underlying24⟩
instance:TI Tryz.prog 24 (.slice none 0 0) 1 24:=ti_of (by kernel_rfl)
instance:AggT Tryz.prog 26 true:=aggT_of (by kernel_rfl)
instance:Fld Tryz.prog 26 0 0 23:=fld_of (by kernel_rfl)
instance:Fld Tryz.prog 26 1 1 24:=fld_of (by kernel_rfl)
instance:PlOf Tryz.prog 26 [(0,1),(1,1)]:=plof_of (by kernel_rfl)
instance:TI Tryz.prog 26 (.agg #[.int .i64 0,.slice none 0 0]) 2 32:=ti_of (by kernel_rfl)
instance:Und Tryz.prog 30 (.int .i64):=⟨Tryz.underlying30⟩
instance:TI Tryz.prog 30 (.int .i64 0) 1 8:=ti_of (by kernel_rfl)
instance:Und Tryz.prog 40 (.slice 42):=⟨Tryz.underlying40⟩
instance:TI Tryz.prog 40 (.slice none 0 0) 1 24:=ti_of (by kernel_rfl)
instance:AggT Tryz.prog 42 true:=aggT_of (by kernel_rfl)
instance:Fld Tryz.prog 42 0 0 3:=fld_of (by kernel_rfl)
instance:Fld Tryz.prog 42 1 1 3:=fld_of (by kernel_rfl)
instance:Fld Tryz.prog 42 2 2 3:=fld_of (by kernel_rfl)
instance:Fld Tryz.prog 42 3 3 9:=fld_of (by kernel_rfl)
instance:Fld Tryz.prog 42 4 4 40:=fld_of (by kernel_rfl)
instance:PlOf Tryz.prog 42 [(0,1),(1,1),(2,1),(3,1),(4,1)]:=plof_of (by kernel_rfl)
instance:TI Tryz.prog 42 (.agg #[.int .i64 0,.int .i64 0,.int .i64 0,.string ⟨#[]⟩,.slice none 0 0]) 5 64:=ti_of (by kernel_rfl)
instance:AggT Tryz.prog 44 true:=aggT_of (by kernel_rfl)
instance:Fld Tryz.prog 44 0 0 3:=fld_of (by kernel_rfl)
instance:Fld Tryz.prog 44 1 1 3:=fld_of (by kernel_rfl)
instance:Fld Tryz.prog 44 2 2 9:=fld_of (by kernel_rfl)
instance:Fld Tryz.prog 44 3 3 3:=fld_of (by kernel_rfl)
instance:Fld Tryz.prog 44 4 4 3:=fld_of (by kernel_rfl)
instance:Fld Tryz.prog 44 5 5 4:=fld_of (by kernel_rfl)
instance:Fld Tryz.prog 44 6 6 42:=fld_of (by kernel_rfl)
instance:TI Tryz.prog 44 (.agg #[.int .i64 0,.int .i64 0,.string ⟨#[]⟩,.int .i64 0,.int .i64 0,.bool false,.int .i64 0,.int .i64 0,.int .i64 0,.string ⟨#[]⟩,.slice none 0 0]) 11 120:=ti_of (by kernel_rfl)
instance:Und Tryz.prog 45 (.slice 4):=⟨Tryz.underlying45⟩
instance:TI Tryz.prog 45 (.slice none 0 0) 1 24:=ti_of (by kernel_rfl)
instance:AggT Tryz.prog 47 true:=aggT_of (by kernel_rfl)
instance:Fld Tryz.prog 47 0 0 3:=fld_of (by kernel_rfl)
instance:Fld Tryz.prog 47 1 1 44:=fld_of (by kernel_rfl)
instance:Fld Tryz.prog 47 2 12 9:=fld_of (by kernel_rfl)
instance:Fld Tryz.prog 47 3 13 9:=fld_of (by kernel_rfl)
instance:Fld Tryz.prog 47 4 14 42:=fld_of (by kernel_rfl)
instance:Fld Tryz.prog 47 5 19 3:=fld_of (by kernel_rfl)
instance:Fld Tryz.prog 47 6 20 3:=fld_of (by kernel_rfl)
instance:Fld Tryz.prog 47 7 21 3:=fld_of (by kernel_rfl)
instance:Fld Tryz.prog 47 8 22 45:=fld_of (by kernel_rfl)
instance:PlOf Tryz.prog 47 [(0,1),(1,11),(12,1),(13,1),(14,5),(19,1),(20,1),(21,1),(22,1)]:=plof_of (by kernel_rfl)
instance:TI Tryz.prog 47 (.agg ⟨.int .i64 0::.int .i64 0::.int .i64 0::.string ⟨#[]⟩::.int .i64 0::.int .i64 0::.bool false::.int .i64 0::.int .i64 0::.int .i64 0::.string ⟨#[]⟩::.slice none 0 0::.string ⟨#[]⟩::.string ⟨#[]⟩::.int .i64 0::.int .i64 0::.int .i64 0::.string ⟨#[]⟩::.slice none 0 0::.int .i64 0::.int .i64 0::.int .i64 0::.slice none 0 0::[]⟩) 23 272:=ti_of (by kernel_rfl)
instance:Und Tryz.prog 61 (.slice 5):=⟨Tryz.underlying61⟩
instance:TI Tryz.prog 61 (.slice none 0 0) 1 24:=ti_of (by kernel_rfl)
instance:Und Tryz.prog 70 (.slice 3):=⟨Tryz.underlying70⟩
instance:Und Tryz.prog 102 (.pointer 104):=⟨Tryz.underlying102⟩
instance:TI Tryz.prog 102 (.pointer none) 1 8:=ti_of (by kernel_rfl)
instance:Fld Tryz.prog 104 0 0 102:=fld_of (by kernel_rfl)
instance:Fld Tryz.prog 104 1 1 61:=fld_of (by kernel_rfl)
instance:Fld Tryz.prog 106 0 0 104:=fld_of (by kernel_rfl)
instance:TI Tryz.prog 106 (.agg #[.pointer none,.slice none 0 0]) 2 32:=ti_of (by kernel_rfl)
instance:Und Tryz.prog 129 (.int .u16):=⟨Tryz.underlying129⟩
instance:Und Tryz.prog 133 (.int .u64):=⟨Tryz.underlying133⟩
instance:TI Tryz.prog 133 (.int .u64 0) 1 8:=ti_of (by kernel_rfl)
instance:Und Tryz.prog 134 (.pointer 193):=⟨Tryz.underlying134⟩
instance:Und Tryz.prog 164 (.slice 9):=⟨Tryz.underlying164⟩
instance:Und Tryz.prog 166 (.slice 169):=⟨Tryz.underlying166⟩
instance:Und Tryz.prog 169 (.pointer 3):=⟨Tryz.underlying169⟩
instance:TI Tryz.prog 169 (.pointer none) 1 8:=ti_of (by kernel_rfl)
instance:Und Tryz.prog 171 (.pointer 5):=⟨Tryz.underlying171⟩
instance:Fld Tryz.prog 174 0 0 9:=fld_of (by kernel_rfl)
instance:Fld Tryz.prog 174 1 1 4:=fld_of (by kernel_rfl)
instance:PlOf Tryz.prog 174 [(0,1),(1,1)]:=plof_of (by kernel_rfl)
instance:TI Tryz.prog 174 (.agg #[.string ⟨#[]⟩,.bool false]) 2 24:=ti_of (by kernel_rfl)
instance:Fld Tryz.prog 191 0 0 61:=fld_of (by kernel_rfl)
instance:Fld Tryz.prog 191 1 1 30:=fld_of (by kernel_rfl)
instance:PlOf Tryz.prog 191 [(0,1),(1,1)]:=plof_of (by kernel_rfl)
instance:TI Tryz.prog 191 (.agg #[.slice none 0 0,.int .i64 0]) 2 32:=ti_of (by kernel_rfl)
instance:Fld Tryz.prog 193 0 0 191:=fld_of (by kernel_rfl)
instance:PlOf Tryz.prog 193 [(0,2)]:=plof_of (by kernel_rfl)
instance:TI Tryz.prog 193 (.agg #[.slice none 0 0,.int .i64 0]) 2 32:=ti_of (by kernel_rfl)
instance:Fld Tryz.prog 286 0 0 134:=fld_of (by kernel_rfl)
instance:Fld Tryz.prog 286 1 1 3:=fld_of (by kernel_rfl)
instance:PlOf Tryz.prog 286 [(0,1),(1,1)]:=plof_of (by kernel_rfl)
instance:TI Tryz.prog 286 (.agg #[.pointer none,.int .i64 0]) 2 16:=ti_of (by kernel_rfl)
instance:Fld Tryz.prog 288 0 0 30:=fld_of (by kernel_rfl)
instance:PlOf Tryz.prog 288 [(0,1)]:=plof_of (by kernel_rfl)
instance:TI Tryz.prog 288 (.agg #[.int .i64 0]) 1 8:=ti_of (by kernel_rfl)
instance:FnRes Tryz.f5 [ResultVar.tmp 4]:=⟨rfl⟩
instance:FnRes Tryz.f11 [ResultVar.tmp 0]:=⟨rfl⟩
instance:FnRes Tryz.f15 [ResultVar.tmp 2,ResultVar.tmp 3]:=⟨rfl⟩
instance:FnRes Tryz.f16 [ResultVar.cell 2 26,ResultVar.tmp 3,ResultVar.tmp 4]:=⟨rfl⟩
instance:FnRes Tryz.f17 [ResultVar.tmp 2]:=⟨rfl⟩
instance:FnRes Tryz.f18 [ResultVar.tmp 4]:=⟨rfl⟩
instance:FnRes Tryz.f19 [ResultVar.tmp 4,ResultVar.tmp 5,ResultVar.tmp 6]:=⟨rfl⟩
instance:FnRes Tryz.f44 [ResultVar.tmp 4]:=⟨rfl⟩
instance:FnRes Tryz.f50 [ResultVar.tmp 4]:=⟨rfl⟩
instance:FnRes Tryz.f52 [ResultVar.tmp 4,ResultVar.tmp 5]:=⟨rfl⟩
instance:FnRes Tryz.f53 []:=⟨rfl⟩
instance:FnRes Tryz.f54 [ResultVar.tmp 4]:=⟨rfl⟩
instance:FnRes Tryz.f55 []:=⟨rfl⟩
instance:FnRes Tryz.f56 [ResultVar.tmp 2]:=⟨rfl⟩
instance:FnRes Tryz.f57 [ResultVar.tmp 2]:=⟨rfl⟩
instance:FnRes Tryz.f58 [ResultVar.tmp 6]:=⟨rfl⟩
instance:FnRes Tryz.f59 [ResultVar.tmp 4]:=⟨rfl⟩
instance:FnRes Tryz.f60 [ResultVar.tmp 2]:=⟨rfl⟩
instance:FnRes Tryz.f61 [ResultVar.tmp 4]:=⟨rfl⟩
instance:FnRes Tryz.f62 [ResultVar.tmp 4,ResultVar.tmp 5,ResultVar.tmp 6]:=⟨rfl⟩
instance:FnRes Tryz.f64 []:=⟨rfl⟩
instance:FnRes Tryz.f69 [ResultVar.tmp 4]:=⟨rfl⟩
instance:FnRes Tryz.f73 [ResultVar.tmp 2]:=⟨rfl⟩
instance:FnRes Tryz.f74 [ResultVar.tmp 2]:=⟨rfl⟩
instance:FnRes Tryz.f75 [ResultVar.tmp 2]:=⟨rfl⟩
instance:FnRes Tryz.f88 [ResultVar.tmp 2]:=⟨rfl⟩
instance:FnRes Tryz.f90 [ResultVar.tmp 6]:=⟨rfl⟩
instance:FnRes Tryz.f94 [ResultVar.tmp 4]:=⟨rfl⟩
instance:FnRes Tryz.f95 []:=⟨rfl⟩
instance:FnRes Tryz.f97 [ResultVar.tmp 0]:=⟨rfl⟩
instance:FnRes Tryz.f98 [ResultVar.tmp 2]:=⟨rfl⟩
instance:FnRes Tryz.f99 []:=⟨rfl⟩
instance:FnRes Tryz.f100 [ResultVar.tmp 2]:=⟨rfl⟩
instance:FnRes Tryz.f101 []:=⟨rfl⟩
instance:FnRes Tryz.f102 [ResultVar.cell 4 47]:=⟨rfl⟩
instance:FnRes Tryz.f103 [ResultVar.tmp 4]:=⟨rfl⟩
instance:FnRes Tryz.f104 [ResultVar.tmp 2]:=⟨rfl⟩
instance:FnRes Tryz.f105 [ResultVar.tmp 2]:=⟨rfl⟩
instance:FnRes Tryz.f106 [ResultVar.cell 2 47]:=⟨rfl⟩
instance:FnRes Tryz.f108 [ResultVar.tmp 2,ResultVar.tmp 3]:=⟨rfl⟩
instance:FnRes Tryz.f109 []:=⟨rfl⟩
instance:FnRes Tryz.f116 [ResultVar.tmp 6]:=⟨rfl⟩
instance:FnRes Tryz.f119 [ResultVar.cell 4 133]:=⟨rfl⟩
instance:FnRes Tryz.f135 [ResultVar.tmp 2]:=⟨rfl⟩
instance:FnRes Tryz.f145 [ResultVar.tmp 2]:=⟨rfl⟩
instance:FnRes Tryz.f146 [ResultVar.tmp 4]:=⟨rfl⟩
instance:FnRes Tryz.f147 [ResultVar.tmp 2]:=⟨rfl⟩
instance:FnRes Tryz.f148 [ResultVar.cell 2 42]:=⟨rfl⟩
instance:FnRes Tryz.f149 [ResultVar.tmp 4,ResultVar.tmp 5]:=⟨rfl⟩
instance:FnRes Tryz.f154 [ResultVar.tmp 4]:=⟨rfl⟩
instance:FnRes Tryz.f160 []:=⟨rfl⟩
instance:FnRes Tryz.f161 []:=⟨rfl⟩
instance:FnRes Tryz.f196 [ResultVar.tmp 4]:=⟨rfl⟩
instance:FnRes Tryz.f197 [ResultVar.cell 2 42,ResultVar.cell 3 3,ResultVar.cell 4 30]:=⟨rfl⟩
instance:FnRes Tryz.f198 [ResultVar.tmp 4,ResultVar.tmp 5]:=⟨rfl⟩
instance:FnRes Tryz.f225 []:=⟨rfl⟩
instance:FnRes Tryz.f226 [ResultVar.cell 4 42]:=⟨rfl⟩
instance:FnRes Tryz.f227 [ResultVar.tmp 2]:=⟨rfl⟩
instance:FnRes Tryz.f228 [ResultVar.tmp 4]:=⟨rfl⟩
instance:FnRes Tryz.f241 []:=⟨rfl⟩
instance:FnRes Tryz.f242 [ResultVar.cell 4 61]:=⟨rfl⟩
instance:FnRes Tryz.f247 [ResultVar.tmp 2]:=⟨rfl⟩
instance:FnRes Tryz.f248 []:=⟨rfl⟩
instance:EntF Tryz.prog 11:=⟨enters_of Tryz.func11 (by kernel_rfl) rfl⟩
instance:EntF Tryz.prog 15:=⟨enters_of Tryz.func15 (by kernel_rfl) rfl⟩
instance:EntF Tryz.prog 16:=⟨enters_of Tryz.func16 (by kernel_rfl) rfl⟩
instance:EntF Tryz.prog 17:=⟨enters_of Tryz.func17 (by kernel_rfl) rfl⟩
instance:EntF Tryz.prog 18:=⟨enters_of Tryz.func18 (by kernel_rfl) rfl⟩
instance:EntF Tryz.prog 19:=⟨enters_of Tryz.func19 (by kernel_rfl) rfl⟩
instance:EntF Tryz.prog 44:=⟨enters_of Tryz.func44 (by kernel_rfl) rfl⟩
instance:EntF Tryz.prog 50:=⟨enters_of Tryz.func50 (by kernel_rfl) rfl⟩
instance:EntF Tryz.prog 52:=⟨enters_of Tryz.func52 (by kernel_rfl) rfl⟩
instance:EntF Tryz.prog 53:=⟨enters_of Tryz.func53 (by kernel_rfl) rfl⟩
instance:EntF Tryz.prog 54:=⟨enters_of Tryz.func54 (by kernel_rfl) rfl⟩
instance:EntF Tryz.prog 55:=⟨enters_of Tryz.func55 (by kernel_rfl) rfl⟩
instance:EntF Tryz.prog 56:=⟨enters_of Tryz.func56 (by kernel_rfl) rfl⟩
instance:EntF Tryz.prog 57:=⟨enters_of Tryz.func57 (by kernel_rfl) rfl⟩
instance:EntF Tryz.prog 58:=⟨enters_of Tryz.func58 (by kernel_rfl) rfl⟩
instance:EntF Tryz.prog 59:=⟨enters_of Tryz.func59 (by kernel_rfl) rfl⟩
instance:EntF Tryz.prog 60:=⟨enters_of Tryz.func60 (by kernel_rfl) rfl⟩
instance:EntF Tryz.prog 61:=⟨enters_of Tryz.func61 (by kernel_rfl) rfl⟩
instance:EntF Tryz.prog 62:=⟨enters_of Tryz.func62 (by kernel_rfl) rfl⟩
instance:EntF Tryz.prog 64:=⟨enters_of Tryz.func64 (by kernel_rfl) rfl⟩
instance:EntF Tryz.prog 69:=⟨enters_of Tryz.func69 (by kernel_rfl) rfl⟩
instance:EntF Tryz.prog 73:=⟨enters_of Tryz.func73 (by kernel_rfl) rfl⟩
instance:EntF Tryz.prog 74:=⟨enters_of Tryz.func74 (by kernel_rfl) rfl⟩
instance:EntF Tryz.prog 75:=⟨enters_of Tryz.func75 (by kernel_rfl) rfl⟩
instance:EntF Tryz.prog 88:=⟨enters_of Tryz.func88 (by kernel_rfl) rfl⟩
instance:EntF Tryz.prog 90:=⟨enters_of Tryz.func90 (by kernel_rfl) rfl⟩
instance:EntF Tryz.prog 94:=⟨enters_of Tryz.func94 (by kernel_rfl) rfl⟩
instance:EntF Tryz.prog 95:=⟨enters_of Tryz.func95 (by kernel_rfl) rfl⟩
instance:EntF Tryz.prog 96:=⟨enters_of Tryz.func96 (by kernel_rfl) rfl⟩
instance:EntF Tryz.prog 97:=⟨enters_of Tryz.func97 (by kernel_rfl) rfl⟩
instance:EntF Tryz.prog 98:=⟨enters_of Tryz.func98 (by kernel_rfl) rfl⟩
instance:EntF Tryz.prog 99:=⟨enters_of Tryz.func99 (by kernel_rfl) rfl⟩
instance:EntF Tryz.prog 100:=⟨enters_of Tryz.func100 (by kernel_rfl) rfl⟩
instance:EntF Tryz.prog 101:=⟨enters_of Tryz.func101 (by kernel_rfl) rfl⟩
instance:EntF Tryz.prog 102:=⟨enters_of Tryz.func102 (by kernel_rfl) rfl⟩
instance:EntF Tryz.prog 103:=⟨enters_of Tryz.func103 (by kernel_rfl) rfl⟩
instance:EntF Tryz.prog 104:=⟨enters_of Tryz.func104 (by kernel_rfl) rfl⟩
instance:EntF Tryz.prog 105:=⟨enters_of Tryz.func105 (by kernel_rfl) rfl⟩
instance:EntF Tryz.prog 106:=⟨enters_of Tryz.func106 (by kernel_rfl) rfl⟩
instance:EntF Tryz.prog 107:=⟨enters_of Tryz.func107 (by kernel_rfl) rfl⟩
instance:EntF Tryz.prog 108:=⟨enters_of Tryz.func108 (by kernel_rfl) rfl⟩
instance:EntF Tryz.prog 109:=⟨enters_of Tryz.func109 (by kernel_rfl) rfl⟩
instance:EntF Tryz.prog 116:=⟨enters_of Tryz.func116 (by kernel_rfl) rfl⟩
instance:EntF Tryz.prog 119:=⟨enters_of Tryz.func119 (by kernel_rfl) rfl⟩
instance:EntF Tryz.prog 135:=⟨enters_of Tryz.func135 (by kernel_rfl) rfl⟩
instance:EntF Tryz.prog 136:=⟨enters_of Tryz.func136 (by kernel_rfl) rfl⟩
instance:EntF Tryz.prog 145:=⟨enters_of Tryz.func145 (by kernel_rfl) rfl⟩
instance:EntF Tryz.prog 146:=⟨enters_of Tryz.func146 (by kernel_rfl) rfl⟩
instance:EntF Tryz.prog 147:=⟨enters_of Tryz.func147 (by kernel_rfl) rfl⟩
instance:EntF Tryz.prog 148:=⟨enters_of Tryz.func148 (by kernel_rfl) rfl⟩
instance:EntF Tryz.prog 149:=⟨enters_of Tryz.func149 (by kernel_rfl) rfl⟩
instance:EntF Tryz.prog 154:=⟨enters_of Tryz.func154 (by kernel_rfl) rfl⟩
instance:EntF Tryz.prog 160:=⟨enters_of Tryz.func160 (by kernel_rfl) rfl⟩
instance:EntF Tryz.prog 161:=⟨enters_of Tryz.func161 (by kernel_rfl) rfl⟩
instance:EntF Tryz.prog 180:=⟨enters_of Tryz.func180 (by kernel_rfl) rfl⟩
instance:EntF Tryz.prog 196:=⟨enters_of Tryz.func196 (by kernel_rfl) rfl⟩
instance:EntF Tryz.prog 197:=⟨enters_of Tryz.func197 (by kernel_rfl) rfl⟩
instance:EntF Tryz.prog 198:=⟨enters_of Tryz.func198 (by kernel_rfl) rfl⟩
instance:EntF Tryz.prog 201:=⟨enters_of Tryz.func201 (by kernel_rfl) rfl⟩
instance:EntF Tryz.prog 202:=⟨enters_of Tryz.func202 (by kernel_rfl) rfl⟩
instance:EntF Tryz.prog 210:=⟨enters_of Tryz.func210 (by kernel_rfl) rfl⟩
instance:EntF Tryz.prog 224:=⟨enters_of Tryz.func224 (by kernel_rfl) rfl⟩
instance:EntF Tryz.prog 225:=⟨enters_of Tryz.func225 (by kernel_rfl) rfl⟩
instance:EntF Tryz.prog 226:=⟨enters_of Tryz.func226 (by kernel_rfl) rfl⟩
instance:EntF Tryz.prog 227:=⟨enters_of Tryz.func227 (by kernel_rfl) rfl⟩
instance:EntF Tryz.prog 228:=⟨enters_of Tryz.func228 (by kernel_rfl) rfl⟩
instance:EntF Tryz.prog 231:=⟨enters_of Tryz.func231 (by kernel_rfl) rfl⟩
instance:EntF Tryz.prog 232:=⟨enters_of Tryz.func232 (by kernel_rfl) rfl⟩
instance:EntF Tryz.prog 241:=⟨enters_of Tryz.func241 (by kernel_rfl) rfl⟩
instance:EntF Tryz.prog 242:=⟨enters_of Tryz.func242 (by kernel_rfl) rfl⟩
instance:EntF Tryz.prog 247:=⟨enters_of Tryz.func247 (by kernel_rfl) rfl⟩
instance:EntF Tryz.prog 248:=⟨enters_of Tryz.func248 (by kernel_rfl) rfl⟩
end
set_option synthInstance.maxSize 100000
set_option synthInstance.maxHeartbeats 400000
theorem drop_rep (n m:Nat)(z:Value):((List.replicate (n+m) [z]).flatten).drop (n*1)=List.replicate m z:=by
 have h:∀ k,(List.replicate k [z]).flatten=List.replicate k z:=fun k=>by
  induction k with
  | zero=>rfl
  | succ k ih=>rw[qqC,List.flatten_cons,ih];rfl
 rw[h,List.drop_replicate]
 congr 1;omega
theorem enc_set1 (l1 l2:List UInt8)(y y':UInt8):(encL (l1++y::l2)).take l1.length++[.int .u8 (y'.toNat:Int)]++(encL (l1++y::l2)).drop (l1.length+1)=encL (l1++y'::l2):=by
 have h1:(encL l1).length=l1.length:=by rw[encL_len];exact Nat.mul_one _
 have e:encL (l1++y::l2)=encL l1++(.int .u8 (y.toNat:Int)::encL l2):=by rw[encL_append,encL_cons];rfl
 rw[e,←h1,List.take_left,List.drop_append,List.drop_of_length_le (by omega),encL_append,encL_cons];simp[Enc.cells]
theorem lay16_c (p:Option Addr)(n c:Nat)(b:List UInt8)(v:Int)(w0:World)(hn:b.length=n)(hb:n≤1073741824)(hv:0≤v)(hv':v≤65535)(hs:Fx w0 (SlF p (encL b))) :
  Ret Tryz.prog 116 [.slice p n c,.int .u16 v,.int .i64 2] w0 (fun _=>False) fun r w'=>∃ g,r=.slice (some ⟨g,0,none⟩) (n+2) (n+2)∧w0.heap.size≤g∧w'.ownsRow 0 5 1 (.slice (some ⟨g,0,none⟩) (n+2) (n+2)) (n+2) (encL (b++be 2 v)):=by
 have hln:LenN b n:=⟨hn⟩;refine E1 Tryz.func116 rfl Tryz.ntmps116 (Wd.begin (fs:=[SlF p (encL b)]) (by simpa using hs)) ?_;intro a S;refine J11 ?_;intro a S;rw[w6 ((n:Int)+2)]at S;refine smk (n+2) S (by omega) (by omega) (by omega) (by simp only[maxLen];omega) ?_;intro g a w S;refine J7 ?_;intro a S;refine scp S (by omega) ?_;intro a w S;rw[drop_rep]at S;refine J10 ?_;intro a S;refine c_loop (ι:=Nat) (fun k a w=>k≤2∧∃ uu:Nat→Value,St w0 (fun _=>False) [] a w ((.slice p n c)::(.int .u16 v)::(.int .i64 2)::uu 3::uu 4::uu 5::uu 6::(.slice (some ⟨g,0,none⟩) (n+2) (n+2))::uu 8::uu 9::uu 10::uu 11::uu 12::uu 13::uu 14::uu 15::uu 16::(.int .i64 2)::(.int .i64 (k:Nat))::uu 19::uu 20::uu 21::uu 22::uu 23::uu 24::uu 25::uu 26::uu 27::uu 28::uu 29::uu 30::uu 31::uu 32::uu 33::uu 34::uu 35::uu 36::uu 37::[]) [row 5 1 (some ⟨g,0,none⟩) (n+2) (n+2) (encL (b++((be 2 v).take k++List.replicate (2 - k) 0)))] [SlF p (encL b)]) (fun k=>2 - k) 0 ?_ ?_;rw[show encL b++List.replicate 2 (Value.int .u8 0)=encL (b++((be 2 v).take 0++List.replicate (2 - 0) 0)) from by rw[encL_append];rfl]at S;exact ⟨Nat.zero_le _,S.uu,S⟩;clear S;rintro k a w ⟨hk,uu,S⟩;refine J6 ?_;intro a S;refine kC S (fun h4=>?_) (fun h4=>?_);refine J15 ?_;intro a S;have hk2:k < 2:=by simp at h4;omega
 refine J1 ?_;intro a S;rw[w6 ((n:Int)+(k:Int)),show (n:Int)+(k:Int)=((n+k:Nat):Int) from by omega]at S;refine J2 ?_;intro a S;rw[wu64 v (by omega) (by omega)]at S;refine J2 ?_;intro a S;rw[show IntKind.i64.wrap (2 - 1)=1 from rfl]at S;refine J2 ?_;intro a S;rw[w6 (1 - (k:Int))]at S;refine J1 ?_;intro a S;rw[w64 (8*(1 - (k:Int))) (by omega) (by omega),show 8*(1 - (k:Int))=((8*(2 - 1 - k):Nat):Int) from by omega]at S;refine J1 ?_;intro a S;rw[show min (8*(2 - 1 - k)) IntKind.u64.bits=8*(2 - 1 - k) from Nat.min_eq_left (by simp only[IntKind.bits];omega)]at S;refine J1 ?_;intro a S;rw[u8_wrap]at S;have hK:KLt (n+k) (n+2):=⟨by omega⟩;refine J1 ?_;intro a S;refine sws S (n+2) (by omega) (by omega) ?_;intro a w S;refine J8 ?_;intro a S;rw[w6 ((k:Int)+1)]at S;have e:encL (b++((be 2 v).take (k+1)++List.replicate (2 - (k+1)) 0))=(encL (b++((be 2 v).take k++List.replicate (2 - k) 0))).take (n+k)++[.int .u8 ((Wk.u8 (v.fdiv (2 ^ (8*(2 - 1 - k))))).toNat:Int)]++(encL (b++((be 2 v).take k++List.replicate (2 - k) 0))).drop (n+k+1):=by
  have hk2:k=0∨k=1:=by omega
  rcases hk2 with rfl | rfl
  have:=enc_set1 b [0] 0 (Wk.u8 (v.fdiv (2 ^ (8*(2 - 1 - 0)))));rw[hn]at this;exact this.symm;have:=enc_set1 (b++[Wk.u8 (v.fdiv (2 ^ 8))]) [] 0 (Wk.u8 (v.fdiv (2 ^ (8*(2 - 1 - 1)))));rw[List.length_append,hn]at this;simp only[List.append_assoc]at this⊢;exact this.symm
 rw[List.length_singleton,←e]at S;exact ⟨k+1,⟨by omega,S.uu,S⟩,by omega⟩;refine J12 ?_;intro a S;have hk2:k=2:=by simp at h4;omega
 subst hk2;have hrow:=S.row (some ⟨g,0,none⟩) (n+2);have hnew:=S.rowNew (some ⟨g,0,none⟩) (n+2);refine end1 S (fun _=>⟨g,rfl,?_,?_⟩);exact (hnew _ rfl).elim (fun h=>h.elim) id;rw[List.take_of_length_le (by simp[be]),show List.replicate (2 - 2) (0:UInt8)=[] from rfl,List.append_nil]at hrow;exact hrow
theorem put16_c (p:Option Addr)(n c:Nat)(b:List UInt8)(v:Int)(w0:World)(hn:b.length=n)(hb:n≤1073741824)(hv:0≤v)(hv':v≤65535)(hs:Fx w0 (SlF p (encL b))) :
  Ret Tryz.prog 69 [.slice p n c,.int .u16 v] w0 (fun _=>False) fun r w'=>∃ g,r=.slice (some ⟨g,0,none⟩) (n+2) (n+2)∧w0.heap.size≤g∧w'.ownsRow 0 5 1 (.slice (some ⟨g,0,none⟩) (n+2) (n+2)) (n+2) (encL (b++be 2 v)):=by
 refine E1 Tryz.func69 rfl Tryz.ntmps69 (Wd.begin (fs:=[SlF p (encL b)]) (by simpa using hs)) ?_;intro a S;refine J9 ?_;intro a S;refine srn S (lay16_c p n c b v _ hn hb hv hv' ((S.fact (Φ:=SlF p (encL b)) (by simp)).less fun _ _ h=>h.elim)) ?_;rintro _ a w1 ⟨g,rfl,hg,hown⟩ - S;refine J4 ?_;intro a S;exact end1 S (fun _=>⟨g,rfl,hg,hown⟩)
def fieldsOf (k:Int):Int:=
 if k=1 then 1 else if k=2 then 6 else if k=3 then 2 else if k=4∨k=6 then 16 else if k=5 then 8 else if k=7 then 10 else if k=8 then 14 else 0
theorem fields_c (k:Int)(w:World):Ret Tryz.prog 201 [.int .i64 k] w (fun _=>False) fun v _=>v=.int .i64 (fieldsOf k):=by
 refine E1 Tryz.func201 rfl Tryz.ntmps201 (Wd.start w) ?_;intro a S;refine J18 ?_;clear S;intro a S;refine kC S (fun h2=>?_) (fun h2=>?_);refine J8 ?_;clear S;intro a S;refine fin1 S (fun _=>?_);simp at *;first | (exfalso;omega) | simp[*,fieldsOf]
 refine J6 ?_;clear S;intro a S;refine kC S (fun h4=>?_) (fun h4=>?_);refine J8 ?_;clear S;intro a S;refine fin1 S (fun _=>?_);simp at *;first | (exfalso;omega) | simp[*,fieldsOf]
 refine J6 ?_;clear S;intro a S;refine kC S (fun h6=>?_) (fun h6=>?_);refine J8 ?_;clear S;intro a S;refine fin1 S (fun _=>?_);simp at *;first | (exfalso;omega) | simp[*,fieldsOf]
 refine J7 ?_;clear S;intro a S;refine kC S (fun h8=>?_) (fun h8=>?_);refine kK (xtn ?_);refine kC S (fun h8=>?_) (fun h8=>?_);refine J8 ?_;clear S;intro a S;refine fin1 S (fun _=>?_);simp at *;first | (exfalso;omega) | simp[*,fieldsOf]
 refine J6 ?_;clear S;intro a S;refine kC S (fun h11=>?_) (fun h11=>?_);refine J8 ?_;clear S;intro a S;refine fin1 S (fun _=>?_);simp at *;first | (exfalso;omega) | simp[*,fieldsOf]
 refine J6 ?_;clear S;intro a S;refine kC S (fun h13=>?_) (fun h13=>?_);refine J8 ?_;clear S;intro a S;refine fin1 S (fun _=>?_);simp at *;first | (exfalso;omega) | simp[*,fieldsOf]
 refine J6 ?_;clear S;intro a S;refine kC S (fun h15=>?_) (fun h15=>?_);refine J8 ?_;clear S;intro a S;refine fin1 S (fun _=>?_);simp at *;first | (exfalso;omega) | simp[*,fieldsOf]
 refine J9 ?_;clear S;intro a S;refine fin1 S (fun _=>?_);simp at *;first | (exfalso;omega) | simp[*,fieldsOf]
 refine J5 ?_;clear S;intro a S;refine kC S (fun h9=>?_) (fun h9=>?_);refine J8 ?_;clear S;intro a S;refine fin1 S (fun _=>?_);simp at *;first | (exfalso;omega) | simp[*,fieldsOf]
 refine J6 ?_;clear S;intro a S;refine kC S (fun h11=>?_) (fun h11=>?_);refine J8 ?_;clear S;intro a S;refine fin1 S (fun _=>?_);simp at *;first | (exfalso;omega) | simp[*,fieldsOf]
 refine J6 ?_;clear S;intro a S;refine kC S (fun h13=>?_) (fun h13=>?_);refine J8 ?_;clear S;intro a S;refine fin1 S (fun _=>?_);simp at *;first | (exfalso;omega) | simp[*,fieldsOf]
 refine J6 ?_;clear S;intro a S;refine kC S (fun h15=>?_) (fun h15=>?_);refine J8 ?_;clear S;intro a S;refine fin1 S (fun _=>?_);simp at *;first | (exfalso;omega) | simp[*,fieldsOf]
 refine J9 ?_;clear S;intro a S;refine fin1 S (fun _=>?_);simp at *;first | (exfalso;omega) | simp[*,fieldsOf]
instance {k:Int}{bs fs} : CallV Tryz.prog 201 [.int .i64 k] bs fs (.int .i64 (fieldsOf k)):=⟨fun w _=>fields_c k w⟩
def hasF (f g:Int):Bool:=!decide (iand .i64 f g=0)
theorem has_c (f g:Int)(w:World):Ret Tryz.prog 202 [.int .i64 f,.int .i64 g] w (fun _=>False) fun v _=>v=.bool (hasF f g):=by
 refine E1 Tryz.func202 rfl Tryz.ntmps202 (Wd.start w) ?_;intro a S;refine J15 ?_;intro a S;refine fin1 S (fun _=>?_);rfl
instance {f g:Int}{bs fs} : CallV Tryz.prog 202 [.int .i64 f,.int .i64 g] bs fs (.bool (hasF f g)):=⟨fun w _=>has_c f g w⟩
def kidsF (f:Int):Int:=if hasF f 16 then 2 else if hasF f 8 then 1 else 0
theorem kids_c (f:Int)(w:World):Ret Tryz.prog 231 [.int .i64 f] w (fun _=>False) fun v _=>v=.int .i64 (kidsF f):=by
 refine E1 Tryz.func231 rfl Tryz.ntmps231 (Wd.start w) ?_;intro a S;refine Y14 ?_;intro a w S;refine kC S (fun h1=>?_) (fun h1=>?_);refine J8 ?_;intro a S;refine fin1 S (fun _=>?_);simp[*,kidsF];refine Y7 ?_;intro a w S;refine kC S (fun h3=>?_) (fun h3=>?_);refine J8 ?_;intro a S;refine fin1 S (fun _=>?_);simp[*,kidsF];refine J9 ?_;intro a S;refine fin1 S (fun _=>?_);simp[*,kidsF]
instance {f:Int}{bs fs} : CallV Tryz.prog 231 [.int .i64 f] bs fs (.int .i64 (kidsF f)):=⟨fun w _=>kids_c f w⟩
def knownF (n:Int):Bool:=decide (1≤n)&&decide (n≤6)
theorem known_c (n:Int)(w:World):Ret Tryz.prog 232 [.int .i64 n] w (fun _=>False) fun v _=>v=.bool (knownF n):=by
 refine E1 Tryz.func232 rfl Tryz.ntmps232 (Wd.start w) ?_;intro a S;refine J17 ?_;intro a S;refine fin1 S (fun _=>?_);rfl
instance {n:Int}{bs fs} : CallV Tryz.prog 232 [.int .i64 n] bs fs (.bool (knownF n)):=⟨fun w _=>known_c n w⟩
def plainF (k u n:Int)(s:List UInt8)(m:Nat):Bool:=
 let f:=fieldsOf k
 !decide (f=0)&&decide ((m:Int)=kidsF f)&&decide ((s.length:Int)≤64)&&(hasF f 1||decide (s=[]))&&(hasF f 2&&knownF u||!hasF f 2&&decide (u=0))&&(hasF f 4&&decide (0≤n)&&decide (n≤65535)||!hasF f 4&&decide (n=0))
theorem plain_c (k u n:Int)(s:List UInt8)(p:Option Addr)(m c:Nat)(w:World):Ret Tryz.prog 210 [.agg #[.int .i64 k,.int .i64 u,.int .i64 n,str s,.slice p m c]] w (fun _=>False) fun v _=>v=.bool (plainF k u n s m):=by
 refine E1 Tryz.func210 rfl Tryz.ntmps210 (Wd.start w) ?_;intro a S;refine kS (kR ?_);refine sa S ?_;intro b1 a w S;refine Y12 ?_;intro a w S;refine c_drawD [T9 0,T9 1,T9 2,T9 3,T9 4,T9 5,T9 6,F9 7,T9 8,T9 9,T9 10,T9 11,T9 12,T9 13,T9 14,T9 15,T9 16,T9 17,F9 18,T9 19,T9 20,T9 21,T9 22,T9 23,T9 24,T9 25] [] S ?_;intro w S;(iterate 3 (refine dq S ?_;intro a S));(iterate 4 (refine dqG S ?_;intro a S));refine dl ?_;refine gC S ?_;intro a w S;refine de S ?_;refine dqG S ?_;intro a S;(iterate 2 (refine dq S ?_;intro a S));(iterate 4 (refine dqG S ?_;intro a S));(iterate 2 (refine dq S ?_;intro a S));refine dqG S ?_;intro a S;refine dl ?_;refine gC S ?_;intro a w S;refine de S ?_;(iterate 5 (refine dqG S ?_;intro a S));(iterate 2 (refine dq S ?_;intro a S));refine dn (xtn (kS (kR ?_)));(iterate 2 (refine sq S ?_;intro a S));refine gQ S ?_;intro a S;refine gC S ?_;intro a w S;(iterate 3 (refine gQ S ?_;intro a S));refine gC S ?_;intro a w S;refine Y20 ?_;intro a w S;refine Y20 ?_;intro a w S;refine J6 ?_;intro a S;refine fin1 S (fun _=>?_)
 first | rfl | simp[plainF]
instance {k u n:Int}{s:List UInt8}{p:Option Addr}{m c:Nat}{bs fs} : CallV Tryz.prog 210 [.agg #[.int .i64 k,.int .i64 u,.int .i64 n,str s,.slice p m c]] bs fs (.bool (plainF k u n s m)):=⟨fun w _=>plain_c k u n s p m c w⟩
mutual
def walkF:Term→Int→Int→Bool × Int
 | .mk k u n s kids,deep,left=>if left - 1 < 0∨60 < deep∨plainF k u n s kids.length=false then (false,left - 1) else walkLF kids (deep+1) (left - 1)
def walkLF:List Term→Int→Int→Bool × Int
 | [],_,left=>(true,left)
 | t::ts,deep,left=>if (walkF t deep left).1 then walkLF ts deep (walkF t deep left).2 else (false,(walkF t deep left).2)
end
mutual
theorem walkF_le:∀ (t:Term) (deep left:Int),(walkF t deep left).2≤left
 | .mk k u n s kids,deep,left=>by
  rw[walkF];split;simp;omega;have:=walkLF_le kids (deep+1) (left - 1);omega
theorem walkLF_le:∀ (ts:List Term) (deep left:Int),(walkLF ts deep left).2≤left
 | [],deep,left=>by simp[walkLF]
 | t::ts,deep,left=>by
  have h1:=walkF_le t deep left;have h2:=walkLF_le ts deep (walkF t deep left).2;rw[walkLF];split;omega;exact h1
end
mutual
theorem walkF_ge:∀ (t:Term) (deep left:Int),0≤left→(walkF t deep left).1=true→0≤(walkF t deep left).2
 | .mk k u n s kids,deep,left=>by
  intro h0 h;rw[walkF]at h⊢;split at h;simp at h
  rename_i hc
  rw[if_neg hc];exact walkLF_ge kids (deep+1) (left - 1) (by omega) h
theorem walkLF_ge:∀ (ts:List Term) (deep left:Int),0≤left→(walkLF ts deep left).1=true→0≤(walkLF ts deep left).2
 | [],deep,left=>by intro h0 _;simpa [walkLF] using h0
 | t::ts,deep,left=>by
  intro h0 h;rw[walkLF]at h⊢;split at h
  rename_i hc
  rw[if_pos hc];exact walkLF_ge ts deep _ (walkF_ge t deep left h0 hc) h;simp at h
end
theorem walk_c (N:Nat):∀ (t:LTerm) (deep left:Int) (b:Nat) (w0:World),SizeOf.sizeOf t≤N→0≤deep→deep≤61→0≤left→left≤1200→Stable (fun k=>k=b) w0 (LtF t)→w0.heap[b]? = some (.cells #[.int .i64 left] 3 (0,0))→
  Ret Tryz.prog 180 [vL t,.int .i64 deep,.pointer (some ⟨b,0,none⟩)] w0 (fun k=>k=b) fun v w'=>v=.bool (walkF t.t deep left).1∧w'.heap[b]? = some (.cells #[.int .i64 (walkF t.t deep left).2] 3 (0,0)):=by
 induction N with
 | zero=>intro t _ _ _ _ h;cases t;simp at h
 | succ N ih=>
 intro t deep left b w0 hN hd hd' hl hl' hf hb;have e0:=t.t_eq;refine E1 Tryz.func180 rfl Tryz.ntmps180 (Wd.lent (fs:=[LtF t]) hb (by simpa using hf)) ?_;intro a S;refine kS (kR ?_);refine sa S ?_;intro b3 a w S;refine J10 ?_;intro a S;rw[w6 (left - 1)]at S;refine Y21 ?_;intro a w S;refine kC S (fun h2=>?_) (fun h2=>?_)
 ·refine J7 ?_;intro a S
  have hbx:=S.box b;refine fin1 S (fun _=>?_);have h3:left - 1 < 0∨60 < deep∨plainF t.kind t.user t.num t.text t.kids.length=false:=by simpa [or_assoc] using h2
  rw[e0,walkF,if_pos (by simpa using h3)];exact ⟨rfl,hbx⟩
 ·refine J12 ?_;intro a S
  have h3:¬(left - 1 < 0∨60 < deep∨plainF t.kind t.user t.num t.text t.kids.length=false):=by simpa [and_assoc] using h2
  have hlen:=LTerm.len_le hf;refine c_loop (ι:=Nat) (fun k a w=>k≤t.kids.length∧∃ lf,0≤lf∧lf≤1200∧walkLF ((t.kids.drop k).map LTerm.t) (deep+1) lf=walkF t.t deep left∧∃ uu:Nat→Value,St w0 (fun k=>k=b) [] a w ((vL t)::(.int .i64 deep)::(.pointer (some ⟨b,0,none⟩))::(.pointer (some ⟨b3,0,none⟩))::uu 4::uu 5::(.bool false)::uu 7::uu 8::uu 9::uu 10::uu 11::uu 12::uu 13::uu 14::uu 15::uu 16::uu 17::uu 18::uu 19::uu 20::uu 21::uu 22::uu 23::uu 24::uu 25::uu 26::uu 27::(.slice t.p t.kids.length t.cap)::(.int .i64 t.kids.length)::(.int .i64 (k:Nat))::uu 31::uu 32::uu 33::uu 34::uu 35::uu 36::uu 37::uu 38::uu 39::uu 40::[]) [box b3 42 t.cells,box b 3 [.int .i64 lf]] [LtF t]) (fun k=>t.kids.length - k) 0 ?_ ?_
  ·refine ⟨Nat.zero_le _,left - 1,by omega,by omega,?_,S.uu,S⟩
   rw[e0,walkF,if_neg (by simpa using h3)];rfl
  ·clear S
   rintro k a w ⟨hk,lf,hlf,hlf',hrel,uu,S⟩;refine J6 ?_;intro a S;refine kC S (fun h5=>?_) (fun h5=>?_)
   ·refine kK (xtn (kS (kB (kS (kR ?_)))))
    have hkl:k < t.kids.length:=by simpa using h5
    obtain ⟨x,ad,hx,hm,hp,hcell,hfx⟩:=LTerm.kid (S.fact (Φ:=LtF t) (by simp)) hkl;replace S:=S.add hfx;refine si S ad hp (by omega) (by omega) ?_;intro a S;refine slA x.cells S hcell ?_;intro a S;refine sa S ?_;intro b8 a w S;refine Y8 ?_;intro a w S;rw[w6 (deep+1)]at S;refine J1 ?_;intro a S;have hdr:t.kids.drop k=x::t.kids.drop (k+1):=by
     rw[List.drop_eq_getElem_cons hkl];congr 1;exact (List.getElem?_eq_some_iff.1 hx).2
    rw[hdr,List.map_cons,walkLF]at hrel;have hb1:=walkF_le x.t (deep+1) lf;refine sb S (b:=b) (ih x (deep+1) lf b w (by have:=LTerm.kid_lt hm;omega) (by omega) (by have:¬60 < deep:=fun h=>h3 (.inr (.inl h));omega) hlf hlf' (S.fb b (by simp)) (S.box b)) ?_;clear S;rintro v a w ⟨rfl,hcb⟩ hS;have S:=hS [.int .i64 _] _ inferInstance hcb;clear hS;refine J3 ?_;intro a S;refine kC S (fun h7=>?_) (fun h7=>?_)
    ·refine J11 ?_;intro a S
     have hbx:=S.box b;refine fin1 S (fun _=>?_);have h8:(walkF x.t (deep+1) lf).1=false:=by simpa using h7
     rw[if_neg (by simp[h8])]at hrel;rw[←hrel];exact ⟨rfl,hbx⟩
    ·refine J8 ?_;intro a S
     have h8:(walkF x.t (deep+1) lf).1=true:=by simpa using h7
     rw[if_pos h8]at hrel;replace S:=S.sub [box b3 42 t.cells,box b 3 [.int .i64 (walkF x.t (deep+1) lf).2]] [LtF t];rw[w6 ((k:Int)+1)]at S;exact ⟨k+1,⟨hkl,_,walkF_ge x.t (deep+1) lf hlf h8,by omega,hrel,S.uu,S⟩,by omega⟩
   ·refine J11 ?_;intro a S
    have hbx:=S.box b;refine fin1 S (fun _=>?_);have h6:t.kids.length≤k:=by simpa using h5
    rw[List.drop_of_length_le h6,List.map_nil,walkLF]at hrel;rw[←hrel];exact ⟨rfl,hbx⟩
def sizeF (t:Term):Int:=if (walkF t 1 1200).1 then 1200 - (walkF t 1 1200).2 else 0
theorem size_c (t:LTerm)(w0:World)(hf:Fx w0 (LtF t)):Ret Tryz.prog 135 [vL t] w0 (fun _=>False) fun v _=>v=.int .i64 (sizeF t.t):=by
 have h1:=walkF_le t.t 1 1200;refine E1 Tryz.func135 rfl Tryz.ntmps135 (Wd.begin (fs:=[LtF t]) (by simpa using hf)) ?_;intro a S;refine kS (kR ?_);refine sa S ?_;intro b1 a w S;refine J5 ?_;intro a S;refine sa S ?_;intro b3 a w S;refine Y7 ?_;intro a w S;refine sb S (b:=b3) (walk_c _ t 1 1200 b3 w (Nat.le_refl _) (by omega) (by omega) (by omega) (by omega) (S.fb b3 (by simp)) (S.box b3)) ?_;clear S;rintro v a w ⟨rfl,hcb⟩ hS;have S:=hS [.int .i64 _] _ inferInstance hcb;clear hS;refine J3 ?_;intro a S;refine kC S (fun h2=>?_) (fun h2=>?_);refine J7 ?_;intro a S;refine end1 S (fun _=>?_);have h3:(walkF t.t 1 1200).1=false:=by simpa using h2
 simp[sizeF,h3];refine J5 ?_;intro a S;have h3:(walkF t.t 1 1200).1=true:=by simpa using h2
 have h4:=walkF_ge t.t 1 1200 (by omega) h3;refine J1 ?_;intro a S;rw[w6 (1200 - (walkF t.t 1 1200).2)]at S;refine J4 ?_;intro a S;refine end1 S (fun _=>?_);simp[sizeF,h3]
instance {t:LTerm}{bs fs}[HasT fs t]:CallV Tryz.prog 135 [vL t] bs fs (.int .i64 (sizeF t.t)):=⟨fun w m=>size_c t w (m.t0 _)⟩
def checkF (t:Term):Int:=if sizeF t=0 then 150 else 0
theorem check_c (t:LTerm)(w0:World)(hf:Fx w0 (LtF t)):Ret Tryz.prog 88 [vL t] w0 (fun _=>False) fun v _=>v=.int .i64 (checkF t.t):=by
 refine E1 Tryz.func88 rfl Tryz.ntmps88 (Wd.begin (fs:=[LtF t]) (by simpa using hf)) ?_;intro a S;refine kS (kR ?_);refine sa S ?_;intro b1 a w S;refine Y11 ?_;intro a w S;refine kC S (fun h1=>?_) (fun h1=>?_);refine J7 ?_;intro a S;refine end1 S (fun _=>?_);simp at h1;simp[checkF,h1];refine J8 ?_;intro a S;refine end1 S (fun _=>?_);simp at h1;simp[checkF,h1]
instance {t:LTerm}{bs fs}[HasT fs t]:CallV Tryz.prog 88 [vL t] bs fs (.int .i64 (checkF t.t)):=⟨fun w m=>check_c t w (m.t0 _)⟩
mutual
def sameF:Term→Term→Bool
 | .mk k u n s ks,.mk k' u' n' s' ks'=>decide (k=k')&&decide (u=u')&&decide (n=n')&&decide (s=s')&&sameLF ks ks'
def sameLF:List Term→List Term→Bool
 | [],[]=>true
 | a::l,b::m=>sameF a b&&sameLF l m
 | [],_::_=>false
 | _::_,[]=>false
end
mutual
theorem sameF_iff:∀ a b:Term,sameF a b=true↔a=b
 | .mk k u n s ks,.mk k' u' n' s' ks'=>by
  have:=sameLF_iff ks ks';simp[sameF,this,and_assoc]
theorem sameLF_iff:∀ a b:List Term,sameLF a b=true↔a=b
 | [],[]=>by simp[sameLF]
 | a::l,b::m=>by
  have h1:=sameF_iff a b;have h2:=sameLF_iff l m;simp[sameLF,h1,h2]
 | [],_::_=>by simp[sameLF]
 | _::_,[]=>by simp[sameLF]
end
theorem sameLF_len {a b:List Term}(h:a.length≠b.length):sameLF a b=false:=by
 cases hs:sameLF a b with
 | false=>rfl
 | true=>exact absurd (by rw[(sameLF_iff a b).1 hs]) h
def SameC (N:Nat):Prop:=∀ (x y:LTerm) (w:World),SizeOf.sizeOf x≤N→Fx w (LtF x)→Fx w (LtF y)→Ret Tryz.prog 44 [vL x,vL y] w (fun _=>False) fun v _=>v=.bool (sameF x.t y.t)
theorem equal_c (N:Nat)(hS:SameC N)(p q:Option Addr)(c e n m:Nat)(xs ys:List LTerm)(hn:xs.length=n)(hm:ys.length=m)(w0:World)(hl:n≤9223372036854775807)(hN:∀ x∈xs,SizeOf.sizeOf x≤N)(hx:Fx w0 (LsF p 0 xs))(hy:Fx w0 (LsF q 0 ys)) :
  Ret Tryz.prog 90 [.slice p n c,.slice q m e,.func (.func 44) #[] #[]] w0 (fun _=>False) fun v _=>v=.bool (sameLF (xs.map LTerm.t) (ys.map LTerm.t)):=by
 refine E1 Tryz.func90 rfl Tryz.ntmps90 (Wd.begin (fs:=[LsF p 0 xs,LsF q 0 ys]) (by simp;exact ⟨hx,hy⟩)) ?_;intro a S;refine J15 ?_;intro a S;refine kC S (fun h1=>?_) (fun h1=>?_);refine J7 ?_;intro a S;refine end1 S (fun _=>?_);rw[sameLF_len];simp[hn,hm];simp at h1;omega;refine J11 ?_;intro a S;obtain rfl:n=m:=by simp at h1;omega
 refine c_loop (ι:=Nat) (fun k a w=>k≤n∧sameLF ((xs.drop k).map LTerm.t) ((ys.drop k).map LTerm.t)=sameLF (xs.map LTerm.t) (ys.map LTerm.t)∧∃ uu:Nat→Value,St w0 (fun _=>False) [] a w ((.slice p n c)::(.slice q n e)::(.func (.func 44) #[] #[])::uu 3::uu 4::uu 5::(.bool false)::uu 7::uu 8::uu 9::uu 10::uu 11::uu 12::uu 13::uu 14::(.slice p n c)::(.int .i64 n)::(.int .i64 (k:Nat))::uu 18::uu 19::uu 20::uu 21::uu 22::uu 23::uu 24::uu 25::uu 26::uu 27::uu 28::uu 29::uu 30::uu 31::[]) [] [LsF p 0 xs,LsF q 0 ys]) (fun k=>n - k) 0 ?_ ?_;exact ⟨Nat.zero_le _,rfl,S.uu,S⟩;clear S;rintro k a w ⟨hk,hrel,uu,S⟩;refine J6 ?_;intro a S;refine kC S (fun h4=>?_) (fun h4=>?_);refine J7 ?_;intro a S;have hkl:k < n:=by simpa using h4
 obtain ⟨x,ad,hx1,hxm,hxd,hp,hcell,hfx⟩:=ls_kid (S.fact (Φ:=LsF p 0 xs) (by simp)) (k:=k) (by omega);replace S:=S.add hfx;refine si S ad hp (by omega) (by omega) ?_;intro a S;refine slA x.cells S hcell ?_;intro a S;refine sa S ?_;intro b8 a w S;refine Y8 ?_;intro a w S;obtain ⟨y,ad',hy1,hym,hyd,hq,hcell',hfy⟩:=ls_kid (S.fact (Φ:=LsF q 0 ys) (by simp)) (k:=k) (by omega);replace S:=S.add hfy;refine si S ad' hq (by omega) (by omega) ?_;intro a S;refine slA y.cells S hcell' ?_;intro a S;refine sa S ?_;intro b9 a w S;refine Y8 ?_;intro a w S;rw[hxd,hyd,List.map_cons,List.map_cons,sameLF]at hrel;refine sr S (hS x y w (hN x hxm) (S.mem.fact0 (LtF x)) (S.mem.fact0 (LtF y))) ?_;rintro v a w rfl S;refine J3 ?_;intro a S;refine kC S (fun h7=>?_) (fun h7=>?_);refine J11 ?_;intro a S;refine end1 S (fun _=>?_);have h8:sameF x.t y.t=false:=by simpa using h7
 simp[←hrel,h8];refine J8 ?_;intro a S;have h8:sameF x.t y.t=true:=by simpa using h7
 rw[h8,Bool.true_and]at hrel;replace S:=S.sub [] [LsF p 0 xs,LsF q 0 ys];rw[w6 ((k:Int)+1)]at S;exact ⟨k+1,⟨hkl,hrel,S.uu,S⟩,by omega⟩;refine J11 ?_;intro a S;refine end1 S (fun _=>?_);have h6:n≤k:=by simpa using h4
 rw[List.drop_of_length_le (by omega),List.drop_of_length_le (by omega)]at hrel;simp[←hrel,sameLF]
theorem same_all:∀ N,SameC N:=by
 intro N
 induction N with
 | zero=>intro x y w h;cases x;simp at h
 | succ N ih=>
 intro x y w0 hN hx hy;have e1:=x.t_eq;have e2:=y.t_eq;have hq:∀ {bs fs} [HasT fs x] [HasT fs y],CallV Tryz.prog 90 [.slice x.p x.kids.length x.cap,.slice y.p y.kids.length y.cap,.func (.func 44) #[] #[]] bs fs (.bool (sameLF (x.kids.map LTerm.t) (y.kids.map LTerm.t))):=
  ⟨fun w m=>equal_c N ih x.p y.p x.cap y.cap _ _ x.kids y.kids rfl rfl w (LTerm.len_le hx) (fun z hz=>by have:=LTerm.kid_lt hz;omega) (ls_of_lt (m.t0 _)) (ls_of_lt (m.t0 _))⟩
 refine E1 Tryz.func44 rfl Tryz.ntmps44 (Wd.begin (fs:=[LtF x,LtF y]) (by simp;exact ⟨hx,hy⟩)) ?_;intro a S;refine kS (kR ?_);refine sa S ?_;intro b2 a w S;refine sa S ?_;intro b3 a w S;refine J20 ?_;intro a S;refine Y22 ?_;intro a w S;refine end1 S (fun _=>?_);rw[e1,e2,sameF]
theorem same_c (x y:LTerm)(w:World)(hx:Fx w (LtF x))(hy:Fx w (LtF y)):Ret Tryz.prog 44 [vL x,vL y] w (fun _=>False) fun v _=>v=.bool (sameF x.t y.t):=same_all _ x y w (Nat.le_refl _) hx hy
instance {x y:LTerm}{bs fs}[HasT fs x][HasT fs y]:CallV Tryz.prog 44 [vL x,vL y] bs fs (.bool (sameF x.t y.t)):=⟨fun w m=>same_c x y w (m.t0 _) (m.t0 _)⟩
def put1 (k:Int)(s:List UInt8):List UInt8:=if hasF (fieldsOf k) 1 then Wk.u8 s.length::s else []
def put2 (k u:Int):List UInt8:=if hasF (fieldsOf k) 2 then [Wk.u8 u] else []
def put4 (k n:Int):List UInt8:=if hasF (fieldsOf k) 4 then be 2 (IntKind.u16.wrap n) else []
def headF (k u n:Int)(s:List UInt8):List UInt8:=[Wk.u8 k]++put1 k s++put2 k u++put4 k n
mutual
def bytesF:Term→List UInt8
 | .mk k u n s ks=>headF k u n s++bytesLF ks
def bytesLF:List Term→List UInt8
 | []=>[]
 | t::ts=>bytesF t++bytesLF ts
end
theorem wu16_range (n:Int):0≤IntKind.u16.wrap n∧IntKind.u16.wrap n≤65535:=by
 unfold IntKind.wrap;simp only[IntKind.bits,IntKind.signed,Bool.false_and];simp;omega
theorem sl_stable {w:World}{e:TypeId}{sz:Nat}{p:Option Addr}{n c:Nat}{xs:List Value}(h:w.ownsRow 0 e sz (.slice p n c) n xs):Fx w (SlF p xs):=(own_sl h).stable fun _ _ h=>h
def Grew (w0 w':World)(p:Option Addr)(b:List UInt8)(v:Value):Prop:=∃ p' c',v=.slice p' b.length c'∧w'.ownsRow 0 5 1 (.slice p' b.length c') b.length (encL b)∧∀ ad,p'=some ad→(∃ ad',p=some ad'∧ad.block=ad'.block)∨w0.heap.size≤ad.block
theorem put_c (N:Nat):∀ (t:LTerm) (p:Option Addr) (n c:Nat) (b:List UInt8) (w0:World),SizeOf.sizeOf t≤N→b.length=n→n+(bytesF t.t).length≤1073741824→w0.ownsRow 0 5 1 (.slice p n c) n (encL b)→Stable (fun k=>∃ ad,p=some ad∧k=ad.block) w0 (LtF t)→
  Ret Tryz.prog 154 [.slice p n c,vL t] w0 (fun k=>∃ ad,p=some ad∧k=ad.block) fun v w'=>Grew w0 w' p (b++bytesF t.t) v:=by
 induction N with
 | zero=>intro t _ _ _ _ _ h;cases t;simp at h
 | succ N ih=>
 intro t p n c b w0 hN hbn hbd hown hf;have hlen:=LTerm.len_le hf;have e0:bytesF t.t=headF t.kind t.user t.num t.text++bytesLF (t.kids.map LTerm.t):=by rw[t.t_eq,bytesF]
 have hL:n+(1+(put1 t.kind t.text).length+(put2 t.kind t.user).length+(put4 t.kind t.num).length+(bytesLF (t.kids.map LTerm.t)).length)≤1073741824:=by
  rw[e0]at hbd;simp only[headF,List.length_append,List.length_singleton]at hbd;omega
 refine E1 Tryz.func154 rfl Tryz.ntmps154 (Wd.rowLent (fs:=[LtF t]) hown (by simpa using hf)) ?_;intro a S;refine kS (kR ?_);refine sa S ?_;clear S;intro b3 a w S;refine Y17 ?_;clear S;intro a w S;refine sn S ?_;clear S;intro b15 a w S;refine sap S (by simp only[maxLen];omega) (by omega) ?_;clear S;intro p1 c1 a w _ S;rw[show encL b++[Value.int .u8 (IntKind.u8.wrap t.kind)]=encL (b++([Wk.u8 t.kind])) from by rw[encL_append,u8_wrap];rfl]at S;refine J3 ?_;clear S;intro a S;have hm1:n+1=(b++([Wk.u8 t.kind])).length:=by rw[List.length_append,hbn];rfl
 generalize n+1=m1 at S hm1
 refine c_merge (fun a w=>∃ (p':Option Addr) (c' m:Nat),m=(b++([Wk.u8 t.kind]++put1 t.kind t.text)).length∧∃ uu:Nat→Value,St w0 (fun k=>∃ ad,p=some ad∧k=ad.block) [] a w ((.slice p' m c')::(vL t)::uu 2::(.pointer (some ⟨b3,0,none⟩))::(.slice none 0 0)::(.int .i64 (fieldsOf t.kind))::uu 6::uu 7::uu 8::uu 9::uu 10::uu 11::uu 12::uu 13::uu 14::uu 15::uu 16::uu 17::uu 18::uu 19::uu 20::uu 21::uu 22::uu 23::uu 24::uu 25::uu 26::uu 27::uu 28::uu 29::uu 30::uu 31::uu 32::uu 33::uu 34::uu 35::uu 36::uu 37::uu 38::uu 39::uu 40::uu 41::uu 42::uu 43::uu 44::uu 45::uu 46::uu 47::uu 48::uu 49::uu 50::uu 51::uu 52::uu 53::uu 54::uu 55::[]) [box b3 42 t.cells,row 5 1 p' m c' (encL (b++([Wk.u8 t.kind]++put1 t.kind t.text)))] [LtF t]) ?_ ?_
 ·refine Y6 ?_;clear S;intro a w S
  refine kC S (fun h3=>?_) (fun h3=>?_)
  ·refine c_drawE [T9 0,T9 1,T9 2,T9 3,T9 4,T9 7,T9 8,F9 5,F9 6,F9 9,T9 10] [box b3 42 t.cells] S ?_;clear S;intro w S;(iterate 7 (refine dq S ?_;clear S;intro a S));refine dl (sn S ?_);clear S;intro b24 a w S;refine de S ?_;refine dl ?_
   have h3':hasF (fieldsOf t.kind) 1=true:=h3;have e1:put1 t.kind t.text=Wk.u8 t.text.length::t.text:=by rw[put1,if_pos h3']
   have hl1:(put1 t.kind t.text).length=t.text.length+1:=by rw[e1];rfl
   have hm2:m1=n+1:=by rw[hm1,List.length_append,hbn];rfl
   refine sap S (by simp only[maxLen];omega) (by omega) ?_;clear S;intro p2 c2 a w _ S;refine de S ?_;refine dl ?_;refine sap S (by simp only[maxLen];omega) (by omega) ?_;clear S;intro p3 c3 a w _ S;rw[show encL (b++([Wk.u8 t.kind]))++[Value.int .u8 (IntKind.u8.wrap (t.text.length:Int))]++encL t.text=encL (b++([Wk.u8 t.kind]++put1 t.kind t.text)) from by rw[e1,u8_wrap];simp[encL,Enc.cells]]at S;refine de S ?_;refine dq S ?_;clear S;intro a S;refine dn (xtn ?_);replace S:=S.sub [box b3 42 t.cells,row 5 1 p3 (m1+1+t.text.length) c3 (encL (b++([Wk.u8 t.kind]++put1 t.kind t.text)))] [LtF t];exact ⟨p3,c3,_,by rw[hm2,List.length_append,List.length_append,hl1,hbn];simp;omega,S.uu,S⟩
  ·refine kK (xtn ?_)
   have h3':¬hasF (fieldsOf t.kind) 1=true:=by simpa using h3
   have e1:put1 t.kind t.text=[]:=by rw[put1,if_neg h3']
   rw[show b++([Wk.u8 t.kind])=b++([Wk.u8 t.kind]++put1 t.kind t.text) from by rw[e1,List.append_nil]]at S hm1;replace S:=S.sub [box b3 42 t.cells,row 5 1 p1 m1 c1 (encL (b++([Wk.u8 t.kind]++put1 t.kind t.text)))] [LtF t];exact ⟨p1,c1,m1,hm1,S.uu,S⟩
 ·clear S;rintro a w ⟨p',c',m,hm,uu,S⟩
  have hlm:m=n+1+(put1 t.kind t.text).length:=by rw[hm];simp[hbn];omega
  refine c_merge (fun a w=>∃ (p':Option Addr) (c' m:Nat),m=(b++([Wk.u8 t.kind]++put1 t.kind t.text++put2 t.kind t.user)).length∧∃ uu:Nat→Value,St w0 (fun k=>∃ ad,p=some ad∧k=ad.block) [] a w ((.slice p' m c')::(vL t)::uu 2::(.pointer (some ⟨b3,0,none⟩))::(.slice none 0 0)::(.int .i64 (fieldsOf t.kind))::uu 6::uu 7::uu 8::uu 9::uu 10::uu 11::uu 12::uu 13::uu 14::uu 15::uu 16::uu 17::uu 18::uu 19::uu 20::uu 21::uu 22::uu 23::uu 24::uu 25::uu 26::uu 27::uu 28::uu 29::uu 30::uu 31::uu 32::uu 33::uu 34::uu 35::uu 36::uu 37::uu 38::uu 39::uu 40::uu 41::uu 42::uu 43::uu 44::uu 45::uu 46::uu 47::uu 48::uu 49::uu 50::uu 51::uu 52::uu 53::uu 54::uu 55::[]) [box b3 42 t.cells,row 5 1 p' m c' (encL (b++([Wk.u8 t.kind]++put1 t.kind t.text++put2 t.kind t.user)))] [LtF t]) ?_ ?_
  ·refine Y6 ?_;clear S;intro a w S
   refine kC S (fun h5=>?_) (fun h5=>?_)
   ·refine J5 ?_;clear S;intro a S
    have h5':hasF (fieldsOf t.kind) 2=true:=h5;have e2:put2 t.kind t.user=[Wk.u8 t.user]:=by rw[put2,if_pos h5']
    have hl2:(put2 t.kind t.user).length=1:=by rw[e2];rfl
    refine sn S ?_;clear S;intro b35 a w S;refine sap S (by simp only[maxLen];omega) (by omega) ?_;clear S;intro p2 c2 a w _ S;rw[show encL (b++([Wk.u8 t.kind]++put1 t.kind t.text))++[Value.int .u8 (IntKind.u8.wrap t.user)]=encL (b++([Wk.u8 t.kind]++put1 t.kind t.text++put2 t.kind t.user)) from by rw[e2,u8_wrap];simp[encL,Enc.cells]]at S;refine J3 ?_;clear S;intro a S;replace S:=S.sub [box b3 42 t.cells,row 5 1 p2 (m+1) c2 (encL (b++([Wk.u8 t.kind]++put1 t.kind t.text++put2 t.kind t.user)))] [LtF t];exact ⟨p2,c2,_,by rw[hm];simp[hl2];omega,S.uu,S⟩
   ·refine kK (xtn ?_)
    have h5':¬hasF (fieldsOf t.kind) 2=true:=by simpa using h5
    have e2:put2 t.kind t.user=[]:=by rw[put2,if_neg h5']
    rw[show b++([Wk.u8 t.kind]++put1 t.kind t.text)=b++([Wk.u8 t.kind]++put1 t.kind t.text++put2 t.kind t.user) from by rw[e2,List.append_nil]]at S hm;exact ⟨p',c',m,hm,S.uu,S⟩
  ·clear S;clear hlm hm;clear m;rintro a w ⟨p',c',m,hm,uu,S⟩
   have hlm:m=n+1+(put1 t.kind t.text).length+(put2 t.kind t.user).length:=by rw[hm];simp[hbn];omega
   refine c_merge (fun a w=>∃ (p':Option Addr) (c' m:Nat),m=(b++(headF t.kind t.user t.num t.text)).length∧∃ uu:Nat→Value,St w0 (fun k=>∃ ad,p=some ad∧k=ad.block) [] a w ((.slice p' m c')::(vL t)::uu 2::(.pointer (some ⟨b3,0,none⟩))::(.slice none 0 0)::(.int .i64 (fieldsOf t.kind))::uu 6::uu 7::uu 8::uu 9::uu 10::uu 11::uu 12::uu 13::uu 14::uu 15::uu 16::uu 17::uu 18::uu 19::uu 20::uu 21::uu 22::uu 23::uu 24::uu 25::uu 26::uu 27::uu 28::uu 29::uu 30::uu 31::uu 32::uu 33::uu 34::uu 35::uu 36::uu 37::uu 38::uu 39::uu 40::uu 41::uu 42::uu 43::uu 44::uu 45::uu 46::uu 47::uu 48::uu 49::uu 50::uu 51::uu 52::uu 53::uu 54::uu 55::[]) [box b3 42 t.cells,row 5 1 p' m c' (encL (b++(headF t.kind t.user t.num t.text)))] [LtF t]) ?_ ?_
   ·refine Y6 ?_;clear S;intro a w S
    refine kC S (fun h7=>?_) (fun h7=>?_)
    ·refine J5 ?_;clear S;intro a S
     have h7':hasF (fieldsOf t.kind) 4=true:=h7;have e4:put4 t.kind t.num=be 2 (IntKind.u16.wrap t.num):=by rw[put4,if_pos h7']
     have hwr:=wu16_range t.num;refine srn S (put16_c p' m c' (b++([Wk.u8 t.kind]++put1 t.kind t.text++put2 t.kind t.user)) (IntKind.u16.wrap t.num) w hm.symm (by omega) hwr.1 hwr.2 (sl_stable (S.row p' m))) ?_;clear S;rintro _ a w ⟨g,rfl,hg,hown2⟩ hS -;have S:=hS hown2 (fun ad h=>by cases h;exact hg);clear hS;rw[show b++([Wk.u8 t.kind]++put1 t.kind t.text++put2 t.kind t.user)++be 2 (IntKind.u16.wrap t.num)=b++(headF t.kind t.user t.num t.text) from by rw[headF,e4,List.append_assoc]]at S;refine J3 ?_;clear S;intro a S;have S2:St w0 (fun k=>∃ ad,p=some ad∧k=ad.block) [] _ _ _ [box b3 42 t.cells,row 5 1 (some ⟨g,0,none⟩) (m+2) (m+2) (encL (b++(headF t.kind t.user t.num t.text)))] [LtF t]:=S.swap2;exact ⟨_,_,_,by rw[hm,headF,e4];simp[be];omega,S.uu,S2⟩
    ·refine kK (xtn ?_)
     have h7':¬hasF (fieldsOf t.kind) 4=true:=by simpa using h7
     have e4:put4 t.kind t.num=[]:=by rw[put4,if_neg h7']
     rw[show b++([Wk.u8 t.kind]++put1 t.kind t.text++put2 t.kind t.user)=b++(headF t.kind t.user t.num t.text) from by rw[headF,e4,List.append_nil]]at S hm;exact ⟨p',c',m,hm,S.uu,S⟩
   ·clear S;clear hlm hm;clear m;rintro a w ⟨p',c',m,hm,uu,S⟩
    refine J10 ?_;clear S;intro a S;refine c_loop (ι:=Nat) (fun k a w=>k≤t.kids.length∧∃ (p':Option Addr) (c' m:Nat) (b':List UInt8),m=b'.length∧b'++bytesLF ((t.kids.drop k).map LTerm.t)=b++bytesF t.t∧∃ uu:Nat→Value,St w0 (fun k=>∃ ad,p=some ad∧k=ad.block) [] a w ((.slice p' m c')::(vL t)::uu 2::(.pointer (some ⟨b3,0,none⟩))::(.slice none 0 0)::(.int .i64 (fieldsOf t.kind))::uu 6::uu 7::uu 8::uu 9::uu 10::uu 11::uu 12::uu 13::uu 14::uu 15::uu 16::uu 17::uu 18::uu 19::uu 20::uu 21::uu 22::uu 23::uu 24::uu 25::uu 26::uu 27::uu 28::uu 29::uu 30::uu 31::uu 32::uu 33::uu 34::uu 35::uu 36::uu 37::uu 38::uu 39::uu 40::uu 41::uu 42::uu 43::uu 44::(.slice t.p t.kids.length t.cap)::(.int .i64 t.kids.length)::(.int .i64 (k:Nat))::uu 48::uu 49::uu 50::uu 51::uu 52::uu 53::uu 54::uu 55::[]) [box b3 42 t.cells,row 5 1 p' m c' (encL b')] [LtF t]) (fun k=>t.kids.length - k) 0 ?_ ?_
    ·exact ⟨Nat.zero_le _,p',c',m,_,hm,by rw[e0,List.append_assoc];rfl,S.uu,S⟩
    ·clear S;clear hm;clear m p' c'
     rintro k a w ⟨hk,p',c',m,b',hm,hrel,uu,S⟩;refine J6 ?_;clear S;intro a S;refine kC S (fun h10=>?_) (fun h10=>?_)
     ·refine kK (xtn (kS (kB (kS (kR ?_)))))
      have hkl:k < t.kids.length:=by simpa using h10
      have hK:KLt k t.kids.length:=⟨hkl⟩;refine J2 ?_;clear S;intro a S;refine sa S ?_;clear S;intro b7 a w S;refine Y6 ?_;clear S;intro a w S;rw[nth_drop hkl,List.map_cons,bytesLF]at hrel;have hbl:=congrArg List.length hrel;simp only[List.length_append,hbn]at hbl;refine srg p' m S (ih (nthL t.kids k) p' m c' b' w (by have:=LTerm.kid_lt (nth_mem hkl);omega) hm.symm (by omega) (S.row p' m) ((S.t _).less fun _ _ hk=>⟨_,HasRow.mem (p:=p') (n:=m),hk⟩)) ?_;clear S;rintro _ a w ⟨p2,c2,rfl,hown2,hnew2⟩ hS;have S:=hS _ hown2 hnew2;clear hS;refine J9 ?_;clear S;intro a S;rw[w6 ((k:Int)+1)]at S;replace S:=S.sub [box b3 42 t.cells,row 5 1 p2 (b'++bytesF (nthL t.kids k).t).length c2 (encL (b'++bytesF (nthL t.kids k).t))] [LtF t];exact ⟨k+1,⟨hkl,p2,c2,_,_,rfl,by rw[List.append_assoc];exact hrel,S.uu,S⟩,by omega⟩
     ·refine J12 ?_;clear S;intro a S
      have h9:t.kids.length≤k:=by simpa using h10
      rw[List.drop_of_length_le h9,List.map_nil,bytesLF,List.append_nil]at hrel;subst hrel hm;have hrow:=S.row p' (b++bytesF t.t).length;have hnew:=S.rowNew p' (b++bytesF t.t).length;exact end1 S (fun _=>⟨p',c',rfl,hrow,hnew⟩)
theorem head_le {k u n:Int}{s:List UInt8}{m:Nat}(h:plainF k u n s m=true):(headF k u n s).length≤69:=by
 have h1:s.length≤64:=by
  simp only[plainF,Bool.and_eq_true,decide_eq_true_eq]at h;omega
 have h2:(put1 k s).length≤65:=by unfold put1;split <;> simp <;> omega
 have h3:(put2 k u).length≤1:=by unfold put2;split <;> simp
 have h4:(put4 k n).length≤2:=by unfold put4;split <;> simp[be]
 simp only[headF,List.length_append,List.length_singleton];omega
mutual
theorem bytes_le:∀ (t:Term) (deep left:Int),(walkF t deep left).1=true→((bytesF t).length:Int)≤70*(left - (walkF t deep left).2)
 | .mk k u n s ks,deep,left=>by
  intro h;rw[walkF]at h⊢;split at h;simp at h
  rename_i hc
  rw[if_neg hc];have hp:plainF k u n s ks.length=true:=by
   cases hb:plainF k u n s ks.length with
   | true=>rfl
   | false=>exact absurd (.inr (.inr hb)) hc
  have h1:=head_le hp;have h2:=bytesL_le ks (deep+1) (left - 1) h;rw[bytesF,List.length_append];omega
theorem bytesL_le:∀ (ts:List Term) (deep left:Int),(walkLF ts deep left).1=true→((bytesLF ts).length:Int)≤70*(left - (walkLF ts deep left).2)
 | [],deep,left=>by intro _;simp[bytesLF,walkLF]
 | t::ts,deep,left=>by
  intro h;rw[walkLF]at h⊢;split at h
  rename_i hc
  rw[if_pos hc];have h1:=bytes_le t deep left hc;have h2:=bytesL_le ts deep _ h;rw[bytesLF,List.length_append];omega;simp at h
end
theorem bytes_small {t:Term}(h:sizeF t≠0):(bytesF t).length≤84000:=by
 unfold sizeF at h;split at h
 rename_i hc
 have h1:=bytes_le t 1 1200 hc;have h2:=walkF_ge t 1 1200 (by omega) hc;omega;exact absurd rfl h
def nameF (t:Term):List UInt8:=if sizeF t=0 then [] else bytesF t
theorem encode_c (t:LTerm)(w0:World)(hf:Fx w0 (LtF t)):Ret Tryz.prog 108 [vL t] w0 (fun _=>False) fun v w'=>
  ∃ p c,v=.tuple ⟨[.slice p (nameF t.t).length c,.int .i64 (checkF t.t)]⟩∧w'.ownsRow 0 5 1 (.slice p (nameF t.t).length c) (nameF t.t).length (encL (nameF t.t))∧∀ ad,p=some ad→w0.heap.size≤ad.block:=by
 refine E1 Tryz.func108 rfl Tryz.ntmps108 (Wd.begin (fs:=[LtF t]) (by simpa using hf)) ?_;intro a S;refine kS (kR ?_);refine sa S ?_;intro b1 a w S;refine Y12 ?_;intro a w S;refine kC S (fun h1=>?_) (fun h1=>?_);refine J8 ?_;intro a S;have hz:sizeF t.t=0:=by simpa using h1
 have e1:nameF t.t=[]:=by rw[nameF,if_pos hz]
 have e2:checkF t.t=150:=by rw[checkF,if_pos hz]
 refine end2 S (fun _=>?_);rw[e1,e2];exact ⟨none,0,rfl,World.ownsRow_nil _ _ _ _,fun _ h=>by cases h⟩;refine J5 ?_;intro a S;have hz:sizeF t.t≠0:=by simpa using h1
 have hsm:=bytes_small hz;have e1:nameF t.t=bytesF t.t:=by rw[nameF,if_neg hz]
 have e2:checkF t.t=0:=by rw[checkF,if_neg hz]
 replace S:=S.addNil 5 1;refine srg none 0 S (put_c _ t none 0 0 [] w (Nat.le_refl _) rfl (by omega) (S.row none 0) ((S.t t).less fun _ _ ⟨_,h,_⟩=>by cases h)) ?_;rintro _ a w ⟨p2,c2,rfl,hown2,hnew2⟩ hS;have S:=hS _ hown2 hnew2;clear hS;rw[qqF]at S;refine J5 ?_;intro a S;have hrow:=S.row p2 (bytesF t.t).length;have hnew:=S.rowNew p2 (bytesF t.t).length;refine end2 S (fun _=>?_);rw[e1,e2];exact ⟨p2,c2,rfl,hrow,fun ad h=>(hnew ad h).elim (fun h=>h.elim) id⟩
inductive Ok:Term→Prop where
 | mk {k u n:Int} {s:List UInt8} {ks:List Term} (h:plainF k u n s ks.length=true) (hk:∀ t∈ks,Ok t):Ok (.mk k u n s ks)
def Good (t:Term):Prop:=sizeF t≠0
theorem good_check {t:Term} : checkF t=0↔Good t:=by
 unfold checkF Good;split <;> simp_all
end Go.Proofs.YtlgnhhebeandkaaGreatDoor
namespace Go.Wk
open Go
section
variable {P:Program}{Q:Exit→Act→World→Prop}{w0:World}{M0:Nat→Prop}{ds:List Deferred}{a:Act}{w:World}{l:List Value}{bs bs':List Item}{fs:List (World→Prop)}
class PutPs (l:List Value)(ps:List Nat)(vs:List Value)(l':outParam (List Value)):Prop where eq:(ps.zip vs).foldl (fun(t:Array Value) (x:Nat × Value)=>t.setIfInBounds x.1 x.2) l.toArray=l'.toArray∧vs.length=ps.length
class DropI (bs:List Item)(x:Item)(bs':outParam (List Item)):Prop where perm:(x::bs').Perm bs
instance dri0 {x:Item}{bs:List Item} : DropI (x::bs) x bs:=⟨.refl _⟩
instance (priority:=900) driS {x y:Item}{bs bs':List Item}[h:DropI bs x bs']:DropI (y::bs) x (y::bs'):=⟨(List.Perm.swap _ _ _).trans (.cons _ h.perm)⟩
end
inductive Tr where
 | e
 | q (i:Nat) (t:Tr)
 | l (i:Nat) (t:Tr)
 | b2 (i j:Nat) (t u:Tr)
 | b3 (i j k:Nat) (t u v:Tr)
 | b4 (i j k m:Nat) (t u v x:Tr)
def Tr.len:Tr→Nat
 | .e=>0
 | .q _ t | .l _ t=>t.len+1
 | .b2 _ _ t _=>t.len+1
 | .b3 _ _ _ t _ _=>t.len+1
 | .b4 _ _ _ _ t _ _ _=>t.len+1
def flowT (ops:Array Oper):Tr→Array Bool→Bool
 | .e,listed=>(Region.ready .any ops listed).isEmpty
 | .q i t,listed=>((Region.ready .any ops listed).contains i&&Region.free .any ops listed i)&&flowT ops t (listed.setIfInBounds i true)
 | .l i t,listed=>(match Region.ready .any ops listed with | [j]=>Nat.beq j i | _=>false)&&flowT ops t (listed.setIfInBounds i true)
 | .b2 i j t u,listed=>(match Region.ready .any ops listed with | [x,y]=>Nat.beq x i&&Nat.beq y j | _=>false)&&(Nat.beq u.len t.len&&(flowT ops t (listed.setIfInBounds i true)&&flowT ops u (listed.setIfInBounds j true)))
 | .b3 i j k t u v,listed=>(match Region.ready .any ops listed with | [x,y,z]=>Nat.beq x i&&(Nat.beq y j&&Nat.beq z k) | _=>false)&&(Nat.beq u.len t.len&&(Nat.beq v.len t.len&&(flowT ops t (listed.setIfInBounds i true)&&(flowT ops u (listed.setIfInBounds j true)&&flowT ops v (listed.setIfInBounds k true)))))
 | .b4 i j k m t u v x,listed=>(match Region.ready .any ops listed with | [a,y,z,b]=>Nat.beq a i&&(Nat.beq y j&&(Nat.beq z k&&Nat.beq b m)) | _=>false)&&(Nat.beq u.len t.len&&(Nat.beq v.len t.len&&(Nat.beq x.len t.len&&(flowT ops t (listed.setIfInBounds i true)&&(flowT ops u (listed.setIfInBounds j true)&&(flowT ops v (listed.setIfInBounds k true)&&flowT ops x (listed.setIfInBounds m true)))))))
section
variable {P:Program}{ops:Array Oper}{C:World→Prop}{R:Act→World→Prop}
variable {r:Option Nat}{Q:Exit→Act→World→Prop}{w0:World}{M0:Nat→Prop}{ds:List Deferred}{a:Act}{w:World}{l l':List Value}{bs bs' bs0:List Item}{fs fs0:List (World→Prop)}
 {d:Option Nat} {op:Op} {ty:TypeId} {pos:String} {af:Array Edge} {rest:List Oper} {v v' G:Value} {j g:Nat} {pol:Bool} {cs:List Bool} {n:Nat} {listed:Array Bool}
def AT (P:Program)(ops:Array Oper)(C:World→Prop)(R:Act→World→Prop)(t:Tr)(a:Act)(w:World):Prop:=
 ∀ listed,Region.noSelect ops=true→flowT ops t listed=true→AC P ops C R t.len listed a w
variable {t u x:Tr}{i k:Nat}
theorem tq (S:St w0 M0 ds a w l bs fs)[hb:SubL bs0 bs][hf:SubL fs0 fs][ho:OpAt ops i ⟨d,op,ty,pos,af,none⟩][hq:OpQ P op ty ⟨[],l⟩ bs0 fs0 v][hp:PutO l d v l']
  (K:∀ a,St w0 M0 ds a w l' bs fs→AT P ops (fun w=>Wd w0 M0 w bs0 fs0) R t a w) :
  AT P ops (fun w=>Wd w0 M0 w bs0 fs0) R (.q i t) a w:=by
 intro listed hs hflow;simp only[flowT,Bool.and_eq_true]at hflow;refine ac_first ho.eq (Region.noSelect_spec hs) _ listed a w (Region.free_spec ho.eq hflow.1.2) (by simpa using hflow.1.1) (v:=v) (.inl ⟨rfl,fun w' hw'=>?_⟩) (S.wd.sub hb.sub hf.sub) (K _ S.put _ hs hflow.2);rw[execOp_eq];exact hq.run a.eval w' S.fr hw'.mem
theorem tqG (S:St w0 M0 ds a w l bs fs)[hb:SubL bs0 bs][hf:SubL fs0 fs][ho:OpAt ops i ⟨d,op,ty,pos,af,some (j,pol)⟩][hg:GSlot ops j g][hn:Nth l g G][hc:Conds G pol cs][hq:OpQ P op ty ⟨cs,l⟩ bs0 fs0 v][hv:GifV cs v v'][hp:PutO l d v' l']
  (K:∀ a,St w0 M0 ds a w l' bs fs→AT P ops (fun w=>Wd w0 M0 w bs0 fs0) R t a w) :
  AT P ops (fun w=>Wd w0 M0 w bs0 fs0) R (.q i t) a w:=by
 intro listed hs hflow;simp only[flowT,Bool.and_eq_true]at hflow;have hw:=wanted_iff (ops:=ops) (d:=d) (op:=op) (ty:=ty) (pos:=pos) (af:=af) (pol:=pol) S hg.eq;refine ac_first ho.eq (Region.noSelect_spec hs) _ listed a w (Region.free_spec ho.eq hflow.1.2) (by simpa using hflow.1.1) (v:=v') ?_ (S.wd.sub hb.sub hf.sub) (K _ S.put _ hs hflow.2)
 by_cases hall:∀ c∈cs,c=true
 refine .inl ⟨hw.2 hall,fun w' hw'=>?_⟩;rw[execOp_eq,hv.eq,if_pos hall];exact hq.run a.eval w' (S.frc hall) hw'.mem;exact .inr ⟨by
  cases hx:Region.wanted _ (yielded ops a.tmps) with
  | true=>exact absurd (hw.1 hx) hall
  | false=>rfl,by rw[hv.eq,if_neg hall]⟩
theorem wn_of {o:Oper}[ho:OpAt ops i o]{K:Act→World→Prop}(h:WL P none ops (fun e a' w'=>e=.normal∧K a' w') [o] a w):WN P ops i K a w:=by
 unfold WN wpOpIn;simp only[ho.eq];simp only[WL,wpListIn]at h;split
 ·rename_i hw
  rw[if_pos hw]at h;refine ⟨fun _ _=>trivial,?_⟩;have h:=h.2
  generalize (o.semAt (FW none).round a.eval).run P w=q at *
  cases q with
  | ok x w'=>
   cases x <;> simp only[Oper.uponIn]at h⊢
   case value u=>exact h.2
   case skip=>exact h.2
   case defer d=>exact h.2
   case enter f args=>
    refine ⟨h.1,CallsIn.mono h.2 fun e w'' he=>?_⟩;cases e with
    | returned u=>exact he.2
    | panicked c=>exact absurd he.1 (by simp)
    | outgrown=>obtain ⟨_,_,he,_⟩:=he;exact absurd he (by simp)
   case row row args=>exact ⟨h.1,RowsIn.mono h.2 fun u w'' he=>he.2⟩
   case round l f tmps assign body=>
    refine ⟨h.1,RoundIn.mono h.2 fun e w'' he=>?_⟩;cases e with
    | returned u=>exact he.2
    | panicked c=>exact absurd he.1 (by simp)
    | outgrown=>obtain ⟨_,_,he,_⟩:=he;exact absurd he (by simp)
  | halt x w'=>
   cases x <;> simp only[Oper.uponIn]at h⊢
   case panic u=>exact absurd h.1 (by simp)
 ·rename_i hw
  rw[if_neg hw]at h;exact ⟨fun _ _=>trivial,h.2.2⟩
theorem tl {o:Oper}[ho:OpAt ops i o](h:WL P none ops (fun e a' w'=>e=.normal∧C w'∧AT P ops C R t a' w') [o] a w):AT P ops C R (.l i t) a w:=by
 intro listed hs hflow;simp only[flowT,Bool.and_eq_true]at hflow;have hr:Region.ready .any ops listed=[i]:=by
  have:=hflow.1;split at this
  rename_i k hk;rw[hk,Nat.eq_of_beq_eq_true this]
  cases this
 refine ⟨fun h0=>(by rw[h0]at hr;cases hr),fun k hk=>?_⟩;rw[hr]at hk;obtain rfl:k=i:=by simpa using hk
 exact wpOpIn_mono (fun a' w' h'=>⟨h'.1,h'.2 _ hs hflow.2⟩) (wn_of h)
theorem tb2 {oi oj:Oper}[hi:OpAt ops i oi][hj:OpAt ops j oj](h1:WL P none ops (fun e a' w'=>e=.normal∧C w'∧AT P ops C R t a' w') [oi] a w)(h2:WL P none ops (fun e a' w'=>e=.normal∧C w'∧AT P ops C R u a' w') [oj] a w):AT P ops C R (.b2 i j t u) a w:=by
 intro listed hs hflow;simp only[flowT,Bool.and_eq_true]at hflow;have hr:Region.ready .any ops listed=[i,j]:=by
  have:=hflow.1;split at this
  rename_i x y hk
  simp only[Bool.and_eq_true]at this;rw[hk,Nat.eq_of_beq_eq_true this.1,Nat.eq_of_beq_eq_true this.2];cases this
 have hlen:=Nat.eq_of_beq_eq_true hflow.2.1;refine ⟨fun h0=>(by rw[h0]at hr;cases hr),fun k hk=>?_⟩;rw[hr]at hk;rcases List.mem_cons.1 hk with rfl | hk
 exact wpOpIn_mono (fun a' w' h'=>⟨h'.1,h'.2 _ hs hflow.2.2.1⟩) (wn_of h1);obtain rfl:=List.mem_singleton.1 hk;refine wpOpIn_mono (fun a' w' h'=>⟨h'.1,?_⟩) (wn_of h2);have:=h'.2 _ hs hflow.2.2.2
 rwa [hlen]at this
theorem te [hb:SubL bs0 bs][hf:SubL fs0 fs](S:St w0 M0 ds a w l bs fs)(h:AT P ops (fun w=>Wd w0 M0 w bs0 fs0) R t a w):WL P none ops (fun e a' w'=>e=.normal∧Wd w0 M0 w' bs0 fs0∧AT P ops (fun w=>Wd w0 M0 w bs0 fs0) R t a' w') [] a w:=
 kN ⟨rfl,S.wd.sub hb.sub hf.sub,h⟩
theorem tn (h:R a w):AT P ops C R .e a w:=by
 intro listed hs hflow;have hr:Region.ready .any ops listed=[]:=by simpa [flowT] using hflow
 exact ⟨hr,h⟩
theorem ac_mono {R':Act→World→Prop}(hR:∀ a w,R a w→R' a w):∀ (fuel:Nat) (listed:Array Bool) (a:Act) (w:World),AC P ops C R fuel listed a w→AC P ops C R' fuel listed a w
 | 0,_,_,_,h=>⟨h.1,hR _ _ h.2⟩
 | fuel+1,_,_,_,h=>⟨fun h0=>hR _ _ (h.1 h0),fun i hi=>wpOpIn_mono (fun _ _ h'=>⟨h'.1,ac_mono hR fuel _ _ _ h'.2⟩) (h.2 i hi)⟩
theorem c_drawT {id:Nat}{lo:List Oper}(t:Tr)(bs0:List Item)(S:St w0 M0 ds a w l bs fs)(I:Act→World→Prop)(h:∀ w,St w0 M0 ds a w l bs fs→AT P lo.toArray (fun w=>Wd w0 M0 w bs0 fs) I t a w)
  (hk:∀ a w,I a w→Q .normal a w) (hm:P.follows .mixedOrders=true:=by kernel_rfl)
  (hd:((lo.all fun o=>!isDefer o.op)&&(Nat.beq t.len lo.length&&(Region.noSelect lo.toArray&&flowT lo.toArray t (Array.replicate lo.length false))))=true:=by kernel_rfl):Wp P r (.region id lo.toArray true) Q a w:=by
 simp only[Bool.and_eq_true]at hd;refine wpIn_region_any hm (any_of_ac (C:=fun w=>Wd w0 M0 w bs0 fs) (fun i o ho=>?_) _ _ _ _ ?_);have:=List.all_eq_true.1 hd.1 o (by
  rw[List.getElem?_toArray]at ho;exact List.mem_of_getElem? ho)
 simpa using this;have:=h { w with drawn:=w.drawn+1 } ⟨S.slots,S.defers,S.wd.step (Agree.drawn _ w _)⟩ _ hd.2.2.1 hd.2.2.2;rw[Nat.eq_of_beq_eq_true hd.2.1]at this;simpa using ac_mono hk _ _ _ _ this
theorem c_drawT0 {id:Nat}{lo:List Oper}{l2:List Value}{bs2:List Item}{fs2:List (World→Prop)}(t:Tr)(ids:List Nat)[DropBs bs ids bs0](S:St w0 M0 ds a w l bs fs)(h:∀ w,St w0 M0 ds a w l bs fs→AT P lo.toArray (fun w=>Wd w0 M0 w bs0 fs) (fun a w=>St w0 M0 ds a w l2 bs2 fs2) t a w)
  (hk:∀ a w,St w0 M0 ds a w l2 bs2 fs2→Q .normal a w) (hm:P.follows .mixedOrders=true:=by kernel_rfl)
  (hd:((lo.all fun o=>!isDefer o.op)&&(Nat.beq t.len lo.length&&(Region.noSelect lo.toArray&&flowT lo.toArray t (Array.replicate lo.length false))))=true:=by kernel_rfl):Wp P r (.region id lo.toArray true) Q a w:=
 c_drawT t _ S _ h hk hm hd
end
instance opMakeFunc {P ty}{l:Cx}{bs fs}{f:Nat}{fi ca:List Operand}{vs us:List Value}[EvL l fi vs][EvL l ca us]:OpQ P (.makeFunc (.func f) fi.toArray ca.toArray) ty l bs fs (.func (.func f) ⟨vs⟩ ⟨us⟩):=⟨fun ρ w h _=>by
 have e1:=h.evl (xs:=fi) (vs:=vs);have e2:=h.evl (xs:=ca) (vs:=us);simp[xop,execOp,e1,e2,Instr.makeFunc]⟩
section
variable {P:Program}{r:Option Nat}{ops:Array Oper}{Q:Exit→Act→World→Prop}{w0:World}{M0:Nat→Prop}{ds:List Deferred}{a:Act}{w:World}{l:List Value}{bs bs':List Item}{fs fs0:List (World→Prop)}
 {d:Option Nat} {op:Op} {ty:TypeId} {pos:String} {af:Array Edge} {rest:List Oper} {ts:Array TypeId}
class EvB (l:Cx)(x:Option Operand)(dflt:Nat)(v:outParam Nat):Prop where
 eq:(x=none∧v=dflt)∨∃ o kk,x=some o∧Ev l o (.int kk (v:Int))
instance evb0 {l:Cx}{n:Nat} : EvB l none n n:=⟨.inl ⟨rfl,rfl⟩⟩
instance evb1 {l:Cx}{x:Operand}{n m:Nat}{kk:IntKind}{mi:Int}[h:Ev l x (.int kk mi)][hm:IsNat mi m]:EvB l (some x) n m:=⟨.inr ⟨x,kk,rfl,by have:=hm.eq;subst this;exact h⟩⟩
theorem run_sliceBound {P:Program}{kk:IntKind}{v y:Nat}(h:v≤y)(code:BoundsCode)(w:World):(Instr.sliceBound (.int kk (v:Int)) y code).run P w=.ok v w:=by
 simp[Instr.sliceBound,asIntOf,h]
theorem c_scope {c:Code}(h:Wp P r c (Exit.noGoto Q) a w):Wp P r (.scope c) Q a w:=by
 intro b k cs hro hb hr;have h0:(lone (b.atR a (.code (.scope c)::k)) cs w).fenced P (FW r):=fenced_calm hb hr rfl;have s1:step P (lone (b.atR a (.code (.scope c)::k)) cs w)=.next (lone (b.atR a (.code c::.inScope c::k)) cs w):=step_lone_go (by simp[stepG,stepG.exec,Frame.atR]);have s2:∀ (a:Act) (w:World),step P (lone (b.atR a (.inScope c::k)) cs w)=.next (lone (b.atR a k) cs w):=fun a w=>step_lone_go (by simp[stepG,stepG.exec,Frame.atR])
 obtain ⟨e,a₁,w₁,hq,harr⟩:=h b (.inScope c::k) cs hro hb hr;cases e with
 | normal=>exact ⟨.normal,a₁,w₁,hq,.head h0 s1 (StepsIn.trans harr (.one (fenced_calm hb hr rfl) (s2 _ _)))⟩
 | exit id=>
  have hx:exitTo id (.inScope c::k)=exitTo id k:=by simp[exitTo]
  exact ⟨.exit id,a₁,w₁,hq,fun k' hk=>.head h0 s1 (harr.1 k' (by rw[hx];exact hk)),fun hr' hk=>let ⟨k₁,h1,h2⟩:=harr.2 hr' (by rw[hx];exact hk);⟨k₁,h1,.head h0 s1 h2⟩⟩
 | goto l=>exact hq.elim
 | ret=>exact ⟨_,a₁,w₁,hq,.of_steps (.one h0 s1) harr⟩
 | panic ch=>exact ⟨_,a₁,w₁,hq,.of_steps (.one h0 s1) harr⟩
 | outgrown=>exact ⟨_,a₁,w₁,hq,.of_steps (.one h0 s1) harr⟩
theorem xsr (h:Q .ret a w):Exit.noGoto Q .ret a w:=h
def Item.ro (x:Item):Item:={ x with own:=false }
end
theorem St.boxNew {w0 M0 ds a w l bs fs}(S:St w0 M0 ds a w l bs fs)(b:Nat){t:TypeId}{cs:List Value}[h:HasBox bs b t cs]:M0 b∨w0.heap.size≤b:=S.wd.own _ h.mem rfl b rfl
instance isnatL0:IsNat 0 0:=⟨rfl⟩
instance isnatL1:IsNat 1 1:=⟨rfl⟩
instance isnatL2:IsNat 2 2:=⟨rfl⟩
instance isnatL4:IsNat 4 4:=⟨rfl⟩
section
variable {P:Program}{ty:TypeId}{l:Cx}{bs:List Item}{fs:List (World→Prop)}{x y:Operand}{t e:TypeId}
class LeC (a b:Nat):Prop where le:a≤b
instance (priority:=1100) lec0 {a:Nat} : LeC a a:=⟨Nat.le_refl _⟩
class HiOk (om oh:Option Operand):Prop where ok:om.isSome=true→oh.isSome=true
instance hiok0 {oh:Option Operand} : HiOk none oh:=⟨fun h=>by cases h⟩
end
section
variable {P:Program}{r:Option Nat}{ops:Array Oper}{Q:Exit→Act→World→Prop}{w0:World}{M0:Nat→Prop}{ds:List Deferred}{a:Act}{w:World}{l:List Value}{bs bs':List Item}{fs:List (World→Prop)}
 {d:Option Nat} {op:Op} {ty:TypeId} {pos:String} {af:Array Edge} {rest:List Oper} {v:Value} {t e:TypeId} {sz by_ n c:Nat} {z:Value} {p:Option Addr} {xs:List Value} {x y:Operand}
theorem run_cut {ρ:Operand→Value}{lc:Cx}{ol oh om:Option Operand}{lo hi mx:Nat}[Ev lc x (.slice p n c)][hl:EvB lc ol 0 lo][hh:EvB lc oh n hi][hx:EvB lc om c mx][Und P t (.slice e)][TI P e z sz by_](hf:Fr ρ lc)
  (h1:mx≤c) (h2:hi≤mx) (h3:lo≤hi) (hxh:om.isSome=true→oh.isSome=true) (w:World) :
  (xop ρ (.slice t x ol oh om) ty).run P w=.ok (.value (.slice (if mx=lo then p else p.map (·.add (lo*sz))) (hi - lo) (mx - lo))) w:=by
 have hsz:=run_size (P:=P) (t:=e) (z:=z) (s:=sz) (b:=by_) w;have eX:ρ x=.slice p n c:=hf.ev;have hb:(Instr.sliceBounds true n c (ol.map ρ) (oh.map ρ) (om.map ρ)).run P w=.ok (lo,hi,mx) w:=by
  rcases hx.eq with ⟨rfl,rfl⟩ | ⟨o,kk,rfl,h⟩
  rcases hh.eq with ⟨rfl,rfl⟩ | ⟨o2,kk2,rfl,h'⟩
  rcases hl.eq with ⟨rfl,rfl⟩ | ⟨o3,kk3,rfl,h''⟩
  simp[Instr.sliceBounds];have e3:=hf.ev (x:=o3) (v:=.int kk3 (lo:Int));simp[Instr.sliceBounds,e3,run_sliceBound h3];have e2:=hf.ev (x:=o2) (v:=.int kk2 (hi:Int));have h2':hi≤mx:=h2;rcases hl.eq with ⟨rfl,rfl⟩ | ⟨o3,kk3,rfl,h''⟩
  simp[Instr.sliceBounds,e2,run_sliceBound h2'];have e3:=hf.ev (x:=o3) (v:=.int kk3 (lo:Int));simp[Instr.sliceBounds,Sem.run_bind,e2,e3,run_sliceBound h2',run_sliceBound h3];have e1:=hf.ev (x:=o) (v:=.int kk (mx:Int));rcases hh.eq with ⟨rfl,rfl⟩ | ⟨o2,kk2,rfl,h'⟩
  exact absurd (hxh rfl) (by simp);have e2:=hf.ev (x:=o2) (v:=.int kk2 (hi:Int));rcases hl.eq with ⟨rfl,rfl⟩ | ⟨o3,kk3,rfl,h''⟩
  simp[Instr.sliceBounds,Sem.run_bind,e1,e2,run_sliceBound h1,run_sliceBound h2];have e3:=hf.ev (x:=o3) (v:=.int kk3 (lo:Int));simp[Instr.sliceBounds,Sem.run_bind,e1,e2,e3,run_sliceBound h1,run_sliceBound h2,run_sliceBound h3]
 have key:(Instr.slice t (.slice p n c) (ol.map ρ) (oh.map ρ) (om.map ρ)).run P w=.ok (.slice (if mx=lo then p else p.map (·.add (lo*sz))) (hi - lo) (mx - lo)) w:=by
  simp only[Instr.slice,Sem.run_bind,run_und,Result.andThen_ok,hb,hsz,Sem.run_pure]
 simp only[xop,execOp,Instr.sliceAt,eX,Sem.run_bind,run_und,Result.andThen_ok,Sem.run_pure];simp[key]
instance (priority:=700) opSliceQ {lc:Cx}{ol oh om:Option Operand}{lo hi mx:Nat}[Ev lc x (.slice p n c)][EvB lc ol 0 lo][EvB lc oh n hi][EvB lc om c mx][Und P t (.slice e)][TI P e z sz by_][h1:LeC mx c][h2:LeC hi mx][h3:LeC lo hi][h4:HiOk om oh] :
  OpQ P (.slice t x ol oh om) ty lc bs fs (.slice (if mx=lo then p else p.map (·.add (lo*sz))) (hi - lo) (mx - lo)):=⟨fun _ρ w h _=>run_cut h h1.le h2.le h3.le h4.ok w⟩
end
theorem ls_own_from {w:World}{e:TypeId}{p:Option Addr}{n c:Nat}{xs:List LTerm}(h:w.ownsRow 0 e 5 (.slice p n c) n (encL xs))(hk:∀ x∈xs,LtIn w x):∀ (k i:Nat),xs.length - i=k→i≤xs.length→LsIn w p i (xs.drop i)
 | 0,i,hi,hle=>by rw[List.drop_of_length_le (by omega)];simp[LsIn]
 | k+1,i,hi,hle=>by
  have hlt:i < xs.length:=by omega
  have hn:n=xs.length:=by
   have:=h.1;rw[encL_len]at this;have e5:Enc.sz LTerm=5:=rfl;rw[e5]at this;omega
  obtain ⟨g,cur,hp,_⟩:=own_cells h (by omega);rw[nth_drop hlt];refine ⟨⟨⟨g,0,none⟩,hp,fun j v hj=>?_⟩,hk _ (nth_mem hlt),ls_own_from h hk k (i+1) (by omega) hlt⟩;have hj5:j < 5:=(List.getElem?_eq_some_iff.1 hj).1;have h1:=encL_get xs i _ (nth_get hlt) j hj5;have h2:(encL xs)[i*5+j]? = some v:=by
   rw[←hj];exact h1
  have h3:=own_cell h h2;rw[hp]at h3;simp only[rAddr,Option.getD_some,add_add]at h3;exact h3
theorem ls_of_own {M:Nat→Prop}{w:World}{e:TypeId}{p:Option Addr}{n c:Nat}{xs:List LTerm}(h:w.ownsRow 0 e 5 (.slice p n c) n (encL xs))(hk:∀ x∈xs,Stable M w (LtF x))(hM:∀ ad,p=some ad→¬M ad.block):Stable M w (LsF p 0 xs):=fun w' hw'=>by
 have h':w'.ownsRow 0 e 5 (.slice p n c) n (encL xs):=row_loc e 5 p n c (encL xs) w w' (fun k hkf=>by
  obtain ⟨ad,h1,h2⟩:=hkf;exact hw'.blk (row_foot_lt h k ⟨ad,h1,h2⟩) (by rw[h2];exact hM ad h1)) h
 have:=ls_own_from h' (fun x hx=>hk x hx w' hw') _ 0 rfl (Nat.zero_le _);rw[List.drop_zero]at this;exact this
theorem St.apart2 {w0 M0 ds a w l bs fs}(S:St w0 M0 ds a w l bs fs)(x y:Item)[h:SubL [x,y] bs](k:Nat)(hk:x.foot k):¬y.foot k:=by
 have:=(S.wd.apart.sublist h.sub);simp only[List.pairwise_cons,List.mem_singleton,forall_eq]at this;exact this.1 k hk
def kvS (x:List UInt8 × Value):Value × Value:=(str x.1,x.2)
def enKV (e:MapEntry):Value × Value:=(e.key,e.val)
def mpi (b r:Nat)(kv done:List (List UInt8 × Value)):Item where
 foot:=fun k=>k=b∨k=r
 holds:=fun w=>∃ (es:Array MapEntry) (clock:Nat) (ds:List MapEntry),w.heap[b]? = some (.map es clock)∧es.toList.map enKV=kv.map kvS∧(∀ e∈es.toList,e.born < clock)∧(es.toList.map (·.born)).Nodup∧
  w.heap[r]? = some (.mapIter (some b) clock (ds.map (·.born)).toArray clock)∧(∀ e∈ds,e∈es.toList)∧(ds.map (·.born)).Nodup∧ds.map enKV=done.map kvS
class HasMpi (bs:List Item)(r:Nat)(b:outParam Nat)(kv done:outParam (List (List UInt8 × Value))):Prop where mem:mpi b r kv done∈bs
class HasMpiB (bs:List Item)(b:Nat)(kv:outParam (List (List UInt8 × Value))):Prop where mem:∃ r done,mpi b r kv done∈bs
section
variable {P:Program}{r0:Option Nat}{ops:Array Oper}{Q:Exit→Act→World→Prop}{w0:World}{M0:Nat→Prop}{ds:List Deferred}{a:Act}{w:World}{l:List Value}{bs:List Item}{fs:List (World→Prop)}
 {d:Option Nat} {op:Op} {ty:TypeId} {pos:String} {af:Array Edge} {rest:List Oper} {t kt et:TypeId} {x:Operand} {b:Nat} {kv:List (List UInt8 × Value)}
end
section
variable {P:Program}{r:Option Nat}{ops:Array Oper}{Q:Exit→Act→World→Prop}{w0:World}{M0:Nat→Prop}{ds:List Deferred}{a:Act}{w:World}{l:List Value}{bs:List Item}{fs:List (World→Prop)}
 {d:Option Nat} {ty:TypeId} {pos:String} {af:Array Edge} {rest:List Oper} {f:Nat} {x:Operand} {ys:List Operand} {args:List Value} {ts:Array TypeId}
theorem Wd.addItem {w':World}{y:Item}(hold:Wd w0 M0 w bs fs)(hw:Grow w w')(hy:y.holds w')(hfoot:∀ k,y.foot k→w.heap.size≤k)(hlt:∀ k,y.foot k→k < w'.heap.size)
  (hloc:∀ w1 w2:World,(∀ k,y.foot k→w2.heap[k]? = w1.heap[k]?)→y.holds w1→y.holds w2):Wd w0 M0 w' (y::bs) fs:=by
 refine (hold.step hw).more hy (fun k hk=>Nat.le_trans hold.agree.size (hfoot k hk)) hlt (fun it hi k hk hk'=>absurd (hold.lt it hi k hk') (by have:=hfoot k hk;omega)) (fun Φ hΦ w'' hw''=>?_) hloc;refine hold.facts Φ hΦ w'' ((hw.mono (fun _ _ h=>h.elim)).trans' hw'' fun i hi ⟨it,hm,hk⟩=>?_);rcases List.mem_cons.1 hm with rfl | hm
 exact absurd (hfoot i hk) (by omega);exact ⟨it,hm,hk⟩
end
open Go Go.Deep Go.ChangeShapes Go.WideShapes Go.ChangeAt Go.RowKit
section
variable {H:Type}{enc:TypeId × Value→H}{P:Program}{w:World}{base:Nat}{spare:Nat→Bool}{held:Bool}{L:TypeId}
end
section
variable {w0:World}{M0:Nat→Prop}{ds:List Deferred}{a:Act}{w:World}{l:List Value}{bs:List Item}{fs:List (World→Prop)}
theorem own_le {w:World}{e:TypeId}{sz:Nat}{p:Option Addr}{n c:Nat}{xs:List Value}(h:w.ownsRow 0 e sz (.slice p n c) n xs):n≤c:=by
 rcases h.2 with ⟨hv,h0⟩ | ⟨g,cap,cur,hv,hb,hg,hnc,hcm,hcs,ht⟩
 omega;cases hv;exact hnc
end
def AllL (L:List LTerm):World→Prop:=fun w=>∀ x∈L,LtIn w x
theorem AllL.get {M:Nat→Prop}{w:World}{L:List LTerm}(h:Stable M w (AllL L)){x:LTerm}(hx:x∈L):Stable M w (LtF x):=fun w' hw=>h w' hw x hx
theorem SlF.nil {p:Option Addr}{w:World} : SlF p [] w:=⟨fun _=>rfl,fun _ _ j u hj=>by simp at hj⟩
section
variable {P:Program}{l lc:Cx}{bs:List Item}{fs:List (World→Prop)}{x y:Operand}{p:Option Addr}{n c k:Nat}{kk:IntKind}{m:Int}{ys:List Int}{t ty e:TypeId}{z:Value}{by_:Nat}
end
class Lay (α:Type) extends Enc α where
 dflt:α
 inn:World→α→Prop
 mono:∀ (w w':World) (x:α),(∀ ad v,w.cell? ad=some v→w'.cell? ad=some v)→inn w x→inn w' x
instance layI:Lay Int:={ encI with dflt:=0,inn:=fun _ _=>True,mono:=fun _ _ _ _ h=>h }
instance layS:Lay (List UInt8):={ encS with dflt:=[],inn:=fun _ _=>True,mono:=fun _ _ _ _ h=>h }
instance layT:Lay LTerm:={ encT with dflt:=zeroL,inn:=LtIn,mono:=fun _ _ x h hx=>LtIn.mono h x hx }
instance encBo:Enc Bool:=⟨1,fun b=>[.bool b],fun _=>rfl,fun x u hu=>by obtain rfl:=List.mem_singleton.1 hu;rfl⟩
instance layBo:Lay Bool:={ encBo with dflt:=false,inn:=fun _ _=>True,mono:=fun _ _ _ _ h=>h }
instance layB:Lay UInt8:={ encB with dflt:=0,inn:=fun _ _=>True,mono:=fun _ _ _ _ h=>h }
def InF {α:Type}[Lay α](x:α):World→Prop:=fun w=>Lay.inn w x
def GlF {α:Type}[Lay α](p:Option Addr)(xs:List α):World→Prop:=fun w=>SlF p (encL xs) w∧∀ x∈xs,Lay.inn w x
def nthG {α:Type}[Lay α](xs:List α)(k:Nat):α:=xs.getD k Lay.dflt
theorem nthG_get {α:Type}[Lay α]{xs:List α}{k:Nat}(h:k < xs.length):xs[k]? = some (nthG xs k):=by simp[nthG,h]
theorem nthG_mem {α:Type}[Lay α]{xs:List α}{k:Nat}(h:k < xs.length):nthG xs k∈xs:=List.mem_of_getElem? (nthG_get h)
theorem nthG_drop {α:Type}[Lay α]{xs:List α}{k:Nat}(h:k < xs.length):xs.drop k=nthG xs k::xs.drop (k+1):=by
 rw[List.drop_eq_getElem_cons h]
 congr 1
 simp[nthG,h]
theorem nthG_take {α:Type}[Lay α]{xs:List α}{k:Nat}(h:k < xs.length):xs.take (k+1)=xs.take k++[nthG xs k]:=by
 rw[List.take_add_one,nthG_get h];rfl
def gAddr (p:Option Addr)(k sz off:Nat):Addr:=(p.getD ⟨0,0,none⟩).add (k*sz+off)
structure Sl (α:Type) where
 p:Option Addr
 cap:Nat
 xs:List α
abbrev Sl.v {α:Type}(s:Sl α):Value:=.slice s.p s.xs.length s.cap
instance encSl {α:Type} : Enc (Sl α):=⟨1,fun s=>[s.v],fun _=>rfl,fun x u hu=>by obtain rfl:=List.mem_singleton.1 hu;rfl⟩
theorem SlF.mono {p:Option Addr}{xs:List Value}{w w':World}(h:∀ ad v,w.cell? ad=some v→w'.cell? ad=some v)(hs:SlF p xs w):SlF p xs w':=⟨hs.1,fun ad hp j u hj=>h _ _ (hs.2 ad hp j u hj)⟩
theorem GlF.mono {α:Type}[Lay α]{p:Option Addr}{xs:List α}{w w':World}(h:∀ ad v,w.cell? ad=some v→w'.cell? ad=some v)(hs:GlF p xs w):GlF p xs w':=⟨hs.1.mono h,fun x hx=>Lay.mono w w' x h (hs.2 x hx)⟩
instance laySl {α:Type}[Lay α]:Lay (Sl α):={ encSl with
 dflt:=⟨none,0,[]⟩
 inn:=fun w s=>s.xs.length≤s.cap∧s.cap≤maxLen∧GlF s.p s.xs w
 mono:=fun _ _ _ h hx=>⟨hx.1,hx.2.1,hx.2.2.mono h⟩ }
theorem gl_nil {α:Type}[Lay α]{w:World}{p:Option Addr} : GlF (α:=α) p [] w:=⟨SlF.nil,fun _ h=>by cases h⟩
theorem gl_some {α:Type}[Lay α]{w:World}{p:Option Addr}{xs:List α}(h:GlF p xs w){k:Nat}(hk:k < xs.length)(hz:0 < Enc.sz α):∃ ad,p=some ad:=by
 cases hp:p with
 | some ad=>exact ⟨ad,rfl⟩
 | none=>
  have h1:=congrArg List.length (h.1.1 hp);rw[encL_len]at h1;have h2:xs.length*Enc.sz α=0:=h1;rcases Nat.mul_eq_zero.1 h2 with h3 | h3 <;> omega
theorem gl_cell {α:Type}[Lay α]{w:World}{p:Option Addr}{xs:List α}(h:GlF p xs w){k:Nat}(hk:k < xs.length){j:Nat}{u:Value}(hj:(Enc.cells (nthG xs k))[j]? = some u):w.cell? (gAddr p k (Enc.sz α) j)=some u:=by
 have hjs:j < Enc.sz α:=by
  have:=(List.getElem?_eq_some_iff.1 hj).1
  rwa [Enc.len]at this
 obtain ⟨ad,rfl⟩:=gl_some h hk (by omega);exact h.1.2 ad rfl _ _ ((encL_get xs k _ (nthG_get hk) j hjs).trans hj)
class HasG (fs:List (World→Prop))(p:Option Addr)(α:outParam Type)(i:outParam (Lay α))(xs:outParam (List α)):Prop where
 of:∀ (M:Nat→Prop) (w:World),(∀ Φ∈fs,Stable M w Φ)→Stable M w (GlF p xs)
instance hasg0 {α:Type}[i:Lay α]{fs:List (World→Prop)}{p:Option Addr}{xs:List α} : HasG (GlF p xs::fs) p α i xs:=⟨fun _ _ h=>h _ (by simp)⟩
instance (priority:=900) hasgS {α:Type}{i:Lay α}{fs:List (World→Prop)}{Φ:World→Prop}{p:Option Addr}{xs:List α}[h:HasG fs p α i xs]:HasG (Φ::fs) p α i xs:=⟨fun M w hf=>h.of M w fun Ψ hΨ=>hf Ψ (by simp[hΨ])⟩
class HasGx (fs:List (World→Prop)){α:Type}[Lay α](xs:List α):Prop where
 of:∀ (M:Nat→Prop) (w:World),(∀ Φ∈fs,Stable M w Φ)→∃ p,Stable M w (GlF p xs)
instance hasgx0 {α:Type}[i:Lay α]{fs:List (World→Prop)}{p:Option Addr}{xs:List α} : HasGx (GlF p xs::fs) xs:=⟨fun _ _ h=>⟨p,h _ (by simp)⟩⟩
instance (priority:=900) hasgxS {α:Type}[i:Lay α]{fs:List (World→Prop)}{Φ:World→Prop}{xs:List α}[h:HasGx fs xs]:HasGx (Φ::fs) xs:=⟨fun M w hf=>h.of M w fun Ψ hΨ=>hf Ψ (by simp[hΨ])⟩
class HasI (fs:List (World→Prop)){α:Type}[Lay α](x:α):Prop where
 of:∀ (M:Nat→Prop) (w:World),(∀ Φ∈fs,Stable M w Φ)→Stable M w (InF x)
instance hasi0 {α:Type}[Lay α]{fs:List (World→Prop)}{x:α}[h:HasFact fs (InF x)]:HasI fs x:=⟨fun _ _ hf=>hf _ h.mem⟩
instance (priority:=900) hasi1 {α:Type}[Lay α]{fs:List (World→Prop)}{xs:List α}{k:Nat}[h:HasGx fs xs][hk:KLt k xs.length]:HasI fs (nthG xs k):=⟨fun M w hf=>by
 obtain ⟨p,hp⟩:=h.of M w hf;exact hp.imp fun w' hw'=>hw'.2 _ (nthG_mem hk.lt)⟩
instance (priority:=850) hasgI {α:Type}[i:Lay α]{fs:List (World→Prop)}{s:Sl α}[h:HasI fs s]:HasG fs s.p α i s.xs:=⟨fun M w hf=>(h.of M w hf).imp fun _ h=>h.2.2⟩
instance (priority:=850) hasgxI {α:Type}[i:Lay α]{fs:List (World→Prop)}{s:Sl α}[h:HasI fs s]:HasGx fs s.xs:=⟨fun M w hf=>⟨s.p,(h.of M w hf).imp fun _ h=>h.2.2⟩⟩
section
variable {α:Type}[Lay α]{w0:World}{M0:Nat→Prop}{ds:List Deferred}{a:Act}{w:World}{l:List Value}{bs:List Item}{fs:List (World→Prop)}
theorem Mem.i (m:Mem w bs fs)(x:α)[h:HasI fs x]:Stable (foots bs) w (InF x):=h.of _ _ m.facts
theorem Mem.i0 (m:Mem w bs fs)(x:α)[h:HasI fs x]:Fx w (InF x):=(m.i x).less fun _ _ h=>h.elim
theorem St.i (S:St w0 M0 ds a w l bs fs)(x:α)[h:HasI fs x]:Stable (foots bs) w (InF x):=S.mem.i x
theorem St.i0 (S:St w0 M0 ds a w l bs fs)(x:α)[h:HasI fs x]:Fx w (InF x):=S.mem.i0 x
theorem St.gl {α:Type}{i:Lay α}(S:St w0 M0 ds a w l bs fs)(p:Option Addr){xs:List α}[h:HasG fs p α i xs]:Stable (foots bs) w (GlF p xs):=h.of _ _ S.wd.facts
theorem St.gl0 {α:Type}{i:Lay α}(S:St w0 M0 ds a w l bs fs)(p:Option Addr){xs:List α}[h:HasG fs p α i xs]:Fx w (GlF p xs):=(S.gl p).less fun _ _ h=>h.elim
end
class SzE (α:Type)[Lay α](n:outParam Nat):Prop where
 eq:Enc.sz α=n
 pos:0 < n
instance:SzE Int 1:=⟨rfl,by decide⟩
instance:SzE Bool 1:=⟨rfl,by decide⟩
instance:SzE UInt8 1:=⟨rfl,by decide⟩
instance:SzE (List UInt8) 1:=⟨rfl,by decide⟩
class CellsOf {α:Type}[Lay α](x:α)(cs:outParam (List Value)):Prop where eq:Enc.cells x=cs
instance {x:Int} : CellsOf x [.int .i64 x]:=⟨rfl⟩
instance {x:Bool} : CellsOf x [.bool x]:=⟨rfl⟩
instance {x:UInt8} : CellsOf x [.int .u8 x.toNat]:=⟨rfl⟩
instance {x:List UInt8} : CellsOf x [str x]:=⟨rfl⟩
section
variable {P:Program}{l:Cx}{bs:List Item}{fs:List (World→Prop)}{x y:Operand}{p:Option Addr}{n c k sz off:Nat}{kk:IntKind}{m:Int}{t ty e:TypeId}{z:Value}{by_:Nat}{α:Type}{i:Lay α}{xs:List α}
instance (priority:=880) opIdxG [Ev l x (.slice p n c)][Ev l y (.int kk m)][Und P t (.slice e)][TI P e z sz by_][hm:IsNat m k][hl:HasG fs p α i xs][hs:SzE α sz][hk:KLt k n][hk':KLt k xs.length] :
  OpQ P (.indexAddr t x y) ty l bs fs (.pointer (some (gAddr p k sz 0))):=⟨fun ρ w h mm=>by
 have hlt:=hk.lt;obtain ⟨ad,rfl⟩:=gl_some (hl.of _ _ mm.facts).now hk'.lt (by rw[hs.eq];exact hs.pos);have h2:=hm.eq;subst h2;simp[xop,execOp,h.ev (x:=x) (v:=.slice (some ad) n c),h.ev (x:=y) (v:=.int kk (k:Int))];simp[run_indexAt (P:=P) (t:=t) (e:=e) (z:=z) (sz:=sz) (by_:=by_) (Int.natCast_nonneg k) (Int.ofNat_lt.2 hlt),gAddr]⟩
theorem gAddr_add (p:Option Addr)(k sz o j:Nat):(gAddr p k sz o).add j=gAddr p k sz (o+j):=by simp only[gAddr,add_add,Nat.add_assoc]
theorem gl_cells {cs:List Value}{w:World}[hs:SzE α sz](h:GlF p xs w)(hk:k < xs.length)[hc:CellsOf (nthG xs k) cs]{j:Nat}{u:Value}(hj:cs[j]? = some u):w.cell? (gAddr p k sz j)=some u:=by
 rw[←hs.eq];exact gl_cell h hk (by rw[hc.eq];exact hj)
instance (priority:=780) opLoadG1 {v:Value}{cs:List Value}[Ev l x (.pointer (some (gAddr p k sz off)))][ha:AggT P t false][hl:HasG fs p α i xs][hs:SzE α sz][hk:KLt k xs.length][hc:CellsOf (nthG xs k) cs][hn:Nth cs off v] :
  OpQ P (.load t x) ty l bs fs v:=⟨fun ρ w h mm=>by
 have h1:=gl_cells (hl.of _ _ mm.facts).now hk.lt hn.eq;simp[xop,execOp,Instr.loadAt,h.ev (x:=x) (v:=.pointer (some (gAddr p k sz off))),Instr.sureAddr,loadVar,Sem.run_bind,ha.run,load,Sem.run,h1]⟩
instance (priority:=780) opLoadGA {cs vs:List Value}[Ev l x (.pointer (some (gAddr p k sz off)))][ha:AggT P t true][TI P t z n by_][hl:HasG fs p α i xs][hs:SzE α sz][hk:KLt k xs.length][hc:CellsOf (nthG xs k) cs][hn:Seg cs off n vs] :
  OpQ P (.load t x) ty l bs fs (.agg ⟨vs⟩):=⟨fun ρ w h mm=>by
 have hlc:=run_loadCells_list (P:=P) w (gAddr p k sz off) vs (fun j v hj=>by
  have hjn:j < n:=by rw[←hn.eq.1];exact (List.getElem?_eq_some_iff.1 hj).1
  rw[gAddr_add];exact gl_cells (hl.of _ _ mm.facts).now hk.lt ((hn.eq.2 j hjn).trans hj))
 rw[hn.eq.1]at hlc;simp[xop,execOp,Instr.loadAt,h.ev (x:=x) (v:=.pointer (some (gAddr p k sz off))),Instr.sureAddr,loadVar,Sem.run_bind,ha.run,run_size,hlc]⟩
instance (priority:=860) srcG {tx:TypeId}[h:Und P tx (.slice e)][hr:HasG fs p α i xs][hs:SzE α sz][hn:LenN xs n]:SrcV P tx (.slice p n c) bs fs sz n (encL xs):=⟨fun w mm=>
 src_sl h.eq (hr.of _ _ mm.facts).now.1 (by rw[encL_len,hn.eq,hs.eq]) (encL_one xs) hs.pos⟩
end
class Tro (P:Program)(T:TypeId)(α:Type)[Lay α]:Prop where
 of:∀ {H:Type} (enc:TypeId × Value→H) (w:World) (base:Nat) (spare:Nat→Bool) (held:Bool) (fuel:Nat) (cs:List Value) (x:DataW H × List MemPlace),DataW.trod enc P w base spare held fuel T cs=some x→∃ a:α,cs=Enc.cells a∧Lay.inn w a
 size:P.cellsOf T=Enc.sz α
class SetG (l:List Value)(ms:List (Nat × Value))(l':outParam (List Value)):Prop where ok:True
instance setg0 {l:List Value} : SetG l [] l:=⟨trivial⟩
instance setg1 {u v:Value}{l l':List Value}{ms:List (Nat × Value)}[SetG l ms l']:SetG (u::l) ((0,v)::ms) (v::l'):=⟨trivial⟩
instance setg2 {u v:Value}{g:Nat}{l l':List Value}{ms:List (Nat × Value)}[SetG l ((g,v)::ms) l']:SetG (u::l) ((g+1,v)::ms) (u::l'):=⟨trivial⟩
section
variable {P:Program}{r:Option Nat}{Q:Exit→Act→World→Prop}{w0:World}{M0:Nat→Prop}{ds:List Deferred}{a:Act}{w:World}{l:List Value}{bs:List Item}{fs:List (World→Prop)}
theorem c_fore1 {c:Code}{ι1:Type}(_S:St w0 M0 ds a w l bs fs)(mods:ι1→(Nat→Value)→List (Nat × Value)){l1:ι1→(Nat→Value)→List Value}[∀ x1 uu,SetG l (mods x1 uu) (l1 x1 uu)](bs1:ι1→List Item)(fs1:ι1→List (World→Prop))(rel:ι1→Prop)(μ:ι1→Nat)(z1:ι1)(h0:rel z1)(uu0:Nat→Value)(S0:St w0 M0 ds a w (l1 z1 uu0) (bs1 z1) (fs1 z1))
  (hr:∀ x1 uu a w,rel x1→St w0 M0 ds a w (l1 x1 uu) (bs1 x1) (fs1 x1)→Wp P r c (Exit.then (fun a w=>∃ y1 vv,rel y1∧St w0 M0 ds a w (l1 y1 vv) (bs1 y1) (fs1 y1)∧μ y1 < μ x1) Q) a w):Wp P r (.loop c) Q a w:=by
 refine c_loop (ι:=ι1) (fun p a w=>rel p∧∃ uu,St w0 M0 ds a w (l1 p uu) (bs1 p) (fs1 p)) (fun p=>μ p) (z1) ⟨h0,uu0,S0⟩ ?_;rintro p a w ⟨h1,uu,S1⟩;refine wpIn_mono (hr p uu a w h1 S1) fun e a1 w1 hq=>?_
 cases e <;> first | exact hq | skip
 obtain ⟨y1,vv,h2,S2,hm⟩:=hq;exact ⟨y1,⟨h2,vv,S2⟩,hm⟩
theorem c_mrge1 {x y:Code}{ι1:Type}(_S:St w0 M0 ds a w l bs fs)(mods:ι1→(Nat→Value)→List (Nat × Value)){l1:ι1→(Nat→Value)→List Value}[∀ x1 uu,SetG l (mods x1 uu) (l1 x1 uu)](bs1:ι1→List Item)(fs1:ι1→List (World→Prop))(rel:ι1→Prop)
  (hx:Wp P r x (Exit.then (fun a w=>∃ y1 vv,rel y1∧St w0 M0 ds a w (l1 y1 vv) (bs1 y1) (fs1 y1)) Q) a w) (hy:∀ x1 uu a w,rel x1→St w0 M0 ds a w (l1 x1 uu) (bs1 x1) (fs1 x1)→Wp P r y Q a w):Wp P r (.seq x y) Q a w:=
 c_merge _ hx fun a w h=>by obtain ⟨y1,vv,h1,h2⟩:=h;exact hy y1 vv a w h1 h2
theorem c_drwe1 {id:Nat}{lo:List Oper}{ι1:Type}(t:Tr)(S:St w0 M0 ds a w l bs fs)(mods:ι1→(Nat→Value)→List (Nat × Value)){l1:ι1→(Nat→Value)→List Value}[∀ x1 uu,SetG l (mods x1 uu) (l1 x1 uu)](bs0:List Item)(bs1:ι1→List Item)(fs1:ι1→List (World→Prop))(rel:ι1→Prop)
  (h:∀ w,St w0 M0 ds a w l bs fs→AT P lo.toArray (fun w=>Wd w0 M0 w bs0 fs) (fun a w=>∃ y1 vv,rel y1∧St w0 M0 ds a w (l1 y1 vv) (bs1 y1) (fs1 y1)) t a w) (hK:∀ x1 uu a w,rel x1→St w0 M0 ds a w (l1 x1 uu) (bs1 x1) (fs1 x1)→Q .normal a w) (hm:P.follows .mixedOrders=true:=by kernel_rfl)
  (hd:((lo.all fun o=>!isDefer o.op)&&(Nat.beq t.len lo.length&&(Region.noSelect lo.toArray&&flowT lo.toArray t (Array.replicate lo.length false))))=true:=by kernel_rfl):Wp P r (.region id lo.toArray true) Q a w:=
 c_drawT t bs0 S _ h (fun a w h=>by obtain ⟨y1,vv,h1,h2⟩:=h;exact hK y1 vv a w h1 h2) hm hd
theorem c_forb1 {c:Code}{ι1:Type}(_S:St w0 M0 ds a w l bs fs)(mods:ι1→(Nat→Value)→List (Nat × Value)){l1:ι1→(Nat→Value)→List Value}[∀ x1 uu,SetG l (mods x1 uu) (l1 x1 uu)]   (rel:ι1→Prop)(μ:ι1→Nat)(z1:ι1)(h0:rel z1)(uu0:Nat→Value)(S0:St w0 M0 ds a w (l1 z1 uu0) bs fs)
  (hr:∀ x1 uu a w,rel x1→St w0 M0 ds a w (l1 x1 uu) bs fs→Wp P r c (Exit.then (fun a w=>∃ y1 vv,rel y1∧St w0 M0 ds a w (l1 y1 vv) bs fs∧μ y1 < μ x1) Q) a w):Wp P r (.loop c) Q a w:=by
 refine c_loop (ι:=ι1) (fun p a w=>rel p∧∃ uu,St w0 M0 ds a w (l1 p uu) bs fs) (fun p=>μ p) (z1) ⟨h0,uu0,S0⟩ ?_;rintro p a w ⟨h1,uu,S1⟩;refine wpIn_mono (hr p uu a w h1 S1) fun e a1 w1 hq=>?_
 cases e <;> first | exact hq | skip
 obtain ⟨y1,vv,h2,S2,hm⟩:=hq;exact ⟨y1,⟨h2,vv,S2⟩,hm⟩
theorem c_fore2 {c:Code}{ι1:Type}{ι2:Type}(_S:St w0 M0 ds a w l bs fs)(mods:ι1→ι2→(Nat→Value)→List (Nat × Value)){l1:ι1→ι2→(Nat→Value)→List Value}[∀ x1 x2 uu,SetG l (mods x1 x2 uu) (l1 x1 x2 uu)](bs1:ι1→ι2→List Item)(fs1:ι1→ι2→List (World→Prop))(rel:ι1→ι2→Prop)(μ:ι1→ι2→Nat)(z1:ι1)(z2:ι2)(h0:rel z1 z2)(uu0:Nat→Value)(S0:St w0 M0 ds a w (l1 z1 z2 uu0) (bs1 z1 z2) (fs1 z1 z2))
  (hr:∀ x1 x2 uu a w,rel x1 x2→St w0 M0 ds a w (l1 x1 x2 uu) (bs1 x1 x2) (fs1 x1 x2)→Wp P r c (Exit.then (fun a w=>∃ y1 y2 vv,rel y1 y2∧St w0 M0 ds a w (l1 y1 y2 vv) (bs1 y1 y2) (fs1 y1 y2)∧μ y1 y2 < μ x1 x2) Q) a w):Wp P r (.loop c) Q a w:=by
 refine c_loop (ι:=ι1 × ι2) (fun p a w=>rel (p.1) (p.2)∧∃ uu,St w0 M0 ds a w (l1 (p.1) (p.2) uu) (bs1 (p.1) (p.2)) (fs1 (p.1) (p.2))) (fun p=>μ (p.1) (p.2)) (z1,z2) ⟨h0,uu0,S0⟩ ?_;rintro p a w ⟨h1,uu,S1⟩;refine wpIn_mono (hr (p.1) (p.2) uu a w h1 S1) fun e a1 w1 hq=>?_
 cases e <;> first | exact hq | skip
 obtain ⟨y1,y2,vv,h2,S2,hm⟩:=hq;exact ⟨(y1,y2),⟨h2,vv,S2⟩,hm⟩
theorem c_mrge2 {x y:Code}{ι1:Type}{ι2:Type}(_S:St w0 M0 ds a w l bs fs)(mods:ι1→ι2→(Nat→Value)→List (Nat × Value)){l1:ι1→ι2→(Nat→Value)→List Value}[∀ x1 x2 uu,SetG l (mods x1 x2 uu) (l1 x1 x2 uu)](bs1:ι1→ι2→List Item)(fs1:ι1→ι2→List (World→Prop))(rel:ι1→ι2→Prop)
  (hx:Wp P r x (Exit.then (fun a w=>∃ y1 y2 vv,rel y1 y2∧St w0 M0 ds a w (l1 y1 y2 vv) (bs1 y1 y2) (fs1 y1 y2)) Q) a w) (hy:∀ x1 x2 uu a w,rel x1 x2→St w0 M0 ds a w (l1 x1 x2 uu) (bs1 x1 x2) (fs1 x1 x2)→Wp P r y Q a w):Wp P r (.seq x y) Q a w:=
 c_merge _ hx fun a w h=>by obtain ⟨y1,y2,vv,h1,h2⟩:=h;exact hy y1 y2 vv a w h1 h2
theorem c_drwe2 {id:Nat}{lo:List Oper}{ι1:Type}{ι2:Type}(t:Tr)(S:St w0 M0 ds a w l bs fs)(mods:ι1→ι2→(Nat→Value)→List (Nat × Value)){l1:ι1→ι2→(Nat→Value)→List Value}[∀ x1 x2 uu,SetG l (mods x1 x2 uu) (l1 x1 x2 uu)](bs0:List Item)(bs1:ι1→ι2→List Item)(fs1:ι1→ι2→List (World→Prop))(rel:ι1→ι2→Prop)
  (h:∀ w,St w0 M0 ds a w l bs fs→AT P lo.toArray (fun w=>Wd w0 M0 w bs0 fs) (fun a w=>∃ y1 y2 vv,rel y1 y2∧St w0 M0 ds a w (l1 y1 y2 vv) (bs1 y1 y2) (fs1 y1 y2)) t a w) (hK:∀ x1 x2 uu a w,rel x1 x2→St w0 M0 ds a w (l1 x1 x2 uu) (bs1 x1 x2) (fs1 x1 x2)→Q .normal a w) (hm:P.follows .mixedOrders=true:=by kernel_rfl)
  (hd:((lo.all fun o=>!isDefer o.op)&&(Nat.beq t.len lo.length&&(Region.noSelect lo.toArray&&flowT lo.toArray t (Array.replicate lo.length false))))=true:=by kernel_rfl):Wp P r (.region id lo.toArray true) Q a w:=
 c_drawT t bs0 S _ h (fun a w h=>by obtain ⟨y1,y2,vv,h1,h2⟩:=h;exact hK y1 y2 vv a w h1 h2) hm hd
theorem c_drwe3 {id:Nat}{lo:List Oper}{ι1:Type}{ι2:Type}{ι3:Type}(t:Tr)(S:St w0 M0 ds a w l bs fs)(mods:ι1→ι2→ι3→(Nat→Value)→List (Nat × Value)){l1:ι1→ι2→ι3→(Nat→Value)→List Value}[∀ x1 x2 x3 uu,SetG l (mods x1 x2 x3 uu) (l1 x1 x2 x3 uu)](bs0:List Item)(bs1:ι1→ι2→ι3→List Item)(fs1:ι1→ι2→ι3→List (World→Prop))(rel:ι1→ι2→ι3→Prop)
  (h:∀ w,St w0 M0 ds a w l bs fs→AT P lo.toArray (fun w=>Wd w0 M0 w bs0 fs) (fun a w=>∃ y1 y2 y3 vv,rel y1 y2 y3∧St w0 M0 ds a w (l1 y1 y2 y3 vv) (bs1 y1 y2 y3) (fs1 y1 y2 y3)) t a w) (hK:∀ x1 x2 x3 uu a w,rel x1 x2 x3→St w0 M0 ds a w (l1 x1 x2 x3 uu) (bs1 x1 x2 x3) (fs1 x1 x2 x3)→Q .normal a w) (hm:P.follows .mixedOrders=true:=by kernel_rfl)
  (hd:((lo.all fun o=>!isDefer o.op)&&(Nat.beq t.len lo.length&&(Region.noSelect lo.toArray&&flowT lo.toArray t (Array.replicate lo.length false))))=true:=by kernel_rfl):Wp P r (.region id lo.toArray true) Q a w:=
 c_drawT t bs0 S _ h (fun a w h=>by obtain ⟨y1,y2,y3,vv,h1,h2⟩:=h;exact hK y1 y2 y3 vv a w h1 h2) hm hd
theorem c_fore4 {c:Code}{ι1:Type}{ι2:Type}{ι3:Type}{ι4:Type}(_S:St w0 M0 ds a w l bs fs)(mods:ι1→ι2→ι3→ι4→(Nat→Value)→List (Nat × Value)){l1:ι1→ι2→ι3→ι4→(Nat→Value)→List Value}[∀ x1 x2 x3 x4 uu,SetG l (mods x1 x2 x3 x4 uu) (l1 x1 x2 x3 x4 uu)](bs1:ι1→ι2→ι3→ι4→List Item)(fs1:ι1→ι2→ι3→ι4→List (World→Prop))(rel:ι1→ι2→ι3→ι4→Prop)(μ:ι1→ι2→ι3→ι4→Nat)(z1:ι1)(z2:ι2)(z3:ι3)(z4:ι4)(h0:rel z1 z2 z3 z4)(uu0:Nat→Value)(S0:St w0 M0 ds a w (l1 z1 z2 z3 z4 uu0) (bs1 z1 z2 z3 z4) (fs1 z1 z2 z3 z4))
  (hr:∀ x1 x2 x3 x4 uu a w,rel x1 x2 x3 x4→St w0 M0 ds a w (l1 x1 x2 x3 x4 uu) (bs1 x1 x2 x3 x4) (fs1 x1 x2 x3 x4)→Wp P r c (Exit.then (fun a w=>∃ y1 y2 y3 y4 vv,rel y1 y2 y3 y4∧St w0 M0 ds a w (l1 y1 y2 y3 y4 vv) (bs1 y1 y2 y3 y4) (fs1 y1 y2 y3 y4)∧μ y1 y2 y3 y4 < μ x1 x2 x3 x4) Q) a w):Wp P r (.loop c) Q a w:=by
 refine c_loop (ι:=ι1 × ι2 × ι3 × ι4) (fun p a w=>rel (p.1) (p.2.1) (p.2.2.1) (p.2.2.2)∧∃ uu,St w0 M0 ds a w (l1 (p.1) (p.2.1) (p.2.2.1) (p.2.2.2) uu) (bs1 (p.1) (p.2.1) (p.2.2.1) (p.2.2.2)) (fs1 (p.1) (p.2.1) (p.2.2.1) (p.2.2.2))) (fun p=>μ (p.1) (p.2.1) (p.2.2.1) (p.2.2.2)) (z1,z2,z3,z4) ⟨h0,uu0,S0⟩ ?_;rintro p a w ⟨h1,uu,S1⟩;refine wpIn_mono (hr (p.1) (p.2.1) (p.2.2.1) (p.2.2.2) uu a w h1 S1) fun e a1 w1 hq=>?_
 cases e <;> first | exact hq | skip
 obtain ⟨y1,y2,y3,y4,vv,h2,S2,hm⟩:=hq;exact ⟨(y1,y2,y3,y4),⟨h2,vv,S2⟩,hm⟩
theorem c_mrge4 {x y:Code}{ι1:Type}{ι2:Type}{ι3:Type}{ι4:Type}(S:St w0 M0 ds a w l bs fs)(mods:ι1→ι2→ι3→ι4→(Nat→Value)→List (Nat × Value)){l1:ι1→ι2→ι3→ι4→(Nat→Value)→List Value}[∀ x1 x2 x3 x4 uu,SetG l (mods x1 x2 x3 x4 uu) (l1 x1 x2 x3 x4 uu)](bs1:ι1→ι2→ι3→ι4→List Item)(fs1:ι1→ι2→ι3→ι4→List (World→Prop))(rel:ι1→ι2→ι3→ι4→Prop)
  (hx:Wp P r x (Exit.then (fun a w=>∃ y1 y2 y3 y4 vv,rel y1 y2 y3 y4∧St w0 M0 ds a w (l1 y1 y2 y3 y4 vv) (bs1 y1 y2 y3 y4) (fs1 y1 y2 y3 y4)) Q) a w) (hy:∀ x1 x2 x3 x4 uu a w,rel x1 x2 x3 x4→St w0 M0 ds a w (l1 x1 x2 x3 x4 uu) (bs1 x1 x2 x3 x4) (fs1 x1 x2 x3 x4)→Wp P r y Q a w):Wp P r (.seq x y) Q a w:=
 c_merge _ hx fun a w h=>by obtain ⟨y1,y2,y3,y4,vv,h1,h2⟩:=h;exact hy y1 y2 y3 y4 vv a w h1 h2
theorem c_fore5 {c:Code}{ι1:Type}{ι2:Type}{ι3:Type}{ι4:Type}{ι5:Type}(_S:St w0 M0 ds a w l bs fs)(mods:ι1→ι2→ι3→ι4→ι5→(Nat→Value)→List (Nat × Value)){l1:ι1→ι2→ι3→ι4→ι5→(Nat→Value)→List Value}[∀ x1 x2 x3 x4 x5 uu,SetG l (mods x1 x2 x3 x4 x5 uu) (l1 x1 x2 x3 x4 x5 uu)](bs1:ι1→ι2→ι3→ι4→ι5→List Item)(fs1:ι1→ι2→ι3→ι4→ι5→List (World→Prop))(rel:ι1→ι2→ι3→ι4→ι5→Prop)(μ:ι1→ι2→ι3→ι4→ι5→Nat)(z1:ι1)(z2:ι2)(z3:ι3)(z4:ι4)(z5:ι5)(h0:rel z1 z2 z3 z4 z5)(uu0:Nat→Value)(S0:St w0 M0 ds a w (l1 z1 z2 z3 z4 z5 uu0) (bs1 z1 z2 z3 z4 z5) (fs1 z1 z2 z3 z4 z5))
  (hr:∀ x1 x2 x3 x4 x5 uu a w,rel x1 x2 x3 x4 x5→St w0 M0 ds a w (l1 x1 x2 x3 x4 x5 uu) (bs1 x1 x2 x3 x4 x5) (fs1 x1 x2 x3 x4 x5)→Wp P r c (Exit.then (fun a w=>∃ y1 y2 y3 y4 y5 vv,rel y1 y2 y3 y4 y5∧St w0 M0 ds a w (l1 y1 y2 y3 y4 y5 vv) (bs1 y1 y2 y3 y4 y5) (fs1 y1 y2 y3 y4 y5)∧μ y1 y2 y3 y4 y5 < μ x1 x2 x3 x4 x5) Q) a w):Wp P r (.loop c) Q a w:=by
 refine c_loop (ι:=ι1 × ι2 × ι3 × ι4 × ι5) (fun p a w=>rel (p.1) (p.2.1) (p.2.2.1) (p.2.2.2.1) (p.2.2.2.2)∧∃ uu,St w0 M0 ds a w (l1 (p.1) (p.2.1) (p.2.2.1) (p.2.2.2.1) (p.2.2.2.2) uu) (bs1 (p.1) (p.2.1) (p.2.2.1) (p.2.2.2.1) (p.2.2.2.2)) (fs1 (p.1) (p.2.1) (p.2.2.1) (p.2.2.2.1) (p.2.2.2.2))) (fun p=>μ (p.1) (p.2.1) (p.2.2.1) (p.2.2.2.1) (p.2.2.2.2)) (z1,z2,z3,z4,z5) ⟨h0,uu0,S0⟩ ?_;rintro p a w ⟨h1,uu,S1⟩;refine wpIn_mono (hr (p.1) (p.2.1) (p.2.2.1) (p.2.2.2.1) (p.2.2.2.2) uu a w h1 S1) fun e a1 w1 hq=>?_
 cases e <;> first | exact hq | skip
 obtain ⟨y1,y2,y3,y4,y5,vv,h2,S2,hm⟩:=hq;exact ⟨(y1,y2,y3,y4,y5),⟨h2,vv,S2⟩,hm⟩
theorem c_drwe5 {id:Nat}{lo:List Oper}{ι1:Type}{ι2:Type}{ι3:Type}{ι4:Type}{ι5:Type}(t:Tr)(S:St w0 M0 ds a w l bs fs)(mods:ι1→ι2→ι3→ι4→ι5→(Nat→Value)→List (Nat × Value)){l1:ι1→ι2→ι3→ι4→ι5→(Nat→Value)→List Value}[∀ x1 x2 x3 x4 x5 uu,SetG l (mods x1 x2 x3 x4 x5 uu) (l1 x1 x2 x3 x4 x5 uu)](bs0:List Item)(bs1:ι1→ι2→ι3→ι4→ι5→List Item)(fs1:ι1→ι2→ι3→ι4→ι5→List (World→Prop))(rel:ι1→ι2→ι3→ι4→ι5→Prop)
  (h:∀ w,St w0 M0 ds a w l bs fs→AT P lo.toArray (fun w=>Wd w0 M0 w bs0 fs) (fun a w=>∃ y1 y2 y3 y4 y5 vv,rel y1 y2 y3 y4 y5∧St w0 M0 ds a w (l1 y1 y2 y3 y4 y5 vv) (bs1 y1 y2 y3 y4 y5) (fs1 y1 y2 y3 y4 y5)) t a w) (hK:∀ x1 x2 x3 x4 x5 uu a w,rel x1 x2 x3 x4 x5→St w0 M0 ds a w (l1 x1 x2 x3 x4 x5 uu) (bs1 x1 x2 x3 x4 x5) (fs1 x1 x2 x3 x4 x5)→Q .normal a w) (hm:P.follows .mixedOrders=true:=by kernel_rfl)
  (hd:((lo.all fun o=>!isDefer o.op)&&(Nat.beq t.len lo.length&&(Region.noSelect lo.toArray&&flowT lo.toArray t (Array.replicate lo.length false))))=true:=by kernel_rfl):Wp P r (.region id lo.toArray true) Q a w:=
 c_drawT t bs0 S _ h (fun a w h=>by obtain ⟨y1,y2,y3,y4,y5,vv,h1,h2⟩:=h;exact hK y1 y2 y3 y4 y5 vv a w h1 h2) hm hd
theorem c_mrgf5 {x y:Code}{ι1:Type}{ι2:Type}{ι3:Type}{ι4:Type}{ι5:Type}(S:St w0 M0 ds a w l bs fs)(mods:ι1→ι2→ι3→ι4→ι5→(Nat→Value)→List (Nat × Value)){l1:ι1→ι2→ι3→ι4→ι5→(Nat→Value)→List Value}[∀ x1 x2 x3 x4 x5 uu,SetG l (mods x1 x2 x3 x4 x5 uu) (l1 x1 x2 x3 x4 x5 uu)](bs1:ι1→ι2→ι3→ι4→ι5→List Item)  (rel:ι1→ι2→ι3→ι4→ι5→Prop)
  (hx:Wp P r x (Exit.then (fun a w=>∃ y1 y2 y3 y4 y5 vv,rel y1 y2 y3 y4 y5∧St w0 M0 ds a w (l1 y1 y2 y3 y4 y5 vv) (bs1 y1 y2 y3 y4 y5) fs) Q) a w) (hy:∀ x1 x2 x3 x4 x5 uu a w,rel x1 x2 x3 x4 x5→St w0 M0 ds a w (l1 x1 x2 x3 x4 x5 uu) (bs1 x1 x2 x3 x4 x5) fs→Wp P r y Q a w):Wp P r (.seq x y) Q a w:=
 c_merge _ hx fun a w h=>by obtain ⟨y1,y2,y3,y4,y5,vv,h1,h2⟩:=h;exact hy y1 y2 y3 y4 y5 vv a w h1 h2
theorem c_fore6 {c:Code}{ι1:Type}{ι2:Type}{ι3:Type}{ι4:Type}{ι5:Type}{ι6:Type}(_S:St w0 M0 ds a w l bs fs)(mods:ι1→ι2→ι3→ι4→ι5→ι6→(Nat→Value)→List (Nat × Value)){l1:ι1→ι2→ι3→ι4→ι5→ι6→(Nat→Value)→List Value}[∀ x1 x2 x3 x4 x5 x6 uu,SetG l (mods x1 x2 x3 x4 x5 x6 uu) (l1 x1 x2 x3 x4 x5 x6 uu)](bs1:ι1→ι2→ι3→ι4→ι5→ι6→List Item)(fs1:ι1→ι2→ι3→ι4→ι5→ι6→List (World→Prop))(rel:ι1→ι2→ι3→ι4→ι5→ι6→Prop)(μ:ι1→ι2→ι3→ι4→ι5→ι6→Nat)(z1:ι1)(z2:ι2)(z3:ι3)(z4:ι4)(z5:ι5)(z6:ι6)(h0:rel z1 z2 z3 z4 z5 z6)(uu0:Nat→Value)(S0:St w0 M0 ds a w (l1 z1 z2 z3 z4 z5 z6 uu0) (bs1 z1 z2 z3 z4 z5 z6) (fs1 z1 z2 z3 z4 z5 z6))
  (hr:∀ x1 x2 x3 x4 x5 x6 uu a w,rel x1 x2 x3 x4 x5 x6→St w0 M0 ds a w (l1 x1 x2 x3 x4 x5 x6 uu) (bs1 x1 x2 x3 x4 x5 x6) (fs1 x1 x2 x3 x4 x5 x6)→Wp P r c (Exit.then (fun a w=>∃ y1 y2 y3 y4 y5 y6 vv,rel y1 y2 y3 y4 y5 y6∧St w0 M0 ds a w (l1 y1 y2 y3 y4 y5 y6 vv) (bs1 y1 y2 y3 y4 y5 y6) (fs1 y1 y2 y3 y4 y5 y6)∧μ y1 y2 y3 y4 y5 y6 < μ x1 x2 x3 x4 x5 x6) Q) a w):Wp P r (.loop c) Q a w:=by
 refine c_loop (ι:=ι1 × ι2 × ι3 × ι4 × ι5 × ι6) (fun p a w=>rel (p.1) (p.2.1) (p.2.2.1) (p.2.2.2.1) (p.2.2.2.2.1) (p.2.2.2.2.2)∧∃ uu,St w0 M0 ds a w (l1 (p.1) (p.2.1) (p.2.2.1) (p.2.2.2.1) (p.2.2.2.2.1) (p.2.2.2.2.2) uu) (bs1 (p.1) (p.2.1) (p.2.2.1) (p.2.2.2.1) (p.2.2.2.2.1) (p.2.2.2.2.2)) (fs1 (p.1) (p.2.1) (p.2.2.1) (p.2.2.2.1) (p.2.2.2.2.1) (p.2.2.2.2.2))) (fun p=>μ (p.1) (p.2.1) (p.2.2.1) (p.2.2.2.1) (p.2.2.2.2.1) (p.2.2.2.2.2)) (z1,z2,z3,z4,z5,z6) ⟨h0,uu0,S0⟩ ?_;rintro p a w ⟨h1,uu,S1⟩;refine wpIn_mono (hr (p.1) (p.2.1) (p.2.2.1) (p.2.2.2.1) (p.2.2.2.2.1) (p.2.2.2.2.2) uu a w h1 S1) fun e a1 w1 hq=>?_
 cases e <;> first | exact hq | skip
 obtain ⟨y1,y2,y3,y4,y5,y6,vv,h2,S2,hm⟩:=hq;exact ⟨(y1,y2,y3,y4,y5,y6),⟨h2,vv,S2⟩,hm⟩
end
class ItOk (x:Item):Prop where
 loc:∀ w1 w2:World,(∀ k,x.foot k→w2.heap[k]? = w1.heap[k]?)→x.holds w1→x.holds w2
 lt:∀ w:World,x.holds w→∀ k,x.foot k→k < w.heap.size
instance itBox {b:Nat}{t:TypeId}{cs:List Value} : ItOk (box b t cs):=⟨box_loc b t cs,fun w h k hk=>by simp only[box]at hk h;subst hk;exact (Array.getElem?_eq_some_iff.1 h).1⟩
instance itRow {e:TypeId}{sz:Nat}{p:Option Addr}{n c:Nat}{xs:List Value} : ItOk (row e sz p n c xs):=⟨row_loc e sz p n c xs,fun _ h=>row_foot_lt h⟩
def both (x y:Item):Item where
 foot:=fun k=>x.foot k∨y.foot k
 holds:=fun w=>x.holds w∧y.holds w∧∀ k,x.foot k→¬y.foot k
 own:=x.own&&y.own
instance itBoth {x y:Item}[hx:ItOk x][hy:ItOk y]:ItOk (both x y):=⟨fun w1 w2 h h1=>⟨hx.loc w1 w2 (fun k hk=>h k (.inl hk)) h1.1,hy.loc w1 w2 (fun k hk=>h k (.inr hk)) h1.2.1,h1.2.2⟩,fun w h k hk=>hk.elim (hx.lt w h.1 k) (hy.lt w h.2.1 k)⟩
theorem foots_both {x y:Item}{bs:List Item} : foots (both x y::bs)=foots (x::y::bs):=by
 funext k
 simp only[foots,List.mem_cons,or_and_right,exists_or,exists_eq_left,both,or_assoc]
section
variable {w0:World}{M0:Nat→Prop}{ds:List Deferred}{a:Act}{w:World}{l:List Value}{bs bs':List Item}{fs:List (World→Prop)}{x y:Item}
theorem Wd.toBoth [ox:ItOk x][oy:ItOk y](h:Wd w0 M0 w (x::y::bs) fs)(hx:x.own=true)(hy:y.own=true):Wd w0 M0 w (both x y::bs) fs:=by
 have hp:=List.pairwise_cons.1 h.apart;have hp2:=List.pairwise_cons.1 hp.2;have hap:∀ k,x.foot k→¬y.foot k:=hp.1 y (by simp);refine ⟨h.agree,?_,?_,?_,?_,?_,?_⟩;intro it hi;rcases List.mem_cons.1 hi with rfl | hi
 exact ⟨h.held x (by simp),h.held y (by simp),hap⟩;exact h.held it (by simp[hi]);intro it hi k hk;rcases List.mem_cons.1 hi with rfl | hi
 exact hk.elim (h.lt x (by simp) k) (h.lt y (by simp) k);exact h.lt it (by simp[hi]) k hk;intro it hi ho k hk;rcases List.mem_cons.1 hi with rfl | hi
 exact hk.elim (h.own x (by simp) hx k) (h.own y (by simp) hy k);exact h.own it (by simp[hi]) ho k hk;exact List.pairwise_cons.2 ⟨fun it hi k hk=>hk.elim (hp.1 it (by simp[hi]) k) (hp2.1 it hi k),hp2.2⟩;intro Φ hΦ;rw[foots_both];exact h.facts Φ hΦ;intro it hi;rcases List.mem_cons.1 hi with rfl | hi
 exact (itBoth (x:=x) (y:=y)).loc;exact h.loc it (by simp[hi])
theorem Wd.ofBoth [ox:ItOk x][oy:ItOk y](h:Wd w0 M0 w (both x y::bs) fs)(hx:x.own=true)(hy:y.own=true):Wd w0 M0 w (x::y::bs) fs:=by
 have hb:=h.held (both x y) (by simp);have hp:=List.pairwise_cons.1 h.apart;have hown:=h.own (both x y) (by simp) (by simp[both,hx,hy]);refine ⟨h.agree,?_,?_,?_,?_,?_,?_⟩;intro it hi;rcases List.mem_cons.1 hi with rfl | hi
 exact hb.1;rcases List.mem_cons.1 hi with rfl | hi
 exact hb.2.1;exact h.held it (by simp[hi]);intro it hi k hk;rcases List.mem_cons.1 hi with rfl | hi
 exact h.lt (both it y) (by simp) k (.inl hk);rcases List.mem_cons.1 hi with rfl | hi
 exact h.lt (both x it) (by simp) k (.inr hk);exact h.lt it (by simp[hi]) k hk;intro it hi ho k hk;rcases List.mem_cons.1 hi with rfl | hi
 exact hown k (.inl hk);rcases List.mem_cons.1 hi with rfl | hi
 exact hown k (.inr hk);exact h.own it (by simp[hi]) ho k hk;refine List.pairwise_cons.2 ⟨fun it hi k hk=>?_,List.pairwise_cons.2 ⟨fun it hi k hk=>hp.1 it hi k (.inr hk),hp.2⟩⟩;rcases List.mem_cons.1 hi with rfl | hi
 exact hb.2.2 k hk;exact hp.1 it hi k (.inl hk);intro Φ hΦ;rw[←foots_both];exact h.facts Φ hΦ;intro it hi;rcases List.mem_cons.1 hi with rfl | hi
 exact ox.loc;rcases List.mem_cons.1 hi with rfl | hi
 exact oy.loc;exact h.loc it (by simp[hi])
theorem St.perm (S:St w0 M0 ds a w l bs fs)(bs':List Item)(hp:bs'.Perm bs):St w0 M0 ds a w l bs' fs:=⟨S.slots,S.defers,S.wd.perm hp⟩
theorem St.front (S:St w0 M0 ds a w l bs fs)(x:Item)[hd:DropI bs x bs']:St w0 M0 ds a w l (x::bs') fs:=S.perm _ hd.perm
theorem St.toBoth [ItOk x][ItOk y](S:St w0 M0 ds a w l (x::y::bs) fs)(hx:x.own=true:=by rfl)(hy:y.own=true:=by rfl):St w0 M0 ds a w l (both x y::bs) fs:=⟨S.slots,S.defers,S.wd.toBoth hx hy⟩
theorem St.ofBoth [ItOk x][ItOk y](S:St w0 M0 ds a w l (both x y::bs) fs)(hx:x.own=true:=by rfl)(hy:y.own=true:=by rfl):St w0 M0 ds a w l (x::y::bs) fs:=⟨S.slots,S.defers,S.wd.ofBoth hx hy⟩
theorem Wd.itLent {x:Item}[ox:ItOk x](h:x.holds w)(hf:∀ Φ∈fs,Stable x.foot w Φ):Wd w x.foot w [x] fs:=by
 refine ⟨Agree.refl _ _,?_,?_,?_,by simp,?_,?_⟩;intro it hi;obtain rfl:=List.mem_singleton.1 hi;exact h;intro it hi;obtain rfl:=List.mem_singleton.1 hi;exact ox.lt w h;intro it hi _ k hk;obtain rfl:=List.mem_singleton.1 hi;exact .inl hk;intro Φ hΦ;refine (hf Φ hΦ).less fun k _ hk=>?_
 obtain ⟨it,hi,hk⟩:=hk;obtain rfl:=List.mem_singleton.1 hi;exact hk;intro it hi;obtain rfl:=List.mem_singleton.1 hi;exact ox.loc
theorem Wd.it2Lent {x y:Item}[ox:ItOk x][oy:ItOk y](h:(both x y).holds w)(hx:x.own=true)(hy:y.own=true)(hf:∀ Φ∈fs,Stable (both x y).foot w Φ):Wd w (both x y).foot w [x,y] fs:=(Wd.itLent h hf).ofBoth hx hy
class HasIt (bs:List Item)(x:Item):Prop where mem:x∈bs
instance hit0 {x:Item}{bs:List Item} : HasIt (x::bs) x:=⟨List.mem_cons_self ..⟩
instance (priority:=900) hit1 {x y:Item}{bs:List Item}[h:HasIt bs x]:HasIt (y::bs) x:=⟨List.mem_cons_of_mem _ h.mem⟩
theorem St.it (S:St w0 M0 ds a w l bs fs)(x:Item)[h:HasIt bs x]:x.holds w:=S.wd.held _ h.mem
theorem St.lend (_S:St w0 M0 ds a w l bs fs)(x:Item)[h:HasIt bs x]{Φ:World→Prop}(hΦ:Stable (foots bs) w Φ):Stable x.foot w Φ:=hΦ.less fun _ _ hk=>⟨_,h.mem,hk⟩
theorem St.itNew (S:St w0 M0 ds a w l bs fs)(x:Item)[h:HasIt bs x](ho:x.own=true:=by rfl):∀ k,x.foot k→M0 k∨w0.heap.size≤k:=S.wd.own _ h.mem ho
end
section
variable {P:Program}{r:Option Nat}{ops:Array Oper}{Q:Exit→Act→World→Prop}{w0:World}{M0:Nat→Prop}{ds:List Deferred}{a:Act}{w:World}{l:List Value}{bs:List Item}{fs:List (World→Prop)}
 {d:Option Nat} {ty:TypeId} {pos:String} {af:Array Edge} {rest:List Oper} {f:Nat} {x:Operand} {ys:List Operand} {args:List Value} {ts:Array TypeId}
theorem sit {l':Value→List Value}(it:Item)[EntF P f][CallTo ⟨[],l⟩ x ys f args][hp:∀ v,PutO l d v (l' v)](S:St w0 M0 ds a w l bs fs){R:Value→World→Prop}(hc:Ret P f args w it.foot R)(ho:it.own=true)
  (K:∀ v a w',R v w'→(∀ (y:Item) {bs':List Item} [ReplI bs it y bs'] [ItOk y],y.holds w'→(∀ k,y.foot k→it.foot k∨w.heap.size≤k)→St w0 M0 ds a w' (l' v) bs' fs)→WL P r ops Q rest a w') :
  WL P r ops Q (⟨d,.call { callee:=.value x,args:=ys.toArray,argTypes:=ts },ty,pos,af,none⟩::rest) a w:=
 sri it S hc ho fun v a w' hR hS=>K v a w' hR fun y bs' hr oy h hf=>hS y bs' hr h hf (oy.lt w' h) oy.loc
theorem snew {l':Value→List Value}[EntF P f][CallTo ⟨[],l⟩ x ys f args][hp:∀ v,PutO l d v (l' v)](S:St w0 M0 ds a w l bs fs){R:Value→World→Prop}(hc:Ret P f args w (fun _=>False) R)
  (K:∀ v a w',w.heap.size≤w'.heap.size→R v w'→(∀ (y:Item) [ItOk y],y.holds w'→(∀ k,y.foot k→w.heap.size≤k)→St w0 M0 ds a w' (l' v) (y::bs) fs)→St w0 M0 ds a w' (l' v) bs fs→WL P r ops Q rest a w') :
  WL P r ops Q (⟨d,.call { callee:=.value x,args:=ys.toArray,argTypes:=ts },ty,pos,af,none⟩::rest) a w:=by
 refine cv_any S hc ?_;rintro e w' ⟨v,rfl,ha,hR⟩;have:=hp v;have S':=S.put (d:=d) (v:=v);exact ⟨v,rfl,K v _ w' ha.size hR (fun y oy hy hf=>⟨S'.slots,S'.defers,S'.wd.addItem ha hy hf (oy.lt w' hy) oy.loc⟩) ⟨S'.slots,S'.defers,S'.wd.step ha⟩⟩
end
instance (priority:=900) lecZ {a:Nat} : LeC 0 a:=⟨Nat.zero_le _⟩
theorem str_cut (s:List UInt8)(lo hi:Nat):(⟨s.toArray⟩:ByteArray).extract lo hi=⟨((s.take hi).drop lo).toArray⟩:=by
 apply ByteArray.ext;rw[ByteArray.data_extract];simp[List.extract_eq_take_drop,List.drop_take]
section
variable {P:Program}{l lc:Cx}{bs:List Item}{fs:List (World→Prop)}{x y:Operand}{p:Option Addr}{n c k:Nat}{t ty e:TypeId}{z:Value}{sz by_:Nat}{ol oh om:Option Operand}{lo hi mx:Nat}{s:List UInt8}
instance opSliceStr [Ev lc x (str s)][hl:EvB lc ol 0 lo][hh:EvB lc oh s.length hi][Und P t .string][h1:LeC hi s.length][h2:LeC lo hi]:OpQ P (.slice t x ol oh none) ty lc bs fs (str ((s.take hi).drop lo)):=⟨fun ρ w hf _=>by
 have eX:ρ x=str s:=hf.ev;have hb:(Instr.sliceBounds false s.length s.length (ol.map ρ) (oh.map ρ) none).run P w=.ok (lo,hi,s.length) w:=by
  rcases hh.eq with ⟨rfl,rfl⟩ | ⟨o2,kk2,rfl,h'⟩
  rcases hl.eq with ⟨rfl,rfl⟩ | ⟨o3,kk3,rfl,h''⟩
  simp[Instr.sliceBounds];have e3:=hf.ev (x:=o3) (v:=.int kk3 (lo:Int));simp[Instr.sliceBounds,e3,run_sliceBound h2.le];have e2:=hf.ev (x:=o2) (v:=.int kk2 (hi:Int));rcases hl.eq with ⟨rfl,rfl⟩ | ⟨o3,kk3,rfl,h''⟩
  simp[Instr.sliceBounds,e2,run_sliceBound h1.le];have e3:=hf.ev (x:=o3) (v:=.int kk3 (lo:Int));simp[Instr.sliceBounds,Sem.run_bind,e2,e3,run_sliceBound h1.le,run_sliceBound h2.le]
 have hsz:(⟨s.toArray⟩:ByteArray).size=s.length:=rfl;simp[xop,execOp,eX,Instr.sliceAt,Instr.slice,Sem.run_bind,run_und,hsz,hb,str_cut]⟩
instance (priority:=710) opSliceQ0 [Ev lc x (.slice p n c)][EvB lc oh n hi][EvB lc om c mx][Und P t (.slice e)][TI P e z sz by_][h1:LeC mx c][h2:LeC hi mx][h4:HiOk om oh] :
  OpQ P (.slice t x none oh om) ty lc bs fs (.slice p hi mx):=⟨fun ρ w h _=>by
 have:=run_cut (P:=P) (ρ:=ρ) (lc:=lc) (ol:=none) (oh:=oh) (om:=om) (lo:=0) (hi:=hi) (mx:=mx) (t:=t) (e:=e) (z:=z) (sz:=sz) (by_:=by_) (x:=x) (p:=p) (n:=n) (c:=c) (ty:=ty) h h1.le h2.le (Nat.zero_le _) h4.ok w;rw[this];have e1:(if mx=0 then p else p.map (·.add (0*sz)))=p:=by
  split;rfl;cases p <;> simp[Addr.add]
 rw[e1];simp⟩
end
theorem Wd.itLentM {w:World}{fs:List (World→Prop)}{x:Item}{Mr:Nat→Prop}[ox:ItOk x](h:x.holds w)(hM:∀ k,Mr k→k < w.heap.size∧¬x.foot k)(hf:∀ Φ∈fs,Stable (fun k=>x.foot k∨Mr k) w Φ):Wd w x.foot w [x,ext Mr] fs:=by
 refine ⟨Agree.refl _ _,?_,?_,?_,?_,?_,?_⟩;intro it hi;rcases List.mem_cons.1 hi with rfl | hi
 exact h;obtain rfl:=List.mem_singleton.1 hi;trivial;intro it hi k hk;rcases List.mem_cons.1 hi with rfl | hi
 exact ox.lt w h k hk;obtain rfl:=List.mem_singleton.1 hi;exact (hM k hk).1;intro it hi ho k hk;rcases List.mem_cons.1 hi with rfl | hi
 exact .inl hk;obtain rfl:=List.mem_singleton.1 hi;cases ho;refine List.pairwise_cons.2 ⟨fun it hi k hk hk'=>?_,by simp⟩;obtain rfl:=List.mem_singleton.1 hi;exact (hM k hk').2 hk;intro Φ hΦ;refine (hf Φ hΦ).less fun k _ hk=>?_
 obtain ⟨it,hi,hk⟩:=hk;rcases List.mem_cons.1 hi with rfl | hi
 exact .inl hk;obtain rfl:=List.mem_singleton.1 hi;exact .inr hk;intro it hi;rcases List.mem_cons.1 hi with rfl | hi
 exact ox.loc;obtain rfl:=List.mem_singleton.1 hi;exact fun _ _ _ _=>trivial
theorem Wd.it2LentM {w:World}{fs:List (World→Prop)}{x y:Item}{Mr:Nat→Prop}[ox:ItOk x][oy:ItOk y](h:(both x y).holds w)(hx:x.own=true)(hy:y.own=true)(hM:∀ k,Mr k→k < w.heap.size∧¬(both x y).foot k)(hf:∀ Φ∈fs,Stable (fun k=>(both x y).foot k∨Mr k) w Φ):Wd w (both x y).foot w [x,y,ext Mr] fs:=(Wd.itLentM h hM hf).ofBoth hx hy
def restOf (bs:List Item)(x:Item):Nat→Prop:=fun k=>foots bs k∧¬x.foot k
theorem St.restOk {w0:World}{M0:Nat→Prop}{ds:List Deferred}{a:Act}{w:World}{l:List Value}{bs:List Item}{fs:List (World→Prop)}(S:St w0 M0 ds a w l bs fs)(x:Item):∀ k,restOf bs x k→k < w.heap.size∧¬x.foot k:=fun k h=>⟨foots_lt S k h.1,h.2⟩
theorem Stable.split {bs:List Item}{w:World}{Φ:World→Prop}(x:Item)[hx:HasIt bs x](h:Stable (foots bs) w Φ):Stable (fun k=>x.foot k∨restOf bs x k) w Φ:=h.less fun _ _ hk=>hk.elim (fun h=>⟨x,hx.mem,h⟩) (fun h=>h.1)
section
variable {P:Program}{r:Option Nat}{ops:Array Oper}{Q:Exit→Act→World→Prop}{w0:World}{M0:Nat→Prop}{ds:List Deferred}{a:Act}{w:World}{l:List Value}{bs bs':List Item}{fs:List (World→Prop)}
 {d:Option Nat} {ty:TypeId} {pos:String} {af:Array Edge} {rest:List Oper} {f:Nat} {x:Operand} {ys:List Operand} {args:List Value} {ts:Array TypeId}
theorem St.addAll (S:St w0 M0 ds a w l bs fs):∀ (fs2:List (World→Prop)),(∀ Φ∈fs2,Stable (foots bs) w Φ)→St w0 M0 ds a w l bs (fs2++fs)
 | [],_=>S
 | Φ::fs2,h=>(St.addAll S fs2 (fun Ψ hΨ=>h Ψ (by simp[hΨ]))).add (h Φ (by simp))
theorem sitM {l':Value→List Value}(it:Item)[EntF P f][CallTo ⟨[],l⟩ x ys f args][hp:∀ v,PutO l d v (l' v)](S:St w0 M0 ds a w l bs fs){R:Value→World→Prop}(hc:Ret P f args w it.foot R)(ho:it.own=true)
  (K:∀ v a w',R v w'→(∀ (y:Item) (fs2:List (World→Prop)) {fs3:List (World→Prop)} {bs':List Item} [AppL fs2 fs fs3] [ReplI bs it y bs'] [ItOk y],y.holds w'→(∀ k,y.foot k→it.foot k∨w.heap.size≤k)→(∀ Φ∈fs2,Stable (fun k=>y.foot k∨restOf bs it k) w' Φ)→St w0 M0 ds a w' (l' v) bs' fs3)→WL P r ops Q rest a w') :
  WL P r ops Q (⟨d,.call { callee:=.value x,args:=ys.toArray,argTypes:=ts },ty,pos,af,none⟩::rest) a w:=by
 have hap:=S.wd.apart;refine sit it S hc ho fun v a w' hR hS=>K v a w' hR fun y fs2 fs3 bs' happ hr oy hy hf hfs=>?_
 rw[←happ.eq];refine (hS y hy hf).addAll fs2 fun Φ hΦ=>(hfs Φ hΦ).less fun k _ hk=>?_
 obtain ⟨pre,post,rfl,rfl⟩:=hr.ex;obtain ⟨z,hz,hk⟩:=hk;have hp:=List.pairwise_append.1 hap;rcases List.mem_append.1 hz with hz | hz
 exact .inr ⟨⟨z,by simp[hz],hk⟩,hp.2.2 z hz it (by simp) k hk⟩;rcases List.mem_cons.1 hz with rfl | hz
 exact .inl hk;exact .inr ⟨⟨z,by simp[hz],hk⟩,fun hx=>(List.pairwise_cons.1 hp.2.1).1 z hz k hx hk⟩
theorem St.boxToF (S:St w0 M0 ds a w l bs fs)(b:Nat){t:TypeId}{cs:List Value}[_hb:HasBox bs b t cs][hd:DropI bs (Wk.box b t cs) bs']:St w0 M0 ds a w l bs' (BoxF b t cs::fs):=by
 have S1:=S.perm _ hd.perm;have hap:=List.pairwise_cons.1 S1.wd.apart;have hbx:BoxF b t cs w:=S1.wd.held (Wk.box b t cs) (by simp);have S2:St w0 M0 ds a w l bs' fs:=⟨S1.slots,S1.defers,S1.wd.sub (.cons _ (.refl _)) (.refl _)⟩;exact S2.add (BoxF.stable hbx fun ⟨it,hi,hk⟩=>hap.1 it hi b rfl hk)
end
section
variable {P:Program}{l:Cx}{bs:List Item}{fs:List (World→Prop)}{x y:Operand}{k:Nat}{kk:IntKind}{m:Int}{t ty:TypeId}{s:List UInt8}
instance opIndexStr [Ev l x (str s)][Ev l y (.int kk m)][Und P t .string][hm:IsNat m k][hk:KLt k s.length]:OpQ P (.index t x y) ty l bs fs (.int .u8 ((nthG s k).toNat:Int)):=⟨fun ρ w h _=>by
 have h2:=hm.eq;subst h2;have hlt:=hk.lt;have hsz:k < (⟨s.toArray⟩:ByteArray).size:=hlt;have hb:(⟨s.toArray⟩:ByteArray)[k]? = some (nthG s k):=by
  rw[getElem?_pos (⟨s.toArray⟩:ByteArray) k hsz];have:(⟨s.toArray⟩:ByteArray)[k]=s[k]:=rfl;rw[this];have:=nthG_get hlt;rw[List.getElem?_eq_getElem hlt]at this;exact this
 simp[xop,execOp,h.ev (x:=x) (v:=str s),h.ev (x:=y) (v:=.int kk (k:Int)),Instr.index,asIntOf,Sem.run_bind,run_und,hb]⟩
end
def idxG {α:Type}(q:α→Bool):List α→Int→Int
 | [],_=>-1
 | x::xs,i=>if q x then i else idxG q xs (i+1)
theorem idxG_any {α:Type}(q:α→Bool):∀ (xs:List α) (i:Int),0≤i→(decide (0≤idxG q xs i)=xs.any q)
 | [],i,h=>by simp[idxG]
 | x::xs,i,h=>by
  rw[idxG,List.any_cons];cases hq:q x with
  | true=>simp[h]
  | false=>simpa using idxG_any q xs (i+1) (by omega)
theorem encL_takeG {α:Type}[Enc α](xs:List α)(m:Nat):encL (xs.take m)=(encL xs).take (m*Enc.sz α):=(encL_take xs m).symm
theorem GlF.take {α:Type}[Lay α]{p:Option Addr}{xs:List α}{w:World}(m:Nat)(h:GlF p xs w):GlF p (xs.take m) w:=by
 refine ⟨⟨fun hp=>by rw[encL_takeG,h.1.1 hp];simp,fun ad hp j u hj=>h.1.2 ad hp j u ?_⟩,fun x hx=>h.2 x (List.mem_of_mem_take hx)⟩;rw[encL_takeG,List.getElem?_take]at hj;split at hj;exact hj;cases hj
def AllI {α:Type}[Lay α](L:List α):World→Prop:=fun w=>∀ x∈L,Lay.inn w x
theorem AllI.nil {α:Type}[Lay α]{M:Nat→Prop}{w:World} : Stable M w (AllI (α:=α) []):=fun _ _ _ h=>by cases h
theorem AllI.snoc {α:Type}[Lay α]{M:Nat→Prop}{w:World}{L:List α}{r:α}(h:Stable M w (AllI L))(hr:Stable M w (InF r)):Stable M w (AllI (L++[r])):=fun w' hw x hx=>by
 rcases List.mem_append.1 hx with hx | hx
 exact h w' hw x hx;rw[List.mem_singleton.1 hx];exact hr w' hw
end Go.Wk
namespace Go.Proofs.YtlgnhhebeandkaaGreatDoor
open Go Go.Wk
open Go.ChangeShapes Go.WideShapes Go.ChangeAt Go.RowKit
set_option maxRecDepth 100000
theorem own:ownKnob Tryz.prog.godebug=none:=by kernel_rfl
theorem laidOut:laidOutB Tryz.prog=true:=by kernel_rfl
set_option synthInstance.maxSize 100000
set_option synthInstance.maxHeartbeats 400000
end Go.Proofs.YtlgnhhebeandkaaGreatDoor
namespace Go.Wk
open Go
class Ascii (m:Int):Prop where
 lo:0≤m
 hi:m < 128
section
variable {P:Program}{l:Cx}{bs:List Item}{fs:List (World→Prop)}{x y:Operand}{t t' ty:TypeId}{s u:List UInt8}{m:Int}{k:IntKind}
instance opSAdd [Ev l x (str s)][Ev l y (str u)][hb:LeC (s.length+u.length) 4611686018427387904]:OpQ P (.binOp .add t x y t') ty l bs fs (str (s++u)):=⟨fun ρ w h _=>by
 have h1:¬(((⟨s.toArray⟩:ByteArray).size+(⟨u.toArray⟩:ByteArray).size:Nat):Int) > IntKind.i64.max:=by
  have:=hb.le;have e1:(⟨s.toArray⟩:ByteArray).size=s.length:=rfl;have e2:(⟨u.toArray⟩:ByteArray).size=u.length:=rfl;rw[e1,e2];simp only[IntKind.max,IntKind.bits,IntKind.signed];simp;omega
 have h2:(⟨s.toArray⟩:ByteArray)++⟨u.toArray⟩=⟨(s++u).toArray⟩:=by
  apply ByteArray.ext;simp
 simp only[xop,execOp,h.ev (x:=x) (v:=str s),h.ev (x:=y) (v:=str u),eqGuard,binOp,Op.stringOp];rw[if_neg h1,h2];simp⟩
end
open Go Go.Deep Go.ChangeShapes Go.WideShapes Go.ChangeAt Go.RowKit
section
variable {w0:World}{M0:Nat→Prop}{ds:List Deferred}{a:Act}{w:World}{l:List Value}{bs bs':List Item}{fs:List (World→Prop)}
theorem St.rowToGl {α:Type}[Lay α](S:St w0 M0 ds a w l bs fs)(p:Option Addr)(xs:List α){e:TypeId}{sz n c:Nat}[hd:DropI bs (Wk.row e sz p n c (encL xs)) bs'](h:Stable (foots bs) w (AllI xs)):St w0 M0 ds a w l bs' (GlF p xs::fs):=by
 have S1:=S.perm _ hd.perm;have hap:=List.pairwise_cons.1 S1.wd.apart;have hr:(Wk.row e sz p n c (encL xs)).holds w:=S1.wd.held _ (by simp);have S2:St w0 M0 ds a w l bs' fs:=⟨S1.slots,S1.defers,S1.wd.sub (.cons _ (.refl _)) (.refl _)⟩;refine S2.add fun w' hw'=>⟨SlF.stable (own_sl hr) (fun ad hp ⟨it,hi,hk⟩=>hap.1 it hi ad.block ⟨ad,hp,rfl⟩ hk) w' hw',?_⟩
 exact (h.less fun k _ ⟨it,hi,hk⟩=>⟨it,(hd.perm.mem_iff).1 (List.mem_cons_of_mem _ hi),hk⟩) w' hw'
end
section
variable {P:Program}{l:Cx}{bs:List Item}{fs:List (World→Prop)}{x y:Operand}{p:Option Addr}{n c k sz off:Nat}{kk:IntKind}{m:Int}{t ty e:TypeId}{z v:Value}{by_:Nat}
class CLt (cs:List Bool)(k n:Nat):Prop where lt:(∀ c∈cs,c=true)→k < n
section
variable {cs:List Bool}{ls:List Value}{α:Type}{i:Lay α}{xs:List α}
end
end
section
variable {w0:World}{M0:Nat→Prop}{ds:List Deferred}{a:Act}{w:World}{l:List Value}{bs bs':List Item}{fs:List (World→Prop)}
end
theorem encL_dropG {α:Type}[Enc α](xs:List α)(m:Nat):encL (xs.drop m)=(encL xs).drop (m*Enc.sz α):=by
 induction m generalizing xs with
 | zero=>simp
 | succ m ih=>
  cases xs with
  | nil=>simp[encL]
  | cons x xs=>
   rw[List.drop_succ_cons,ih,encL_cons,show (m+1)*Enc.sz α=(Enc.cells x).length+m*Enc.sz α from by rw[Enc.len,Nat.add_mul];omega,←List.drop_drop,List.drop_left]
theorem GlF.drop {α:Type}[Lay α]{sz:Nat}[hs:SzE α sz]{p:Option Addr}{xs:List α}{w:World}{c:Nat}(m:Nat)(h:GlF p xs w)(hc:xs.length≤c):GlF (if c=m then p else p.map (·.add (m*sz))) (xs.drop m) w:=by
 split
 rename_i he
 rw[List.drop_of_length_le (by omega)];exact gl_nil;refine ⟨⟨fun hp=>?_,fun ad hp j u hj=>?_⟩,fun x hx=>h.2 x (List.drop_subset _ _ hx)⟩;have:p=none:=by cases p with
  | none=>rfl
  | some a=>cases hp
 rw[encL_dropG,h.1.1 this,List.drop_nil];cases p with
 | none=>cases hp
 | some a=>
  obtain rfl:a.add (m*sz)=ad:=by simpa using hp
  rw[encL_dropG,List.getElem?_drop,hs.eq]at hj;rw[Go.Deep.add_add];exact h.1.2 a rfl _ _ hj
class PS (p:Option Addr):Prop where ex:∃ ad,p=some ad
section
variable {P:Program}{lc:Cx}{bs:List Item}{fs:List (World→Prop)}{x y:Operand}{p:Option Addr}{n c k sz o:Nat}{kk:IntKind}{m:Int}{t ty e:TypeId}{z:Value}{by_:Nat}
end
class IfT (P:Program)(t:TypeId):Prop where eq:P.underlying t=some (.interface (P.methodsAt t))
def errV (b:Bool)(te:TypeId)(pe:Value):Value:=if b then .nilIface else .iface te pe
theorem Agree.ofBelow {w w':World}(h:Below w.heap.size w w'):Agree (fun _=>False) w w':=⟨h.os,h.tape,h.output,h.size,fun k hk _=>h.block k hk⟩
end Go.Wk
namespace Go.Proofs.YtlgnhhebeandkaaGreatDoor
open Go Go.Wk
set_option synthInstance.maxSize 100000
set_option synthInstance.maxHeartbeats 400000
set_option maxRecDepth 100000
structure LMark where
 key:List UInt8
 ver:Int
instance encMark:Enc LMark:=⟨2,fun m=>[str m.key,.int .i64 m.ver],fun _=>rfl,fun x u hu=>by simp only[List.mem_cons,List.not_mem_nil,or_false]at hu;rcases hu with rfl | rfl <;> rfl⟩
instance layMark:Lay LMark:={ encMark with
 dflt:=⟨[],0⟩
 inn:=fun _ _=>True
 mono:=fun _ _ _ _ h=>h }
def TabF : World → Prop := fun w => Lib.TabIs Tryz.prog w "internal/strconv.uint64pow10" .u64 Lib.pow10Tab
theorem var_agree {P:Program}{w w':World}{name:String}{cs:Array Value}(h:w.var? P name=some cs)(hw:Agree (fun _=>False) w w'):w'.var? P name=some cs:=by
 unfold World.var? at *;cases hg:P.globalNamed name with
 | none=>rw[hg]at h;cases h
 | some g=>
  rw[hg]at h;simp only[Option.bind_some]at h⊢;cases hb:w.heap[g]? with
  | none=>rw[hb]at h;cases h
  | some o=>rw[hw.blk (Array.getElem?_eq_some_iff.1 hb).1 (fun h=>h),hb];rw[hb]at h;exact h
theorem TabF.stable {w:World}(h:TabF w):Fx w TabF:=fun w' hw'=>var_agree h hw'
theorem itoa_c (n:Int)(h0 : -9223372036854775808≤n∧n≤9223372036854775807)(w0:World)(ht:TabF w0):Ret Tryz.prog 96 [.int .i64 n] w0 (fun _=>False) fun v _=>v=str (Lib.itoa n):=by
 refine Calls.mono (Any.strconv_Itoa Tryz.laysM171 n h0.1 h0.2 w0 ht) ?_;rintro e w' ⟨rfl,k,os,rfl⟩;refine ⟨_,rfl,⟨rfl,rfl,rfl,?_,fun k' hk _=>?_⟩,rfl⟩
 show w0.heap.size≤(w0.heap++os).size
 simp
 show (w0.heap++os)[k']? = w0.heap[k']?
 rw[Array.getElem?_append_left hk]
class I64 (n:Int):Prop where
 lo : -9223372036854775808≤n
 hi:n≤9223372036854775807
instance {n:Int}{bs fs}[h:I64 n][hf:HasFact fs TabF]:CallV Tryz.prog 96 [.int .i64 n] bs fs (str (Lib.itoa n)):=⟨fun w m=>itoa_c n ⟨h.lo,h.hi⟩ w (m.fact0 TabF).now⟩
def joinT (a b:Term):Term:=.hash (.pair a b)
def stepT (x:Option Term)(p:Term):Option Term:=
 match x,p with
 | some x,.mk 4 _ _ _ [.mk 1 _ _ s _,y]=>if s=[108] then some (joinT y x) else if s=[114] then some (joinT x y) else none
 | _,_=>none
noncomputable def stepG (x:Option Term)(p:Term):Option Term:=@ite _ (Good p) (Classical.propDecidable _) (stepT x p) none
instance ift_treeF:IfT Tryz.prog 108:=⟨by kernel_rfl⟩
def VarF (name:String):World→Prop:=fun w=>∃ tp p,w.var? Tryz.prog name=some #[.iface tp p]
theorem atoiL_c (s : List UInt8)(hs : s.length ≤ 1000000)(w0 : World)(h1 : VarF "strconv.ErrSyntax" w0)(h2 : VarF "strconv.ErrRange" w0) : Ret Tryz.prog 136 [str s] w0 (fun _ => False) fun v _ => ∃ (n : Int) (b : Bool) (te : TypeId) (pe : Value), v = .tuple ⟨[.int .i64 n, errV b te pe]⟩ ∧ (-9223372036854775808 ≤ n ∧ n ≤ 9223372036854775807) ∧ (b = true ↔ ∃ m, Lib.atoiAll s = .ok m) ∧ (∀ m, Lib.atoiAll s = .ok m → n = m) := by
 obtain ⟨tp1,p1,hv1⟩:=h1;obtain ⟨tp2,p2,hv2⟩:=h2;have hsz:(⟨s.toArray⟩:ByteArray).size=s.length:=rfl;rcases h:Lib.atoiAll s with m | _ | _
 refine Calls.mono (Any.strconv_Atoi_ok Tryz.laysC172 ⟨s.toArray⟩ (by rw[hsz];omega) m h w0) ?_;rintro e w' ⟨rfl,hw⟩;refine ⟨_,rfl,?_,m,true,0,.nilIface,rfl,Lib.atoiAll_bounds h,⟨fun _=>⟨m,rfl⟩,fun _=>rfl⟩,fun m' e=>by injection e⟩;rcases hw with rfl | ⟨t,rfl⟩
 exact Agree.refl _ _;exact ⟨rfl,rfl,rfl,by rw[Lib.bytesWorld_size];omega,fun k hk _=>Lib.bytesWorld_at_old _ _ _ k hk⟩;refine Calls.mono (Any.strconv_Atoi_syntax_var Tryz.laysC172 ⟨s.toArray⟩ (by rw[hsz];omega) h tp1 p1 w0 hv1) ?_;rintro e w' ⟨N,rfl,hN,-,hb⟩;refine ⟨_,rfl,?_,0,false,_,_,rfl,⟨by omega,by omega⟩,⟨nofun,fun ⟨m,e⟩=>by cases e⟩,fun m e=>by cases e⟩;exact Agree.ofBelow hb;refine Calls.mono (Any.strconv_Atoi_range_var Tryz.laysC172 ⟨s.toArray⟩ (by rw[hsz];omega) h tp2 p2 w0 hv2) ?_;rintro e w' ⟨N,rfl,hN,-,hb⟩;refine ⟨_,rfl,?_,Lib.atoiSat s,false,_,_,rfl,Lib.atoiSat_bounds s,⟨nofun,fun ⟨m,e⟩=>by cases e⟩,fun m e=>by cases e⟩;exact Agree.ofBelow hb
theorem VarF.stable {name:String}{w:World}(h:VarF name w):Fx w (VarF name):=fun w' hw'=>by
 obtain ⟨tp,p,hv⟩:=h;exact ⟨tp,p,var_agree hv hw'⟩
def LibF : World → Prop := fun w => TabF w ∧ VarF "strconv.ErrSyntax" w ∧ VarF "strconv.ErrRange" w
theorem LibF.stable {w:World}(h:LibF w):Fx w LibF:=fun w' hw'=>⟨h.1.stable w' hw',h.2.1.stable w' hw',h.2.2.stable w' hw'⟩
open Go.ChangeShapes Go.WideShapes Go.ChangeAt Go.RowKit
def laidL {H : Type} : List (String × DataW H) := [("math/bits.deBruijn32tab", Rows.laid_math_bits_deBruijn32tab), ("math/bits.deBruijn64tab", Rows.laid_math_bits_deBruijn64tab), ("internal/strconv.uint64pow10", Rows.laid_internal_strconv_uint64pow10), ("strconv.ErrRange", Rows.laid_strconv_ErrRange), ("strconv.ErrSyntax", Rows.laid_strconv_ErrSyntax)]
abbrev synS:ByteArray:={ data:=#[105,110,118,97,108,105,100,32,115,121,110,116,97,120] }
abbrev rngS:ByteArray:={ data:=#[118,97,108,117,101,32,111,117,116,32,111,102,32,114,97,110,103,101] }
noncomputable def low:Nat:=(World.holding Tryz.prog default ⟨#[],#[],[]⟩).heap.size
def setCells (cs:Array Value):Obj→Obj
 | .cells _ t frozen=>.cells cs t frozen
 | o=>o
noncomputable def laidWorld (os:Os):World:=
 let w0:=World.holding Tryz.prog os ⟨#[.cells #[.string synS] 308,.cells #[.string rngS] 308],#[],[]⟩
 { w0 with heap:=((((w0.heap.modify 1 (setCells #[.iface 306 (.pointer (some ⟨low,0,none⟩))])).modify 2 (setCells #[.iface 306 (.pointer (some ⟨low+1,0,none⟩))])).modify 3 (setCells #[.int .u64 1,.int .u64 10,.int .u64 100,.int .u64 1000,.int .u64 10000,.int .u64 100000,.int .u64 1000000,.int .u64 10000000,.int .u64 100000000,.int .u64 1000000000,.int .u64 10000000000,.int .u64 100000000000,.int .u64 1000000000000,.int .u64 10000000000000,.int .u64 100000000000000,.int .u64 1000000000000000,.int .u64 10000000000000000,.int .u64 100000000000000000,.int .u64 1000000000000000000,.int .u64 10000000000000000000])).modify 4 (setCells #[.int .u8 0,.int .u8 1,.int .u8 28,.int .u8 2,.int .u8 29,.int .u8 14,.int .u8 24,.int .u8 3,.int .u8 30,.int .u8 22,.int .u8 20,.int .u8 15,.int .u8 25,.int .u8 17,.int .u8 4,.int .u8 8,.int .u8 31,.int .u8 27,.int .u8 13,.int .u8 23,.int .u8 21,.int .u8 19,.int .u8 16,.int .u8 7,.int .u8 26,.int .u8 12,.int .u8 18,.int .u8 6,.int .u8 11,.int .u8 5,.int .u8 10,.int .u8 9])).modify 5 (setCells #[.int .u8 0,.int .u8 1,.int .u8 56,.int .u8 2,.int .u8 57,.int .u8 49,.int .u8 28,.int .u8 3,.int .u8 61,.int .u8 58,.int .u8 42,.int .u8 50,.int .u8 38,.int .u8 29,.int .u8 17,.int .u8 4,.int .u8 62,.int .u8 47,.int .u8 59,.int .u8 36,.int .u8 45,.int .u8 43,.int .u8 51,.int .u8 22,.int .u8 53,.int .u8 39,.int .u8 33,.int .u8 30,.int .u8 24,.int .u8 18,.int .u8 12,.int .u8 5,.int .u8 63,.int .u8 55,.int .u8 48,.int .u8 27,.int .u8 60,.int .u8 41,.int .u8 37,.int .u8 16,.int .u8 46,.int .u8 35,.int .u8 44,.int .u8 21,.int .u8 52,.int .u8 32,.int .u8 23,.int .u8 11,.int .u8 54,.int .u8 26,.int .u8 40,.int .u8 15,.int .u8 34,.int .u8 20,.int .u8 31,.int .u8 10,.int .u8 25,.int .u8 14,.int .u8 19,.int .u8 9,.int .u8 13,.int .u8 8,.int .u8 7,.int .u8 6]) }
theorem laidWorld_met (os:Os)(args:Array Value):laidMet Tryz.prog laidL ((laidWorld os).forCall (fun _ _=>0) ⟨#[],args,[]⟩).memory:=
 laidMet_of_run' 8 (by kernel_rfl) (by kernel_rfl)
deriving instance DecidableEq for LMark
section
variable {l:Cx}{bs:List Wk.Item}{fs:List (World→Prop)}{x y:Operand}{m n:LMark}{t' ty:TypeId}
end
theorem starE : "*" ++ "errors.errorString" = "*errors.errorString" := by decide
theorem rowE (u : TypeId)(h : Tryz.prog.typeName? 3 u = some "*errors.errorString") : u = 306 :=
 typeName_ptr_named (nm := "errors.errorString") (by rw [starE]; kernel_rfl) (by kernel_rfl) (by decide) u (by rw [starE]; exact h)
theorem pow10_data:(Rows.laid_internal_strconv_uint64pow10:DataW Unit)=Lib.tabData .u64 Lib.pow10Tab:=by kernel_rfl
theorem lib_of_laid {W:World}(h:laidMet Tryz.prog laidL W):LibF W:=by
 have h3:=h.tail.tail;have h4:=h3.tail;have h5:=h4.tail;refine ⟨?_,?_,?_⟩;refine Lib.tabIs_of_head (rest := [("strconv.ErrRange", Rows.laid_strconv_ErrRange), ("strconv.ErrSyntax", Rows.laid_strconv_ErrSyntax)]) (g := 3) (t := 300) (e := 133) (n := 20) (by kernel_rfl) (by kernel_rfl) (by kernel_rfl) (by kernel_rfl) (by kernel_rfl) (by kernel_rfl) ?_
 rw[←pow10_data];exact h3;obtain ⟨a,s,hv,-⟩:=laid_sentinel h5 (g:=1) (ti:=108) (by kernel_rfl) (by kernel_rfl) Tryz.underlying108 rowE Tryz.underlying306 Tryz.underlying308 rfl rfl Tryz.underlying9 (by kernel_rfl) (by kernel_rfl);exact ⟨_,_,hv⟩;obtain ⟨a,s,hv,-⟩:=laid_sentinel h4 (g:=2) (ti:=108) (by kernel_rfl) (by kernel_rfl) Tryz.underlying108 rowE Tryz.underlying306 Tryz.underlying308 rfl rfl Tryz.underlying9 (by kernel_rfl) (by kernel_rfl);exact ⟨_,_,hv⟩
end Go.Proofs.YtlgnhhebeandkaaGreatDoor