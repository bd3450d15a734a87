/- 2: a part of this claim's texts, joined: Inst Octet TermA TermB TermC SlicesT TermD RefTerm PlainRight Regress TermE TermF CloseA PlainName PlainSize W4 CloseB CloseC PlainClose SlicesV CloseD CloseE CloseF PlainSafe. -/
import Derived.Test.YtibkkbknnfehlaaGreatDoorPd1
import Derived.Test.YtibkkbknnfehlaaGreatDoorProg
import Derived.Scope
import Derived.Lib.AppendZeros
import Derived.Maps.RangeRun
namespace Go.Proofs.YtibkkbknnfehlaaGreatDoor
open Go Go.Wk
section
set_option maxRecDepth 100000
instance:Und Tryz.prog 3 (.int .i64):=⟨Tryz.underlying3⟩
instance:TI Tryz.prog 3 (.int .i64 0) 1 8:=ti_of (by kernel_rfl)
instance:Und Tryz.prog 4 (.bool):=⟨Tryz.underlying4⟩
instance:TI Tryz.prog 4 (.bool false) 1 1:=ti_of (by kernel_rfl)
instance:Und Tryz.prog 5 (.int .u8):=⟨Tryz.underlying5⟩
instance:Und Tryz.prog 9 (.string):=⟨Tryz.underlying9⟩
instance:TI Tryz.prog 9 (.string ⟨#[]⟩) 1 16:=ti_of (by kernel_rfl)
instance:Und Tryz.prog 21 (.int .i32):=⟨Tryz.underlying21⟩
instance:Und Tryz.prog 22 (.slice 24):=⟨Tryz.underlying22⟩
instance:TI Tryz.prog 22 (.slice none 0 0) 1 24:=ti_of (by kernel_rfl)
instance:AggT Tryz.prog 24 true:=aggT_of (by kernel_rfl)
instance:Fld Tryz.prog 24 0 0 3:=fld_of (by kernel_rfl)
instance:Fld Tryz.prog 24 1 1 3:=fld_of (by kernel_rfl)
instance:Fld Tryz.prog 24 2 2 3:=fld_of (by kernel_rfl)
instance:Fld Tryz.prog 24 3 3 9:=fld_of (by kernel_rfl)
instance:Fld Tryz.prog 24 4 4 22:=fld_of (by kernel_rfl)
instance:PlOf Tryz.prog 24 [(0,1),(1,1),(2,1),(3,1),(4,1)]:=plof_of (by kernel_rfl)
instance:TI Tryz.prog 24 (.agg #[.int .i64 0,.int .i64 0,.int .i64 0,.string ⟨#[]⟩,.slice none 0 0]) 5 64:=ti_of (by kernel_rfl)
instance:Und Tryz.prog 27 (.slice 3):=⟨Tryz.underlying27⟩
instance:TI Tryz.prog 27 (.slice none 0 0) 1 24:=ti_of (by kernel_rfl)
instance:AggT Tryz.prog 29 true:=aggT_of (by kernel_rfl)
instance:Fld Tryz.prog 29 0 0 3:=fld_of (by kernel_rfl)
instance:Fld Tryz.prog 29 1 1 3:=fld_of (by kernel_rfl)
instance:Fld Tryz.prog 29 2 2 27:=fld_of (by kernel_rfl)
instance:Fld Tryz.prog 29 3 3 27:=fld_of (by kernel_rfl)
instance:Fld Tryz.prog 29 4 4 27:=fld_of (by kernel_rfl)
instance:PlOf Tryz.prog 29 [(0,1),(1,1),(2,1),(3,1),(4,1)]:=plof_of (by kernel_rfl)
instance:TI Tryz.prog 29 (.agg #[.int .i64 0,.int .i64 0,.slice none 0 0,.slice none 0 0,.slice none 0 0]) 5 88:=ti_of (by kernel_rfl)
instance:Und Tryz.prog 30 (.slice 27):=⟨Tryz.underlying30⟩
instance:TI Tryz.prog 30 (.slice none 0 0) 1 24:=ti_of (by kernel_rfl)
instance:AggT Tryz.prog 32 true:=aggT_of (by kernel_rfl)
instance:Fld Tryz.prog 32 0 0 9:=fld_of (by kernel_rfl)
instance:Fld Tryz.prog 32 1 1 3:=fld_of (by kernel_rfl)
instance:Fld Tryz.prog 32 2 2 29:=fld_of (by kernel_rfl)
instance:Fld Tryz.prog 32 3 7 30:=fld_of (by kernel_rfl)
instance:Fld Tryz.prog 32 4 8 24:=fld_of (by kernel_rfl)
instance:PlOf Tryz.prog 32 [(0,1),(1,1),(2,5),(7,1),(8,5)]:=plof_of (by kernel_rfl)
instance:TI Tryz.prog 32 (.agg #[.string ⟨#[]⟩,.int .i64 0,.int .i64 0,.int .i64 0,.slice none 0 0,.slice none 0 0,.slice none 0 0,.slice none 0 0,.int .i64 0,.int .i64 0,.int .i64 0,.string ⟨#[]⟩,.slice none 0 0]) 13 200:=ti_of (by kernel_rfl)
instance:Und Tryz.prog 33 (.int .i64):=⟨Tryz.underlying33⟩
instance:TI Tryz.prog 33 (.int .i64 0) 1 8:=ti_of (by kernel_rfl)
instance:PlOf Tryz.prog 52 []:=plof_of (by kernel_rfl)
instance:TI Tryz.prog 52 (.agg #[]) 0 0:=ti_of (by kernel_rfl)
instance:Fld Tryz.prog 62 0 0 22:=fld_of (by kernel_rfl)
instance:PlOf Tryz.prog 62 [(0,1)]:=plof_of (by kernel_rfl)
instance:TI Tryz.prog 62 (.agg #[.slice none 0 0]) 1 24:=ti_of (by kernel_rfl)
instance:Und Tryz.prog 80 (.slice 84):=⟨Tryz.underlying80⟩
instance:AggT Tryz.prog 84 true:=aggT_of (by kernel_rfl)
instance:Fld Tryz.prog 84 0 0 3:=fld_of (by kernel_rfl)
instance:Fld Tryz.prog 84 1 1 24:=fld_of (by kernel_rfl)
instance:TI Tryz.prog 84 (.agg #[.int .i64 0,.int .i64 0,.int .i64 0,.int .i64 0,.string ⟨#[]⟩,.slice none 0 0]) 6 72:=ti_of (by kernel_rfl)
instance:Und Tryz.prog 120 (.slice 124):=⟨Tryz.underlying120⟩
instance:TI Tryz.prog 120 (.slice none 0 0) 1 24:=ti_of (by kernel_rfl)
instance:AggT Tryz.prog 124 true:=aggT_of (by kernel_rfl)
instance:Fld Tryz.prog 124 0 0 3:=fld_of (by kernel_rfl)
instance:Fld Tryz.prog 124 1 1 3:=fld_of (by kernel_rfl)
instance:PlOf Tryz.prog 124 [(0,1),(1,1),(2,5)]:=plof_of (by kernel_rfl)
instance:TI Tryz.prog 124 (.agg #[.int .i64 0,.int .i64 0,.int .i64 0,.int .i64 0,.int .i64 0,.string ⟨#[]⟩,.slice none 0 0]) 7 80:=ti_of (by kernel_rfl)
instance:FnRes Tryz.f3 [ResultVar.tmp 2]:=⟨rfl⟩
instance:FnRes Tryz.f6 [ResultVar.tmp 0]:=⟨rfl⟩
instance:FnRes Tryz.f7 [ResultVar.tmp 2]:=⟨rfl⟩
instance:FnRes Tryz.f8 [ResultVar.cell 2 32,ResultVar.cell 3 3,ResultVar.cell 4 33]:=⟨rfl⟩
instance:FnRes Tryz.f9 [ResultVar.cell 2 32,ResultVar.tmp 3]:=⟨rfl⟩
instance:FnRes Tryz.f10 [ResultVar.tmp 4]:=⟨rfl⟩
instance:FnRes Tryz.f12 [ResultVar.cell 4 24,ResultVar.tmp 5]:=⟨rfl⟩
instance:FnRes Tryz.f13 [ResultVar.tmp 2]:=⟨rfl⟩
instance:FnRes Tryz.f15 [ResultVar.cell 6 24]:=⟨rfl⟩
instance:FnRes Tryz.f16 [ResultVar.tmp 4]:=⟨rfl⟩
instance:FnRes Tryz.f17 [ResultVar.cell 6 24,ResultVar.tmp 7]:=⟨rfl⟩
instance:FnRes Tryz.f18 [ResultVar.cell 4 24]:=⟨rfl⟩
instance:FnRes Tryz.f20 []:=⟨rfl⟩
instance:FnRes Tryz.f21 []:=⟨rfl⟩
instance:FnRes Tryz.f22 [ResultVar.tmp 2]:=⟨rfl⟩
instance:FnRes Tryz.f23 [ResultVar.cell 2 24]:=⟨rfl⟩
instance:FnRes Tryz.f24 [ResultVar.cell 2 24]:=⟨rfl⟩
instance:FnRes Tryz.f25 [ResultVar.tmp 2]:=⟨rfl⟩
instance:FnRes Tryz.f26 [ResultVar.tmp 2]:=⟨rfl⟩
instance:FnRes Tryz.f27 [ResultVar.tmp 2]:=⟨rfl⟩
instance:FnRes Tryz.f28 [ResultVar.tmp 2]:=⟨rfl⟩
instance:FnRes Tryz.f29 [ResultVar.tmp 2,ResultVar.tmp 3]:=⟨rfl⟩
instance:FnRes Tryz.f30 [ResultVar.tmp 4,ResultVar.tmp 5]:=⟨rfl⟩
instance:FnRes Tryz.f31 [ResultVar.tmp 2,ResultVar.tmp 3]:=⟨rfl⟩
instance:FnRes Tryz.f32 [ResultVar.tmp 2]:=⟨rfl⟩
instance:FnRes Tryz.f33 [ResultVar.tmp 4]:=⟨rfl⟩
instance:FnRes Tryz.f34 [ResultVar.cell 4 24]:=⟨rfl⟩
instance:FnRes Tryz.f35 [ResultVar.tmp 4]:=⟨rfl⟩
instance:FnRes Tryz.f36 [ResultVar.cell 2 24]:=⟨rfl⟩
instance:FnRes Tryz.f37 [ResultVar.cell 2 24]:=⟨rfl⟩
instance:FnRes Tryz.f38 [ResultVar.cell 2 24]:=⟨rfl⟩
instance:FnRes Tryz.f39 [ResultVar.tmp 2]:=⟨rfl⟩
instance:FnRes Tryz.f42 [ResultVar.tmp 4]:=⟨rfl⟩
instance:FnRes Tryz.f43 [ResultVar.cell 4 24]:=⟨rfl⟩
instance:FnRes Tryz.f44 [ResultVar.tmp 6]:=⟨rfl⟩
instance:FnRes Tryz.f45 [ResultVar.tmp 2]:=⟨rfl⟩
instance:FnRes Tryz.f46 [ResultVar.tmp 4]:=⟨rfl⟩
instance:FnRes Tryz.f47 [ResultVar.tmp 2]:=⟨rfl⟩
instance:FnRes Tryz.f48 []:=⟨rfl⟩
instance:FnRes Tryz.f49 [ResultVar.cell 4 24]:=⟨rfl⟩
instance:FnRes Tryz.f51 [ResultVar.tmp 4]:=⟨rfl⟩
instance:FnRes Tryz.f52 [ResultVar.cell 4 24]:=⟨rfl⟩
instance:FnRes Tryz.f53 [ResultVar.cell 4 84,ResultVar.tmp 5]:=⟨rfl⟩
instance:FnRes Tryz.f54 [ResultVar.tmp 3]:=⟨rfl⟩
instance:FnRes Tryz.f55 [ResultVar.cell 4 24]:=⟨rfl⟩
instance:FnRes Tryz.f56 [ResultVar.tmp 2,ResultVar.tmp 3]:=⟨rfl⟩
instance:FnRes Tryz.f57 [ResultVar.tmp 4,ResultVar.tmp 5]:=⟨rfl⟩
instance:FnRes Tryz.f58 [ResultVar.tmp 2]:=⟨rfl⟩
instance:FnRes Tryz.f59 [ResultVar.tmp 4]:=⟨rfl⟩
instance:FnRes Tryz.f60 [ResultVar.tmp 3]:=⟨rfl⟩
instance:FnRes Tryz.f61 [ResultVar.tmp 4]:=⟨rfl⟩
instance:FnRes Tryz.f62 [ResultVar.tmp 2,ResultVar.tmp 3,ResultVar.tmp 4]:=⟨rfl⟩
instance:FnRes Tryz.f63 [ResultVar.tmp 6,ResultVar.tmp 7]:=⟨rfl⟩
instance:FnRes Tryz.f64 [ResultVar.cell 2 24]:=⟨rfl⟩
instance:FnRes Tryz.f65 [ResultVar.tmp 2]:=⟨rfl⟩
instance:FnRes Tryz.f66 [ResultVar.tmp 2]:=⟨rfl⟩
instance:FnRes Tryz.f67 [ResultVar.tmp 2]:=⟨rfl⟩
instance:FnRes Tryz.f68 [ResultVar.tmp 2,ResultVar.tmp 3,ResultVar.tmp 4]:=⟨rfl⟩
instance:FnRes Tryz.f69 [ResultVar.tmp 4]:=⟨rfl⟩
instance:FnRes Tryz.f70 [ResultVar.cell 2 24]:=⟨rfl⟩
instance:FnRes Tryz.f71 [ResultVar.cell 2 24]:=⟨rfl⟩
instance:FnRes Tryz.f72 [ResultVar.cell 2 24]:=⟨rfl⟩
instance:FnRes Tryz.f73 [ResultVar.tmp 2]:=⟨rfl⟩
instance:FnRes Tryz.f76 [ResultVar.tmp 4]:=⟨rfl⟩
instance:FnRes Tryz.f77 [ResultVar.tmp 3]:=⟨rfl⟩
instance:FnRes Tryz.f78 [ResultVar.tmp 2]:=⟨rfl⟩
instance:FnRes Tryz.f79 [ResultVar.tmp 4]:=⟨rfl⟩
instance:FnRes Tryz.f80 [ResultVar.tmp 2]:=⟨rfl⟩
instance:FnRes Tryz.f81 [ResultVar.tmp 4]:=⟨rfl⟩
instance:FnRes Tryz.f82 [ResultVar.tmp 3]:=⟨rfl⟩
instance:FnRes Tryz.f83 [ResultVar.tmp 4]:=⟨rfl⟩
instance:FnRes Tryz.f84 [ResultVar.tmp 4]:=⟨rfl⟩
instance:FnRes Tryz.f88 [ResultVar.tmp 4]:=⟨rfl⟩
instance:FnRes Tryz.f89 [ResultVar.cell 2 120,ResultVar.cell 3 4]:=⟨rfl⟩
instance:FnRes Tryz.f90 [ResultVar.tmp 2]:=⟨rfl⟩
instance:FnRes Tryz.f91 [ResultVar.tmp 6]:=⟨rfl⟩
instance:FnRes Tryz.f92 [ResultVar.tmp 2]:=⟨rfl⟩
instance:FnRes Tryz.f93 [ResultVar.cell 4 24]:=⟨rfl⟩
instance:FnRes Tryz.f94 []:=⟨rfl⟩
instance:FnRes Tryz.f97 [ResultVar.tmp 4]:=⟨rfl⟩
instance:FnRes Tryz.f98 [ResultVar.tmp 4]:=⟨rfl⟩
instance:FnRes Tryz.f112 [ResultVar.tmp 2]:=⟨rfl⟩
instance:FnRes Tryz.f113 [ResultVar.tmp 2]:=⟨rfl⟩
instance:FnRes Tryz.f114 [ResultVar.tmp 2]:=⟨rfl⟩
instance:FnRes Tryz.f115 [ResultVar.tmp 2]:=⟨rfl⟩
instance:FnRes Tryz.f116 [ResultVar.tmp 2]:=⟨rfl⟩
instance:FnRes Tryz.f133 []:=⟨rfl⟩
instance:FnRes Tryz.f134 [ResultVar.cell 2 124,ResultVar.tmp 3]:=⟨rfl⟩
instance:EntF Tryz.prog 6:=⟨enters_of Tryz.func6 (by kernel_rfl) rfl⟩
instance:EntF Tryz.prog 7:=⟨enters_of Tryz.func7 (by kernel_rfl) rfl⟩
instance:EntF Tryz.prog 8:=⟨enters_of Tryz.func8 (by kernel_rfl) rfl⟩
instance:EntF Tryz.prog 9:=⟨enters_of Tryz.func9 (by kernel_rfl) rfl⟩
instance:EntF Tryz.prog 10:=⟨enters_of Tryz.func10 (by kernel_rfl) rfl⟩
instance:EntF Tryz.prog 12:=⟨enters_of Tryz.func12 (by kernel_rfl) rfl⟩
instance:EntF Tryz.prog 13:=⟨enters_of Tryz.func13 (by kernel_rfl) rfl⟩
instance:EntF Tryz.prog 15:=⟨enters_of Tryz.func15 (by kernel_rfl) rfl⟩
instance:EntF Tryz.prog 16:=⟨enters_of Tryz.func16 (by kernel_rfl) rfl⟩
instance:EntF Tryz.prog 17:=⟨enters_of Tryz.func17 (by kernel_rfl) rfl⟩
instance:EntF Tryz.prog 18:=⟨enters_of Tryz.func18 (by kernel_rfl) rfl⟩
instance:EntF Tryz.prog 19:=⟨enters_of Tryz.func19 (by kernel_rfl) rfl⟩
instance:EntF Tryz.prog 20:=⟨enters_of Tryz.func20 (by kernel_rfl) rfl⟩
instance:EntF Tryz.prog 21:=⟨enters_of Tryz.func21 (by kernel_rfl) rfl⟩
instance:EntF Tryz.prog 22:=⟨enters_of Tryz.func22 (by kernel_rfl) rfl⟩
instance:EntF Tryz.prog 23:=⟨enters_of Tryz.func23 (by kernel_rfl) rfl⟩
instance:EntF Tryz.prog 24:=⟨enters_of Tryz.func24 (by kernel_rfl) rfl⟩
instance:EntF Tryz.prog 25:=⟨enters_of Tryz.func25 (by kernel_rfl) rfl⟩
instance:EntF Tryz.prog 26:=⟨enters_of Tryz.func26 (by kernel_rfl) rfl⟩
instance:EntF Tryz.prog 27:=⟨enters_of Tryz.func27 (by kernel_rfl) rfl⟩
instance:EntF Tryz.prog 28:=⟨enters_of Tryz.func28 (by kernel_rfl) rfl⟩
instance:EntF Tryz.prog 29:=⟨enters_of Tryz.func29 (by kernel_rfl) rfl⟩
instance:EntF Tryz.prog 30:=⟨enters_of Tryz.func30 (by kernel_rfl) rfl⟩
instance:EntF Tryz.prog 31:=⟨enters_of Tryz.func31 (by kernel_rfl) rfl⟩
instance:EntF Tryz.prog 32:=⟨enters_of Tryz.func32 (by kernel_rfl) rfl⟩
instance:EntF Tryz.prog 33:=⟨enters_of Tryz.func33 (by kernel_rfl) rfl⟩
instance:EntF Tryz.prog 34:=⟨enters_of Tryz.func34 (by kernel_rfl) rfl⟩
instance:EntF Tryz.prog 35:=⟨enters_of Tryz.func35 (by kernel_rfl) rfl⟩
instance:EntF Tryz.prog 36:=⟨enters_of Tryz.func36 (by kernel_rfl) rfl⟩
instance:EntF Tryz.prog 37:=⟨enters_of Tryz.func37 (by kernel_rfl) rfl⟩
instance:EntF Tryz.prog 38:=⟨enters_of Tryz.func38 (by kernel_rfl) rfl⟩
instance:EntF Tryz.prog 39:=⟨enters_of Tryz.func39 (by kernel_rfl) rfl⟩
instance:EntF Tryz.prog 42:=⟨enters_of Tryz.func42 (by kernel_rfl) rfl⟩
instance:EntF Tryz.prog 43:=⟨enters_of Tryz.func43 (by kernel_rfl) rfl⟩
instance:EntF Tryz.prog 44:=⟨enters_of Tryz.func44 (by kernel_rfl) rfl⟩
instance:EntF Tryz.prog 45:=⟨enters_of Tryz.func45 (by kernel_rfl) rfl⟩
instance:EntF Tryz.prog 46:=⟨enters_of Tryz.func46 (by kernel_rfl) rfl⟩
instance:EntF Tryz.prog 47:=⟨enters_of Tryz.func47 (by kernel_rfl) rfl⟩
instance:EntF Tryz.prog 48:=⟨enters_of Tryz.func48 (by kernel_rfl) rfl⟩
instance:EntF Tryz.prog 49:=⟨enters_of Tryz.func49 (by kernel_rfl) rfl⟩
instance:EntF Tryz.prog 50:=⟨enters_of Tryz.func50 (by kernel_rfl) rfl⟩
instance:EntF Tryz.prog 51:=⟨enters_of Tryz.func51 (by kernel_rfl) rfl⟩
instance:EntF Tryz.prog 52:=⟨enters_of Tryz.func52 (by kernel_rfl) rfl⟩
instance:EntF Tryz.prog 53:=⟨enters_of Tryz.func53 (by kernel_rfl) rfl⟩
instance:EntF Tryz.prog 54:=⟨enters_of Tryz.func54 (by kernel_rfl) rfl⟩
instance:EntF Tryz.prog 55:=⟨enters_of Tryz.func55 (by kernel_rfl) rfl⟩
instance:EntF Tryz.prog 56:=⟨enters_of Tryz.func56 (by kernel_rfl) rfl⟩
instance:EntF Tryz.prog 57:=⟨enters_of Tryz.func57 (by kernel_rfl) rfl⟩
instance:EntF Tryz.prog 58:=⟨enters_of Tryz.func58 (by kernel_rfl) rfl⟩
instance:EntF Tryz.prog 59:=⟨enters_of Tryz.func59 (by kernel_rfl) rfl⟩
instance:EntF Tryz.prog 60:=⟨enters_of Tryz.func60 (by kernel_rfl) rfl⟩
instance:EntF Tryz.prog 61:=⟨enters_of Tryz.func61 (by kernel_rfl) rfl⟩
instance:EntF Tryz.prog 62:=⟨enters_of Tryz.func62 (by kernel_rfl) rfl⟩
instance:EntF Tryz.prog 63:=⟨enters_of Tryz.func63 (by kernel_rfl) rfl⟩
instance:EntF Tryz.prog 64:=⟨enters_of Tryz.func64 (by kernel_rfl) rfl⟩
instance:EntF Tryz.prog 65:=⟨enters_of Tryz.func65 (by kernel_rfl) rfl⟩
instance:EntF Tryz.prog 66:=⟨enters_of Tryz.func66 (by kernel_rfl) rfl⟩
instance:EntF Tryz.prog 67:=⟨enters_of Tryz.func67 (by kernel_rfl) rfl⟩
instance:EntF Tryz.prog 68:=⟨enters_of Tryz.func68 (by kernel_rfl) rfl⟩
instance:EntF Tryz.prog 69:=⟨enters_of Tryz.func69 (by kernel_rfl) rfl⟩
instance:EntF Tryz.prog 70:=⟨enters_of Tryz.func70 (by kernel_rfl) rfl⟩
instance:EntF Tryz.prog 71:=⟨enters_of Tryz.func71 (by kernel_rfl) rfl⟩
instance:EntF Tryz.prog 72:=⟨enters_of Tryz.func72 (by kernel_rfl) rfl⟩
instance:EntF Tryz.prog 73:=⟨enters_of Tryz.func73 (by kernel_rfl) rfl⟩
instance:EntF Tryz.prog 74:=⟨enters_of Tryz.func74 (by kernel_rfl) rfl⟩
instance:EntF Tryz.prog 75:=⟨enters_of Tryz.func75 (by kernel_rfl) rfl⟩
instance:EntF Tryz.prog 76:=⟨enters_of Tryz.func76 (by kernel_rfl) rfl⟩
instance:EntF Tryz.prog 77:=⟨enters_of Tryz.func77 (by kernel_rfl) rfl⟩
instance:EntF Tryz.prog 78:=⟨enters_of Tryz.func78 (by kernel_rfl) rfl⟩
instance:EntF Tryz.prog 79:=⟨enters_of Tryz.func79 (by kernel_rfl) rfl⟩
instance:EntF Tryz.prog 80:=⟨enters_of Tryz.func80 (by kernel_rfl) rfl⟩
instance:EntF Tryz.prog 81:=⟨enters_of Tryz.func81 (by kernel_rfl) rfl⟩
instance:EntF Tryz.prog 82:=⟨enters_of Tryz.func82 (by kernel_rfl) rfl⟩
instance:EntF Tryz.prog 83:=⟨enters_of Tryz.func83 (by kernel_rfl) rfl⟩
instance:EntF Tryz.prog 84:=⟨enters_of Tryz.func84 (by kernel_rfl) rfl⟩
instance:EntF Tryz.prog 87:=⟨enters_of Tryz.func87 (by kernel_rfl) rfl⟩
instance:EntF Tryz.prog 88:=⟨enters_of Tryz.func88 (by kernel_rfl) rfl⟩
instance:EntF Tryz.prog 89:=⟨enters_of Tryz.func89 (by kernel_rfl) rfl⟩
instance:EntF Tryz.prog 90:=⟨enters_of Tryz.func90 (by kernel_rfl) rfl⟩
instance:EntF Tryz.prog 91:=⟨enters_of Tryz.func91 (by kernel_rfl) rfl⟩
instance:EntF Tryz.prog 92:=⟨enters_of Tryz.func92 (by kernel_rfl) rfl⟩
instance:EntF Tryz.prog 93:=⟨enters_of Tryz.func93 (by kernel_rfl) rfl⟩
instance:EntF Tryz.prog 94:=⟨enters_of Tryz.func94 (by kernel_rfl) rfl⟩
instance:EntF Tryz.prog 96:=⟨enters_of Tryz.func96 (by kernel_rfl) rfl⟩
instance:EntF Tryz.prog 97:=⟨enters_of Tryz.func97 (by kernel_rfl) rfl⟩
instance:EntF Tryz.prog 98:=⟨enters_of Tryz.func98 (by kernel_rfl) rfl⟩
instance:EntF Tryz.prog 112:=⟨enters_of Tryz.func112 (by kernel_rfl) rfl⟩
instance:EntF Tryz.prog 113:=⟨enters_of Tryz.func113 (by kernel_rfl) rfl⟩
instance:EntF Tryz.prog 114:=⟨enters_of Tryz.func114 (by kernel_rfl) rfl⟩
instance:EntF Tryz.prog 115:=⟨enters_of Tryz.func115 (by kernel_rfl) rfl⟩
instance:EntF Tryz.prog 116:=⟨enters_of Tryz.func116 (by kernel_rfl) rfl⟩
instance:EntF Tryz.prog 118:=⟨enters_of Tryz.func118 (by kernel_rfl) rfl⟩
instance:EntF Tryz.prog 119:=⟨enters_of Tryz.func119 (by kernel_rfl) rfl⟩
instance:EntF Tryz.prog 120:=⟨enters_of Tryz.func120 (by kernel_rfl) rfl⟩
instance:EntF Tryz.prog 121:=⟨enters_of Tryz.func121 (by kernel_rfl) rfl⟩
instance:EntF Tryz.prog 133:=⟨enters_of Tryz.func133 (by kernel_rfl) rfl⟩
instance:EntF Tryz.prog 134:=⟨enters_of Tryz.func134 (by kernel_rfl) rfl⟩
end
set_option synthInstance.maxSize 100000
set_option synthInstance.maxHeartbeats 400000
def fieldsOf (k:Int):Int:=
 if k=1 then 1 else if k=2 then 6 else if k=3 then 2 else if k=4∨k=6 then 16 else if k=5 then 8 else if k=7 then 10 else if k=8 then 14 else 0
theorem fields_c (k:Int)(w:World):Ret Tryz.prog 118 [.int .i64 k] w (fun _=>False) fun v _=>v=.int .i64 (fieldsOf k):=by
 refine E1 Tryz.func118 rfl Tryz.ntmps118 (Wd.start w) ?_;intro a S;refine J18 ?_;clear S;intro a S;refine kC S (fun h2=>?_) (fun h2=>?_);refine J8 ?_;clear S;intro a S;refine fin1 S (fun _=>?_);simp at *;first | (exfalso;omega) | simp[*,fieldsOf]
 refine J6 ?_;clear S;intro a S;refine kC S (fun h4=>?_) (fun h4=>?_);refine J8 ?_;clear S;intro a S;refine fin1 S (fun _=>?_);simp at *;first | (exfalso;omega) | simp[*,fieldsOf]
 refine J6 ?_;clear S;intro a S;refine kC S (fun h6=>?_) (fun h6=>?_);refine J8 ?_;clear S;intro a S;refine fin1 S (fun _=>?_);simp at *;first | (exfalso;omega) | simp[*,fieldsOf]
 refine J7 ?_;clear S;intro a S;refine kC S (fun h8=>?_) (fun h8=>?_);refine kK (xtn ?_);refine kC S (fun h8=>?_) (fun h8=>?_);refine J8 ?_;clear S;intro a S;refine fin1 S (fun _=>?_);simp at *;first | (exfalso;omega) | simp[*,fieldsOf]
 refine J6 ?_;clear S;intro a S;refine kC S (fun h11=>?_) (fun h11=>?_);refine J8 ?_;clear S;intro a S;refine fin1 S (fun _=>?_);simp at *;first | (exfalso;omega) | simp[*,fieldsOf]
 refine J6 ?_;clear S;intro a S;refine kC S (fun h13=>?_) (fun h13=>?_);refine J8 ?_;clear S;intro a S;refine fin1 S (fun _=>?_);simp at *;first | (exfalso;omega) | simp[*,fieldsOf]
 refine J6 ?_;clear S;intro a S;refine kC S (fun h15=>?_) (fun h15=>?_);refine J8 ?_;clear S;intro a S;refine fin1 S (fun _=>?_);simp at *;first | (exfalso;omega) | simp[*,fieldsOf]
 refine J9 ?_;clear S;intro a S;refine fin1 S (fun _=>?_);simp at *;first | (exfalso;omega) | simp[*,fieldsOf]
 refine J5 ?_;clear S;intro a S;refine kC S (fun h9=>?_) (fun h9=>?_);refine J8 ?_;clear S;intro a S;refine fin1 S (fun _=>?_);simp at *;first | (exfalso;omega) | simp[*,fieldsOf]
 refine J6 ?_;clear S;intro a S;refine kC S (fun h11=>?_) (fun h11=>?_);refine J8 ?_;clear S;intro a S;refine fin1 S (fun _=>?_);simp at *;first | (exfalso;omega) | simp[*,fieldsOf]
 refine J6 ?_;clear S;intro a S;refine kC S (fun h13=>?_) (fun h13=>?_);refine J8 ?_;clear S;intro a S;refine fin1 S (fun _=>?_);simp at *;first | (exfalso;omega) | simp[*,fieldsOf]
 refine J6 ?_;clear S;intro a S;refine kC S (fun h15=>?_) (fun h15=>?_);refine J8 ?_;clear S;intro a S;refine fin1 S (fun _=>?_);simp at *;first | (exfalso;omega) | simp[*,fieldsOf]
 refine J9 ?_;clear S;intro a S;refine fin1 S (fun _=>?_);simp at *;first | (exfalso;omega) | simp[*,fieldsOf]
instance {k:Int}{bs fs} : CallV Tryz.prog 118 [.int .i64 k] bs fs (.int .i64 (fieldsOf k)):=⟨fun w _=>fields_c k w⟩
def hasF (f g:Int):Bool:=!decide (iand .i64 f g=0)
theorem has_c (f g:Int)(w:World):Ret Tryz.prog 120 [.int .i64 f,.int .i64 g] w (fun _=>False) fun v _=>v=.bool (hasF f g):=by
 refine E1 Tryz.func120 rfl Tryz.ntmps120 (Wd.start w) ?_;intro a S;refine J15 ?_;intro a S;refine fin1 S (fun _=>?_);rfl
instance {f g:Int}{bs fs} : CallV Tryz.prog 120 [.int .i64 f,.int .i64 g] bs fs (.bool (hasF f g)):=⟨fun w _=>has_c f g w⟩
def kidsF (f:Int):Int:=if hasF f 16 then 2 else if hasF f 8 then 1 else 0
theorem kids_c (f:Int)(w:World):Ret Tryz.prog 119 [.int .i64 f] w (fun _=>False) fun v _=>v=.int .i64 (kidsF f):=by
 refine E1 Tryz.func119 rfl Tryz.ntmps119 (Wd.start w) ?_;intro a S;refine Y14 ?_;intro a w S;refine kC S (fun h1=>?_) (fun h1=>?_);refine J8 ?_;intro a S;refine fin1 S (fun _=>?_);simp[*,kidsF];refine Y7 ?_;intro a w S;refine kC S (fun h3=>?_) (fun h3=>?_);refine J8 ?_;intro a S;refine fin1 S (fun _=>?_);simp[*,kidsF];refine J9 ?_;intro a S;refine fin1 S (fun _=>?_);simp[*,kidsF]
instance {f:Int}{bs fs} : CallV Tryz.prog 119 [.int .i64 f] bs fs (.int .i64 (kidsF f)):=⟨fun w _=>kids_c f w⟩
def knownF (n:Int):Bool:=decide (1≤n)&&decide (n≤6)
theorem known_c (n:Int)(w:World):Ret Tryz.prog 121 [.int .i64 n] w (fun _=>False) fun v _=>v=.bool (knownF n):=by
 refine E1 Tryz.func121 rfl Tryz.ntmps121 (Wd.start w) ?_;intro a S;refine J17 ?_;intro a S;refine fin1 S (fun _=>?_);rfl
instance {n:Int}{bs fs} : CallV Tryz.prog 121 [.int .i64 n] bs fs (.bool (knownF n)):=⟨fun w _=>known_c n w⟩
def plainF (k u n:Int)(s:List UInt8)(m:Nat):Bool:=
 let f:=fieldsOf k
 !decide (f=0)&&decide ((m:Int)=kidsF f)&&decide ((s.length:Int)≤64)&&(hasF f 1||decide (s=[]))&&(hasF f 2&&knownF u||!hasF f 2&&decide (u=0))&&(hasF f 4&&decide (0≤n)&&decide (n≤65535)||!hasF f 4&&decide (n=0))
theorem plain_c (k u n:Int)(s:List UInt8)(p:Option Addr)(m c:Nat)(w:World):Ret Tryz.prog 96 [.agg #[.int .i64 k,.int .i64 u,.int .i64 n,str s,.slice p m c]] w (fun _=>False) fun v _=>v=.bool (plainF k u n s m):=by
 refine E1 Tryz.func96 rfl Tryz.ntmps96 (Wd.start w) ?_;intro a S;refine kS (kR ?_);refine sa S ?_;intro b1 a w S;refine Y12 ?_;intro a w S;refine c_drawD [T9 0,T9 1,T9 2,T9 3,T9 4,T9 5,T9 6,F9 7,T9 8,T9 9,T9 10,T9 11,T9 12,T9 13,T9 14,T9 15,T9 16,T9 17,F9 18,T9 19,T9 20,T9 21,T9 22,T9 23,T9 24,T9 25] [] S ?_;intro w S;(iterate 3 (refine dq S ?_;intro a S));(iterate 4 (refine dqG S ?_;intro a S));refine dl ?_;refine gC S ?_;intro a w S;refine de S ?_;refine dqG S ?_;intro a S;(iterate 2 (refine dq S ?_;intro a S));(iterate 4 (refine dqG S ?_;intro a S));(iterate 2 (refine dq S ?_;intro a S));refine dqG S ?_;intro a S;refine dl ?_;refine gC S ?_;intro a w S;refine de S ?_;(iterate 5 (refine dqG S ?_;intro a S));(iterate 2 (refine dq S ?_;intro a S));refine dn (xtn (kS (kR ?_)));(iterate 2 (refine sq S ?_;intro a S));refine gQ S ?_;intro a S;refine gC S ?_;intro a w S;(iterate 3 (refine gQ S ?_;intro a S));refine gC S ?_;intro a w S;refine Y20 ?_;intro a w S;refine Y20 ?_;intro a w S;refine J6 ?_;intro a S;refine fin1 S (fun _=>?_)
 first | rfl | simp[plainF]
instance {k u n:Int}{s:List UInt8}{p:Option Addr}{m c:Nat}{bs fs} : CallV Tryz.prog 96 [.agg #[.int .i64 k,.int .i64 u,.int .i64 n,str s,.slice p m c]] bs fs (.bool (plainF k u n s m)):=⟨fun w _=>plain_c k u n s p m c w⟩
mutual
def walkF:Term→Int→Int→Bool × Int
 | .mk k u n s kids,deep,left=>if left - 1 < 0∨60 < deep∨plainF k u n s kids.length=false then (false,left - 1) else walkLF kids (deep+1) (left - 1)
def walkLF:List Term→Int→Int→Bool × Int
 | [],_,left=>(true,left)
 | t::ts,deep,left=>if (walkF t deep left).1 then walkLF ts deep (walkF t deep left).2 else (false,(walkF t deep left).2)
end
mutual
theorem walkF_le:∀ (t:Term) (deep left:Int),(walkF t deep left).2≤left
 | .mk k u n s kids,deep,left=>by
  rw[walkF];split;simp;omega;have:=walkLF_le kids (deep+1) (left - 1);omega
theorem walkLF_le:∀ (ts:List Term) (deep left:Int),(walkLF ts deep left).2≤left
 | [],deep,left=>by simp[walkLF]
 | t::ts,deep,left=>by
  have h1:=walkF_le t deep left;have h2:=walkLF_le ts deep (walkF t deep left).2;rw[walkLF];split;omega;exact h1
end
mutual
theorem walkF_ge:∀ (t:Term) (deep left:Int),0≤left→(walkF t deep left).1=true→0≤(walkF t deep left).2
 | .mk k u n s kids,deep,left=>by
  intro h0 h;rw[walkF]at h⊢;split at h;simp at h
  rename_i hc
  rw[if_neg hc];exact walkLF_ge kids (deep+1) (left - 1) (by omega) h
theorem walkLF_ge:∀ (ts:List Term) (deep left:Int),0≤left→(walkLF ts deep left).1=true→0≤(walkLF ts deep left).2
 | [],deep,left=>by intro h0 _;simpa [walkLF] using h0
 | t::ts,deep,left=>by
  intro h0 h;rw[walkLF]at h⊢;split at h
  rename_i hc
  rw[if_pos hc];exact walkLF_ge ts deep _ (walkF_ge t deep left h0 hc) h;simp at h
end
theorem walk_c (N:Nat):∀ (t:LTerm) (deep left:Int) (b:Nat) (w0:World),SizeOf.sizeOf t≤N→0≤deep→deep≤61→0≤left→left≤1200→Stable (fun k=>k=b) w0 (LtF t)→w0.heap[b]? = some (.cells #[.int .i64 left] 3 (0,0))→
  Ret Tryz.prog 75 [vL t,.int .i64 deep,.pointer (some ⟨b,0,none⟩)] w0 (fun k=>k=b) fun v w'=>v=.bool (walkF t.t deep left).1∧w'.heap[b]? = some (.cells #[.int .i64 (walkF t.t deep left).2] 3 (0,0)):=by
 induction N with
 | zero=>intro t _ _ _ _ h;cases t;simp at h
 | succ N ih=>
 intro t deep left b w0 hN hd hd' hl hl' hf hb;have e0:=t.t_eq;refine E1 Tryz.func75 rfl Tryz.ntmps75 (Wd.lent (fs:=[LtF t]) hb (by simpa using hf)) ?_;intro a S;refine kS (kR ?_);refine sa S ?_;intro b3 a w S;refine J10 ?_;intro a S;rw[w6 (left - 1)]at S;refine Y21 ?_;intro a w S;refine kC S (fun h2=>?_) (fun h2=>?_)
 ·refine J7 ?_;intro a S
  have hbx:=S.box b;refine fin1 S (fun _=>?_);have h3:left - 1 < 0∨60 < deep∨plainF t.kind t.user t.num t.text t.kids.length=false:=by simpa [or_assoc] using h2
  rw[e0,walkF,if_pos (by simpa using h3)];exact ⟨rfl,hbx⟩
 ·refine J12 ?_;intro a S
  have h3:¬(left - 1 < 0∨60 < deep∨plainF t.kind t.user t.num t.text t.kids.length=false):=by simpa [and_assoc] using h2
  have hlen:=LTerm.len_le hf;refine c_loop (ι:=Nat) (fun k a w=>k≤t.kids.length∧∃ lf,0≤lf∧lf≤1200∧walkLF ((t.kids.drop k).map LTerm.t) (deep+1) lf=walkF t.t deep left∧∃ uu:Nat→Value,St w0 (fun k=>k=b) [] a w ((vL t)::(.int .i64 deep)::(.pointer (some ⟨b,0,none⟩))::(.pointer (some ⟨b3,0,none⟩))::uu 4::uu 5::(.bool false)::uu 7::uu 8::uu 9::uu 10::uu 11::uu 12::uu 13::uu 14::uu 15::uu 16::uu 17::uu 18::uu 19::uu 20::uu 21::uu 22::uu 23::uu 24::uu 25::uu 26::uu 27::(.slice t.p t.kids.length t.cap)::(.int .i64 t.kids.length)::(.int .i64 (k:Nat))::uu 31::uu 32::uu 33::uu 34::uu 35::uu 36::uu 37::uu 38::uu 39::uu 40::[]) [box b3 24 t.cells,box b 3 [.int .i64 lf]] [LtF t]) (fun k=>t.kids.length - k) 0 ?_ ?_
  ·refine ⟨Nat.zero_le _,left - 1,by omega,by omega,?_,S.uu,S⟩
   rw[e0,walkF,if_neg (by simpa using h3)];rfl
  ·clear S
   rintro k a w ⟨hk,lf,hlf,hlf',hrel,uu,S⟩;refine J6 ?_;intro a S;refine kC S (fun h5=>?_) (fun h5=>?_)
   ·refine kK (xtn (kS (kB (kS (kR ?_)))))
    have hkl:k < t.kids.length:=by simpa using h5
    obtain ⟨x,ad,hx,hm,hp,hcell,hfx⟩:=LTerm.kid (S.fact (Φ:=LtF t) (by simp)) hkl;replace S:=S.add hfx;refine si S ad hp (by omega) (by omega) ?_;intro a S;refine slA x.cells S hcell ?_;intro a S;refine sa S ?_;intro b8 a w S;refine Y8 ?_;intro a w S;rw[w6 (deep+1)]at S;refine J1 ?_;intro a S;have hdr:t.kids.drop k=x::t.kids.drop (k+1):=by
     rw[List.drop_eq_getElem_cons hkl];congr 1;exact (List.getElem?_eq_some_iff.1 hx).2
    rw[hdr,List.map_cons,walkLF]at hrel;have hb1:=walkF_le x.t (deep+1) lf;refine sb S (b:=b) (ih x (deep+1) lf b w (by have:=LTerm.kid_lt hm;omega) (by omega) (by have:¬60 < deep:=fun h=>h3 (.inr (.inl h));omega) hlf hlf' (S.fb b (by simp)) (S.box b)) ?_;clear S;rintro v a w ⟨rfl,hcb⟩ hS;have S:=hS [.int .i64 _] _ inferInstance hcb;clear hS;refine J3 ?_;intro a S;refine kC S (fun h7=>?_) (fun h7=>?_)
    ·refine J11 ?_;intro a S
     have hbx:=S.box b;refine fin1 S (fun _=>?_);have h8:(walkF x.t (deep+1) lf).1=false:=by simpa using h7
     rw[if_neg (by simp[h8])]at hrel;rw[←hrel];exact ⟨rfl,hbx⟩
    ·refine J8 ?_;intro a S
     have h8:(walkF x.t (deep+1) lf).1=true:=by simpa using h7
     rw[if_pos h8]at hrel;replace S:=S.sub [box b3 24 t.cells,box b 3 [.int .i64 (walkF x.t (deep+1) lf).2]] [LtF t];rw[w6 ((k:Int)+1)]at S;exact ⟨k+1,⟨hkl,_,walkF_ge x.t (deep+1) lf hlf h8,by omega,hrel,S.uu,S⟩,by omega⟩
   ·refine J11 ?_;intro a S
    have hbx:=S.box b;refine fin1 S (fun _=>?_);have h6:t.kids.length≤k:=by simpa using h5
    rw[List.drop_of_length_le h6,List.map_nil,walkLF]at hrel;rw[←hrel];exact ⟨rfl,hbx⟩
def sizeF (t:Term):Int:=if (walkF t 1 1200).1 then 1200 - (walkF t 1 1200).2 else 0
theorem size_c (t:LTerm)(w0:World)(hf:Fx w0 (LtF t)):Ret Tryz.prog 39 [vL t] w0 (fun _=>False) fun v _=>v=.int .i64 (sizeF t.t):=by
 have h1:=walkF_le t.t 1 1200;refine E1 Tryz.func39 rfl Tryz.ntmps39 (Wd.begin (fs:=[LtF t]) (by simpa using hf)) ?_;intro a S;refine kS (kR ?_);refine sa S ?_;intro b1 a w S;refine J5 ?_;intro a S;refine sa S ?_;intro b3 a w S;refine Y7 ?_;intro a w S;refine sb S (b:=b3) (walk_c _ t 1 1200 b3 w (Nat.le_refl _) (by omega) (by omega) (by omega) (by omega) (S.fb b3 (by simp)) (S.box b3)) ?_;clear S;rintro v a w ⟨rfl,hcb⟩ hS;have S:=hS [.int .i64 _] _ inferInstance hcb;clear hS;refine J3 ?_;intro a S;refine kC S (fun h2=>?_) (fun h2=>?_);refine J7 ?_;intro a S;refine end1 S (fun _=>?_);have h3:(walkF t.t 1 1200).1=false:=by simpa using h2
 simp[sizeF,h3];refine J5 ?_;intro a S;have h3:(walkF t.t 1 1200).1=true:=by simpa using h2
 have h4:=walkF_ge t.t 1 1200 (by omega) h3;refine J1 ?_;intro a S;rw[w6 (1200 - (walkF t.t 1 1200).2)]at S;refine J4 ?_;intro a S;refine end1 S (fun _=>?_);simp[sizeF,h3]
instance {t:LTerm}{bs fs}[HasT fs t]:CallV Tryz.prog 39 [vL t] bs fs (.int .i64 (sizeF t.t)):=⟨fun w m=>size_c t w (m.t0 _)⟩
def checkF (t:Term):Int:=if sizeF t=0 then 150 else 0
theorem check_c (t:LTerm)(w0:World)(hf:Fx w0 (LtF t)):Ret Tryz.prog 13 [vL t] w0 (fun _=>False) fun v _=>v=.int .i64 (checkF t.t):=by
 refine E1 Tryz.func13 rfl Tryz.ntmps13 (Wd.begin (fs:=[LtF t]) (by simpa using hf)) ?_;intro a S;refine kS (kR ?_);refine sa S ?_;intro b1 a w S;refine Y11 ?_;intro a w S;refine kC S (fun h1=>?_) (fun h1=>?_);refine J7 ?_;intro a S;refine end1 S (fun _=>?_);simp at h1;simp[checkF,h1];refine J8 ?_;intro a S;refine end1 S (fun _=>?_);simp at h1;simp[checkF,h1]
instance {t:LTerm}{bs fs}[HasT fs t]:CallV Tryz.prog 13 [vL t] bs fs (.int .i64 (checkF t.t)):=⟨fun w m=>check_c t w (m.t0 _)⟩
theorem text_c (s:List UInt8)(w0:World):Ret Tryz.prog 24 [str s] w0 (fun _=>False) fun v _=>v=vL (.mk 1 0 0 s none 0 []):=by
 refine E1 Tryz.func24 rfl Tryz.ntmps24 (Wd.start w0) ?_;intro a S;refine kS (kR ?_);refine sa S ?_;intro b2 a w S;refine Y10 ?_;intro a w S;refine end1 S (fun _=>?_);rfl
instance {s:List UInt8}{bs fs} : CallV Tryz.prog 24 [str s] bs fs (vL (textL s)):=⟨fun w _=>text_c s w⟩
theorem fresh_c (u n:Int)(w0:World):Ret Tryz.prog 18 [.int .i64 u,.int .i64 n] w0 (fun _=>False) fun v _=>v=vL (.mk 2 u n [] none 0 []):=by
 refine E1 Tryz.func18 rfl Tryz.ntmps18 (Wd.start w0) ?_;intro a S;refine kS (kR ?_);refine sa S ?_;intro b4 a w S;refine Y11 ?_;intro a w S;refine end1 S (fun _=>?_);rfl
instance {u n:Int}{bs fs} : CallV Tryz.prog 18 [.int .i64 u,.int .i64 n] bs fs (vL (freshL u n)):=⟨fun w _=>fresh_c u n w⟩
theorem of_c (k:Int)(p:Option Addr)(n c:Nat)(w0:World):Ret Tryz.prog 43 [.int .i64 k,.slice p n c] w0 (fun _=>False) fun v _=>v=.agg #[.int .i64 k,.int .i64 0,.int .i64 0,str [],.slice p n c]:=by
 refine E1 Tryz.func43 rfl Tryz.ntmps43 (Wd.start w0) ?_;intro a S;refine kS (kR ?_);refine sa S ?_;intro b4 a w S;refine Y11 ?_;intro a w S;refine end1 S (fun _=>?_);rfl
instance {k:Int}{p:Option Addr}{n c:Nat}{bs fs} : CallV Tryz.prog 43 [.int .i64 k,.slice p n c] bs fs (.agg #[.int .i64 k,.int .i64 0,.int .i64 0,str [],.slice p n c]):=⟨fun w _=>of_c k p n c w⟩
theorem pair_c (x y:LTerm)(M:Nat→Prop)(w0:World)(hM:∀ k,M k→k < w0.heap.size)(hx:Stable M w0 (LtF x))(hy:Stable M w0 (LtF y)):Ret Tryz.prog 49 [vL x,vL y] w0 (fun _=>False) fun v w'=>IsT M w' v (.pair x.t y.t):=by
 refine E1 Tryz.func49 rfl Tryz.ntmps49 (Wd.beginM (M:=M) (fs:=[LtF x,LtF y]) hM (by simp;exact ⟨hx,hy⟩)) ?_;intro a S;refine kS (kR ?_);refine sa S ?_;intro b2 a w S;refine sa S ?_;intro b3 a w S;refine sa S ?_;intro b4 a w S;refine J6 ?_;intro a S;refine sn S ?_;intro b7 a w S;refine Y5 ?_;intro a w S;refine end1 S (fun _=>?_);refine ⟨pairL (some ⟨b7,0,none⟩) x y,rfl,rfl,fun w' hw'=>?_⟩;have h1:=S.laterFact (Φ:=LtF x) (by simp) w' hw';have h2:=S.laterFact (Φ:=LtF y) (by simp) w' hw';exact ⟨by simp,by simp[maxLen],LsIn.of_block [x,y] (S.laterBox hw' b7) (by simpa using ⟨h1,h2⟩)⟩
mutual
def sameF:Term→Term→Bool
 | .mk k u n s ks,.mk k' u' n' s' ks'=>decide (k=k')&&decide (u=u')&&decide (n=n')&&decide (s=s')&&sameLF ks ks'
def sameLF:List Term→List Term→Bool
 | [],[]=>true
 | a::l,b::m=>sameF a b&&sameLF l m
 | [],_::_=>false
 | _::_,[]=>false
end
mutual
theorem sameF_iff:∀ a b:Term,sameF a b=true↔a=b
 | .mk k u n s ks,.mk k' u' n' s' ks'=>by
  have:=sameLF_iff ks ks';simp[sameF,this,and_assoc]
theorem sameLF_iff:∀ a b:List Term,sameLF a b=true↔a=b
 | [],[]=>by simp[sameLF]
 | a::l,b::m=>by
  have h1:=sameF_iff a b;have h2:=sameLF_iff l m;simp[sameLF,h1,h2]
 | [],_::_=>by simp[sameLF]
 | _::_,[]=>by simp[sameLF]
end
theorem sameLF_len {a b:List Term}(h:a.length≠b.length):sameLF a b=false:=by
 cases hs:sameLF a b with
 | false=>rfl
 | true=>exact absurd (by rw[(sameLF_iff a b).1 hs]) h
def SameC (N:Nat):Prop:=∀ (x y:LTerm) (w:World),SizeOf.sizeOf x≤N→Fx w (LtF x)→Fx w (LtF y)→Ret Tryz.prog 16 [vL x,vL y] w (fun _=>False) fun v _=>v=.bool (sameF x.t y.t)
theorem equal_c (N:Nat)(hS:SameC N)(p q:Option Addr)(c e n m:Nat)(xs ys:List LTerm)(hn:xs.length=n)(hm:ys.length=m)(w0:World)(hl:n≤9223372036854775807)(hN:∀ x∈xs,SizeOf.sizeOf x≤N)(hx:Fx w0 (LsF p 0 xs))(hy:Fx w0 (LsF q 0 ys)) :
  Ret Tryz.prog 44 [.slice p n c,.slice q m e,.func (.func 16) #[] #[]] w0 (fun _=>False) fun v _=>v=.bool (sameLF (xs.map LTerm.t) (ys.map LTerm.t)):=by
 refine E1 Tryz.func44 rfl Tryz.ntmps44 (Wd.begin (fs:=[LsF p 0 xs,LsF q 0 ys]) (by simp;exact ⟨hx,hy⟩)) ?_;intro a S;refine J15 ?_;intro a S;refine kC S (fun h1=>?_) (fun h1=>?_);refine J7 ?_;intro a S;refine end1 S (fun _=>?_);rw[sameLF_len];simp[hn,hm];simp at h1;omega;refine J11 ?_;intro a S;obtain rfl:n=m:=by simp at h1;omega
 refine c_loop (ι:=Nat) (fun k a w=>k≤n∧sameLF ((xs.drop k).map LTerm.t) ((ys.drop k).map LTerm.t)=sameLF (xs.map LTerm.t) (ys.map LTerm.t)∧∃ uu:Nat→Value,St w0 (fun _=>False) [] a w ((.slice p n c)::(.slice q n e)::(.func (.func 16) #[] #[])::uu 3::uu 4::uu 5::(.bool false)::uu 7::uu 8::uu 9::uu 10::uu 11::uu 12::uu 13::uu 14::(.slice p n c)::(.int .i64 n)::(.int .i64 (k:Nat))::uu 18::uu 19::uu 20::uu 21::uu 22::uu 23::uu 24::uu 25::uu 26::uu 27::uu 28::uu 29::uu 30::uu 31::[]) [] [LsF p 0 xs,LsF q 0 ys]) (fun k=>n - k) 0 ?_ ?_;exact ⟨Nat.zero_le _,rfl,S.uu,S⟩;clear S;rintro k a w ⟨hk,hrel,uu,S⟩;refine J6 ?_;intro a S;refine kC S (fun h4=>?_) (fun h4=>?_);refine J7 ?_;intro a S;have hkl:k < n:=by simpa using h4
 obtain ⟨x,ad,hx1,hxm,hxd,hp,hcell,hfx⟩:=ls_kid (S.fact (Φ:=LsF p 0 xs) (by simp)) (k:=k) (by omega);replace S:=S.add hfx;refine si S ad hp (by omega) (by omega) ?_;intro a S;refine slA x.cells S hcell ?_;intro a S;refine sa S ?_;intro b8 a w S;refine Y8 ?_;intro a w S;obtain ⟨y,ad',hy1,hym,hyd,hq,hcell',hfy⟩:=ls_kid (S.fact (Φ:=LsF q 0 ys) (by simp)) (k:=k) (by omega);replace S:=S.add hfy;refine si S ad' hq (by omega) (by omega) ?_;intro a S;refine slA y.cells S hcell' ?_;intro a S;refine sa S ?_;intro b9 a w S;refine Y8 ?_;intro a w S;rw[hxd,hyd,List.map_cons,List.map_cons,sameLF]at hrel;refine sr S (hS x y w (hN x hxm) (S.mem.fact0 (LtF x)) (S.mem.fact0 (LtF y))) ?_;rintro v a w rfl S;refine J3 ?_;intro a S;refine kC S (fun h7=>?_) (fun h7=>?_);refine J11 ?_;intro a S;refine end1 S (fun _=>?_);have h8:sameF x.t y.t=false:=by simpa using h7
 simp[←hrel,h8];refine J8 ?_;intro a S;have h8:sameF x.t y.t=true:=by simpa using h7
 rw[h8,Bool.true_and]at hrel;replace S:=S.sub [] [LsF p 0 xs,LsF q 0 ys];rw[w6 ((k:Int)+1)]at S;exact ⟨k+1,⟨hkl,hrel,S.uu,S⟩,by omega⟩;refine J11 ?_;intro a S;refine end1 S (fun _=>?_);have h6:n≤k:=by simpa using h4
 rw[List.drop_of_length_le (by omega),List.drop_of_length_le (by omega)]at hrel;simp[←hrel,sameLF]
theorem same_all:∀ N,SameC N:=by
 intro N
 induction N with
 | zero=>intro x y w h;cases x;simp at h
 | succ N ih=>
 intro x y w0 hN hx hy;have e1:=x.t_eq;have e2:=y.t_eq;have hq:∀ {bs fs} [HasT fs x] [HasT fs y],CallV Tryz.prog 44 [.slice x.p x.kids.length x.cap,.slice y.p y.kids.length y.cap,.func (.func 16) #[] #[]] bs fs (.bool (sameLF (x.kids.map LTerm.t) (y.kids.map LTerm.t))):=
  ⟨fun w m=>equal_c N ih x.p y.p x.cap y.cap _ _ x.kids y.kids rfl rfl w (LTerm.len_le hx) (fun z hz=>by have:=LTerm.kid_lt hz;omega) (ls_of_lt (m.t0 _)) (ls_of_lt (m.t0 _))⟩
 refine E1 Tryz.func16 rfl Tryz.ntmps16 (Wd.begin (fs:=[LtF x,LtF y]) (by simp;exact ⟨hx,hy⟩)) ?_;intro a S;refine kS (kR ?_);refine sa S ?_;intro b2 a w S;refine sa S ?_;intro b3 a w S;refine J20 ?_;intro a S;refine Y22 ?_;intro a w S;refine end1 S (fun _=>?_);rw[e1,e2,sameF]
theorem same_c (x y:LTerm)(w:World)(hx:Fx w (LtF x))(hy:Fx w (LtF y)):Ret Tryz.prog 16 [vL x,vL y] w (fun _=>False) fun v _=>v=.bool (sameF x.t y.t):=same_all _ x y w (Nat.le_refl _) hx hy
instance {x y:LTerm}{bs fs}[HasT fs x][HasT fs y]:CallV Tryz.prog 16 [vL x,vL y] bs fs (.bool (sameF x.t y.t)):=⟨fun w m=>same_c x y w (m.t0 _) (m.t0 _)⟩
def rKids (k:Int):Int:=if k < 1∨8 < k then -1 else if k≤3 then 0 else if k=4∨k=6 then 2 else 1
theorem rkids_c (k:Int)(w:World):Ret Tryz.prog 114 [.int .i64 k] w (fun _=>False) fun v _=>v=.int .i64 (rKids k):=by
 refine E1 Tryz.func114 rfl Tryz.ntmps114 (Wd.start w) ?_;intro a S;refine J16 ?_;clear S;intro a S;refine kC S (fun h1=>?_) (fun h1=>?_)
 ·refine J7 ?_;clear S;intro a S
  refine end1 S (fun _=>?_);clear S;congr 1;unfold rKids;simp at *
  (repeat' split) <;> omega
 ·refine J9 ?_;clear S;intro a S
  refine kC S (fun h3=>?_) (fun h3=>?_)
  ·refine J7 ?_;clear S;intro a S
   refine end1 S (fun _=>?_);clear S;congr 1;unfold rKids;simp at *
   (repeat' split) <;> omega
  ·refine J13 ?_;clear S;intro a S
   refine kC S (fun h5=>?_) (fun h5=>?_)
   ·refine J7 ?_;clear S;intro a S
    refine end1 S (fun _=>?_);clear S;congr 1;unfold rKids;simp at *
    (repeat' split) <;> omega
   ·refine J8 ?_;clear S;intro a S
    refine end1 S (fun _=>?_);clear S;congr 1;unfold rKids;simp at *
    (repeat' split) <;> omega
instance {k:Int}{bs fs} : CallV Tryz.prog 114 [.int .i64 k] bs fs (.int .i64 (rKids k)):=⟨fun w _=>rkids_c k w⟩
def rUser (k:Int):Bool:=decide (k=2)||decide (k=3)||decide (k=7)||decide (k=8)
theorem ruser_c (k:Int)(w:World):Ret Tryz.prog 115 [.int .i64 k] w (fun _=>False) fun v _=>v=.bool (rUser k):=by
 refine E1 Tryz.func115 rfl Tryz.ntmps115 (Wd.start w) ?_;intro a S;refine J20 ?_;intro a S;refine J5 ?_;intro a S;refine end1 S (fun _=>?_);rfl
instance {k:Int}{bs fs} : CallV Tryz.prog 115 [.int .i64 k] bs fs (.bool (rUser k)):=⟨fun w _=>ruser_c k w⟩
def rNum (k:Int):Bool:=decide (k=2)||decide (k=8)
theorem rnum_c (k:Int)(w:World):Ret Tryz.prog 116 [.int .i64 k] w (fun _=>False) fun v _=>v=.bool (rNum k):=by
 refine E1 Tryz.func116 rfl Tryz.ntmps116 (Wd.start w) ?_;intro a S;refine J17 ?_;intro a S;refine end1 S (fun _=>?_);rfl
instance {k:Int}{bs fs} : CallV Tryz.prog 116 [.int .i64 k] bs fs (.bool (rNum k)):=⟨fun w _=>rnum_c k w⟩
def rOne (k u n:Int)(s:List UInt8)(m:Nat):Bool:=
 !(decide (rKids k < 0)||!decide ((m:Int)=rKids k)||decide (64 < (s.length:Int))||(!decide (k=1)&&!decide (s=[])))&&
 !(rUser k&&(decide (u < 1)||decide (6 < u))||!rUser k&&!decide (u=0))&&
 (decide (n=0)||rNum k&&decide (0 < n)&&decide (n≤65535))
theorem rone_c (t:LTerm)(w:World):Ret Tryz.prog 90 [vL t] w (fun _=>False) fun v _=>v=.bool (rOne t.kind t.user t.num t.text t.kids.length):=by
 refine E1 Tryz.func90 rfl Tryz.ntmps90 (Wd.start w) ?_;intro a S;refine kS (kR ?_);refine sa S ?_;intro b1 a w S;refine J5 ?_;intro a S;refine c_drawD [T9 0,T9 1,F9 2,T9 3,T9 4,T9 5,T9 6,T9 7,T9 8,T9 9,F9 10,T9 11,T9 12,T9 13,T9 14,T9 15,T9 16,T9 17,T9 18,T9 19,T9 20,T9 21,T9 22,T9 23,T9 24,T9 25,T9 26,T9 27,T9 28] [] S ?_;intro w S;(iterate 2 (refine dq S ?_;intro a S));refine dl (sc S ?_);intro a w S;refine de S ?_;(iterate 2 (refine dq S ?_;intro a S));(iterate 5 (refine dqG S ?_;intro a S));refine dl ?_;refine gC S ?_;intro a w S;refine de S ?_;refine dqG S ?_;intro a S;(iterate 2 (refine dq S ?_;intro a S));(iterate 4 (refine dqG S ?_;intro a S));(iterate 2 (refine dq S ?_;intro a S));(iterate 8 (refine dqG S ?_;intro a S));refine dq S ?_;intro a S;refine dn (xtn ?_);refine kC S (fun h1=>?_) (fun h1=>?_);refine J7 ?_;intro a S;refine end1 S (fun _=>?_);simp only[rOne,h1];rfl;refine Y20 ?_;intro a w S;refine Y11 ?_;intro a w S;refine kC S (fun h3=>?_) (fun h3=>?_);refine J7 ?_;intro a S;refine end1 S (fun _=>?_);simp only[rOne,h3];simp;refine Y20 ?_;intro a w S;refine J6 ?_;intro a S;refine end1 S (fun _=>?_);simp only[rOne,h1,h3];simp
instance {t:LTerm}{bs fs} : CallV Tryz.prog 90 [vL t] bs fs (.bool (rOne t.kind t.user t.num t.text t.kids.length)):=⟨fun w _=>rone_c t w⟩
mutual
def rSize:Term→Int→Int→Int × Bool
 | .mk k u n s kids,most,deep=>if most < 1∨deep < 1∨rOne k u n s kids.length=false then (0,false) else rSizeL kids most deep 1
def rSizeL:List Term→Int→Int→Int→Int × Bool
 | [],_,_,n=>(n,true)
 | t::ts,most,deep,n=>if (rSize t (most - n) (deep - 1)).2 then rSizeL ts most deep (n+(rSize t (most - n) (deep - 1)).1) else (0,false)
end
mutual
theorem rSize_le:∀ (t:Term) (most deep:Int),(rSize t most deep).2=true→1≤(rSize t most deep).1∧(rSize t most deep).1≤most
 | .mk k u n s kids,most,deep=>by
  intro h;rw[rSize]at h⊢;split at h;simp at h
  rename_i hc
  rw[if_neg hc];exact rSizeL_le kids most deep 1 (by omega) (by omega) h
theorem rSizeL_le:∀ (ts:List Term) (most deep n:Int),1≤n→n≤most→(rSizeL ts most deep n).2=true→1≤(rSizeL ts most deep n).1∧(rSizeL ts most deep n).1≤most
 | [],most,deep,n=>by intro h1 h2 _;simp[rSizeL];omega
 | t::ts,most,deep,n=>by
  intro h1 h2 h;rw[rSizeL]at h⊢;split at h
  rename_i hc
  rw[if_pos hc];have:=rSize_le t (most - n) (deep - 1) hc;exact rSizeL_le ts most deep _ (by omega) (by omega) h;simp at h
end
theorem rsize_c (N:Nat):∀ (t:LTerm) (most deep:Int) (w0:World),SizeOf.sizeOf t≤N→most≤1200→-1200≤most→deep≤60→-60≤deep→Fx w0 (LtF t)→
  Ret Tryz.prog 63 [vL t,.int .i64 most,.int .i64 deep] w0 (fun _=>False) fun v _=>v=.tuple ⟨[.int .i64 (rSize t.t most deep).1,.bool (rSize t.t most deep).2]⟩:=by
 induction N with
 | zero=>intro t _ _ _ h;cases t;simp at h
 | succ N ih=>
 intro t most deep w0 hN hm hm' hd hd' hf;have e0:=t.t_eq;have hlen:=LTerm.len_le hf;refine E1 Tryz.func63 rfl Tryz.ntmps63 (Wd.begin (fs:=[LtF t]) (by simpa using hf)) ?_;intro a S;refine kS (kR ?_);refine sa S ?_;intro b3 a w S;refine Y20 ?_;intro a w S;refine kC S (fun h1=>?_) (fun h1=>?_)
 ·refine J8 ?_;intro a S
  refine end2 S (fun _=>?_);have h3:most < 1∨deep < 1∨rOne t.kind t.user t.num t.text t.kids.length=false:=by simpa [or_assoc] using h1
  rw[e0,rSize,if_pos (by simpa using h3)]
 ·refine J14 ?_;intro a S
  have h3:¬(most < 1∨deep < 1∨rOne t.kind t.user t.num t.text t.kids.length=false):=by simpa [and_assoc] using h1
  have h4:1≤most∧1≤deep:=by omega
  refine c_loop (ι:=Nat) (fun k a w=>k≤t.kids.length∧∃ n:Int,1≤n∧n≤most∧rSizeL ((t.kids.drop k).map LTerm.t) most deep n=rSize t.t most deep∧∃ uu:Nat→Value,St w0 (fun _=>False) [] a w ((vL t)::(.int .i64 most)::(.int .i64 deep)::(.pointer (some ⟨b3,0,none⟩))::uu 4::uu 5::(.int .i64 0)::(.bool false)::(.int .i64 n)::(.int .i64 (k:Nat))::uu 10::uu 11::uu 12::uu 13::uu 14::uu 15::uu 16::uu 17::uu 18::uu 19::uu 20::uu 21::uu 22::uu 23::uu 24::uu 25::uu 26::uu 27::uu 28::uu 29::uu 30::uu 31::uu 32::uu 33::uu 34::uu 35::uu 36::uu 37::uu 38::uu 39::uu 40::uu 41::uu 42::uu 43::uu 44::uu 45::uu 46::uu 47::uu 48::uu 49::[]) [box b3 24 t.cells] [LtF t]) (fun k=>t.kids.length - k) 0 ?_ ?_
  ·refine ⟨Nat.zero_le _,1,by omega,by omega,?_,S.uu,S⟩
   rw[e0,rSize,if_neg (by simpa using h3)];rfl
  ·clear S
   rintro k a w ⟨hk,n,hn1,hn2,hrel,uu,S⟩;refine J10 ?_;intro a S;refine kC S (fun h5=>?_) (fun h5=>?_)
   ·refine kK (xtn (kS (kB (kS (kR ?_)))))
    have hkl:k < t.kids.length:=by simpa using h5
    have hK:KLt k t.kids.length:=⟨hkl⟩;refine J8 ?_;intro a S;rw[w6 (most - n)]at S;refine J2 ?_;intro a S;rw[w6 (deep - 1)]at S;rw[nth_drop hkl,List.map_cons,rSizeL]at hrel;refine sr S (ih (nthL t.kids k) (most - n) (deep - 1) w (by have:=LTerm.kid_lt (nth_mem hkl);omega) (by omega) (by omega) (by omega) (by omega) (S.t0 _)) ?_;rintro _ a w rfl S;refine J14 ?_;intro a S;refine kC S (fun h8=>?_) (fun h8=>?_)
    ·refine J13 ?_;intro a S
     refine end2 S (fun _=>?_);have h9:(rSize (nthL t.kids k).t (most - n) (deep - 1)).2=false:=by simpa using h8
     rw[if_neg (by simp[h9])]at hrel;rw[←hrel]
    ·refine J5 ?_;intro a S
     have h9:(rSize (nthL t.kids k).t (most - n) (deep - 1)).2=true:=by simpa using h8
     have h10:=rSize_le _ _ _ h9;rw[if_pos h9]at hrel;refine J1 ?_;intro a S;rw[w64 (n+(rSize (nthL t.kids k).t (most - n) (deep - 1)).1) (by omega) (by omega)]at S;refine J10 ?_;intro a S;rw[w6 ((k:Int)+1)]at S;exact ⟨k+1,⟨hkl,_,by omega,by omega,hrel,S.uu,S⟩,by omega⟩
   ·refine J13 ?_;intro a S
    refine end2 S (fun _=>?_);have h6:t.kids.length≤k:=by simpa using h5
    rw[List.drop_of_length_le h6,List.map_nil,rSizeL]at hrel;rw[←hrel]
def rightF (t:Term):Bool:=(rSize t 1200 60).2
theorem right_c (t:LTerm)(w0:World)(hf:Fx w0 (LtF t)):Ret Tryz.prog 28 [vL t] w0 (fun _=>False) fun v _=>v=.bool (rightF t.t):=by
 refine E1 Tryz.func28 rfl Tryz.ntmps28 (Wd.begin (fs:=[LtF t]) (by simpa using hf)) ?_;intro a S;refine kS (kR ?_);refine sa S ?_;intro b1 a w S;refine J6 ?_;intro a S;refine sr S (rsize_c _ t 1200 60 w (Nat.le_refl _) (by omega) (by omega) (by omega) (by omega) (S.t0 _)) ?_;rintro _ a w rfl S;refine J14 ?_;intro a S;refine end1 S (fun _=>?_);rfl
instance {t:LTerm}{bs fs}[HasT fs t]:CallV Tryz.prog 28 [vL t] bs fs (.bool (rightF t.t)):=⟨fun w m=>right_c t w (m.t0 _)⟩
theorem plain_one (k u n:Int)(s:List UInt8)(m:Nat):plainF k u n s m=rOne k u n s m:=by
  by_cases hk:1≤k∧k≤8
  · obtain ⟨h1,h2⟩:=hk
    have hk8:k=1∨k=2∨k=3∨k=4∨k=5∨k=6∨k=7∨k=8:=by omega
    rcases hk8 with rfl | rfl | rfl | rfl | rfl | rfl | rfl | rfl <;>
      (simp only[plainF,rOne,show fieldsOf 1=1 from rfl,show fieldsOf 2=6 from rfl,show fieldsOf 3=2 from rfl,show fieldsOf 4=16 from rfl,show fieldsOf 5=8 from rfl,show fieldsOf 6=16 from rfl,show fieldsOf 7=10 from rfl,show fieldsOf 8=14 from rfl,
        show kidsF 1=0 from by decide,show kidsF 6=0 from by decide,show kidsF 2=0 from by decide,show kidsF 16=2 from by decide,show kidsF 8=1 from by decide,show kidsF 10=1 from by decide,show kidsF 14=1 from by decide,
        show rKids 1=0 from rfl,show rKids 2=0 from rfl,show rKids 3=0 from rfl,show rKids 4=2 from rfl,show rKids 5=1 from rfl,show rKids 6=2 from rfl,show rKids 7=1 from rfl,show rKids 8=1 from rfl,
        show hasF 1 1=true from by decide,show hasF 1 2=false from by decide,show hasF 1 4=false from by decide,
        show hasF 6 1=false from by decide,show hasF 6 2=true from by decide,show hasF 6 4=true from by decide,
        show hasF 2 1=false from by decide,show hasF 2 2=true from by decide,show hasF 2 4=false from by decide,
        show hasF 16 1=false from by decide,show hasF 16 2=false from by decide,show hasF 16 4=false from by decide,
        show hasF 8 1=false from by decide,show hasF 8 2=false from by decide,show hasF 8 4=false from by decide,
        show hasF 10 1=false from by decide,show hasF 10 2=true from by decide,show hasF 10 4=false from by decide,
        show hasF 14 1=false from by decide,show hasF 14 2=true from by decide,show hasF 14 4=true from by decide,
        show rUser 1=false from rfl,show rUser 2=true from rfl,show rUser 3=true from rfl,show rUser 4=false from rfl,show rUser 5=false from rfl,show rUser 6=false from rfl,show rUser 7=true from rfl,show rUser 8=true from rfl,
        show rNum 1=false from rfl,show rNum 2=true from rfl,show rNum 3=false from rfl,show rNum 4=false from rfl,show rNum 5=false from rfl,show rNum 6=false from rfl,show rNum 7=false from rfl,show rNum 8=true from rfl,knownF]
       rw[Bool.eq_iff_iff];simp
       try omega)
  · have h1:fieldsOf k=0:=by
      unfold fieldsOf;(repeat' split) <;> omega
    have h2:rKids k = -1:=by
      unfold rKids;rw[if_pos];omega
    simp[plainF,rOne,h1,h2]
mutual
theorem walk_size:∀ (t:Term) (deep left:Int),(walkF t deep left).1=(rSize t left (61 - deep)).2∧((walkF t deep left).1=true→(walkF t deep left).2=left - (rSize t left (61 - deep)).1)
 | .mk k u n s kids,deep,left=>by
  rw[walkF,rSize,plain_one];have e:(left - 1 < 0∨60 < deep∨rOne k u n s kids.length=false)↔(left < 1∨61 - deep < 1∨rOne k u n s kids.length=false):=or_congr (by omega) (or_congr (by omega) Iff.rfl)
  by_cases hc:left - 1 < 0∨60 < deep∨rOne k u n s kids.length=false
  rw[if_pos hc,if_pos (e.1 hc)];simp;rw[if_neg hc,if_neg (fun h=>hc (e.2 h))];have:=walk_sizeL kids (deep+1) left 1;rw[show 61 - (deep+1)+1=61 - deep from by omega]at this;exact this
theorem walk_sizeL:∀ (ts:List Term) (deep left n:Int),(walkLF ts deep (left - n)).1=(rSizeL ts left (61 - deep+1) n).2∧((walkLF ts deep (left - n)).1=true→(walkLF ts deep (left - n)).2=left - (rSizeL ts left (61 - deep+1) n).1)
 | [],deep,left,n=>by simp[walkLF,rSizeL]
 | t::ts,deep,left,n=>by
  rw[walkLF,rSizeL];have h1:=walk_size t deep (left - n);rw[show 61 - deep+1 - 1=61 - deep from by omega];cases hb:(rSize t (left - n) (61 - deep)).2 with
  | false=>
   rw[hb]at h1;simp[h1.1]
  | true=>
   rw[hb]at h1;rw[if_pos h1.1,if_pos rfl,h1.2 h1.1];have h2:=walk_sizeL ts deep left (n+(rSize t (left - n) (61 - deep)).1);rw[show left - (n+(rSize t (left - n) (61 - deep)).1)=left - n - (rSize t (left - n) (61 - deep)).1 from by omega]at h2;exact h2
end
theorem size_ref (t:Term):sizeF t=if rightF t then (rSize t 1200 60).1 else 0:=by
 have:=walk_size t 1 1200;rw[show (61:Int) - 1=60 from rfl]at this;unfold sizeF rightF;rw[this.1];split
 rename_i h;rw[this.2 (by rw[this.1];exact h)];omega
 rfl
theorem check_right (t:Term):checkF t=if rightF t then 0 else 150:=by
 have h:=size_ref t;unfold checkF;cases hr:rightF t with
 | false=>rw[hr]at h;simp at h;simp[h]
 | true=>
  rw[hr]at h;simp at h;have:=rSize_le t 1200 60 hr;rw[if_neg (by omega),if_pos rfl]
theorem check_zero {t:Term} : checkF t=0↔rightF t=true:=by
 rw[check_right];cases rightF t <;> simp
def put1 (k:Int)(s:List UInt8):List UInt8:=if hasF (fieldsOf k) 1 then Wk.u8 s.length::s else []
def put2 (k u:Int):List UInt8:=if hasF (fieldsOf k) 2 then [Wk.u8 u] else []
def put4 (k n:Int):List UInt8:=if hasF (fieldsOf k) 4 then be 2 (IntKind.u16.wrap n) else []
def headF (k u n:Int)(s:List UInt8):List UInt8:=[Wk.u8 k]++put1 k s++put2 k u++put4 k n
mutual
def bytesF:Term→List UInt8
 | .mk k u n s ks=>headF k u n s++bytesLF ks
def bytesLF:List Term→List UInt8
 | []=>[]
 | t::ts=>bytesF t++bytesLF ts
end
def nameF (t:Term):List UInt8:=if sizeF t=0 then [] else bytesF t
theorem plain_shape {k u n:Int}{s:List UInt8}{m:Nat}(h:plainF k u n s m=true) :
  (k=1∧u=0∧n=0∧s.length≤64∧m=0)∨(k=2∧1≤u∧u≤6∧0≤n∧n≤65535∧s=[]∧m=0)∨(k=3∧1≤u∧u≤6∧n=0∧s=[]∧m=0)∨
  ((k=4∨k=6)∧u=0∧n=0∧s=[]∧m=2)∨(k=5∧u=0∧n=0∧s=[]∧m=1)∨(k=7∧1≤u∧u≤6∧n=0∧s=[]∧m=1)∨(k=8∧1≤u∧u≤6∧0≤n∧n≤65535∧s=[]∧m=1):=by
 have h0:fieldsOf k≠0:=by
  intro h0;simp[plainF,h0]at h
 have hk:k=1∨k=2∨k=3∨k=4∨k=5∨k=6∨k=7∨k=8:=by
  unfold fieldsOf at h0
  by_cases hk:k=1∨k=2∨k=3∨k=4∨k=5∨k=6∨k=7∨k=8
  ·exact hk
  ·exact absurd (by repeat (first | rw[if_neg (by omega)] | rfl)) h0
 have t1:fieldsOf 1=1:=rfl;have t2:fieldsOf 2=6:=rfl;have t3:fieldsOf 3=2:=rfl;have t4:fieldsOf 4=16:=rfl;have t5:fieldsOf 5=8:=rfl;have t6:fieldsOf 6=16:=rfl;have t7:fieldsOf 7=10:=rfl;have t8:fieldsOf 8=14:=rfl;have f11:hasF 1 1=true:=rfl;have f12:hasF 1 2=false:=rfl;have f14:hasF 1 4=false:=rfl;have f61:hasF 6 1=false:=rfl;have f62:hasF 6 2=true:=rfl;have f64:hasF 6 4=true:=rfl;have f21:hasF 2 1=false:=rfl;have f22:hasF 2 2=true:=rfl;have f24:hasF 2 4=false:=rfl;have g1:hasF 16 1=false:=rfl;have g2:hasF 16 2=false:=rfl;have g4:hasF 16 4=false:=rfl;have i1:hasF 8 1=false:=rfl;have i2:hasF 8 2=false:=rfl;have i4:hasF 8 4=false:=rfl;have j1:hasF 10 1=false:=rfl;have j2:hasF 10 2=true:=rfl;have j4:hasF 10 4=false:=rfl;have l1:hasF 14 1=false:=rfl;have l2:hasF 14 2=true:=rfl;have l4:hasF 14 4=true:=rfl;have k1:kidsF 1=0:=rfl;have k6:kidsF 6=0:=rfl;have k2:kidsF 2=0:=rfl;have k16:kidsF 16=2:=rfl;have k8:kidsF 8=1:=rfl;have k10:kidsF 10=1:=rfl;have k14:kidsF 14=1:=rfl
 by_cases hs:s=[]
 ·subst hs
  rcases hk with rfl | rfl | rfl | rfl | rfl | rfl | rfl | rfl <;> simp[plainF,t1,t2,t3,t4,t5,t6,t7,t8,f11,f12,f14,f61,f62,f64,f21,f22,f24,g1,g2,g4,i1,i2,i4,j1,j2,j4,l1,l2,l4,k1,k6,k2,k16,k8,k10,k14,knownF]at h⊢<;> omega
 ·rcases hk with rfl | rfl | rfl | rfl | rfl | rfl | rfl | rfl <;> simp[plainF,t1,t2,t3,t4,t5,t6,t7,t8,f11,f12,f14,f61,f62,f64,f21,f22,f24,g1,g2,g4,i1,i2,i4,j1,j2,j4,l1,l2,l4,k1,k6,k2,k16,k8,k10,k14,knownF,hs]at h⊢
  omega
inductive Ok:Term→Prop where
 | mk {k u n:Int} {s:List UInt8} {ks:List Term} (h:plainF k u n s ks.length=true) (hk:∀ t∈ks,Ok t):Ok (.mk k u n s ks)
theorem u8_inj {a b:Int}(ha:0≤a∧a≤255)(hb:0≤b∧b≤255)(h:Wk.u8 a=Wk.u8 b):a=b:=by
 have h1:=congrArg UInt8.toNat h;unfold Wk.u8 at h1;rw[UInt8.toNat_ofNat',UInt8.toNat_ofNat']at h1;simp at h1;omega
def Good (t:Term):Prop:=sizeF t≠0
mutual
def cnt:Term→Nat
 | .mk _ _ _ _ ks=>1+cntL ks
def cntL:List Term→Nat
 | []=>0
 | t::ts=>cnt t+cntL ts
end
theorem cnt_pos (t:Term):0 < cnt t:=by cases t;simp[cnt];omega
mutual
theorem walk_more:∀ (t:Term) (d l d' l':Int),(walkF t d l).1=true→d'≤d→l≤l'→(walkF t d' l').1=true∧(walkF t d' l').2=l' - cnt t
 | .mk k u n s ks,d,l,d',l'=>by
  intro h hd hl;rw[walkF]at h⊢;split at h;cases h
  rename_i hc
  rw[if_neg (fun hn=>hc (hn.elim (fun q=>.inl (by omega)) (fun q=>.inr (q.elim (fun q=>.inl (by omega)) .inr))))];obtain ⟨h1,h2⟩:=walkL_more ks (d+1) (l - 1) (d'+1) (l' - 1) h (by omega) (by omega);refine ⟨h1,?_⟩;rw[h2,cnt];omega
theorem walkL_more:∀ (ts:List Term) (d l d' l':Int),(walkLF ts d l).1=true→d'≤d→l≤l'→(walkLF ts d' l').1=true∧(walkLF ts d' l').2=l' - cntL ts
 | [],d,l,d',l'=>by intro _ _ _;simp[walkLF,cntL]
 | t::ts,d,l,d',l'=>by
  intro h hd hl;rw[walkLF]at h⊢;split at h
  rename_i hc
  obtain ⟨h1,h2⟩:=walk_more t d l d' l' hc hd hl;obtain ⟨_,h2'⟩:=walk_more t d l d l hc (Int.le_refl _) (Int.le_refl _);rw[if_pos h1];obtain ⟨h3,h4⟩:=walkL_more ts d _ d' (walkF t d' l').2 h hd (by omega);refine ⟨h3,?_⟩;rw[h4,h2,cntL];omega;cases h
end
theorem good_walk {t:Term} : Good t↔(walkF t 1 1200).1=true:=by
 constructor;intro h;unfold Good sizeF at h;split at h
 assumption
 exact absurd rfl h;intro h;unfold Good sizeF;rw[if_pos h];obtain ⟨_,h2⟩:=walk_more t 1 1200 1 1200 h (Int.le_refl _) (Int.le_refl _);have:=cnt_pos t;omega
theorem walkL_mem:∀ (ts:List Term) (d l:Int),(walkLF ts d l).1=true→∀ t∈ts,∃ l',l'≤l∧(walkF t d l').1=true
 | [],_,_=>by intro _ t ht;cases ht
 | x::xs,d,l=>by
  intro h t ht;rw[walkLF]at h;split at h
  rename_i hc
  rcases List.mem_cons.1 ht with he | ht
  exact ⟨l,Int.le_refl _,by rw[he];exact hc⟩;obtain ⟨l',h1,h2⟩:=walkL_mem xs d _ h t ht;have:=walkF_le x d l;exact ⟨l',by omega,h2⟩;cases h
theorem good_kid {k u n:Int}{s:List UInt8}{ks:List Term}(h:Good (.mk k u n s ks)){t:Term}(ht:t∈ks):Good t:=by
 have h1:=good_walk.1 h;rw[walkF]at h1;split at h1;cases h1;obtain ⟨l',h2,h3⟩:=walkL_mem ks _ _ h1 t ht;exact good_walk.2 (walk_more t (1+1) l' 1 1200 h3 (by omega) (by omega)).1
theorem good_le {t:Term}(h:Good t):cnt t≤1200:=by
 have h1:=good_walk.1 h;obtain ⟨_,h2⟩:=walk_more t 1 1200 1 1200 h1 (Int.le_refl _) (Int.le_refl _);have:=walkF_ge t 1 1200 (by omega) h1;omega
theorem good_check {t:Term} : checkF t=0↔Good t:=by
 unfold checkF Good;split <;> simp_all
mutual
def dpt:Term→Nat
 | .mk _ _ _ _ ks=>1+dptL ks
def dptL:List Term→Nat
 | []=>0
 | t::ts=>max (dpt t) (dptL ts)
end
theorem dptL_le {ts:List Term}{d:Nat} : dptL ts≤d↔∀ t∈ts,dpt t≤d:=by
 induction ts with
 | nil=>simp[dptL]
 | cons x xs ih=>simp only[dptL,Nat.max_le,ih,List.mem_cons,forall_eq_or_imp]
mutual
theorem walk_fit:∀ (t:Term) (d l d' l':Int),(walkF t d l).1=true→(cnt t:Int)≤l'→d'+dpt t≤61→(walkF t d' l').1=true∧(walkF t d' l').2=l' - cnt t
 | .mk k u n s ks,d,l,d',l'=>by
  intro h hl hd;rw[walkF]at h⊢;split at h;cases h
  rename_i hc
  rw[cnt]at hl;rw[dpt]at hd;rw[if_neg (fun hn=>hc (hn.elim (fun q=>absurd q (by omega)) (fun q=>.inr (q.elim (fun q=>absurd q (by omega)) .inr))))];obtain ⟨h1,h2⟩:=walkL_fit ks (d+1) (l - 1) (d'+1) (l' - 1) h (by omega) (by omega);refine ⟨h1,?_⟩;rw[h2,cnt];omega
theorem walkL_fit:∀ (ts:List Term) (d l d' l':Int),(walkLF ts d l).1=true→(cntL ts:Int)≤l'→d'+dptL ts≤61→(walkLF ts d' l').1=true∧(walkLF ts d' l').2=l' - cntL ts
 | [],d,l,d',l'=>by intro _ _ _;simp[walkLF,cntL]
 | t::ts,d,l,d',l'=>by
  intro h hl hd;rw[walkLF]at h⊢;rw[cntL]at hl;rw[dptL]at hd;split at h
  rename_i hc
  obtain ⟨h1,h2⟩:=walk_fit t d l d' l' hc (by omega) (by omega);rw[if_pos h1];obtain ⟨h3,h4⟩:=walkL_fit ts d _ d' (walkF t d' l').2 h (by omega) (by omega);refine ⟨h3,?_⟩;rw[h4,h2,cntL];omega;cases h
end
theorem walkL_good:∀ (ts:List Term) (d l:Int),(∀ t∈ts,Good t)→(cntL ts:Int)≤l→d+dptL ts≤61→(walkLF ts d l).1=true
 | [],d,l=>by intro _ _ _;simp[walkLF]
 | t::ts,d,l=>by
  intro h hl hd;rw[cntL]at hl;rw[dptL]at hd;obtain ⟨h1,h2⟩:=walk_fit t 1 1200 d l (good_walk.1 (h t (by simp))) (by omega) (by omega);rw[walkLF,if_pos h1];exact walkL_good ts d _ (fun x hx=>h x (by simp[hx])) (by omega) (by omega)
theorem good_mk {k u n:Int}{s:List UInt8}{ks:List Term}(hp:plainF k u n s ks.length=true)(h:∀ t∈ks,Good t)(hc:cntL ks≤1199)(hd:dptL ks≤59):Good (.mk k u n s ks):=by
 refine good_walk.2 ?_;rw[walkF,if_neg (by simp[hp])];exact walkL_good ks _ _ h (by omega) (by omega)
theorem good_fresh {u n:Int}(hu:1≤u∧u≤6)(hn:0≤n∧n≤65535):Good (.mk 2 u n [] []):=by
 refine good_mk ?_ (by simp) (by simp[cntL]) (by simp[dptL]);simp[plainF,show fieldsOf 2=6 from rfl,show hasF 6 1=false from by decide,show hasF 6 2=true from by decide,show hasF 6 4=true from by decide,show kidsF 6=0 from by decide,knownF,hu.1,hu.2,hn.1,hn.2]
theorem good_lock {a b:Term}(ha:Good a)(hb:Good b)(hc:cnt a+cnt b≤1199)(h1:dpt a≤59)(h2:dpt b≤59):Good (.mk 6 0 0 [] [a,b]):=
 good_mk (show plainF 6 0 0 [] 2=true by decide) (by simp;exact ⟨ha,hb⟩) (by simp[cntL];omega) (by simp[dptL];omega)
theorem good_seal {u:Int}{a:Term}(hu:1≤u∧u≤6)(ha:Good a)(hc:cnt a≤1199)(h1:dpt a≤59):Good (.mk 7 u 0 [] [a]):=by
 refine good_mk ?_ (by simp;exact ha) (by simp[cntL];omega) (by simp[dptL];omega);simp[plainF,show fieldsOf 7=10 from rfl,show hasF 10 1=false from by decide,show hasF 10 2=true from by decide,show hasF 10 4=false from by decide,show kidsF 10=1 from by decide,knownF,hu.1,hu.2]
end Go.Proofs.YtibkkbknnfehlaaGreatDoor
namespace Go.Wk
open Go
def lpI (L D:Nat)(r:Loop):Item where
 foot:=fun k=>k=D∨k=L
 holds:=fun w=>w.heap[L]? = some (.loop r)∧w.heap[D]? = some (.deferred (some []))
def lpR (b:Loop)(s:LoopState)(p:Option Code):Loop:={ b with state:=s,pending:=p }
def marks (Ds:List Nat):Item where
 foot:=fun k=>k∈Ds
 holds:=fun w=>Ds.Nodup∧∀ k∈Ds,w.heap[k]? = some (.deferred (some []))
def dsOf (Ds:List Nat):List Deferred:=Ds.map fun D=>{ target:=.collected D,args:=#[] }
theorem lpI_loc (L D:Nat)(r:Loop)(w1 w2:World)(h:∀ k,(lpI L D r).foot k→w2.heap[k]? = w1.heap[k]?)(h1:(lpI L D r).holds w1):(lpI L D r).holds w2:=
 ⟨(h L (.inr rfl)).trans h1.1,(h D (.inl rfl)).trans h1.2⟩
theorem marks_loc (Ds:List Nat)(w1 w2:World)(h:∀ k,(marks Ds).foot k→w2.heap[k]? = w1.heap[k]?)(h1:(marks Ds).holds w1):(marks Ds).holds w2:=
 ⟨h1.1,fun k hk=>(h k hk).trans (h1.2 k hk)⟩
theorem Agree.putObj {M:Nat→Prop}(w:World)(g:Nat)(o:Obj)(hg:M g):Agree M w (w.putObj g o):=
 ⟨rfl,rfl,rfl,by simp,fun k _ hm=>World.putObj_heap_other (fun e=>hm (e▸hg))⟩
def IterRet {α:Type}(P:Program)(g:Nat)(lb:List Value)(w:World)(M:Nat→Prop)(E:α→List Value→World→World→Prop)(xs:List α):Prop:=
 ∀ (l:Nat) (J:Nat→World→Prop) (Jx:World→Prop),
  (∀ i x vs W0 W1,xs[i]? = some x→J i W0→Grow W0 W1→E x vs W0 W1→YieldAt (FW none) 0 P l vs.toArray W1 fun e W'=>
   Agree M w W'∧((e=.returned (.bool true)∧J (i+1) W')∨(e=.returned (.bool false)∧Jx W')))→
  J 0 w→
  CallsIn (FW none) 0 P g (.func (.yield l) #[] #[]::lb).toArray w fun e W'=>(∃ v,e=.returned v)∧∃ W0,Grow W0 W'∧(J xs.length W0∨Jx W0)
theorem Wd.rebase {w0 w1 w:World}{M0 M:Nat→Prop}{bs:List Item}{fs:List (World→Prop)}(h:Wd w1 M w bs fs)(ha:Agree M0 w0 w1)(hM:∀ k,M k→M0 k∨w0.heap.size≤k):Wd w0 M0 w bs fs where
 agree:=ha.trans' h.agree fun i hi hm=>(hM i hm).elim id (fun h=>absurd h (by omega))
 held:=h.held
 lt:=h.lt
 own:=fun it hi ho k hk=>(h.own it hi ho k hk).elim (hM k) (fun h1=>.inr (Nat.le_trans ha.size h1))
 apart:=h.apart
 facts:=h.facts
 loc:=h.loc
theorem Wd.join {w0 w:World}{M0:Nat→Prop}{Es Ds:List Nat}{bs bs':List Item}{fs:List (World→Prop)}(h:Wd w0 M0 w (marks Es::bs) fs)(hr:ReplI bs (marks Ds) (marks (Es++Ds)) bs'):Wd w0 M0 w bs' fs:=by
 obtain ⟨pre,post,rfl,rfl⟩:=hr.ex;have h2:=h.perm (bs':=marks Es::marks Ds::(pre++post)) (.cons _ (List.perm_middle.symm));have hap:=List.pairwise_cons.1 h2.apart;have hap2:=List.pairwise_cons.1 hap.2;have he:(marks Es).holds w:=h2.held _ (by simp);have hd:(marks Ds).holds w:=h2.held _ (by simp);refine Wd.perm (bs:=marks (Es++Ds)::(pre++post)) ?_ List.perm_middle;have hfeq:foots (marks (Es++Ds)::(pre++post))=foots (marks Es::marks Ds::(pre++post)):=by
  funext k
  simp only[foots,List.mem_cons,or_and_right,exists_or,exists_eq_left,marks,List.mem_append,or_assoc]
 refine ⟨h2.agree,?_,?_,?_,List.pairwise_cons.2 ⟨?_,hap2.2⟩,?_,?_⟩;intro it hi;rcases List.mem_cons.1 hi with rfl | hi
 exact ⟨List.nodup_append.2 ⟨he.1,hd.1,fun a ha b hb e=>hap.1 (marks Ds) (by simp) a ha (e▸hb)⟩,fun k hk=>(List.mem_append.1 hk).elim (he.2 k) (hd.2 k)⟩;exact h2.held it (by simp only[List.mem_cons];exact .inr (.inr hi));intro it hi k hk;rcases List.mem_cons.1 hi with rfl | hi
 exact (List.mem_append.1 hk).elim (fun q=>h2.lt (marks Es) (by simp) k q) (fun q=>h2.lt (marks Ds) (by simp) k q);exact h2.lt it (by simp only[List.mem_cons];exact .inr (.inr hi)) k hk;intro it hi ho k hk;rcases List.mem_cons.1 hi with rfl | hi
 exact (List.mem_append.1 hk).elim (fun q=>h2.own (marks Es) (by simp) rfl k q) (fun q=>h2.own (marks Ds) (by simp) rfl k q);exact h2.own it (by simp only[List.mem_cons];exact .inr (.inr hi)) ho k hk;intro it hi k hk;rcases List.mem_append.1 hk with q | q
 exact hap.1 it (by simp only[List.mem_cons];exact .inr hi) k q;exact hap2.1 it hi k q;intro Φ hΦ;rw[hfeq];exact h2.facts Φ hΦ;intro it hi;rcases List.mem_cons.1 hi with rfl | hi
 exact marks_loc _;exact h2.loc it (by simp only[List.mem_cons];exact .inr (.inr hi))
section
variable {P:Program}{Q:Exit→Act→World→Prop}{w0:World}{M0:Nat→Prop}{ds:List Deferred}{a:Act}{w:World}{l:List Value}{bs bs':List Item}{fs:List (World→Prop)}
def RoundEnd (P:Program)(L:Nat)(w1:World)(M:Nat→Prop)(J:World→Prop)(Jx:Code→World→Prop):Exit→Act→World→Prop:=
 roundPost P L fun e W'=>Agree M w1 W'∧((e=.returned (.bool true)∧J W')∨(e=.returned (.bool false)∧∃ c,Jx c W'))
theorem Wd.putLoop {L D:Nat}{r r':Loop}(h:Wd w0 M0 w bs fs)[hr:ReplI bs (lpI L D r) (lpI L D r') bs']:w.heap[L]? = some (.loop r)∧Wd w0 M0 (w.putObj L (.loop r')) bs' fs:=by
 obtain ⟨pre,post,rfl,rfl⟩:=hr.ex;have hm:lpI L D r∈pre++lpI L D r::post:=by simp
 have hl:=h.held _ hm;have hlt:L < w.heap.size:=(Array.getElem?_eq_some_iff.1 hl.1).1;have hDL:D≠L:=fun e=>by have h1:=hl.1;have h2:=hl.2;rw[e,h1]at h2;cases h2
 exact ⟨hl.1,h.swap rfl (Agree.putObj w L _ (.inr rfl)) ⟨World.putObj_heap_same hlt,(World.putObj_heap_other hDL).trans hl.2⟩ (fun k hk=>.inl hk) (fun k hk=>by simpa using h.lt _ hm k hk) (lpI_loc _ _ _)⟩
theorem rend {L D:Nat}{b:Loop}{w1:World}{M:Nat→Prop}{J:World→Prop}{Jx:Code→World→Prop}(S:St w1 M ds a w l bs fs)(jump:Option Code)
  [hr:ReplI bs (lpI L D (lpR b .busy none)) (lpI L D (lpR b (if jump.isNone then .ready else .done) jump)) bs']
  (h:∀ W',Wd w1 M W' bs' fs→(jump=none→J W')∧(∀ c,jump=some c→Jx c W')):∃ v w',(Instr.endRound L jump).run P w=.ok v w'∧(Agree M w1 w'∧((Ending.returned v=.returned (.bool true)∧J w')∨(Ending.returned v=.returned (.bool false)∧∃ c,Jx c w'))):=by
 obtain ⟨hl,hwd⟩:=S.wd.putLoop (L:=L) (D:=D) (r:=lpR b .busy none) (r':=lpR b (if jump.isNone then .ready else .done) jump);obtain ⟨h1,h2⟩:=h _ hwd;refine ⟨_,_,run_endRound (P:=P) jump hl,hwd.agree,?_⟩;cases jump with
 | none=>exact .inl ⟨rfl,h1 rfl⟩
 | some c=>exact .inr ⟨rfl,c,h2 c rfl⟩
theorem rnext {L D:Nat}{b:Loop}{w1:World}{M:Nat→Prop}{J:World→Prop}{Jx:Code→World→Prop}(S:St w1 M ds a w l bs fs)
  [hr:ReplI bs (lpI L D (lpR b .busy none)) (lpI L D (lpR b .ready none)) bs'] (h:∀ W',Wd w1 M W' bs' fs→J W'):RoundEnd P L w1 M J Jx .normal a w:=
 rend (D:=D) (b:=b) S none (hr:=hr) fun W' hW=>⟨fun _=>h W' hW,fun _ h=>by cases h⟩
theorem rret {L D:Nat}{b:Loop}{w1:World}{M:Nat→Prop}{J:World→Prop}{Jx:Code→World→Prop}(S:St w1 M ds a w l bs fs)
  [hr:ReplI bs (lpI L D (lpR b .busy none)) (lpI L D (lpR b .done (some .ret))) bs'] (h:∀ W',Wd w1 M W' bs' fs→Jx .ret W'):RoundEnd P L w1 M J Jx .ret a w:=
 rend (D:=D) (b:=b) S (some .ret) (hr:=hr) fun W' hW=>⟨fun h=>by (cases h),fun _ h'=>by cases h';exact h W' hW⟩
theorem rbegin {L D:Nat}{b:Loop}{w1:World}{M:Nat→Prop}{K:Act→World→Prop}(S:St w1 M ds a w l bs fs)
  [hr:ReplI bs (lpI L D (lpR b .ready none)) (lpI L D (lpR b .busy none)) bs']
  (h:∀ a w,St w1 M ds a w l bs' fs→K a w):∃ w2,(Instr.beginRound L).run P w=.ok () w2∧K a w2:=by
 obtain ⟨hl,hwd⟩:=S.wd.putLoop (L:=L) (D:=D) (r:=lpR b .ready none) (r':=lpR b .busy none);exact ⟨_,run_beginRound (P:=P) hl rfl,h _ _ ⟨S.slots,S.defers,hwd⟩⟩
theorem foldl_put (ps:List Nat)(vs:List Value):∀ (t:Array Value),(ps.toArray.zip vs.toArray).foldl (fun t (p,v)=>t.setIfInBounds p v) t=(ps.zip vs).foldl (fun t (x:Nat × Value)=>t.setIfInBounds x.1 x.2) t:=by
 intro t;simp
class PutPs (l:List Value)(ps:List Nat)(vs:List Value)(l':outParam (List Value)):Prop where eq:(ps.zip vs).foldl (fun(t:Array Value) (x:Nat × Value)=>t.setIfInBounds x.1 x.2) l.toArray=l'.toArray∧vs.length=ps.length
instance putps0 {l:List Value} : PutPs l [] [] l:=⟨by simp⟩
instance putpsS {l l1 l':List Value}{p:Nat}{v:Value}{ps:List Nat}{vs:List Value}[h:PutAt l p v l1][h':PutPs l1 ps vs l']:PutPs l (p::ps) (v::vs) l':=⟨by
 obtain ⟨h1,h2⟩:=h'.eq;have:=h.eq;simp[←h1,h2,←this]⟩
theorem c_range {α:Type}{g:Operand}{ps:List Nat}{assign body:Code}{gf:Nat}{lb:List Value}{Ds:List Nat}{κ κx:Type}{E:α→List Value→World→World→Prop}(xs:List α)
  (bsI:Nat→κ→List Item) (fsI:Nat→κ→List (World→Prop)) (φ:Nat→κ→Prop) (bsX:κx→List Item) (fsX:κx→List (World→Prop)) (ψ:Code→κx→Prop) (k0:κ)
  (S:St w0 M0 (dsOf Ds) a w l bs fs) [EntF P gf] [hg:Ev ⟨[],l⟩ g (.func (.func gf) #[] ⟨lb⟩)]
  (hit:∀ (M:Nat→Prop) (w1:World),(∀ k,M k→k < w1.heap.size)→(∀ Φ∈fs,Stable M w1 Φ)→(∀ it∈bs,it.own=false→Stable M w1 it.holds)→IterRet P gf lb w1 M E xs)
  (hk0:φ 0 k0∧bsI 0 k0=bs∧fsI 0 k0=fs)
  (hround:∀ (L D:Nat) (b:Loop) (M:Nat→Prop) (w1:World) (i:Nat) (x:α) (vs:List Value) (k:κ) (W0 W:World),xs[i]? = some x→φ i k→Wd w1 M W0 (lpI L D (lpR b .ready none)::bsI i k) (fsI i k)→Grow W0 W→E x vs W0 W→∃ lx,PutPs l ps vs lx∧∀ a,
   St w1 M [] a W lx (lpI L D (lpR b .ready none)::bsI i k) (fsI i k)→
   Wp P (some L) assign (Exit.then (fun a w=>∃ w2,(Instr.beginRound L).run P w=.ok () w2∧Wp P (some L) body (RoundEnd P L w1 M (fun W=>∃ k',φ (i+1) k'∧Wd w1 M W (lpI L D (lpR b .ready none)::bsI (i+1) k') (fsI (i+1) k'))
    (fun c W=>(c=.ret∨∃ id,c=.exit id)∧∃ k',ψ c k'∧Wd w1 M W (lpI L D (lpR b .done (some c))::bsX k') (fsX k'))) a w2) (fun _ _ _=>False)) a W)
  (hdone:∀ (D:Nat) (k:κ) (a:Act) (W:World),φ xs.length k→St w0 M0 (dsOf ([D]++Ds)) a W l (marks [D]::bsI xs.length k) (fsI xs.length k)→Q .normal a W)
  (hret:∀ (D:Nat) (k:κx) (a:Act) (W:World),ψ .ret k→St w0 M0 (dsOf ([D]++Ds)) a W l (marks [D]::bsX k) (fsX k)→Q .ret a W)
  (hexit:∀ (id D:Nat) (k:κx) (a:Act) (W:World),ψ (.exit id) k→St w0 M0 (dsOf ([D]++Ds)) a W l (marks [D]::bsX k) (fsX k)→Q (.exit id) a W) :
  Wp P none (.rangeFunc g ps.toArray assign body) Q a w:=by
 refine wpIn_rangeFunc ?_;intro fn _;obtain ⟨b,hb⟩:∃ b:Loop,b = { state:=.ready,pending:=none,fn:=fn,tmps:=a.tmps,params:=ps.toArray,assign:=assign,body:=body,defers:=w.heap.size }:=⟨_,rfl⟩;obtain ⟨w1,hw1⟩:∃ w1,(w.alloc (.deferred (some []))).alloc (.loop b)=w1:=⟨_,rfl⟩;have hL1:w1.heap[w.heap.size+1]? = some (.loop b):=by
  rw[←hw1];have:=World.alloc_heap_new (w.alloc (.deferred (some []))) (.loop b);rwa [World.size_alloc]at this
 have hD1:w1.heap[w.heap.size]? = some (.deferred (some [])):=by
  rw[←hw1];exact (RowKit.Below.heap_alloc _ _ _ (by simp)).trans (World.alloc_heap_new w _)
 have hsz:w1.heap.size=w.heap.size+2:=by rw[←hw1];simp
 have hgrow:Grow w w1:=by rw[←hw1];exact (Agree.alloc _ w _).trans (Agree.alloc _ _ _)
 have hlpr:lpR b .ready none=b:=by rw[hb];rfl
 obtain ⟨M,hM⟩:∃ M:Nat→Prop,M=fun k=>k=w.heap.size∨k=w.heap.size+1∨∃ it∈bs,it.own=true∧it.foot k:=⟨_,rfl⟩
 have hwd1:Wd w1 M w1 (lpI (w.heap.size+1) w.heap.size (lpR b .ready none)::bs) fs:=by
  have hst:=S.wd.step hgrow;refine ⟨Agree.refl _ _,?_,?_,?_,List.pairwise_cons.2 ⟨?_,hst.apart⟩,?_,?_⟩
  ·intro it hi
   rcases List.mem_cons.1 hi with rfl | hi
   ·exact ⟨by rw[hlpr];exact hL1,hD1⟩
   ·exact hst.held it hi
  ·intro it hi k hk
   rcases List.mem_cons.1 hi with rfl | hi
   ·simp only[lpI]at hk;omega
   ·exact hst.lt it hi k hk
  ·intro it hi ho k hk
   rw[hM];rcases List.mem_cons.1 hi with rfl | hi
   ·exact .inl (hk.elim .inl (fun h=>.inr (.inl h)))
   ·exact .inl (.inr (.inr ⟨it,hi,ho,hk⟩))
  ·intro it hi k hk hk'
   have:=S.wd.lt it hi k hk';simp only[lpI]at hk;omega
  ·intro Φ hΦ w'' hw''
   refine S.wd.facts Φ hΦ w'' ((hgrow.mono (fun _ _ h=>h.elim)).trans' hw'' fun i hi ⟨it,hm,hk⟩=>?_);rcases List.mem_cons.1 hm with rfl | hm
   ·simp only[lpI]at hk;omega
   ·exact ⟨it,hm,hk⟩
  ·intro it hi
   rcases List.mem_cons.1 hi with rfl | hi
   ·exact lpI_loc _ _ _
   ·exact hst.loc it hi
 have hMlt:∀ k,M k→k < w1.heap.size:=fun k hk=>by
  rw[hM]at hk;rcases hk with rfl | rfl | ⟨it,hi,_,hk⟩
  ·omega
  ·omega
  ·have:=S.wd.lt it hi k hk;omega
 have hMf:∀ Φ∈fs,Stable M w1 Φ:=fun Φ hΦ=>(hwd1.facts Φ hΦ).less fun k _ hk=>by
  rw[hM]at hk;rcases hk with rfl | rfl | ⟨it,hi,_,hk⟩
  ·exact ⟨_,List.mem_cons_self ..,.inl rfl⟩
  ·exact ⟨_,List.mem_cons_self ..,.inr rfl⟩
  ·exact ⟨it,List.mem_cons_of_mem _ hi,hk⟩
 have hMr:∀ it∈bs,it.own=false→Stable M w1 it.holds:=fun it hi ho w2 hw2=>by
  have hst:=S.wd.step hgrow;refine hst.loc it hi w1 w2 (fun k hk=>hw2.blk (hst.lt it hi k hk) fun hm=>?_) (hst.held it hi);rw[hM]at hm;have hlt:=S.wd.lt it hi k hk;rcases hm with rfl | rfl | ⟨it',hi',ho',hk'⟩
  ·omega
  ·omega
  ·exact apart_of S.wd.apart hi hi' (by rw[ho,ho'];simp) k hk hk'
 have hM0:∀ k,M k→M0 k∨w0.heap.size≤k:=fun k hk=>by
  have:=S.wd.agree.size;rw[hM]at hk;rcases hk with rfl | rfl | ⟨it,hi,ho,hk⟩
  ·exact .inr this
  ·exact .inr (by omega)
  ·exact S.wd.own it hi ho k hk
 have hag:Agree M0 w0 w1:=(S.wd.step hgrow).agree;have hfin:∀ (r:Loop) (bs2:List Item) (fs2:List (World→Prop)) (W:World),r.state≠.busy→Wd w1 M W (lpI (w.heap.size+1) w.heap.size r::bs2) fs2→
   ∃ W',(Instr.endLoop (w.heap.size+1)).run P W=.ok r.pending W'∧St w0 M0 (dsOf ([w.heap.size]++Ds)) { a with defers:=[{ target:=.collected w.heap.size,args:=#[] }]++a.defers } W' l (marks [w.heap.size]::bs2) fs2:=fun r bs2 fs2 W hr hwd=>by
  have hl:W.heap[w.heap.size+1]? = some (.loop r)∧W.heap[w.heap.size]? = some (.deferred (some [])):=hwd.held _ (List.mem_cons_self ..);have hlt:w.heap.size+1 < W.heap.size:=(Array.getElem?_eq_some_iff.1 hl.1).1;refine ⟨_,run_endLoop (P:=P) hl.1 hr,S.slots,by rw[S.defers];rfl,?_⟩;refine (hwd.rebase hag hM0).swap (pre:=[]) (y:=marks [w.heap.size]) rfl (Agree.putObj W _ _ (.inr rfl)) ⟨by simp,fun k hk=>?_⟩ (fun k hk=>.inl ?_) (fun k hk=>?_) (marks_loc _)
  ·obtain rfl:=List.mem_singleton.1 hk
   exact (World.putObj_heap_other (by omega)).trans hl.2
  ·obtain rfl:=List.mem_singleton.1 hk;exact .inl rfl
  ·obtain rfl:=List.mem_singleton.1 hk;simp;omega
 have heg:=hg.eq (by simp) a.defers;have hae:a.eval g=.func (.func gf) #[] ⟨lb⟩:=S.fr.ev;refine ⟨w.heap.size+1,[{ target:=.collected w.heap.size,args:=#[] }],w1,{ target:=.fn (.func gf) ⟨lb⟩,args:=#[.func (.yield (w.heap.size+1)) #[] #[]] },w1,gf,
  (.func (.yield (w.heap.size+1)) #[] #[]::lb).toArray,w1,?_,?_,fun _ _=>trivial,?_,fun h=>(by cases h),?_⟩
 ·rw[←hw1,hb];exact run_enterLoop_outer _ _ _ _ _
 ·simp only[resolve,hae]
  simp[go_sem]
 ·have:=EntF.run (P:=P) (f:=gf) (.func (.yield (w.heap.size+1)) #[] #[]::lb).toArray w1
  simpa [invoke,go_sem] using this
 ·have hI:=hit M w1 hMlt hMf hMr
  refine CallsIn.mono (hI (w.heap.size+1) (fun i W=>∃ k,φ i k∧Wd w1 M W (lpI (w.heap.size+1) w.heap.size (lpR b .ready none)::bsI i k) (fsI i k))
   (fun W=>∃ c,(c=.ret∨∃ id,c=.exit id)∧∃ k,ψ c k∧Wd w1 M W (lpI (w.heap.size+1) w.heap.size (lpR b .done (some c))::bsX k) (fsX k)) ?_ ⟨k0,hk0.1,by rw[hk0.2.1,hk0.2.2];exact hwd1⟩) ?_
  ·rintro i x vs W0 W1 hx ⟨k,hφ,hwd⟩ hgr hE
   have hwdg:=hwd.step hgr;have hl:W1.heap[w.heap.size+1]? = some (.loop (lpR b .ready none)):=(hwdg.held _ (List.mem_cons_self ..)).1;obtain ⟨lx,hps,hround'⟩:=hround (w.heap.size+1) w.heap.size b M w1 i x vs k W0 W1 hx hφ hwd hgr hE;have hp:=hps.eq;have hy:=run_yield (P:=P) (args:=vs.toArray) hl (by rw[hb];simpa [lpR] using hp.2);refine ⟨_,_,_,_,hy,roundIn_of_wpIn trivial ?_⟩;have e1:(((lpR b .ready none).params.zip vs.toArray).foldl (fun tmps (t,a)=>tmps.setIfInBounds t a) (lpR b .ready none).tmps)=lx.toArray:=by
    rw[hb];simp only[lpR,S.slots,foldl_put,hp.1]
   rw[e1];have:=hround' { tmps:=lx.toArray,defers:=[] } ⟨rfl,rfl,hwdg⟩;simp only[hb,lpR]at this⊢;refine wpIn_mono this ?_;intro e a' w' he;cases e with
   | normal=>
    obtain ⟨w2,h1,h2⟩:=he;exact ⟨w2,h1,h2⟩
   | _=>exact he.elim
  ·rintro e W ⟨⟨v,rfl⟩,W0,hgr,⟨k,hφ,hwd⟩ | ⟨c,hc,k,hψ,hwd⟩⟩
   ·obtain ⟨W',h1,h2⟩:=hfin (lpR b .ready none) _ _ W (by simp[lpR]) (hwd.step hgr)
    exact ⟨none,W',h1,hdone _ k _ W' hφ h2⟩
   ·obtain ⟨W',h1,h2⟩:=hfin (lpR b .done (some c)) _ _ W (by simp[lpR]) (hwd.step hgr)
    refine ⟨some c,W',h1,?_⟩;rcases hc with rfl | ⟨id,rfl⟩
    ·exact wpIn_ret (hret _ k _ W' hψ h2)
    ·exact wpIn_exit (hexit id _ k _ W' hψ h2)
theorem St.join {Es Ds:List Nat}(S:St w0 M0 ds a w l (marks Es::bs) fs)[hr:ReplI bs (marks Ds) (marks (Es++Ds)) bs']:St w0 M0 ds a w l bs' fs:=⟨S.slots,S.defers,S.wd.join hr⟩
theorem enterM {f:Nat}{fn:Func}{c:Code}{args:List Value}{l:List Value}{R:Ending→World→Prop}{M0:Nat→Prop}{bs:List Item}{fs:List (World→Prop)}
  (hf:P.funcs[f]? = some fn) (hb:fn.body=some c) (hl:args++List.replicate (fn.ntmps - args.length) undef=l) (hw:Wd w M0 w bs fs)
  (h:∀ a,St w M0 (dsOf []) a w l (marks []::bs) fs→Wp P none c (bodyPostM (FW none) 0 P fn R) a w):Calls P f args.toArray w R:=by
 refine (callsIn_wide (n:=0)).1 (callsIn_of_wp_marks (F:=FW none) (n:=0) hf hb trivial (h _ ⟨?_,rfl,?_⟩));simp[←hl];exact hw.more (y:=marks []) ⟨by simp,by simp⟩ (fun k hk=>by cases hk) (fun k hk=>by cases hk) (fun it _ k hk=>by cases hk)
  (fun Φ hΦ=>(hw.facts Φ hΦ).less fun k _ ⟨it,hi,hk⟩=>by
   rcases List.mem_cons.1 hi with rfl | hi
   cases hk;exact ⟨it,hi,hk⟩) (marks_loc _)
theorem leavesM {fn:Func}{R:Ending→World→Prop}{t:Array Value} : ∀ (Ds:List Nat) (w:World),Wd w0 M0 w (marks Ds::bs) fs→(∀ w',Wd w0 M0 w' bs fs→LeavesIn (FW none) 0 P fn t R [] .returning w')→LeavesInM (FW none) 0 P fn t R (dsOf Ds) .returning w
 | [],w,hw,h=>h w (hw.sub (bs0:=bs) (List.sublist_cons_self ..) (List.Sublist.refl _))
 | D::Ds,w,hw,h=>by
  have hm:(marks (D::Ds)).holds w:=hw.held _ (List.mem_cons_self ..);have hD:=hm.2 D (List.mem_cons_self ..);have hlt:D < w.heap.size:=(Array.getElem?_eq_some_iff.1 hD).1;refine ⟨by simp,.inl ⟨D,_,rfl,run_takeDeferred (P:=P) hD,leavesM Ds _ ?_ h⟩⟩;refine hw.swap (pre:=[]) (y:=marks Ds) rfl (Agree.putObj w D _ (List.mem_cons_self ..)) ⟨(List.nodup_cons.1 hm.1).2,fun k hk=>?_⟩ (fun k hk=>.inl (List.mem_cons_of_mem _ hk)) (fun k hk=>?_) (marks_loc _)
  ·exact (World.putObj_heap_other (fun(e:k=D)=>(List.nodup_cons.1 hm.1).1 (by rw[←e];exact hk))).trans (hm.2 k (List.mem_cons_of_mem _ hk))
  ·simpa using hw.lt _ (List.mem_cons_self ..) k (List.mem_cons_of_mem _ hk)
class DropI (bs:List Item)(x:Item)(bs':outParam (List Item)):Prop where perm:(x::bs').Perm bs
instance dri0 {x:Item}{bs:List Item} : DropI (x::bs) x bs:=⟨.refl _⟩
instance (priority:=900) driS {x y:Item}{bs bs':List Item}[h:DropI bs x bs']:DropI (y::bs) x (y::bs'):=⟨(List.Perm.swap _ _ _).trans (.cons _ h.perm)⟩
theorem finM {fn:Func}{R:Value→World→Prop}{e:Exit}{Ds:List Nat}{v:Value}(S:St w0 M0 (dsOf Ds) a w l bs fs)[hd:DropI bs (marks Ds) bs'](hv:∀ w,(∀ it∈bs',it.holds w)→(results fn l.toArray).run P w=.ok v w)(h:∀ w,Wd w0 M0 w bs' fs→R v w)(he:e=.ret∨e=.normal:=by simp) :
  bodyPostM (FW none) 0 P fn (fun e w'=>∃ v,e=.returned v∧Agree M0 w0 w'∧R v w') e a w:=by
 have key:LeavesInM (FW none) 0 P fn a.tmps (fun e w'=>∃ v,e=.returned v∧Agree M0 w0 w'∧R v w') a.defers .returning w:=by
  rw[S.defers,S.slots];refine leavesM Ds w (S.wd.perm hd.perm) fun w' hw'=>?_
  exact ⟨v,hv w' hw'.held,v,rfl,hw'.agree,h w' hw'⟩
 rcases he with rfl | rfl <;> exact key
theorem endM1 {fn:Func}{R:Value→World→Prop}{e:Exit}{Ds:List Nat}{r1:ResultVar}{v1:Value}[hr:FnRes fn [r1]](S:St w0 M0 (dsOf Ds) a w l bs fs)[hd:DropI bs (marks Ds) bs'][h1:ResV P l bs' r1 v1](h:∀ w,Wd w0 M0 w bs' fs→R v1 w)(he:e=.ret∨e=.normal:=by simp) :
  bodyPostM (FW none) 0 P fn (fun e w'=>∃ v,e=.returned v∧Agree M0 w0 w'∧R v w') e a w:=
 finM S (fun w hw=>by rw[results_eq (rs:=[r1])];simp[run_res (P:=P) (l:=l) (bs:=bs') (rv:=r1) (v:=v1) w hw]) h he
theorem endM2 {fn:Func}{R:Value→World→Prop}{e:Exit}{Ds:List Nat}{r1 r2:ResultVar}{v1 v2:Value}[hr:FnRes fn [r1,r2]](S:St w0 M0 (dsOf Ds) a w l bs fs)[hd:DropI bs (marks Ds) bs'][h1:ResV P l bs' r1 v1][h2:ResV P l bs' r2 v2](h:∀ w,Wd w0 M0 w bs' fs→R (.tuple ⟨[v1,v2]⟩) w)(he:e=.ret∨e=.normal:=by simp) :
  bodyPostM (FW none) 0 P fn (fun e w'=>∃ v,e=.returned v∧Agree M0 w0 w'∧R v w') e a w:=
 finM S (fun w hw=>by rw[results_eq (rs:=[r1,r2])];simp[run_res (P:=P) (l:=l) (bs:=bs') (rv:=r1) (v:=v1) w hw,run_res (P:=P) (l:=l) (bs:=bs') (rv:=r2) (v:=v2) w hw]) h he
end
inductive Tr where
 | e
 | q (i:Nat) (t:Tr)
 | l (i:Nat) (t:Tr)
 | b2 (i j:Nat) (t u:Tr)
 | b3 (i j k:Nat) (t u v:Tr)
 | b4 (i j k m:Nat) (t u v x:Tr)
def Tr.len:Tr→Nat
 | .e=>0
 | .q _ t | .l _ t=>t.len+1
 | .b2 _ _ t _=>t.len+1
 | .b3 _ _ _ t _ _=>t.len+1
 | .b4 _ _ _ _ t _ _ _=>t.len+1
def flowT (ops:Array Oper):Tr→Array Bool→Bool
 | .e,listed=>(Region.ready .any ops listed).isEmpty
 | .q i t,listed=>((Region.ready .any ops listed).contains i&&Region.free .any ops listed i)&&flowT ops t (listed.setIfInBounds i true)
 | .l i t,listed=>(match Region.ready .any ops listed with | [j]=>Nat.beq j i | _=>false)&&flowT ops t (listed.setIfInBounds i true)
 | .b2 i j t u,listed=>(match Region.ready .any ops listed with | [x,y]=>Nat.beq x i&&Nat.beq y j | _=>false)&&(Nat.beq u.len t.len&&(flowT ops t (listed.setIfInBounds i true)&&flowT ops u (listed.setIfInBounds j true)))
 | .b3 i j k t u v,listed=>(match Region.ready .any ops listed with | [x,y,z]=>Nat.beq x i&&(Nat.beq y j&&Nat.beq z k) | _=>false)&&(Nat.beq u.len t.len&&(Nat.beq v.len t.len&&(flowT ops t (listed.setIfInBounds i true)&&(flowT ops u (listed.setIfInBounds j true)&&flowT ops v (listed.setIfInBounds k true)))))
 | .b4 i j k m t u v x,listed=>(match Region.ready .any ops listed with | [a,y,z,b]=>Nat.beq a i&&(Nat.beq y j&&(Nat.beq z k&&Nat.beq b m)) | _=>false)&&(Nat.beq u.len t.len&&(Nat.beq v.len t.len&&(Nat.beq x.len t.len&&(flowT ops t (listed.setIfInBounds i true)&&(flowT ops u (listed.setIfInBounds j true)&&(flowT ops v (listed.setIfInBounds k true)&&flowT ops x (listed.setIfInBounds m true)))))))
section
variable {P:Program}{ops:Array Oper}{C:World→Prop}{R:Act→World→Prop}
variable {r:Option Nat}{Q:Exit→Act→World→Prop}{w0:World}{M0:Nat→Prop}{ds:List Deferred}{a:Act}{w:World}{l l':List Value}{bs bs' bs0:List Item}{fs fs0:List (World→Prop)}
 {d:Option Nat} {op:Op} {ty:TypeId} {pos:String} {af:Array Edge} {rest:List Oper} {v v' G:Value} {j g:Nat} {pol:Bool} {cs:List Bool} {n:Nat} {listed:Array Bool}
def AT (P:Program)(ops:Array Oper)(C:World→Prop)(R:Act→World→Prop)(t:Tr)(a:Act)(w:World):Prop:=
 ∀ listed,Region.noSelect ops=true→flowT ops t listed=true→AC P ops C R t.len listed a w
variable {t u x:Tr}{i k:Nat}
theorem tq (S:St w0 M0 ds a w l bs fs)[hb:SubL bs0 bs][hf:SubL fs0 fs][ho:OpAt ops i ⟨d,op,ty,pos,af,none⟩][hq:OpQ P op ty ⟨[],l⟩ bs0 fs0 v][hp:PutO l d v l']
  (K:∀ a,St w0 M0 ds a w l' bs fs→AT P ops (fun w=>Wd w0 M0 w bs0 fs0) R t a w) :
  AT P ops (fun w=>Wd w0 M0 w bs0 fs0) R (.q i t) a w:=by
 intro listed hs hflow;simp only[flowT,Bool.and_eq_true]at hflow;refine ac_first ho.eq (Region.noSelect_spec hs) _ listed a w (Region.free_spec ho.eq hflow.1.2) (by simpa using hflow.1.1) (v:=v) (.inl ⟨rfl,fun w' hw'=>?_⟩) (S.wd.sub hb.sub hf.sub) (K _ S.put _ hs hflow.2);rw[execOp_eq];exact hq.run a.eval w' S.fr hw'.mem
theorem wn_of {o:Oper}[ho:OpAt ops i o]{K:Act→World→Prop}(h:WL P none ops (fun e a' w'=>e=.normal∧K a' w') [o] a w):WN P ops i K a w:=by
 unfold WN wpOpIn;simp only[ho.eq];simp only[WL,wpListIn]at h;split
 ·rename_i hw
  rw[if_pos hw]at h;refine ⟨fun _ _=>trivial,?_⟩;have h:=h.2
  generalize (o.semAt (FW none).round a.eval).run P w=q at *
  cases q with
  | ok x w'=>
   cases x <;> simp only[Oper.uponIn]at h⊢
   case value u=>exact h.2
   case skip=>exact h.2
   case defer d=>exact h.2
   case enter f args=>
    refine ⟨h.1,CallsIn.mono h.2 fun e w'' he=>?_⟩;cases e with
    | returned u=>exact he.2
    | panicked c=>exact absurd he.1 (by simp)
    | outgrown=>obtain ⟨_,_,he,_⟩:=he;exact absurd he (by simp)
   case row row args=>exact ⟨h.1,RowsIn.mono h.2 fun u w'' he=>he.2⟩
   case round l f tmps assign body=>
    refine ⟨h.1,RoundIn.mono h.2 fun e w'' he=>?_⟩;cases e with
    | returned u=>exact he.2
    | panicked c=>exact absurd he.1 (by simp)
    | outgrown=>obtain ⟨_,_,he,_⟩:=he;exact absurd he (by simp)
  | halt x w'=>
   cases x <;> simp only[Oper.uponIn]at h⊢
   case panic u=>exact absurd h.1 (by simp)
 ·rename_i hw
  rw[if_neg hw]at h;exact ⟨fun _ _=>trivial,h.2.2⟩
theorem tl {o:Oper}[ho:OpAt ops i o](h:WL P none ops (fun e a' w'=>e=.normal∧C w'∧AT P ops C R t a' w') [o] a w):AT P ops C R (.l i t) a w:=by
 intro listed hs hflow;simp only[flowT,Bool.and_eq_true]at hflow;have hr:Region.ready .any ops listed=[i]:=by
  have:=hflow.1;split at this
  rename_i k hk;rw[hk,Nat.eq_of_beq_eq_true this]
  cases this
 refine ⟨fun h0=>(by rw[h0]at hr;cases hr),fun k hk=>?_⟩;rw[hr]at hk;obtain rfl:k=i:=by simpa using hk
 exact wpOpIn_mono (fun a' w' h'=>⟨h'.1,h'.2 _ hs hflow.2⟩) (wn_of h)
theorem tb2 {oi oj:Oper}[hi:OpAt ops i oi][hj:OpAt ops j oj](h1:WL P none ops (fun e a' w'=>e=.normal∧C w'∧AT P ops C R t a' w') [oi] a w)(h2:WL P none ops (fun e a' w'=>e=.normal∧C w'∧AT P ops C R u a' w') [oj] a w):AT P ops C R (.b2 i j t u) a w:=by
 intro listed hs hflow;simp only[flowT,Bool.and_eq_true]at hflow;have hr:Region.ready .any ops listed=[i,j]:=by
  have:=hflow.1;split at this
  rename_i x y hk
  simp only[Bool.and_eq_true]at this;rw[hk,Nat.eq_of_beq_eq_true this.1,Nat.eq_of_beq_eq_true this.2];cases this
 have hlen:=Nat.eq_of_beq_eq_true hflow.2.1;refine ⟨fun h0=>(by rw[h0]at hr;cases hr),fun k hk=>?_⟩;rw[hr]at hk;rcases List.mem_cons.1 hk with rfl | hk
 exact wpOpIn_mono (fun a' w' h'=>⟨h'.1,h'.2 _ hs hflow.2.2.1⟩) (wn_of h1);obtain rfl:=List.mem_singleton.1 hk;refine wpOpIn_mono (fun a' w' h'=>⟨h'.1,?_⟩) (wn_of h2);have:=h'.2 _ hs hflow.2.2.2
 rwa [hlen]at this
theorem tb3 {oi oj ok:Oper}[hi:OpAt ops i oi][hj:OpAt ops j oj][hk:OpAt ops k ok](h1:WL P none ops (fun e a' w'=>e=.normal∧C w'∧AT P ops C R t a' w') [oi] a w)(h2:WL P none ops (fun e a' w'=>e=.normal∧C w'∧AT P ops C R u a' w') [oj] a w)
  (h3:WL P none ops (fun e a' w'=>e=.normal∧C w'∧AT P ops C R x a' w') [ok] a w):AT P ops C R (.b3 i j k t u x) a w:=by
 intro listed hs hflow;simp only[flowT,Bool.and_eq_true]at hflow;have hr:Region.ready .any ops listed=[i,j,k]:=by
  have:=hflow.1;split at this
  rename_i x y z hk
  simp only[Bool.and_eq_true]at this;rw[hk,Nat.eq_of_beq_eq_true this.1,Nat.eq_of_beq_eq_true this.2.1,Nat.eq_of_beq_eq_true this.2.2];cases this
 have hlen:=Nat.eq_of_beq_eq_true hflow.2.1;have hlen2:=Nat.eq_of_beq_eq_true hflow.2.2.1;refine ⟨fun h0=>(by rw[h0]at hr;cases hr),fun m hm=>?_⟩;rw[hr]at hm;rcases List.mem_cons.1 hm with rfl | hm
 exact wpOpIn_mono (fun a' w' h'=>⟨h'.1,h'.2 _ hs hflow.2.2.2.1⟩) (wn_of h1);rcases List.mem_cons.1 hm with rfl | hm
 refine wpOpIn_mono (fun a' w' h'=>⟨h'.1,?_⟩) (wn_of h2);have:=h'.2 _ hs hflow.2.2.2.2.1
 rwa [hlen]at this
 obtain rfl:=List.mem_singleton.1 hm;refine wpOpIn_mono (fun a' w' h'=>⟨h'.1,?_⟩) (wn_of h3);have:=h'.2 _ hs hflow.2.2.2.2.2
 rwa [hlen2]at this
theorem te [hb:SubL bs0 bs][hf:SubL fs0 fs](S:St w0 M0 ds a w l bs fs)(h:AT P ops (fun w=>Wd w0 M0 w bs0 fs0) R t a w):WL P none ops (fun e a' w'=>e=.normal∧Wd w0 M0 w' bs0 fs0∧AT P ops (fun w=>Wd w0 M0 w bs0 fs0) R t a' w') [] a w:=
 kN ⟨rfl,S.wd.sub hb.sub hf.sub,h⟩
theorem tn (h:R a w):AT P ops C R .e a w:=by
 intro listed hs hflow;have hr:Region.ready .any ops listed=[]:=by simpa [flowT] using hflow
 exact ⟨hr,h⟩
theorem ac_mono {R':Act→World→Prop}(hR:∀ a w,R a w→R' a w):∀ (fuel:Nat) (listed:Array Bool) (a:Act) (w:World),AC P ops C R fuel listed a w→AC P ops C R' fuel listed a w
 | 0,_,_,_,h=>⟨h.1,hR _ _ h.2⟩
 | fuel+1,_,_,_,h=>⟨fun h0=>hR _ _ (h.1 h0),fun i hi=>wpOpIn_mono (fun _ _ h'=>⟨h'.1,ac_mono hR fuel _ _ _ h'.2⟩) (h.2 i hi)⟩
theorem c_drawT {id:Nat}{lo:List Oper}(t:Tr)(bs0:List Item)(S:St w0 M0 ds a w l bs fs)(I:Act→World→Prop)(h:∀ w,St w0 M0 ds a w l bs fs→AT P lo.toArray (fun w=>Wd w0 M0 w bs0 fs) I t a w)
  (hk:∀ a w,I a w→Q .normal a w) (hm:P.follows .mixedOrders=true:=by kernel_rfl)
  (hd:((lo.all fun o=>!isDefer o.op)&&(Nat.beq t.len lo.length&&(Region.noSelect lo.toArray&&flowT lo.toArray t (Array.replicate lo.length false))))=true:=by kernel_rfl):Wp P r (.region id lo.toArray true) Q a w:=by
 simp only[Bool.and_eq_true]at hd;refine wpIn_region_any hm (any_of_ac (C:=fun w=>Wd w0 M0 w bs0 fs) (fun i o ho=>?_) _ _ _ _ ?_);have:=List.all_eq_true.1 hd.1 o (by
  rw[List.getElem?_toArray]at ho;exact List.mem_of_getElem? ho)
 simpa using this;have:=h { w with drawn:=w.drawn+1 } ⟨S.slots,S.defers,S.wd.step (Agree.drawn _ w _)⟩ _ hd.2.2.1 hd.2.2.2;rw[Nat.eq_of_beq_eq_true hd.2.1]at this;simpa using ac_mono hk _ _ _ _ this
theorem c_drawT0 {id:Nat}{lo:List Oper}{l2:List Value}{bs2:List Item}{fs2:List (World→Prop)}(t:Tr)(ids:List Nat)[DropBs bs ids bs0](S:St w0 M0 ds a w l bs fs)(h:∀ w,St w0 M0 ds a w l bs fs→AT P lo.toArray (fun w=>Wd w0 M0 w bs0 fs) (fun a w=>St w0 M0 ds a w l2 bs2 fs2) t a w)
  (hk:∀ a w,St w0 M0 ds a w l2 bs2 fs2→Q .normal a w) (hm:P.follows .mixedOrders=true:=by kernel_rfl)
  (hd:((lo.all fun o=>!isDefer o.op)&&(Nat.beq t.len lo.length&&(Region.noSelect lo.toArray&&flowT lo.toArray t (Array.replicate lo.length false))))=true:=by kernel_rfl):Wp P r (.region id lo.toArray true) Q a w:=
 c_drawT t _ S _ h hk hm hd
end
instance opMakeFunc {P ty}{l:Cx}{bs fs}{f:Nat}{fi ca:List Operand}{vs us:List Value}[EvL l fi vs][EvL l ca us]:OpQ P (.makeFunc (.func f) fi.toArray ca.toArray) ty l bs fs (.func (.func f) ⟨vs⟩ ⟨us⟩):=⟨fun ρ w h _=>by
 have e1:=h.evl (xs:=fi) (vs:=vs);have e2:=h.evl (xs:=ca) (vs:=us);simp[xop,execOp,e1,e2,Instr.makeFunc]⟩
section
variable {P:Program}{r:Option Nat}{ops:Array Oper}{Q:Exit→Act→World→Prop}{w0:World}{M0:Nat→Prop}{ds:List Deferred}{a:Act}{w:World}{l:List Value}{bs bs':List Item}{fs fs0:List (World→Prop)}
 {d:Option Nat} {op:Op} {ty:TypeId} {pos:String} {af:Array Edge} {rest:List Oper} {ts:Array TypeId}
theorem sy {x:Operand}{xs:List Operand}{L:Nat}{vs:List Value}{l':Bool→List Value}{wI:World}{M:Nat→Prop}{J Jx:World→Prop}[hx:Ev ⟨[],l⟩ x (.func (.yield L) #[] #[])][hv:EvL ⟨[],l⟩ xs vs][hp:∀ b:Bool,PutO l d (.bool b) (l' b)]
  (S:St w0 M0 ds a w l bs fs) (hF:∀ Φ∈fs0,Stable M wI Φ)
  (hy:YieldAt (FW none) 0 P L vs.toArray w fun e W'=>Agree M wI W'∧((e=.returned (.bool true)∧J W')∨(e=.returned (.bool false)∧Jx W')))
  (K:∀ (b:Bool) (N:Nat→Prop) a W,(b=true→J W)→(b=false→Jx W)→St W (fun _=>False) ds a W (l' b) [ext N] fs0→WL P r ops Q rest a W) :
  WL P r ops Q (⟨d,.call { callee:=.value x,args:=xs.toArray,argTypes:=ts },ty,pos,af,none⟩::rest) a w:=by
 refine wl_plain rfl ?_;rw[semAt_nd rfl];obtain ⟨fn,tmps,assign,body,hrun,hround⟩:=hy;have hf:a.eval x=.func (.yield L) #[] #[]:=S.fr.ev;have e:=S.fr.evl (xs:=xs) (vs:=vs);have e1:(xop a.eval (.call { callee:=.value x,args:=xs.toArray,argTypes:=ts }) ty).run P w=.ok (.round L fn tmps assign body) w:=by
  rw[←hrun];simp[xop,execOp,resolve,hf,Deferred.ofValue,invoke,e]
 simp only[e1,Oper.uponIn];refine ⟨fun h=>(by cases h),RoundIn.mono hround ?_⟩;have key:∀ (b:Bool) (W:World),Agree M wI W→(b=true→J W)→(b=false→Jx W)→WL P r ops Q rest (a.put d (.bool b)) W:=fun b W hag h1 h2=>by
  have:=hp b;have S':=S.put (d:=d) (v:=.bool b);refine K b (fun k=>(M k∨wI.heap.size≤k)∧k < W.heap.size) _ W h1 h2 ⟨S'.slots,S'.defers,Wd.beginM (fun k hk=>hk.2) fun Φ hΦ w'' hw''=>hF Φ hΦ w'' (hag.trans' hw'' fun i hi hk=>?_)⟩;rcases hk.1 with h | h
  exact h;omega
 rintro e W ⟨hag,⟨rfl,hJ⟩ | ⟨rfl,hJ⟩⟩;exact key true W hag (fun _=>hJ) (fun h=>by cases h);exact key false W hag (fun h=>by cases h) (fun _=>hJ)
class EvB (l:Cx)(x:Option Operand)(dflt:Nat)(v:outParam Nat):Prop where
 eq:(x=none∧v=dflt)∨∃ o kk,x=some o∧Ev l o (.int kk (v:Int))
instance evb0 {l:Cx}{n:Nat} : EvB l none n n:=⟨.inl ⟨rfl,rfl⟩⟩
instance evb1 {l:Cx}{x:Operand}{n m:Nat}{kk:IntKind}{mi:Int}[h:Ev l x (.int kk mi)][hm:IsNat mi m]:EvB l (some x) n m:=⟨.inr ⟨x,kk,rfl,by have:=hm.eq;subst this;exact h⟩⟩
theorem run_sliceBound {P:Program}{kk:IntKind}{v y:Nat}(h:v≤y)(code:BoundsCode)(w:World):(Instr.sliceBound (.int kk (v:Int)) y code).run P w=.ok v w:=by
 simp[Instr.sliceBound,asIntOf,h]
theorem LsIn.drop {w:World}{p:Option Addr} : ∀ {i:Nat} {ts:List LTerm} (k:Nat),LsIn w p i ts→LsIn w p (i+k) (ts.drop k)
 | i,ts,0,h=>h
 | i,[],k+1,h=>by simp[LsIn]
 | i,t::ts,k+1,h=>by
  have:=LsIn.drop (i:=i+1) k h.2.2;rw[show i+1+k=i+(k+1) from by omega]at this;exact this
theorem LsIn.shift {w:World}{ad:Addr} : ∀ {i:Nat} {ts:List LTerm} (k:Nat),LsIn w (some ad) (k+i) ts→LsIn w (some (ad.add (k*5))) i ts
 | i,[],k,h=>by simp[LsIn]
 | i,t::ts,k,h=>by
  obtain ⟨⟨ad',he,hc⟩,ht,hr⟩:=h;cases he;refine ⟨⟨_,rfl,fun j v hj=>?_⟩,ht,LsIn.shift k hr⟩;rw[add_add,show k*5+(i*5+j)=(k+i)*5+j from by omega];exact hc j v hj
theorem LsIn.cut {w:World}{p:Option Addr}{ts:List LTerm}{lo mx:Nat}(h:LsIn w p 0 ts)(hm:ts.length≤mx):LsIn w (if mx=lo then p else p.map (·.add (lo*5))) 0 (ts.drop lo):=by
 by_cases hd:ts.drop lo=[]
 rw[hd];simp[LsIn];have hlo:lo < ts.length:=by
  rcases Nat.lt_or_ge lo ts.length with h | h
  exact h;exact absurd (List.drop_of_length_le h) hd
 rw[if_neg (by omega)];cases p with
 | none=>
  cases ts with
  | nil=>simp at hd
  | cons t ts=>obtain ⟨⟨ad,h1,_⟩,_⟩:=h;cases h1
 | some ad=>
  have:=LsIn.drop lo h;rw[Nat.zero_add]at this;exact LsIn.shift (i:=0) lo (by simpa using this)
def Item.ro (x:Item):Item:={ x with own:=false }
end
theorem St.boxNew {w0 M0 ds a w l bs fs}(S:St w0 M0 ds a w l bs fs)(b:Nat){t:TypeId}{cs:List Value}[h:HasBox bs b t cs]:M0 b∨w0.heap.size≤b:=S.wd.own _ h.mem rfl b rfl
instance isnatL0:IsNat 0 0:=⟨rfl⟩
instance isnatL1:IsNat 1 1:=⟨rfl⟩
instance isnatL2:IsNat 2 2:=⟨rfl⟩
instance isnatL3:IsNat 3 3:=⟨rfl⟩
instance isnatL4:IsNat 4 4:=⟨rfl⟩
instance isnatL5:IsNat 5 5:=⟨rfl⟩
theorem endI {P:Program}{fn:Func}{R:World→Prop}{w0:World}{M0:Nat→Prop}{a:Act}{w:World}{l:List Value}{bs:List Item}{fs:List (World→Prop)}{e:Exit}[hr:FnRes fn []](S:St w0 M0 [] a w l bs fs)(h:R w)(he:e=.ret∨e=.normal:=by simp) :
  bodyPost P fn (fun e w'=>(∃ v,e=.returned v)∧R w') e a w:=by
 have hv:(results fn l.toArray).run P w=.ok (.tuple #[]) w:=by rw[results_eq (rs:=[])];simp
 rw[←S.slots]at hv;rcases he with rfl | rfl
 exact bodyPost_ret hv S.defers ⟨⟨_,rfl⟩,h⟩;exact bodyPost_end hv S.defers ⟨⟨_,rfl⟩,h⟩
instance (priority:=100) mulnAny {i s:Nat} : MulN i s (i*s):=⟨rfl⟩
theorem LsIn.nil_of {w:World}{i:Nat}{xs:List LTerm}(h:LsIn w none i xs):xs=[]:=by
 cases xs with
 | nil=>rfl
 | cons x xs=>obtain ⟨⟨ad,h0,_⟩,_⟩:=h;cases h0
section
variable {P:Program}{ty:TypeId}{l:Cx}{bs:List Item}{fs:List (World→Prop)}{x y:Operand}{t e:TypeId}
class LeC (a b:Nat):Prop where le:a≤b
instance (priority:=1100) lec0 {a:Nat} : LeC a a:=⟨Nat.le_refl _⟩
class HiOk (om oh:Option Operand):Prop where ok:om.isSome=true→oh.isSome=true
instance hiok0 {oh:Option Operand} : HiOk none oh:=⟨fun h=>by cases h⟩
end
section
variable {P:Program}{r:Option Nat}{ops:Array Oper}{Q:Exit→Act→World→Prop}{w0:World}{M0:Nat→Prop}{ds:List Deferred}{a:Act}{w:World}{l:List Value}{bs bs':List Item}{fs:List (World→Prop)}
 {d:Option Nat} {op:Op} {ty:TypeId} {pos:String} {af:Array Edge} {rest:List Oper} {v:Value} {t e:TypeId} {sz by_ n c:Nat} {z:Value} {p:Option Addr} {xs:List Value} {x y:Operand}
theorem run_cut {ρ:Operand→Value}{lc:Cx}{ol oh om:Option Operand}{lo hi mx:Nat}[Ev lc x (.slice p n c)][hl:EvB lc ol 0 lo][hh:EvB lc oh n hi][hx:EvB lc om c mx][Und P t (.slice e)][TI P e z sz by_](hf:Fr ρ lc)
  (h1:mx≤c) (h2:hi≤mx) (h3:lo≤hi) (hxh:om.isSome=true→oh.isSome=true) (w:World) :
  (xop ρ (.slice t x ol oh om) ty).run P w=.ok (.value (.slice (if mx=lo then p else p.map (·.add (lo*sz))) (hi - lo) (mx - lo))) w:=by
 have hsz:=run_size (P:=P) (t:=e) (z:=z) (s:=sz) (b:=by_) w;have eX:ρ x=.slice p n c:=hf.ev;have hb:(Instr.sliceBounds true n c (ol.map ρ) (oh.map ρ) (om.map ρ)).run P w=.ok (lo,hi,mx) w:=by
  rcases hx.eq with ⟨rfl,rfl⟩ | ⟨o,kk,rfl,h⟩
  rcases hh.eq with ⟨rfl,rfl⟩ | ⟨o2,kk2,rfl,h'⟩
  rcases hl.eq with ⟨rfl,rfl⟩ | ⟨o3,kk3,rfl,h''⟩
  simp[Instr.sliceBounds];have e3:=hf.ev (x:=o3) (v:=.int kk3 (lo:Int));simp[Instr.sliceBounds,e3,run_sliceBound h3];have e2:=hf.ev (x:=o2) (v:=.int kk2 (hi:Int));have h2':hi≤mx:=h2;rcases hl.eq with ⟨rfl,rfl⟩ | ⟨o3,kk3,rfl,h''⟩
  simp[Instr.sliceBounds,e2,run_sliceBound h2'];have e3:=hf.ev (x:=o3) (v:=.int kk3 (lo:Int));simp[Instr.sliceBounds,Sem.run_bind,e2,e3,run_sliceBound h2',run_sliceBound h3];have e1:=hf.ev (x:=o) (v:=.int kk (mx:Int));rcases hh.eq with ⟨rfl,rfl⟩ | ⟨o2,kk2,rfl,h'⟩
  exact absurd (hxh rfl) (by simp);have e2:=hf.ev (x:=o2) (v:=.int kk2 (hi:Int));rcases hl.eq with ⟨rfl,rfl⟩ | ⟨o3,kk3,rfl,h''⟩
  simp[Instr.sliceBounds,Sem.run_bind,e1,e2,run_sliceBound h1,run_sliceBound h2];have e3:=hf.ev (x:=o3) (v:=.int kk3 (lo:Int));simp[Instr.sliceBounds,Sem.run_bind,e1,e2,e3,run_sliceBound h1,run_sliceBound h2,run_sliceBound h3]
 have key:(Instr.slice t (.slice p n c) (ol.map ρ) (oh.map ρ) (om.map ρ)).run P w=.ok (.slice (if mx=lo then p else p.map (·.add (lo*sz))) (hi - lo) (mx - lo)) w:=by
  simp only[Instr.slice,Sem.run_bind,run_und,Result.andThen_ok,hb,hsz,Sem.run_pure]
 simp only[xop,execOp,Instr.sliceAt,eX,Sem.run_bind,run_und,Result.andThen_ok,Sem.run_pure];simp[key]
instance (priority:=700) opSliceQ {lc:Cx}{ol oh om:Option Operand}{lo hi mx:Nat}[Ev lc x (.slice p n c)][EvB lc ol 0 lo][EvB lc oh n hi][EvB lc om c mx][Und P t (.slice e)][TI P e z sz by_][h1:LeC mx c][h2:LeC hi mx][h3:LeC lo hi][h4:HiOk om oh] :
  OpQ P (.slice t x ol oh om) ty lc bs fs (.slice (if mx=lo then p else p.map (·.add (lo*sz))) (hi - lo) (mx - lo)):=⟨fun _ρ w h _=>run_cut h h1.le h2.le h3.le h4.ok w⟩
end
def kvS (x:List UInt8 × Value):Value × Value:=(str x.1,x.2)
def enKV (e:MapEntry):Value × Value:=(e.key,e.val)
def mpi (b r:Nat)(kv done:List (List UInt8 × Value)):Item where
 foot:=fun k=>k=b∨k=r
 holds:=fun w=>∃ (es:Array MapEntry) (clock:Nat) (ds:List MapEntry),w.heap[b]? = some (.map es clock)∧es.toList.map enKV=kv.map kvS∧(∀ e∈es.toList,e.born < clock)∧(es.toList.map (·.born)).Nodup∧
  w.heap[r]? = some (.mapIter (some b) clock (ds.map (·.born)).toArray clock)∧(∀ e∈ds,e∈es.toList)∧(ds.map (·.born)).Nodup∧ds.map enKV=done.map kvS
class HasMpi (bs:List Item)(r:Nat)(b:outParam Nat)(kv done:outParam (List (List UInt8 × Value))):Prop where mem:mpi b r kv done∈bs
class HasMpiB (bs:List Item)(b:Nat)(kv:outParam (List (List UInt8 × Value))):Prop where mem:∃ r done,mpi b r kv done∈bs
section
variable {P:Program}{r0:Option Nat}{ops:Array Oper}{Q:Exit→Act→World→Prop}{w0:World}{M0:Nat→Prop}{ds:List Deferred}{a:Act}{w:World}{l:List Value}{bs:List Item}{fs:List (World→Prop)}
 {d:Option Nat} {op:Op} {ty:TypeId} {pos:String} {af:Array Edge} {rest:List Oper} {t kt et:TypeId} {x:Operand} {b:Nat} {kv:List (List UInt8 × Value)}
end
section
variable {P:Program}{r:Option Nat}{ops:Array Oper}{Q:Exit→Act→World→Prop}{w0:World}{M0:Nat→Prop}{ds:List Deferred}{a:Act}{w:World}{l:List Value}{bs:List Item}{fs:List (World→Prop)}
 {d:Option Nat} {ty:TypeId} {pos:String} {af:Array Edge} {rest:List Oper} {f:Nat} {x:Operand} {ys:List Operand} {args:List Value} {ts:Array TypeId}
end
end Go.Wk
namespace Go.Proofs.YtibkkbknnfehlaaGreatDoor
open Go Go.Wk
set_option synthInstance.maxSize 100000
set_option synthInstance.maxHeartbeats 400000
set_option maxRecDepth 100000
def secretT (u:Int):Term:=.mk 3 u 0 [] []
def tget (k:List UInt8):List (List UInt8 × LTerm)→Option LTerm
 | []=>none
 | (u,x)::km=>if k=u then some x else tget k km
abbrev zeroL:LTerm:=.mk 0 0 0 [] none 0 []
def inM (km:List (List UInt8 × LTerm))(k:List UInt8):Bool:=(tget k km).isSome
mutual
def canF (H:List UInt8→Bool):Term→Bool
 | .mk k u n s ks=>(H (nameF (.mk k u n s ks))||decide (k=1))||(!(decide (k=2)||decide (k=3))&&((!decide (k=8)||H (nameF (secretT u)))&&canLF H ks))
def canLF (H:List UInt8→Bool):List Term→Bool
 | []=>true
 | t::ts=>canF H t&&canLF H ts
end
theorem kid_st {M:Nat→Prop}{w:World}{t x:LTerm}(h:Stable M w (LtF t))(hx:x∈t.kids):Stable M w (LtF x):=by
 obtain ⟨k,hk,rfl⟩:=List.mem_iff_getElem.1 hx;exact h.imp fun w' hw'=>((LtIn.iff.1 hw').2.2.get (List.getElem?_eq_getElem hk)).2
inductive Der (K:List Term):Term→Prop where
 | known {t:Term} (h:t∈K):Der K t
 | text {u n:Int} {s:List UInt8} {ks:List Term} : Der K (.mk 1 u n s ks)
 | make {k u n:Int} {s:List UInt8} {ks:List Term} (h2:k≠2) (h3:k≠3) (h8:k=8→Der K (secretT u)) (hk:∀ t∈ks,Der K t):Der K (.mk k u n s ks)
 | part {k u n:Int} {s:List UInt8} {ks:List Term} {t:Term} (hk:k=4∨k=8) (h:Der K (.mk k u n s ks)) (ht:t∈ks):Der K t
 | unlock {u n:Int} {s:List UInt8} {key:Term} {ks:List Term} {t:Term} (h:Der K (.mk 6 u n s (key::ks))) (hk:Der K key) (ht:t∈ks):Der K t
 | open7 {u n:Int} {s:List UInt8} {ks:List Term} {t:Term} (h:Der K (.mk 7 u n s ks)) (hk:Der K (secretT u)) (ht:t∈ks):Der K t
def givesT (H:List UInt8→Bool):Term→List Term
 | .mk k u n s ks=>
  if k=4∨k=8 then ks else if k=6 then (if canF H (ks.headD Wk.zeroT) then ks.drop 1 else []) else if k=7 then (if H (nameF (secretT u)) then ks else []) else []
structure Apart (K:List Term)(km:List (List UInt8 × LTerm)):Prop where
 names:∀ e∈km,e.1=nameF e.2.t
 good:∀ e∈km,Good e.2.t∧Der K e.2.t
 cover:∀ t∈K,inM km (nameF t)=true
 closed:∀ e∈km,∀ y∈givesT (inM km) e.2.t,inM km (nameF y)=true
 nd:(km.map (·.1)).Nodup
inductive SubT (K:List Term):Term→Prop where
 | top {t:Term} (h:t∈K):SubT K t
 | kid {k u n:Int} {s:List UInt8} {ks:List Term} {t:Term} (h:SubT K (.mk k u n s ks)) (ht:t∈ks):SubT K t
def Cov (st:List LTerm)(km:List (List UInt8 × LTerm))(y:Term):Prop:=(∃ x∈st,x.t=y)∨inM km (nameF y)=true
def partsT:Term→List Term
 | .mk k _ _ _ ks=>if k=4∨k=8∨k=7 then ks else if k=6 then ks.drop 1 else []
structure AInv (K:List Term)(O:LTerm→Prop)(st sh:List LTerm)(km:List (List UInt8 × LTerm)):Prop where
 old:∀ x,x∈st∨x∈sh∨(∃ e∈km,e.2=x)→O x∧Good x.t∧Der K x.t
 names:∀ e∈km,e.1=nameF e.2.t
 cover:∀ t∈K,Cov st km t
 closed:∀ e∈km,(∃ x∈sh,x.t=e.2.t)∨∀ y∈partsT e.2.t,Cov st km y
 nd:(km.map (·.1)).Nodup
section
variable {K:List Term}{O:LTerm→Prop}{st sh:List LTerm}{km:List (List UInt8 × LTerm)}{x:LTerm}
end
theorem own_put {A Z vs:List Value}(o:Nat)(k:Nat)(h:A.length=o)(hz:Z.length=vs.length)(hk:k=o):(A++Z).take o++vs++(A++Z).drop (k+vs.length)=A++vs:=by
 subst h hk;rw[List.take_left,List.drop_of_length_le (by rw[List.length_append,hz];exact Nat.le_refl _),List.append_nil]
structure AS where
 p:Option Addr
 c:Nat
 ps:Option Addr
 cs:Nat
 st:List LTerm
 sh:List LTerm
 km:List (List UInt8 × LTerm)
 Ds:List Nat
inductive Hid (N:Term→Prop):Term→Prop where
 | mk {k u n:Int} {s:List UInt8} {ks:List Term} (h1:¬N (.mk k u n s ks)) (h2:(k=4∨k=8)→∀ t∈ks,Hid N t) (h6:k=6→∀ key rest,ks=key::rest→¬N key→∀ t∈rest,Hid N t)
   (h7:k=7→¬N (secretT u)→∀ t∈ks,Hid N t):Hid N (.mk k u n s ks)
inductive Occ (a:Term):Term→Prop where
 | here:Occ a a
 | kid {k u n:Int} {s:List UInt8} {ks:List Term} {t:Term} (ht:t∈ks) (h:Occ a t):Occ a (.mk k u n s ks)
section
variable {K:List Term}{x m:Int}
end
end Go.Proofs.YtibkkbknnfehlaaGreatDoor