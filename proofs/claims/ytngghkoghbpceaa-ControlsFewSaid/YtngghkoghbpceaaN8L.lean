/-
  How the closed run of lives() (law 08) is walked.
  Conditions: none.
-/
import Derived.Test.YtngghkoghbpceaaE9C
namespace Go.Proofs.Ytngghkoghbpceaa
set_option linter.unusedVariables false
set_option maxRecDepth 100000
def fl8L:FuncId→Bool:=fun f=> [1000000+62,1000000+64,1000000+63,89].contains f||flT f
def lives8_tab(m:Nat):List (FuncId×Ent):= [(89,.con (cloneB_con m))]
theorem lives8_tabok(m:Nat):CallOk Try.prog (tabK Try.prog fl8L 300 (lives8_tab m) 20):=tabK_ok tyx (tbc (cloneB_ok m) tbn) 20
abbrev e1:SB:= .box 169 [(.d (.v (.bool true))),(.d (.v (.int .u8 9))),(.d (.v (.map none))),(.wrap (.ifc 75) (.ptr 1 0)),(.d (.v (.int .u8 0))),(.d (.v (.pointer none)))]
abbrev e2:Sh:= .cons (.i .u8) (.cons (.i .u8) (.cons (.i .u8) (.cons (.i .u16) (.cons (.i .u8) (.cons (.i .u8) (.cons .b (.cons .b (.cons (.i .u8) (.cons (.ints .u8) (.cons .b (.cons (.i .u8) .nil)))))))))))
abbrev e3:SV:= .d (.v (.bool false))
abbrev e4:SV:= .wrap (.ifc 159) (.d (.v (.func (.func 66) #[] #[])))
abbrev e5:SV:= .d (.v (.bool true))
abbrev e6:SV:= .d (.v (.slice none 0 0))
abbrev e7:SV:= .d (.v (.int .i64 0))
abbrev e8:SV:= .d (.v (.int .i64 8))
abbrev e9:SV:= .d (.v (.int .u8 9))
abbrev e10:SV:= .wrap (.ifc 26) (.ptr 0 0)
abbrev e11:SV:= .d (.v (.int .u8 1))
abbrev e12:SV:= .d (.v (.int .u8 0))
abbrev e13:SV:= .ints .u8 [1,2,3,4,5,6,7,8,9,10] none
abbrev e14:SV:= .d (.v (.int .i64 3))
abbrev e15:SV:= .d (.v .nilIface)
abbrev e16:SB:= .box 157 [e8,e4,(.i .u8 128),(.i .u8 6),(.i .u16 0),(.i .u16 0),(.i .u16 8),e5,e5,e3,e5,e3,(.ints .u8 [1,2,3,4,5,6,7,8] none),(.i .i64 8),(.b true),(.d (.v (.int .i64 2)))]
abbrev e17:SB:= .box 157 [e8,e4,(.i .u8 128),(.i .u8 6),(.i .u16 0),(.i .u16 0),(.i .u16 8),e5,e5,e3,e3,e3,(.ints .u8 [1,2,3,4,5,6,7,8] none),(.i .i64 8),(.b true),(.d (.v (.int .i64 1)))]
abbrev e18:SB:= .box 157 [e8,e4,(.i .u8 128),(.i .u8 6),(.i .u16 0),(.i .u16 0),(.i .u16 18),e5,e5,e3,e5,e5,e13,(.i .i64 10),e5,(.d (.v (.int .i64 1)))]
abbrev e19:SB:= .box 157 [e8,e4,(.i .u8 128),(.i .u8 6),(.i .u16 0),(.i .u16 0),(.i .u16 8),e5,e3,e3,e3,e5,e6,e7,e3,(.d (.v (.int .i64 1)))]
abbrev e20:SB:= .box 157 [e8,e4,(.i .u8 128),(.i .u8 6),(.i .u16 0),(.i .u16 0),(.i .u16 18),e5,e5,e3,e3,e3,e13,(.i .i64 8),(.b false),e7]
abbrev e21:SB:= .box 157 [e8,e4,(.i .u8 0),(.i .u8 6),(.i .u16 0),(.i .u16 0),(.i .u16 0),e5,e3,e3,e3,e5,e6,e7,e3,(.d (.v (.int .i64 2)))]
abbrev e22:SB:= .box 157 [e8,e4,(.i .u8 128),(.i .u8 6),(.i .u16 0),(.i .u16 0),(.i .u16 18),e5,e5,e3,e3,e5,e13,(.i .i64 10),e5,e7]
abbrev e23:SB:= .box 157 [e8,e4,(.i .u8 0),(.i .u8 6),(.i .u16 0),(.i .u16 0),(.i .u16 9),e5,e3,e3,e3,e5,(.own 2),e7,e3,e14]
abbrev e24:SB:= .box 157 [e8,e4,(.i .u8 0),(.i .u8 6),(.i .u16 0),(.i .u16 0),(.i .u16 9),e5,e3,e3,e3,e3,(.own 2),e7,e3,e14]
abbrev e25:SB:= .box 157 [e8,e4,(.i .u8 128),(.i .u8 7),(.i .u16 0),(.i .u16 0),(.i .u16 18),e5,e5,e5,e3,e5,e6,e7,e3,e14]
abbrev e26:SB:= .box 157 [e8,e4,(.i .u8 128),(.i .u8 7),(.i .u16 0),(.i .u16 0),(.i .u16 18),e5,e3,e3,e3,e5,e6,e7,e3,e14]
abbrev e27:SB:= .box 157 [e8,e4,(.i .u8 128),(.i .u8 6),(.i .u16 0),(.i .u16 0),(.i .u16 18),e5,e3,e3,e3,e5,e6,e7,e3,e7]
abbrev e28:SB:= .box 157 [e8,e4,(.i .u8 0),(.i .u8 6),(.i .u16 0),(.i .u16 0),(.i .u16 9),e5,e3,e3,e3,e5,e6,e7,e3,e14]
abbrev e29:SB:= .box 157 [e8,e4,(.i .u8 0),(.i .u8 6),(.i .u16 0),(.i .u16 0),(.i .u16 0),e5,e5,e3,e5,e5,e6,e7,e3,e14]
abbrev e30:SV:= .agg [e11,e6]
end Go.Proofs.Ytngghkoghbpceaa
