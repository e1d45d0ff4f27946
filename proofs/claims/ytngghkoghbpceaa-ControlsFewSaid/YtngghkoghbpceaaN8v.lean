/-
  Flags of law 08 where a request's data are a row of their own.
  Conditions: none.
-/
import Derived.Test.YtngghkoghbpceaaN8a
namespace Go.Proofs.Ytngghkoghbpceaa
def fl8w:FuncId→Bool:=fun f=> [3000000+100*157+99,3000000+100*157+12,60,8000000+60,14000029,15000000+60,16000000+2000*157+20*12+3].contains f||fl8 f
end Go.Proofs.Ytngghkoghbpceaa
