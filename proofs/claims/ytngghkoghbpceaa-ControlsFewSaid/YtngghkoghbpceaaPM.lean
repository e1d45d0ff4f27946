/-
  Small facts of plain laws: numbers, lists, room.
  Conditions: none.
-/
import Derived.Test.YtngghkoghbpceaaKF
namespace Go.Proofs.Ytngghkoghbpceaa
set_option linter.unusedVariables false
set_option linter.unusedSimpArgs false
theorem gr1(n:Nat)(h:n≤1000000000):growOb 1 n=true:=growT (by omega) (by omega)
theorem gr48(n:Nat)(h:n≤1000000000):growOb 48 n=true:=growT (by omega) (by omega)
theorem wi64{x:Int}(h0: -9223372036854775808≤x)(h1:x<9223372036854775808):Go.IntKind.wrap .i64 x=x:=by simp[Go.IntKind.wrap,Go.IntKind.bits,Go.IntKind.signed];omega
theorem mkA(b:Nat)(c:Int)(any:Bool)(hb:b≤64)(h0:0≤c)(h:c≤1000000):makeOb b 0 c any=true:=by
 have:(b:Int)*c≤281474976710656:=by
  have:=Int.mul_le_mul (show(b:Int)≤64 by omega) h h0 (by omega)
  omega
 simp[makeOb,h0,this]
theorem mkL(b:Nat)(c:Int)(hb:b≤64)(h0:0≤c)(h:c≤1000000):makeOb b c c true=true:=by
 have:(b:Int)*c≤281474976710656:=by
  have:=Int.mul_le_mul (show(b:Int)≤64 by omega) h h0 (by omega)
  omega
 simp[makeOb,h0,this]
theorem clipT(n:Nat):(decide ((0:Int)≤(n:Int))&&(decide ((n:Int)≤(n:Int))&&decide (Int.toNat (n:Int)≤n)))=true:=by
 rw[dT (show(0:Int)≤(n:Int)by omega),dT (show(n:Int)≤(n:Int)by omega),dT (show Int.toNat (n:Int)≤n by omega)];rfl
theorem takeAll{α:Type}(xs:List α):List.take (Int.toNat (xs.length:Int)) xs=xs:=by rw[toNatC,List.take_length]
theorem wS(i:Nat)(h:i<1000000000):Go.IntKind.wrap .i64 ((i:Int)+1)=((i+1:Nat):Int):=by rw[wi64 (by omega) (by omega)];omega
theorem drop_cons{α:Type}{l:List α}{i:Nat}{d:α}(h:i<l.length):l.drop i=l.getD i d::l.drop (i+1):=by rw[getD_lt h];exact drop_get h
theorem wu8(x:Int):Go.IntKind.wrap .u8 x=x % 256:=by simp[Go.IntKind.wrap,Go.IntKind.bits,Go.IntKind.signed]
theorem wu16(x:Int):Go.IntKind.wrap .u16 x=x % 65536:=by simp[Go.IntKind.wrap,Go.IntKind.bits,Go.IntKind.signed]
end Go.Proofs.Ytngghkoghbpceaa
