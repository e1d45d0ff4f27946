/-
  The table of powers of ten stands where the law begins.
  Conditions: none.
-/
import Derived.Test.YtpdbekbobkjfgaaDoorRows
import Derived.Test.YtpdbekbobkjfgaaDoorD3i
import Derived.Stop.LaidErr
import Derived.Stop.Joined
namespace Go.Proofs.YtpdbekbobkjfgaaDoor
open Go Go.RowKit
set_option linter.unusedVariables false
set_option maxRecDepth 100000

theorem gtok_of {W : World} (h0 : laidMet Tryd.prog [("math/bits.deBruijn32tab", Rows.laid_math_bits_deBruijn32tab), ("math/bits.deBruijn64tab", Rows.laid_math_bits_deBruijn64tab), ("internal/strconv.uint64pow10", Rows.laid_internal_strconv_uint64pow10)] W) : GTok W := by
  have e : (Rows.laid_internal_strconv_uint64pow10 : DataW Unit) = Lib.tabData .u64 Lib.pow10Tab := by kernel_rfl
  have h1 := laidMet.tail (laidMet.tail h0)
  rw [e] at h1
  have ht := Lib.tabIs_of_head (P := Tryd.prog) (g := 0) (zs := Lib.pow10Tab) (t := 120) (e := 79) (n := 20) (by kernel_rfl) (by kernel_rfl) (by kernel_rfl) (by kernel_rfl) (by kernel_rfl) (by kernel_rfl) h1
  have hg0 : Tryd.prog.globalNamed "internal/strconv.uint64pow10" = some 0 := by kernel_rfl
  unfold Lib.TabIs World.var? at ht
  rw [hg0, Option.bind_some] at ht
  intro b cs hb
  have hgt : gTab 0 = some (Lib.pow10Tab.map fun z => Value.int .u64 z).toArray := by kernel_rfl
  by_cases h : b = 0
  · subst h
    rw [hgt] at hb
    split at ht
    · rename_i c ty z hc
      rw [hc]
      rw [← Option.some.inj hb, ← Option.some.inj ht]
      exact ⟨ty, z, rfl⟩
    · cases ht
  · exfalso
    unfold gTab at hb
    rw [if_neg h] at hb
    cases hb
end Go.Proofs.YtpdbekbobkjfgaaDoor

