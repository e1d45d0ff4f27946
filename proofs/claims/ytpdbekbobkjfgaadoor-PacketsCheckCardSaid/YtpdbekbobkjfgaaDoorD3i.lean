/-
  strconv.Itoa: what it returns, at every number, out of the library's contract and its table.
  Conditions: none.
-/
import Derived.Shelf.Strconv.Itoa3
import Derived.Test.YtpdbekbobkjfgaaDoorFnPd
namespace Go.Proofs.YtpdbekbobkjfgaaDoor
open Go.RowKit
abbrev N16 : List ByteArray := [(⟨⟨[]⟩⟩ : ByteArray), (⟨⟨[111, 117, 116]⟩⟩ : ByteArray), (⟨⟨[97, 99, 107]⟩⟩ : ByteArray), (⟨⟨[100, 97, 116, 97, 48]⟩⟩ : ByteArray), (⟨⟨[]⟩⟩ : ByteArray), (⟨⟨[115, 111, 102]⟩⟩ : ByteArray), (⟨⟨[110, 121, 101, 116]⟩⟩ : ByteArray), (⟨⟨[]⟩⟩ : ByteArray), (⟨⟨[115, 112, 108, 105, 116]⟩⟩ : ByteArray), (⟨⟨[105, 110]⟩⟩ : ByteArray), (⟨⟨[110, 97, 107]⟩⟩ : ByteArray), (⟨⟨[100, 97, 116, 97, 49]⟩⟩ : ByteArray), (⟨⟨[]⟩⟩ : ByteArray), (⟨⟨[115, 101, 116, 117, 112]⟩⟩ : ByteArray), (⟨⟨[115, 116, 97, 108, 108]⟩⟩ : ByteArray), (⟨⟨[]⟩⟩ : ByteArray)]
abbrev N15 : List ByteArray := [(⟨⟨[]⟩⟩ : ByteArray), (⟨⟨[111, 117, 116]⟩⟩ : ByteArray), (⟨⟨[97, 99, 107]⟩⟩ : ByteArray), (⟨⟨[100, 97, 116, 97, 48]⟩⟩ : ByteArray), (⟨⟨[]⟩⟩ : ByteArray), (⟨⟨[115, 111, 102]⟩⟩ : ByteArray), (⟨⟨[110, 121, 101, 116]⟩⟩ : ByteArray), (⟨⟨[]⟩⟩ : ByteArray), (⟨⟨[115, 112, 108, 105, 116]⟩⟩ : ByteArray), (⟨⟨[105, 110]⟩⟩ : ByteArray), (⟨⟨[110, 97, 107]⟩⟩ : ByteArray), (⟨⟨[100, 97, 116, 97, 49]⟩⟩ : ByteArray), (⟨⟨[]⟩⟩ : ByteArray), (⟨⟨[115, 101, 116, 117, 112]⟩⟩ : ByteArray), (⟨⟨[115, 116, 97, 108, 108]⟩⟩ : ByteArray)]
abbrev KDS : List ByteArray := [(⟨⟨[99, 111, 110, 116, 114, 111, 108]⟩⟩ : ByteArray), (⟨⟨[105, 115, 111, 99, 104, 114, 111, 110, 111, 117, 115]⟩⟩ : ByteArray), (⟨⟨[98, 117, 108, 107]⟩⟩ : ByteArray), (⟨⟨[105, 110, 116, 101, 114, 114, 117, 112, 116]⟩⟩ : ByteArray)]
abbrev HXS : ByteArray := (⟨⟨[48, 49, 50, 51, 52, 53, 54, 55, 56, 57, 97, 98, 99, 100, 101, 102]⟩⟩ : ByteArray)
set_option linter.unusedVariables false
set_option maxRecDepth 100000

def laysItoa_ren : Go.Shelf.Ren := ⟨fun | 171 => 34 | 243 => 75 | 246 => 94 | 283 => 98 | 284 => 99 | 285 => 100 | 286 => 101 | 129 => 103 | 317 => 102 | 318 => 104 | 319 => 105 | 320 => 106 | 337 => 107 | 338 => 108 | n => n, fun | 3 => 3 | 9 => 9 | 2 => 2 | 4 => 4 | 171 => 113 | 0 => 0 | 53 => 79 | 37 => 27 | 5 => 5 | 173 => 116 | 212 => 120 | 51 => 61 | 20 => 20 | 213 => 121 | 46 => 84 | 232 => 125 | 233 => 126 | n => n, fun | 17 => 0 | 18 => 1 | 19 => 2 | n => n⟩
theorem laysItoa : Go.Proofs.LaysM.n171 Tryd.prog laysItoa_ren where
  mixed := by kernel_rfl
  f129 := Tryd.func103.trans (congrArg some (by kernel_rfl))
  f171 := Tryd.func34.trans (congrArg some (by kernel_rfl))
  f243 := Tryd.func75.trans (congrArg some (by kernel_rfl))
  f246 := Tryd.func94.trans (congrArg some (by kernel_rfl))
  f283 := Tryd.func98.trans (congrArg some (by kernel_rfl))
  f284 := Tryd.func99.trans (congrArg some (by kernel_rfl))
  f285 := Tryd.func100.trans (congrArg some (by kernel_rfl))
  f286 := Tryd.func101.trans (congrArg some (by kernel_rfl))
  f317 := Tryd.func102.trans (congrArg some (by kernel_rfl))
  f318 := Tryd.func104.trans (congrArg some (by kernel_rfl))
  f319 := Tryd.func105.trans (congrArg some (by kernel_rfl))
  f320 := Tryd.func106.trans (congrArg some (by kernel_rfl))
  f337 := Tryd.func107.trans (congrArg some (by kernel_rfl))
  f338 := Tryd.func108.trans (congrArg some (by kernel_rfl))
  t0 := Tryd.underlying0
  a0 := Tryd.isAgg0
  z0 := Tryd.sizeOf0
  v0 := Tryd.zeroValue0
  t2 := Tryd.underlying2
  a2 := Tryd.isAgg2
  z2 := Tryd.sizeOf2
  v2 := Tryd.zeroValue2
  t3 := Tryd.underlying3
  a3 := Tryd.isAgg3
  z3 := Tryd.sizeOf3
  v3 := Tryd.zeroValue3
  t4 := Tryd.underlying4
  a4 := Tryd.isAgg4
  z4 := Tryd.sizeOf4
  v4 := Tryd.zeroValue4
  t5 := Tryd.underlying5
  a5 := Tryd.isAgg5
  z5 := Tryd.sizeOf5
  v5 := Tryd.zeroValue5
  t9 := Tryd.underlying9
  a9 := Tryd.isAgg9
  z9 := Tryd.sizeOf9
  v9 := Tryd.zeroValue9
  t20 := Tryd.underlying20
  a20 := Tryd.isAgg20
  z20 := Tryd.sizeOf20
  v20 := Tryd.zeroValue20
  t37 := Tryd.underlying27
  a37 := Tryd.isAgg27
  z37 := Tryd.sizeOf27
  v37 := Tryd.zeroValue27
  t46 := Tryd.underlying84
  a46 := Tryd.isAgg84
  z46 := Tryd.sizeOf84
  v46 := Tryd.zeroValue84
  t51 := Tryd.underlying61
  a51 := Tryd.isAgg61
  z51 := Tryd.sizeOf61
  v51 := Tryd.zeroValue61
  t53 := Tryd.underlying79
  a53 := Tryd.isAgg79
  z53 := Tryd.sizeOf79
  v53 := Tryd.zeroValue79
  t171 := Tryd.underlying113
  a171 := Tryd.isAgg113
  z171 := Tryd.sizeOf113
  v171 := Tryd.zeroValue113
  t173 := Tryd.underlying116
  a173 := Tryd.isAgg116
  z173 := Tryd.sizeOf116
  v173 := Tryd.zeroValue116
  t212 := Tryd.underlying120
  a212 := Tryd.isAgg120
  z212 := Tryd.sizeOf120
  v212 := Tryd.zeroValue120
  t213 := Tryd.underlying121
  a213 := Tryd.isAgg121
  z213 := Tryd.sizeOf121
  t232 := Tryd.underlying125
  a232 := Tryd.isAgg125
  z232 := Tryd.sizeOf125
  v232 := Tryd.zeroValue125
  t233 := Tryd.underlying126
  a233 := Tryd.isAgg126
  z233 := Tryd.sizeOf126
  v233 := Tryd.zeroValue126
  g17 := by kernel_rfl
  g18 := by kernel_rfl
  g19 := by kernel_rfl
  i0 := by kernel_rfl
  i2 := by kernel_rfl
  i3 := by kernel_rfl
  i4 := by kernel_rfl
  i5 := by kernel_rfl
  i9 := by kernel_rfl
  i20 := by kernel_rfl
  i37 := by kernel_rfl
  i46 := by kernel_rfl
  i51 := by kernel_rfl
  i53 := by kernel_rfl
  i171 := by kernel_rfl
  i173 := by kernel_rfl
  i212 := by kernel_rfl
  i232 := by kernel_rfl
  i233 := by kernel_rfl
  m17 := by kernel_rfl
  m18 := by kernel_rfl
  m19 := by kernel_rfl
theorem gTab_pow : ∃ g cs, Tryd.prog.globalNamed "internal/strconv.uint64pow10" = some g ∧ gTab g = some cs ∧ cs = (Lib.pow10Tab.map fun z => Value.int .u64 z).toArray := by
  exact ⟨0, (Lib.pow10Tab.map fun z => Value.int .u64 z).toArray, by kernel_rfl, by kernel_rfl, rfl⟩
theorem tab_of {w : World} (h : GTok w) : Lib.TabIs Tryd.prog w "internal/strconv.uint64pow10" .u64 Lib.pow10Tab := by
  obtain ⟨g, cs, h1, h2, h3⟩ := gTab_pow
  obtain ⟨e, z, h4⟩ := h g cs h2
  unfold Lib.TabIs World.var?
  rw [h1]
  simp only [Option.bind_some, h4, h3]
theorem grow_fr {S : Nat → Prop} (w : World) (k : Nat) (os : Array Obj) : Fr S w (Sort.grow (w.drewN k) os) :=
  Fr.ofBelow ⟨rfl, rfl, rfl, by simp [Sort.grow], fun j hj => by simp [Sort.grow, Array.getElem?_append_left hj]⟩
theorem itoa_acall (n : Int) (h0 : -9223372036854775808 ≤ n) (h1 : n ≤ 9223372036854775807) : ACall Tryd.prog 34 [.d (.v (.int .i64 n))] [] fun r hs' => r = .d (.v (.string ⟨(Lib.itoa n).toArray⟩)) ∧ hs' = [] := by
  intro cx m us w h hr hp
  simp only [RepVs, RepV, RepD] at hr
  obtain ⟨u, rest, rfl, ⟨rfl, _⟩, rfl⟩ := hr
  refine (Any.strconv_Itoa laysItoa n h0 h1 w (tab_of h.gtok)).mono ?_
  rintro e w' ⟨rfl, k, os, rfl⟩
  refine ⟨_, m, _, [], rfl, ⟨rfl, rfl⟩, Nat.le_refl _, ?_, ?_⟩
  · exact ⟨Marks.nil _ _, h.nt, by simp [St.bare, gt], by simp [St.bare, hpFrom, gt], by simp [St.bare, hpFrom, gt], by simp [St.bare, hpFrom, gt], by simp [St.bare, hpFrom, gt], h.fr.trans (grow_fr w k os), h.xlt, h.pin, h.pinp, h.gl⟩
  · simp only [RepV, RepD]
    exact ⟨trivial, rfl⟩
def itoa_D (m : Nat) (n : Int) : Option (ByteArray × Unit) := bif decide (-9223372036854775808 ≤ n) && decide (n ≤ 9223372036854775807) then some (⟨(Lib.itoa n).toArray⟩, ()) else none
def itoa_con (m : Nat) : Con := ⟨_, _, _, vcons (shp (.i .i64)) vnil, bnil, 0, fun _ => rfl, rfz 0 (shp .s) bnil, fun x b => itoa_D m x.1⟩
theorem itoa_ok (m : Nat) : ConOk Tryd.prog 34 (itoa_con m) := by
  intro x b y hF R kk r hk
  obtain ⟨n, u⟩ := x
  replace hF : itoa_D m n = some y := hF
  unfold itoa_D at hF
  cases hd : decide (-9223372036854775808 ≤ n) && decide (n ≤ 9223372036854775807) with
  | false => rw [hd] at hF; cases hF
  | true =>
    rw [hd] at hF
    rw [cond_true] at hF
    obtain rfl : ((⟨(Lib.itoa n).toArray⟩ : ByteArray), ()) = y := Option.some.inj hF
    simp only [Bool.and_eq_true, decide_eq_true_eq] at hd
    refine ⟨_, _, ?_, ?_, hk⟩
    · simp [itoa_con, bnil]
    · exact itoa_acall n hd.1 hd.2
end Go.Proofs.YtpdbekbobkjfgaaDoor

