/-
  The statement PacketsCheck of the law's package plugboardlaw03, as a tied card: for every packet the law returns true, and its argument reads afterwards as before.
  Conditions: none beside the card's own.
-/
import Derived.Test.YtpdbekbobkjfgaaDoorRows
import Derived.Test.YtpdbekbobkjfgaaDoorCards
import Derived.Test.YtpdbekbobkjfgaaDoorTie
import Derived.Test.YtpdbekbobkjfgaaDoorKF
import Derived.Test.YtpdbekbobkjfgaaDoorD3ck
import Derived.Test.YtpdbekbobkjfgaaDoorD3g
import Derived.LaidMore
import Derived.OpenShut
import Derived.Stop.Joined
import Derived.SevenTiedAt
namespace Go.Proofs.YtpdbekbobkjfgaaDoor.Ck
open Go Go.ChangeShapes Go.WideShapes Go.ChangeAt Go.RowKit
set_option linter.unusedVariables false

def pSh : Sh := (.cons (.i .u8) (.cons (.i .u8) (.cons (.i .u8) (.cons (.i .u16) (.cons (.i .u8) (.cons (.i .u8) (.cons .b (.cons .b (.cons (.i .u8) (.cons (.ints .u8) .nil))))))))))
theorem u8_of (xs : List Int) (h : (Sh.ints .u8).wf xs) : ∃ l : List Nat, xs = nI l ∧ ∀ x ∈ l, x < 256 := by
  have e1 : IntKind.u8.min = 0 := by decide
  have e2 : IntKind.u8.max = 255 := by decide
  refine nI_of xs (fun x hx => ?_)
  have := h.2 x hx
  rw [e1, e2] at this
  exact this
theorem u8n (x : Int) (h : Sh.wf (.i .u8) x) : ∃ n : Nat, x = (n : Int) ∧ n < 256 := by
  have e1 : IntKind.u8.min = 0 := by decide
  have e2 : IntKind.u8.max = 255 := by decide
  have h1 : (0 : Int) ≤ x := e1 ▸ h.1
  have h2 : x ≤ (255 : Int) := e2 ▸ h.2
  exact ⟨x.toNat, by omega, by omega⟩
theorem u16n (x : Int) (h : Sh.wf (.i .u16) x) : ∃ n : Nat, x = (n : Int) ∧ n < 65536 := by
  have e1 : IntKind.u16.min = 0 := by decide
  have e2 : IntKind.u16.max = 65535 := by decide
  have h1 : (0 : Int) ≤ x := e1 ▸ h.1
  have h2 : x ≤ (65535 : Int) := e2 ▸ h.2
  exact ⟨x.toNat, by omega, by omega⟩
theorem own : ownKnob Tryd.prog.godebug = none := by kernel_rfl
theorem laidOut : laidOutB Tryd.prog = true := by kernel_rfl
theorem walk (x : Pkt) (w : Sh.wf pSh x) : AFun Tryd.prog 3 [pSh.toD x] (.v (.bool true)) := by
  obtain ⟨p, A, E, F, H, Q, C, L, K, D, ⟨⟩⟩ := x
  obtain ⟨w0, w1, w2, w3, w4, w5, _, _, w6, w7, _⟩ := w
  obtain ⟨p, rfl, hp⟩ := u8n p w0
  obtain ⟨A, rfl, hA⟩ := u8n A w1
  obtain ⟨E, rfl, hE⟩ := u8n E w2
  obtain ⟨F, rfl, hF⟩ := u16n F w3
  obtain ⟨H, rfl, hH⟩ := u8n H w4
  obtain ⟨Q, rfl, hQ⟩ := u8n Q w5
  obtain ⟨K, rfl, hK⟩ := u8n K w6
  obtain ⟨d, rfl, hd⟩ := u8_of D w7
  exact afun_con (chkL_ok 10000) [⟨pSh, ((p : Int), (A : Int), (E : Int), (F : Int), (H : Int), (Q : Int), C, L, (K : Int), nI d, ())⟩] rfl
    (((p : Int), (A : Int), (E : Int), (F : Int), (H : Int), (Q : Int), C, L, (K : Int), nI d, ()), ()) () (true, ()) rfl rfl (chkL_true 10000 (by omega) p A E F H Q K C L d hd hA hE hF hH hQ hK) rfl

set_option maxRecDepth 100000 in
theorem lifted (os : Os) (started : os.Started) (H : Type) (enc : TypeId × Value → H) :
    ReturnsInHanded {} Tryd.checked os 3 .any (fun w args => (Rows.packetsCheckSpec.pre enc Tryd.prog Tryd.f3 [] false w args ∧ laidMetH Tryd.prog Rows.packetsCheckRow.laid w) ∧ sizedMet enc Tryd.prog Tryd.f3 (OpenSpec.ofChange Rows.packetsCheckSpec) false w args) (Rows.packetsCheckSpec.post enc Tryd.prog Tryd.f3 false true false false) := by
  refine returnsInHanded_of_change_and (C := Tryd.checked) (X := fun w _ => laidMetH Tryd.prog Rows.packetsCheckRow.laid w) (fun _ _ _ hh h => h.of_heap hh) own started (by kernel_rfl) Tryd.func3
    (ChangeSpec.witness_shaped (enc := enc) (C := Tryd.checked) (os := os) (X := fun w _ => laidMetH Tryd.prog Rows.packetsCheckRow.laid w) false (World.doorLaid Tryd.prog 400 os) #[.agg #[.int .u8 0, .int .u8 0, .int .u8 0, .int .u16 0, .int .u8 0, .int .u8 0, .bool false, .bool false, .int .u8 0, .slice none 0 0]] 8 rfl (World.shaped_of_RefB (by kernel_rfl) (by kernel_rfl)) (by kernel_rfl) (by kernel_rfl) (by kernel_rfl) (laidMetH_of_parts3 (fuel := 8) (laidMet_of_run' 8 (by kernel_rfl) (by kernel_rfl)) (by kernel_rfl) (by kernel_rfl))) ?_
  intro W base args ds gs before hval0 hW _ _ hL _
  have hval : ∀ (j : Nat) t v, Tryd.f3.params[j]? = some t → args[j]? = some v → Value.okWide Tryd.prog W .any base t v := hval0
  have hW' := hW
  obtain ⟨p, q, hA0, hV, rfl, hfz, hnd⟩ := hW
  have hA : DataW.TrodAll enc Tryd.prog W 0 (fun _ => true) true Tryd.f3.params.toList args.toList ds p := hA0
  rw [Tryd.params3] at hA hval
  obtain ⟨v0, vs0, d0, ds0, p0, q0, hargs, rfl, rfl, h0, r0⟩ := trodAll_cons hA
  obtain ⟨rfl, rfl, rfl⟩ := trodAll_nil r0
  obtain rfl : args = #[v0] := by cases args; simp_all
  obtain ⟨rfl, rfl⟩ := trodVars_none hV
  have lt0 : ∀ x ∈ p0, x.block < W.heap.size := by obtain ⟨m, hm⟩ := h0; exact DataW.trod_lt m _ _ _ hm
  have t0 := Tr.of h0
  have o0 := hval 0 29 v0 rfl rfl
  obtain ⟨x, wx, hx⟩ := arg_shape (s := pSh) (by kernel_rfl) (by kernel_rfl) (by kernel_rfl) o0 t0
  refine (afun_calls (walk x wx) (repVs_cons hx repVs_nil) (gtok_of hL)).mono fun e W' ⟨he, bel⟩ => ?_
  subst he
  exact ⟨_, rfl, _, _, _, [], _, [], hW', trodAll_mk1 (shut_bool Tryd.underlying4 _), (trodAll_cons_mk (Below.trod laidOut (by kernel_rfl) (of_decide_eq_true (by kernel_rfl)) h0 bel lt0) trodAll_mk0), rfl, bel.frame _, fun h => by cases h⟩

theorem over : Rows.packetsCheckRow.holds Tryd.pinned (OpenSpec.ofChange Rows.packetsCheckSpec) :=
  OpenClaim.holds_of_wide 3 Tryd.f3 rfl rfl rfl rfl rfl rfl rfl ⟨rfl, rfl, rfl, rfl, rfl⟩ rfl rfl rfl rfl rfl (by kernel_rfl) Tryd.func3 (by kernel_rfl)
    (of_decide_eq_true (by kernel_rfl)) (by unfold Func.isWrapper; first | (rw [if_pos (by decide +kernel)]; kernel_rfl) | (rw [if_neg (by decide +kernel)]; exact ⟨rfl, rfl⟩))
    (fun os started H enc _ => lifted os started H enc)

theorem proved : Rows.PacketsCheckCardSaid :=
  Claim7.holds_tied_plain_at .later [] [.data, .data, .data] true (true, "41b4ec7895ee6e0b0020ee7add012edd42c69675211f8d7e0e49294b61ea020e") false
    over (fun _ h => by cases h) (by kernel_rfl) (fun _ h => by cases h) packetsCheck_row_tie rfl ⟨rfl, rfl⟩ (by kernel_rfl) rfl
    (fun f fn hf hfn => by
      obtain rfl : f = 3 := Option.some.inj ((show Tryd.prog.funcNamed Rows.packetsCheckRow.func = some 3 by kernel_rfl).symm.trans hf) |>.symm
      obtain rfl : fn = Tryd.f3 := (Option.some.inj (Tryd.func3.symm.trans hfn)).symm
      exact ⟨by kernel_rfl, fun j t ht => by
        rw [Tryd.params3] at ht
        have hm : t ∈ [29] := by simpa using Array.mem_of_getElem? ht
        have hall : ([29].all fun u => !Tryd.prog.wantsStandIn u) = true := by kernel_rfl
        exact (show Tryd.prog.wantsStandIn t = false by simpa using List.all_eq_true.1 hall t hm)⟩)
    (by kernel_rfl)
#print axioms proved
end Go.Proofs.YtpdbekbobkjfgaaDoor.Ck

