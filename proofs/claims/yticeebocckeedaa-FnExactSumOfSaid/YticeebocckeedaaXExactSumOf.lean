/- The Go function laws.FnExactSumOf returns true for every input and leaves its arguments as they were; no condition. -/
import Derived.Test.YticeebocckeedaaRows
import Derived.Test.YticeebocckeedaaBase
import Derived.Test.YticeebocckeedaaNum
import Derived.Test.YticeebocckeedaaList
import Derived.Test.YticeebocckeedaaSum
import Derived.Lib.Hide
import Derived.WalkKit
import Derived.WalkSpells
import Derived.WalkLawsBesides
import Derived.ProofKit
import Derived.OpenShut
import Derived.ShutString
import Derived.ChangeOld
import Derived.Below
import Derived.Deep.RegionHeld3
import Derived.Deep.DeepCutAuto
namespace Go.Proofs.Yticeebocckeedaa.pFnExactSumOf
open Go.ChangeShapes Go.WideShapes Go.ChangeAt Go.RowKit
set_option maxHeartbeats 2000000
set_option linter.unusedVariables false
set_option linter.unusedSimpArgs false

theorem walk (w : World) (p0 : Option Addr) (len0 cap0 : Nat) (z0 : List Int) (r0 : IsRow .i64 w p0 len0 cap0 z0) :
    Calls Try.prog 8 #[.slice p0 len0 cap0] w fun e w' => e = .returned (.bool true) ∧ Below w.heap.size w w' := by
  have hI := r0.ints
  have hm := hI.2.1
  have hz := hI.1
  unfold maxLen at hm
  have HI := Lib.hid hI
  have HZ := Lib.hid hz
  clear hI r0 hz
  by_cases hle : len0 ≤ 1048576
  · have hn : len0 ≤ maxLen := by unfold maxLen; omega
    go_enter Try.func8, Try.ntmps8
    go_wp2_with fail
    refine (l_toInt64S _ _ _ _ _ HI.out hle).mono ?_
    rintro e w1 ⟨g1, rfl, hg1, hr1, hb1⟩
    have H1 := Lib.hid (ints_of_row hr1 HZ.out hn)
    have O1 : Own w w1 := hb1
    clear hr1 hb1
    go_wp2_with fail
    refine (s_SumOf _ _ _ _ _ H1.out).mono ?_
    rintro e w2 ⟨rfl, rfl⟩
    go_wp2_with fail
    refine (l_toInt64S _ _ _ _ _ (HI.out.own O1) hle).mono ?_
    rintro e w3 ⟨g2, rfl, hg2, hr2, hb3⟩
    have O3 : Own w w3 := O1.join hb3
    have H2 := Lib.hid (ints_of_row hr2 HZ.out hn)
    clear hr2 hb3
    go_wp2_with fail
    refine (i_SumOf _ _ _ _ _ H2.out).mono ?_
    rintro e w4 ⟨rfl, rfl⟩
    go_wp2_with fail
    refine (l_toInt64S _ _ _ _ _ (HI.out.own O3) hle).mono ?_
    rintro e w5 ⟨g3, rfl, hg3, hr3, hb5⟩
    have O5 : Own w w5 := O3.join hb5
    have H3 := Lib.hid (ints_of_row hr3 HZ.out hn)
    have H2' := Lib.hid (H2.out.keep hb5)
    clear hr3 hb5
    go_wp2_with fail
    refine (l_eqInt64S _ _ _ _ _ _ _ H2'.out H3.out).mono ?_
    rintro e w6 ⟨rfl, hb6⟩
    have O6 : Own w w6 := O5.join hb6
    clear hb6
    go_wp2
    go_ret
    exact ⟨rfl, O6.below⟩
  · go_enter Try.func8, Try.ntmps8
    go_wp2
    go_ret
    exact ⟨rfl, Below.refl _ _⟩

theorem own : ownKnob Try.prog.godebug = none := by kernel_rfl
theorem laidOut : laidOutB Try.prog = true := by kernel_rfl
set_option maxRecDepth 100000 in
theorem lifted (os : Os) (started : os.Started) (H : Type) (enc : TypeId × Value → H) :
    ReturnsInHanded {} Try.checked os 8 .any (Rows.fnExactSumOfSpec.pre6 enc Try.prog Try.f8 Rows.fnExactSumOfRow.domain false) (Rows.fnExactSumOfSpec.post enc Try.prog Try.f8 false true false false) := by
  refine returnsInHanded_of_change (C := Try.checked) own started (by kernel_rfl) Try.func8
    (ChangeSpec.witness6 (enc := enc) (C := Try.checked) false ⟨#[], #[.slice none 0 0], []⟩ 8 (by kernel_rfl) (by kernel_rfl) (by kernel_rfl) (by kernel_rfl)) ?_
  intro W base args ds gs before hval0 hW hcnd _
  have hval : ∀ (j : Nat) t v, Try.f8.params[j]? = some t → args[j]? = some v → Value.okWide Try.prog W .any base t v := hval0
  have hW' := hW
  obtain ⟨p, q, hA0, hV, rfl, hfz, hnd⟩ := hW
  have hA : DataW.TrodAll enc Try.prog W 0 (fun _ => true) true Try.f8.params.toList args.toList ds p := hA0
  rw [Try.params8] at hA hval
  obtain ⟨v0, vs0, d0, ds0, pp0, qq0, hargs, rfl, rfl, h0, rr0⟩ := trodAll_cons hA
  obtain ⟨rfl, rfl, rfl⟩ := trodAll_nil rr0
  obtain rfl : args = #[v0] := by cases args; simp_all
  obtain ⟨rfl, rfl⟩ := trodVars_none hV
  have k0_ := h0
  have lt0_ : ∀ x ∈ pp0, x.block < W.heap.size := by obtain ⟨m, hm⟩ := h0; exact DataW.trod_lt m _ _ _ hm
  obtain ⟨p0, len0, cap0, rfl⟩ := okWide_slice Try.underlying44 (hval 0 44 v0 rfl rfl)
  obtain ⟨z0, r0⟩ := open_row (k := .i64) Try.underlying44 Try.underlying2 (by kernel_rfl) h0
  clear hA0 hval0
  refine (walk  W p0 len0 cap0 z0 r0).mono fun e W' ⟨he, bel⟩ => ?_
  subst he
  exact ⟨_, rfl, _, _, _, [], _, [], hW', trodAll_mk1 (shut_bool Try.underlying4 _), (trodAll_cons_mk (Below.trod laidOut (by kernel_rfl) (of_decide_eq_true (by kernel_rfl)) k0_ bel lt0_) trodAll_mk0), rfl, bel.frame _, fun h => by cases h⟩

theorem over : Rows.fnExactSumOfRow.holds Try.pinned (OpenSpec.ofChange Rows.fnExactSumOfSpec) :=
  OpenClaim.holds_of_wide 8 Try.f8 rfl rfl rfl rfl rfl rfl rfl ⟨rfl, rfl, rfl, rfl, rfl⟩ rfl rfl rfl rfl rfl (by kernel_rfl) Try.func8 (by kernel_rfl)
    (of_decide_eq_true (by kernel_rfl)) (by unfold Func.isWrapper; first | (rw [if_pos (by decide +kernel)]; kernel_rfl) | (rw [if_neg (by decide +kernel)]; exact ⟨rfl, rfl⟩))
    (fun os started H enc _ => lifted os started H enc)

/-- the given statement -/
theorem proved : Rows.FnExactSumOfSaid := over
#print axioms proved
end Go.Proofs.Yticeebocckeedaa.pFnExactSumOf
