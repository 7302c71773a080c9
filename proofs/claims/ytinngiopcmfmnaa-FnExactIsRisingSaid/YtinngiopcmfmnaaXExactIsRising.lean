/- The Go function laws.FnExactIsRising returns true for every input and leaves its arguments as they were; no condition. -/
import Derived.Test.YtinngiopcmfmnaaRows
import Derived.Test.YtinngiopcmfmnaaBase
import Derived.Test.YtinngiopcmfmnaaNum
import Derived.Test.YtinngiopcmfmnaaList
import Derived.Lib.Hide
import Derived.WalkKit
import Derived.WalkSpells
import Derived.WalkLawsBesides
import Derived.ProofKit
import Derived.OpenShut
import Derived.ShutString
import Derived.ChangeOld
import Derived.Below
import Derived.Deep.RegionHeld3
import Derived.Deep.DeepCutAuto
namespace Go.Proofs.Ytinngiopcmfmnaa.pFnExactIsRising
open Go.ChangeShapes Go.WideShapes Go.ChangeAt Go.RowKit
set_option linter.unusedVariables false
set_option linter.unusedSimpArgs false

theorem walk (w : World) (p0 : Option Addr) (len0 cap0 : Nat) (z0 : List Int) (r0 : IsRow .i64 w p0 len0 cap0 z0) (a1 : Int) (wa1 : (Lit.int .i64 a1).wf = true) :
    Calls Try.prog 9 #[.slice p0 len0 cap0, .int .i64 a1] w fun e w' => e = .returned (.bool true) ∧ Below w.heap.size w w' := by
  have hI := r0.ints
  have hm := hI.2.1
  have hz := hI.1
  unfold maxLen at hm
  have HI := Lib.hid hI
  have HZ := Lib.hid hz
  clear hI r0 hz
  by_cases hle : len0 ≤ 1048576
  · have hn : len0 ≤ maxLen := by unfold maxLen; omega
    go_enter Try.func9, Try.ntmps9
    go_wp2_with fail
    refine (l_toInt64S _ _ _ _ _ HI.out hle).mono ?_
    rintro e w1 ⟨g1, rfl, hg1, hr1, hb1⟩
    have H1 := Lib.hid (ints_of_row hr1 HZ.out hn)
    have O1 : Own w w1 := hb1
    clear hr1 hb1
    go_wp2_with fail
    refine (s_IsRising _ _ _ _ _ _ H1.out).mono ?_
    rintro e w2 ⟨rfl, hb2⟩
    have O2 : Own w w2 := O1.join hb2
    clear hb2
    go_wp2_with fail
    refine (l_toInt64S _ _ _ _ _ (HI.out.own O2) hle).mono ?_
    rintro e w3 ⟨g2, rfl, hg2, hr2, hb3⟩
    have O3 : Own w w3 := O2.join hb3
    have H2 := Lib.hid (ints_of_row hr2 HZ.out hn)
    clear hr2 hb3
    go_wp2_with fail
    refine (i_IsRising _ _ _ _ _ _ H2.out).mono ?_
    rintro e w4 ⟨rfl, rfl⟩
    go_wp2_with fail
    refine (l_toInt64S _ _ _ _ _ (HI.out.own O3) hle).mono ?_
    rintro e w5 ⟨g3, rfl, hg3, hr3, hb5⟩
    have O5 : Own w w5 := O3.join hb5
    have H3 := Lib.hid (ints_of_row hr3 HZ.out hn)
    have H2' := Lib.hid (H2.out.keep hb5)
    clear hr3 hb5
    go_wp2_with fail
    refine (l_eqInt64S _ _ _ _ _ _ _ H2'.out H3.out).mono ?_
    rintro e w6 ⟨rfl, hb6⟩
    have O6 : Own w w6 := O5.join hb6
    clear hb6
    go_wp2
    go_ret
    exact ⟨rfl, O6.below⟩
  · go_enter Try.func9, Try.ntmps9
    go_wp2
    go_ret
    exact ⟨rfl, Below.refl _ _⟩

theorem own : ownKnob Try.prog.godebug = none := by kernel_rfl
theorem laidOut : laidOutB Try.prog = true := by kernel_rfl
set_option maxRecDepth 100000 in
theorem lifted (os : Os) (started : os.Started) (H : Type) (enc : TypeId × Value → H) :
    ReturnsInHanded {} Try.checked os 9 .any (Rows.fnExactIsRisingSpec.pre6 enc Try.prog Try.f9 Rows.fnExactIsRisingRow.domain false) (Rows.fnExactIsRisingSpec.post enc Try.prog Try.f9 false true false false) := by
  refine returnsInHanded_of_change (C := Try.checked) own started (by kernel_rfl) Try.func9
    (ChangeSpec.witness6 (enc := enc) (C := Try.checked) false ⟨#[], #[.slice none 0 0, .int .i64 0], []⟩ 8 (by kernel_rfl) (by kernel_rfl) (by kernel_rfl) (by kernel_rfl)) ?_
  intro W base args ds gs before hval0 hW hcnd _
  have hval : ∀ (j : Nat) t v, Try.f9.params[j]? = some t → args[j]? = some v → Value.okWide Try.prog W .any base t v := hval0
  have hW' := hW
  obtain ⟨p, q, hA0, hV, rfl, hfz, hnd⟩ := hW
  have hA : DataW.TrodAll enc Try.prog W 0 (fun _ => true) true Try.f9.params.toList args.toList ds p := hA0
  rw [Try.params9] at hA hval
  obtain ⟨v0, vs0, d0, ds0, pp0, qq0, hargs, rfl, rfl, h0, rr0⟩ := trodAll_cons hA
  obtain ⟨v1, vs1, d1, ds1, pp1, qq1, rfl, rfl, rfl, h1, rr1⟩ := trodAll_cons rr0
  obtain ⟨rfl, rfl, rfl⟩ := trodAll_nil rr1
  obtain rfl : args = #[v0, v1] := by cases args; simp_all
  obtain ⟨rfl, rfl⟩ := trodVars_none hV
  have k0_ := h0
  have lt0_ : ∀ x ∈ pp0, x.block < W.heap.size := by obtain ⟨m, hm⟩ := h0; exact DataW.trod_lt m _ _ _ hm
  have k1_ := h1
  have lt1_ : ∀ x ∈ pp1, x.block < W.heap.size := by obtain ⟨m, hm⟩ := h1; exact DataW.trod_lt m _ _ _ hm
  obtain ⟨p0, len0, cap0, rfl⟩ := okWide_slice Try.underlying35 (hval 0 35 v0 rfl rfl)
  obtain ⟨z0, r0⟩ := open_row (k := .i64) Try.underlying35 Try.underlying2 (by kernel_rfl) h0
  obtain ⟨a1, rfl, -, -, wa1⟩ := open_int Try.underlying2 (hval 1 2 v1 rfl rfl) h1
  clear hA0 hval0
  refine (walk  W p0 len0 cap0 z0 r0 a1 wa1).mono fun e W' ⟨he, bel⟩ => ?_
  subst he
  exact ⟨_, rfl, _, _, _, [], _, [], hW', trodAll_mk1 (shut_bool Try.underlying4 _), (trodAll_cons_mk (Below.trod laidOut (by kernel_rfl) (of_decide_eq_true (by kernel_rfl)) k0_ bel lt0_) (trodAll_cons_mk (Below.trod laidOut (by kernel_rfl) (of_decide_eq_true (by kernel_rfl)) k1_ bel lt1_) trodAll_mk0)), rfl, bel.frame _, fun h => by cases h⟩

theorem over : Rows.fnExactIsRisingRow.holds Try.pinned (OpenSpec.ofChange Rows.fnExactIsRisingSpec) :=
  OpenClaim.holds_of_wide 9 Try.f9 rfl rfl rfl rfl rfl rfl rfl ⟨rfl, rfl, rfl, rfl, rfl⟩ rfl rfl rfl rfl rfl (by kernel_rfl) Try.func9 (by kernel_rfl)
    (of_decide_eq_true (by kernel_rfl)) (by unfold Func.isWrapper; first | (rw [if_pos (by decide +kernel)]; kernel_rfl) | (rw [if_neg (by decide +kernel)]; exact ⟨rfl, rfl⟩))
    (fun os started H enc _ => lifted os started H enc)

/-- the given statement -/
theorem proved : Rows.FnExactIsRisingSaid := over
#print axioms proved
end Go.Proofs.Ytinngiopcmfmnaa.pFnExactIsRising
