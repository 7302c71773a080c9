/- The Go function laws.FnQuotients returns true for every input and leaves its arguments as they were; no condition. -/
import Derived.Test.YtafbmhncmbcpjaaRows
import Derived.Test.YtafbmhncmbcpjaaBase
import Derived.Test.YtafbmhncmbcpjaaNum
import Derived.Test.YtafbmhncmbcpjaaDiv
import Derived.Test.YtafbmhncmbcpjaaList
import Derived.Test.YtafbmhncmbcpjaaDraw
import Derived.Lib.Hide
import Derived.WalkKit
import Derived.WalkSpells
import Derived.WalkLawsBesides
import Derived.ProofKit
import Derived.OpenShut
import Derived.ShutString
import Derived.ChangeOld
import Derived.Below
import Derived.Deep.RegionHeld3
import Derived.Deep.DeepCutAuto
namespace Go.Proofs.Ytafbmhncmbcpjaa.pFnQuotients
open Go.ChangeShapes Go.WideShapes Go.ChangeAt Go.RowKit
set_option maxHeartbeats 2000000
set_option linter.unusedVariables false
set_option linter.unusedSimpArgs false

theorem tmod_facts (a b : Int) (hb : ¬ b = 0) : b * a.tdiv b + a.tmod b = a ∧ (0 ≤ a → 0 ≤ a.tmod b) ∧ (a ≤ 0 → a.tmod b ≤ 0) ∧ (0 < b → -b < a.tmod b ∧ a.tmod b < b) ∧ (b < 0 → b < a.tmod b ∧ a.tmod b < -b) := by
  have h1 := Int.mul_tdiv_add_tmod a b
  have h2 : (a.tmod b).natAbs < b.natAbs := by rw [Int.natAbs_tmod]; exact Nat.mod_lt _ (by omega)
  refine ⟨h1, fun h => Int.tmod_nonneg b h, fun h => ?_, fun h => by omega, fun h => by omega⟩
  have h3 := Int.tmod_nonneg b (show 0 ≤ -a by omega)
  rw [Int.neg_tmod] at h3
  omega
theorem div_law (a b : Int) (hb : ¬ b = 0) :
    (0 < b → floorG a b * b ≤ a ∧ a < floorG a b * b + b ∧ a ≤ ceilG a b * b ∧ ceilG a b * b < a + b) ∧
    (b < 0 → a ≤ floorG a b * b ∧ floorG a b * b + b < a ∧ ceilG a b * b ≤ a ∧ a + b < ceilG a b * b) ∧
    ((a.tmod b = 0 ∧ ceilG a b = floorG a b) ∨ (¬ a.tmod b = 0 ∧ ceilG a b = floorG a b + 1)) := by
  obtain ⟨h1, h2, h3, h4, h5⟩ := tmod_facts a b hb
  unfold ceilG floorG
  rw [Int.neg_tmod, Int.neg_tdiv]
  generalize a.tmod b = r at *
  generalize a.tdiv b = q at *
  have e1 : (q - 1) * b = b * q - b := by rw [Int.sub_mul, Int.mul_comm]; omega
  have e2 : -(-q - 1) * b = b * q + b := by rw [show -(-q - 1) = q + 1 by omega, Int.add_mul, Int.mul_comm]; omega
  have e3 : q * b = b * q := Int.mul_comm _ _
  have e4 : - -q = q := by omega
  by_cases hr : r = 0
  · rw [if_pos (.inl hr), if_pos (.inl (by omega)), e4, e3]
    omega
  · by_cases hs : (a < 0 ↔ b < 0)
    · rw [if_pos (.inr hs), if_neg (by omega), e3, e2]
      omega
    · rw [if_neg (by omega), if_pos (.inr (by omega)), e4, e3, e1]
      omega
theorem walk (w : World) (p0 : Option Addr) (len0 cap0 : Nat) (z0 : List Int) (r0 : IsRow .u8 w p0 len0 cap0 z0) :
    Calls Try.prog 6 #[.slice p0 len0 cap0] w fun e w' => e = .returned (.bool true) ∧ Below w.heap.size w w' := by
  have hin := r0.bytes8
  have hn := hin.1
  clear r0
  rcases Bool.eq_false_or_eq_true (decide (4096 < len0)) with hbig | hbig
  · go_enter Try.func6, Try.ntmps6
    go_wp2_with (go_at_call 21; refine (l_big p0 len0 cap0 _ hn).mono ?_; rintro e w' ⟨rfl, rfl⟩; rw [hbig])
    go_ret
    exact ⟨rfl, Below.refl _ _⟩
  · go_enter Try.func6, Try.ntmps6
    go_upto_region 4 with first | (go_at_call 21; refine (l_big p0 len0 cap0 _ hn).mono ?_; rintro e w' ⟨rfl, rfl⟩; rw [hbig]) | (go_at_call 26; refine (s_DrawDivideDown _ _ _ _ hin).mono ?_; rintro e w' ⟨a, b, rfl, hB⟩)
    have HB := Lib.hid hB
    clear hB hin hn
    by_cases hx : isVal a = true ∧ isVal b = true
    · by_cases h0 : b = 0
      · have e1 : divDown a b = (0, 5) := by unfold divDown; rw [if_pos hx, if_pos h0]
        have e2 : divUp a b = (0, 5) := by unfold divUp; rw [if_pos hx, if_pos h0]
        clear hx h0
        go_wp2_with first | (go_at_call 27; refine (i_DivideDown _ _ _).mono ?_; rintro e w' ⟨rfl, rfl⟩; rw [e1]) | (go_at_call 28; refine (i_DivideUp _ _ _).mono ?_; rintro e w' ⟨rfl, rfl⟩; rw [e2]) | (go_at_call 29; refine (s_DivideDown _ _ _).mono ?_; rintro e w' ⟨rfl, rfl⟩; rw [e1])
        all_goals go_ret
        all_goals exact ⟨rfl, HB.out⟩
      · have e1 : divDown a b = (floorG a b, 0) := by unfold divDown; rw [if_pos hx, if_neg h0]
        have e2 : divUp a b = (ceilG a b, 0) := by unfold divUp; rw [if_pos hx, if_neg h0]
        have ha := isVal_iff.1 hx.1
        have hb := isVal_iff.1 hx.2
        obtain ⟨f1, f2, f3⟩ := div_law a b h0
        have g1 := floorG_bd (b := b) (M := 1000000000000) ha.1 ha.2
        clear hx
        rcases f3 with ⟨hz, hu⟩ | ⟨hz, hu⟩
        · rw [hu] at e2 f1 f2
          clear hu
          generalize floorG a b = d at *
          have hz2 : (a.tmod b == 0) = true := by simp [hz]
          rcases ilt b 0 with hs | hs
          · obtain ⟨q1, q2, q3, q4⟩ := f2 hs
            clear f1 f2
            go_wp2_with first | (go_at_call 27; refine (i_DivideDown _ _ _).mono ?_; rintro e w' ⟨rfl, rfl⟩; rw [e1]) | (go_at_call 28; refine (i_DivideUp _ _ _).mono ?_; rintro e w' ⟨rfl, rfl⟩; rw [e2]) | (go_at_call 29; refine (s_DivideDown _ _ _).mono ?_; rintro e w' ⟨rfl, rfl⟩; rw [e1])
            all_goals go_ret
            all_goals exact ⟨by first | rfl | exact ret_bool (decide_eq_true (by omega)), HB.out⟩
          · obtain ⟨q1, q2, q3, q4⟩ := f1 (by omega)
            clear f1 f2
            go_wp2_with first | (go_at_call 27; refine (i_DivideDown _ _ _).mono ?_; rintro e w' ⟨rfl, rfl⟩; rw [e1]) | (go_at_call 28; refine (i_DivideUp _ _ _).mono ?_; rintro e w' ⟨rfl, rfl⟩; rw [e2]) | (go_at_call 29; refine (s_DivideDown _ _ _).mono ?_; rintro e w' ⟨rfl, rfl⟩; rw [e1])
            all_goals go_ret
            all_goals exact ⟨by first | rfl | exact ret_bool (decide_eq_true (by omega)), HB.out⟩
        · rw [hu] at e2 f1 f2
          clear hu
          generalize floorG a b = d at *
          have hz2 : (a.tmod b == 0) = false := by simp [hz]
          have hd2 : (d + 1 == d) = false := by simp; omega
          rcases ilt b 0 with hs | hs
          · obtain ⟨q1, q2, q3, q4⟩ := f2 hs
            clear f1 f2
            go_wp2_with first | (go_at_call 27; refine (i_DivideDown _ _ _).mono ?_; rintro e w' ⟨rfl, rfl⟩; rw [e1]) | (go_at_call 28; refine (i_DivideUp _ _ _).mono ?_; rintro e w' ⟨rfl, rfl⟩; rw [e2]) | (go_at_call 29; refine (s_DivideDown _ _ _).mono ?_; rintro e w' ⟨rfl, rfl⟩; rw [e1])
            all_goals go_ret
            all_goals exact ⟨by first | rfl | exact ret_bool (decide_eq_true (by omega)), HB.out⟩
          · obtain ⟨q1, q2, q3, q4⟩ := f1 (by omega)
            clear f1 f2
            go_wp2_with first | (go_at_call 27; refine (i_DivideDown _ _ _).mono ?_; rintro e w' ⟨rfl, rfl⟩; rw [e1]) | (go_at_call 28; refine (i_DivideUp _ _ _).mono ?_; rintro e w' ⟨rfl, rfl⟩; rw [e2]) | (go_at_call 29; refine (s_DivideDown _ _ _).mono ?_; rintro e w' ⟨rfl, rfl⟩; rw [e1])
            all_goals go_ret
            all_goals exact ⟨by first | rfl | exact ret_bool (decide_eq_true (by omega)), HB.out⟩
    · have e1 : divDown a b = (0, 2) := by unfold divDown; rw [if_neg hx]
      have e2 : divUp a b = (0, 2) := by unfold divUp; rw [if_neg hx]
      clear hx
      go_wp2_with first | (go_at_call 27; refine (i_DivideDown _ _ _).mono ?_; rintro e w' ⟨rfl, rfl⟩; rw [e1]) | (go_at_call 28; refine (i_DivideUp _ _ _).mono ?_; rintro e w' ⟨rfl, rfl⟩; rw [e2]) | (go_at_call 29; refine (s_DivideDown _ _ _).mono ?_; rintro e w' ⟨rfl, rfl⟩; rw [e1])
      all_goals go_ret
      all_goals exact ⟨rfl, HB.out⟩

theorem own : ownKnob Try.prog.godebug = none := by kernel_rfl
theorem laidOut : laidOutB Try.prog = true := by kernel_rfl
set_option maxRecDepth 100000 in
theorem lifted (os : Os) (started : os.Started) (H : Type) (enc : TypeId × Value → H) :
    ReturnsInHanded {} Try.checked os 6 .any (Rows.fnQuotientsSpec.pre6 enc Try.prog Try.f6 Rows.fnQuotientsRow.domain false) (Rows.fnQuotientsSpec.post enc Try.prog Try.f6 false true false false) := by
  refine returnsInHanded_of_change (C := Try.checked) own started (by kernel_rfl) Try.func6
    (ChangeSpec.witness6 (enc := enc) (C := Try.checked) false ⟨#[], #[.slice none 0 0], []⟩ 8 (by kernel_rfl) (by kernel_rfl) (by kernel_rfl) (by kernel_rfl)) ?_
  intro W base args ds gs before hval0 hW hcnd _
  have hval : ∀ (j : Nat) t v, Try.f6.params[j]? = some t → args[j]? = some v → Value.okWide Try.prog W .any base t v := hval0
  have hW' := hW
  obtain ⟨p, q, hA0, hV, rfl, hfz, hnd⟩ := hW
  have hA : DataW.TrodAll enc Try.prog W 0 (fun _ => true) true Try.f6.params.toList args.toList ds p := hA0
  rw [Try.params6] at hA hval
  obtain ⟨v0, vs0, d0, ds0, pp0, qq0, hargs, rfl, rfl, h0, rr0⟩ := trodAll_cons hA
  obtain ⟨rfl, rfl, rfl⟩ := trodAll_nil rr0
  obtain rfl : args = #[v0] := by cases args; simp_all
  obtain ⟨rfl, rfl⟩ := trodVars_none hV
  have k0_ := h0
  have lt0_ : ∀ x ∈ pp0, x.block < W.heap.size := by obtain ⟨m, hm⟩ := h0; exact DataW.trod_lt m _ _ _ hm
  obtain ⟨p0, len0, cap0, rfl⟩ := okWide_slice Try.underlying35 (hval 0 35 v0 rfl rfl)
  obtain ⟨z0, r0⟩ := open_row (k := .u8) Try.underlying35 Try.underlying5 (by kernel_rfl) h0
  clear hA0 hval0
  refine (walk  W p0 len0 cap0 z0 r0).mono fun e W' ⟨he, bel⟩ => ?_
  subst he
  exact ⟨_, rfl, _, _, _, [], _, [], hW', trodAll_mk1 (shut_bool Try.underlying4 _), (trodAll_cons_mk (Below.trod laidOut (by kernel_rfl) (of_decide_eq_true (by kernel_rfl)) k0_ bel lt0_) trodAll_mk0), rfl, bel.frame _, fun h => by cases h⟩

theorem over : Rows.fnQuotientsRow.holds Try.pinned (OpenSpec.ofChange Rows.fnQuotientsSpec) :=
  OpenClaim.holds_of_wide 6 Try.f6 rfl rfl rfl rfl rfl rfl rfl ⟨rfl, rfl, rfl, rfl, rfl⟩ rfl rfl rfl rfl rfl (by kernel_rfl) Try.func6 (by kernel_rfl)
    (of_decide_eq_true (by kernel_rfl)) (by unfold Func.isWrapper; first | (rw [if_pos (by decide +kernel)]; kernel_rfl) | (rw [if_neg (by decide +kernel)]; exact ⟨rfl, rfl⟩))
    (fun os started H enc _ => lifted os started H enc)

/-- the given statement -/
theorem proved : Rows.FnQuotientsSaid := over
#print axioms proved
end Go.Proofs.Ytafbmhncmbcpjaa.pFnQuotients
