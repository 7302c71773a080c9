/- The Go function laws.FnRoots returns true for every input and leaves its arguments as they were; no condition. -/
import Derived.Test.YtafbmhncmbcpjaaRows
import Derived.Test.YtafbmhncmbcpjaaBase
import Derived.Test.YtafbmhncmbcpjaaNum
import Derived.Test.YtafbmhncmbcpjaaDiv
import Derived.Test.YtafbmhncmbcpjaaRoot
import Derived.Test.YtafbmhncmbcpjaaList
import Derived.Test.YtafbmhncmbcpjaaDraw
import Derived.Lib.Hide
import Derived.WalkKit
import Derived.WalkSpells
import Derived.WalkLawsBesides
import Derived.ProofKit
import Derived.OpenShut
import Derived.ShutString
import Derived.ChangeOld
import Derived.Below
import Derived.Deep.RegionHeld3
import Derived.Deep.DeepCutAuto
namespace Go.Proofs.Ytafbmhncmbcpjaa.pFnRoots
open Go.ChangeShapes Go.WideShapes Go.ChangeAt Go.RowKit
set_option maxHeartbeats 2000000
set_option linter.unusedVariables false
set_option linter.unusedSimpArgs false

theorem walk (w : World) (p0 : Option Addr) (len0 cap0 : Nat) (z0 : List Int) (r0 : IsRow .u8 w p0 len0 cap0 z0) :
    Calls Try.prog 5 #[.slice p0 len0 cap0] w fun e w' => e = .returned (.bool true) ∧ Below w.heap.size w w' := by
  have hin := r0.bytes8
  have hn := hin.1
  clear r0
  rcases Bool.eq_false_or_eq_true (decide (4096 < len0)) with hbig | hbig
  · go_enter Try.func5, Try.ntmps5
    go_wp2_with (go_at_call 21; refine (l_big p0 len0 cap0 _ hn).mono ?_; rintro e w' ⟨rfl, rfl⟩; rw [hbig])
    go_ret
    exact ⟨rfl, Below.refl _ _⟩
  · go_enter Try.func5, Try.ntmps5
    go_upto_region 4 with first | (go_at_call 21; refine (l_big p0 len0 cap0 _ hn).mono ?_; rintro e w' ⟨rfl, rfl⟩; rw [hbig]) | (go_at_call 22; refine (s_DrawRootDown _ _ _ _ hin).mono ?_; rintro e w' ⟨n, rfl, hB⟩)
    have HB := Lib.hid hB
    clear hB hin hn
    rcases Bool.eq_false_or_eq_true (inB n 0 1000000000000) with hx | hx
    · have hx' := inB_iff.1 hx
      have hr := rootN_is hx'.1
      have hb := rootN_bd hx'.1 hx'.2
      have e1 : rootDownR n = (rootN n, 0) := by unfold rootDownR; rw [if_pos hx]
      by_cases hs : rootN n * rootN n < n
      · have e2 : rootUpR n = (rootN n + 1, 0) := by unfold rootUpR rootUpN; rw [if_pos hx, if_pos hs]
        generalize rootN n = r at *
        obtain ⟨h0, h1, h2⟩ := hr
        have m1 := sq_bd hb.1 hb.2
        have m2 := sq_bd (m := r + 1) (M := 1000001) (by omega) (by omega)
        have t1 : (r + 1 == r) = false := by simp; omega
        have t2 : (r * r == n) = false := by simp; omega
        have T := Lib.hid (And.intro t1 t2)
        clear t1 t2
        go_wp2_with first | (go_at_call 23; refine (i_RootDown _ _).mono ?_; rintro e w' ⟨rfl, rfl⟩; rw [e1]) | (go_at_call 24; refine (i_RootUp _ _).mono ?_; rintro e w' ⟨rfl, rfl⟩; rw [e2]) | (go_at_call 25; refine (s_RootDown _ _).mono ?_; rintro e w' ⟨rfl, rfl⟩; rw [e1])
        all_goals go_ret
        all_goals exact ⟨ret_bool (by rw [T.out.1, T.out.2]; rfl), HB.out⟩
      · have e2 : rootUpR n = (rootN n, 0) := by unfold rootUpR rootUpN; rw [if_pos hx, if_neg hs]
        generalize rootN n = r at *
        obtain ⟨h0, h1, h2⟩ := hr
        have m1 := sq_bd hb.1 hb.2
        have m2 := sq_bd (m := r + 1) (M := 1000001) (by omega) (by omega)
        have heq : r * r = n := by omega
        go_wp2_with first | (go_at_call 23; refine (i_RootDown _ _).mono ?_; rintro e w' ⟨rfl, rfl⟩; rw [e1]) | (go_at_call 24; refine (i_RootUp _ _).mono ?_; rintro e w' ⟨rfl, rfl⟩; rw [e2]) | (go_at_call 25; refine (s_RootDown _ _).mono ?_; rintro e w' ⟨rfl, rfl⟩; rw [e1])
        all_goals go_ret
        all_goals exact ⟨rfl, HB.out⟩
    · have e1 : rootDownR n = (0, 2) := by unfold rootDownR; rw [if_neg (by simp [hx])]
      have e2 : rootUpR n = (0, 2) := by unfold rootUpR; rw [if_neg (by simp [hx])]
      clear hx
      go_wp2_with first | (go_at_call 23; refine (i_RootDown _ _).mono ?_; rintro e w' ⟨rfl, rfl⟩; rw [e1]) | (go_at_call 24; refine (i_RootUp _ _).mono ?_; rintro e w' ⟨rfl, rfl⟩; rw [e2]) | (go_at_call 25; refine (s_RootDown _ _).mono ?_; rintro e w' ⟨rfl, rfl⟩; rw [e1])
      all_goals go_ret
      all_goals exact ⟨rfl, HB.out⟩

theorem own : ownKnob Try.prog.godebug = none := by kernel_rfl
theorem laidOut : laidOutB Try.prog = true := by kernel_rfl
set_option maxRecDepth 100000 in
theorem lifted (os : Os) (started : os.Started) (H : Type) (enc : TypeId × Value → H) :
    ReturnsInHanded {} Try.checked os 5 .any (Rows.fnRootsSpec.pre6 enc Try.prog Try.f5 Rows.fnRootsRow.domain false) (Rows.fnRootsSpec.post enc Try.prog Try.f5 false true false false) := by
  refine returnsInHanded_of_change (C := Try.checked) own started (by kernel_rfl) Try.func5
    (ChangeSpec.witness6 (enc := enc) (C := Try.checked) false ⟨#[], #[.slice none 0 0], []⟩ 8 (by kernel_rfl) (by kernel_rfl) (by kernel_rfl) (by kernel_rfl)) ?_
  intro W base args ds gs before hval0 hW hcnd _
  have hval : ∀ (j : Nat) t v, Try.f5.params[j]? = some t → args[j]? = some v → Value.okWide Try.prog W .any base t v := hval0
  have hW' := hW
  obtain ⟨p, q, hA0, hV, rfl, hfz, hnd⟩ := hW
  have hA : DataW.TrodAll enc Try.prog W 0 (fun _ => true) true Try.f5.params.toList args.toList ds p := hA0
  rw [Try.params5] at hA hval
  obtain ⟨v0, vs0, d0, ds0, pp0, qq0, hargs, rfl, rfl, h0, rr0⟩ := trodAll_cons hA
  obtain ⟨rfl, rfl, rfl⟩ := trodAll_nil rr0
  obtain rfl : args = #[v0] := by cases args; simp_all
  obtain ⟨rfl, rfl⟩ := trodVars_none hV
  have k0_ := h0
  have lt0_ : ∀ x ∈ pp0, x.block < W.heap.size := by obtain ⟨m, hm⟩ := h0; exact DataW.trod_lt m _ _ _ hm
  obtain ⟨p0, len0, cap0, rfl⟩ := okWide_slice Try.underlying35 (hval 0 35 v0 rfl rfl)
  obtain ⟨z0, r0⟩ := open_row (k := .u8) Try.underlying35 Try.underlying5 (by kernel_rfl) h0
  clear hA0 hval0
  refine (walk  W p0 len0 cap0 z0 r0).mono fun e W' ⟨he, bel⟩ => ?_
  subst he
  exact ⟨_, rfl, _, _, _, [], _, [], hW', trodAll_mk1 (shut_bool Try.underlying4 _), (trodAll_cons_mk (Below.trod laidOut (by kernel_rfl) (of_decide_eq_true (by kernel_rfl)) k0_ bel lt0_) trodAll_mk0), rfl, bel.frame _, fun h => by cases h⟩

theorem over : Rows.fnRootsRow.holds Try.pinned (OpenSpec.ofChange Rows.fnRootsSpec) :=
  OpenClaim.holds_of_wide 5 Try.f5 rfl rfl rfl rfl rfl rfl rfl ⟨rfl, rfl, rfl, rfl, rfl⟩ rfl rfl rfl rfl rfl (by kernel_rfl) Try.func5 (by kernel_rfl)
    (of_decide_eq_true (by kernel_rfl)) (by unfold Func.isWrapper; first | (rw [if_pos (by decide +kernel)]; kernel_rfl) | (rw [if_neg (by decide +kernel)]; exact ⟨rfl, rfl⟩))
    (fun os started H enc _ => lifted os started H enc)

/-- the given statement -/
theorem proved : Rows.FnRootsSaid := over
#print axioms proved
end Go.Proofs.Ytafbmhncmbcpjaa.pFnRoots
