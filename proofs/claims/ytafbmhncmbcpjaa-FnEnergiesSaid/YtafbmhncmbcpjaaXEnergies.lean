/- The Go function laws.FnEnergies returns true for every input and leaves its arguments as they were; no condition. -/
import Derived.Test.YtafbmhncmbcpjaaRows
import Derived.Test.YtafbmhncmbcpjaaBase
import Derived.Test.YtafbmhncmbcpjaaNum
import Derived.Test.YtafbmhncmbcpjaaDiv
import Derived.Test.YtafbmhncmbcpjaaRoot
import Derived.Test.YtafbmhncmbcpjaaList
import Derived.Test.YtafbmhncmbcpjaaIv
import Derived.Test.YtafbmhncmbcpjaaIv2
import Derived.Test.YtafbmhncmbcpjaaEn
import Derived.Test.YtafbmhncmbcpjaaEn2
import Derived.Test.YtafbmhncmbcpjaaDraw
import Derived.Lib.Hide
import Derived.WalkKit
import Derived.WalkSpells
import Derived.WalkLawsBesides
import Derived.ProofKit
import Derived.OpenShut
import Derived.ShutString
import Derived.ChangeOld
import Derived.Below
import Derived.Deep.RegionHeld3
import Derived.Deep.DeepCutAuto
namespace Go.Proofs.Ytafbmhncmbcpjaa.pFnEnergies
open Go.ChangeShapes Go.WideShapes Go.ChangeAt Go.RowKit
set_option maxHeartbeats 2000000
set_option linter.unusedVariables false
set_option linter.unusedSimpArgs false

theorem root_sq {v : Int} (h : 0 ≤ v) : rootN (v * v) = v := by
  refine (IsRoot.eq ⟨h, Int.le_refl _, ?_⟩).symm
  have e : (v + 1) * (v + 1) = v * v + v + v + 1 := by rw [Int.add_mul, Int.mul_add]; omega
  omega
theorem rootUp_sq {v : Int} (h : 0 ≤ v) : rootUpN (v * v) = v := by unfold rootUpN; rw [root_sq h]; simp
theorem rootUp_ge {n : Int} (h : 0 ≤ n) : n ≤ rootUpN n * rootUpN n := by
  have k := rootN_is h
  unfold rootUpN
  split
  · have := k.2.2; omega
  · omega
theorem rootUp_bd {n : Int} (h : 0 ≤ n) (h1 : n ≤ 1000000000000) : 0 ≤ rootUpN n ∧ rootUpN n ≤ 1000001 := by
  have k := rootN_bd h h1
  unfold rootUpN
  split <;> omega
theorem walk (w : World) (p0 : Option Addr) (len0 cap0 : Nat) (z0 : List Int) (r0 : IsRow .u8 w p0 len0 cap0 z0) :
    Calls Try.prog 9 #[.slice p0 len0 cap0] w fun e w' => e = .returned (.bool true) ∧ Below w.heap.size w w' := by
  have hin := r0.bytes8
  have hn := hin.1
  clear r0
  rcases Bool.eq_false_or_eq_true (decide (4096 < len0)) with hbig | hbig
  · go_enter Try.func9, Try.ntmps9
    go_wp2_with (go_at_call 21; refine (l_big p0 len0 cap0 _ hn).mono ?_; rintro e w' ⟨rfl, rfl⟩; rw [hbig])
    go_ret
    exact ⟨rfl, Below.refl _ _⟩
  · go_enter Try.func9, Try.ntmps9
    go_upto_region 4 with first | (go_at_call 21; refine (l_big p0 len0 cap0 _ hn).mono ?_; rintro e w' ⟨rfl, rfl⟩; rw [hbig]) | (go_at_call 42; refine (s_DrawEnergyOfSpeed _ _ _ _ hin).mono ?_; rintro e w' ⟨v, rfl, hB⟩)
    have O1 : Own w w' := hB
    have hB1 := Lib.hid hB
    clear hB hn
    go_upto_region 7 with first | (go_at_call 43; refine (i_EnergyOfSpeed _ _).mono ?_; rintro e w' ⟨rfl, rfl⟩) | (go_at_call 44; refine (s_EnergyOfSpeed _ _).mono ?_; rintro e w' ⟨rfl, rfl⟩) | (go_at_call 45; refine (s_DrawSpeedOf _ _ _ _ (hin.keep hB1.out)).mono ?_; rintro e w' ⟨x, y, rfl, hB2⟩; have O2 : Own w w' := O1.join hB2; clear hB2)
    clear hin hbig
    have cE : ∀ w : World, Calls Try.prog 48 #[ivV x y] w fun en w' => en = .returned (.bool (isEn x y)) ∧ Below w.heap.size w w' := fun w => i_IsEnergy x y w
    obtain ⟨wE, rfl⟩ : ∃ wE : World, wE = w' := ⟨_, rfl⟩
    rcases Bool.eq_false_or_eq_true (isEn x y) with h2 | h2
    · have e2 : speedR x y = (rootN x, rootUpN y, 0) := by unfold speedR; rw [if_pos h2]
      have cS : ∀ w : World, Calls Try.prog 46 #[ivV x y] w fun en w' => en = .returned (ivT (rootN x, rootUpN y, 0)) ∧ Below w.heap.size w w' := fun w => by rw [← e2]; exact i_SpeedOf x y w
      have cT : ∀ w : World, Calls Try.prog 47 #[ivV x y] w fun en w' => en = .returned (ivT (rootN x, rootUpN y, 0)) ∧ Below w.heap.size w w' := fun w => by rw [← e2]; exact s_SpeedOf x y w
      have b2 := isEn_iff.1 h2
      have k1 := rootN_is b2.1
      have k2 := rootN_bd b2.1 (by omega)
      have k3 := rootUp_ge (n := y) (by omega)
      have k4 := rootUp_bd (n := y) (by omega) (by omega)
      clear e2
      generalize rootN x = r at *
      generalize rootUpN y = u at *
      have m1 := sq_bd k2.1 k2.2
      have m2 := sq_bd k4.1 k4.2
      obtain ⟨k5, k6, k7⟩ := k1
      rw [h2] at cE
      clear h2
      rcases Bool.eq_false_or_eq_true (inB v 0 100000) with h1 | h1
      · have hv := inB_iff.1 h1
        have g := sq100 hv
        have e1 : enOfSpeed v = (v * v, 0) := by unfold enOfSpeed; rw [if_pos h1]
        have e3 : speedR (v * v) (v * v) = (v, v, 0) := by unfold speedR; rw [if_pos (isEn_iff.2 (by omega)), root_sq hv.1, rootUp_sq hv.1]
        have cB : ∀ w : World, Calls Try.prog 46 #[ivV (v * v) (v * v)] w fun en w' => en = .returned (ivT (v, v, 0)) ∧ Below w.heap.size w w' := fun w => by rw [← e3]; exact i_SpeedOf (v * v) (v * v) w
        rw [e1]
        clear e1 e3 h1
        go_upto_region 8 with (go_at_call 46; refine (cS _).mono ?_; rintro e w' ⟨rfl, hb⟩; obtain ⟨hc0, hf0, hl0⟩ := below_box (k := wE.heap.size) hb (by first | omega | (simp; done) | (simp; omega)); replace hb := Own.join (by first | assumption | exact Own.alloc (by assumption) _ | exact Own.drew (by assumption) | exact Own.drew (Own.alloc (by assumption) _) | exact Own.alloc (Own.alloc (by assumption) _) _ | exact Own.alloc (Own.alloc (Own.alloc (by assumption) _) _) _ | exact Own.drewN (by assumption) _ | exact Own.drew (Own.start _) | exact Own.drewN (Own.start _) _ | exact Own.start _) hb)
        obtain ⟨wX, rfl⟩ : ∃ wX : World, wX = w' := ⟨_, rfl⟩
        go_upto_region 9 with (go_at_call 47; refine (cT _).mono ?_; rintro e w' ⟨rfl, hb⟩; obtain ⟨hc0, hf0, hl0⟩ := below_box (k := wE.heap.size) hb (by first | omega | (simp; done) | (simp; omega)); obtain ⟨hc1, hf1, hl1⟩ := below_box (k := wX.heap.size) hb (by first | omega | (simp; done) | (simp; omega)); replace hb := Own.join (by first | assumption | exact Own.alloc (by assumption) _ | exact Own.drew (by assumption) | exact Own.drew (Own.alloc (by assumption) _) | exact Own.alloc (Own.alloc (by assumption) _) _ | exact Own.alloc (Own.alloc (Own.alloc (by assumption) _) _) _ | exact Own.drewN (by assumption) _ | exact Own.drew (Own.start _) | exact Own.drewN (Own.start _) _ | exact Own.start _) hb)
        obtain ⟨wR, rfl⟩ : ∃ wR : World, wR = w' := ⟨_, rfl⟩
        go_wp2_with first | (go_at_call 48; refine (cE _).mono ?_; rintro e w' ⟨rfl, hb⟩; obtain ⟨hc0, hf0, hl0⟩ := below_box (k := wE.heap.size) hb (by first | omega | (simp; done) | (simp; omega)); obtain ⟨hc1, hf1, hl1⟩ := below_box (k := wX.heap.size) hb (by first | omega | (simp; done) | (simp; omega)); obtain ⟨hc2, hf2, hl2⟩ := below_box (k := wR.heap.size) hb (by first | omega | (simp; done) | (simp; omega)); replace hb := Own.join (by first | assumption | exact Own.alloc (by assumption) _ | exact Own.drew (by assumption) | exact Own.drew (Own.alloc (by assumption) _) | exact Own.alloc (Own.alloc (by assumption) _) _ | exact Own.alloc (Own.alloc (Own.alloc (by assumption) _) _) _ | exact Own.drewN (by assumption) _ | exact Own.drew (Own.start _) | exact Own.drewN (Own.start _) _ | exact Own.start _) hb) | (go_at_call 46; refine (cB _).mono ?_; rintro e w' ⟨rfl, hb⟩; obtain ⟨hc0, hf0, hl0⟩ := below_box (k := wE.heap.size) hb (by first | omega | (simp; done) | (simp; omega)); obtain ⟨hc1, hf1, hl1⟩ := below_box (k := wX.heap.size) hb (by first | omega | (simp; done) | (simp; omega)); obtain ⟨hc2, hf2, hl2⟩ := below_box (k := wR.heap.size) hb (by first | omega | (simp; done) | (simp; omega)); replace hb := Own.join (by first | assumption | exact Own.alloc (by assumption) _ | exact Own.drew (by assumption) | exact Own.drew (Own.alloc (by assumption) _) | exact Own.alloc (Own.alloc (by assumption) _) _ | exact Own.alloc (Own.alloc (Own.alloc (by assumption) _) _) _ | exact Own.drewN (by assumption) _ | exact Own.drew (Own.start _) | exact Own.drewN (Own.start _) _ | exact Own.start _) hb)
        all_goals go_ret
        all_goals exact ⟨rfl, Own.below (by first | assumption | exact Own.alloc (by assumption) _)⟩
      · have e1 : enOfSpeed v = (0, 2) := by unfold enOfSpeed; rw [if_neg (by simp [h1])]
        rw [e1]
        clear e1 h1
        go_upto_region 8 with (go_at_call 46; refine (cS _).mono ?_; rintro e w' ⟨rfl, hb⟩; obtain ⟨hc0, hf0, hl0⟩ := below_box (k := wE.heap.size) hb (by first | omega | (simp; done) | (simp; omega)); replace hb := Own.join (by first | assumption | exact Own.alloc (by assumption) _ | exact Own.drew (by assumption) | exact Own.drew (Own.alloc (by assumption) _) | exact Own.alloc (Own.alloc (by assumption) _) _ | exact Own.alloc (Own.alloc (Own.alloc (by assumption) _) _) _ | exact Own.drewN (by assumption) _ | exact Own.drew (Own.start _) | exact Own.drewN (Own.start _) _ | exact Own.start _) hb)
        obtain ⟨wX, rfl⟩ : ∃ wX : World, wX = w' := ⟨_, rfl⟩
        go_upto_region 9 with (go_at_call 47; refine (cT _).mono ?_; rintro e w' ⟨rfl, hb⟩; obtain ⟨hc0, hf0, hl0⟩ := below_box (k := wE.heap.size) hb (by first | omega | (simp; done) | (simp; omega)); obtain ⟨hc1, hf1, hl1⟩ := below_box (k := wX.heap.size) hb (by first | omega | (simp; done) | (simp; omega)); replace hb := Own.join (by first | assumption | exact Own.alloc (by assumption) _ | exact Own.drew (by assumption) | exact Own.drew (Own.alloc (by assumption) _) | exact Own.alloc (Own.alloc (by assumption) _) _ | exact Own.alloc (Own.alloc (Own.alloc (by assumption) _) _) _ | exact Own.drewN (by assumption) _ | exact Own.drew (Own.start _) | exact Own.drewN (Own.start _) _ | exact Own.start _) hb)
        obtain ⟨wR, rfl⟩ : ∃ wR : World, wR = w' := ⟨_, rfl⟩
        go_wp2_with first | (go_at_call 48; refine (cE _).mono ?_; rintro e w' ⟨rfl, hb⟩; obtain ⟨hc0, hf0, hl0⟩ := below_box (k := wE.heap.size) hb (by first | omega | (simp; done) | (simp; omega)); obtain ⟨hc1, hf1, hl1⟩ := below_box (k := wX.heap.size) hb (by first | omega | (simp; done) | (simp; omega)); obtain ⟨hc2, hf2, hl2⟩ := below_box (k := wR.heap.size) hb (by first | omega | (simp; done) | (simp; omega)); replace hb := Own.join (by first | assumption | exact Own.alloc (by assumption) _ | exact Own.drew (by assumption) | exact Own.drew (Own.alloc (by assumption) _) | exact Own.alloc (Own.alloc (by assumption) _) _ | exact Own.alloc (Own.alloc (Own.alloc (by assumption) _) _) _ | exact Own.drewN (by assumption) _ | exact Own.drew (Own.start _) | exact Own.drewN (Own.start _) _ | exact Own.start _) hb)
        all_goals go_ret
        all_goals exact ⟨rfl, Own.below (by first | assumption | exact Own.alloc (by assumption) _)⟩
    · have e2 : speedR x y = (0, 0, 1) := by unfold speedR; rw [if_neg (by simp [h2])]
      have cS : ∀ w : World, Calls Try.prog 46 #[ivV x y] w fun en w' => en = .returned (ivT (0, 0, 1)) ∧ Below w.heap.size w w' := fun w => by rw [← e2]; exact i_SpeedOf x y w
      have cT : ∀ w : World, Calls Try.prog 47 #[ivV x y] w fun en w' => en = .returned (ivT (0, 0, 1)) ∧ Below w.heap.size w w' := fun w => by rw [← e2]; exact s_SpeedOf x y w
      clear e2
      rw [h2] at cE
      clear h2
      rcases Bool.eq_false_or_eq_true (inB v 0 100000) with h1 | h1
      · have hv := inB_iff.1 h1
        have g := sq100 hv
        have e1 : enOfSpeed v = (v * v, 0) := by unfold enOfSpeed; rw [if_pos h1]
        have e3 : speedR (v * v) (v * v) = (v, v, 0) := by unfold speedR; rw [if_pos (isEn_iff.2 (by omega)), root_sq hv.1, rootUp_sq hv.1]
        have cB : ∀ w : World, Calls Try.prog 46 #[ivV (v * v) (v * v)] w fun en w' => en = .returned (ivT (v, v, 0)) ∧ Below w.heap.size w w' := fun w => by rw [← e3]; exact i_SpeedOf (v * v) (v * v) w
        rw [e1]
        clear e1 e3 h1
        go_upto_region 8 with (go_at_call 46; refine (cS _).mono ?_; rintro e w' ⟨rfl, hb⟩; obtain ⟨hc0, hf0, hl0⟩ := below_box (k := wE.heap.size) hb (by first | omega | (simp; done) | (simp; omega)); replace hb := Own.join (by first | assumption | exact Own.alloc (by assumption) _ | exact Own.drew (by assumption) | exact Own.drew (Own.alloc (by assumption) _) | exact Own.alloc (Own.alloc (by assumption) _) _ | exact Own.alloc (Own.alloc (Own.alloc (by assumption) _) _) _ | exact Own.drewN (by assumption) _ | exact Own.drew (Own.start _) | exact Own.drewN (Own.start _) _ | exact Own.start _) hb)
        obtain ⟨wX, rfl⟩ : ∃ wX : World, wX = w' := ⟨_, rfl⟩
        go_upto_region 9 with (go_at_call 47; refine (cT _).mono ?_; rintro e w' ⟨rfl, hb⟩; obtain ⟨hc0, hf0, hl0⟩ := below_box (k := wE.heap.size) hb (by first | omega | (simp; done) | (simp; omega)); obtain ⟨hc1, hf1, hl1⟩ := below_box (k := wX.heap.size) hb (by first | omega | (simp; done) | (simp; omega)); replace hb := Own.join (by first | assumption | exact Own.alloc (by assumption) _ | exact Own.drew (by assumption) | exact Own.drew (Own.alloc (by assumption) _) | exact Own.alloc (Own.alloc (by assumption) _) _ | exact Own.alloc (Own.alloc (Own.alloc (by assumption) _) _) _ | exact Own.drewN (by assumption) _ | exact Own.drew (Own.start _) | exact Own.drewN (Own.start _) _ | exact Own.start _) hb)
        obtain ⟨wR, rfl⟩ : ∃ wR : World, wR = w' := ⟨_, rfl⟩
        go_wp2_with first | (go_at_call 48; refine (cE _).mono ?_; rintro e w' ⟨rfl, hb⟩; obtain ⟨hc0, hf0, hl0⟩ := below_box (k := wE.heap.size) hb (by first | omega | (simp; done) | (simp; omega)); obtain ⟨hc1, hf1, hl1⟩ := below_box (k := wX.heap.size) hb (by first | omega | (simp; done) | (simp; omega)); obtain ⟨hc2, hf2, hl2⟩ := below_box (k := wR.heap.size) hb (by first | omega | (simp; done) | (simp; omega)); replace hb := Own.join (by first | assumption | exact Own.alloc (by assumption) _ | exact Own.drew (by assumption) | exact Own.drew (Own.alloc (by assumption) _) | exact Own.alloc (Own.alloc (by assumption) _) _ | exact Own.alloc (Own.alloc (Own.alloc (by assumption) _) _) _ | exact Own.drewN (by assumption) _ | exact Own.drew (Own.start _) | exact Own.drewN (Own.start _) _ | exact Own.start _) hb) | (go_at_call 46; refine (cB _).mono ?_; rintro e w' ⟨rfl, hb⟩; obtain ⟨hc0, hf0, hl0⟩ := below_box (k := wE.heap.size) hb (by first | omega | (simp; done) | (simp; omega)); obtain ⟨hc1, hf1, hl1⟩ := below_box (k := wX.heap.size) hb (by first | omega | (simp; done) | (simp; omega)); obtain ⟨hc2, hf2, hl2⟩ := below_box (k := wR.heap.size) hb (by first | omega | (simp; done) | (simp; omega)); replace hb := Own.join (by first | assumption | exact Own.alloc (by assumption) _ | exact Own.drew (by assumption) | exact Own.drew (Own.alloc (by assumption) _) | exact Own.alloc (Own.alloc (by assumption) _) _ | exact Own.alloc (Own.alloc (Own.alloc (by assumption) _) _) _ | exact Own.drewN (by assumption) _ | exact Own.drew (Own.start _) | exact Own.drewN (Own.start _) _ | exact Own.start _) hb)
        all_goals go_ret
        all_goals exact ⟨rfl, Own.below (by first | assumption | exact Own.alloc (by assumption) _)⟩
      · have e1 : enOfSpeed v = (0, 2) := by unfold enOfSpeed; rw [if_neg (by simp [h1])]
        rw [e1]
        clear e1 h1
        go_upto_region 8 with (go_at_call 46; refine (cS _).mono ?_; rintro e w' ⟨rfl, hb⟩; obtain ⟨hc0, hf0, hl0⟩ := below_box (k := wE.heap.size) hb (by first | omega | (simp; done) | (simp; omega)); replace hb := Own.join (by first | assumption | exact Own.alloc (by assumption) _ | exact Own.drew (by assumption) | exact Own.drew (Own.alloc (by assumption) _) | exact Own.alloc (Own.alloc (by assumption) _) _ | exact Own.alloc (Own.alloc (Own.alloc (by assumption) _) _) _ | exact Own.drewN (by assumption) _ | exact Own.drew (Own.start _) | exact Own.drewN (Own.start _) _ | exact Own.start _) hb)
        obtain ⟨wX, rfl⟩ : ∃ wX : World, wX = w' := ⟨_, rfl⟩
        go_upto_region 9 with (go_at_call 47; refine (cT _).mono ?_; rintro e w' ⟨rfl, hb⟩; obtain ⟨hc0, hf0, hl0⟩ := below_box (k := wE.heap.size) hb (by first | omega | (simp; done) | (simp; omega)); obtain ⟨hc1, hf1, hl1⟩ := below_box (k := wX.heap.size) hb (by first | omega | (simp; done) | (simp; omega)); replace hb := Own.join (by first | assumption | exact Own.alloc (by assumption) _ | exact Own.drew (by assumption) | exact Own.drew (Own.alloc (by assumption) _) | exact Own.alloc (Own.alloc (by assumption) _) _ | exact Own.alloc (Own.alloc (Own.alloc (by assumption) _) _) _ | exact Own.drewN (by assumption) _ | exact Own.drew (Own.start _) | exact Own.drewN (Own.start _) _ | exact Own.start _) hb)
        obtain ⟨wR, rfl⟩ : ∃ wR : World, wR = w' := ⟨_, rfl⟩
        go_wp2_with first | (go_at_call 48; refine (cE _).mono ?_; rintro e w' ⟨rfl, hb⟩; obtain ⟨hc0, hf0, hl0⟩ := below_box (k := wE.heap.size) hb (by first | omega | (simp; done) | (simp; omega)); obtain ⟨hc1, hf1, hl1⟩ := below_box (k := wX.heap.size) hb (by first | omega | (simp; done) | (simp; omega)); obtain ⟨hc2, hf2, hl2⟩ := below_box (k := wR.heap.size) hb (by first | omega | (simp; done) | (simp; omega)); replace hb := Own.join (by first | assumption | exact Own.alloc (by assumption) _ | exact Own.drew (by assumption) | exact Own.drew (Own.alloc (by assumption) _) | exact Own.alloc (Own.alloc (by assumption) _) _ | exact Own.alloc (Own.alloc (Own.alloc (by assumption) _) _) _ | exact Own.drewN (by assumption) _ | exact Own.drew (Own.start _) | exact Own.drewN (Own.start _) _ | exact Own.start _) hb)
        all_goals go_ret
        all_goals exact ⟨rfl, Own.below (by first | assumption | exact Own.alloc (by assumption) _)⟩

theorem own : ownKnob Try.prog.godebug = none := by kernel_rfl
theorem laidOut : laidOutB Try.prog = true := by kernel_rfl
set_option maxRecDepth 100000 in
theorem lifted (os : Os) (started : os.Started) (H : Type) (enc : TypeId × Value → H) :
    ReturnsInHanded {} Try.checked os 9 .any (Rows.fnEnergiesSpec.pre6 enc Try.prog Try.f9 Rows.fnEnergiesRow.domain false) (Rows.fnEnergiesSpec.post enc Try.prog Try.f9 false true false false) := by
  refine returnsInHanded_of_change (C := Try.checked) own started (by kernel_rfl) Try.func9
    (ChangeSpec.witness6 (enc := enc) (C := Try.checked) false ⟨#[], #[.slice none 0 0], []⟩ 8 (by kernel_rfl) (by kernel_rfl) (by kernel_rfl) (by kernel_rfl)) ?_
  intro W base args ds gs before hval0 hW hcnd _
  have hval : ∀ (j : Nat) t v, Try.f9.params[j]? = some t → args[j]? = some v → Value.okWide Try.prog W .any base t v := hval0
  have hW' := hW
  obtain ⟨p, q, hA0, hV, rfl, hfz, hnd⟩ := hW
  have hA : DataW.TrodAll enc Try.prog W 0 (fun _ => true) true Try.f9.params.toList args.toList ds p := hA0
  rw [Try.params9] at hA hval
  obtain ⟨v0, vs0, d0, ds0, pp0, qq0, hargs, rfl, rfl, h0, rr0⟩ := trodAll_cons hA
  obtain ⟨rfl, rfl, rfl⟩ := trodAll_nil rr0
  obtain rfl : args = #[v0] := by cases args; simp_all
  obtain ⟨rfl, rfl⟩ := trodVars_none hV
  have k0_ := h0
  have lt0_ : ∀ x ∈ pp0, x.block < W.heap.size := by obtain ⟨m, hm⟩ := h0; exact DataW.trod_lt m _ _ _ hm
  obtain ⟨p0, len0, cap0, rfl⟩ := okWide_slice Try.underlying35 (hval 0 35 v0 rfl rfl)
  obtain ⟨z0, r0⟩ := open_row (k := .u8) Try.underlying35 Try.underlying5 (by kernel_rfl) h0
  clear hA0 hval0
  refine (walk  W p0 len0 cap0 z0 r0).mono fun e W' ⟨he, bel⟩ => ?_
  subst he
  exact ⟨_, rfl, _, _, _, [], _, [], hW', trodAll_mk1 (shut_bool Try.underlying4 _), (trodAll_cons_mk (Below.trod laidOut (by kernel_rfl) (of_decide_eq_true (by kernel_rfl)) k0_ bel lt0_) trodAll_mk0), rfl, bel.frame _, fun h => by cases h⟩

theorem over : Rows.fnEnergiesRow.holds Try.pinned (OpenSpec.ofChange Rows.fnEnergiesSpec) :=
  OpenClaim.holds_of_wide 9 Try.f9 rfl rfl rfl rfl rfl rfl rfl ⟨rfl, rfl, rfl, rfl, rfl⟩ rfl rfl rfl rfl rfl (by kernel_rfl) Try.func9 (by kernel_rfl)
    (of_decide_eq_true (by kernel_rfl)) (by unfold Func.isWrapper; first | (rw [if_pos (by decide +kernel)]; kernel_rfl) | (rw [if_neg (by decide +kernel)]; exact ⟨rfl, rfl⟩))
    (fun os started H enc _ => lifted os started H enc)

/-- the given statement -/
theorem proved : Rows.FnEnergiesSaid := over
#print axioms proved
end Go.Proofs.Ytafbmhncmbcpjaa.pFnEnergies
