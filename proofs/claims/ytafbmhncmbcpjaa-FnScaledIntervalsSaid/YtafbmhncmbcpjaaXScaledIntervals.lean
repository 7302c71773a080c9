/- The Go function laws.FnScaledIntervals returns true for every input and leaves its arguments as they were; no condition. -/
import Derived.Test.YtafbmhncmbcpjaaRows
import Derived.Test.YtafbmhncmbcpjaaBase
import Derived.Test.YtafbmhncmbcpjaaNum
import Derived.Test.YtafbmhncmbcpjaaIv
import Derived.Test.YtafbmhncmbcpjaaIv2
import Derived.Test.YtafbmhncmbcpjaaScale
import Derived.Test.YtafbmhncmbcpjaaList
import Derived.Test.YtafbmhncmbcpjaaDraw
import Derived.Test.YtafbmhncmbcpjaaDraw2
import Derived.Test.YtafbmhncmbcpjaaLawKit
import Derived.Test.YtafbmhncmbcpjaaDice
import Derived.Lib.Hide
import Derived.WalkKit
import Derived.WalkSpells
import Derived.WalkLawsBesides
import Derived.ProofKit
import Derived.OpenShut
import Derived.ShutString
import Derived.ChangeOld
import Derived.Below
import Derived.Deep.RegionHeld3
import Derived.Deep.DeepCutAuto
namespace Go.Proofs.Ytafbmhncmbcpjaa.pFnScaledIntervals
open Go.ChangeShapes Go.WideShapes Go.ChangeAt Go.RowKit
set_option maxHeartbeats 2000000
set_option linter.unusedVariables false
set_option linter.unusedSimpArgs false

theorem scale_zero {x y k : Int} (h : (scaleIv x y k).2.2 = 0) : ∃ lo hi, scaleIv x y k = (lo, hi, 0) ∧ scaleIv x y (-1) = (-y, -x, 0) ∧ (-1000000000000 ≤ x ∧ x ≤ y ∧ y ≤ 1000000000000) ∧ (-1000000000000 ≤ lo ∧ hi ≤ 1000000000000) ∧ ∀ v, x ≤ v → v ≤ y → lo ≤ v * k ∧ v * k ≤ hi := by
  unfold scaleIv at h ⊢
  by_cases h1 : isIv x y = true
  · rw [if_pos h1] at h ⊢
    have g1 := isIv_iff.1 h1
    have e1 : (if isIv x y = true then (if inB (-1) (-1000000) 1000000 = true then (if (-1 : Int) < 0 then ivRes (y * -1) (x * -1) else ivRes (x * -1) (y * -1)) else (0, 0, 2)) else (0, 0, 1)) = (-y, -x, (0 : Int)) := by
      rw [if_pos h1, if_pos (inB_iff.2 (by omega)), if_pos (by omega)]
      unfold ivRes
      rw [if_pos (by constructor <;> (rw [isVal_iff]; omega))]
      simp only [Int.mul_neg, Int.mul_one]
    by_cases h2 : inB k (-1000000) 1000000 = true
    · rw [if_pos h2] at h ⊢
      by_cases c : k < 0
      · rw [if_pos c] at h ⊢
        unfold ivRes at h ⊢
        by_cases h3 : isVal (y * k) = true ∧ isVal (x * k) = true
        · rw [if_pos h3]
          have g3 := isVal_iff.1 h3.1
          have g4 := isVal_iff.1 h3.2
          refine ⟨_, _, rfl, e1, by omega, by omega, fun v hv1 hv2 => ⟨Int.mul_le_mul_of_nonpos_right hv2 (by omega), Int.mul_le_mul_of_nonpos_right hv1 (by omega)⟩⟩
        · rw [if_neg h3] at h; cases h
      · rw [if_neg c] at h ⊢
        unfold ivRes at h ⊢
        by_cases h3 : isVal (x * k) = true ∧ isVal (y * k) = true
        · rw [if_pos h3]
          have g3 := isVal_iff.1 h3.1
          have g4 := isVal_iff.1 h3.2
          refine ⟨_, _, rfl, e1, by omega, by omega, fun v hv1 hv2 => ⟨Int.mul_le_mul_of_nonneg_right hv1 (by omega), Int.mul_le_mul_of_nonneg_right hv2 (by omega)⟩⟩
        · rw [if_neg h3] at h; cases h
    · rw [if_neg h2] at h; cases h
  · rw [if_neg h1] at h; cases h
set_option maxRecDepth 100000 in
theorem walk (w : World) (p0 : Option Addr) (len0 cap0 : Nat) (z0 : List Int) (r0 : IsRow .u8 w p0 len0 cap0 z0) :
    Calls Try.prog 7 #[.slice p0 len0 cap0] w fun e w' => e = .returned (.bool true) ∧ Below w.heap.size w w' := by
  have hin := r0.bytes8
  have hn := hin.1
  clear r0
  rcases Bool.eq_false_or_eq_true (decide (4096 < len0)) with hbig | hbig
  · go_enter Try.func7, Try.ntmps7
    go_wp2_with (go_at_call 21; refine (l_big p0 len0 cap0 _ hn).mono ?_; rintro e w' ⟨rfl, rfl⟩; rw [hbig])
    go_ret
    exact ⟨rfl, Below.refl _ _⟩
  · go_enter Try.func7, Try.ntmps7
    go_upto_region 3 with (go_at_call 21; refine (l_big p0 len0 cap0 _ hn).mono ?_; rintro e w' ⟨rfl, rfl⟩; rw [hbig])
    clear hbig
    go_cut [3, 4] (fun s3 s4 wx => ∃ (a : Nat) (x y k : Int), s3 = .pointer (some ⟨a, 0, none⟩) ∧ s4 = .int .i64 k ∧ w.heap.size ≤ a ∧ Lw w wx [(a, [x, y])])
    case first =>
      go_wp2_with (go_at_call 30; refine (s_DrawScaleInterval _ _ _ _ hin).mono ?_; rintro e w' ⟨x, y, k, rfl, hB⟩; have hL := Lw.ofBelow hB)
      go_meet
      exact ⟨_, x, y, k, rfl, rfl, hB.size, by (repeat (first | with_reducible assumption | focus ((with_reducible refine Lw.new' ?_ ?_ ?_); rotate_left; (focus rfl); (focus first | rfl | (simp; done))) | with_reducible refine Lw.alloc ?_ _ | with_reducible refine Lw.drew ?_ | with_reducible refine Lw.drewN ?_ _))⟩
    case rest =>
    obtain ⟨a, x, y, k, rfl, rfl, oa, hL⟩ := hcut
    clear hn
    obtain ⟨lo, hi, c, e1⟩ : ∃ lo hi c, scaleIv x y k = (lo, hi, c) := ⟨_, _, _, rfl⟩
    by_cases hc : c = 0
    case neg =>
      have ca : ∀ w : World, Calls Try.prog 31 #[ivV x y, .int .i64 k] w fun en w' => en = .returned (ivT (lo, hi, c)) ∧ Below w.heap.size w w' := fun w => by rw [← e1]; exact i_ScaleInterval x y k w
      have cb : ∀ w : World, Calls Try.prog 32 #[ivV x y, .int .i64 k] w fun en w' => en = .returned (ivT (lo, hi, c)) ∧ Below w.heap.size w w' := fun w => by rw [← e1]; exact s_ScaleInterval x y k w
      clear e1 hin
      have hB_a := hL.b (k := a) (l := [x, y]) (.head _)
      have c_a_0 := hB_a.cell 0 (x) rfl
      have c_a_1 := hB_a.cell 1 (y) rfl
      have l_a := hB_a.lt
      clear hB_a
      go_upto_region 4 with fail
      go_cut [5, 6] (fun s5 s6 wx => ∃ f : Nat, s5 = .pointer (some ⟨f, 0, none⟩) ∧ s6 = .int .i64 (c) ∧ a < f ∧ Lw w wx [(f, [lo, hi]), (a, [x, y])])
      case first =>
        as_aux_lemma =>
          go_wp2_with (go_at_call 31; (with_reducible refine (ca _).mono ?_); rintro e w' ⟨rfl, hbel⟩; replace hL : Lw w w' [(a, [x, y])] := Lw.below (by (repeat (first | with_reducible assumption | focus ((with_reducible refine Lw.new' ?_ ?_ ?_); rotate_left; (focus rfl); (focus first | rfl | (simp; done))) | with_reducible refine Lw.alloc ?_ _ | with_reducible refine Lw.drew ?_ | with_reducible refine Lw.drewN ?_ _))) hbel; clear hbel)
          all_goals go_meet
          all_goals exact ⟨_, rfl, rfl, (by first | omega | (simp; omega) | (have := Blk.lt (hL.b (.head _)); simp; omega)), (by (repeat (first | with_reducible assumption | focus ((with_reducible refine Lw.new' ?_ ?_ ?_); rotate_left; (focus rfl); (focus first | rfl | (simp; done))) | with_reducible refine Lw.alloc ?_ _ | with_reducible refine Lw.drew ?_ | with_reducible refine Lw.drewN ?_ _)))⟩
      case rest =>
        obtain ⟨f, rfl, rfl, o_f, hL⟩ := hcut
        clear c_a_0 c_a_1 l_a
        have hB_f := hL.b (k := f) (l := [lo, hi]) (.head _)
        have c_f_0 := hB_f.cell 0 (lo) rfl
        have c_f_1 := hB_f.cell 1 (hi) rfl
        have l_f := hB_f.lt
        clear hB_f
        have hB_a := hL.b (k := a) (l := [x, y]) (.tail _ (.head _))
        have c_a_0 := hB_a.cell 0 (x) rfl
        have c_a_1 := hB_a.cell 1 (y) rfl
        have l_a := hB_a.lt
        clear hB_a
        go_upto_region 5 with fail
        go_cut [7, 8] (fun s7 s8 wx => ∃ g : Nat, s7 = .pointer (some ⟨g, 0, none⟩) ∧ s8 = .int .i64 (c) ∧ f < g ∧ Lw w wx [(g, [lo, hi]), (f, [lo, hi]), (a, [x, y])])
        case first =>
          as_aux_lemma =>
            go_wp2_with (go_at_call 32; (with_reducible refine (cb _).mono ?_); rintro e w' ⟨rfl, hbel⟩; replace hL : Lw w w' [(f, [lo, hi]), (a, [x, y])] := Lw.below (by (repeat (first | with_reducible assumption | focus ((with_reducible refine Lw.new' ?_ ?_ ?_); rotate_left; (focus rfl); (focus first | rfl | (simp; done))) | with_reducible refine Lw.alloc ?_ _ | with_reducible refine Lw.drew ?_ | with_reducible refine Lw.drewN ?_ _))) hbel; clear hbel)
            all_goals go_meet
            all_goals exact ⟨_, rfl, rfl, (by first | omega | (simp; omega) | (have := Blk.lt (hL.b (.head _)); simp; omega)), (by (repeat (first | with_reducible assumption | focus ((with_reducible refine Lw.new' ?_ ?_ ?_); rotate_left; (focus rfl); (focus first | rfl | (simp; done))) | with_reducible refine Lw.alloc ?_ _ | with_reducible refine Lw.drew ?_ | with_reducible refine Lw.drewN ?_ _)))⟩
        case rest =>
          obtain ⟨g, rfl, rfl, o_g, hL⟩ := hcut
          clear c_f_0 c_f_1 l_f c_a_0 c_a_1 l_a
          have hB_g := hL.b (k := g) (l := [lo, hi]) (.head _)
          have c_g_0 := hB_g.cell 0 (lo) rfl
          have c_g_1 := hB_g.cell 1 (hi) rfl
          have l_g := hB_g.lt
          clear hB_g
          have hB_f := hL.b (k := f) (l := [lo, hi]) (.tail _ (.head _))
          have c_f_0 := hB_f.cell 0 (lo) rfl
          have c_f_1 := hB_f.cell 1 (hi) rfl
          have l_f := hB_f.lt
          clear hB_f
          have hB_a := hL.b (k := a) (l := [x, y]) (.tail _ (.tail _ (.head _)))
          have c_a_0 := hB_a.cell 0 (x) rfl
          have c_a_1 := hB_a.cell 1 (y) rfl
          have l_a := hB_a.lt
          clear hB_a
          go_wp2
          go_ret
          exact ⟨rfl, hL.own.below⟩
    case pos =>
      subst hc
      obtain ⟨lo', hi', e2, e3, ⟨b1, b2, b3⟩, ⟨b4, b5⟩, hv⟩ := scale_zero (x := x) (y := y) (k := k) (by rw [e1])
      rw [e1] at e2
      simp only [Prod.mk.injEq, and_true] at e2
      obtain ⟨rfl, rfl⟩ := e2
      have ca : ∀ w : World, Calls Try.prog 31 #[ivV x y, .int .i64 k] w fun en w' => en = .returned (ivT (lo, hi, 0)) ∧ Below w.heap.size w w' := fun w => by rw [← e1]; exact i_ScaleInterval x y k w
      have cb : ∀ w : World, Calls Try.prog 32 #[ivV x y, .int .i64 k] w fun en w' => en = .returned (ivT (lo, hi, 0)) ∧ Below w.heap.size w w' := fun w => by rw [← e1]; exact s_ScaleInterval x y k w
      have cn : ∀ w : World, Calls Try.prog 31 #[ivV x y, .int .i64 (-1)] w fun en w' => en = .returned (ivT (-y, -x, 0)) ∧ Below w.heap.size w w' := fun w => by rw [← e3]; exact i_ScaleInterval x y (-1) w
      have HV := Lib.hid hv
      clear e1 e3 hv
      have hB_a := hL.b (k := a) (l := [x, y]) (.head _)
      have c_a_0 := hB_a.cell 0 (x) rfl
      have c_a_1 := hB_a.cell 1 (y) rfl
      have l_a := hB_a.lt
      clear hB_a
      go_upto_region 4 with fail
      go_cut [5, 6] (fun s5 s6 wx => ∃ f : Nat, s5 = .pointer (some ⟨f, 0, none⟩) ∧ s6 = .int .i64 (0) ∧ a < f ∧ Lw w wx [(f, [lo, hi]), (a, [x, y])])
      case first =>
        as_aux_lemma =>
          go_wp2_with (go_at_call 31; (with_reducible refine (ca _).mono ?_); rintro e w' ⟨rfl, hbel⟩; replace hL : Lw w w' [(a, [x, y])] := Lw.below (by (repeat (first | with_reducible assumption | focus ((with_reducible refine Lw.new' ?_ ?_ ?_); rotate_left; (focus rfl); (focus first | rfl | (simp; done))) | with_reducible refine Lw.alloc ?_ _ | with_reducible refine Lw.drew ?_ | with_reducible refine Lw.drewN ?_ _))) hbel; clear hbel)
          all_goals go_meet
          all_goals exact ⟨_, rfl, rfl, (by first | omega | (simp; omega) | (have := Blk.lt (hL.b (.head _)); simp; omega)), (by (repeat (first | with_reducible assumption | focus ((with_reducible refine Lw.new' ?_ ?_ ?_); rotate_left; (focus rfl); (focus first | rfl | (simp; done))) | with_reducible refine Lw.alloc ?_ _ | with_reducible refine Lw.drew ?_ | with_reducible refine Lw.drewN ?_ _)))⟩
      case rest =>
        obtain ⟨f, rfl, rfl, o_f, hL⟩ := hcut
        clear c_a_0 c_a_1 l_a
        have hB_f := hL.b (k := f) (l := [lo, hi]) (.head _)
        have c_f_0 := hB_f.cell 0 (lo) rfl
        have c_f_1 := hB_f.cell 1 (hi) rfl
        have l_f := hB_f.lt
        clear hB_f
        have hB_a := hL.b (k := a) (l := [x, y]) (.tail _ (.head _))
        have c_a_0 := hB_a.cell 0 (x) rfl
        have c_a_1 := hB_a.cell 1 (y) rfl
        have l_a := hB_a.lt
        clear hB_a
        go_upto_region 5 with fail
        go_cut [7, 8] (fun s7 s8 wx => ∃ g : Nat, s7 = .pointer (some ⟨g, 0, none⟩) ∧ s8 = .int .i64 (0) ∧ f < g ∧ Lw w wx [(g, [lo, hi]), (f, [lo, hi]), (a, [x, y])])
        case first =>
          as_aux_lemma =>
            go_wp2_with (go_at_call 32; (with_reducible refine (cb _).mono ?_); rintro e w' ⟨rfl, hbel⟩; replace hL : Lw w w' [(f, [lo, hi]), (a, [x, y])] := Lw.below (by (repeat (first | with_reducible assumption | focus ((with_reducible refine Lw.new' ?_ ?_ ?_); rotate_left; (focus rfl); (focus first | rfl | (simp; done))) | with_reducible refine Lw.alloc ?_ _ | with_reducible refine Lw.drew ?_ | with_reducible refine Lw.drewN ?_ _))) hbel; clear hbel)
            all_goals go_meet
            all_goals exact ⟨_, rfl, rfl, (by first | omega | (simp; omega) | (have := Blk.lt (hL.b (.head _)); simp; omega)), (by (repeat (first | with_reducible assumption | focus ((with_reducible refine Lw.new' ?_ ?_ ?_); rotate_left; (focus rfl); (focus first | rfl | (simp; done))) | with_reducible refine Lw.alloc ?_ _ | with_reducible refine Lw.drew ?_ | with_reducible refine Lw.drewN ?_ _)))⟩
        case rest =>
          obtain ⟨g, rfl, rfl, o_g, hL⟩ := hcut
          clear c_f_0 c_f_1 l_f c_a_0 c_a_1 l_a
          have hB_g := hL.b (k := g) (l := [lo, hi]) (.head _)
          have c_g_0 := hB_g.cell 0 (lo) rfl
          have c_g_1 := hB_g.cell 1 (hi) rfl
          have l_g := hB_g.lt
          clear hB_g
          have hB_f := hL.b (k := f) (l := [lo, hi]) (.tail _ (.head _))
          have c_f_0 := hB_f.cell 0 (lo) rfl
          have c_f_1 := hB_f.cell 1 (hi) rfl
          have l_f := hB_f.lt
          clear hB_f
          have hB_a := hL.b (k := a) (l := [x, y]) (.tail _ (.tail _ (.head _)))
          have c_a_0 := hB_a.cell 0 (x) rfl
          have c_a_1 := hB_a.cell 1 (y) rfl
          have l_a := hB_a.lt
          clear hB_a
          go_upto_region 10 with fail
          have q1 : IntKind.i64.wrap (y - x) = y - x := IntWalk.i64_in _ (by omega)
          have q2 : IntKind.i64.wrap (y - x + 1) = y - x + 1 := IntWalk.i64_in _ (by omega)
          have hpos : 0 < y - x + 1 := by omega
          have zl := l_g
          have zw := hL.own.le
          go_cut [9] (fun s9 wx => ∃ v : Int, s9 = .int .i64 v ∧ x ≤ v ∧ v ≤ y ∧ Lw w wx [(g, [lo, hi]), (f, [lo, hi]), (a, [x, y])])
          case first =>
            go_region_held3 (fun W => W.cell? ⟨g, 0, none⟩ = some (.int .i64 (lo)) ∧ W.cell? ⟨g, 1, none⟩ = some (.int .i64 (hi)) ∧ W.cell? ⟨f, 0, none⟩ = some (.int .i64 (lo)) ∧ W.cell? ⟨f, 1, none⟩ = some (.int .i64 (hi)) ∧ W.cell? ⟨a, 0, none⟩ = some (.int .i64 (x)) ∧ W.cell? ⟨a, 1, none⟩ = some (.int .i64 (y))) (first | (go_simp; done) | go_keep) (first | (go_at_call 33; refine (l_roll' p0 len0 cap0 _ _ (hin.keep (Lw.own (w := w) (ks := [(g, [lo, hi]), (f, [lo, hi]), (a, [x, y])]) (by (repeat (first | with_reducible assumption | focus ((with_reducible refine Lw.new' ?_ ?_ ?_); rotate_left; (focus rfl); (focus first | rfl | (simp; done))) | with_reducible refine Lw.alloc ?_ _ | with_reducible refine Lw.drew ?_ | with_reducible refine Lw.drewN ?_ _)))).below)).mono ?_; rintro e w' ⟨d, rfl, hd1, hDi, hbel⟩; (try simp only [World.size_drew] at hd1); replace hL : Lw w w' [(g, [lo, hi]), (f, [lo, hi]), (a, [x, y])] := Lw.below (by (repeat (first | with_reducible assumption | focus ((with_reducible refine Lw.new' ?_ ?_ ?_); rotate_left; (focus rfl); (focus first | rfl | (simp; done))) | with_reducible refine Lw.alloc ?_ _ | with_reducible refine Lw.drew ?_ | with_reducible refine Lw.drewN ?_ _))) hbel; clear hbel; (try clear c_g_0 c_g_1 l_g c_f_0 c_f_1 l_f c_a_0 c_a_1 l_a); have hB_g := hL.b (k := g) (l := [lo, hi]) (.head _); have c_g_0 := hB_g.cell 0 (lo) rfl; have c_g_1 := hB_g.cell 1 (hi) rfl; have l_g := hB_g.lt; clear hB_g; have hB_f := hL.b (k := f) (l := [lo, hi]) (.tail _ (.head _)); have c_f_0 := hB_f.cell 0 (lo) rfl; have c_f_1 := hB_f.cell 1 (hi) rfl; have l_f := hB_f.lt; clear hB_f; have hB_a := hL.b (k := a) (l := [x, y]) (.tail _ (.tail _ (.head _))); have c_a_0 := hB_a.cell 0 (x) rfl; have c_a_1 := hB_a.cell 1 (y) rfl; have l_a := hB_a.lt; clear hB_a) | (go_at_call 34; refine (l_below _ _ p0 len0 cap0 _ hDi hpos).mono ?_; rintro e w' ⟨v, rfl, hv0, hv1, hDj, hO⟩; replace hL : Lw w w' [(g, [lo, hi]), (f, [lo, hi]), (a, [x, y])] := Lw.only hL hO (by omega) (by simp; omega); clear hO; have hB_g := hL.b (k := g) (l := [lo, hi]) (.head _); have c_g_0 := hB_g.cell 0 (lo) rfl; have c_g_1 := hB_g.cell 1 (hi) rfl; have l_g := hB_g.lt; clear hB_g; have hB_f := hL.b (k := f) (l := [lo, hi]) (.tail _ (.head _)); have c_f_0 := hB_f.cell 0 (lo) rfl; have c_f_1 := hB_f.cell 1 (hi) rfl; have l_f := hB_f.lt; clear hB_f; have hB_a := hL.b (k := a) (l := [x, y]) (.tail _ (.tail _ (.head _))); have c_a_0 := hB_a.cell 0 (x) rfl; have c_a_1 := hB_a.cell 1 (y) rfl; have l_a := hB_a.lt; clear hB_a))
            all_goals (go_wp2; go_meet)
            refine ⟨x + v, ?_, by omega, by omega, by (repeat (first | with_reducible assumption | focus ((with_reducible refine Lw.new' ?_ ?_ ?_); rotate_left; (focus rfl); (focus first | rfl | (simp; done))) | with_reducible refine Lw.alloc ?_ _ | with_reducible refine Lw.drew ?_ | with_reducible refine Lw.drewN ?_ _))⟩
            rw [IntWalk.i64_in _ (by omega)]
          case rest =>
          obtain ⟨v, rfl, v1, v2, hL⟩ := hcut
          clear q1 q2 hpos zl zw
          obtain ⟨m1, m2⟩ := HV.out v v1 v2
          have m3 : -1000000000000 ≤ v * k := by omega
          have m4 : v * k ≤ 1000000000000 := by omega
          clear c_g_0 c_g_1 l_g c_f_0 c_f_1 l_f c_a_0 c_a_1 l_a
          have hB_g := hL.b (k := g) (l := [lo, hi]) (.head _)
          have c_g_0 := hB_g.cell 0 (lo) rfl
          have c_g_1 := hB_g.cell 1 (hi) rfl
          have l_g := hB_g.lt
          clear hB_g
          have hB_f := hL.b (k := f) (l := [lo, hi]) (.tail _ (.head _))
          have c_f_0 := hB_f.cell 0 (lo) rfl
          have c_f_1 := hB_f.cell 1 (hi) rfl
          have l_f := hB_f.lt
          clear hB_f
          have hB_a := hL.b (k := a) (l := [x, y]) (.tail _ (.tail _ (.head _)))
          have c_a_0 := hB_a.cell 0 (x) rfl
          have c_a_1 := hB_a.cell 1 (y) rfl
          have l_a := hB_a.lt
          clear hB_a
          go_upto_region 11 with fail
          go_cut [10, 11] (fun s10 s11 wx => ∃ t : Nat, s10 = .pointer (some ⟨t, 0, none⟩) ∧ s11 = .int .i64 (0) ∧ g < t ∧ Lw w wx [(t, [-y, -x]), (g, [lo, hi]), (f, [lo, hi]), (a, [x, y])])
          case first =>
            as_aux_lemma =>
              go_wp2_with (go_at_call 31; (with_reducible refine (cn _).mono ?_); rintro e w' ⟨rfl, hbel⟩; replace hL : Lw w w' [(g, [lo, hi]), (f, [lo, hi]), (a, [x, y])] := Lw.below (by (repeat (first | with_reducible assumption | focus ((with_reducible refine Lw.new' ?_ ?_ ?_); rotate_left; (focus rfl); (focus first | rfl | (simp; done))) | with_reducible refine Lw.alloc ?_ _ | with_reducible refine Lw.drew ?_ | with_reducible refine Lw.drewN ?_ _))) hbel; clear hbel)
              all_goals go_meet
              all_goals exact ⟨_, rfl, rfl, (by first | omega | (simp; omega) | (have := Blk.lt (hL.b (.head _)); simp; omega)), (by (repeat (first | with_reducible assumption | focus ((with_reducible refine Lw.new' ?_ ?_ ?_); rotate_left; (focus rfl); (focus first | rfl | (simp; done))) | with_reducible refine Lw.alloc ?_ _ | with_reducible refine Lw.drew ?_ | with_reducible refine Lw.drewN ?_ _)))⟩
          case rest =>
            obtain ⟨t, rfl, rfl, o_t, hL⟩ := hcut
            clear c_g_0 c_g_1 l_g c_f_0 c_f_1 l_f c_a_0 c_a_1 l_a
            have hB_t := hL.b (k := t) (l := [-y, -x]) (.head _)
            have c_t_0 := hB_t.cell 0 (-y) rfl
            have c_t_1 := hB_t.cell 1 (-x) rfl
            have l_t := hB_t.lt
            clear hB_t
            have hB_g := hL.b (k := g) (l := [lo, hi]) (.tail _ (.head _))
            have c_g_0 := hB_g.cell 0 (lo) rfl
            have c_g_1 := hB_g.cell 1 (hi) rfl
            have l_g := hB_g.lt
            clear hB_g
            have hB_f := hL.b (k := f) (l := [lo, hi]) (.tail _ (.tail _ (.head _)))
            have c_f_0 := hB_f.cell 0 (lo) rfl
            have c_f_1 := hB_f.cell 1 (hi) rfl
            have l_f := hB_f.lt
            clear hB_f
            have hB_a := hL.b (k := a) (l := [x, y]) (.tail _ (.tail _ (.tail _ (.head _))))
            have c_a_0 := hB_a.cell 0 (x) rfl
            have c_a_1 := hB_a.cell 1 (y) rfl
            have l_a := hB_a.lt
            clear hB_a
            go_wp2
            go_ret
            exact ⟨rfl, hL.own.below⟩

theorem own : ownKnob Try.prog.godebug = none := by kernel_rfl
theorem laidOut : laidOutB Try.prog = true := by kernel_rfl
set_option maxRecDepth 100000 in
theorem lifted (os : Os) (started : os.Started) (H : Type) (enc : TypeId × Value → H) :
    ReturnsInHanded {} Try.checked os 7 .any (Rows.fnScaledIntervalsSpec.pre6 enc Try.prog Try.f7 Rows.fnScaledIntervalsRow.domain false) (Rows.fnScaledIntervalsSpec.post enc Try.prog Try.f7 false true false false) := by
  refine returnsInHanded_of_change (C := Try.checked) own started (by kernel_rfl) Try.func7
    (ChangeSpec.witness6 (enc := enc) (C := Try.checked) false ⟨#[], #[.slice none 0 0], []⟩ 8 (by kernel_rfl) (by kernel_rfl) (by kernel_rfl) (by kernel_rfl)) ?_
  intro W base args ds gs before hval0 hW hcnd _
  have hval : ∀ (j : Nat) t v, Try.f7.params[j]? = some t → args[j]? = some v → Value.okWide Try.prog W .any base t v := hval0
  have hW' := hW
  obtain ⟨p, q, hA0, hV, rfl, hfz, hnd⟩ := hW
  have hA : DataW.TrodAll enc Try.prog W 0 (fun _ => true) true Try.f7.params.toList args.toList ds p := hA0
  rw [Try.params7] at hA hval
  obtain ⟨v0, vs0, d0, ds0, pp0, qq0, hargs, rfl, rfl, h0, rr0⟩ := trodAll_cons hA
  obtain ⟨rfl, rfl, rfl⟩ := trodAll_nil rr0
  obtain rfl : args = #[v0] := by cases args; simp_all
  obtain ⟨rfl, rfl⟩ := trodVars_none hV
  have k0_ := h0
  have lt0_ : ∀ x ∈ pp0, x.block < W.heap.size := by obtain ⟨m, hm⟩ := h0; exact DataW.trod_lt m _ _ _ hm
  obtain ⟨p0, len0, cap0, rfl⟩ := okWide_slice Try.underlying35 (hval 0 35 v0 rfl rfl)
  obtain ⟨z0, r0⟩ := open_row (k := .u8) Try.underlying35 Try.underlying5 (by kernel_rfl) h0
  clear hA0 hval0
  refine (walk  W p0 len0 cap0 z0 r0).mono fun e W' ⟨he, bel⟩ => ?_
  subst he
  exact ⟨_, rfl, _, _, _, [], _, [], hW', trodAll_mk1 (shut_bool Try.underlying4 _), (trodAll_cons_mk (Below.trod laidOut (by kernel_rfl) (of_decide_eq_true (by kernel_rfl)) k0_ bel lt0_) trodAll_mk0), rfl, bel.frame _, fun h => by cases h⟩

theorem over : Rows.fnScaledIntervalsRow.holds Try.pinned (OpenSpec.ofChange Rows.fnScaledIntervalsSpec) :=
  OpenClaim.holds_of_wide 7 Try.f7 rfl rfl rfl rfl rfl rfl rfl ⟨rfl, rfl, rfl, rfl, rfl⟩ rfl rfl rfl rfl rfl (by kernel_rfl) Try.func7 (by kernel_rfl)
    (of_decide_eq_true (by kernel_rfl)) (by unfold Func.isWrapper; first | (rw [if_pos (by decide +kernel)]; kernel_rfl) | (rw [if_neg (by decide +kernel)]; exact ⟨rfl, rfl⟩))
    (fun os started H enc _ => lifted os started H enc)

/-- the given statement -/
theorem proved : Rows.FnScaledIntervalsSaid := over
#print axioms proved
end Go.Proofs.Ytafbmhncmbcpjaa.pFnScaledIntervals
