/- The Go function laws.FnIntervalArithmetic returns true for every input and leaves its arguments as they were; no condition. -/
import Derived.Test.YtfhliikfnhggpaaRows
import Derived.Test.YtfhliikfnhggpaaBase
import Derived.Test.YtfhliikfnhggpaaNum
import Derived.Test.YtfhliikfnhggpaaIv
import Derived.Test.YtfhliikfnhggpaaIv2
import Derived.Test.YtfhliikfnhggpaaList
import Derived.Test.YtfhliikfnhggpaaDraw
import Derived.Test.YtfhliikfnhggpaaDraw2
import Derived.Test.YtfhliikfnhggpaaLawKit
import Derived.Test.YtfhliikfnhggpaaDice
import Derived.Lib.Hide
import Derived.IntWalk
import Derived.WalkKit
import Derived.WalkSpells
import Derived.WalkLawsBesides
import Derived.ProofKit
import Derived.OpenShut
import Derived.ShutString
import Derived.ChangeOld
import Derived.Below
import Derived.Deep.RegionHeld3
import Derived.Deep.DeepCutAuto
namespace Go.Proofs.Ytfhliikfnhggpaa.pFnIntervalArithmetic
open Go.ChangeShapes Go.WideShapes Go.ChangeAt Go.RowKit
set_option maxHeartbeats 2000000
set_option linter.unusedVariables false
set_option linter.unusedSimpArgs false

theorem ivRes_cases (lo hi : Int) : ∃ c, (ivRes lo hi = (0, 0, c) ∧ c ≠ 0) ∨ (ivRes lo hi = (lo, hi, c) ∧ c = 0) := by
  by_cases h : isVal lo = true ∧ isVal hi = true
  · exact ⟨0, .inr ⟨by unfold ivRes; rw [if_pos h], rfl⟩⟩
  · exact ⟨2, .inl ⟨by unfold ivRes; rw [if_neg h], by omega⟩⟩
theorem add_law {x y z u s1 s2 c : Int} (h1 : isIv x y = true) (h2 : isIv z u = true) (e : addIv x y z u = (s1, s2, c)) (hc : c = 0) : s1 = x + z ∧ s2 = y + u := by
  unfold addIv at e
  rw [if_pos ⟨h1, h2⟩] at e
  obtain ⟨k, h | h⟩ := ivRes_cases (x + z) (y + u)
  · rw [h.1] at e; simp only [Prod.mk.injEq] at e; omega
  · rw [h.1] at e; simp only [Prod.mk.injEq] at e; omega
theorem sub_law {x y z u s1 s2 c : Int} (h1 : isIv x y = true) (h2 : isIv z u = true) (e : subIv x y z u = (s1, s2, c)) (hc : c = 0) : s1 = x - u ∧ s2 = y - z := by
  unfold subIv at e
  rw [if_pos ⟨h1, h2⟩] at e
  obtain ⟨k, h | h⟩ := ivRes_cases (x - u) (y - z)
  · rw [h.1] at e; simp only [Prod.mk.injEq] at e; omega
  · rw [h.1] at e; simp only [Prod.mk.injEq] at e; omega
theorem back_law {x y z u lo hi c : Int} (h1 : isIv x y = true) (h2 : isIv z u = true) (e : subIv (x + z) (y + u) z u = (lo, hi, c)) (hc : c = 0) : withinIv x y lo hi = true := by
  have g1 := isIv_iff.1 h1
  have g2 := isIv_iff.1 h2
  by_cases c1 : isIv (x + z) (y + u) = true
  · have h := sub_law c1 h2 e hc
    unfold subIv at e
    rw [if_pos ⟨c1, h2⟩] at e
    unfold ivRes at e
    by_cases c2 : isVal (x + z - u) = true ∧ isVal (y + u - z) = true
    · have g3 := isVal_iff.1 c2.1
      have g4 := isVal_iff.1 c2.2
      have h3 : isIv lo hi = true := isIv_iff.2 (by omega)
      unfold withinIv
      simp only [h1, h3, Bool.true_and, Bool.and_eq_true, decide_eq_true_eq]
      omega
    · rw [if_neg c2] at e; simp only [Prod.mk.injEq] at e; omega
  · unfold subIv at e
    rw [if_neg (fun h => c1 h.1)] at e; simp only [Prod.mk.injEq] at e; omega
theorem add_no {x y z u s1 s2 c : Int} (h : ¬ (isIv x y = true ∧ isIv z u = true)) (e : addIv x y z u = (s1, s2, c)) : c = 1 := by
  unfold addIv at e
  rw [if_neg h] at e
  simp only [Prod.mk.injEq] at e
  omega
set_option maxRecDepth 100000 in set_option maxHeartbeats 8000000 in
theorem walk (w : World) (p0 : Option Addr) (len0 cap0 : Nat) (z0 : List Int) (r0 : IsRow .u8 w p0 len0 cap0 z0) :
    Calls Try.prog 3 #[.slice p0 len0 cap0] w fun e w' => e = .returned (.bool true) ∧ Below w.heap.size w w' := by
  have hin := r0.bytes8
  have hn := hin.1
  clear r0
  rcases Bool.eq_false_or_eq_true (decide (4096 < len0)) with hbig | hbig
  · go_enter Try.func3, Try.ntmps3
    go_wp2_with (go_at_call 5; refine (l_big p0 len0 cap0 _ hn).mono ?_; rintro e w' ⟨rfl, rfl⟩; rw [hbig])
    go_ret
    exact ⟨rfl, Below.refl _ _⟩
  · go_enter Try.func3, Try.ntmps3
    go_wp2_with (go_at_call 5; refine (l_big p0 len0 cap0 _ hn).mono ?_; rintro e w' ⟨rfl, rfl⟩; rw [hbig])
    clear hbig
    refine (s_DrawAddIntervals _ _ _ _ hin).mono ?_
    rintro e w1 ⟨x, y, z, u, rfl, hb⟩
    obtain ⟨s1, s2, c, e1⟩ : ∃ s1 s2 c, addIv x y z u = (s1, s2, c) := ⟨_, _, _, rfl⟩
    obtain ⟨d1, d2, d, e2⟩ : ∃ d1 d2 d, subIv x y z u = (d1, d2, d) := ⟨_, _, _, rfl⟩
    have CA : Hid (∀ w : World, Calls Try.prog 7 #[ivV x y, ivV z u] w fun en w' => en = .returned (ivT (s1, s2, c)) ∧ Below w.heap.size w w') := fun w => by rw [← e1]; exact i_AddIntervals x y z u w
    have CB : Hid (∀ w : World, Calls Try.prog 8 #[ivV x y, ivV z u] w fun en w' => en = .returned (ivT (s1, s2, c)) ∧ Below w.heap.size w w') := fun w => by rw [← e1]; exact s_AddIntervals x y z u w
    have CC : Hid (∀ w : World, Calls Try.prog 9 #[ivV x y, ivV z u] w fun en w' => en = .returned (ivT (d1, d2, d)) ∧ Below w.heap.size w w') := fun w => by rw [← e2]; exact i_SubtractIntervals x y z u w
    have CD : Hid (∀ w : World, Calls Try.prog 10 #[ivV x y, ivV z u] w fun en w' => en = .returned (ivT (d1, d2, d)) ∧ Below w.heap.size w w') := fun w => by rw [← e2]; exact s_SubtractIntervals x y z u w
    have E := Lib.hid (And.intro e1 e2)
    have HIN := Lib.hid hin
    have hL : Lw w ((w1.alloc (Obj.cells #[.int .i64 x, .int .i64 y] 25)).alloc (Obj.cells #[.int .i64 z, .int .i64 u] 25)) [(w1.heap.size + 1, [z, u]), (w1.heap.size, [x, y])] :=
      Lw.new' (Lw.new' (Lw.ofBelow hb) (l := [x, y]) (vs := [.int .i64 x, .int .i64 y]) rfl rfl) (l := [z, u]) (vs := [.int .i64 z, .int .i64 u]) rfl (by simp)
    clear hb e1 e2 hin hn
    go_wp2_with fail
    refine (CA.out _).mono ?_
    rintro e w2 ⟨rfl, hb⟩
    replace hL := Lw.new' (hL.below hb) (l := [s1, s2]) (vs := [.int .i64 s1, .int .i64 s2]) (t := 25) rfl rfl
    clear hb
    (try clear c_a0 c_a1 l_a c_b0 c_b1 l_b)
    have hB := hL.b (k := w1.heap.size) (l := [x, y]) (by simp)
    have c_a0 := hB.cell 0 x rfl
    have c_a1 := hB.cell 1 y rfl
    have l_a := hB.lt
    clear hB
    have hB := hL.b (k := w1.heap.size + 1) (l := [z, u]) (by simp)
    have c_b0 := hB.cell 0 z rfl
    have c_b1 := hB.cell 1 u rfl
    have l_b := hB.lt
    clear hB
    go_wp2_with fail
    refine (CB.out _).mono ?_
    rintro e w3 ⟨rfl, hb⟩
    replace hL := Lw.new' (hL.below hb) (l := [s1, s2]) (vs := [.int .i64 s1, .int .i64 s2]) (t := 25) rfl rfl
    clear hb
    (try clear c_a0 c_a1 l_a c_b0 c_b1 l_b)
    have hB := hL.b (k := w1.heap.size) (l := [x, y]) (by simp)
    have c_a0 := hB.cell 0 x rfl
    have c_a1 := hB.cell 1 y rfl
    have l_a := hB.lt
    clear hB
    have hB := hL.b (k := w1.heap.size + 1) (l := [z, u]) (by simp)
    have c_b0 := hB.cell 0 z rfl
    have c_b1 := hB.cell 1 u rfl
    have l_b := hB.lt
    clear hB
    go_wp2_with fail
    refine (CC.out _).mono ?_
    rintro e w4 ⟨rfl, hb⟩
    replace hL := Lw.new' (hL.below hb) (l := [d1, d2]) (vs := [.int .i64 d1, .int .i64 d2]) (t := 25) rfl rfl
    clear hb
    (try clear c_a0 c_a1 l_a c_b0 c_b1 l_b)
    have hB := hL.b (k := w1.heap.size) (l := [x, y]) (by simp)
    have c_a0 := hB.cell 0 x rfl
    have c_a1 := hB.cell 1 y rfl
    have l_a := hB.lt
    clear hB
    have hB := hL.b (k := w1.heap.size + 1) (l := [z, u]) (by simp)
    have c_b0 := hB.cell 0 z rfl
    have c_b1 := hB.cell 1 u rfl
    have l_b := hB.lt
    clear hB
    go_wp2_with fail
    refine (CD.out _).mono ?_
    rintro e w5 ⟨rfl, hb⟩
    replace hL := Lw.new' (hL.below hb) (l := [d1, d2]) (vs := [.int .i64 d1, .int .i64 d2]) (t := 25) rfl rfl
    clear hb
    clear c_a0 c_a1 l_a c_b0 c_b1 l_b
    have hB := hL.b (k := w2.heap.size) (l := [s1, s2]) (by simp)
    have c_f0 := hB.cell 0 s1 rfl
    have c_f1 := hB.cell 1 s2 rfl
    have l_f := hB.lt
    clear hB
    have hB := hL.b (k := w3.heap.size) (l := [s1, s2]) (by simp)
    have c_g0 := hB.cell 0 s1 rfl
    have c_g1 := hB.cell 1 s2 rfl
    have l_g := hB.lt
    clear hB
    have hB := hL.b (k := w4.heap.size) (l := [d1, d2]) (by simp)
    have c_h0 := hB.cell 0 d1 rfl
    have c_h1 := hB.cell 1 d2 rfl
    have l_h := hB.lt
    clear hB
    have hB := hL.b (k := w5.heap.size) (l := [d1, d2]) (by simp)
    have c_j0 := hB.cell 0 d1 rfl
    have c_j1 := hB.cell 1 d2 rfl
    have l_j := hB.lt
    clear hB
    have hB := hL.b (k := w1.heap.size) (l := [x, y]) (by simp)
    have c_a0 := hB.cell 0 x rfl
    have c_a1 := hB.cell 1 y rfl
    have l_a := hB.lt
    clear hB
    have hB := hL.b (k := w1.heap.size + 1) (l := [z, u]) (by simp)
    have c_b0 := hB.cell 0 z rfl
    have c_b1 := hB.cell 1 u rfl
    have l_b := hB.lt
    clear hB
    by_cases hv : isIv x y = true ∧ isIv z u = true
    · obtain ⟨h1, h2⟩ := hv
      have C1 : Hid (∀ w : World, Calls Try.prog 11 #[ivV x y] w fun en w' => en = .returned (.bool true) ∧ Below w.heap.size w w') := fun w => by rw [← h1]; exact i_IsInterval x y w
      have C2 : Hid (∀ w : World, Calls Try.prog 11 #[ivV z u] w fun en w' => en = .returned (.bool true) ∧ Below w.heap.size w w') := fun w => by rw [← h2]; exact i_IsInterval z u w
      have g1 := isIv_iff.1 h1
      have g2 := isIv_iff.1 h2
      have H := Lib.hid (And.intro h1 h2)
      clear h1 h2
      go_wp2_with fail
      refine (C1.out _).mono ?_
      rintro e w6 ⟨rfl, hb⟩
      replace hL := hL.below hb
      clear hb c_a0 c_a1 l_a c_b0 c_b1 l_b c_f0 c_f1 l_f c_g0 c_g1 l_g c_h0 c_h1 l_h c_j0 c_j1 l_j
      have hB := hL.b (k := w1.heap.size + 1) (l := [z, u]) (by simp)
      have c_b0 := hB.cell 0 z rfl
      have c_b1 := hB.cell 1 u rfl
      have l_b := hB.lt
      clear hB
      go_wp2_with fail
      refine (C2.out _).mono ?_
      rintro e w7 ⟨rfl, hb⟩
      replace hL := hL.below hb
      clear hb c_b0 c_b1 l_b
      go_wp2_with fail
      refine (l_roll' _ _ _ _ _ (HIN.out.keep hL.own.below)).mono ?_
      rintro e w8 ⟨dd, rfl, hd, hDi, hb1⟩
      have hLr := hL
      replace hL := hL.below hb1
      have hB := hL.b (k := w1.heap.size) (l := [x, y]) (by simp)
      have c_a0 := hB.cell 0 x rfl
      have c_a1 := hB.cell 1 y rfl
      have l_a := hB.lt
      clear hB
      have hB := hL.b (k := w1.heap.size + 1) (l := [z, u]) (by simp)
      have c_b0 := hB.cell 0 z rfl
      have c_b1 := hB.cell 1 u rfl
      have l_b := hB.lt
      clear hB
      have hOO := Only.refl dd w8
      have hpos : 0 < y - x + 1 := by omega
      have hpos2 : 0 < u - z + 1 := by omega
      have q1 : IntKind.i64.wrap (y - x) = y - x := IntWalk.i64_in _ (by omega)
      have q2 : IntKind.i64.wrap (y - x + 1) = y - x + 1 := IntWalk.i64_in _ (by omega)
      have q3 : IntKind.i64.wrap (u - z) = u - z := IntWalk.i64_in _ (by omega)
      have q4 : IntKind.i64.wrap (u - z + 1) = u - z + 1 := IntWalk.i64_in _ (by omega)
      clear hL C1 C2 CA CB CC CD
      go_upto_region 13 with fail
      go_region_held3 (fun W => W.cell? ⟨w1.heap.size, 0, none⟩ = some (.int .i64 x) ∧ W.cell? ⟨w1.heap.size, 1, none⟩ = some (.int .i64 y) ∧ W.cell? ⟨w1.heap.size + 1, 0, none⟩ = some (.int .i64 z) ∧ W.cell? ⟨w1.heap.size + 1, 1, none⟩ = some (.int .i64 u)) (first | (go_simp; done) | go_keep) (first | (go_at_call 13; (with_reducible refine (l_below dd (y - x + 1) p0 len0 cap0 _ ?_ hpos).mono ?_); (focus (first | exact hDi | exact hDi.keep (Below.drew (Below.refl _ _)))); rintro e w' ⟨va, rfl, hva0, hva1, hDj, hO⟩; replace hDi := hDj; (first | replace hOO := hOO.trans hO | replace hOO := hOO.drew.trans hO); clear hDj hO; (try clear c_a0 c_a1 l_a c_b0 c_b1 l_b); have hL := hLr.below (hOO.below hb1 hd); have hB := hL.b (k := w1.heap.size) (l := [x, y]) (by simp); have c_a0 := hB.cell 0 x rfl; have c_a1 := hB.cell 1 y rfl; have l_a := hB.lt; clear hB; have hB := hL.b (k := w1.heap.size + 1) (l := [z, u]) (by simp); have c_b0 := hB.cell 0 z rfl; have c_b1 := hB.cell 1 u rfl; have l_b := hB.lt; clear hB) | (go_at_call 13; (with_reducible refine (l_below dd (u - z + 1) p0 len0 cap0 _ ?_ hpos2).mono ?_); (focus (first | exact hDi | exact hDi.keep (Below.drew (Below.refl _ _)))); rintro e w' ⟨vb, rfl, hvb0, hvb1, hDj, hO⟩; replace hDi := hDj; (first | replace hOO := hOO.trans hO | replace hOO := hOO.drew.trans hO); clear hDj hO; (try clear c_a0 c_a1 l_a c_b0 c_b1 l_b); have hL := hLr.below (hOO.below hb1 hd); have hB := hL.b (k := w1.heap.size) (l := [x, y]) (by simp); have c_a0 := hB.cell 0 x rfl; have c_a1 := hB.cell 1 y rfl; have l_a := hB.lt; clear hB; have hB := hL.b (k := w1.heap.size + 1) (l := [z, u]) (by simp); have c_b0 := hB.cell 0 z rfl; have c_b1 := hB.cell 1 u rfl; have l_b := hB.lt; clear hB))
      all_goals
        have q5 : IntKind.i64.wrap (x + va) = x + va := IntWalk.i64_in _ (by omega)
        have q6 : IntKind.i64.wrap (z + vb) = z + vb := IntWalk.i64_in _ (by omega)
        rw [q5, q6]
        obtain ⟨X, hX⟩ : ∃ X, x + va = X := ⟨_, rfl⟩
        obtain ⟨Y, hY⟩ : ∃ Y, z + vb = Y := ⟨_, rfl⟩
        rw [hX, hY]
        have hX0 : x ≤ X := by omega
        have hX1 : X ≤ y := by omega
        have hY0 : z ≤ Y := by omega
        have hY1 : Y ≤ u := by omega
        clear q1 q2 q3 q4 q5 q6 hX hY hva0 hva1 hvb0 hvb1 hpos hpos2 hDi hOO hb1 hd hLr HIN c_a0 c_a1 l_a c_b0 c_b1 l_b
        have hB := hL.b (k := w1.heap.size) (l := [x, y]) (by simp)
        have c_a0 := hB.cell 0 x rfl
        have c_a1 := hB.cell 1 y rfl
        have l_a := hB.lt
        clear hB
        have hB := hL.b (k := w1.heap.size + 1) (l := [z, u]) (by simp)
        have c_b0 := hB.cell 0 z rfl
        have c_b1 := hB.cell 1 u rfl
        have l_b := hB.lt
        clear hB
        have hB := hL.b (k := w2.heap.size) (l := [s1, s2]) (by simp)
        have c_f0 := hB.cell 0 s1 rfl
        have c_f1 := hB.cell 1 s2 rfl
        have l_f := hB.lt
        clear hB
        have hB := hL.b (k := w4.heap.size) (l := [d1, d2]) (by simp)
        have c_h0 := hB.cell 0 d1 rfl
        have c_h1 := hB.cell 1 d2 rfl
        have l_h := hB.lt
        clear hB
        have HE := E.out
        by_cases h0 : c = 0
        · subst h0
          obtain ⟨es1, es2⟩ := add_law H.out.1 H.out.2 HE.1 rfl
          have a1 : ¬ X + Y < s1 := by omega
          have a2 : ¬ s2 < X + Y := by omega
          have a3 : (s1 == x + z) = true := by simp; omega
          have a3' : (s1 != x + z) = false := by simp; omega
          have a4 : (s2 == y + u) = true := by simp; omega
          have a4' : (s2 != y + u) = false := by simp; omega
          obtain ⟨lo, hi, k3, e3⟩ : ∃ lo hi k3, subIv s1 s2 z u = (lo, hi, k3) := ⟨_, _, _, rfl⟩
          have CE : Hid (∀ w : World, Calls Try.prog 9 #[ivV s1 s2, ivV z u] w fun en w' => en = .returned (ivT (lo, hi, k3)) ∧ Below w.heap.size w w') := fun w => by rw [← e3]; exact i_SubtractIntervals s1 s2 z u w
          rw [es1, es2] at e3
          have E3 := Lib.hid e3
          clear e3 es1 es2
          by_cases h1 : d = 0
          · subst h1
            obtain ⟨ed1, ed2⟩ := sub_law H.out.1 H.out.2 HE.2 rfl
            have b1 : ¬ X - Y < d1 := by omega
            have b2 : ¬ d2 < X - Y := by omega
            have b3 : (d1 == x - u) = true := by simp; omega
            have b3' : (d1 != x - u) = false := by simp; omega
            clear ed1 ed2 HE E
            have HB := Lib.hid (back_law H.out.1 H.out.2 E3.out)
            clear E3
            go_wp2_with fail
            refine (CE.out _).mono ?_
            rintro e wB ⟨rfl, hb⟩
            replace hL := Lw.new' (hL.below hb) (l := [lo, hi]) (vs := [.int .i64 lo, .int .i64 hi]) (t := 25) rfl rfl
            clear hb c_a0 c_a1 l_a c_b0 c_b1 l_b c_f0 c_f1 l_f c_h0 c_h1 l_h
            have hB := hL.b (k := w1.heap.size) (l := [x, y]) (by simp)
            have c_a0 := hB.cell 0 x rfl
            have c_a1 := hB.cell 1 y rfl
            have l_a := hB.lt
            clear hB
            have hB := hL.b (k := wB.heap.size) (l := [lo, hi]) (by simp)
            have c_k0 := hB.cell 0 lo rfl
            have c_k1 := hB.cell 1 hi rfl
            have l_k := hB.lt
            clear hB
            have HL := Lib.hid hL
            clear hL
            by_cases h3 : k3 = 0
            · subst h3
              have hw := HB.out rfl
              have CW : Hid (∀ w : World, Calls Try.prog 14 #[ivV x y, ivV lo hi] w fun en w' => en = .returned (.bool true) ∧ Below w.heap.size w w') := fun w => by rw [← hw]; exact i_IsWithin x y lo hi w
              clear hw
              go_wp2_with fail
              refine (CW.out _).mono ?_
              rintro e wC ⟨rfl, hb⟩
              have OO := Lib.hid (HL.out.own.join hb)
              clear hb
              go_wp2_with fail
              go_ret
              exact ⟨rfl, OO.out.below⟩
            · have t3 : (k3 == 0) = false := by simpa using h3
              have t3' : (k3 != 0) = true := by simpa using h3
              go_wp2_with fail
              go_ret
              exact ⟨rfl, HL.out.own.below⟩
          · have t0 : (d == 0) = false := by simpa using h1
            have t0' : (d != 0) = true := by simpa using h1
            clear HE E
            have HB := Lib.hid (back_law H.out.1 H.out.2 E3.out)
            clear E3
            go_wp2_with fail
            refine (CE.out _).mono ?_
            rintro e wB ⟨rfl, hb⟩
            replace hL := Lw.new' (hL.below hb) (l := [lo, hi]) (vs := [.int .i64 lo, .int .i64 hi]) (t := 25) rfl rfl
            clear hb c_a0 c_a1 l_a c_b0 c_b1 l_b c_f0 c_f1 l_f c_h0 c_h1 l_h
            have hB := hL.b (k := w1.heap.size) (l := [x, y]) (by simp)
            have c_a0 := hB.cell 0 x rfl
            have c_a1 := hB.cell 1 y rfl
            have l_a := hB.lt
            clear hB
            have hB := hL.b (k := wB.heap.size) (l := [lo, hi]) (by simp)
            have c_k0 := hB.cell 0 lo rfl
            have c_k1 := hB.cell 1 hi rfl
            have l_k := hB.lt
            clear hB
            have HL := Lib.hid hL
            clear hL
            by_cases h3 : k3 = 0
            · subst h3
              have hw := HB.out rfl
              have CW : Hid (∀ w : World, Calls Try.prog 14 #[ivV x y, ivV lo hi] w fun en w' => en = .returned (.bool true) ∧ Below w.heap.size w w') := fun w => by rw [← hw]; exact i_IsWithin x y lo hi w
              clear hw
              go_wp2_with fail
              refine (CW.out _).mono ?_
              rintro e wC ⟨rfl, hb⟩
              have OO := Lib.hid (HL.out.own.join hb)
              clear hb
              go_wp2_with fail
              go_ret
              exact ⟨rfl, OO.out.below⟩
            · have t3 : (k3 == 0) = false := by simpa using h3
              have t3' : (k3 != 0) = true := by simpa using h3
              go_wp2_with fail
              go_ret
              exact ⟨rfl, HL.out.own.below⟩
        · have t0 : (c == 0) = false := by simpa using h0
          have t0' : (c != 0) = true := by simpa using h0
          have HL := Lib.hid hL
          by_cases h1 : d = 0
          · subst h1
            obtain ⟨ed1, ed2⟩ := sub_law H.out.1 H.out.2 HE.2 rfl
            have b1 : ¬ X - Y < d1 := by omega
            have b2 : ¬ d2 < X - Y := by omega
            have b3 : (d1 == x - u) = true := by simp; omega
            have b3' : (d1 != x - u) = false := by simp; omega
            clear ed1 ed2 HE E hL
            go_wp2_with fail
            go_ret
            exact ⟨rfl, HL.out.own.below⟩
          · have t1 : (d == 0) = false := by simpa using h1
            have t1' : (d != 0) = true := by simpa using h1
            clear HE E hL
            go_wp2_with fail
            go_ret
            exact ⟨rfl, HL.out.own.below⟩
    · have hc1 := add_no hv E.out.1
      subst hc1
      rcases Bool.eq_false_or_eq_true (isIv x y) with h1 | h1
      · have h2 : isIv z u = false := by cases h : isIv z u <;> simp_all
        have C1 : Hid (∀ w : World, Calls Try.prog 11 #[ivV x y] w fun en w' => en = .returned (.bool true) ∧ Below w.heap.size w w') := fun w => by rw [← h1]; exact i_IsInterval x y w
        have C2 : Hid (∀ w : World, Calls Try.prog 11 #[ivV z u] w fun en w' => en = .returned (.bool false) ∧ Below w.heap.size w w') := fun w => by rw [← h2]; exact i_IsInterval z u w
        clear h1 h2 hv
        go_wp2_with fail
        refine (C1.out _).mono ?_
        rintro e w6 ⟨rfl, hb⟩
        replace hL := hL.below hb
        clear hb c_a0 c_a1 l_a c_b0 c_b1 l_b c_f0 c_f1 l_f c_g0 c_g1 l_g c_h0 c_h1 l_h c_j0 c_j1 l_j
        have hB := hL.b (k := w1.heap.size + 1) (l := [z, u]) (by simp)
        have c_b0 := hB.cell 0 z rfl
        have c_b1 := hB.cell 1 u rfl
        have l_b := hB.lt
        clear hB
        go_wp2_with fail
        refine (C2.out _).mono ?_
        rintro e w7 ⟨rfl, hb⟩
        have OO := Lib.hid (hL.own.join hb)
        clear hb hL
        go_wp2_with fail
        go_ret
        exact ⟨rfl, OO.out.below⟩
      · have C1 : Hid (∀ w : World, Calls Try.prog 11 #[ivV x y] w fun en w' => en = .returned (.bool false) ∧ Below w.heap.size w w') := fun w => by rw [← h1]; exact i_IsInterval x y w
        clear h1 hv
        go_wp2_with fail
        refine (C1.out _).mono ?_
        rintro e w6 ⟨rfl, hb⟩
        have OO := Lib.hid (hL.own.join hb)
        clear hb hL
        go_wp2_with fail
        go_ret
        exact ⟨rfl, OO.out.below⟩

theorem own : ownKnob Try.prog.godebug = none := by kernel_rfl
theorem laidOut : laidOutB Try.prog = true := by kernel_rfl
set_option maxRecDepth 100000 in
theorem lifted (os : Os) (started : os.Started) (H : Type) (enc : TypeId × Value → H) :
    ReturnsInHanded {} Try.checked os 3 .any (Rows.fnIntervalArithmeticSpec.pre6 enc Try.prog Try.f3 Rows.fnIntervalArithmeticRow.domain false) (Rows.fnIntervalArithmeticSpec.post enc Try.prog Try.f3 false true false false) := by
  refine returnsInHanded_of_change (C := Try.checked) own started (by kernel_rfl) Try.func3
    (ChangeSpec.witness6 (enc := enc) (C := Try.checked) false ⟨#[], #[.slice none 0 0], []⟩ 8 (by kernel_rfl) (by kernel_rfl) (by kernel_rfl) (by kernel_rfl)) ?_
  intro W base args ds gs before hval0 hW hcnd _
  have hval : ∀ (j : Nat) t v, Try.f3.params[j]? = some t → args[j]? = some v → Value.okWide Try.prog W .any base t v := hval0
  have hW' := hW
  obtain ⟨p, q, hA0, hV, rfl, hfz, hnd⟩ := hW
  have hA : DataW.TrodAll enc Try.prog W 0 (fun _ => true) true Try.f3.params.toList args.toList ds p := hA0
  rw [Try.params3] at hA hval
  obtain ⟨v0, vs0, d0, ds0, pp0, qq0, hargs, rfl, rfl, h0, rr0⟩ := trodAll_cons hA
  obtain ⟨rfl, rfl, rfl⟩ := trodAll_nil rr0
  obtain rfl : args = #[v0] := by cases args; simp_all
  obtain ⟨rfl, rfl⟩ := trodVars_none hV
  have k0_ := h0
  have lt0_ : ∀ x ∈ pp0, x.block < W.heap.size := by obtain ⟨m, hm⟩ := h0; exact DataW.trod_lt m _ _ _ hm
  obtain ⟨p0, len0, cap0, rfl⟩ := okWide_slice Try.underlying22 (hval 0 22 v0 rfl rfl)
  obtain ⟨z0, r0⟩ := open_row (k := .u8) Try.underlying22 Try.underlying5 (by kernel_rfl) h0
  clear hA0 hval0
  refine (walk  W p0 len0 cap0 z0 r0).mono fun e W' ⟨he, bel⟩ => ?_
  subst he
  exact ⟨_, rfl, _, _, _, [], _, [], hW', trodAll_mk1 (shut_bool Try.underlying4 _), (trodAll_cons_mk (Below.trod laidOut (by kernel_rfl) (of_decide_eq_true (by kernel_rfl)) k0_ bel lt0_) trodAll_mk0), rfl, bel.frame _, fun h => by cases h⟩

theorem over : Rows.fnIntervalArithmeticRow.holds Try.pinned (OpenSpec.ofChange Rows.fnIntervalArithmeticSpec) :=
  OpenClaim.holds_of_wide 3 Try.f3 rfl rfl rfl rfl rfl rfl rfl ⟨rfl, rfl, rfl, rfl, rfl⟩ rfl rfl rfl rfl rfl (by kernel_rfl) Try.func3 (by kernel_rfl)
    (of_decide_eq_true (by kernel_rfl)) (by unfold Func.isWrapper; first | (rw [if_pos (by decide +kernel)]; kernel_rfl) | (rw [if_neg (by decide +kernel)]; exact ⟨rfl, rfl⟩))
    (fun os started H enc _ => lifted os started H enc)

/-- the given statement -/
theorem proved : Rows.FnIntervalArithmeticSaid := over
#print axioms proved
end Go.Proofs.Ytfhliikfnhggpaa.pFnIntervalArithmetic
