/- Contracts and lemmas for the proofs of this seat: Lay23. -/
import Derived.Test.YtgkfnggnhphboaaBase
import Derived.Test.YtgkfnggnhphboaaNum
import Derived.Test.YtgkfnggnhphboaaIv
import Derived.Test.YtgkfnggnhphboaaIv2
import Derived.Test.YtgkfnggnhphboaaDiv
import Derived.Test.YtgkfnggnhphboaaRoot
import Derived.Test.YtgkfnggnhphboaaEn
import Derived.Test.YtgkfnggnhphboaaSeg
import Derived.Test.YtgkfnggnhphboaaList
import Derived.Test.YtgkfnggnhphboaaLay
import Derived.Test.YtgkfnggnhphboaaLay2
import Derived.Test.YtgkfnggnhphboaaLay3
import Derived.Test.YtgkfnggnhphboaaLay4
import Derived.Test.YtgkfnggnhphboaaLay5
import Derived.Test.YtgkfnggnhphboaaLay6
import Derived.Test.YtgkfnggnhphboaaLay7
import Derived.Test.YtgkfnggnhphboaaLay12
import Derived.Test.YtgkfnggnhphboaaLay13
import Derived.Test.YtgkfnggnhphboaaLay15
import Derived.Test.YtgkfnggnhphboaaLay16
import Derived.Test.YtgkfnggnhphboaaLay17
import Derived.Test.YtgkfnggnhphboaaLay18
import Derived.Test.YtgkfnggnhphboaaLay20
import Derived.Test.YtgkfnggnhphboaaPassed
import Derived.Test.YtgkfnggnhphboaaLay22
import Derived.Lib.Hide
import Derived.BigQuiet
import Derived.Deep.QuietTactic
import Derived.Deep.OwnRows
import Derived.Deep.LoopGhost
import Derived.Deep.RegionHeld3
import Derived.Deep.DeepCutAuto
import Derived.StillTailTactics
import Derived.Deep.AppendLies
import Derived.Deep.DrawnRows
import Derived.Outline
import Derived.Laws.EntriesVeiled
namespace Go.Proofs.Ytgkfnggnhphboaa
open Go.RowKit Go.Deep
set_option maxHeartbeats 2000000
set_option linter.unusedVariables false
set_option linter.unusedSimpArgs false

attribute [local go_sem] lt_2 lt_3 lt_4 lt_5 lt_6
set_option maxRecDepth 100000 in
theorem i_SensorsPassed (p : Option Addr) (n cap : Nat) (zs : List Seg) (q : Option Addr) (k c : Nat) (ys : List Int) (x y : Int) (w : World) (hin : Segs w p n zs) (hn : n ≤ 1048576) (hq : Ints .i64 w q k ys) :
    Calls Try.prog 45 #[.agg #[.slice p n cap], .slice q k c, .int .i64 x, .int .i64 y] w (ResQ 2 1 (paL zs ys x y).length (fun i => (paL zs ys x y).getD i 0) (paC zs ys x y) w) := by
  obtain ⟨i0, hi, hz0, hz1, hz2⟩ := info_parts (P := Try.prog) (e := 2) (z := .int .i64 0) (size := 1) (bytes := 8) (by kernel_rfl)
  have hz := hq.1
  have hk := hq.2.1
  unfold maxLen at hk
  have S := Sb.new (cap := cap) (c := c) (x := x) w hin hq
  have hqb : ∀ a, q = some a → 0 < k → a.block < w.heap.size := fun a ha h0 => by
    obtain ⟨b, off, e, hc⟩ := hq.2.2 h0
    rw [ha] at e
    cases e
    have := World.block_lt_of_cell? w _ (hc 0 h0)
    simpa using this
  have O := Own.alloc (Own.alloc (Own.alloc (Own.start w) (Obj.cells #[.slice p n cap] 26)) (Obj.cells #[.slice q k c] 40)) (Obj.cells #[.int .i64 x] 2)
  have CI : Hid (∀ W, Segs W p n zs → Calls Try.prog 58 #[.agg #[.slice p n cap]] W fun e w' => e = .returned (.bool (layOk zs)) ∧ Below W.heap.size W w') := fun W h => i_IsLayout p n cap zs W h hn
  have QB := Lib.hid hqb
  have HZ := Lib.hid hz
  clear hin hq hqb hz
  rcases Bool.eq_false_or_eq_true (layOk zs) with hl | hl
  · have HL := Lib.hid (layOk_iff.1 hl)
    obtain ⟨-, t1, t2⟩ := lay_bd HL.out
    have CS : Hid (∀ W, Segs W p n zs → Ints .i64 W q k ys → Calls Try.prog 101 #[.agg #[.slice p n cap], .slice q k c] W fun e w' => e = .returned (.bool (senB zs ys)) ∧ Below W.heap.size W w') := fun W h1 h2 => by
      have h := i_areSensors p n cap zs q k c ys W h1 HL.out h2
      unfold senB
      rw [hl, Bool.true_and]
      exact h
    rw [hl] at CI
    rcases Bool.eq_false_or_eq_true (senB zs ys) with hs | hs
    · have hsen := hs
      rw [hs] at CS
      unfold senB at hs
      rw [hl, Bool.true_and] at hs
      simp only [Bool.and_eq_true, decide_eq_true_eq] at hs
      have hk32 : k ≤ 32 := by have := HZ.out; omega
      have HRis := Lib.hid (rs_of hs.2)
      have CZ : Hid (∀ W, Segs W p n zs → Calls Try.prog 76 #[.agg #[.slice p n cap]] W fun e w' => e = .returned (.int .i64 (totN zs)) ∧ Below W.heap.size W w') := fun W h => i_size p n cap zs W h HL.out
      have CP : Hid (∀ W, Segs W p n zs → Calls Try.prog 71 #[.agg #[.slice p n cap], .int .i64 x] W fun e w' => e = .returned (.bool (inB x 0 (totN zs - 1))) ∧ Below W.heap.size W w') := fun W h => i_isPosition p n cap zs x W h HL.out
      have hmin : min (1000000000000 : Int) (totN zs) = totN zs := Int.min_eq_right (by omega)
      have CW : Hid (∀ W, Calls Try.prog 78 #[.int .i64 y, .int .i64 0, .int .i64 (totN zs)] W fun e w' => e = .returned (.bool (inB y 0 (totN zs))) ∧ W = w') := fun W => i_within y 0 (totN zs) W
      clear hs
      rcases Bool.eq_false_or_eq_true (inB x 0 (totN zs - 1)) with h1 | h1
      · rw [h1] at CP
        rcases Bool.eq_false_or_eq_true (inB y 0 (totN zs)) with h2 | h2
        · rw [h2] at CW
          have hcd : code05 zs x y 0 1000000000000 = 0 := code05_ok hl h1 (by rw [hmin]; exact h2)
          obtain ⟨hL1, hC1⟩ := pa_good hsen hcd
          have bx := inB_iff.1 h1
          have by' := inB_iff.1 h2
          have hln : (spN (totN zs) x y ys (firstN x ys) ys.length ys.length).length = (pasI (totN zs) x y ys k).length := by rw [pas_len (firstN_at HRis.out).1, HZ.out]
          rw [hL1, hC1, hln, HZ.out]
          clear hL1 hC1 hcd h1 h2 hmin hln hsen
          go_enter Try.func45, Try.ntmps45
          go_wp2_with fail
          refine (CI.out _ S.seg).mono ?_
          rintro e w1 ⟨rfl, hb⟩
          replace O := O.join hb
          replace S := S.keep hb
          have c0 := S.c0
          have c1 := S.c1
          have hl2 := S.lt
          clear hb
          go_wp2_with fail
          refine (CS.out _ S.seg S.ints).mono ?_
          rintro e w2 ⟨rfl, hb⟩
          replace O := O.join hb
          replace S := S.keep hb
          clear c0 c1 hl2
          have c0 := S.c0
          have hl2 := S.lt
          clear hb
          go_wp2_with fail
          refine (CZ.out _ S.seg).mono ?_
          rintro e w3 ⟨rfl, hb⟩
          replace S := S.keep hb
          have hsz3 : w.heap.size + 2 < w3.heap.size := S.lt
          replace O := (O.join hb).alloc (Obj.cells #[.int .i64 (totN zs)] 2)
          replace S := S.alloc (Obj.cells #[.int .i64 (totN zs)] 2)
          clear c0 hl2 hb
          have ct : (w3.alloc (Obj.cells #[.int .i64 (totN zs)] 2)).cell? ⟨w3.heap.size, 0, none⟩ = some (.int .i64 (totN zs)) := by go_simp
          have c0 := S.c0
          have c2 := S.c2
          have hl2 := S.lt
          go_wp2_with fail
          refine (CP.out _ S.seg).mono ?_
          rintro e w5 ⟨rfl, hb⟩
          replace O := O.join hb
          replace S := S.keep hb
          have ct5 : w5.cell? ⟨w3.heap.size, 0, none⟩ = some (.int .i64 (totN zs)) := by rw [(below_box (k := w3.heap.size) hb (by simp)).1 0]; exact ct
          have hsz5 : w3.heap.size < w5.heap.size := World.block_lt_of_cell? w5 _ ct5
          clear ct c0 c2 hl2 hb
          have c0 := S.c0
          have c1 := S.c1
          have c2 := S.c2
          have hl2 := S.lt
          have hl1 : w.heap.size + 1 < w5.heap.size := by omega
          go_wp2_with (go_at_call 78; refine (CW.out _).mono ?_; rintro e w' ⟨rfl, rfl⟩)
          obtain ⟨W6, hW6⟩ : ∃ W6, W6 = w5.alloc (Obj.cells #[.func (.func 102) #[] #[.pointer (some ⟨w.heap.size + 1, 0, none⟩), .pointer (some ⟨w.heap.size + 1 + 1, 0, none⟩), .pointer (some ⟨w3.heap.size, 0, none⟩)]] 49) := ⟨_, rfl⟩
          have S6 : Sb W6 w.heap.size p n cap zs q k c ys x := by rw [hW6]; exact S.alloc _
          have O6 : Own w W6 := by rw [hW6]; exact O.alloc _
          have d1 : W6.cell? ⟨w3.heap.size, 0, none⟩ = some (.int .i64 (totN zs)) := by rw [hW6]; go_simp
          have d2 : W6.cell? ⟨w5.heap.size, 0, none⟩ = some (.func (.func 102) #[] #[.pointer (some ⟨w.heap.size + 1, 0, none⟩), .pointer (some ⟨w.heap.size + 1 + 1, 0, none⟩), .pointer (some ⟨w3.heap.size, 0, none⟩)]) := by rw [hW6]; go_simp
          have hsz6 : W6.heap.size = w5.heap.size + 1 := by rw [hW6]; simp
          have Q6 : Hid (∀ a, q = some a → 0 < k → a.block < W6.heap.size) := fun a ha h0 => by have := QB.out a ha h0; omega
          go_wp2
          rw [← hW6]
          clear hW6 c0 c1 c2 ct5 S O hl2
          go_loopw [12, 38] (fun v i wr => ∃ j : Nat, j ≤ k ∧ i = .int .i64 j ∧ (∃ v0 : Value, v0 = v ∧ wr.ownsRow W6.heap.size 2 1 v0 (pasI (totN zs) x y ys j).length ((pasI (totN zs) x y ys j).map (Value.int .i64))) ∧ Own W6 wr) (fun _ i _ => (k - intOf i).toNat)
          case atStart => exact ⟨0, Nat.zero_le _, rfl, ⟨_, rfl, World.ownsRow_nil _ _ _ _⟩, Own.start _⟩
          case round =>
            obtain ⟨j, hj, rfl, ⟨v, rfl, how⟩, hown⟩ := hrel
            obtain ⟨wB, rfl⟩ : ∃ wB : World, wB = wr := ⟨_, rfl⟩
            have HO := Lib.hid hown
            have HOWN := Lib.hid how
            have Sr := Lib.hid (S6.keep hown)
            have e1 := (below_box (k := w5.heap.size) hown (by omega)).1 0
            rw [d2] at e1
            have e2 := (below_box (k := w3.heap.size) hown (by omega)).1 0
            rw [d1] at e2
            have hlW : W6.heap.size ≤ wB.heap.size := hown.le
            have hb5 : w5.heap.size < wB.heap.size := by omega
            clear hown how
            by_cases hlt : j < k
            · have hji : (j : Int) < (k : Int) := by omega
              have hrs := HRis.out j (by have := HZ.out; omega)
              have CY := Lib.hid (c_way (w.heap.size + 1) (w.heap.size + 1 + 1) w3.heap.size q k c ys x (totN zs) j hlt (by omega) (by omega) (by omega) wB Sr.out.ints Sr.out.c1 Sr.out.c2 e2)
              have hcl := pasI_len (totN zs) x y ys j
              have HPS : Hid (passB (totN zs) x y (ys.getD j 0) = decide (wayN (totN zs) x (ys.getD j 0) < y)) := rfl
              generalize wayN (totN zs) x (ys.getD j 0) = r at *
              clear hrs e2
              rcases ilt r y with c1 | c1
              · have hcv : passB (totN zs) x y (ys.getD j 0) = true := by rw [HPS.out]; exact decide_eq_true c1
                have HCV := Lib.hid hcv
                clear hcv
                go_wp2_with fail
                refine CY.out.mono ?_
                rintro e w4 ⟨rfl, hw4⟩
                have O4 : Hid (Own W6 w4) := by obtain ⟨nn, rfl⟩ := hw4; exact HO.out.drewN nn
                have W4 : Hid (w4.ownsRow W6.heap.size 2 1 v (pasI (totN zs) x y ys j).length ((pasI (totN zs) x y ys j).map (Value.int .i64))) := by obtain ⟨nn, rfl⟩ := hw4; exact HOWN.out
                clear hw4
                go_wp2_with (at_builtin; refine wpList_append_k _ rfl _ _ 40 rfl W6.heap.size 2 i0 (.int .i64 0) 1 8 Try.underlying40 hi hz0 hz1 hz2 rfl (by decide) _ _ _ rfl (W4.out.alloc _) ⟨w4.heap.size, 0, none⟩ 1 1 [.int .i64 j] rfl rfl (one_news _ _ _) (by simp [Value.oneCell']) (by decide) (by unfold maxLen; omega) (by omega) (by have := O4.out.le; simp at this ⊢; omega) ?_; intro g2 c2 w1 hown1 hbel hkp hfar hsz1; have HOWN1 := Lib.hid hown1; have HBEL := Lib.hid hbel; clear hown1 hbel hkp hfar)
                go_roundw
                case rel => refine ⟨_, _, _, _, _, _, _, _, _, _, _, _, _, _, _, ?_, rfl⟩; exact ⟨j + 1, by omega, by go_num, ⟨_, rfl, by rw [pasI_yes HCV.out]; simpa using HOWN1.out⟩, Below.trans (O4.out.alloc _).below (HBEL.out.mono (Nat.le_refl _))⟩
                case measure => simp [intOf]; omega
              · have hcv : passB (totN zs) x y (ys.getD j 0) = false := by rw [HPS.out]; exact decide_eq_false (by omega)
                have HCV := Lib.hid hcv
                clear hcv
                go_wp2_with fail
                refine CY.out.mono ?_
                rintro e w4 ⟨rfl, hw4⟩
                have O4 : Hid (Own W6 w4) := by obtain ⟨nn, rfl⟩ := hw4; exact HO.out.drewN nn
                have W4 : Hid (w4.ownsRow W6.heap.size 2 1 v (pasI (totN zs) x y ys j).length ((pasI (totN zs) x y ys j).map (Value.int .i64))) := by obtain ⟨nn, rfl⟩ := hw4; exact HOWN.out
                clear hw4
                go_wp2_with fail
                go_roundw
                case rel => refine ⟨_, _, _, _, _, _, _, _, _, _, _, _, _, _, _, ?_, rfl⟩; exact ⟨j + 1, by omega, by go_num, ⟨_, rfl, by rw [pasI_no HCV.out]; exact W4.out⟩, O4.out⟩
                case measure => simp [intOf]; omega
            · obtain rfl : j = k := by omega
              have hcl := pasI_len (totN zs) x y ys j
              obtain ⟨q2, c2, rfl, hq2⟩ := ownQ_of_own (sz := 1) (f := fun i => (pasI (totN zs) x y ys j).getD i 0) (n := (pasI (totN zs) x y ys j).length) (by rw [Nat.mul_one, ← map_rowV]; exact HOWN.out) (by omega)
              have LS := Lib.hid (lib_sort (w.heap.size + 1) (w.heap.size + 1 + 1) w3.heap.size w5.heap.size W6.heap.size q j c ys x y (totN zs) (by omega) (by omega) (by omega) HRis.out HZ.out wB Sr.out.ints Q6.out Sr.out.c1 Sr.out.c2 e2 e1 (by omega) (by omega) (by omega) (by omega) hlW q2 c2 hq2)
              clear hq2
              go_wp2_with fail
              refine LS.out.mono ?_
              rintro e w7 ⟨rfl, hb, hq7⟩
              have HB := Lib.hid hb
              have HQ := Lib.hid hq7
              clear hb hq7
              go_wp2_with fail
              go_ret2
              exact ⟨q2, c2, rfl, ⟨HQ.out.1, fun a ha => ⟨by have := (HQ.out.2.1 a ha).1; omega, (HQ.out.2.1 a ha).2⟩, HQ.out.2.2⟩, Below.trans O6 ((Below.trans HO.out HB.out).mono (by omega))⟩
        · rw [h2] at CW
          have hcd : code05 zs x y 0 1000000000000 = 2 := code05_bad2 hl (by rw [hmin]; exact h2)
          obtain ⟨hL1, hC1⟩ := pa_code hsen hcd (by omega)
          rw [hL1, hC1]
          clear hL1 hC1 hcd h1 h2 hmin
          go_enter Try.func45, Try.ntmps45
          go_wp2_with fail
          refine (CI.out _ S.seg).mono ?_
          rintro e w1 ⟨rfl, hb⟩
          replace O := O.join hb
          replace S := S.keep hb
          have c0 := S.c0
          have c1 := S.c1
          have hl2 := S.lt
          clear hb
          go_wp2_with fail
          refine (CS.out _ S.seg S.ints).mono ?_
          rintro e w2 ⟨rfl, hb⟩
          replace O := O.join hb
          replace S := S.keep hb
          clear c0 c1 hl2
          have c0 := S.c0
          have hl2 := S.lt
          clear hb
          go_wp2_with fail
          refine (CZ.out _ S.seg).mono ?_
          rintro e w3 ⟨rfl, hb⟩
          replace S := S.keep hb
          have hsz3 : w.heap.size + 2 < w3.heap.size := S.lt
          replace O := (O.join hb).alloc (Obj.cells #[.int .i64 (totN zs)] 2)
          replace S := S.alloc (Obj.cells #[.int .i64 (totN zs)] 2)
          clear c0 hl2 hb
          have ct : (w3.alloc (Obj.cells #[.int .i64 (totN zs)] 2)).cell? ⟨w3.heap.size, 0, none⟩ = some (.int .i64 (totN zs)) := by go_simp
          have c0 := S.c0
          have c2 := S.c2
          have hl2 := S.lt
          go_wp2_with fail
          refine (CP.out _ S.seg).mono ?_
          rintro e w5 ⟨rfl, hb⟩
          replace O := O.join hb
          replace S := S.keep hb
          have ct5 : w5.cell? ⟨w3.heap.size, 0, none⟩ = some (.int .i64 (totN zs)) := by rw [(below_box (k := w3.heap.size) hb (by simp)).1 0]; exact ct
          have hsz5 : w3.heap.size < w5.heap.size := World.block_lt_of_cell? w5 _ ct5
          clear ct c0 c2 hl2 hb
          have c0 := S.c0
          have c1 := S.c1
          have c2 := S.c2
          have hl2 := S.lt
          have hl1 : w.heap.size + 1 < w5.heap.size := by omega
          go_wp2_with (go_at_call 78; refine (CW.out _).mono ?_; rintro e w' ⟨rfl, rfl⟩)
          go_ret2
          exact ⟨none, 0, rfl, OwnQ.nil _ _ _ _ _, O.below⟩
      · have hcd : code05 zs x y 0 1000000000000 = 2 := code05_bad1 hl h1
        obtain ⟨hL1, hC1⟩ := pa_code hsen hcd (by omega)
        rw [hL1, hC1]
        rw [h1] at CP
        clear hL1 hC1 hcd h1 hmin
        go_enter Try.func45, Try.ntmps45
        go_wp2_with fail
        refine (CI.out _ S.seg).mono ?_
        rintro e w1 ⟨rfl, hb⟩
        replace O := O.join hb
        replace S := S.keep hb
        have c0 := S.c0
        have c1 := S.c1
        have hl2 := S.lt
        clear hb
        go_wp2_with fail
        refine (CS.out _ S.seg S.ints).mono ?_
        rintro e w2 ⟨rfl, hb⟩
        replace O := O.join hb
        replace S := S.keep hb
        clear c0 c1 hl2
        have c0 := S.c0
        have hl2 := S.lt
        clear hb
        go_wp2_with fail
        refine (CZ.out _ S.seg).mono ?_
        rintro e w3 ⟨rfl, hb⟩
        replace S := S.keep hb
        have hsz3 : w.heap.size + 2 < w3.heap.size := S.lt
        replace O := (O.join hb).alloc (Obj.cells #[.int .i64 (totN zs)] 2)
        replace S := S.alloc (Obj.cells #[.int .i64 (totN zs)] 2)
        clear c0 hl2 hb
        have ct : (w3.alloc (Obj.cells #[.int .i64 (totN zs)] 2)).cell? ⟨w3.heap.size, 0, none⟩ = some (.int .i64 (totN zs)) := by go_simp
        have c0 := S.c0
        have c2 := S.c2
        have hl2 := S.lt
        go_wp2_with fail
        refine (CP.out _ S.seg).mono ?_
        rintro e w5 ⟨rfl, hb⟩
        replace O := O.join hb
        clear hb
        go_wp2_with fail
        go_ret2
        exact ⟨none, 0, rfl, OwnQ.nil _ _ _ _ _, O.below⟩
    · obtain ⟨hL1, hC1⟩ := pa_bad (x := x) (y := y) hs
      rw [hL1, hC1]
      rw [hs] at CS
      clear hL1 hC1 hs
      go_enter Try.func45, Try.ntmps45
      go_wp2_with fail
      refine (CI.out _ S.seg).mono ?_
      rintro e w1 ⟨rfl, hb⟩
      replace O := O.join hb
      replace S := S.keep hb
      have c0 := S.c0
      have c1 := S.c1
      have hl2 := S.lt
      clear hb
      go_wp2_with fail
      refine (CS.out _ S.seg S.ints).mono ?_
      rintro e w2 ⟨rfl, hb⟩
      replace O := O.join hb
      clear hb
      go_wp2_with fail
      go_ret2
      exact ⟨none, 0, rfl, OwnQ.nil _ _ _ _ _, O.below⟩
  · have hs : senB zs ys = false := by unfold senB; rw [hl]; rfl
    obtain ⟨hL1, hC1⟩ := pa_bad (x := x) (y := y) hs
    rw [hL1, hC1]
    rw [hl] at CI
    clear hL1 hC1 hs
    go_enter Try.func45, Try.ntmps45
    go_wp2_with fail
    refine (CI.out _ S.seg).mono ?_
    rintro e w1 ⟨rfl, hb⟩
    replace O := O.join hb
    clear hb
    go_wp2_with fail
    go_ret2
    exact ⟨none, 0, rfl, OwnQ.nil _ _ _ _ _, O.below⟩

set_option maxRecDepth 100000 in
theorem s_SensorsPassed (p : Option Addr) (n cap : Nat) (zs : List Seg) (q : Option Addr) (k c : Nat) (ys : List Int) (x y : Int) (w : World) (hin : Segs w p n zs) (hq : Ints .i64 w q k ys) :
    Calls Try.prog 42 #[.agg #[.slice p n cap], .slice q k c, .int .i64 x, .int .i64 y] w (ResQ 2 1 (paL zs ys x y).length (fun i => (paL zs ys x y).getD i 0) (paC zs ys x y) w) := by
  obtain ⟨i0, hi, hz0, hz1, hz2⟩ := info_parts (P := Try.prog) (e := 2) (z := .int .i64 0) (size := 1) (bytes := 8) (by kernel_rfl)
  have hz := hq.1
  have hk := hq.2.1
  unfold maxLen at hk
  have HQ := Lib.hid (hq.keep ((Below.refl _ _).alloc (Nat.le_refl _) (Obj.cells #[.slice p n cap] 26)))
  have HIN' : Hid (Segs (w.alloc (Obj.cells #[.slice p n cap] 26)) p n zs) := (hin.alloc _); have h0 := Own.start (w.alloc (Obj.cells #[.slice p n cap] 26)); clear hin
  have O := h0
  clear hq h0
  have CS : Hid (∀ W, Segs W p n zs → Ints .i64 W q k ys → Calls Try.prog 99 #[.agg #[.slice p n cap], .slice q k c] W fun e w' => e = .returned (.bool (senB zs ys)) ∧ Below W.heap.size W w') := fun W h1 h2 => s_l05Sensors p n cap zs q k c ys W h1 h2
  have CC : Hid (∀ W, Segs W p n zs → Calls Try.prog 80 #[.agg #[.slice p n cap], .int .i64 x, .int .i64 y, .int .i64 0, .int .i64 1000000000000] W fun e w' => e = .returned (.int .i64 (code05 zs x y 0 1000000000000)) ∧ Below W.heap.size W w') := fun W h => s_l05Code p n cap zs x y 0 1000000000000 W h
  have HZ := Lib.hid hz
  clear hz
  rcases Bool.eq_false_or_eq_true (senB zs ys) with hs | hs
  · rw [hs] at CS
    have hsen := hs
    unfold senB at hs
    simp only [Bool.and_eq_true, decide_eq_true_eq] at hs
    have HL := Lib.hid (layOk_iff.1 hs.1)
    obtain ⟨-, t1, t2⟩ := lay_bd HL.out
    have hk32 : k ≤ 32 := by have := HZ.out; omega
    have HRis := Lib.hid (rs_of hs.2.2)
    have CT : Hid (∀ W, Segs W p n zs → Calls Try.prog 81 #[.agg #[.slice p n cap]] W fun e w' => e = .returned (.int .i64 (totN zs)) ∧ Below W.heap.size W w') := fun W h => s_l03Total p n cap zs W h HL.out
    by_cases hcd : code05 zs x y 0 1000000000000 = 0
    · obtain ⟨hL1, hC1⟩ := pa_good hsen hcd
      have hx0 : inB x 0 (totN zs - 1) = true := by
        cases h : inB x 0 (totN zs - 1)
        · rw [code05_bad1 hs.1 h] at hcd; cases hcd
        · rfl
      have hy0 : inB y 0 (min 1000000000000 (totN zs)) = true := by
        cases h : inB y 0 (min 1000000000000 (totN zs))
        · rw [code05_bad2 hs.1 h] at hcd; cases hcd
        · rfl
      have bx := inB_iff.1 hx0
      have by' := inB_iff.1 hy0
      rw [Int.min_eq_right (show totN zs ≤ (1000000000000 : Int) by omega)] at by'
      rw [hL1, hC1, HZ.out]
      rw [hcd] at CC
      clear hcd hx0 hy0 hL1 hC1 hs hsen
      go_enter Try.func42, Try.ntmps42
      go_wp2_with fail
      refine (CS.out _ HIN'.out HQ.out).mono ?_
      rintro e w1 ⟨rfl, hb⟩
      replace O := O.join hb
      have c0 := (below_box (k := w.heap.size) O.below (by simp)).1 0
      rw [show (w.alloc (Obj.cells #[.slice p n cap] 26)).cell? ⟨w.heap.size, 0, none⟩ = some (.slice p n cap) by go_simp] at c0
      clear hb
      go_wp2_with fail
      refine (CC.out _ (HIN'.out.own O)).mono ?_
      rintro e w2 ⟨rfl, hb⟩
      replace O := O.join hb
      clear c0
      have c0 := (below_box (k := w.heap.size) O.below (by simp)).1 0
      rw [show (w.alloc (Obj.cells #[.slice p n cap] 26)).cell? ⟨w.heap.size, 0, none⟩ = some (.slice p n cap) by go_simp] at c0
      clear hb
      go_wp2_with fail
      refine (CT.out _ (HIN'.out.own O)).mono ?_
      rintro e w3 ⟨rfl, hb⟩
      replace O := O.join hb
      clear c0 hb
      have hl3 : w.heap.size + 1 ≤ w3.heap.size := by have := O.le; simpa using this
      have IN := Lib.hid (HQ.out.own O)
      go_wp2
      go_loop [13] (fun a => ∃ f : Nat, f ≤ k ∧ a = .int .i64 f ∧ ∀ i, i < f → ys.getD i 0 ≤ x) (fun a => k - (intOf a).toNat)
      case atStart => exact ⟨0, Nat.zero_le _, rfl, fun i h => by omega⟩
      case round =>
        obtain ⟨f, hf, rfl, hlo⟩ := hrel
        have HLO := Lib.hid hlo
        clear hlo
        by_cases hgo : f < k ∧ ys.getD f 0 ≤ x
        · obtain ⟨hlt, c1⟩ := hgo
          obtain ⟨b, off, rfl, hc⟩ := IN.out.2.2 (by omega)
          have hck := hc f hlt
          have hji : (f : Int) < (k : Int) := by omega
          have HS : Hid (ys.getD f 0 ≤ x) := c1
          generalize ys.getD f 0 = s at hck c1
          clear hc
          go_wp2
          go_round
          case rel =>
            exact ⟨f + 1, by omega, by go_num, fun i hi => by
              by_cases e : i = f
              · rw [e]; exact HS.out
              · exact HLO.out i (by omega)⟩
          case measure => simp [intOf]; omega
        · have hA : At x ys f := ⟨by rw [HZ.out]; exact hf, HLO.out, fun i h1 h2 => by
            have hfk : f < k := by have := HZ.out; omega
            have hxf : x < ys.getD f 0 := by
              have : ¬ ys.getD f 0 ≤ x := fun h => hgo ⟨hfk, h⟩
              omega
            by_cases e : f = i
            · rw [← e]; exact hxf
            · have := HRis.out.lt (i := f) (j := i) (by omega) h2; omega⟩
          have hF : firstN x ys = f := (firstN_at HRis.out).unique hA
          have HA := Lib.hid hA
          have HF := Lib.hid hF
          clear hA hF
          have hown0 : Hid ((w3.alloc (Obj.cells #[] 2)).ownsRow (w.heap.size + 1) 2 1 (.slice (some ⟨w3.heap.size, 0, none⟩) 0 0) 0 []) :=
            ⟨rfl, .inr ⟨w3.heap.size, 0, #[], rfl, hl3, heap_alloc_new _ _, Nat.le_refl _, Nat.zero_le _, rfl, rfl⟩⟩
          have O3 := Lib.hid O
          clear O
          by_cases hlt : f < k
          · have hxf : x < ys.getD f 0 := by
              have : ¬ ys.getD f 0 ≤ x := fun h => hgo ⟨hlt, h⟩
              omega
            clear hgo
            obtain ⟨b, off, hqe, hc⟩ := IN.out.2.2 (by omega)
            subst hqe
            have hck := hc f hlt
            have hji : (f : Int) < (k : Int) := by omega
            generalize ys.getD f 0 = s at hck hxf
            clear hc
            go_wp2
            clear hck hxf hji hlt
            go_loopw [14, 15] (fun v i wr => ∃ j : Nat, j ≤ k ∧ i = .int .i64 j ∧ (∃ v0 : Value, v0 = v ∧ wr.ownsRow (w.heap.size + 1) 2 1 v0 (spN (totN zs) x y ys f k j).length ((spN (totN zs) x y ys f k j).map (Value.int .i64))) ∧ Own (w.alloc (Obj.cells #[.slice p n cap] 26)) wr) (fun _ i _ => (k - intOf i).toNat)
            case atStart => exact ⟨0, Nat.zero_le _, rfl, ⟨_, rfl, hown0.out⟩, O3.out.alloc _⟩
            case round =>
              obtain ⟨j, hj, rfl, ⟨v, rfl, how⟩, hown⟩ := hrel
              obtain ⟨wB, rfl⟩ : ∃ wB : World, wB = wr := ⟨_, rfl⟩
              have HO := Lib.hid hown
              have HOWN := Lib.hid how
              have hlB : w.heap.size + 1 ≤ wB.heap.size := by have := hown.le; simpa using this
              have hcl := spN_len (totN zs) x y ys f k j
              have hsl := how.lt
              clear hown how
              by_cases hlt : j < k
              · obtain ⟨m, hm⟩ : ∃ m, m = (f + j) % k := ⟨_, rfl⟩
                have hmk : m < k := by rw [hm]; exact Nat.mod_lt _ (by omega)
                obtain ⟨b, off, hqe, hc⟩ := (HQ.out.own HO.out).2.2 (by omega)
                have HQE := Lib.hid hqe
                cases hqe
                have hck := hc m hmk
                have hji : (j : Int) < (k : Int) := by omega
                have hmi : (m : Int) < (k : Int) := by omega
                have hm0 : (0 : Int) ≤ (m : Int) := by omega
                have hkz : ((k : Int) == 0) = false := by simp; omega
                have hkn : ¬ (k : Int) = 0 := by omega
                have htm : ((f : Int) + (j : Int)).tmod (k : Int) = (m : Int) := by
                  rw [Int.tmod_eq_emod_of_nonneg (by omega), hm]
                  simp
                have hst : spN (totN zs) x y ys f k (j + 1) = if passB (totN zs) x y (ys.getD m 0) = true then spN (totN zs) x y ys f k j ++ [(m : Int)] else spN (totN zs) x y ys f k j := by rw [hm]; rfl
                have hrs := HRis.out m (by have := HZ.out; omega)
                obtain ⟨s, hs⟩ : ∃ s, s = ys.getD m 0 := ⟨_, rfl⟩
                rw [← hs] at hck hst hrs
                have hwd := way_d (t := totN zs) (x := x) (s := s) (by omega) (by omega)
                have HST := Lib.hid hst
                have bs : 0 ≤ s ∧ s < totN zs := ⟨hrs.1, hrs.2.1⟩
                have hr0 : 0 ≤ (s - x) % totN zs := Int.emod_nonneg _ (by omega)
                have hr1 : (s - x) % totN zs < totN zs := Int.emod_lt_of_pos _ (by omega)
                have CM : Hid (∀ W, Calls Try.prog 86 #[.int .i64 (s - x), .int .i64 (totN zs)] W fun e w' => e = .returned (.int .i64 ((s - x) % totN zs)) ∧ W = w') := fun W => s_l05Mod (s - x) (totN zs) (by omega) (by omega) W
                have HPB : Hid (passB (totN zs) x y s = decide (wayN (totN zs) x s < y)) := rfl
                generalize wayN (totN zs) x s = u at *
                generalize (s - x) % totN zs = r at *
                have HWD := Lib.hid hwd
                clear hc hs hst hm hrs hwd
                have key : ∀ d : Int, u + 1 = d → (d ≤ y → passB (totN zs) x y s = true) ∧ (y < d → passB (totN zs) x y s = false) := fun d hd => ⟨fun h => by rw [HPB.out]; exact decide_eq_true (by omega), fun h => by rw [HPB.out]; exact decide_eq_false (by omega)⟩
                have KEY := Lib.hid key
                clear key
                by_cases r0 : r = 0
                · subst r0
                  have hd : Hid (u + 1 = totN zs) := by have := HWD.out; rw [if_pos rfl] at this; exact this
                  rcases ilt y (totN zs) with c1 | c1
                  · have HCV := Lib.hid ((KEY.out _ hd.out).2 c1)
                    go_wp2_with (go_at_call 86; refine (CM.out _).mono ?_; rintro e w' ⟨rfl, rfl⟩)
                    go_roundw
                    case rel => exact ⟨j + 1, by omega, by go_num, ⟨_, rfl, by rw [HST.out, if_neg (by rw [HCV.out]; simp)]; exact HOWN.out⟩, HO.out⟩
                    case measure => simp [intOf]; omega
                  · have HCV := Lib.hid ((KEY.out _ hd.out).1 c1)
                    go_wp2_with first | (go_at_call 86; refine (CM.out _).mono ?_; rintro e w' ⟨rfl, rfl⟩) | (at_builtin; refine wpList_append_k _ rfl _ _ 40 rfl (w.heap.size + 1) 2 i0 (.int .i64 0) 1 8 Try.underlying40 hi hz0 hz1 hz2 rfl (by decide) _ _ _ rfl (HOWN.out.alloc _) ⟨wB.heap.size, 0, none⟩ 1 1 [.int .i64 m] rfl rfl (one_news _ _ _) (by simp [Value.oneCell']) (by decide) (by unfold maxLen; omega) (by omega) (by simp; omega) ?_; intro g2 c2 w1 hown1 hbel hkp hfar hsz1; have HOWN1 := Lib.hid hown1; have HBEL := Lib.hid hbel; clear hown1 hbel hkp hfar)
                    go_roundw
                    case rel => exact ⟨j + 1, by omega, by go_num, ⟨_, rfl, by rw [HST.out, if_pos HCV.out]; simpa using HOWN1.out⟩, Below.trans (HO.out.alloc _).below (HBEL.out.mono (Nat.le_of_eq (World.size_alloc _ _)))⟩
                    case measure => simp [intOf]; omega
                · have hrb : (r == 0) = false := by simpa using r0
                  have hd : Hid (u + 1 = r) := by have := HWD.out; rw [if_neg r0] at this; exact this
                  rcases ilt y r with c1 | c1
                  · have HCV := Lib.hid ((KEY.out _ hd.out).2 c1)
                    go_wp2_with (go_at_call 86; refine (CM.out _).mono ?_; rintro e w' ⟨rfl, rfl⟩)
                    go_roundw
                    case rel => exact ⟨j + 1, by omega, by go_num, ⟨_, rfl, by rw [HST.out, if_neg (by rw [HCV.out]; simp)]; exact HOWN.out⟩, HO.out⟩
                    case measure => simp [intOf]; omega
                  · have HCV := Lib.hid ((KEY.out _ hd.out).1 c1)
                    go_wp2_with first | (go_at_call 86; refine (CM.out _).mono ?_; rintro e w' ⟨rfl, rfl⟩) | (at_builtin; refine wpList_append_k _ rfl _ _ 40 rfl (w.heap.size + 1) 2 i0 (.int .i64 0) 1 8 Try.underlying40 hi hz0 hz1 hz2 rfl (by decide) _ _ _ rfl (HOWN.out.alloc _) ⟨wB.heap.size, 0, none⟩ 1 1 [.int .i64 m] rfl rfl (one_news _ _ _) (by simp [Value.oneCell']) (by decide) (by unfold maxLen; omega) (by omega) (by simp; omega) ?_; intro g2 c2 w1 hown1 hbel hkp hfar hsz1; have HOWN1 := Lib.hid hown1; have HBEL := Lib.hid hbel; clear hown1 hbel hkp hfar)
                    go_roundw
                    case rel => exact ⟨j + 1, by omega, by go_num, ⟨_, rfl, by rw [HST.out, if_pos HCV.out]; simpa using HOWN1.out⟩, Below.trans (HO.out.alloc _).below (HBEL.out.mono (Nat.le_of_eq (World.size_alloc _ _)))⟩
                    case measure => simp [intOf]; omega
              · obtain rfl : j = k := by omega
                obtain ⟨q2, c2, rfl, hq2⟩ := ownQ_of_own (sz := 1) (f := fun i => (spN (totN zs) x y ys f j j).getD i 0) (n := (spN (totN zs) x y ys f j j).length) (by rw [Nat.mul_one, ← map_rowV]; exact HOWN.out) (by omega)
                have HQ2 := Lib.hid hq2
                clear hq2
                go_wp2
                go_ret2
                rw [HF.out]
                exact ⟨q2, c2, rfl, ⟨HQ2.out.1, fun a ha => ⟨by have := (HQ2.out.2.1 a ha).1; omega, (HQ2.out.2.1 a ha).2⟩, HQ2.out.2.2⟩, bto (balloc (Below.refl _ _) _) HO.out.below⟩
          · have hkf : (k : Int) ≤ (f : Int) := by omega
            clear hgo hlt
            go_wp2
            clear hkf
            go_loopw [14, 15] (fun v i wr => ∃ j : Nat, j ≤ k ∧ i = .int .i64 j ∧ (∃ v0 : Value, v0 = v ∧ wr.ownsRow (w.heap.size + 1) 2 1 v0 (spN (totN zs) x y ys f k j).length ((spN (totN zs) x y ys f k j).map (Value.int .i64))) ∧ Own (w.alloc (Obj.cells #[.slice p n cap] 26)) wr) (fun _ i _ => (k - intOf i).toNat)
            case atStart => exact ⟨0, Nat.zero_le _, rfl, ⟨_, rfl, hown0.out⟩, O3.out.alloc _⟩
            case round =>
              obtain ⟨j, hj, rfl, ⟨v, rfl, how⟩, hown⟩ := hrel
              obtain ⟨wB, rfl⟩ : ∃ wB : World, wB = wr := ⟨_, rfl⟩
              have HO := Lib.hid hown
              have HOWN := Lib.hid how
              have hlB : w.heap.size + 1 ≤ wB.heap.size := by have := hown.le; simpa using this
              have hcl := spN_len (totN zs) x y ys f k j
              have hsl := how.lt
              clear hown how
              by_cases hlt : j < k
              · obtain ⟨m, hm⟩ : ∃ m, m = (f + j) % k := ⟨_, rfl⟩
                have hmk : m < k := by rw [hm]; exact Nat.mod_lt _ (by omega)
                obtain ⟨b, off, hqe, hc⟩ := (HQ.out.own HO.out).2.2 (by omega)
                have HQE := Lib.hid hqe
                subst hqe
                have hck := hc m hmk
                have hji : (j : Int) < (k : Int) := by omega
                have hmi : (m : Int) < (k : Int) := by omega
                have hm0 : (0 : Int) ≤ (m : Int) := by omega
                have hkz : ((k : Int) == 0) = false := by simp; omega
                have hkn : ¬ (k : Int) = 0 := by omega
                have htm : ((f : Int) + (j : Int)).tmod (k : Int) = (m : Int) := by
                  rw [Int.tmod_eq_emod_of_nonneg (by omega), hm]
                  simp
                have hst : spN (totN zs) x y ys f k (j + 1) = if passB (totN zs) x y (ys.getD m 0) = true then spN (totN zs) x y ys f k j ++ [(m : Int)] else spN (totN zs) x y ys f k j := by rw [hm]; rfl
                have hrs := HRis.out m (by have := HZ.out; omega)
                obtain ⟨s, hs⟩ : ∃ s, s = ys.getD m 0 := ⟨_, rfl⟩
                rw [← hs] at hck hst hrs
                have hwd := way_d (t := totN zs) (x := x) (s := s) (by omega) (by omega)
                have HST := Lib.hid hst
                have bs : 0 ≤ s ∧ s < totN zs := ⟨hrs.1, hrs.2.1⟩
                have hr0 : 0 ≤ (s - x) % totN zs := Int.emod_nonneg _ (by omega)
                have hr1 : (s - x) % totN zs < totN zs := Int.emod_lt_of_pos _ (by omega)
                have CM : Hid (∀ W, Calls Try.prog 86 #[.int .i64 (s - x), .int .i64 (totN zs)] W fun e w' => e = .returned (.int .i64 ((s - x) % totN zs)) ∧ W = w') := fun W => s_l05Mod (s - x) (totN zs) (by omega) (by omega) W
                have HPB : Hid (passB (totN zs) x y s = decide (wayN (totN zs) x s < y)) := rfl
                generalize wayN (totN zs) x s = u at *
                generalize (s - x) % totN zs = r at *
                have HWD := Lib.hid hwd
                clear hc hs hst hm hrs hwd
                have key : ∀ d : Int, u + 1 = d → (d ≤ y → passB (totN zs) x y s = true) ∧ (y < d → passB (totN zs) x y s = false) := fun d hd => ⟨fun h => by rw [HPB.out]; exact decide_eq_true (by omega), fun h => by rw [HPB.out]; exact decide_eq_false (by omega)⟩
                have KEY := Lib.hid key
                clear key
                by_cases r0 : r = 0
                · subst r0
                  have hd : Hid (u + 1 = totN zs) := by have := HWD.out; rw [if_pos rfl] at this; exact this
                  rcases ilt y (totN zs) with c1 | c1
                  · have HCV := Lib.hid ((KEY.out _ hd.out).2 c1)
                    go_wp2_with (go_at_call 86; refine (CM.out _).mono ?_; rintro e w' ⟨rfl, rfl⟩)
                    go_roundw
                    case rel => exact ⟨j + 1, by omega, by go_num, ⟨_, rfl, by rw [HST.out, if_neg (by rw [HCV.out]; simp)]; exact HOWN.out⟩, HO.out⟩
                    case measure => simp [intOf]; omega
                  · have HCV := Lib.hid ((KEY.out _ hd.out).1 c1)
                    go_wp2_with first | (go_at_call 86; refine (CM.out _).mono ?_; rintro e w' ⟨rfl, rfl⟩) | (at_builtin; refine wpList_append_k _ rfl _ _ 40 rfl (w.heap.size + 1) 2 i0 (.int .i64 0) 1 8 Try.underlying40 hi hz0 hz1 hz2 rfl (by decide) _ _ _ rfl (HOWN.out.alloc _) ⟨wB.heap.size, 0, none⟩ 1 1 [.int .i64 m] rfl rfl (one_news _ _ _) (by simp [Value.oneCell']) (by decide) (by unfold maxLen; omega) (by omega) (by simp; omega) ?_; intro g2 c2 w1 hown1 hbel hkp hfar hsz1; have HOWN1 := Lib.hid hown1; have HBEL := Lib.hid hbel; clear hown1 hbel hkp hfar)
                    go_roundw
                    case rel => exact ⟨j + 1, by omega, by go_num, ⟨_, rfl, by rw [HST.out, if_pos HCV.out]; simpa using HOWN1.out⟩, Below.trans (HO.out.alloc _).below (HBEL.out.mono (Nat.le_of_eq (World.size_alloc _ _)))⟩
                    case measure => simp [intOf]; omega
                · have hrb : (r == 0) = false := by simpa using r0
                  have hd : Hid (u + 1 = r) := by have := HWD.out; rw [if_neg r0] at this; exact this
                  rcases ilt y r with c1 | c1
                  · have HCV := Lib.hid ((KEY.out _ hd.out).2 c1)
                    go_wp2_with (go_at_call 86; refine (CM.out _).mono ?_; rintro e w' ⟨rfl, rfl⟩)
                    go_roundw
                    case rel => exact ⟨j + 1, by omega, by go_num, ⟨_, rfl, by rw [HST.out, if_neg (by rw [HCV.out]; simp)]; exact HOWN.out⟩, HO.out⟩
                    case measure => simp [intOf]; omega
                  · have HCV := Lib.hid ((KEY.out _ hd.out).1 c1)
                    go_wp2_with first | (go_at_call 86; refine (CM.out _).mono ?_; rintro e w' ⟨rfl, rfl⟩) | (at_builtin; refine wpList_append_k _ rfl _ _ 40 rfl (w.heap.size + 1) 2 i0 (.int .i64 0) 1 8 Try.underlying40 hi hz0 hz1 hz2 rfl (by decide) _ _ _ rfl (HOWN.out.alloc _) ⟨wB.heap.size, 0, none⟩ 1 1 [.int .i64 m] rfl rfl (one_news _ _ _) (by simp [Value.oneCell']) (by decide) (by unfold maxLen; omega) (by omega) (by simp; omega) ?_; intro g2 c2 w1 hown1 hbel hkp hfar hsz1; have HOWN1 := Lib.hid hown1; have HBEL := Lib.hid hbel; clear hown1 hbel hkp hfar)
                    go_roundw
                    case rel => exact ⟨j + 1, by omega, by go_num, ⟨_, rfl, by rw [HST.out, if_pos HCV.out]; simpa using HOWN1.out⟩, Below.trans (HO.out.alloc _).below (HBEL.out.mono (Nat.le_of_eq (World.size_alloc _ _)))⟩
                    case measure => simp [intOf]; omega
              · obtain rfl : j = k := by omega
                obtain ⟨q2, c2, rfl, hq2⟩ := ownQ_of_own (sz := 1) (f := fun i => (spN (totN zs) x y ys f j j).getD i 0) (n := (spN (totN zs) x y ys f j j).length) (by rw [Nat.mul_one, ← map_rowV]; exact HOWN.out) (by omega)
                have HQ2 := Lib.hid hq2
                clear hq2
                go_wp2
                go_ret2
                rw [HF.out]
                exact ⟨q2, c2, rfl, ⟨HQ2.out.1, fun a ha => ⟨by have := (HQ2.out.2.1 a ha).1; omega, (HQ2.out.2.1 a ha).2⟩, HQ2.out.2.2⟩, bto (balloc (Below.refl _ _) _) HO.out.below⟩
    · obtain ⟨d, hd⟩ : ∃ d, code05 zs x y 0 1000000000000 = d := ⟨_, rfl⟩
      rw [hd] at CC hcd
      obtain ⟨hL1, hC1⟩ := pa_code hsen hd hcd
      rw [hL1, hC1]
      have hb0 : (d == 0) = false := by simpa using hcd
      have hb1 : (d != 0) = true := by simpa using hcd
      clear hd hL1 hC1 hs hsen
      go_enter Try.func42, Try.ntmps42
      go_wp2_with fail
      refine (CS.out _ HIN'.out HQ.out).mono ?_
      rintro e w1 ⟨rfl, hb⟩
      replace O := O.join hb
      have c0 := (below_box (k := w.heap.size) O.below (by simp)).1 0
      rw [show (w.alloc (Obj.cells #[.slice p n cap] 26)).cell? ⟨w.heap.size, 0, none⟩ = some (.slice p n cap) by go_simp] at c0
      clear hb
      go_wp2_with fail
      refine (CC.out _ (HIN'.out.own O)).mono ?_
      rintro e w2 ⟨rfl, hb⟩
      replace O := O.join hb
      clear hb
      go_wp2
      go_ret2
      exact ⟨none, 0, rfl, OwnQ.nil _ _ _ _ _, bto (balloc (Below.refl _ _) _) O.below⟩
  · obtain ⟨hL1, hC1⟩ := pa_bad (x := x) (y := y) hs
    rw [hL1, hC1]
    rw [hs] at CS
    clear hL1 hC1 hs
    go_enter Try.func42, Try.ntmps42
    go_wp2_with fail
    refine (CS.out _ HIN'.out HQ.out).mono ?_
    rintro e w1 ⟨rfl, hb⟩
    replace O := O.join hb
    clear hb
    go_wp2
    go_ret2
    exact ⟨none, 0, rfl, OwnQ.nil _ _ _ _ _, bto (balloc (Below.refl _ _) _) O.below⟩

end Go.Proofs.Ytgkfnggnhphboaa
