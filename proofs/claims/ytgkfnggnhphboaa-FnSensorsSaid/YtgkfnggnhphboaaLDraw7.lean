/- Contracts and lemmas for the proofs of this seat: LDraw7. -/
import Derived.Test.YtgkfnggnhphboaaLDraw6
import Derived.Test.YtgkfnggnhphboaaLDraw5
import Derived.Test.YtgkfnggnhphboaaLDraw3
import Derived.Test.YtgkfnggnhphboaaLDraw2
import Derived.Test.YtgkfnggnhphboaaLDraw
import Derived.Test.YtgkfnggnhphboaaDRow
import Derived.Test.YtgkfnggnhphboaaDraw3
import Derived.Test.YtgkfnggnhphboaaDraw2
import Derived.Test.YtgkfnggnhphboaaDraw
import Derived.Test.YtgkfnggnhphboaaBase
import Derived.Test.YtgkfnggnhphboaaNum
import Derived.Test.YtgkfnggnhphboaaIv
import Derived.Test.YtgkfnggnhphboaaIv2
import Derived.Test.YtgkfnggnhphboaaRoot
import Derived.Test.YtgkfnggnhphboaaEn
import Derived.Test.YtgkfnggnhphboaaSeg
import Derived.Test.YtgkfnggnhphboaaList
import Derived.Test.YtgkfnggnhphboaaLay
import Derived.Test.YtgkfnggnhphboaaLay2
import Derived.Test.YtgkfnggnhphboaaLay3
import Derived.Lib.Hide
import Derived.BigQuiet
import Derived.Deep.QuietTactic
import Derived.Deep.OwnRows
import Derived.Deep.LoopGhost
import Derived.OneCell
import Derived.Lib.SmallJoins
import Derived.StillTailTactics
import Derived.RangeFuncBox
import Derived.Deep.RegionHeld3
import Derived.Deep.DeepCutAuto
namespace Go.Proofs.Ytgkfnggnhphboaa
open Go.RowKit Go.Deep
set_option maxHeartbeats 2000000
set_option linter.unusedVariables false
set_option linter.unusedSimpArgs false

set_option maxRecDepth 100000 in
theorem s_l05DrawSensors (b : Nat) (q : Option Addr) (m c : Nat) (zs : List Seg) (hm : m ≤ 1000) (p : Option Addr) (n cap : Nat) (w : World) (hS : Segs w q m zs) (hs : Src b p n cap w) :
    Calls Try.prog 109 #[.pointer (some ⟨b, 0, none⟩), .agg #[.slice q m c]] w (DrawnFr b p n cap w) := by
  obtain ⟨i0, hi, hz0, hz1, hz2⟩ := info_parts (P := Try.prog) (e := 2) (z := .int .i64 0) (size := 1) (bytes := 8) (by kernel_rfl)
  have hD := Dw.start hs
  have hb := hs.lt
  go_enter Try.func109, Try.ntmps109
  go_upto_region 1 with fail
  go_cut [5] (fun s7 wx => ∃ t : Int, 1 ≤ t ∧ s7 = .int .i64 t ∧ Dw b p n cap w wx [])
  case first =>
    go_wp2_with (go_at_call 81; refine (s_l03Total_any q m c zs _ (hS.keep ((Below.refl _ _).alloc (Nat.le_refl _) _)) (by omega)).mono ?_; rintro e w' ⟨x, rfl, -, hbel⟩; replace hD : Dw b p n cap w w' [] := Dw.below (by (repeat (first | with_reducible assumption | focus ((with_reducible refine Dw.new' ?_ ?_ ?_ ?_); rotate_left; (focus exact trivial); (focus rfl); (focus first | rfl | (simp; done))) | with_reducible refine Dw.alloc ?_ _ | with_reducible refine Dw.drew ?_ | with_reducible refine Dw.drewN ?_ _ | focus ((with_reducible refine Dw.set ?_ ?_ ?_ _); rotate_left; (focus (first | omega | (simp; done) | (simp; omega) | (have := Dw.size (by assumption); simp; omega))); (focus (first | omega | (simp; omega))))))) hbel; clear hbel)
    all_goals go_meet
    all_goals exact ⟨_, by first | omega | (simp; omega), rfl, hD⟩
  case rest =>
  obtain ⟨t, ht, rfl, hD⟩ := hcut
  clear hS
  have hR := Row.empty wc w.heap.size 2 1 hD.size
  obtain ⟨wA, rfl⟩ : ∃ wA : World, wA = wc := ⟨_, rfl⟩
  go_upto_region 4 with (go_at_call 68; refine (s_l01Next b _ p n cap _ (Dw.src (w := w) (ks := []) (by (repeat (first | with_reducible assumption | focus ((with_reducible refine Dw.new' ?_ ?_ ?_ ?_); rotate_left; (focus exact trivial); (focus rfl); (focus first | rfl | (simp; done))) | with_reducible refine Dw.alloc ?_ _ | with_reducible refine Dw.drew ?_ | with_reducible refine Dw.drewN ?_ _ | focus ((with_reducible refine Dw.set ?_ ?_ ?_ _); rotate_left; (focus (first | omega | (simp; done) | (simp; omega) | (have := Dw.size (by assumption); simp; omega))); (focus (first | omega | (simp; omega))))))))).mono ?_; rintro e w' ⟨x, rfl, h0, h1, h2, hS, hO1⟩; (try simp only [Int.reduceLT, Int.reduceLE, forall_const, false_implies] at h1 h2); replace hR : Row w' w.heap.size 2 1 (.slice (some ⟨wA.heap.size, 0, none⟩) 0 0) 0 := Row.only (by (repeat (first | with_reducible assumption | with_reducible refine Row.alloc ?_ _ | with_reducible refine Row.drew ?_ | with_reducible refine Row.drewN ?_ _))) hO1 (by omega); replace hD : Dw b p n cap w w' [] := Dw.next (by (repeat (first | with_reducible assumption | focus ((with_reducible refine Dw.new' ?_ ?_ ?_ ?_); rotate_left; (focus exact trivial); (focus rfl); (focus first | rfl | (simp; done))) | with_reducible refine Dw.alloc ?_ _ | with_reducible refine Dw.drew ?_ | with_reducible refine Dw.drewN ?_ _ | focus ((with_reducible refine Dw.set ?_ ?_ ?_ _); rotate_left; (focus (first | omega | (simp; done) | (simp; omega) | (have := Dw.size (by assumption); simp; omega))); (focus (first | omega | (simp; omega))))))) hS hO1; clear hS hO1)
  go_loopw [6, 7] (fun v a wr => ∃ (m g c : Nat) (z : Int), v = .slice (some ⟨g, 0, none⟩) m c ∧ m ≤ 12 ∧ a = .int .i64 z ∧ Row wr w.heap.size 2 1 (.slice (some ⟨g, 0, none⟩) m c) m ∧ Dw b p n cap w wr []) (fun v _ _ => 12 - (match v with | .slice _ m _ => m | _ => 0))
  case atStart => exact ⟨0, _, _, _, rfl, by omega, rfl, hR, hD⟩
  case round =>
    clear hR hD h0 h1 h2
    obtain ⟨m, g, c, z, rfl, hm, rfl, hR, hD⟩ := hrel
    by_cases hk : z < t ∧ m < 12
    · obtain ⟨hz, hk⟩ := hk
      have hk1 : (m : Int) < 12 := by omega
      go_wp2_with first | (at_builtin; obtain ⟨zs, hZ⟩ := hR; refine wpList_append_k _ rfl _ _ 40 rfl (w.heap.size) 2 i0 (.int .i64 0) 1 8 Try.underlying40 hi hz0 hz1 hz2 rfl (by decide) _ _ _ rfl (how_keepA hZ _) ⟨wr.heap.size, 0, none⟩ 1 1 [.int .i64 z] rfl rfl (one_news _ _ _) (by simp [Value.oneCell']) (by decide) (by unfold maxLen; omega) (by omega) (by have := hD.size; have := hD.ltb; simp; omega) ?_; intro g2 c2 w1 hown1 hbel hkp hfar hsz1; replace hD : Dw b p n cap w w1 [] := Dw.row (W := wr.alloc (.cells #[.int .i64 z] 2)) (by (repeat (first | with_reducible assumption | focus ((with_reducible refine Dw.new' ?_ ?_ ?_ ?_); rotate_left; (focus exact trivial); (focus rfl); (focus first | rfl | (simp; done))) | with_reducible refine Dw.alloc ?_ _ | with_reducible refine Dw.drew ?_ | with_reducible refine Dw.drewN ?_ _ | focus ((with_reducible refine Dw.set ?_ ?_ ?_ _); rotate_left; (focus (first | omega | (simp; done) | (simp; omega) | (have := Dw.size (by assumption); simp; omega))); (focus (first | omega | (simp; omega))))))) hbel (by omega) (by omega) (by simp); have hR := Row.grown zs z hown1; clear hown1 hbel hkp hfar hsz1 hZ) | (go_at_call 68; refine (s_l01Next b _ p n cap _ (Dw.src (w := w) (ks := []) (by (repeat (first | with_reducible assumption | focus ((with_reducible refine Dw.new' ?_ ?_ ?_ ?_); rotate_left; (focus exact trivial); (focus rfl); (focus first | rfl | (simp; done))) | with_reducible refine Dw.alloc ?_ _ | with_reducible refine Dw.drew ?_ | with_reducible refine Dw.drewN ?_ _ | focus ((with_reducible refine Dw.set ?_ ?_ ?_ _); rotate_left; (focus (first | omega | (simp; done) | (simp; omega) | (have := Dw.size (by assumption); simp; omega))); (focus (first | omega | (simp; omega))))))))).mono ?_; rintro e w' ⟨x, rfl, h0, h1, h2, hS, hO1⟩; (try simp only [Int.reduceLT, Int.reduceLE, forall_const, false_implies] at h1 h2); replace hR : Row w' w.heap.size 2 1 (.slice (some ⟨g2, 0, none⟩) (m + 1) c2) (m + 1) := Row.only (by (repeat (first | with_reducible assumption | with_reducible refine Row.alloc ?_ _ | with_reducible refine Row.drew ?_ | with_reducible refine Row.drewN ?_ _))) hO1 (by omega); replace hD : Dw b p n cap w w' [] := Dw.next (by (repeat (first | with_reducible assumption | focus ((with_reducible refine Dw.new' ?_ ?_ ?_ ?_); rotate_left; (focus exact trivial); (focus rfl); (focus first | rfl | (simp; done))) | with_reducible refine Dw.alloc ?_ _ | with_reducible refine Dw.drew ?_ | with_reducible refine Dw.drewN ?_ _ | focus ((with_reducible refine Dw.set ?_ ?_ ?_ _); rotate_left; (focus (first | omega | (simp; done) | (simp; omega) | (have := Dw.size (by assumption); simp; omega))); (focus (first | omega | (simp; omega))))))) hS hO1; clear hS hO1)
      all_goals
        exact ⟨⟨m + 1, _, _, _, rfl, by omega, rfl, hR, hD⟩, by simp; omega⟩
    · have hkk : (z < t ∧ ¬ m < 12) ∨ ¬ z < t := by omega
      have hm2 : m ≤ 100 := by omega
      have hm12 : ¬ z < t ∨ ¬ (m : Int) < 12 := by omega
      go_upto_region 7 with fail
      all_goals
        go_cut [33] (fun s45 wx => ∃ y : Int, s45 = .int .i64 y ∧ Row wx w.heap.size 2 1 (.slice (some ⟨g, 0, none⟩) m c) m ∧ Dw b p n cap w wx [])
        case first =>
          go_wp2_with (go_at_call 68; refine (s_l01Next b _ p n cap _ (Dw.src (w := w) (ks := []) (by (repeat (first | with_reducible assumption | focus ((with_reducible refine Dw.new' ?_ ?_ ?_ ?_); rotate_left; (focus exact trivial); (focus rfl); (focus first | rfl | (simp; done))) | with_reducible refine Dw.alloc ?_ _ | with_reducible refine Dw.drew ?_ | with_reducible refine Dw.drewN ?_ _ | focus ((with_reducible refine Dw.set ?_ ?_ ?_ _); rotate_left; (focus (first | omega | (simp; done) | (simp; omega) | (have := Dw.size (by assumption); simp; omega))); (focus (first | omega | (simp; omega))))))))).mono ?_; rintro e w' ⟨x, rfl, h0, h1, h2, hS, hO1⟩; (try simp only [Int.reduceLT, Int.reduceLE, forall_const, false_implies] at h1 h2); replace hR : Row w' w.heap.size 2 1 (.slice (some ⟨g, 0, none⟩) m c) m := Row.only (by (repeat (first | with_reducible assumption | with_reducible refine Row.alloc ?_ _ | with_reducible refine Row.drew ?_ | with_reducible refine Row.drewN ?_ _))) hO1 (by omega); replace hD : Dw b p n cap w w' [] := Dw.next (by (repeat (first | with_reducible assumption | focus ((with_reducible refine Dw.new' ?_ ?_ ?_ ?_); rotate_left; (focus exact trivial); (focus rfl); (focus first | rfl | (simp; done))) | with_reducible refine Dw.alloc ?_ _ | with_reducible refine Dw.drew ?_ | with_reducible refine Dw.drewN ?_ _ | focus ((with_reducible refine Dw.set ?_ ?_ ?_ _); rotate_left; (focus (first | omega | (simp; done) | (simp; omega) | (have := Dw.size (by assumption); simp; omega))); (focus (first | omega | (simp; omega))))))) hS hO1; clear hS hO1)
          go_meet
          exact ⟨_, rfl, hR, hD⟩
        case rest =>
        clear hR hD
        obtain ⟨y, rfl, hR, hD⟩ := hcut
        obtain ⟨wB, rfl⟩ : ∃ wB : World, wB = wc := ⟨_, rfl⟩
        by_cases h0 : y = 0
        · subst h0
          go_wp2_with first | (go_at_call 111; refine (s_pickA b _ _ p n cap _ (Dw.src (w := w) (ks := []) (by (repeat (first | with_reducible assumption | focus ((with_reducible refine Dw.new' ?_ ?_ ?_ ?_); rotate_left; (focus exact trivial); (focus rfl); (focus first | rfl | (simp; done))) | with_reducible refine Dw.alloc ?_ _ | with_reducible refine Dw.drew ?_ | with_reducible refine Dw.drewN ?_ _ | focus ((with_reducible refine Dw.set ?_ ?_ ?_ _); rotate_left; (focus (first | omega | (simp; done) | (simp; omega) | (have := Dw.size (by assumption); simp; omega))); (focus (first | omega | (simp; omega)))))))) ?_ ?_).mono ?_; (refine ⟨_, _, _, rfl, rfl, Dw.ltb (w := w) (ks := []) (by (repeat (first | with_reducible assumption | focus ((with_reducible refine Dw.new' ?_ ?_ ?_ ?_); rotate_left; (focus exact trivial); (focus rfl); (focus first | rfl | (simp; done))) | with_reducible refine Dw.alloc ?_ _ | with_reducible refine Dw.drew ?_ | with_reducible refine Dw.drewN ?_ _ | focus ((with_reducible refine Dw.set ?_ ?_ ?_ _); rotate_left; (focus (first | omega | (simp; done) | (simp; omega) | (have := Dw.size (by assumption); simp; omega))); (focus (first | omega | (simp; omega))))))), rfl, ?_⟩; (focus simp)); (focus (unfold maxLen; omega)); rintro e w' ⟨x, rfl, hS, hO1⟩; replace hR : Row w' w.heap.size 2 1 (.slice (some ⟨g, 0, none⟩) m c) m := Row.only (by (repeat (first | with_reducible assumption | with_reducible refine Row.alloc ?_ _ | with_reducible refine Row.drew ?_ | with_reducible refine Row.drewN ?_ _))) hO1 (by omega); replace hD : Dw b p n cap w w' [] := Dw.next (by (repeat (first | with_reducible assumption | focus ((with_reducible refine Dw.new' ?_ ?_ ?_ ?_); rotate_left; (focus exact trivial); (focus rfl); (focus first | rfl | (simp; done))) | with_reducible refine Dw.alloc ?_ _ | with_reducible refine Dw.drew ?_ | with_reducible refine Dw.drewN ?_ _ | focus ((with_reducible refine Dw.set ?_ ?_ ?_ _); rotate_left; (focus (first | omega | (simp; done) | (simp; omega) | (have := Dw.size (by assumption); simp; omega))); (focus (first | omega | (simp; omega))))))) hS hO1; clear hS hO1) | (at_builtin; obtain ⟨zs, hZ⟩ := hR; refine wpList_append_k _ rfl _ _ 40 rfl (w.heap.size) 2 i0 (.int .i64 0) 1 8 Try.underlying40 hi hz0 hz1 hz2 rfl (by decide) _ _ _ rfl (how_keepA hZ _) ⟨w'.heap.size, 0, none⟩ 1 1 [.int .i64 x] rfl rfl (one_news _ _ _) (by simp [Value.oneCell']) (by decide) (by unfold maxLen; omega) (by omega) (by have := hD.size; have := hD.ltb; simp; omega) ?_; intro g2 c2 w1 hown1 hbel hkp hfar hsz1; replace hD : Dw b p n cap w w1 [] := Dw.row (W := w'.alloc (.cells #[.int .i64 x] 2)) (by (repeat (first | with_reducible assumption | focus ((with_reducible refine Dw.new' ?_ ?_ ?_ ?_); rotate_left; (focus exact trivial); (focus rfl); (focus first | rfl | (simp; done))) | with_reducible refine Dw.alloc ?_ _ | with_reducible refine Dw.drew ?_ | with_reducible refine Dw.drewN ?_ _ | focus ((with_reducible refine Dw.set ?_ ?_ ?_ _); rotate_left; (focus (first | omega | (simp; done) | (simp; omega) | (have := Dw.size (by assumption); simp; omega))); (focus (first | omega | (simp; omega))))))) hbel (by omega) (by omega) (by simp); have hR := Row.grown zs x hown1; clear hown1 hbel hkp hfar hsz1 hZ)
          go_ret
          exact drawnFr_row hR (by omega) (Nat.le_refl _) hb hD.src hD.only
        by_cases h1 : y = 1
        · subst h1
          clear hR
          have hR := Row.empty wB w.heap.size 2 1 hD.size
          replace hD := hD.alloc (.cells #[] 2)
          go_upto_region 13 with fail
          go_loopw [6, 8] (fun v a wr => ∃ (m g c : Nat), v = .slice (some ⟨g, 0, none⟩) m c ∧ m ≤ 33 ∧ a = .int .i64 m ∧ Row wr w.heap.size 2 1 (.slice (some ⟨g, 0, none⟩) m c) m ∧ Dw b p n cap w wr []) (fun _ a _ => 40 - (intOf a).toNat)
          case atStart => exact ⟨0, _, _, rfl, by omega, rfl, hR, hD⟩
          case round =>
            clear hR hD
            obtain ⟨m, g, c, rfl, hm, rfl, hR, hD⟩ := hrel
            have hm2 : m ≤ 100 := by omega
            go_wp2_with first | (go_at_call 68; refine (s_l01Next b _ p n cap _ (Dw.src (w := w) (ks := []) (by (repeat (first | with_reducible assumption | focus ((with_reducible refine Dw.new' ?_ ?_ ?_ ?_); rotate_left; (focus exact trivial); (focus rfl); (focus first | rfl | (simp; done))) | with_reducible refine Dw.alloc ?_ _ | with_reducible refine Dw.drew ?_ | with_reducible refine Dw.drewN ?_ _ | focus ((with_reducible refine Dw.set ?_ ?_ ?_ _); rotate_left; (focus (first | omega | (simp; done) | (simp; omega) | (have := Dw.size (by assumption); simp; omega))); (focus (first | omega | (simp; omega))))))))).mono ?_; rintro e w' ⟨x, rfl, h0, h1, h2, hS, hO1⟩; (try simp only [Int.reduceLT, Int.reduceLE, forall_const, false_implies] at h1 h2); replace hR : Row w' w.heap.size 2 1 (.slice (some ⟨g, 0, none⟩) m c) m := Row.only (by (repeat (first | with_reducible assumption | with_reducible refine Row.alloc ?_ _ | with_reducible refine Row.drew ?_ | with_reducible refine Row.drewN ?_ _))) hO1 (by omega); replace hD : Dw b p n cap w w' [] := Dw.next (by (repeat (first | with_reducible assumption | focus ((with_reducible refine Dw.new' ?_ ?_ ?_ ?_); rotate_left; (focus exact trivial); (focus rfl); (focus first | rfl | (simp; done))) | with_reducible refine Dw.alloc ?_ _ | with_reducible refine Dw.drew ?_ | with_reducible refine Dw.drewN ?_ _ | focus ((with_reducible refine Dw.set ?_ ?_ ?_ _); rotate_left; (focus (first | omega | (simp; done) | (simp; omega) | (have := Dw.size (by assumption); simp; omega))); (focus (first | omega | (simp; omega))))))) hS hO1; clear hS hO1) | (at_builtin; obtain ⟨zs, hZ⟩ := hR; refine wpList_append_k _ rfl _ _ 40 rfl (w.heap.size) 2 i0 (.int .i64 0) 1 8 Try.underlying40 hi hz0 hz1 hz2 rfl (by decide) _ _ _ rfl (how_keepA hZ _) ⟨w'.heap.size, 0, none⟩ 1 1 [.int .i64 (m : Int)] rfl rfl (one_news _ _ _) (by simp [Value.oneCell']) (by decide) (by unfold maxLen; omega) (by omega) (by have := hD.size; have := hD.ltb; simp; omega) ?_; intro g2 c2 w1 hown1 hbel hkp hfar hsz1; replace hD : Dw b p n cap w w1 [] := Dw.row (W := w'.alloc (.cells #[.int .i64 (m : Int)] 2)) (by (repeat (first | with_reducible assumption | focus ((with_reducible refine Dw.new' ?_ ?_ ?_ ?_); rotate_left; (focus exact trivial); (focus rfl); (focus first | rfl | (simp; done))) | with_reducible refine Dw.alloc ?_ _ | with_reducible refine Dw.drew ?_ | with_reducible refine Dw.drewN ?_ _ | focus ((with_reducible refine Dw.set ?_ ?_ ?_ _); rotate_left; (focus (first | omega | (simp; done) | (simp; omega) | (have := Dw.size (by assumption); simp; omega))); (focus (first | omega | (simp; omega))))))) hbel (by omega) (by omega) (by simp); have hR := Row.grown zs (m : Int) hown1; clear hown1 hbel hkp hfar hsz1 hZ)
            · exact ⟨⟨m + 1, _, _, rfl, by omega, by go_num, hR, hD⟩, by simp [intOf]; omega⟩
            · go_ret
              exact drawnFr_row hR (by omega) (Nat.le_refl _) hb hD.src hD.only
        have t0 : (y == 0) = false := by simpa using h0
        have t1 : (y == 1) = false := by simpa using h1
        go_wp2_with fail
        go_ret
        exact drawnFr_row hR (by omega) (Nat.le_refl _) hb hD.src hD.only

end Go.Proofs.Ytgkfnggnhphboaa
