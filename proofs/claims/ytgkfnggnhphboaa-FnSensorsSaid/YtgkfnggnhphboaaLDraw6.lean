/- Contracts and lemmas for the proofs of this seat: LDraw6. -/
import Derived.Test.YtgkfnggnhphboaaLDraw5
import Derived.Test.YtgkfnggnhphboaaLDraw3
import Derived.Test.YtgkfnggnhphboaaLDraw2
import Derived.Test.YtgkfnggnhphboaaLDraw
import Derived.Test.YtgkfnggnhphboaaDRow
import Derived.Test.YtgkfnggnhphboaaDraw3
import Derived.Test.YtgkfnggnhphboaaDraw2
import Derived.Test.YtgkfnggnhphboaaDraw
import Derived.Test.YtgkfnggnhphboaaBase
import Derived.Test.YtgkfnggnhphboaaNum
import Derived.Test.YtgkfnggnhphboaaIv
import Derived.Test.YtgkfnggnhphboaaIv2
import Derived.Test.YtgkfnggnhphboaaRoot
import Derived.Test.YtgkfnggnhphboaaEn
import Derived.Test.YtgkfnggnhphboaaSeg
import Derived.Test.YtgkfnggnhphboaaList
import Derived.Test.YtgkfnggnhphboaaLay
import Derived.Test.YtgkfnggnhphboaaLay2
import Derived.Test.YtgkfnggnhphboaaLay3
import Derived.Lib.Hide
import Derived.BigQuiet
import Derived.Deep.QuietTactic
import Derived.Deep.OwnRows
import Derived.Deep.LoopGhost
import Derived.OneCell
import Derived.Lib.SmallJoins
import Derived.StillTailTactics
import Derived.RangeFuncBox
import Derived.Deep.RegionHeld3
import Derived.Deep.DeepCutAuto
namespace Go.Proofs.Ytgkfnggnhphboaa
open Go.RowKit Go.Deep
set_option maxHeartbeats 2000000
set_option linter.unusedVariables false
set_option linter.unusedSimpArgs false

theorem Ints.blockwise {k : IntKind} {w w' : World} {g n : Nat} {zs : List Int} (h : Ints k w (some ⟨g, 0, none⟩) n zs) (hb : w'.heap[g]? = w.heap[g]?) : Ints k w' (some ⟨g, 0, none⟩) n zs := by
  refine ⟨h.1, h.2.1, fun hn => ?_⟩
  obtain ⟨b, off, e, hc⟩ := h.2.2 hn
  simp only [Option.some.injEq, Addr.mk.injEq, and_true] at e
  obtain ⟨rfl, rfl⟩ := e
  exact ⟨g, 0, rfl, fun i hi => (World.cell?_of_block (w := w) (a := ⟨g, 0 + i, none⟩) hb).trans (hc i hi)⟩
theorem Ints.only {k : IntKind} {b : Nat} {w w' : World} {g n : Nat} {zs : List Int} (h : Ints k w (some ⟨g, 0, none⟩) n zs) (hO : Only b w w') (hne : g ≠ b) : Ints k w' (some ⟨g, 0, none⟩) n zs := by
  rcases Nat.eq_zero_or_pos n with h0 | h0
  · subst h0
    exact ⟨h.1, h.2.1, fun hn => by omega⟩
  · obtain ⟨b', off, e, hc⟩ := h.2.2 h0
    simp only [Option.some.injEq, Addr.mk.injEq, and_true] at e
    obtain ⟨rfl, rfl⟩ := e
    exact h.blockwise (hO.block g (World.block_lt_of_cell? w _ (hc 0 h0)) hne)
theorem Ints.set {k : IntKind} {w : World} {g n : Nat} {zs : List Int} (h : Ints k w (some ⟨g, 0, none⟩) n zs) {q : Addr} (hne : g ≠ q.block) (v : Value) : Ints k (w.setCell q v) (some ⟨g, 0, none⟩) n zs := h.blockwise (Below.heap_setCell w q v g hne)
def DrawnFr (b : Nat) (p : Option Addr) (n cap : Nat) (w : World) (e : Ending) (w' : World) : Prop :=
  ∃ (g k c : Nat) (ys : List Int), e = .returned (.slice (some ⟨g, 0, none⟩) k c) ∧ k ≤ 1000 ∧ k ≤ c ∧ Ints .i64 w' (some ⟨g, 0, none⟩) k ys ∧ g ≠ b ∧ w.heap.size ≤ g ∧ Src b p n cap w' ∧ Only b w w'
theorem drawnFr_row {b : Nat} {p : Option Addr} {n cap : Nat} {w w' : World} {g k c B : Nat} {t : TypeId} (hR : Row w' B t 1 (.slice (some ⟨g, 0, none⟩) k c) k) (hk : k ≤ 1000) (hB : w.heap.size ≤ B) (hb : b < w.heap.size) (hS : Src b p n cap w') (hO : Only b w w') : DrawnFr b p n cap w (.returned (.slice (some ⟨g, 0, none⟩) k c)) w' := by
  have hc := hR.capm
  have hg := hR.base
  obtain ⟨q, c', zs, e, hI, -⟩ := hR.ints (by unfold maxLen; omega)
  simp only [Value.slice.injEq] at e
  obtain ⟨rfl, -, rfl⟩ := e
  exact ⟨g, k, c, zs, rfl, hk, hc.1, hI, by omega, by omega, hS, hO⟩

set_option maxRecDepth 100000 in
theorem s_l05DrawFronts (b : Nat) (q : Option Addr) (m c : Nat) (zs : List Seg) (hm : m ≤ 1000) (x0 : Int) (p : Option Addr) (n cap : Nat) (w : World) (hS : Segs w q m zs) (hs : Src b p n cap w) :
    Calls Try.prog 95 #[.pointer (some ⟨b, 0, none⟩), .agg #[.slice q m c], .int .i64 x0] w (DrawnFr b p n cap w) := by
  obtain ⟨i0, hi, hz0, hz1, hz2⟩ := info_parts (P := Try.prog) (e := 2) (z := .int .i64 0) (size := 1) (bytes := 8) (by kernel_rfl)
  have hD := Dw.start hs
  have hb := hs.lt
  go_enter Try.func95, Try.ntmps95
  go_upto_region 1 with fail
  go_cut [7] (fun s7 wx => ∃ t : Int, 1 ≤ t ∧ s7 = .int .i64 t ∧ Dw b p n cap w wx [])
  case first =>
    go_wp2_with (go_at_call 81; refine (s_l03Total_any q m c zs _ (hS.keep ((Below.refl _ _).alloc (Nat.le_refl _) _)) (by omega)).mono ?_; rintro e w' ⟨x, rfl, -, hbel⟩; replace hD : Dw b p n cap w w' [] := Dw.below (by (repeat (first | with_reducible assumption | focus ((with_reducible refine Dw.new' ?_ ?_ ?_ ?_); rotate_left; (focus exact trivial); (focus rfl); (focus first | rfl | (simp; done))) | with_reducible refine Dw.alloc ?_ _ | with_reducible refine Dw.drew ?_ | with_reducible refine Dw.drewN ?_ _ | focus ((with_reducible refine Dw.set ?_ ?_ ?_ _); rotate_left; (focus (first | omega | (simp; done) | (simp; omega) | (have := Dw.size (by assumption); simp; omega))); (focus (first | omega | (simp; omega))))))) hbel; clear hbel)
    all_goals go_meet
    all_goals exact ⟨_, by first | omega | (simp; omega), rfl, hD⟩
  case rest =>
  obtain ⟨t, ht, rfl, hD⟩ := hcut
  clear hS
  have hR := Row.empty wc w.heap.size 2 1 hD.size
  obtain ⟨wA, rfl⟩ : ∃ wA : World, wA = wc := ⟨_, rfl⟩
  go_upto_region 3 with fail
  go_cut [9] (fun s8 wx => ∃ z : Int, s8 = .int .i64 z ∧ Row wx w.heap.size 2 1 (.slice (some ⟨wA.heap.size, 0, none⟩) 0 0) 0 ∧ Dw b p n cap w wx [])
  case first =>
    go_wp2_with (go_at_call 68; refine (s_l01Next b _ p n cap _ (Dw.src (w := w) (ks := []) (by (repeat (first | with_reducible assumption | focus ((with_reducible refine Dw.new' ?_ ?_ ?_ ?_); rotate_left; (focus exact trivial); (focus rfl); (focus first | rfl | (simp; done))) | with_reducible refine Dw.alloc ?_ _ | with_reducible refine Dw.drew ?_ | with_reducible refine Dw.drewN ?_ _ | focus ((with_reducible refine Dw.set ?_ ?_ ?_ _); rotate_left; (focus (first | omega | (simp; done) | (simp; omega) | (have := Dw.size (by assumption); simp; omega))); (focus (first | omega | (simp; omega))))))))).mono ?_; rintro e w' ⟨x, rfl, h0, h1, h2, hS, hO1⟩; (try simp only [Int.reduceLT, Int.reduceLE, forall_const, false_implies] at h1 h2); replace hR : Row w' w.heap.size 2 1 (.slice (some ⟨wA.heap.size, 0, none⟩) 0 0) 0 := Row.only (by (repeat (first | with_reducible assumption | with_reducible refine Row.alloc ?_ _ | with_reducible refine Row.drew ?_ | with_reducible refine Row.drewN ?_ _))) hO1 (by omega); replace hD : Dw b p n cap w w' [] := Dw.next (by (repeat (first | with_reducible assumption | focus ((with_reducible refine Dw.new' ?_ ?_ ?_ ?_); rotate_left; (focus exact trivial); (focus rfl); (focus first | rfl | (simp; done))) | with_reducible refine Dw.alloc ?_ _ | with_reducible refine Dw.drew ?_ | with_reducible refine Dw.drewN ?_ _ | focus ((with_reducible refine Dw.set ?_ ?_ ?_ _); rotate_left; (focus (first | omega | (simp; done) | (simp; omega) | (have := Dw.size (by assumption); simp; omega))); (focus (first | omega | (simp; omega))))))) hS hO1; clear hS hO1)
    all_goals go_meet
    all_goals exact ⟨_, rfl, hR, hD⟩
  case rest =>
  clear hR hD
  obtain ⟨z, rfl, hR, hD⟩ := hcut
  go_upto_region 5 with (go_at_call 68; refine (s_l01Next b _ p n cap _ (Dw.src (w := w) (ks := []) (by (repeat (first | with_reducible assumption | focus ((with_reducible refine Dw.new' ?_ ?_ ?_ ?_); rotate_left; (focus exact trivial); (focus rfl); (focus first | rfl | (simp; done))) | with_reducible refine Dw.alloc ?_ _ | with_reducible refine Dw.drew ?_ | with_reducible refine Dw.drewN ?_ _ | focus ((with_reducible refine Dw.set ?_ ?_ ?_ _); rotate_left; (focus (first | omega | (simp; done) | (simp; omega) | (have := Dw.size (by assumption); simp; omega))); (focus (first | omega | (simp; omega))))))))).mono ?_; rintro e w' ⟨x, rfl, h0, h1, h2, hS, hO1⟩; (try simp only [Int.reduceLT, Int.reduceLE, forall_const, false_implies] at h1 h2); replace hR : Row w' w.heap.size 2 1 (.slice (some ⟨wA.heap.size, 0, none⟩) 0 0) 0 := Row.only (by (repeat (first | with_reducible assumption | with_reducible refine Row.alloc ?_ _ | with_reducible refine Row.drew ?_ | with_reducible refine Row.drewN ?_ _))) hO1 (by omega); replace hD : Dw b p n cap w w' [] := Dw.next (by (repeat (first | with_reducible assumption | focus ((with_reducible refine Dw.new' ?_ ?_ ?_ ?_); rotate_left; (focus exact trivial); (focus rfl); (focus first | rfl | (simp; done))) | with_reducible refine Dw.alloc ?_ _ | with_reducible refine Dw.drew ?_ | with_reducible refine Dw.drewN ?_ _ | focus ((with_reducible refine Dw.set ?_ ?_ ?_ _); rotate_left; (focus (first | omega | (simp; done) | (simp; omega) | (have := Dw.size (by assumption); simp; omega))); (focus (first | omega | (simp; omega))))))) hS hO1; clear hS hO1)
  obtain ⟨k, rfl⟩ := Int.eq_ofNat_of_zero_le h0
  go_loopw [8, 9, 10] (fun v a i wr => ∃ (k m g c : Nat) (z : Int), v = .slice (some ⟨g, 0, none⟩) m c ∧ m + k ≤ 100 ∧ a = .int .i64 z ∧ i = .int .i64 k ∧ Row wr w.heap.size 2 1 (.slice (some ⟨g, 0, none⟩) m c) m ∧ Dw b p n cap w wr []) (fun _ _ i _ => (intOf i).toNat)
  case atStart => exact ⟨k, 0, _, _, _, rfl, by omega, rfl, rfl, hR, hD⟩
  case round =>
    clear hR hD h0 h1 h2
    obtain ⟨k, m, g, c, z, rfl, hm, rfl, rfl, hR, hD⟩ := hrel
    by_cases hk : 0 < k
    · have hk1 : (0 : Int) < k := by omega
      go_wp2_with first | (at_builtin; obtain ⟨zs, hZ⟩ := hR; refine wpList_append_k _ rfl _ _ 40 rfl (w.heap.size) 2 i0 (.int .i64 0) 1 8 Try.underlying40 hi hz0 hz1 hz2 rfl (by decide) _ _ _ rfl (how_keepA hZ _) ⟨wr.heap.size, 0, none⟩ 1 1 [.int .i64 z] rfl rfl (one_news _ _ _) (by simp [Value.oneCell']) (by decide) (by unfold maxLen; omega) (by omega) (by have := hD.size; have := hD.ltb; simp; omega) ?_; intro g2 c2 w1 hown1 hbel hkp hfar hsz1; replace hD : Dw b p n cap w w1 [] := Dw.row (W := wr.alloc (.cells #[.int .i64 z] 2)) (by (repeat (first | with_reducible assumption | focus ((with_reducible refine Dw.new' ?_ ?_ ?_ ?_); rotate_left; (focus exact trivial); (focus rfl); (focus first | rfl | (simp; done))) | with_reducible refine Dw.alloc ?_ _ | with_reducible refine Dw.drew ?_ | with_reducible refine Dw.drewN ?_ _ | focus ((with_reducible refine Dw.set ?_ ?_ ?_ _); rotate_left; (focus (first | omega | (simp; done) | (simp; omega) | (have := Dw.size (by assumption); simp; omega))); (focus (first | omega | (simp; omega))))))) hbel (by omega) (by omega) (by simp); have hR := Row.grown zs z hown1; clear hown1 hbel hkp hfar hsz1 hZ) | (go_at_call 68; refine (s_l01Next b _ p n cap _ (Dw.src (w := w) (ks := []) (by (repeat (first | with_reducible assumption | focus ((with_reducible refine Dw.new' ?_ ?_ ?_ ?_); rotate_left; (focus exact trivial); (focus rfl); (focus first | rfl | (simp; done))) | with_reducible refine Dw.alloc ?_ _ | with_reducible refine Dw.drew ?_ | with_reducible refine Dw.drewN ?_ _ | focus ((with_reducible refine Dw.set ?_ ?_ ?_ _); rotate_left; (focus (first | omega | (simp; done) | (simp; omega) | (have := Dw.size (by assumption); simp; omega))); (focus (first | omega | (simp; omega))))))))).mono ?_; rintro e w' ⟨x, rfl, h0, h1, h2, hS, hO1⟩; (try simp only [Int.reduceLT, Int.reduceLE, forall_const, false_implies] at h1 h2); replace hR : Row w' w.heap.size 2 1 (.slice (some ⟨g2, 0, none⟩) (m + 1) c2) (m + 1) := Row.only (by (repeat (first | with_reducible assumption | with_reducible refine Row.alloc ?_ _ | with_reducible refine Row.drew ?_ | with_reducible refine Row.drewN ?_ _))) hO1 (by omega); replace hD : Dw b p n cap w w' [] := Dw.next (by (repeat (first | with_reducible assumption | focus ((with_reducible refine Dw.new' ?_ ?_ ?_ ?_); rotate_left; (focus exact trivial); (focus rfl); (focus first | rfl | (simp; done))) | with_reducible refine Dw.alloc ?_ _ | with_reducible refine Dw.drew ?_ | with_reducible refine Dw.drewN ?_ _ | focus ((with_reducible refine Dw.set ?_ ?_ ?_ _); rotate_left; (focus (first | omega | (simp; done) | (simp; omega) | (have := Dw.size (by assumption); simp; omega))); (focus (first | omega | (simp; omega))))))) hS hO1; clear hS hO1) | (go_at_call 86; refine (s_l05Mod_any _ _ ht _).mono ?_; rintro e w' ⟨y, rfl, rfl⟩)
      all_goals
        refine ⟨⟨k - 1, m + 1, _, _, _, rfl, by omega, rfl, ?_, hR, hD⟩, by simp [intOf]; omega⟩
        rw [Int.ofNat_sub (by omega)]
        rfl
    · obtain rfl : k = 0 := by omega
      have hm2 : m ≤ 100 := by omega
      have hm200 := run_make_row' (P := Try.prog) 40 2 (.int .i64 0) 8 Try.underlying40 (by kernel_rfl) rfl .i64 .i64 4 (by omega) (by omega)
      have hm201 := run_make_row' (P := Try.prog) 40 2 (.int .i64 0) 8 Try.underlying40 (by kernel_rfl) rfl .i64 .i64 5 (by omega) (by omega)
      rw [show ((4 : Nat) : Int) = 4 from rfl] at hm200
      rw [show ((5 : Nat) : Int) = 5 from rfl] at hm201
      go_upto_region 9 with fail
      go_cut [45] (fun s45 wx => ∃ y : Int, s45 = .int .i64 y ∧ Row wx w.heap.size 2 1 (.slice (some ⟨g, 0, none⟩) m c) m ∧ Dw b p n cap w wx [])
      case first =>
        go_wp2_with (go_at_call 68; refine (s_l01Next b _ p n cap _ (Dw.src (w := w) (ks := []) (by (repeat (first | with_reducible assumption | focus ((with_reducible refine Dw.new' ?_ ?_ ?_ ?_); rotate_left; (focus exact trivial); (focus rfl); (focus first | rfl | (simp; done))) | with_reducible refine Dw.alloc ?_ _ | with_reducible refine Dw.drew ?_ | with_reducible refine Dw.drewN ?_ _ | focus ((with_reducible refine Dw.set ?_ ?_ ?_ _); rotate_left; (focus (first | omega | (simp; done) | (simp; omega) | (have := Dw.size (by assumption); simp; omega))); (focus (first | omega | (simp; omega))))))))).mono ?_; rintro e w' ⟨x, rfl, h0, h1, h2, hS, hO1⟩; (try simp only [Int.reduceLT, Int.reduceLE, forall_const, false_implies] at h1 h2); replace hR : Row w' w.heap.size 2 1 (.slice (some ⟨g, 0, none⟩) m c) m := Row.only (by (repeat (first | with_reducible assumption | with_reducible refine Row.alloc ?_ _ | with_reducible refine Row.drew ?_ | with_reducible refine Row.drewN ?_ _))) hO1 (by omega); replace hD : Dw b p n cap w w' [] := Dw.next (by (repeat (first | with_reducible assumption | focus ((with_reducible refine Dw.new' ?_ ?_ ?_ ?_); rotate_left; (focus exact trivial); (focus rfl); (focus first | rfl | (simp; done))) | with_reducible refine Dw.alloc ?_ _ | with_reducible refine Dw.drew ?_ | with_reducible refine Dw.drewN ?_ _ | focus ((with_reducible refine Dw.set ?_ ?_ ?_ _); rotate_left; (focus (first | omega | (simp; done) | (simp; omega) | (have := Dw.size (by assumption); simp; omega))); (focus (first | omega | (simp; omega))))))) hS hO1; clear hS hO1)
        go_meet
        exact ⟨_, rfl, hR, hD⟩
      case rest =>
      clear hR hD
      obtain ⟨y, rfl, hR, hD⟩ := hcut
      obtain ⟨wB, rfl⟩ : ∃ wB : World, wB = wc := ⟨_, rfl⟩
      by_cases h0 : y = 0
      · subst h0
        go_wp2_with ((go_at_call 68; refine (s_l01Next b _ p n cap _ (Dw.src (w := w) (ks := []) (by (repeat (first | with_reducible assumption | focus ((with_reducible refine Dw.new' ?_ ?_ ?_ ?_); rotate_left; (focus exact trivial); (focus rfl); (focus first | rfl | (simp; done))) | with_reducible refine Dw.alloc ?_ _ | with_reducible refine Dw.drew ?_ | with_reducible refine Dw.drewN ?_ _ | focus ((with_reducible refine Dw.set ?_ ?_ ?_ _); rotate_left; (focus (first | omega | (simp; done) | (simp; omega) | (have := Dw.size (by assumption); simp; omega))); (focus (first | omega | (simp; omega))))))))).mono ?_; rintro e w' ⟨x, rfl, h0, h1, h2, hS, hO1⟩; (try simp only [Int.reduceLT, Int.reduceLE, forall_const, false_implies] at h1 h2); replace hR : Row w' w.heap.size 2 1 (.slice (some ⟨g, 0, none⟩) m c) m := Row.only (by (repeat (first | with_reducible assumption | with_reducible refine Row.alloc ?_ _ | with_reducible refine Row.drew ?_ | with_reducible refine Row.drewN ?_ _))) hO1 (by omega); replace hD : Dw b p n cap w w' [] := Dw.next (by (repeat (first | with_reducible assumption | focus ((with_reducible refine Dw.new' ?_ ?_ ?_ ?_); rotate_left; (focus exact trivial); (focus rfl); (focus first | rfl | (simp; done))) | with_reducible refine Dw.alloc ?_ _ | with_reducible refine Dw.drew ?_ | with_reducible refine Dw.drewN ?_ _ | focus ((with_reducible refine Dw.set ?_ ?_ ?_ _); rotate_left; (focus (first | omega | (simp; done) | (simp; omega) | (have := Dw.size (by assumption); simp; omega))); (focus (first | omega | (simp; omega))))))) hS hO1; clear hS hO1); (try (have hx : x = 0 ∨ x = 1 := by omega)); (try rcases hx with rfl | rfl))
        · go_ret
          exact ⟨_, 4, 4, _, rfl, by omega, by omega, ints_made (World.rowIs_made w' (.int .i64 0) 4 2) (by unfold maxLen; omega), by have := hD.ltb; omega, hD.size, (hD.alloc _).src, (hD.alloc _).only⟩
        · go_ret
          exact ⟨_, 5, 5, _, rfl, by omega, by omega, ints_made (World.rowIs_made w' (.int .i64 0) 5 2) (by unfold maxLen; omega), by have := hD.ltb; omega, hD.size, (hD.alloc _).src, (hD.alloc _).only⟩
      by_cases h1 : y = 1
      · subst h1
        go_wp2_with first | (go_at_call 111; refine (s_pickA b _ _ p n cap _ (Dw.src (w := w) (ks := []) (by (repeat (first | with_reducible assumption | focus ((with_reducible refine Dw.new' ?_ ?_ ?_ ?_); rotate_left; (focus exact trivial); (focus rfl); (focus first | rfl | (simp; done))) | with_reducible refine Dw.alloc ?_ _ | with_reducible refine Dw.drew ?_ | with_reducible refine Dw.drewN ?_ _ | focus ((with_reducible refine Dw.set ?_ ?_ ?_ _); rotate_left; (focus (first | omega | (simp; done) | (simp; omega) | (have := Dw.size (by assumption); simp; omega))); (focus (first | omega | (simp; omega)))))))) ?_ ?_).mono ?_; (refine ⟨_, _, _, rfl, rfl, Dw.ltb (w := w) (ks := []) (by (repeat (first | with_reducible assumption | focus ((with_reducible refine Dw.new' ?_ ?_ ?_ ?_); rotate_left; (focus exact trivial); (focus rfl); (focus first | rfl | (simp; done))) | with_reducible refine Dw.alloc ?_ _ | with_reducible refine Dw.drew ?_ | with_reducible refine Dw.drewN ?_ _ | focus ((with_reducible refine Dw.set ?_ ?_ ?_ _); rotate_left; (focus (first | omega | (simp; done) | (simp; omega) | (have := Dw.size (by assumption); simp; omega))); (focus (first | omega | (simp; omega))))))), rfl, ?_⟩; (focus simp)); (focus (unfold maxLen; omega)); rintro e w' ⟨x, rfl, hS, hO1⟩; replace hR : Row w' w.heap.size 2 1 (.slice (some ⟨g, 0, none⟩) m c) m := Row.only (by (repeat (first | with_reducible assumption | with_reducible refine Row.alloc ?_ _ | with_reducible refine Row.drew ?_ | with_reducible refine Row.drewN ?_ _))) hO1 (by omega); replace hD : Dw b p n cap w w' [] := Dw.next (by (repeat (first | with_reducible assumption | focus ((with_reducible refine Dw.new' ?_ ?_ ?_ ?_); rotate_left; (focus exact trivial); (focus rfl); (focus first | rfl | (simp; done))) | with_reducible refine Dw.alloc ?_ _ | with_reducible refine Dw.drew ?_ | with_reducible refine Dw.drewN ?_ _ | focus ((with_reducible refine Dw.set ?_ ?_ ?_ _); rotate_left; (focus (first | omega | (simp; done) | (simp; omega) | (have := Dw.size (by assumption); simp; omega))); (focus (first | omega | (simp; omega))))))) hS hO1; clear hS hO1) | (at_builtin; obtain ⟨zs, hZ⟩ := hR; refine wpList_append_k _ rfl _ _ 40 rfl (w.heap.size) 2 i0 (.int .i64 0) 1 8 Try.underlying40 hi hz0 hz1 hz2 rfl (by decide) _ _ _ rfl (how_keepA hZ _) ⟨w'.heap.size, 0, none⟩ 1 1 [.int .i64 x] rfl rfl (one_news _ _ _) (by simp [Value.oneCell']) (by decide) (by unfold maxLen; omega) (by omega) (by have := hD.size; have := hD.ltb; simp; omega) ?_; intro g2 c2 w1 hown1 hbel hkp hfar hsz1; replace hD : Dw b p n cap w w1 [] := Dw.row (W := w'.alloc (.cells #[.int .i64 x] 2)) (by (repeat (first | with_reducible assumption | focus ((with_reducible refine Dw.new' ?_ ?_ ?_ ?_); rotate_left; (focus exact trivial); (focus rfl); (focus first | rfl | (simp; done))) | with_reducible refine Dw.alloc ?_ _ | with_reducible refine Dw.drew ?_ | with_reducible refine Dw.drewN ?_ _ | focus ((with_reducible refine Dw.set ?_ ?_ ?_ _); rotate_left; (focus (first | omega | (simp; done) | (simp; omega) | (have := Dw.size (by assumption); simp; omega))); (focus (first | omega | (simp; omega))))))) hbel (by omega) (by omega) (by simp); have hR := Row.grown zs x hown1; clear hown1 hbel hkp hfar hsz1 hZ)
        go_ret
        exact drawnFr_row hR (by omega) (Nat.le_refl _) hb hD.src hD.only
      have t0 : (y == 0) = false := by simpa using h0
      have t1 : (y == 1) = false := by simpa using h1
      go_wp2_with fail
      go_ret
      exact drawnFr_row hR (by omega) (Nat.le_refl _) hb hD.src hD.only

end Go.Proofs.Ytgkfnggnhphboaa
