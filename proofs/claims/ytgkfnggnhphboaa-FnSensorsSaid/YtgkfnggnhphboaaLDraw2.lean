/- Contracts and lemmas for the proofs of this seat: LDraw2. -/
import Derived.Test.YtgkfnggnhphboaaLDraw
import Derived.Test.YtgkfnggnhphboaaDRow
import Derived.Test.YtgkfnggnhphboaaDraw3
import Derived.Test.YtgkfnggnhphboaaDraw2
import Derived.Test.YtgkfnggnhphboaaDraw
import Derived.Test.YtgkfnggnhphboaaBase
import Derived.Test.YtgkfnggnhphboaaNum
import Derived.Test.YtgkfnggnhphboaaIv
import Derived.Test.YtgkfnggnhphboaaIv2
import Derived.Test.YtgkfnggnhphboaaRoot
import Derived.Test.YtgkfnggnhphboaaEn
import Derived.Test.YtgkfnggnhphboaaSeg
import Derived.Test.YtgkfnggnhphboaaList
import Derived.Test.YtgkfnggnhphboaaLay
import Derived.Test.YtgkfnggnhphboaaLay2
import Derived.Test.YtgkfnggnhphboaaLay3
import Derived.Lib.Hide
import Derived.BigQuiet
import Derived.Deep.QuietTactic
import Derived.Deep.OwnRows
import Derived.Deep.LoopGhost
import Derived.OneCell
import Derived.Lib.SmallJoins
import Derived.StillTailTactics
import Derived.RangeFuncBox
import Derived.Deep.RegionHeld3
import Derived.Deep.DeepCutAuto
namespace Go.Proofs.Ytgkfnggnhphboaa
open Go.RowKit Go.Deep
set_option maxHeartbeats 2000000
set_option linter.unusedVariables false
set_option linter.unusedSimpArgs false

theorem Segs.only {b : Nat} {w w' : World} {p : Option Addr} {n : Nat} {zs : List Seg} (h : Segs w p n zs) (hO : Only b w w') (hne : 0 < n → ∀ g o, p = some ⟨g, o, none⟩ → g ≠ b) : Segs w' p n zs := by
  refine ⟨h.1, h.2.1, fun hp => ?_⟩
  obtain ⟨g, off, e, hl, hc⟩ := h.2.2 hp
  exact ⟨g, off, e, Nat.lt_of_lt_of_le hl hO.size, fun i hi => (hc i hi).keep (hO.block g hl (hne hp g off e))⟩

set_option maxRecDepth 100000 in
theorem s_l03DrawPosition (b : Nat) (q : Option Addr) (m c : Nat) (zs : List Seg) (hm : m ≤ 1000) (p : Option Addr) (n cap : Nat) (w : World) (hS : Segs w q m zs) (hs : Src b p n cap w) :
    Calls Try.prog 70 #[.pointer (some ⟨b, 0, none⟩), .agg #[.slice q m c]] w (Drawn b p n cap w) := by
  have hD := Dw.start hs
  have hb := hs.lt
  go_enter Try.func70, Try.ntmps70
  go_upto_region 1 with fail
  go_cut [5] (fun s5 wx => ∃ z : Int, s5 = .int .i64 z ∧ Dw b p n cap w wx [])
  case first =>
    go_wp2_with (go_at_call 81; refine (s_l03Total_any q m c zs _ (hS.keep ((Below.refl _ _).alloc (Nat.le_refl _) _)) (by omega)).mono ?_; rintro e w' ⟨x, rfl, -, hbel⟩; replace hD : Dw b p n cap w w' [] := Dw.below (by (repeat (first | with_reducible assumption | focus ((with_reducible refine Dw.new' ?_ ?_ ?_ ?_); rotate_left; (focus exact trivial); (focus rfl); (focus first | rfl | (simp; done))) | with_reducible refine Dw.alloc ?_ _ | with_reducible refine Dw.drew ?_ | with_reducible refine Dw.drewN ?_ _ | focus ((with_reducible refine Dw.set ?_ ?_ ?_ _); rotate_left; (focus (first | omega | (simp; done) | (simp; omega) | (have := Dw.size (by assumption); simp; omega))); (focus (first | omega | (simp; omega))))))) hbel; clear hbel)
    all_goals go_meet
    all_goals exact ⟨_, rfl, hD⟩
  case rest =>
  obtain ⟨z, rfl, hD⟩ := hcut
  go_wp2_with first | (go_at_call 68; refine (s_l01Next b _ p n cap _ (Dw.src (w := w) (ks := []) (by (repeat (first | with_reducible assumption | focus ((with_reducible refine Dw.new' ?_ ?_ ?_ ?_); rotate_left; (focus exact trivial); (focus rfl); (focus first | rfl | (simp; done))) | with_reducible refine Dw.alloc ?_ _ | with_reducible refine Dw.drew ?_ | with_reducible refine Dw.drewN ?_ _ | focus ((with_reducible refine Dw.set ?_ ?_ ?_ _); rotate_left; (focus (first | omega | (simp; done) | (simp; omega) | (have := Dw.size (by assumption); simp; omega))); (focus (first | omega | (simp; omega))))))))).mono ?_; rintro e w' ⟨x, rfl, h0, h1, h2, hS, hO1⟩; (try simp only [Int.reduceLT, Int.reduceLE, forall_const, false_implies] at h1 h2); replace hD : Dw b p n cap w w' [] := Dw.next (by (repeat (first | with_reducible assumption | focus ((with_reducible refine Dw.new' ?_ ?_ ?_ ?_); rotate_left; (focus exact trivial); (focus rfl); (focus first | rfl | (simp; done))) | with_reducible refine Dw.alloc ?_ _ | with_reducible refine Dw.drew ?_ | with_reducible refine Dw.drewN ?_ _ | focus ((with_reducible refine Dw.set ?_ ?_ ?_ _); rotate_left; (focus (first | omega | (simp; done) | (simp; omega) | (have := Dw.size (by assumption); simp; omega))); (focus (first | omega | (simp; omega))))))) hS hO1; clear hS hO1) | (go_at_call 111; refine (s_pickA b _ _ p n cap _ (Dw.src (w := w) (ks := []) (by (repeat (first | with_reducible assumption | focus ((with_reducible refine Dw.new' ?_ ?_ ?_ ?_); rotate_left; (focus exact trivial); (focus rfl); (focus first | rfl | (simp; done))) | with_reducible refine Dw.alloc ?_ _ | with_reducible refine Dw.drew ?_ | with_reducible refine Dw.drewN ?_ _ | focus ((with_reducible refine Dw.set ?_ ?_ ?_ _); rotate_left; (focus (first | omega | (simp; done) | (simp; omega) | (have := Dw.size (by assumption); simp; omega))); (focus (first | omega | (simp; omega)))))))) ?_ ?_).mono ?_; (refine ⟨_, _, _, rfl, rfl, Dw.ltb (w := w) (ks := []) (by (repeat (first | with_reducible assumption | focus ((with_reducible refine Dw.new' ?_ ?_ ?_ ?_); rotate_left; (focus exact trivial); (focus rfl); (focus first | rfl | (simp; done))) | with_reducible refine Dw.alloc ?_ _ | with_reducible refine Dw.drew ?_ | with_reducible refine Dw.drewN ?_ _ | focus ((with_reducible refine Dw.set ?_ ?_ ?_ _); rotate_left; (focus (first | omega | (simp; done) | (simp; omega) | (have := Dw.size (by assumption); simp; omega))); (focus (first | omega | (simp; omega))))))), rfl, ?_⟩; (focus simp)); (focus (unfold maxLen; omega)); rintro e w' ⟨x, rfl, hS, hO1⟩; replace hD : Dw b p n cap w w' [] := Dw.next (by (repeat (first | with_reducible assumption | focus ((with_reducible refine Dw.new' ?_ ?_ ?_ ?_); rotate_left; (focus exact trivial); (focus rfl); (focus first | rfl | (simp; done))) | with_reducible refine Dw.alloc ?_ _ | with_reducible refine Dw.drew ?_ | with_reducible refine Dw.drewN ?_ _ | focus ((with_reducible refine Dw.set ?_ ?_ ?_ _); rotate_left; (focus (first | omega | (simp; done) | (simp; omega) | (have := Dw.size (by assumption); simp; omega))); (focus (first | omega | (simp; omega))))))) hS hO1; clear hS hO1)
  all_goals go_ret
  all_goals exact ⟨_, rfl, hD.src, hD.only⟩

set_option maxRecDepth 100000 in
theorem s_l05DrawDistance (b : Nat) (q : Option Addr) (m c : Nat) (zs : List Seg) (hm : m ≤ 1000) (p : Option Addr) (n cap : Nat) (w : World) (hS : Segs w q m zs) (hs : Src b p n cap w) :
    Calls Try.prog 77 #[.pointer (some ⟨b, 0, none⟩), .agg #[.slice q m c]] w (Drawn b p n cap w) := by
  have hD := Dw.start hs
  have hb := hs.lt
  go_enter Try.func77, Try.ntmps77
  go_upto_region 1 with fail
  go_cut [5] (fun s5 wx => ∃ z : Int, s5 = .int .i64 z ∧ Dw b p n cap w wx [])
  case first =>
    go_wp2_with (go_at_call 81; refine (s_l03Total_any q m c zs _ (hS.keep ((Below.refl _ _).alloc (Nat.le_refl _) _)) (by omega)).mono ?_; rintro e w' ⟨x, rfl, -, hbel⟩; replace hD : Dw b p n cap w w' [] := Dw.below (by (repeat (first | with_reducible assumption | focus ((with_reducible refine Dw.new' ?_ ?_ ?_ ?_); rotate_left; (focus exact trivial); (focus rfl); (focus first | rfl | (simp; done))) | with_reducible refine Dw.alloc ?_ _ | with_reducible refine Dw.drew ?_ | with_reducible refine Dw.drewN ?_ _ | focus ((with_reducible refine Dw.set ?_ ?_ ?_ _); rotate_left; (focus (first | omega | (simp; done) | (simp; omega) | (have := Dw.size (by assumption); simp; omega))); (focus (first | omega | (simp; omega))))))) hbel; clear hbel)
    all_goals go_meet
    all_goals exact ⟨_, rfl, hD⟩
  case rest =>
  obtain ⟨z, rfl, hD⟩ := hcut
  go_wp2_with first | (go_at_call 68; refine (s_l01Next b _ p n cap _ (Dw.src (w := w) (ks := []) (by (repeat (first | with_reducible assumption | focus ((with_reducible refine Dw.new' ?_ ?_ ?_ ?_); rotate_left; (focus exact trivial); (focus rfl); (focus first | rfl | (simp; done))) | with_reducible refine Dw.alloc ?_ _ | with_reducible refine Dw.drew ?_ | with_reducible refine Dw.drewN ?_ _ | focus ((with_reducible refine Dw.set ?_ ?_ ?_ _); rotate_left; (focus (first | omega | (simp; done) | (simp; omega) | (have := Dw.size (by assumption); simp; omega))); (focus (first | omega | (simp; omega))))))))).mono ?_; rintro e w' ⟨x, rfl, h0, h1, h2, hS, hO1⟩; (try simp only [Int.reduceLT, Int.reduceLE, forall_const, false_implies] at h1 h2); replace hD : Dw b p n cap w w' [] := Dw.next (by (repeat (first | with_reducible assumption | focus ((with_reducible refine Dw.new' ?_ ?_ ?_ ?_); rotate_left; (focus exact trivial); (focus rfl); (focus first | rfl | (simp; done))) | with_reducible refine Dw.alloc ?_ _ | with_reducible refine Dw.drew ?_ | with_reducible refine Dw.drewN ?_ _ | focus ((with_reducible refine Dw.set ?_ ?_ ?_ _); rotate_left; (focus (first | omega | (simp; done) | (simp; omega) | (have := Dw.size (by assumption); simp; omega))); (focus (first | omega | (simp; omega))))))) hS hO1; clear hS hO1) | (go_at_call 111; refine (s_pickA b _ _ p n cap _ (Dw.src (w := w) (ks := []) (by (repeat (first | with_reducible assumption | focus ((with_reducible refine Dw.new' ?_ ?_ ?_ ?_); rotate_left; (focus exact trivial); (focus rfl); (focus first | rfl | (simp; done))) | with_reducible refine Dw.alloc ?_ _ | with_reducible refine Dw.drew ?_ | with_reducible refine Dw.drewN ?_ _ | focus ((with_reducible refine Dw.set ?_ ?_ ?_ _); rotate_left; (focus (first | omega | (simp; done) | (simp; omega) | (have := Dw.size (by assumption); simp; omega))); (focus (first | omega | (simp; omega)))))))) ?_ ?_).mono ?_; (refine ⟨_, _, _, rfl, rfl, Dw.ltb (w := w) (ks := []) (by (repeat (first | with_reducible assumption | focus ((with_reducible refine Dw.new' ?_ ?_ ?_ ?_); rotate_left; (focus exact trivial); (focus rfl); (focus first | rfl | (simp; done))) | with_reducible refine Dw.alloc ?_ _ | with_reducible refine Dw.drew ?_ | with_reducible refine Dw.drewN ?_ _ | focus ((with_reducible refine Dw.set ?_ ?_ ?_ _); rotate_left; (focus (first | omega | (simp; done) | (simp; omega) | (have := Dw.size (by assumption); simp; omega))); (focus (first | omega | (simp; omega))))))), rfl, ?_⟩; (focus simp)); (focus (unfold maxLen; omega)); rintro e w' ⟨x, rfl, hS, hO1⟩; replace hD : Dw b p n cap w w' [] := Dw.next (by (repeat (first | with_reducible assumption | focus ((with_reducible refine Dw.new' ?_ ?_ ?_ ?_); rotate_left; (focus exact trivial); (focus rfl); (focus first | rfl | (simp; done))) | with_reducible refine Dw.alloc ?_ _ | with_reducible refine Dw.drew ?_ | with_reducible refine Dw.drewN ?_ _ | focus ((with_reducible refine Dw.set ?_ ?_ ?_ _); rotate_left; (focus (first | omega | (simp; done) | (simp; omega) | (have := Dw.size (by assumption); simp; omega))); (focus (first | omega | (simp; omega))))))) hS hO1; clear hS hO1)
  all_goals go_ret
  all_goals exact ⟨_, rfl, hD.src, hD.only⟩

set_option maxRecDepth 100000 in
theorem s_l05DrawLength (b : Nat) (q : Option Addr) (m c : Nat) (zs : List Seg) (hm : m ≤ 1000) (hq : 0 < m → ∀ g o, q = some ⟨g, o, none⟩ → g ≠ b) (p : Option Addr) (n cap : Nat) (w : World) (hS : Segs w q m zs) (hs : Src b p n cap w) :
    Calls Try.prog 82 #[.pointer (some ⟨b, 0, none⟩), .agg #[.slice q m c]] w (Drawn b p n cap w) := by
  have hD := Dw.start hs
  have hb := hs.lt
  have HS : Hid (Segs w q m zs) := hS
  clear hS
  go_enter Try.func82, Try.ntmps82
  go_upto_region 2 with (go_at_call 68; refine (s_l01Next b _ p n cap _ (Dw.src (w := w) (ks := []) (by (repeat (first | with_reducible assumption | focus ((with_reducible refine Dw.new' ?_ ?_ ?_ ?_); rotate_left; (focus exact trivial); (focus rfl); (focus first | rfl | (simp; done))) | with_reducible refine Dw.alloc ?_ _ | with_reducible refine Dw.drew ?_ | with_reducible refine Dw.drewN ?_ _ | focus ((with_reducible refine Dw.set ?_ ?_ ?_ _); rotate_left; (focus (first | omega | (simp; done) | (simp; omega) | (have := Dw.size (by assumption); simp; omega))); (focus (first | omega | (simp; omega))))))))).mono ?_; rintro e w' ⟨x, rfl, h0, h1, h2, hS, hO1⟩; (try simp only [Int.reduceLT, Int.reduceLE, forall_const, false_implies] at h1 h2); have kc0 := (hO1.box (k := w.heap.size) (by omega) (by first | omega | (simp; done) | (simp; omega))).1; have lk0 : w.heap.size < w'.heap.size := Nat.lt_of_lt_of_le (by first | omega | (simp; done) | (simp; omega)) hO1.size; replace hD : Dw b p n cap w w' [] := Dw.next (by (repeat (first | with_reducible assumption | focus ((with_reducible refine Dw.new' ?_ ?_ ?_ ?_); rotate_left; (focus exact trivial); (focus rfl); (focus first | rfl | (simp; done))) | with_reducible refine Dw.alloc ?_ _ | with_reducible refine Dw.drew ?_ | with_reducible refine Dw.drewN ?_ _ | focus ((with_reducible refine Dw.set ?_ ?_ ?_ _); rotate_left; (focus (first | omega | (simp; done) | (simp; omega) | (have := Dw.size (by assumption); simp; omega))); (focus (first | omega | (simp; omega))))))) hS hO1; clear hS hO1)
  · have HS2 := Lib.hid (HS.out.only hD.only hq)
    have cc : w'.cell? ⟨w.heap.size, 0, none⟩ = some (.slice q m c) := (kc0 0).trans (by go_simp)
    clear kc0
    obtain ⟨wA, rfl⟩ : ∃ wA : World, wA = w' := ⟨_, rfl⟩
    have hT := fun W (hB : Below wA.heap.size wA W) => s_l03Total_any q m c zs W (HS2.out.keep hB) (by omega)
    have HT := Lib.hid hT
    clear hT
    have OA := Own.start wA
    have lA : w.heap.size < wA.heap.size := World.block_lt_of_cell? wA _ cc
    go_region_held3 (fun W => W.cell? ⟨w.heap.size, 0, none⟩ = some (.slice q m c)) (first | (go_simp; done) | go_keep) (first | (go_at_call 81; refine (HT.out _ (by first | exact OA | exact OA.drew)).mono ?_; rintro e w' ⟨x, rfl, -, hbel⟩; have kb := below_box (k := w.heap.size) hbel (by first | omega | (simp; done) | (simp; omega)); obtain ⟨kc, kf, kl⟩ := kb; replace hD : Dw b p n cap w w' [] := Dw.below (by (repeat (first | with_reducible assumption | focus ((with_reducible refine Dw.new' ?_ ?_ ?_ ?_); rotate_left; (focus exact trivial); (focus rfl); (focus first | rfl | (simp; done))) | with_reducible refine Dw.alloc ?_ _ | with_reducible refine Dw.drew ?_ | with_reducible refine Dw.drewN ?_ _ | focus ((with_reducible refine Dw.set ?_ ?_ ?_ _); rotate_left; (focus (first | omega | (simp; done) | (simp; omega) | (have := Dw.size (by assumption); simp; omega))); (focus (first | omega | (simp; omega))))))) hbel; replace OA : Own wA w' := Own.join (by first | exact OA | exact OA.drew) hbel; clear hbel) | (go_at_call 111; refine (s_pickA b _ _ p n cap _ (Dw.src (w := w) (ks := []) (by (repeat (first | with_reducible assumption | focus ((with_reducible refine Dw.new' ?_ ?_ ?_ ?_); rotate_left; (focus exact trivial); (focus rfl); (focus first | rfl | (simp; done))) | with_reducible refine Dw.alloc ?_ _ | with_reducible refine Dw.drew ?_ | with_reducible refine Dw.drewN ?_ _ | focus ((with_reducible refine Dw.set ?_ ?_ ?_ _); rotate_left; (focus (first | omega | (simp; done) | (simp; omega) | (have := Dw.size (by assumption); simp; omega))); (focus (first | omega | (simp; omega)))))))) ?_ ?_).mono ?_; (refine ⟨_, _, _, rfl, rfl, Dw.ltb (w := w) (ks := []) (by (repeat (first | with_reducible assumption | focus ((with_reducible refine Dw.new' ?_ ?_ ?_ ?_); rotate_left; (focus exact trivial); (focus rfl); (focus first | rfl | (simp; done))) | with_reducible refine Dw.alloc ?_ _ | with_reducible refine Dw.drew ?_ | with_reducible refine Dw.drewN ?_ _ | focus ((with_reducible refine Dw.set ?_ ?_ ?_ _); rotate_left; (focus (first | omega | (simp; done) | (simp; omega) | (have := Dw.size (by assumption); simp; omega))); (focus (first | omega | (simp; omega))))))), rfl, ?_⟩; (focus simp)); (focus (unfold maxLen; omega)); rintro e w' ⟨x, rfl, hS, hO1⟩; have kc0 := (hO1.box (k := w.heap.size) (by omega) (by first | omega | (simp; done) | (simp; omega))).1; have lk0 : w.heap.size < w'.heap.size := Nat.lt_of_lt_of_le (by first | omega | (simp; done) | (simp; omega)) hO1.size; replace hD : Dw b p n cap w w' [] := Dw.next (by (repeat (first | with_reducible assumption | focus ((with_reducible refine Dw.new' ?_ ?_ ?_ ?_); rotate_left; (focus exact trivial); (focus rfl); (focus first | rfl | (simp; done))) | with_reducible refine Dw.alloc ?_ _ | with_reducible refine Dw.drew ?_ | with_reducible refine Dw.drewN ?_ _ | focus ((with_reducible refine Dw.set ?_ ?_ ?_ _); rotate_left; (focus (first | omega | (simp; done) | (simp; omega) | (have := Dw.size (by assumption); simp; omega))); (focus (first | omega | (simp; omega))))))) hS hO1; clear hS hO1))
    all_goals go_wp2
    all_goals go_ret
    all_goals exact ⟨_, rfl, hD.src, hD.only⟩
  · go_wp2_with (go_at_call 68; refine (s_l01Next b _ p n cap _ (Dw.src (w := w) (ks := []) (by (repeat (first | with_reducible assumption | focus ((with_reducible refine Dw.new' ?_ ?_ ?_ ?_); rotate_left; (focus exact trivial); (focus rfl); (focus first | rfl | (simp; done))) | with_reducible refine Dw.alloc ?_ _ | with_reducible refine Dw.drew ?_ | with_reducible refine Dw.drewN ?_ _ | focus ((with_reducible refine Dw.set ?_ ?_ ?_ _); rotate_left; (focus (first | omega | (simp; done) | (simp; omega) | (have := Dw.size (by assumption); simp; omega))); (focus (first | omega | (simp; omega))))))))).mono ?_; rintro e w' ⟨x, rfl, h0, h1, h2, hS, hO1⟩; (try simp only [Int.reduceLT, Int.reduceLE, forall_const, false_implies] at h1 h2); replace hD : Dw b p n cap w w' [] := Dw.next (by (repeat (first | with_reducible assumption | focus ((with_reducible refine Dw.new' ?_ ?_ ?_ ?_); rotate_left; (focus exact trivial); (focus rfl); (focus first | rfl | (simp; done))) | with_reducible refine Dw.alloc ?_ _ | with_reducible refine Dw.drew ?_ | with_reducible refine Dw.drewN ?_ _ | focus ((with_reducible refine Dw.set ?_ ?_ ?_ _); rotate_left; (focus (first | omega | (simp; done) | (simp; omega) | (have := Dw.size (by assumption); simp; omega))); (focus (first | omega | (simp; omega))))))) hS hO1; clear hS hO1)
    go_ret
    exact ⟨_, rfl, hD.src, hD.only⟩

end Go.Proofs.Ytgkfnggnhphboaa
