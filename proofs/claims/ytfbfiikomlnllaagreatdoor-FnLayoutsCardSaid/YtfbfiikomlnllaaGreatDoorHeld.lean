/- Contracts and lemmas for the proofs of this seat: Held. -/
import Derived.Test.YtfbfiikomlnllaaGreatDoorBase
import Derived.Test.YtfbfiikomlnllaaGreatDoorNum
import Derived.Test.YtfbfiikomlnllaaGreatDoorIv
import Derived.Test.YtfbfiikomlnllaaGreatDoorIv2
import Derived.Test.YtfbfiikomlnllaaGreatDoorDiv
import Derived.Test.YtfbfiikomlnllaaGreatDoorRoot
import Derived.Test.YtfbfiikomlnllaaGreatDoorEn
import Derived.Test.YtfbfiikomlnllaaGreatDoorSeg
import Derived.Test.YtfbfiikomlnllaaGreatDoorList
import Derived.Test.YtfbfiikomlnllaaGreatDoorLay
import Derived.Test.YtfbfiikomlnllaaGreatDoorLay2
import Derived.Test.YtfbfiikomlnllaaGreatDoorLay3
import Derived.Test.YtfbfiikomlnllaaGreatDoorLay12
import Derived.Test.YtfbfiikomlnllaaGreatDoorLay13
import Derived.Test.YtfbfiikomlnllaaGreatDoorLay15
import Derived.Test.YtfbfiikomlnllaaGreatDoorLay16
import Derived.Lib.Hide
import Derived.BigQuiet
import Derived.Deep.QuietTactic
import Derived.Deep.OwnRows
import Derived.Deep.LoopGhost
import Derived.Deep.RegionHeld3
import Derived.Deep.DeepCutAuto
import Derived.StillTailTactics
import Derived.Deep.AppendLies
import Derived.Deep.DrawnRows
import Derived.Outline
namespace Go.Proofs.YtfbfiikomlnllaaGreatDoor
open Go.RowKit Go.Deep
set_option maxHeartbeats 2000000
set_option linter.unusedVariables false
set_option linter.unusedSimpArgs false

attribute [local go_sem] lt_2 lt_3 lt_4 lt_5 lt_6 fld_lo fld_hi
set_option maxRecDepth 100000 in
theorem l_heldSegmentS (q : Option Addr) (n c : Nat) (B : Nat) (k : Nat) (hk : k ≤ 1000000000) (w : World) (h : OwnQ 41 7 B w q n (fun i => ((k + i : Nat) : Int))) :
    Calls Tryz.prog 28 #[.slice q n c, .int .i64 k] w fun e w' => e = .returned (.int .i64 ((k + n * 7 : Nat) : Int)) ∧ w = w' := by
  have hn := h.1
  have H := Lib.hid h
  clear h
  go_enter Tryz.func28, Tryz.ntmps28
  go_wp2
  go_loop [1, 5] (fun a i => ∃ j : Nat, j ≤ n ∧ i = .int .i64 j ∧ a = .int .i64 ((k + j * 7 : Nat) : Int)) (fun _ i => (n - intOf i).toNat)
  case atStart => exact ⟨0, Nat.zero_le _, rfl, rfl⟩
  case round =>
    obtain ⟨j, hj, rfl, rfl⟩ := hrel
    by_cases hlt : j < n
    · have hji : (j : Int) < (n : Int) := by omega
      obtain ⟨g, rfl, hr⟩ := H.out.2.2 (by omega)
      have hcl0 := hr.cell (i := j * 7) (by omega)
      have hcl1 := hr.cell (i := j * 7 + 1) (by omega)
      have hcl2 := hr.cell (i := j * 7 + 2) (by omega)
      have hcl3 := hr.cell (i := j * 7 + 3) (by omega)
      have hcl4 := hr.cell (i := j * 7 + 4) (by omega)
      have hcl5 := hr.cell (i := j * 7 + 5) (by omega)
      have hcl6 := hr.cell (i := j * 7 + 6) (by omega)
      rw [show ((k + (j * 7 + 1) : Nat) : Int) = ((k + j * 7 : Nat) : Int) + 1 from by omega] at hcl1
      rw [show ((k + (j * 7 + 2) : Nat) : Int) = ((k + j * 7 : Nat) : Int) + 1 + 1 from by omega] at hcl2
      rw [show ((k + (j * 7 + 3) : Nat) : Int) = ((k + j * 7 : Nat) : Int) + 1 + 1 + 1 from by omega] at hcl3
      rw [show ((k + (j * 7 + 4) : Nat) : Int) = ((k + j * 7 : Nat) : Int) + 1 + 1 + 1 + 1 from by omega] at hcl4
      rw [show ((k + (j * 7 + 5) : Nat) : Int) = ((k + j * 7 : Nat) : Int) + 1 + 1 + 1 + 1 + 1 from by omega] at hcl5
      rw [show ((k + (j * 7 + 6) : Nat) : Int) = ((k + j * 7 : Nat) : Int) + 1 + 1 + 1 + 1 + 1 + 1 from by omega] at hcl6
      clear hr
      go_wp2
      go_round
      case rel => exact ⟨j + 1, by omega, by go_num, by go_num⟩
      case measure => simp [intOf]; omega
    · obtain rfl : j = n := by omega
      go_wp2
      go_ret
      exact ⟨rfl, rfl⟩

theorem l_heldLayout1 (q : Option Addr) (n c : Nat) (B : Nat) (w : World) (h : OwnQ 41 7 B w q n (fun i => ((1 + i : Nat) : Int))) :
    Calls Tryz.prog 9 #[.agg #[.slice q n c], .int .i64 1] w fun e w' => e = .returned (.int .i64 ((1 + n * 7 : Nat) : Int)) ∧ Below w.heap.size w w' := by
  have hn := h.1
  have HC := Lib.hid (l_heldSegmentS q n c B 1 (by omega) (w.alloc (Obj.cells #[.slice q n c] 24)) (h.keep ((Below.refl _ _).alloc (Nat.le_refl _) _)))
  obtain ⟨m, hm⟩ : ∃ m : Nat, 1 + n * 7 = m := ⟨_, rfl⟩
  rw [hm] at HC ⊢
  clear h
  go_enter Tryz.func9, Tryz.ntmps9
  go_wp2_with fail
  refine HC.out.mono ?_
  rintro e w' ⟨rfl, rfl⟩
  go_wp2
  go_ret
  exact ⟨rfl, balloc (Below.refl _ _) _⟩

theorem l_markLayoutQ (q : Option Addr) (n c : Nat) (f : Nat → Int) (B : Nat) (w : World) (h : OwnQ 41 7 B w q n f) :
    Calls Tryz.prog 8 #[.agg #[.slice q n c], .int .i64 1] w fun e w' => e = .returned (.int .i64 ((1 + n * 7 : Nat) : Int)) ∧ OwnQ 41 7 B w' q n (fun i => ((1 + i : Nat) : Int)) ∧ Chg q w w' := by
  have HC := Lib.hid (l_markSegmentS q n c f B 1 (by omega) (w.alloc (Obj.cells #[.slice q n c] 24)) (h.keep ((Below.refl _ _).alloc (Nat.le_refl _) _)))
  clear h
  go_enter Tryz.func8, Tryz.ntmps8
  go_wp2_with fail
  refine HC.out.mono ?_
  rintro e w' ⟨rfl, hq, hc⟩
  have HX := Lib.hid ((Chg.of_below ((Below.refl _ _).alloc (Nat.le_refl _) _)).trans hc)
  have HQ := Lib.hid hq
  clear hc hq
  go_wp2
  go_ret
  exact ⟨rfl, HQ.out, HX.out⟩

end Go.Proofs.YtfbfiikomlnllaaGreatDoor
