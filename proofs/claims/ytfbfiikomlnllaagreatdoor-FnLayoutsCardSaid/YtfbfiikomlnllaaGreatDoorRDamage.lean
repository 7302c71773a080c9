/- Contracts and lemmas for the proofs of this seat: RDamage. -/
import Derived.Test.YtfbfiikomlnllaaGreatDoorRDraw
import Derived.Test.YtfbfiikomlnllaaGreatDoorLDraw2
import Derived.Test.YtfbfiikomlnllaaGreatDoorLDraw
import Derived.Test.YtfbfiikomlnllaaGreatDoorDRow
import Derived.Test.YtfbfiikomlnllaaGreatDoorDraw3
import Derived.Test.YtfbfiikomlnllaaGreatDoorDraw2
import Derived.Test.YtfbfiikomlnllaaGreatDoorDraw
import Derived.Test.YtfbfiikomlnllaaGreatDoorBase
import Derived.Test.YtfbfiikomlnllaaGreatDoorNum
import Derived.Test.YtfbfiikomlnllaaGreatDoorIv
import Derived.Test.YtfbfiikomlnllaaGreatDoorList
import Derived.Test.YtfbfiikomlnllaaGreatDoorSeg
import Derived.Test.YtfbfiikomlnllaaGreatDoorLay
import Derived.Test.YtfbfiikomlnllaaGreatDoorLay2
import Derived.Test.YtfbfiikomlnllaaGreatDoorLay3
import Derived.Test.YtfbfiikomlnllaaGreatDoorShelf
import Derived.Test.YtfbfiikomlnllaaGreatDoorText1
import Derived.Test.YtfbfiikomlnllaaGreatDoorLayText
import Derived.Test.YtfbfiikomlnllaaGreatDoorText3
import Derived.Test.YtfbfiikomlnllaaGreatDoorRead2
import Derived.Lib.Hide
import Derived.BigQuiet
import Derived.Deep.QuietTactic
import Derived.Deep.OwnRows
import Derived.Deep.LoopGhost
import Derived.OneCell
import Derived.Lib.SmallJoins
import Derived.Lib.LaidTab
import Derived.StillTailTactics
import Derived.WalkSpells
import Derived.WalkLawsBesides
import Derived.RangeFuncBox
import Derived.Deep.RegionHeld3
import Derived.Deep.DeepCutAuto
namespace Go.Proofs.YtfbfiikomlnllaaGreatDoor
open Go.RowKit Go.Deep Go.Lib
set_option maxHeartbeats 2000000
set_option linter.unusedVariables false
set_option linter.unusedSimpArgs false

set_option maxRecDepth 100000 in
theorem s_l01DamageN (N : Nat) (hN : N ≤ 1000000) (b : Nat) (p : Option Addr) (n cap : Nat) (l : List UInt8) (hl : l.length ≤ N) (w : World) (hs : Src b p n cap w) :
    Calls Tryz.prog 32 #[.pointer (some ⟨b, 0, none⟩), strV l] w fun e w' => ∃ r : List UInt8, e = .returned (strV r) ∧ r.length ≤ N + 1 ∧ Only b w w' := by
  have hsz : (⟨l.toArray⟩ : ByteArray).size = l.length := rfl
  go_enter Tryz.func32, Tryz.ntmps32
  go_wp2_with first | (go_at_call 31; refine (s_l01Next b _ p n cap _ (by (repeat (first | with_reducible assumption | with_reducible refine Src.alloc ?_ _ | focus ((with_reducible refine Src.setBox hs ?_ ?_ _); rotate_left; focus (first | (simp; done) | (simp; omega))) | with_reducible refine Src.drew ?_ | with_reducible refine Src.drewN ?_ _)))).mono ?_; rintro e w' ⟨x, rfl, h0, h1, h2, hS, hO1⟩; (try simp only [Int.reduceLT, Int.reduceLE, forall_const, false_implies] at h1 h2); have hO : Only b w w' := Only.trans (by (repeat (first | with_reducible exact Only.refl _ _ | with_reducible assumption | with_reducible refine Only.alloc ?_ _ | focus ((with_reducible refine Only.setBox ?_ ?_ _); rotate_left; focus (first | (simp; done) | (simp; omega))) | with_reducible refine Only.drew ?_ | with_reducible refine Only.drewN ?_ _))) hO1; clear hO1)
  · go_ret
    exact ⟨_, str_of _, str_len (by simp; omega), by assumption⟩
  · go_region_with (go_at_call 31; first | (refine (s_l01Next b _ p n cap _ (Src.drew (Src.alloc (by assumption) _))).mono ?_; rintro e w9 ⟨x9, rfl, h0, h1, h2, hS, hO1⟩; obtain ⟨sx, hcl, hsx⟩ := pick8 hO1 (Src.lt (n := n) (p := p) (cap := cap) (by assumption)) x9 h0 (h1 (by omega)) tab8; replace h1 := h1 (by omega); clear h2; have hO9 : Only b w w9 := Only.trans (Only.drew (Only.alloc (by assumption) _)) hO1; clear hO1) | (refine (s_l01Next b _ p n cap _ (Src.drew (by assumption))).mono ?_; rintro e w9 ⟨x9, rfl, h0, h1, h2, hS, hO1⟩; obtain ⟨sx, hcl, hcl2, hsx⟩ := pick8' w9 9 (0, 0) x9 h0 (h1 (by omega)) _ tab8; replace h1 := h1 (by omega); clear h2; have hO9 : Only b w w9 := Only.trans (Only.drew (by assumption)) hO1; clear hO1))
    all_goals go_wp2
    all_goals go_ret
    all_goals exact ⟨_, str_of _, str_len (by simp; omega), by first | assumption | exact Only.alloc (by assumption) _⟩
  · go_region
    all_goals go_wp2
    all_goals go_ret
    all_goals exact ⟨_, str_of _, str_len (by simp; omega), by first | assumption | exact Only.drew (by assumption) | exact Only.drewN (by assumption) _⟩
  · go_ret
    exact ⟨l, rfl, by omega, by assumption⟩
  · go_ret
    exact ⟨l, rfl, by omega, by assumption⟩

end Go.Proofs.YtfbfiikomlnllaaGreatDoor
