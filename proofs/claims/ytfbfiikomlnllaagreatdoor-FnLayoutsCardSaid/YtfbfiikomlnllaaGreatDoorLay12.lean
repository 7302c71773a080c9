/- Contracts and lemmas for the proofs of this seat: Lay12. -/
import Derived.Test.YtfbfiikomlnllaaGreatDoorBase
import Derived.Test.YtfbfiikomlnllaaGreatDoorNum
import Derived.Test.YtfbfiikomlnllaaGreatDoorIv
import Derived.Test.YtfbfiikomlnllaaGreatDoorIv2
import Derived.Test.YtfbfiikomlnllaaGreatDoorDiv
import Derived.Test.YtfbfiikomlnllaaGreatDoorRoot
import Derived.Test.YtfbfiikomlnllaaGreatDoorEn
import Derived.Test.YtfbfiikomlnllaaGreatDoorSeg
import Derived.Test.YtfbfiikomlnllaaGreatDoorList
import Derived.Test.YtfbfiikomlnllaaGreatDoorLay
import Derived.Test.YtfbfiikomlnllaaGreatDoorLay2
import Derived.Test.YtfbfiikomlnllaaGreatDoorLay3
import Derived.Test.YtfbfiikomlnllaaGreatDoorLay4
import Derived.Lib.Hide
import Derived.BigQuiet
import Derived.Deep.QuietTactic
import Derived.Deep.OwnRows
import Derived.Deep.LoopGhost
import Derived.Deep.RegionHeld3
import Derived.Deep.DeepCutAuto
import Derived.StillTailTactics
import Derived.Deep.AppendLies
import Derived.Deep.DrawnRows
import Derived.Outline
namespace Go.Proofs.YtfbfiikomlnllaaGreatDoor
open Go.RowKit Go.Deep
set_option maxHeartbeats 2000000
set_option linter.unusedVariables false
set_option linter.unusedSimpArgs false

attribute [local go_sem] lt_2 lt_3 lt_4 lt_5 lt_6
def IsAt (zs : List Seg) (x : Int) (k : Nat) : Prop := k < zs.length ∧ preN zs k ≤ x ∧ x < preN zs (k + 1)
def segIxF (zs : List Seg) (x : Int) : Nat → Nat
  | 0 => 0
  | m + 1 => if preN zs m ≤ x then m else segIxF zs x m
def segIx (zs : List Seg) (x : Int) : Nat := segIxF zs x zs.length
theorem segIxF_at {zs : List Seg} {x : Int} (h0 : 0 ≤ x) : ∀ m : Nat, x < preN zs m → segIxF zs x m < m ∧ preN zs (segIxF zs x m) ≤ x ∧ x < preN zs (segIxF zs x m + 1) := by
  intro m
  induction m with
  | zero => intro h; simp only [preN] at h; omega
  | succ m ih =>
    intro h
    unfold segIxF
    by_cases c : preN zs m ≤ x
    · rw [if_pos c]; exact ⟨by omega, c, h⟩
    · rw [if_neg c]
      have := ih (by omega)
      exact ⟨by omega, this.2⟩
theorem segIx_at {zs : List Seg} {x : Int} (h0 : 0 ≤ x) (h1 : x < totN zs) : IsAt zs x (segIx zs x) := segIxF_at h0 _ h1
theorem preN_le {zs : List Seg} {i j : Nat} (h : AllOk zs j) (hi : i ≤ j) : preN zs i ≤ preN zs j := by
  rcases Nat.lt_or_eq_of_le hi with h1 | h1
  · have := preN_lt h h1; omega
  · rw [h1]; omega
theorem IsAt.uniq {zs : List Seg} {x : Int} {k k' : Nat} (hA : AllOk zs zs.length) (h : IsAt zs x k) (h' : IsAt zs x k') : k = k' := by
  obtain ⟨a1, a2, a3⟩ := h
  obtain ⟨b1, b2, b3⟩ := h'
  rcases Nat.lt_trichotomy k k' with c | c | c
  · have := preN_le (i := k + 1) (j := k') (fun i hi => hA i (by omega)) (by omega); omega
  · exact c
  · have := preN_le (i := k' + 1) (j := k) (fun i hi => hA i (by omega)) (by omega); omega
def segR (zs : List Seg) (x : Int) : Int × Int × Int := if layOk zs = true then (if inB x 0 (totN zs - 1) = true then ((segIx zs x : Int), x - preN zs (segIx zs x), 0) else (0, 0, 2)) else (0, 0, 1)
abbrev p3 (r : Int × Int × Int) : Value := .tuple #[.int .i64 r.1, .int .i64 r.2.1, .int .i64 r.2.2]

end Go.Proofs.YtfbfiikomlnllaaGreatDoor
