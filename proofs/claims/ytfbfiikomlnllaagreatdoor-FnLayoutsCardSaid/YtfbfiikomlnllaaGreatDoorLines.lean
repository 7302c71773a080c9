/- Contracts and lemmas for the proofs of this seat: Lines. -/
import Derived.Test.YtfbfiikomlnllaaGreatDoorBase
import Derived.Test.YtfbfiikomlnllaaGreatDoorNum
import Derived.Test.YtfbfiikomlnllaaGreatDoorShelf
import Derived.Test.YtfbfiikomlnllaaGreatDoorText1
import Derived.Test.YtfbfiikomlnllaaGreatDoorLayText
import Derived.Test.YtfbfiikomlnllaaGreatDoorRangeB
import Derived.Lib.Hide
import Derived.Lib.CutLaws
import Derived.Lib.IndexLaws
import Derived.RangeFuncWrites
import Derived.RangeFuncCalls
import Derived.RangeFuncBound
import Derived.RangeFuncLeaves
import Derived.Shelf.RegionOpen
import Derived.OwnWalkIn
import Derived.TacticsInMore
import Derived.LoopNIn
import Derived.LoopIn
import Derived.WalkKit
import Derived.Deep.Draws
namespace Go.Proofs.YtfbfiikomlnllaaGreatDoor
open Go.RowKit Go.Lib
set_option maxHeartbeats 2000000
set_option linter.unusedVariables false
set_option linter.unusedSimpArgs false

-- for seats that read layouts (6)
def lineN (s : List UInt8) : Nat := if 0 ≤ indexByte s 10 then (indexByte s 10).toNat + 1 else s.length
def linesF : Nat → List UInt8 → List (List UInt8)
  | 0, _ => []
  | f + 1, s => if s = [] then [] else s.take (lineN s) :: linesF f (s.drop (lineN s))
def linesOf (s : List UInt8) : List (List UInt8) := linesF s.length s
theorem lineN_pos {s : List UInt8} (h : s ≠ []) : 0 < lineN s := by
  unfold lineN
  split
  · omega
  · exact List.length_pos_iff.2 h
theorem linesF_more : ∀ (f g : Nat) (s : List UInt8), s.length ≤ f → s.length ≤ g → linesF f s = linesF g s
  | 0, g, s, hf, _ => by
    have : s = [] := List.eq_nil_of_length_eq_zero (by omega)
    subst this
    cases g <;> simp [linesF]
  | f + 1, 0, s, _, hg => by
    have : s = [] := List.eq_nil_of_length_eq_zero (by omega)
    subst this
    simp [linesF]
  | f + 1, g + 1, s, hf, hg => by
    by_cases h : s = []
    · subst h; simp [linesF]
    · have hp := lineN_pos h
      have hs := List.length_pos_iff.2 h
      simp only [linesF, if_neg h]
      rw [linesF_more f g _ (by rw [List.length_drop]; omega) (by rw [List.length_drop]; omega)]
theorem linesOf_nil : linesOf [] = [] := rfl
theorem linesOf_cons {s : List UInt8} (h : s ≠ []) : linesOf s = s.take (lineN s) :: linesOf (s.drop (lineN s)) := by
  have hp := lineN_pos h
  have hs := List.length_pos_iff.2 h
  unfold linesOf
  obtain ⟨k, hk⟩ : ∃ k, s.length = k + 1 := ⟨s.length - 1, by omega⟩
  rw [hk]
  simp only [linesF, if_neg h]
  rw [linesF_more k (s.drop (lineN s)).length _ (by rw [List.length_drop]; omega) (Nat.le_refl _)]
theorem indexByte_lt {r : List UInt8} {c : UInt8} {k : Nat} (h : indexByte r c = k) : k < r.length := by
  have h2 := (indexByte_some h).1
  rcases Nat.lt_or_ge k r.length with h3 | h3
  · exact h3
  · rw [List.getElem?_eq_none h3] at h2; cases h2

attribute [local go_sem] Oper.semAt_some
def strLen : Option Value → Nat
  | some (.string s) => s.size
  | _ => 0
set_option maxRecDepth 100000 in
theorem lib_lines (n Bs : Nat) (s : List UInt8) (hs : s.length ≤ 1048576) : SeqBox n Tryz.prog 39 Bs (strV s) (fun x : List UInt8 => #[strV x]) (linesOf s) := by
  intro l J Jx W hc hf hJs hJd hY h0
  have HY := Lib.hid hY
  have HJs := Lib.hid hJs
  have HJd := Lib.hid hJd
  clear hY hJs hJd
  refine callsIn_of_wp Tryz.func39 rfl trivial ?_ rfl
  simp only [Tryz.ntmps39, List.size_toArray, List.length_cons, List.length_nil, Nat.reduceAdd, Nat.reduceSub, Array.replicate_succ, Array.replicate_zero, List.push_toArray, List.append_toArray, List.nil_append, List.cons_append]
  gi_wp2
  gi_loopw [3] (fun v wr => ∃ (pre : List (List UInt8)) (r : List UInt8), (∃ v0 : Value, v0 = v) ∧ linesOf s = pre ++ linesOf r ∧ r.length ≤ 1048576 ∧ wr.cell? ⟨Bs, 0, none⟩ = some (strV r) ∧ wr.frozen? ⟨Bs, 0, none⟩ = false ∧ J pre wr) (fun _ wr => strLen (wr.cell? ⟨Bs, 0, none⟩))
  case atStart => exact ⟨[], s, ⟨_, rfl⟩, rfl, hs, hc, hf, h0⟩
  case round =>
    obtain ⟨pre, r, ⟨v, rfl⟩, hx, hrl, hcr, hfr, hj⟩ := hrel
    obtain ⟨wB, rfl⟩ : ∃ wB : World, wB = wr := ⟨_, rfl⟩
    have hsz : (⟨r.toArray⟩ : ByteArray).size = r.length := rfl
    by_cases hr : r = []
    · subst hr
      rw [linesOf_nil, List.append_nil] at hx
      have HJ := Lib.hid (show J (linesOf s) wB by rw [hx]; exact hj)
      clear hx hj
      gi_wp2
      go_end0
      exact ⟨⟨_, rfl⟩, .inl HJ.out⟩
    · have hpos : 0 < r.length := List.length_pos_iff.2 hr
      rw [linesOf_cons hr] at hx
      have HX := Lib.hid hx
      have HJ := Lib.hid hj
      have CI : Hid (Calls Tryz.prog 40 #[strV r, .int .u8 10] wB fun e w' => e = .returned (.int .i64 (indexByte r 10)) ∧ w' = wB) := Tryz.strings_IndexByte ⟨r.toArray⟩ 10 wB
      clear hx hj
      have hposI : (0 : Int) < (r.length : Int) := by omega
      by_cases hi : 0 ≤ indexByte r 10
      · have hln : lineN r = (indexByte r 10).toNat + 1 := by unfold lineN; rw [if_pos hi]
        obtain ⟨k, hk⟩ : ∃ k : Nat, indexByte r 10 = k := ⟨(indexByte r 10).toNat, by omega⟩
        have hkl : k < r.length := indexByte_lt hk
        rw [hk] at CI
        rw [hk, Int.toNat_natCast] at hln
        rw [hln] at HX
        have hk0 : (0 : Int) ≤ (k : Int) := by omega
        have hk1 : (k : Int) + 1 ≤ (r.length : Int) := by omega
        have e1 : (⟨r.toArray⟩ : ByteArray).extract 0 (k + 1) = ⟨(r.take (k + 1)).toArray⟩ := by
          apply ByteArray.ext
          apply Array.ext'
          rw [extract_data]
          simp
        have e2 : (⟨r.toArray⟩ : ByteArray).extract (k + 1) r.length = ⟨(r.drop (k + 1)).toArray⟩ := by
          apply ByteArray.ext
          apply Array.ext'
          rw [extract_data]
          simp only [List.take_of_length_le (l := r.drop (k + 1)) (i := r.length - (k + 1)) (by rw [List.length_drop]; exact Nat.le_refl _)]
        have E1 := Lib.hid e1
        have E2 := Lib.hid e2
        clear hi hk hln e1 e2
        gi_wp2_with fail
        refine ⟨trivial, fun h => (by cases h), (callsIn_wide.2 CI.out).mono ?_⟩
        rintro e wC ⟨rfl, rfl⟩
        gi_wp2_with fail
        refine wpIn_wide.2 ?_
        go_region
        all_goals gi_wp2_with fail
        rw [E1.out, E2.out]
        obtain ⟨fn, tmps, assign, body, hy, hR⟩ := HY.out pre (r.take (k + 1)) (linesOf (r.drop (k + 1))) (wC.setCell ⟨Bs, 0, none⟩ (strV (r.drop (k + 1)))).drew HX.out (HJd.out _ _ 1 (HJs.out _ _ _ HJ.out))
        rw [hy]
        refine ⟨fun h => (by cases h), hR.mono ?_⟩
        have k1 : (wC.setCell ⟨Bs, 0, none⟩ (strV (r.drop (k + 1)))).drew.cell? ⟨Bs, 0, none⟩ = some (strV (r.drop (k + 1))) := World.cell?_setCell_same' wC ⟨Bs, 0, none⟩ _ (by rw [hcr]; rfl)
        have k2 : (wC.setCell ⟨Bs, 0, none⟩ (strV (r.drop (k + 1)))).drew.frozen? ⟨Bs, 0, none⟩ = false := (World.frozen?_setCell wC ⟨Bs, 0, none⟩ _ _).trans hfr
        rintro e W3 (⟨rfl, hJ3, hb3⟩ | ⟨rfl, hJx3⟩)
        · have c3 := (World.cell?_of_block (w := (wC.setCell ⟨Bs, 0, none⟩ (strV (r.drop (k + 1)))).drew) (a := ⟨Bs, 0, none⟩) hb3).trans k1
          have f3 := (World.frozen?_of_block (w := (wC.setCell ⟨Bs, 0, none⟩ (strV (r.drop (k + 1)))).drew) (a := ⟨Bs, 0, none⟩) hb3).trans k2
          have HJ3 := Lib.hid hJ3
          clear hy hR hJ3 hb3 k1 k2
          gi_wp2_with fail
          go_roundw
          case rel => exact ⟨pre ++ [r.take (k + 1)], r.drop (k + 1), ⟨_, rfl⟩, by rw [HX.out]; simp, by rw [List.length_drop]; omega, c3, f3, HJ3.out⟩
          case measure =>
            rw [c3, hcr]
            show (r.drop (k + 1)).length < r.length
            rw [List.length_drop]
            omega
        · have HJ3 := Lib.hid hJx3
          clear hy hR hJx3 k1 k2
          gi_wp2_with fail
          refine bodyPost_ret (results_none rfl _ _ _) rfl ?_
          exact ⟨⟨_, rfl⟩, .inr ⟨_, HJ3.out⟩⟩
      · have hge := indexByte_ge r 10
        have hm1 : indexByte r 10 = -1 := by omega
        have hln : lineN r = r.length := by unfold lineN; rw [if_neg hi]
        rw [hm1] at CI
        rw [hln, List.take_length, List.drop_length] at HX
        clear hi hge hm1 hln
        gi_wp2_with fail
        refine ⟨trivial, fun h => (by cases h), (callsIn_wide.2 CI.out).mono ?_⟩
        rintro e wC ⟨rfl, rfl⟩
        obtain ⟨fn, tmps, assign, body, hy, hR⟩ := HY.out pre r (linesOf []) (wC.setCell ⟨Bs, 0, none⟩ (strV [])) HX.out (HJs.out _ _ _ HJ.out)
        have k1 : (wC.setCell ⟨Bs, 0, none⟩ (strV [])).cell? ⟨Bs, 0, none⟩ = some (strV []) := World.cell?_setCell_same' wC ⟨Bs, 0, none⟩ _ (by rw [hcr]; rfl)
        have k2 : (wC.setCell ⟨Bs, 0, none⟩ (strV [])).frozen? ⟨Bs, 0, none⟩ = false := (World.frozen?_setCell wC ⟨Bs, 0, none⟩ _ _).trans hfr
        have HR := Lib.hid hR
        have HYY := Lib.hid hy
        have K1 := Lib.hid k1
        have K2 := Lib.hid k2
        clear hR hy k1 k2
        gi_wp2_with fail
        rw [HYY.out]
        refine ⟨fun h => (by cases h), HR.out.mono ?_⟩
        rintro e W3 (⟨rfl, hJ3, hb3⟩ | ⟨rfl, hJx3⟩)
        · have c3 := (World.cell?_of_block (w := wC.setCell ⟨Bs, 0, none⟩ (strV [])) (a := ⟨Bs, 0, none⟩) hb3).trans K1.out
          have f3 := (World.frozen?_of_block (w := wC.setCell ⟨Bs, 0, none⟩ (strV [])) (a := ⟨Bs, 0, none⟩) hb3).trans K2.out
          have HJ3 := Lib.hid hJ3
          clear hJ3 hb3 HYY HR
          gi_wp2_with fail
          go_roundw
          case rel => exact ⟨pre ++ [r], [], ⟨_, rfl⟩, by rw [HX.out, linesOf_nil]; simp, by simp, c3, f3, HJ3.out⟩
          case measure =>
            rw [c3, hcr]
            exact hpos
        · have HJ3 := Lib.hid hJx3
          clear hJx3 HYY HR
          gi_wp2_with fail
          refine bodyPost_ret (results_none rfl _ _ _) rfl ?_
          exact ⟨⟨_, rfl⟩, .inr ⟨_, HJ3.out⟩⟩

end Go.Proofs.YtfbfiikomlnllaaGreatDoor
