/- Contracts and lemmas for the proofs of this seat: Sensors. -/
import Derived.Test.YtgkfnggnhphboaaBase
import Derived.Test.YtgkfnggnhphboaaNum
import Derived.Test.YtgkfnggnhphboaaDraw
import Derived.Test.YtgkfnggnhphboaaDraw3
import Derived.Test.YtgkfnggnhphboaaDRow
import Derived.Test.YtgkfnggnhphboaaLawKit
import Derived.Test.YtgkfnggnhphboaaDice
import Derived.Test.YtgkfnggnhphboaaList
import Derived.Test.YtgkfnggnhphboaaSeg
import Derived.Test.YtgkfnggnhphboaaLay
import Derived.Test.YtgkfnggnhphboaaLay2
import Derived.Test.YtgkfnggnhphboaaLay3
import Derived.Test.YtgkfnggnhphboaaLay4
import Derived.Test.YtgkfnggnhphboaaLay5
import Derived.Test.YtgkfnggnhphboaaLay6
import Derived.Test.YtgkfnggnhphboaaLay7
import Derived.Test.YtgkfnggnhphboaaLay15
import Derived.Test.YtgkfnggnhphboaaLay16
import Derived.Test.YtgkfnggnhphboaaLay18
import Derived.Test.YtgkfnggnhphboaaLay20
import Derived.Test.YtgkfnggnhphboaaPassed
import Derived.Test.YtgkfnggnhphboaaLay22
import Derived.Test.YtgkfnggnhphboaaLay23
import Derived.Test.YtgkfnggnhphboaaLDraw
import Derived.Test.YtgkfnggnhphboaaLDraw2
import Derived.Test.YtgkfnggnhphboaaLDraw3
import Derived.Test.YtgkfnggnhphboaaLDraw5
import Derived.Test.YtgkfnggnhphboaaLDraw7
import Derived.Test.YtgkfnggnhphboaaLDraw8
import Derived.Test.YtgkfnggnhphboaaLPlain
import Derived.Test.YtgkfnggnhphboaaLLaw
import Derived.Test.YtgkfnggnhphboaaLike
import Derived.Lib.Hide
import Derived.BigQuiet
import Derived.Deep.QuietTactic
import Derived.WalkKit
import Derived.WalkSpells
import Derived.WalkLawsBesides
import Derived.ProofKit
import Derived.OpenShut
import Derived.ShutString
import Derived.ChangeOld
import Derived.Below
import Derived.Deep.RegionHeld3
import Derived.Deep.DeepCutAuto
import Derived.Deep.OwnRows
import Derived.Deep.LoopGhost
import Derived.Deep.WholeRow
namespace Go.Proofs.Ytgkfnggnhphboaa
open Go.ChangeShapes Go.WideShapes Go.ChangeAt Go.RowKit Go.Deep
set_option maxHeartbeats 2000000
set_option linter.unusedVariables false
set_option linter.unusedSimpArgs false

structure Around (zs : List Seg) (ys : List Int) (x y : Int) (A X : List Int) : Prop where
  ok : layOk zs = true
  k32 : ys.length ≤ 32
  code : paC zs ys x (totN zs) = 0
  lenA : A.length = ys.length
  mem : ∀ i, i < ys.length → ∃ m : Nat, A.getD i 0 = m ∧ m < ys.length
  nodup : ∀ i j, i < j → j < ys.length → A.getD i 0 ≠ A.getD j 0
  lenX : X.length ≤ ys.length
  pre : ∀ i, i < X.length → X.getD i 0 = A.getD i 0
theorem getD_cast (L : List Nat) (i : Nat) (h : i < L.length) : (L.map fun i : Nat => (i : Int)).getD i 0 = ((L[i] : Nat) : Int) := by
  rw [List.getD_eq_getElem?_getD, List.getElem?_map, List.getElem?_eq_getElem h]
  rfl
theorem around {zs : List Seg} {ys : List Int} {x y : Int} (h : paC zs ys x y = 0) : Around zs ys x y (paL zs ys x (totN zs)) (paL zs ys x y) := by
  have hsen : senB zs ys = true := by
    cases e : senB zs ys
    · rw [(pa_bad (x := x) (y := y) e).2] at h; cases h
    · rfl
  have hcd : code05 zs x y 0 1000000000000 = 0 := by
    by_cases e : code05 zs x y 0 1000000000000 = 0
    · exact e
    · have := (pa_code hsen rfl e).2; omega
  have hs := hsen
  unfold senB at hs
  simp only [Bool.and_eq_true, decide_eq_true_eq] at hs
  have hL := layOk_iff.1 hs.1
  obtain ⟨-, t1, t2⟩ := lay_bd hL
  have hR := rs_of hs.2.2
  have hx0 : inB x 0 (totN zs - 1) = true := by
    cases h : inB x 0 (totN zs - 1)
    · rw [code05_bad1 hs.1 h] at hcd; cases hcd
    · rfl
  have bx := inB_iff.1 hx0
  have hcd2 : code05 zs x (totN zs) 0 1000000000000 = 0 := code05_ok hs.1 hx0 (by rw [Int.min_eq_right (by omega)]; exact inB_iff.2 ⟨by omega, Int.le_refl _⟩)
  have hA := firstN_at (x := x) hR
  have so := rot_sorted hR bx.1 (show x < totN zs by omega) hA
  have pe := rot_perm (firstN x ys) ys.length hA.1
  have hlr : (rotL (firstN x ys) ys.length).length = ys.length := by rw [pe.length_eq]; simp
  have hmem : ∀ i, i ∈ rotL (firstN x ys) ys.length → i < ys.length := fun i hi => by simpa using pe.mem_iff.1 hi
  have eA : paL zs ys x (totN zs) = (rotL (firstN x ys) ys.length).map fun i : Nat => (i : Int) := by
    rw [(pa_good hsen hcd2).1, spN_eq, rot_eq _ _ hA.1]
    congr 1
    rw [List.filter_eq_self]
    intro a ha
    unfold passB wayN
    exact decide_eq_true (Int.emod_lt_of_pos _ (by omega))
  have eX : paL zs ys x y = ((rotL (firstN x ys) ys.length).take ((rotL (firstN x ys) ys.length).filter fun i => passB (totN zs) x y (ys.getD i 0)).length).map fun i : Nat => (i : Int) := by
    rw [(pa_good hsen hcd).1, spN_eq, rot_eq _ _ hA.1]
    congr 1
    exact filter_prefix (fun i => wayN (totN zs) x (ys.getD i 0)) y _ (so.imp fun h => Int.le_of_lt h)
  generalize hn : ((rotL (firstN x ys) ys.length).filter fun i => passB (totN zs) x y (ys.getD i 0)).length = n at eX
  have hnl : n ≤ ys.length := by rw [← hn]; exact Nat.le_trans (List.length_filter_le _ _) (by omega)
  generalize rotL (firstN x ys) ys.length = L at *
  refine ⟨hs.1, hs.2.1, (pa_good hsen hcd2).2, by rw [eA, List.length_map, hlr], fun i hi => ?_, fun i j hij hj => ?_, by rw [eX, List.length_map, List.length_take]; omega, fun i hi => ?_⟩
  · exact ⟨L[i], by rw [eA, getD_cast L i (by omega)], hmem _ (List.getElem_mem _)⟩
  · rw [eA, getD_cast L i (by omega), getD_cast L j (by omega)]
    intro e
    have := (List.pairwise_iff_getElem.1 so) i j (by omega) (by omega) hij
    have e2 : L[i] = L[j] := by exact_mod_cast e
    rw [e2] at this
    omega
  · rw [eX, List.length_map, List.length_take] at hi
    rw [eX, eA, List.map_take, List.getD_eq_getElem?_getD, List.getElem?_take_of_lt (by omega), ← List.getD_eq_getElem?_getD]
theorem take_next (A : List Int) (j : Nat) (h : j < A.length) : A.take (j + 1) = A.take j ++ [A.getD j 0] := by
  rw [List.take_succ_eq_append_getElem h, List.getD_eq_getElem?_getD, List.getElem?_eq_getElem h]
  rfl
theorem Around.fresh {zs : List Seg} {ys : List Int} {x y : Int} {A X : List Int} (h : Around zs ys x y A X) {j : Nat} (hj : j < ys.length) : A.getD j 0 ∉ A.take j := by
  intro hm
  obtain ⟨i, hi, e⟩ := List.mem_iff_getElem.1 hm
  have hl := h.lenA
  rw [List.length_take] at hi
  refine h.nodup i j (by omega) hj ?_
  rw [← e, List.getElem_take, List.getD_eq_getElem?_getD, List.getElem?_eq_getElem (by omega)]
  rfl
theorem track_ok {zs : List Seg} (h : layOk zs = true) : trackR zs = (totN zs, 0) := by unfold trackR; rw [if_pos h]
theorem rowIs_drewN {w : World} {g : Nat} {t : TypeId} {n : Nat} {f : Nat → Value} (h : w.rowIs g t n f) (k : Nat) : (w.drewN k).rowIs g t n f := h
theorem seen_step {w : World} {g : Nat} {t : TypeId} {n j m : Nat} {A : List Int} (h : w.rowIs g t n (fun i => .bool (decide ((i : Int) ∈ A.take j)))) (hj : j < A.length) (hm : A.getD j 0 = m) :
    (w.setCell ⟨g, m, none⟩ (.bool true)).rowIs g t n (fun i => .bool (decide ((i : Int) ∈ A.take (j + 1)))) :=
  (h.set m (.bool true)).congr fun i hi => by
    rw [take_next A j hj, hm]
    by_cases e : i = m
    · subst e; rw [if_pos rfl]; simp
    · rw [if_neg e]
      congr 1
      have : ¬ (i : Int) = (m : Int) := by omega
      simp [this]

end Go.Proofs.Ytgkfnggnhphboaa
