/- Contracts and lemmas for the proofs of this seat: ReadLaw. -/
import Derived.Test.YtfbfiikomlnllaaGreatDoorBase
import Derived.Test.YtfbfiikomlnllaaGreatDoorNum
import Derived.Test.YtfbfiikomlnllaaGreatDoorSeg
import Derived.Test.YtfbfiikomlnllaaGreatDoorLay
import Derived.Test.YtfbfiikomlnllaaGreatDoorLay2
import Derived.Test.YtfbfiikomlnllaaGreatDoorLay3
import Derived.Test.YtfbfiikomlnllaaGreatDoorLay15
import Derived.Test.YtfbfiikomlnllaaGreatDoorShelf
import Derived.Test.YtfbfiikomlnllaaGreatDoorText1
import Derived.Test.YtfbfiikomlnllaaGreatDoorTextLaw
import Derived.Test.YtfbfiikomlnllaaGreatDoorText2
import Derived.Test.YtfbfiikomlnllaaGreatDoorLayText
import Derived.Test.YtfbfiikomlnllaaGreatDoorRangeB
import Derived.Test.YtfbfiikomlnllaaGreatDoorLines
import Derived.Test.YtfbfiikomlnllaaGreatDoorRead1
import Derived.Test.YtfbfiikomlnllaaGreatDoorRead2
import Derived.Lib.Hide
import Derived.Lib.SplitLaws
import Derived.Lib.IndexLaws
namespace Go.Proofs.YtfbfiikomlnllaaGreatDoor
open Go.RowKit Go.Lib
set_option maxHeartbeats 2000000
set_option linter.unusedVariables false
set_option linter.unusedSimpArgs false

-- (6)
theorem indexByte_at {a r : List UInt8} {c : UInt8} (h : c ∉ a) : indexByte (a ++ c :: r) c = (a.length : Int) := by
  have hat : (a ++ c :: r)[a.length]? = some c := by simp
  have hge := indexByte_ge (a ++ c :: r) c
  by_cases hm : indexByte (a ++ c :: r) c = -1
  · exact absurd hat (indexByte_none hm a.length)
  · obtain ⟨o, ho⟩ : ∃ o : Nat, indexByte (a ++ c :: r) c = o := ⟨(indexByte (a ++ c :: r) c).toNat, by omega⟩
    obtain ⟨h1, h2⟩ := indexByte_some ho
    rcases Nat.lt_trichotomy o a.length with hlt | rfl | hgt
    · rw [List.getElem?_append_left hlt] at h1
      exact absurd (List.mem_of_getElem? h1) h
    · exact ho
    · exact absurd hat (h2 _ hgt)
theorem linesOf_app {a r : List UInt8} (h : (10 : UInt8) ∉ a) : linesOf (a ++ 10 :: r) = (a ++ [10]) :: linesOf r := by
  have hi := indexByte_at (r := r) h
  have hn : lineN (a ++ 10 :: r) = a.length + 1 := by
    unfold lineN
    rw [hi, if_pos (by omega), Int.toNat_natCast]
  rw [linesOf_cons (by simp), hn]
  congr 1
  · simp [List.take_append, List.take_of_length_le]
  · simp [List.drop_append, List.drop_eq_nil_of_le]
theorem trim_app (a : List UInt8) : trimSuffix (a ++ [10]) [10] = a := by
  have h : hasSuffix (a ++ [10]) [10] = true := by simp [hasSuffix]
  unfold trimSuffix
  rw [if_pos h]
  simp
theorem index_at {r : List UInt8} {c : UInt8} : ∀ {a : List UInt8}, c ∉ a → index (a ++ c :: r) [c] = (a.length : Int)
  | [], _ => by
    show index (c :: r) [c] = 0
    unfold index
    simp
  | b :: a, h => by
    have hb : ¬ c = b := fun e => h (by rw [e]; exact List.mem_cons_self)
    have ih := index_at (r := r) (a := a) (fun hm => h (List.mem_cons_of_mem _ hm))
    show index (b :: (a ++ c :: r)) [c] = _
    unfold index
    rw [ih]
    have h1 : ([c] : List UInt8).isPrefixOf (b :: (a ++ c :: r)) = false := by simp [List.isPrefixOf, hb]
    have h2 : ((a.length : Int) == -1) = false := by simp
    rw [h1, h2]
    simp
theorem split_cons {a r : List UInt8} {c : UInt8} (h : c ∉ a) : split (a ++ c :: r) [c] = a :: split r [c] := by
  have hc : count (a ++ c :: r) [c] = count r [c] + 1 := by
    rw [count_one, count_one, List.count_append, List.count_eq_zero.2 h, List.count_cons_self]
    omega
  have h2 : ((a.length : Int) == -1) = false := by simp
  unfold split
  rw [hc]
  simp only [splitK, index_at h, h2, Int.toNat_natCast]
  simp [List.drop_append, List.drop_eq_nil_of_le]
theorem split_one {a : List UInt8} {c : UInt8} (h : c ∉ a) : split a [c] = [a] := by
  unfold split
  rw [count_one, List.count_eq_zero.2 h]
  rfl
theorem words_tail (hit : ∀ x : Int, (32 : UInt8) ∉ itoa x) : ∀ (xs : List Int) (a : List UInt8), (32 : UInt8) ∉ a → wordsOf (a ++ tailT xs) = a :: xs.map itoa
  | [], a, h => by
    show split (a ++ []) [32] = [a]
    rw [List.append_nil]
    exact split_one h
  | x :: xs, a, h => by
    have e : a ++ tailT (x :: xs) = a ++ 32 :: (itoa x ++ tailT xs) := by simp [tailT]
    have ih := words_tail hit xs (itoa x) (hit x)
    rw [e]
    show split (a ++ 32 :: (itoa x ++ tailT xs)) [32] = _
    rw [split_cons h]
    unfold wordsOf at ih
    rw [ih]
    rfl
theorem itoa_no {c : UInt8} (hc : isDg c = false) (h45 : c ≠ 45) (x : Int) : c ∉ itoa x := by
  have hd : ∀ u, c ∉ decDigits u := fun u h => by
    have := dec_mem u c h
    rw [hc] at this
    cases this
  unfold itoa
  split
  · rw [List.mem_cons]
    rintro (h | h)
    · exact h45 h
    · exact hd _ h
  · exact hd _
theorem parseU_dec {m : Nat} (hm : m ≤ 1000000000000) : parseUintB 64 (decDigits m) = .ok m := by
  obtain ⟨x, r, hx, e⟩ := dec_head m
  have hM : 100000000000000000 ≤ 2 ^ 64 - 1 := by decide
  have h := pM_dec hM m [] 0 (by omega)
  rw [List.append_nil] at h
  unfold parseUintB
  rw [if_neg (by rw [e]; simp), h]
  simp only [parseUintM]
  congr 1
  omega
theorem parse_itoa {n : Int} (h : -1000000000000 ≤ n ∧ n ≤ 1000000000000) : parseIntB 64 (itoa n) = .ok n := by
  have hp := parseU_dec (m := n.natAbs) (by omega)
  unfold itoa
  by_cases hn : n < 0
  · rw [if_pos hn]
    unfold parseIntB
    simp only [show (45 : UInt8).toNat = 45 from rfl]
    rw [if_pos (by simp), hp]
    simp only
    rw [if_neg (by simp), if_neg (by omega)]
    simp
    omega
  · rw [if_neg hn, show n.toNat = n.natAbs by omega]
    obtain ⟨x, r, hx, e⟩ := dec_head n.natAbs
    have hb := bt_nat hx
    rw [e] at hp ⊢
    unfold parseIntB
    simp only [hb]
    rw [if_neg (by omega), hp]
    simp only
    rw [if_neg (by omega), if_neg (by omega), if_neg (by omega)]
    congr 1
    omega
theorem rdI_itoa {n : Int} (h : -1000000000000 ≤ n ∧ n ≤ 1000000000000) : rdI (itoa n) = some n := by
  unfold rdI
  rw [parse_itoa h]
  simp
theorem rdsI_itoa : ∀ {xs : List Int}, (∀ x ∈ xs, -1000000000000 ≤ x ∧ x ≤ 1000000000000) → rdsI (xs.map itoa) = some xs
  | [], _ => rfl
  | x :: xs, h => by
    simp only [List.map_cons, rdsI, rdI_itoa (h x List.mem_cons_self), rdsI_itoa (fun y hy => h y (List.mem_cons_of_mem _ hy))]
theorem kw_no32 (k : Nat) : (32 : UInt8) ∉ kw k := by unfold kw; split <;> simp
theorem kw_no10 (k : Nat) : (10 : UInt8) ∉ kw k := by unfold kw; split <;> simp
theorem tail_no10 (xs : List Int) : (10 : UInt8) ∉ tailT xs := by
  unfold tailT
  rw [List.mem_flatMap]
  rintro ⟨x, _, h⟩
  rw [List.mem_cons] at h
  rcases h with h | h
  · cases h
  · exact itoa_no (by decide) (by decide) x h
theorem line_no10 (s : Seg) : (10 : UInt8) ∉ lineT s := by
  unfold lineT
  rw [List.mem_append]
  rintro (h | h)
  · exact kw_no10 _ h
  · exact tail_no10 _ h
theorem line_words (s : Seg) : wordsOf (lineT s) = kw s.k.toNat :: (nums s).map itoa := words_tail (itoa_no (by decide) (by decide)) (nums s) _ (kw_no32 _)
theorem kidx_kw {k : Int} (h0 : 0 ≤ k) (h1 : k ≤ 4) : kidx (kw k.toNat) = k := by
  obtain ⟨j, rfl⟩ : ∃ j : Nat, k = j := ⟨k.toNat, by omega⟩
  have hj : j < 5 := by omega
  rw [Int.toNat_natCast]
  rcases j with _ | _ | _ | _ | _ | j
  · decide
  · decide
  · decide
  · decide
  · decide
  · omega
/-- a segment whose line can be read -/
def Fair (s : Seg) : Prop := 0 ≤ s.k ∧ s.k ≤ 4 ∧ ∀ x ∈ nums s, -1000000000000 ≤ x ∧ x ≤ 1000000000000
theorem rdLine_line {s : Seg} (h : Fair s) : rdLine (lineT s ++ [10]) = some s := by
  unfold rdLine
  rw [trim_app, line_words]
  simp only [rdsI_itoa h.2.2]
  simp only [nums, kidx_kw h.1 h.2.1]
theorem linesOf_flat : ∀ zs : List Seg, linesOf (zs.flatMap fun s => lineT s ++ [10]) = zs.map fun s => lineT s ++ [10]
  | [] => linesOf_nil
  | s :: zs => by
    have e : ((s :: zs).flatMap fun s => lineT s ++ [10]) = lineT s ++ 10 :: (zs.flatMap fun s => lineT s ++ [10]) := by simp
    rw [e, linesOf_app (line_no10 s), linesOf_flat zs]
    rfl
theorem rdLs_map : ∀ {zs : List Seg}, (∀ s ∈ zs, Fair s) → rdLs (zs.map fun s => lineT s ++ [10]) = some zs
  | [], _ => rfl
  | s :: zs, h => by
    simp only [List.map_cons, rdLs, rdLine_line (h s List.mem_cons_self), rdLs_map (fun y hy => h y (List.mem_cons_of_mem _ hy))]
theorem layK_flat {zs : List Seg} : ∀ {k : Nat}, k ≤ zs.length → layK zs k = (zs.take k).flatMap fun s => lineT s ++ [10]
  | 0, _ => by simp [layK]
  | k + 1, h => by
    rw [layK, layK_flat (by omega), List.take_succ_eq_append_getElem (by omega), List.flatMap_append]
    have e : sg zs k = zs[k] := by
      unfold sg
      rw [List.getD_eq_getElem?_getD, List.getElem?_eq_getElem (by omega)]
      rfl
    rw [e]
    simp
theorem layT_flat (zs : List Seg) : layT zs = zs.flatMap fun s => lineT s ++ [10] := by
  unfold layT
  rw [layK_flat (Nat.le_refl _), List.take_length]
theorem riI_layT {zs : List Seg} (hL : layOk zs = true) (h : ∀ s ∈ zs, Fair s) : riI (layT zs) = some zs := by
  unfold riI
  rw [layT_flat, linesOf_flat, rdLs_map h]
  simp [hL, layT_flat]
theorem riI_some {s : List UInt8} {zs : List Seg} (h : riI s = some zs) : layOk zs = true ∧ layT zs = s := by
  unfold riI at h
  split at h
  · split at h
    · rename_i h1 h2
      cases h
      exact h2
    · cases h
  · cases h
theorem fair_of {zs : List Seg} (hL : layOk zs = true) : ∀ s ∈ zs, Fair s := by
  intro s hs
  obtain ⟨i, hi, rfl⟩ := List.getElem_of_mem hs
  have h := (layOk_iff.1 hL).2.2.1 i hi
  have e : sg zs i = zs[i] := by
    unfold sg
    rw [List.getD_eq_getElem?_getD, List.getElem?_eq_getElem hi]
    rfl
  rw [e] at h
  have h2 := h
  unfold Seg.ok segOk at h2
  have h3 := inB_iff.1 (Bool.and_eq_true_iff.1 h2).1
  exact ⟨by omega, by omega, nums_bd h⟩
theorem riI_iff {s : List UInt8} {zs : List Seg} : riI s = some zs ↔ layOk zs = true ∧ layT zs = s := by
  refine ⟨riI_some, fun ⟨h1, h2⟩ => ?_⟩
  rw [← h2]
  exact riI_layT h1 (fair_of h1)

end Go.Proofs.YtfbfiikomlnllaaGreatDoor
