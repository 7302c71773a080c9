/- Contracts and lemmas for the proofs of this seat: ReadSpec. -/
import Derived.Test.YtfbfiikomlnllaaGreatDoorBase
import Derived.Test.YtfbfiikomlnllaaGreatDoorNum
import Derived.Test.YtfbfiikomlnllaaGreatDoorSeg
import Derived.Test.YtfbfiikomlnllaaGreatDoorLay
import Derived.Test.YtfbfiikomlnllaaGreatDoorLay2
import Derived.Test.YtfbfiikomlnllaaGreatDoorLay3
import Derived.Test.YtfbfiikomlnllaaGreatDoorLay15
import Derived.Test.YtfbfiikomlnllaaGreatDoorShelf
import Derived.Test.YtfbfiikomlnllaaGreatDoorText1
import Derived.Test.YtfbfiikomlnllaaGreatDoorTextLaw
import Derived.Test.YtfbfiikomlnllaaGreatDoorText2
import Derived.Test.YtfbfiikomlnllaaGreatDoorLayText
import Derived.Test.YtfbfiikomlnllaaGreatDoorRangeB
import Derived.Test.YtfbfiikomlnllaaGreatDoorLines
import Derived.Test.YtfbfiikomlnllaaGreatDoorRead1
import Derived.Test.YtfbfiikomlnllaaGreatDoorRead2
import Derived.Test.YtfbfiikomlnllaaGreatDoorReadLaw
import Derived.Lib.Hide
import Derived.Lib.SplitLaws
import Derived.Lib.IndexLaws
namespace Go.Proofs.YtfbfiikomlnllaaGreatDoor
open Go.RowKit Go.Lib
set_option maxHeartbeats 2000000
set_option linter.unusedVariables false
set_option linter.unusedSimpArgs false

-- (6)
def valN (z : List UInt8) : Nat := z.foldl (fun n c => 10 * n + (c.toNat - 48)) 0
/-- the spec's reading of a number without a sign -/
def rdV (z : List UInt8) : Option Nat := if 1 ≤ z.length ∧ z.length ≤ 12 ∧ z.all isDg = true ∧ decDigits (valN z) = z then some (valN z) else none
def rdS (z : List UInt8) : Option Int := if z.head? = some 45 then (match rdV z.tail with
    | some n => if 0 < n then some (-(n : Int)) else none
    | none => none) else (match rdV z with
    | some n => some (n : Int)
    | none => none)
def rdsS : List (List UInt8) → Option (List Int)
  | [] => some []
  | z :: r => match rdS z, rdsS r with
    | some x, some ys => some (x :: ys)
    | _, _ => none
def rdLineS (x : List UInt8) : Option Seg := match wordsOf x with
  | k :: r => match rdsS r with
    | some [a, b, c, d, e, f] => if 0 ≤ kidx k then some ⟨kidx k, a, b, c, d, e, f⟩ else none
    | _ => none
  | [] => none
def rdLsS : List (List UInt8) → Option (List Seg)
  | [] => some []
  | x :: r => match rdLineS x, rdLsS r with
    | some s, some zs => some (s :: zs)
    | _, _ => none
def riS (s : List UInt8) : Option (List Seg) := match rdLsS (split s [10]).dropLast with
  | some zs => if layOk zs = true ∧ (split s [10]).getLast? = some [] then some zs else none
  | none => none
theorem valN_dec (u : Nat) : valN (decDigits u) = u := by
  induction u using Nat.strongRecOn with
  | _ u ih =>
    by_cases h : u < 10
    · rw [decDigits_bt1 h]
      simp [valN, bt_nat h]
    · rw [decDigits_btS h]
      have h2 := ih (u / 10) (by omega)
      unfold valN at h2 ⊢
      rw [List.foldl_append, h2]
      simp only [List.foldl_cons, List.foldl_nil, bt_nat (show u % 10 < 10 by omega)]
      omega
theorem rdV_dec {u : Nat} (h : u < 1000000000000) : rdV (decDigits u) = some u := by
  have h1 : (decDigits u).length ≤ 12 := decDigits_short 11 u (by omega)
  have h2 : 1 ≤ (decDigits u).length := by
    obtain ⟨x, r, _, e⟩ := dec_head u
    rw [e]
    simp
  have h3 : (decDigits u).all isDg = true := List.all_eq_true.2 (dec_mem u)
  unfold rdV
  rw [valN_dec, if_pos ⟨h2, h1, h3, rfl⟩]
theorem rdV_some {z : List UInt8} {u : Nat} (h : rdV z = some u) : decDigits u = z := by
  unfold rdV at h
  split at h
  · rename_i hc
    cases h
    exact hc.2.2.2
  · cases h
theorem rdS_itoa {x : Int} (h : -1000000000000 < x ∧ x < 1000000000000) : rdS (itoa x) = some x := by
  unfold itoa
  by_cases hn : x < 0
  · rw [if_pos hn]
    unfold rdS
    simp only [List.head?_cons, List.tail_cons, if_true, rdV_dec (u := x.natAbs) (by omega)]
    rw [if_pos (by omega)]
    congr 1
    omega
  · rw [if_neg hn]
    obtain ⟨y, r, hy, e⟩ := dec_head x.toNat
    have hb := bt_nat hy
    have hh : ¬ (decDigits x.toNat).head? = some 45 := by
      rw [e]
      intro hq
      simp only [List.head?_cons, Option.some.injEq] at hq
      rw [hq] at hb
      have : (45 : UInt8).toNat = 45 := rfl
      omega
    unfold rdS
    rw [if_neg hh, rdV_dec (by omega)]
    simp only
    congr 1
    omega
theorem rdS_some {z : List UInt8} {x : Int} (h : rdS z = some x) : itoa x = z := by
  unfold rdS at h
  split at h
  · rename_i hh
    obtain ⟨r, rfl⟩ : ∃ r, z = 45 :: r := by
      cases z with
      | nil => cases hh
      | cons a r =>
        simp only [List.head?_cons, Option.some.injEq] at hh
        exact ⟨r, by rw [hh]⟩
    rw [List.tail_cons] at h
    split at h
    · rename_i n hn
      split at h
      · cases h
        have := rdV_some hn
        unfold itoa
        rw [if_pos (by omega), show (-(n : Int)).natAbs = n by omega, this]
      · cases h
    · cases h
  · split at h
    · rename_i n hn
      cases h
      have := rdV_some hn
      unfold itoa
      rw [if_neg (by omega), show (n : Int).toNat = n by omega, this]
    · cases h
theorem rdsS_some : ∀ {ws : List (List UInt8)} {xs : List Int}, rdsS ws = some xs → xs.map itoa = ws
  | [], xs, h => by simp only [rdsS, Option.some.injEq] at h; subst h; rfl
  | z :: r, xs, h => by
    simp only [rdsS] at h
    split at h
    · rename_i x ys h1 h2
      cases h
      rw [List.map_cons, rdS_some h1, rdsS_some h2]
    · cases h
theorem rdsS_itoa : ∀ {xs : List Int}, (∀ x ∈ xs, -1000000000000 < x ∧ x < 1000000000000) → rdsS (xs.map itoa) = some xs
  | [], _ => rfl
  | x :: xs, h => by
    simp only [List.map_cons, rdsS, rdS_itoa (h x List.mem_cons_self), rdsS_itoa (fun y hy => h y (List.mem_cons_of_mem _ hy))]
theorem first_occ {c : UInt8} : ∀ s : List UInt8, c ∉ s ∨ ∃ a r, s = a ++ c :: r ∧ c ∉ a
  | [] => .inl (by simp)
  | b :: s => by
    by_cases hb : b = c
    · exact .inr ⟨[], s, by rw [hb]; rfl, by simp⟩
    · rcases first_occ (c := c) s with h | ⟨a, r, rfl, h⟩
      · exact .inl (fun hm => by
          rw [List.mem_cons] at hm
          rcases hm with hm | hm
          · exact hb hm.symm
          · exact h hm)
      · exact .inr ⟨b :: a, r, rfl, fun hm => by
          rw [List.mem_cons] at hm
          rcases hm with hm | hm
          · exact hb hm.symm
          · exact h hm⟩
theorem split_back {c : UInt8} : ∀ (n : Nat) (s : List UInt8), s.length ≤ n → ∃ k r, split s [c] = k :: r ∧ s = k ++ r.flatMap fun z => c :: z
  | 0, s, h => by
    have : s = [] := List.eq_nil_of_length_eq_zero (by omega)
    subst this
    exact ⟨[], [], split_one (by simp), rfl⟩
  | n + 1, s, h => by
    rcases first_occ (c := c) s with hs | ⟨a, r, rfl, ha⟩
    · exact ⟨s, [], split_one hs, by simp⟩
    · obtain ⟨k, q, h1, h2⟩ := split_back n r (by rw [List.length_append, List.length_cons] at h; omega)
      exact ⟨a, k :: q, by rw [split_cons ha, h1], by rw [List.flatMap_cons, List.cons_append, ← h2]⟩
theorem split_lines {c : UInt8} : ∀ (xs : List (List UInt8)), (∀ x ∈ xs, c ∉ x) → split (xs.flatMap fun x => x ++ [c]) [c] = xs ++ [[]]
  | [], _ => split_one (by simp)
  | x :: xs, h => by
    have e : ((x :: xs).flatMap fun x => x ++ [c]) = x ++ c :: (xs.flatMap fun x => x ++ [c]) := by simp
    rw [e, split_cons (h x List.mem_cons_self), split_lines xs (fun y hy => h y (List.mem_cons_of_mem _ hy))]
    rfl
theorem tail_map (xs : List Int) : (xs.map itoa).flatMap (fun z => (32 : UInt8) :: z) = tailT xs := by
  unfold tailT
  induction xs with
  | nil => rfl
  | cons x xs ih => rw [List.map_cons, List.flatMap_cons, List.flatMap_cons, ih]
theorem rdLineS_line {s : Seg} (h : Fair s) (h2 : ∀ x ∈ nums s, -1000000000000 < x ∧ x < 1000000000000) : rdLineS (lineT s) = some s := by
  unfold rdLineS
  rw [line_words]
  simp only [rdsS_itoa h2]
  simp only [nums, kidx_kw h.1 h.2.1]
  rw [if_pos h.1]
theorem kidx_mem {z : List UInt8} (h : 0 ≤ kidx z) : ∃ k : Nat, k < 5 ∧ z = kw k := by
  have hm := (idxOfS_nonneg_iff _ _).1 h
  have key : ∀ k, (⟨(kw k).toArray⟩ : ByteArray) = ⟨z.toArray⟩ → z = kw k := fun k e => by
    have h2 := congrArg (fun b : ByteArray => b.data.toList) e
    exact h2.symm
  simp only [List.map_cons, List.map_nil, List.mem_cons, List.not_mem_nil, or_false] at hm
  rcases hm with h | h | h | h | h
  · exact ⟨0, by omega, key 0 h.symm⟩
  · exact ⟨1, by omega, key 1 h.symm⟩
  · exact ⟨2, by omega, key 2 h.symm⟩
  · exact ⟨3, by omega, key 3 h.symm⟩
  · exact ⟨4, by omega, key 4 h.symm⟩
theorem rdLineS_some {x : List UInt8} {s : Seg} (h : rdLineS x = some s) : lineT s = x := by
  obtain ⟨k, r, h1, h2⟩ := split_back (c := 32) x.length x (Nat.le_refl _)
  have hw : wordsOf x = k :: r := h1
  unfold rdLineS at h
  rw [hw] at h
  simp only at h
  split at h
  · rename_i a b c d e f hr
    split at h
    · rename_i hk
      cases h
      obtain ⟨j, hj, rfl⟩ := kidx_mem hk
      have hkj := kidx_kw (k := (j : Int)) (by omega) (by omega)
      rw [Int.toNat_natCast] at hkj
      have hxs := rdsS_some hr
      unfold lineT
      rw [h2, ← hxs, tail_map]
      simp only [nums, hkj, Int.toNat_natCast]
    · cases h
  · cases h
theorem rdLsS_some : ∀ {xs : List (List UInt8)} {zs : List Seg}, rdLsS xs = some zs → zs.map lineT = xs
  | [], zs, h => by simp only [rdLsS, Option.some.injEq] at h; subst h; rfl
  | x :: r, zs, h => by
    simp only [rdLsS] at h
    split at h
    · rename_i s ys h1 h2
      cases h
      rw [List.map_cons, rdLineS_some h1, rdLsS_some h2]
    · cases h
theorem rdLsS_map : ∀ {zs : List Seg}, (∀ s ∈ zs, Fair s ∧ ∀ x ∈ nums s, -1000000000000 < x ∧ x < 1000000000000) → rdLsS (zs.map lineT) = some zs
  | [], _ => rfl
  | s :: zs, h => by
    simp only [List.map_cons, rdLsS, rdLineS_line (h s List.mem_cons_self).1 (h s List.mem_cons_self).2, rdLsS_map (fun y hy => h y (List.mem_cons_of_mem _ hy))]
theorem glue {c : UInt8} : ∀ (ps : List (List UInt8)) (k : List UInt8) (r : List (List UInt8)), k :: r = ps ++ [[]] → k ++ r.flatMap (fun z => c :: z) = ps.flatMap fun x => x ++ [c]
  | [], k, r, h => by
    simp only [List.nil_append, List.cons.injEq] at h
    obtain ⟨rfl, rfl⟩ := h
    rfl
  | p :: ps, k, r, h => by
    simp only [List.cons_append, List.cons.injEq] at h
    obtain ⟨rfl, h⟩ := h
    cases r with
    | nil => exact absurd h (by simp)
    | cons k' r' =>
      have ih := glue (c := c) ps k' r' h
      rw [List.flatMap_cons, List.flatMap_cons, List.cons_append, ih]
      simp
theorem layT_lines (zs : List Seg) : layT zs = (zs.map lineT).flatMap fun x => x ++ [10] := by
  rw [layT_flat]
  induction zs with
  | nil => rfl
  | cons z zs ih => rw [List.flatMap_cons, List.map_cons, List.flatMap_cons, ih]
theorem fair_small {s : Seg} (h : s.ok = true) : ∀ x ∈ nums s, -1000000000000 < x ∧ x < 1000000000000 := by
  have hb := ok_bd h
  intro x hx
  simp only [nums, List.mem_cons, List.not_mem_nil, or_false] at hx
  rcases hx with rfl | rfl | rfl | rfl | rfl | rfl <;> omega
theorem ok_mem {zs : List Seg} (hL : layOk zs = true) : ∀ s ∈ zs, s.ok = true := by
  intro s hs
  obtain ⟨i, hi, rfl⟩ := List.getElem_of_mem hs
  have h := (layOk_iff.1 hL).2.2.1 i hi
  have e : sg zs i = zs[i] := by
    unfold sg
    rw [List.getD_eq_getElem?_getD, List.getElem?_eq_getElem hi]
    rfl
  rw [e] at h
  exact h
theorem riS_iff {s : List UInt8} {zs : List Seg} : riS s = some zs ↔ layOk zs = true ∧ layT zs = s := by
  constructor
  · intro h
    unfold riS at h
    split at h
    · rename_i ys hy
      split at h
      · rename_i hc
        cases h
        refine ⟨hc.1, ?_⟩
        obtain ⟨k, r, h1, h2⟩ := split_back (c := 10) s.length s (Nat.le_refl _)
        have h3 := rdLsS_some hy
        have h4 : split s [10] = (split s [10]).dropLast ++ [[]] := by
          obtain ⟨ys', e⟩ := List.getLast?_eq_some_iff.1 hc.2
          rw [e, List.dropLast_concat]
        rw [layT_lines, h3]
        have h5 := glue (c := 10) (split s [10]).dropLast k r (by rw [← h1]; exact h4)
        exact h5.symm.trans h2.symm
      · cases h
    · cases h
  · rintro ⟨hL, rfl⟩
    have hp : split (layT zs) [10] = zs.map lineT ++ [[]] := by
      rw [layT_lines]
      refine split_lines _ (fun x hx => ?_)
      obtain ⟨s, _, rfl⟩ := List.mem_map.1 hx
      exact line_no10 s
    unfold riS
    rw [hp, List.dropLast_concat, rdLsS_map (fun s hs => ⟨fair_of hL s hs, fair_small (ok_mem hL s hs)⟩)]
    simp [hL]
theorem riS_eq (s : List UInt8) : riS s = riI s := by
  cases h : riI s with
  | some zs => exact riS_iff.2 (riI_iff.1 h)
  | none =>
    cases h2 : riS s with
    | none => rfl
    | some zs =>
      have := riI_iff.2 (riS_iff.1 h2)
      rw [h] at this
      cases this

end Go.Proofs.YtfbfiikomlnllaaGreatDoor
