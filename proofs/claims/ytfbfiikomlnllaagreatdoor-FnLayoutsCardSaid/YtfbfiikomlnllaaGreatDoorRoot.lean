/- Contracts and lemmas for the proofs of this seat: Root. -/
import Derived.Test.YtfbfiikomlnllaaGreatDoorBase
import Derived.Test.YtfbfiikomlnllaaGreatDoorNum
import Derived.Test.YtfbfiikomlnllaaGreatDoorDiv
import Derived.Lib.Hide
namespace Go.Proofs.YtfbfiikomlnllaaGreatDoor
open Go.RowKit
set_option maxHeartbeats 2000000
set_option linter.unusedVariables false
set_option linter.unusedSimpArgs false

def IsRoot (n r : Int) : Prop := 0 ≤ r ∧ r * r ≤ n ∧ n < (r + 1) * (r + 1)
theorem sq_le {a b : Int} (h0 : 0 ≤ a) (h : a ≤ b) : a * a ≤ b * b := Int.mul_le_mul h h h0 (by omega)
theorem IsRoot.unique {n r s : Int} (h : IsRoot n r) (k : IsRoot n s) : r = s := by
  rcases ilt r s with c | c
  · have := sq_le (a := r + 1) (b := s) (by have := h.1; omega) (by omega)
    have := h.2.2; have := k.2.1; omega
  · rcases ilt s r with d | d
    · have := sq_le (a := s + 1) (b := r) (by have := k.1; omega) (by omega)
      have := k.2.2; have := h.2.1; omega
    · omega
def rootTo (n : Int) : Nat → Int
  | 0 => 0
  | k + 1 => if ((k : Int) + 1) * (k + 1) ≤ n then k + 1 else rootTo n k
theorem rootTo_is (n : Int) (h : 0 ≤ n) : ∀ k : Nat, n < ((k : Int) + 1) * (k + 1) → IsRoot n (rootTo n k)
  | 0, hk => ⟨by simp [rootTo], by simpa [rootTo] using h, by simpa [rootTo] using hk⟩
  | k + 1, hk => by
    unfold rootTo
    split
    · rename_i c; exact ⟨by omega, c, by simpa using hk⟩
    · rename_i c; exact rootTo_is n h k (by omega)
def rootN (n : Int) : Int := rootTo n n.toNat
theorem rootN_is {n : Int} (h : 0 ≤ n) : IsRoot n (rootN n) := by
  refine rootTo_is n h _ ?_
  rw [Int.toNat_of_nonneg h]
  have := Int.mul_le_mul (a := 1) (b := n + 1) (c := n + 1) (d := n + 1) (by omega) (Int.le_refl _) (by omega) (by omega)
  omega
theorem IsRoot.eq {n r : Int} (h : IsRoot n r) : r = rootN n := h.unique (rootN_is (Int.le_trans (by simpa using Int.mul_nonneg h.1 h.1) h.2.1))
theorem sq_bd {m M : Int} (h0 : 0 ≤ m) (h : m ≤ M) : 0 ≤ m * m ∧ m * m ≤ M * M := ⟨Int.mul_nonneg h0 h0, sq_le h0 h⟩
theorem rootN_bd {n : Int} (h0 : 0 ≤ n) (h : n ≤ 1000000000000) : 0 ≤ rootN n ∧ rootN n ≤ 1000000 := by
  have k := rootN_is h0
  refine ⟨k.1, ?_⟩
  rcases ilt 1000000 (rootN n) with c | c
  · have := sq_le (a := 1000001) (b := rootN n) (by omega) (by omega)
    have := k.2.1; omega
  · exact c
def rootUpN (n : Int) : Int := if rootN n * rootN n < n then rootN n + 1 else rootN n
def rootDownR (n : Int) : Int × Int := if inB n 0 1000000000000 = true then (rootN n, 0) else (0, 2)
def rootUpR (n : Int) : Int × Int := if inB n 0 1000000000000 = true then (rootUpN n, 0) else (0, 2)

end Go.Proofs.YtfbfiikomlnllaaGreatDoor
