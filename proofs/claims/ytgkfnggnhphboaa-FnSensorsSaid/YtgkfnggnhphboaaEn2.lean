/- Contracts and lemmas for the proofs of this seat: En2. -/
import Derived.Test.YtgkfnggnhphboaaBase
import Derived.Test.YtgkfnggnhphboaaNum
import Derived.Test.YtgkfnggnhphboaaIv
import Derived.Test.YtgkfnggnhphboaaIv2
import Derived.Test.YtgkfnggnhphboaaScale
import Derived.Test.YtgkfnggnhphboaaDiv
import Derived.Test.YtgkfnggnhphboaaRoot
import Derived.Test.YtgkfnggnhphboaaEn
import Derived.Test.YtgkfnggnhphboaaSeg
import Derived.Lib.Hide
import Derived.BigQuiet
import Derived.Deep.QuietTactic
import Derived.Deep.RegionHeld3
namespace Go.Proofs.Ytgkfnggnhphboaa
open Go.RowKit
set_option maxHeartbeats 2000000
set_option linter.unusedVariables false
set_option linter.unusedSimpArgs false

attribute [local go_sem] lt_2 lt_3 lt_4 lt_5 lt_6
def chLo (n r d : Int) : Int := -19612 * r - 2 * d * n
def chHi (n r c : Int) : Int := -19612 * r - 2 * c * n
theorem ch_bd {n r d : Int} (h1 : 1 ≤ n ∧ n ≤ 200000) (h2 : -100000 ≤ r ∧ r ≤ 100000) (h3 : 0 ≤ d ∧ d ≤ 20000) : -10000000000 ≤ chLo n r d ∧ chLo n r d ≤ 10000000000 ∧ -8000000000 ≤ 2 * d * n ∧ 2 * d * n ≤ 8000000000 := by
  have h := mul_bd (a := 2 * d) (k := n) 40000 200000 (by omega) (by omega)
  simp only [Nat.reduceMul] at h
  unfold chLo; omega
theorem chHi_eq (n r c : Int) : chHi n r c = chLo n r c := rfl
theorem ch_le {n r c d : Int} (h1 : 1 ≤ n) (h : c ≤ d) : chLo n r d ≤ chHi n r c := by
  have := Int.mul_le_mul_of_nonneg_right (show 2 * c ≤ 2 * d by omega) (show (0 : Int) ≤ n by omega)
  unfold chLo chHi; omega
def changeR (k n r c d e f : Int) : Int × Int × Int := if segOk k n r c d e f = true then (chLo n r d, chHi n r c, 0) else (0, 0, 1)
def passV (k n r c d e f a b : Int) : Int × Int :=
  if segOk k n r c d e f = true ∧ isEn a b = true then (if 0 ≤ a + chLo n r d then (2, 0) else if b + chHi n r c < 0 then (0, 0) else (1, 0)) else (0, 1)
def enCheck (lo hi : Int) : Int × Int × Int := if lo < 0 then (0, 0, 5) else if 10000000000 < hi then (0, 0, 3) else (lo, hi, 0)
def enAfter (k n r c d e f a b : Int) : Int × Int × Int :=
  if segOk k n r c d e f = true ∧ isEn a b = true then enCheck (a + chLo n r d) (b + chHi n r c) else (0, 0, 1)
def speedR (a b : Int) : Int × Int × Int := if isEn a b = true then (rootN a, rootUpN b, 0) else (0, 0, 1)

theorem i_change (k n r c d e f : Int) (h : segOk k n r c d e f = true) (w : World) : Calls Try.prog 115 #[segV k n r c d e f] w fun en w' => en = .returned (ivV (chLo n r d) (chHi n r c)) ∧ Below w.heap.size w w' := by
  have hb := segOk_bd h
  have p1 := ch_bd (n := n) (r := r) (d := d) (by omega) (by omega) (by omega)
  have p2 := ch_bd (n := n) (r := r) (d := c) (by omega) (by omega) (by omega)
  have w1 : wrap64 (2 * d * n) = 2 * d * n := by unfold wrap64; omega
  have w2 : wrap64 (2 * c * n) = 2 * c * n := by unfold wrap64; omega
  clear h
  unfold chLo chHi
  go_enter Try.func115, Try.ntmps115
  go_wp2
  refine bodyPost_ret (v := ivV (-19612 * r - 2 * d * n) (-19612 * r - 2 * c * n)) (by simp [results, Try.results115, go_sem, *]) rfl ⟨rfl, ?_⟩
  repeat (first | exact Below.refl _ _ | refine balloc ?_ _ | refine Below.drew ?_ | refine bdrewN ?_ _ | refine bto ?_ (Own.below (by assumption)) | refine bset ?_ (by first | (simp; done) | (simp; omega) | exact Own.le_w (by assumption) (by first | (simp; done) | (simp; omega))) _)

theorem s_l06Change (k n r c d e f : Int) (h : segOk k n r c d e f = true) (w : World) : Calls Try.prog 118 #[segV k n r c d e f] w fun en w' => en = .returned (ivV (chLo n r d) (chHi n r c)) ∧ Below w.heap.size w w' := by
  have hb := segOk_bd h
  have p1 := ch_bd (n := n) (r := r) (d := d) (by omega) (by omega) (by omega)
  have p2 := ch_bd (n := n) (r := r) (d := c) (by omega) (by omega) (by omega)
  have w1 : wrap64 (2 * d * n) = 2 * d * n := by unfold wrap64; omega
  have w2 : wrap64 (2 * c * n) = 2 * c * n := by unfold wrap64; omega
  clear h
  unfold chLo chHi
  go_enter Try.func118, Try.ntmps118
  go_wp2
  refine bodyPost_ret (v := ivV (-19612 * r - 2 * d * n) (-19612 * r - 2 * c * n)) (by simp [results, Try.results118, go_sem, *]) rfl ⟨rfl, ?_⟩
  repeat (first | exact Below.refl _ _ | refine balloc ?_ _ | refine Below.drew ?_ | refine bdrewN ?_ _ | refine bto ?_ (Own.below (by assumption)) | refine bset ?_ (by first | (simp; done) | (simp; omega) | exact Own.le_w (by assumption) (by first | (simp; done) | (simp; omega))) _)

theorem s_l06Sum (al ah bl bh : Int) (h1 : -1000000000000000 ≤ al ∧ al ≤ 1000000000000000) (h2 : -1000000000000000 ≤ ah ∧ ah ≤ 1000000000000000) (h3 : -1000000000000000 ≤ bl ∧ bl ≤ 1000000000000000) (h4 : -1000000000000000 ≤ bh ∧ bh ≤ 1000000000000000) (w : World) :
    Calls Try.prog 128 #[ivV al ah, ivV bl bh] w fun en w' => en = .returned (ivV (al + bl) (ah + bh)) ∧ Below w.heap.size w w' := by
  go_enter Try.func128, Try.ntmps128
  go_wp2
  refine bodyPost_ret (v := ivV (al + bl) (ah + bh)) (by simp [results, Try.results128, go_sem, *]) rfl ⟨rfl, ?_⟩
  repeat (first | exact Below.refl _ _ | refine balloc ?_ _ | refine Below.drew ?_ | refine bdrewN ?_ _ | refine bto ?_ (Own.below (by assumption)) | refine bset ?_ (by first | (simp; done) | (simp; omega) | exact Own.le_w (by assumption) (by first | (simp; done) | (simp; omega))) _)

theorem i_change_x (k n r c d e f : Int) (h : segOk k n r c d e f = true) (w : World) : Calls Try.prog 115 #[segV k n r c d e f] w fun en w' => en = .returned (ivV (chLo n r d) (chHi n r c)) ∧
    ((w.alloc (Obj.cells #[Value.int IntKind.i64 k, Value.int IntKind.i64 n, Value.int IntKind.i64 r, Value.int IntKind.i64 c, Value.int IntKind.i64 d, Value.int IntKind.i64 e, Value.int IntKind.i64 f] 45)).alloc (Obj.cells #[Value.int IntKind.i64 (chLo n r d), Value.int IntKind.i64 (chHi n r c)] 35)) = w' := by
  have hb := segOk_bd h
  have p1 := ch_bd (n := n) (r := r) (d := d) (by omega) (by omega) (by omega)
  have p2 := ch_bd (n := n) (r := r) (d := c) (by omega) (by omega) (by omega)
  have w1 : wrap64 (2 * d * n) = 2 * d * n := by unfold wrap64; omega
  have w2 : wrap64 (2 * c * n) = 2 * c * n := by unfold wrap64; omega
  clear h
  unfold chLo chHi
  go_enter Try.func115, Try.ntmps115
  go_wp2
  refine bodyPost_ret (v := ivV (-19612 * r - 2 * d * n) (-19612 * r - 2 * c * n)) (by simp [results, Try.results115, go_sem, *]) rfl ⟨rfl, ?_⟩
  rfl

theorem s_change_x (k n r c d e f : Int) (h : segOk k n r c d e f = true) (w : World) : Calls Try.prog 118 #[segV k n r c d e f] w fun en w' => en = .returned (ivV (chLo n r d) (chHi n r c)) ∧
    ((w.alloc (Obj.cells #[Value.int IntKind.i64 k, Value.int IntKind.i64 n, Value.int IntKind.i64 r, Value.int IntKind.i64 c, Value.int IntKind.i64 d, Value.int IntKind.i64 e, Value.int IntKind.i64 f] 45)).alloc (Obj.cells #[Value.int IntKind.i64 (chLo n r d), Value.int IntKind.i64 (chHi n r c)] 35)) = w' := by
  have hb := segOk_bd h
  have p1 := ch_bd (n := n) (r := r) (d := d) (by omega) (by omega) (by omega)
  have p2 := ch_bd (n := n) (r := r) (d := c) (by omega) (by omega) (by omega)
  have w1 : wrap64 (2 * d * n) = 2 * d * n := by unfold wrap64; omega
  have w2 : wrap64 (2 * c * n) = 2 * c * n := by unfold wrap64; omega
  clear h
  unfold chLo chHi
  go_enter Try.func118, Try.ntmps118
  go_wp2
  refine bodyPost_ret (v := ivV (-19612 * r - 2 * d * n) (-19612 * r - 2 * c * n)) (by simp [results, Try.results118, go_sem, *]) rfl ⟨rfl, ?_⟩
  rfl

theorem i_sum_x (al ah bl bh : Int) (h1 : -1000000000000000 ≤ al ∧ al ≤ 1000000000000000) (h2 : -1000000000000000 ≤ ah ∧ ah ≤ 1000000000000000) (h3 : -1000000000000000 ≤ bl ∧ bl ≤ 1000000000000000) (h4 : -1000000000000000 ≤ bh ∧ bh ≤ 1000000000000000) (w : World) :
    Calls Try.prog 114 #[ivV al ah, ivV bl bh] w fun en w' => en = .returned (ivV (al + bl) (ah + bh)) ∧
    (((w.alloc (Obj.cells #[Value.int IntKind.i64 al, Value.int IntKind.i64 ah] 35)).alloc (Obj.cells #[Value.int IntKind.i64 bl, Value.int IntKind.i64 bh] 35)).alloc (Obj.cells #[Value.int IntKind.i64 (al + bl), Value.int IntKind.i64 (ah + bh)] 35)) = w' := by
  go_enter Try.func114, Try.ntmps114
  go_wp2
  refine bodyPost_ret (v := ivV (al + bl) (ah + bh)) (by simp [results, Try.results114, go_sem, *]) rfl ⟨rfl, ?_⟩
  rfl

theorem s_sum_x (al ah bl bh : Int) (h1 : -1000000000000000 ≤ al ∧ al ≤ 1000000000000000) (h2 : -1000000000000000 ≤ ah ∧ ah ≤ 1000000000000000) (h3 : -1000000000000000 ≤ bl ∧ bl ≤ 1000000000000000) (h4 : -1000000000000000 ≤ bh ∧ bh ≤ 1000000000000000) (w : World) :
    Calls Try.prog 128 #[ivV al ah, ivV bl bh] w fun en w' => en = .returned (ivV (al + bl) (ah + bh)) ∧
    (((w.alloc (Obj.cells #[Value.int IntKind.i64 al, Value.int IntKind.i64 ah] 35)).alloc (Obj.cells #[Value.int IntKind.i64 bl, Value.int IntKind.i64 bh] 35)).alloc (Obj.cells #[Value.int IntKind.i64 (al + bl), Value.int IntKind.i64 (ah + bh)] 35)) = w' := by
  go_enter Try.func128, Try.ntmps128
  go_wp2
  refine bodyPost_ret (v := ivV (al + bl) (ah + bh)) (by simp [results, Try.results128, go_sem, *]) rfl ⟨rfl, ?_⟩
  rfl

end Go.Proofs.Ytgkfnggnhphboaa
