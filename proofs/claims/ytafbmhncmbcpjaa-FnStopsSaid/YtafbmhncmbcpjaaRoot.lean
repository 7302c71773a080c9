/- Contracts and lemmas for the proofs of this seat: Root. -/
import Derived.Test.YtafbmhncmbcpjaaBase
import Derived.Test.YtafbmhncmbcpjaaNum
import Derived.Test.YtafbmhncmbcpjaaDiv
import Derived.Lib.Hide
namespace Go.Proofs.Ytafbmhncmbcpjaa
open Go.RowKit
set_option maxHeartbeats 2000000
set_option linter.unusedVariables false
set_option linter.unusedSimpArgs false

def IsRoot (n r : Int) : Prop := 0 ≤ r ∧ r * r ≤ n ∧ n < (r + 1) * (r + 1)
theorem sq_le {a b : Int} (h0 : 0 ≤ a) (h : a ≤ b) : a * a ≤ b * b := Int.mul_le_mul h h h0 (by omega)
theorem IsRoot.unique {n r s : Int} (h : IsRoot n r) (k : IsRoot n s) : r = s := by
  rcases ilt r s with c | c
  · have := sq_le (a := r + 1) (b := s) (by have := h.1; omega) (by omega)
    have := h.2.2; have := k.2.1; omega
  · rcases ilt s r with d | d
    · have := sq_le (a := s + 1) (b := r) (by have := k.1; omega) (by omega)
      have := k.2.2; have := h.2.1; omega
    · omega
def rootTo (n : Int) : Nat → Int
  | 0 => 0
  | k + 1 => if ((k : Int) + 1) * (k + 1) ≤ n then k + 1 else rootTo n k
theorem rootTo_is (n : Int) (h : 0 ≤ n) : ∀ k : Nat, n < ((k : Int) + 1) * (k + 1) → IsRoot n (rootTo n k)
  | 0, hk => ⟨by simp [rootTo], by simpa [rootTo] using h, by simpa [rootTo] using hk⟩
  | k + 1, hk => by
    unfold rootTo
    split
    · rename_i c; exact ⟨by omega, c, by simpa using hk⟩
    · rename_i c; exact rootTo_is n h k (by omega)
def rootN (n : Int) : Int := rootTo n n.toNat
theorem rootN_is {n : Int} (h : 0 ≤ n) : IsRoot n (rootN n) := by
  refine rootTo_is n h _ ?_
  rw [Int.toNat_of_nonneg h]
  have := Int.mul_le_mul (a := 1) (b := n + 1) (c := n + 1) (d := n + 1) (by omega) (Int.le_refl _) (by omega) (by omega)
  omega
theorem IsRoot.eq {n r : Int} (h : IsRoot n r) : r = rootN n := h.unique (rootN_is (Int.le_trans (by simpa using Int.mul_nonneg h.1 h.1) h.2.1))
theorem sq_bd {m M : Int} (h0 : 0 ≤ m) (h : m ≤ M) : 0 ≤ m * m ∧ m * m ≤ M * M := ⟨Int.mul_nonneg h0 h0, sq_le h0 h⟩
theorem rootN_bd {n : Int} (h0 : 0 ≤ n) (h : n ≤ 1000000000000) : 0 ≤ rootN n ∧ rootN n ≤ 1000000 := by
  have k := rootN_is h0
  refine ⟨k.1, ?_⟩
  rcases ilt 1000000 (rootN n) with c | c
  · have := sq_le (a := 1000001) (b := rootN n) (by omega) (by omega)
    have := k.2.1; omega
  · exact c
def rootUpN (n : Int) : Int := if rootN n * rootN n < n then rootN n + 1 else rootN n
def rootDownR (n : Int) : Int × Int := if inB n 0 1000000000000 = true then (rootN n, 0) else (0, 2)
def rootUpR (n : Int) : Int × Int := if inB n 0 1000000000000 = true then (rootUpN n, 0) else (0, 2)

set_option maxHeartbeats 1000000 in
theorem i_root (n : Int) (h1 : 0 ≤ n) (h2 : n ≤ 1000000000000) (w : World) : Calls Try.prog 89 #[.int .i64 n] w fun en w' => en = .returned (.int .i64 (rootN n)) ∧ w = w' := by
  go_enter Try.func89, Try.ntmps89
  go_wp2
  go_loop [3, 4, 5] (fun l h m => ∃ a b : Int, l = .int .i64 a ∧ h = .int .i64 b ∧ 0 ≤ a ∧ a ≤ b ∧ b ≤ 2000000 ∧ a * a ≤ n ∧ n < (b + 1) * (b + 1)) (fun l h m => (intOf h - intOf l).toNat)
  case atStart => exact ⟨0, 2000000, rfl, rfl, by omega, by omega, by omega, by omega, by omega⟩
  case round =>
    obtain ⟨a, b, rfl, rfl, ha, hab, hb, hl, hh⟩ := hrel
    by_cases hlt : a < b
    · have hm1 : a < (a + b + 1) / 2 := by omega
      have hm2 : (a + b + 1) / 2 ≤ b := by omega
      obtain ⟨hs0, hs1⟩ := sq_bd (m := (a + b + 1) / 2) (M := 2000000) (by omega) (by omega)
      have hw : wrap64 ((a + b + 1) / 2 * ((a + b + 1) / 2)) = (a + b + 1) / 2 * ((a + b + 1) / 2) := wrap64_in (by omega) (by omega)
      have HH := Lib.hid hh
      have HL := Lib.hid hl
      clear hh hl
      go_wp2
      · go_round
        case rel => exact ⟨_, _, rfl, rfl, by omega, by omega, by omega, by assumption, HH.out⟩
        case measure => simp [intOf]; omega
      · have hlt2 : n < (a + b + 1) / 2 * ((a + b + 1) / 2) := by assumption
        go_round
        case rel => exact ⟨_, _, rfl, rfl, by omega, by omega, by omega, HL.out, by rw [Int.sub_add_cancel]; exact hlt2⟩
        case measure => simp [intOf]; omega
    · obtain rfl : a = b := by omega
      have hr : a = rootN n := IsRoot.eq ⟨ha, hl, hh⟩
      have HR := Lib.hid hr
      clear hr
      go_wp2
      go_ret
      exact ⟨ret_int HR.out, rfl⟩

set_option maxHeartbeats 1000000 in
theorem s_l01Root (n : Int) (h1 : 0 ≤ n) (h2 : n ≤ 1000000000000) (w : World) : Calls Try.prog 92 #[.int .i64 n] w fun en w' => en = .returned (.int .i64 (rootN n)) ∧ w = w' := by
  go_enter Try.func92, Try.ntmps92
  go_wp2
  go_loop [3, 4, 5] (fun l h m => ∃ a b : Int, l = .int .i64 a ∧ h = .int .i64 b ∧ 0 ≤ a ∧ a < b ∧ b ≤ 1000001 ∧ a * a ≤ n ∧ n < b * b) (fun l h m => (intOf h - intOf l).toNat)
  case atStart => exact ⟨0, 1000001, rfl, rfl, by omega, by omega, by omega, by omega, by omega⟩
  case round =>
    obtain ⟨a, b, rfl, rfl, ha, hab, hb, hl, hh⟩ := hrel
    by_cases hlt : 1 < b - a
    · have hm1 : a < (a + b) / 2 := by omega
      have hm2 : (a + b) / 2 < b := by omega
      obtain ⟨hs0, hs1⟩ := sq_bd (m := (a + b) / 2) (M := 2000000) (by omega) (by omega)
      have hw : wrap64 ((a + b) / 2 * ((a + b) / 2)) = (a + b) / 2 * ((a + b) / 2) := wrap64_in (by omega) (by omega)
      have HH := Lib.hid hh
      have HL := Lib.hid hl
      clear hh hl
      go_wp2
      · go_round
        case rel => exact ⟨_, _, rfl, rfl, by omega, by omega, by omega, by assumption, HH.out⟩
        case measure => simp [intOf]; omega
      · have hlt2 : n < (a + b) / 2 * ((a + b) / 2) := by assumption
        go_round
        case rel => exact ⟨_, _, rfl, rfl, by omega, by omega, by omega, HL.out, hlt2⟩
        case measure => simp [intOf]; omega
    · obtain rfl : b = a + 1 := by omega
      have hr : a = rootN n := IsRoot.eq ⟨ha, hl, hh⟩
      have HR := Lib.hid hr
      clear hr
      go_wp2
      go_ret
      exact ⟨ret_int HR.out, rfl⟩

theorem i_rootUp (n : Int) (h1 : 0 ≤ n) (h2 : n ≤ 1000000000000) (w : World) : Calls Try.prog 90 #[.int .i64 n] w fun en w' => en = .returned (.int .i64 (rootUpN n)) ∧ w = w' := by
  obtain ⟨hb1, hb2⟩ := rootN_bd h1 h2
  obtain ⟨hs0, hs1⟩ := sq_bd (m := rootN n) (M := 1000000) (by omega) (by omega)
  have hw : wrap64 (rootN n * rootN n) = rootN n * rootN n := wrap64_in (by omega) (by omega)
  rcases ilt (rootN n * rootN n) n with c | c
  · have hr : rootUpN n = rootN n + 1 := by unfold rootUpN; rw [if_pos c]
    rw [hr]; clear hr
    go_enter Try.func90, Try.ntmps90
    go_wp2_with (go_at_call 89; refine (i_root _ h1 h2 _).mono ?_; rintro e w' ⟨rfl, rfl⟩)
    go_ret
    exact ⟨rfl, rfl⟩
  · have hr : rootUpN n = rootN n := by unfold rootUpN; rw [if_neg (by omega)]
    rw [hr]; clear hr
    go_enter Try.func90, Try.ntmps90
    go_wp2_with (go_at_call 89; refine (i_root _ h1 h2 _).mono ?_; rintro e w' ⟨rfl, rfl⟩)
    go_ret
    exact ⟨rfl, rfl⟩

theorem s_l01RootUp (n : Int) (h1 : 0 ≤ n) (h2 : n ≤ 1000000000000) (w : World) : Calls Try.prog 109 #[.int .i64 n] w fun en w' => en = .returned (.int .i64 (rootUpN n)) ∧ w = w' := by
  obtain ⟨hb1, hb2⟩ := rootN_bd h1 h2
  obtain ⟨hs0, hs1⟩ := sq_bd (m := rootN n) (M := 1000000) (by omega) (by omega)
  have hw : wrap64 (rootN n * rootN n) = rootN n * rootN n := wrap64_in (by omega) (by omega)
  rcases ilt (rootN n * rootN n) n with c | c
  · have hr : rootUpN n = rootN n + 1 := by unfold rootUpN; rw [if_pos c]
    rw [hr]; clear hr
    go_enter Try.func109, Try.ntmps109
    go_wp2_with (go_at_call 92; refine (s_l01Root _ h1 h2 _).mono ?_; rintro e w' ⟨rfl, rfl⟩)
    go_ret
    exact ⟨rfl, rfl⟩
  · have hr : rootUpN n = rootN n := by unfold rootUpN; rw [if_neg (by omega)]
    rw [hr]; clear hr
    go_enter Try.func109, Try.ntmps109
    go_wp2_with (go_at_call 92; refine (s_l01Root _ h1 h2 _).mono ?_; rintro e w' ⟨rfl, rfl⟩)
    go_ret
    exact ⟨rfl, rfl⟩

theorem i_RootDown (n : Int) (w : World) : Calls Try.prog 23 #[.int .i64 n] w fun en w' => en = .returned (p2 (rootDownR n)) ∧ w = w' := by
  rcases Bool.eq_false_or_eq_true (inB n 0 1000000000000) with h1 | h1
  · have g := inB_iff.1 h1
    have hr : rootDownR n = (rootN n, 0) := by unfold rootDownR; rw [if_pos h1]
    rw [hr]; clear hr
    go_enter Try.func23, Try.ntmps23
    go_wp2_with (first | (go_at_call 88; refine (i_within _ _ _ _).mono ?_; rintro e w' ⟨rfl, rfl⟩) | (go_at_call 89; refine (i_root _ g.1 g.2 _).mono ?_; rintro e w' ⟨rfl, rfl⟩))
    go_ret2
    exact ⟨rfl, rfl⟩
  · have hr : rootDownR n = (0, 2) := by unfold rootDownR; rw [if_neg (by simp [h1])]
    rw [hr]; clear hr
    go_enter Try.func23, Try.ntmps23
    go_wp2_with (go_at_call 88; refine (i_within _ _ _ _).mono ?_; rintro e w' ⟨rfl, rfl⟩)
    go_ret2
    exact ⟨rfl, rfl⟩

theorem s_RootDown (n : Int) (w : World) : Calls Try.prog 25 #[.int .i64 n] w fun en w' => en = .returned (p2 (rootDownR n)) ∧ w = w' := by
  rcases Bool.eq_false_or_eq_true (inB n 0 1000000000000) with h1 | h1
  · have g := inB_iff.1 h1
    have hr : rootDownR n = (rootN n, 0) := by unfold rootDownR; rw [if_pos h1]
    rw [hr]; clear hr
    go_enter Try.func25, Try.ntmps25
    go_wp2_with (first | (go_at_call 91; refine (s_l01In _ _ _ _).mono ?_; rintro e w' ⟨rfl, rfl⟩) | (go_at_call 92; refine (s_l01Root _ g.1 g.2 _).mono ?_; rintro e w' ⟨rfl, rfl⟩))
    go_ret2
    exact ⟨rfl, rfl⟩
  · have hr : rootDownR n = (0, 2) := by unfold rootDownR; rw [if_neg (by simp [h1])]
    rw [hr]; clear hr
    go_enter Try.func25, Try.ntmps25
    go_wp2_with (go_at_call 91; refine (s_l01In _ _ _ _).mono ?_; rintro e w' ⟨rfl, rfl⟩)
    go_ret2
    exact ⟨rfl, rfl⟩

theorem i_RootUp (n : Int) (w : World) : Calls Try.prog 24 #[.int .i64 n] w fun en w' => en = .returned (p2 (rootUpR n)) ∧ w = w' := by
  rcases Bool.eq_false_or_eq_true (inB n 0 1000000000000) with h1 | h1
  · have g := inB_iff.1 h1
    have hr : rootUpR n = (rootUpN n, 0) := by unfold rootUpR; rw [if_pos h1]
    rw [hr]; clear hr
    go_enter Try.func24, Try.ntmps24
    go_wp2_with (first | (go_at_call 88; refine (i_within _ _ _ _).mono ?_; rintro e w' ⟨rfl, rfl⟩) | (go_at_call 90; refine (i_rootUp _ g.1 g.2 _).mono ?_; rintro e w' ⟨rfl, rfl⟩))
    go_ret2
    exact ⟨rfl, rfl⟩
  · have hr : rootUpR n = (0, 2) := by unfold rootUpR; rw [if_neg (by simp [h1])]
    rw [hr]; clear hr
    go_enter Try.func24, Try.ntmps24
    go_wp2_with (go_at_call 88; refine (i_within _ _ _ _).mono ?_; rintro e w' ⟨rfl, rfl⟩)
    go_ret2
    exact ⟨rfl, rfl⟩

end Go.Proofs.Ytafbmhncmbcpjaa
