/- Contracts and lemmas for the proofs of this seat: Sum. -/
import Derived.Test.YtfhliikfnhggpaaBase
import Derived.Test.YtfhliikfnhggpaaNum
import Derived.Test.YtfhliikfnhggpaaList
import Derived.Lib.Hide
import Derived.BigQuiet
import Derived.Deep.QuietTactic
import Derived.Deep.OwnRows
import Derived.Deep.LoopGhost
namespace Go.Proofs.Ytfhliikfnhggpaa
open Go.RowKit Go.Deep
set_option maxHeartbeats 2000000
set_option linter.unusedVariables false
set_option linter.unusedSimpArgs false

def sumTo (zs : List Int) : Nat → Int
  | 0 => 0
  | k + 1 => sumTo zs k + zs.getD k 0
def allVal (zs : List Int) : Bool := decide (∀ i, i < zs.length → isVal (zs.getD i 0) = true)
def ValsTo (zs : List Int) (k : Nat) : Prop := ∀ i, i < k → isVal (zs.getD i 0) = true
theorem allVal_true {zs : List Int} (h : ValsTo zs zs.length) : allVal zs = true := decide_eq_true h
theorem allVal_false {zs : List Int} {k : Nat} (hk : k < zs.length) (h : isVal (zs.getD k 0) = false) : allVal zs = false := decide_eq_false fun H => by rw [H k hk] at h; cases h
theorem ValsTo.step {zs : List Int} {k : Nat} (h : ValsTo zs k) (h2 : isVal (zs.getD k 0) = true) : ValsTo zs (k + 1) := fun i hi => by
  by_cases e : i = k
  · subst e; exact h2
  · exact h i (by omega)
theorem ValsTo.zero (zs : List Int) : ValsTo zs 0 := fun i hi => by omega
theorem sumTo_bd {zs : List Int} {n : Nat} (h : ValsTo zs n) : ∀ k : Nat, k ≤ n → -(1000000000000 * (k : Int)) ≤ sumTo zs k ∧ sumTo zs k ≤ 1000000000000 * (k : Int)
  | 0, _ => by simp [sumTo]
  | k + 1, hk => by
    have ih := sumTo_bd h k (by omega)
    have g := isVal_iff.1 (h k (by omega))
    unfold sumTo; omega
def sumR (zs : List Int) : Int × Int := if 200 < zs.length then (0, 3) else if allVal zs = true ∧ isVal (sumTo zs zs.length) = true then (sumTo zs zs.length, 0) else (0, 2)

theorem s_l01Sum (p : Option Addr) (n cap : Nat) (zs : List Int) (w : World) (hp : Ints .i64 w p n zs) (hv : ValsTo zs n) (hn : n ≤ 200) :
    Calls Try.prog 33 #[.slice p n cap] w fun en w' => en = .returned (.int .i64 (sumTo zs n)) ∧ w = w' := by
  have hb := Lib.hid (sumTo_bd hv)
  have HV := Lib.hid hv
  clear hv
  go_enter Try.func33, Try.ntmps33
  go_wp2
  go_loop [3, 4] (fun s i => ∃ k : Nat, k ≤ n ∧ i = .int .i64 k ∧ s = .int .i64 (sumTo zs k)) (fun s i => n - (intOf i).toNat)
  case atStart => exact ⟨0, Nat.zero_le _, rfl, rfl⟩
  case round =>
    obtain ⟨k, hk, rfl, rfl⟩ := hrel
    by_cases hlt : k < n
    · obtain ⟨b, off, rfl, hc⟩ := hp.2.2 (by omega)
      have hck := hc k hlt
      have hlen : (k : Int) < n := by omega
      have b1 := hb.out k hk
      have b2 := isVal_iff.1 (HV.out k hlt)
      have hs : sumTo zs (k + 1) = sumTo zs k + zs.getD k 0 := rfl
      obtain ⟨x, hx⟩ : ∃ x, x = zs.getD k 0 := ⟨_, rfl⟩
      rw [← hx] at hck b2 hs
      have HP := Lib.hid hp
      have HS := Lib.hid hs
      clear hc hp hs hx
      go_wp2
      go_round
      case rel => exact ⟨k + 1, by omega, by go_num, by rw [HS.out]⟩
      case measure => simp [intOf]; omega
    · obtain rfl : k = n := by omega
      clear hp
      go_wp2
      go_ret
      exact ⟨rfl, rfl⟩

theorem i_sumOf (p : Option Addr) (n cap : Nat) (zs : List Int) (w : World) (hp : Ints .i64 w p n zs) (hv : ValsTo zs n) (hn : n ≤ 200) :
    Calls Try.prog 31 #[.slice p n cap] w fun en w' => en = .returned (.int .i64 (sumTo zs n)) ∧ w = w' := by
  have hb := Lib.hid (sumTo_bd hv)
  have HV := Lib.hid hv
  clear hv
  go_enter Try.func31, Try.ntmps31
  go_wp2
  go_loop [3, 5, 8] (fun s _ i => ∃ k : Nat, k ≤ n ∧ i = .int .i64 k ∧ s = .int .i64 (sumTo zs k)) (fun s _ i => n - (intOf i).toNat)
  case atStart => exact ⟨0, Nat.zero_le _, rfl, rfl⟩
  case round =>
    obtain ⟨k, hk, rfl, rfl⟩ := hrel
    by_cases hlt : k < n
    · obtain ⟨b, off, rfl, hc⟩ := hp.2.2 (by omega)
      have hck := hc k hlt
      have hlen : (k : Int) < n := by omega
      have b1 := hb.out k hk
      have b2 := isVal_iff.1 (HV.out k hlt)
      have hs : sumTo zs (k + 1) = sumTo zs k + zs.getD k 0 := rfl
      obtain ⟨x, hx⟩ : ∃ x, x = zs.getD k 0 := ⟨_, rfl⟩
      rw [← hx] at hck b2 hs
      have HP := Lib.hid hp
      have HS := Lib.hid hs
      clear hc hp hs hx
      go_wp2
      go_round
      case rel => exact ⟨k + 1, by omega, by go_num, by rw [HS.out]⟩
      case measure => simp [intOf]; omega
    · obtain rfl : k = n := by omega
      clear hp
      go_wp2
      go_ret
      exact ⟨rfl, rfl⟩

theorem s_SumOf (p : Option Addr) (n cap : Nat) (zs : List Int) (w : World) (hp : Ints .i64 w p n zs) :
    Calls Try.prog 17 #[.slice p n cap] w fun en w' => en = .returned (p2 (sumR zs)) ∧ w = w' := by
  have hm := hp.2.1
  unfold maxLen at hm
  have hz := hp.1
  rcases Nat.lt_or_ge 200 n with hn | hn
  · have hr : sumR zs = (0, 3) := by unfold sumR; rw [if_pos (by omega)]
    rw [hr]; clear hr hp hz
    have hn' : (200 : Int) < n := by omega
    go_enter Try.func17, Try.ntmps17
    go_wp2
    go_ret2
    exact ⟨rfl, rfl⟩
  · have hn' : (n : Int) ≤ 200 := by omega
    have HZ := Lib.hid hz
    clear hz
    go_enter Try.func17, Try.ntmps17
    go_wp2
    go_loop [4] (fun i => ∃ k : Nat, k ≤ n ∧ i = .int .i64 k ∧ ValsTo zs k) (fun i => n - (intOf i).toNat)
    case atStart => exact ⟨0, Nat.zero_le _, rfl, ValsTo.zero _⟩
    case round =>
      obtain ⟨k, hk, rfl, hR⟩ := hrel
      by_cases hlt : k < n
      · obtain ⟨b, off, rfl, hc⟩ := hp.2.2 (by omega)
        have hck := hc k hlt
        have hlen : (k : Int) < n := by omega
        obtain ⟨x, hx⟩ : ∃ x, x = zs.getD k 0 := ⟨_, rfl⟩
        rw [← hx] at hck
        have HX := Lib.hid hx
        have HP := Lib.hid hp
        have HR := Lib.hid hR
        clear hc hp hx hR
        rcases Bool.eq_false_or_eq_true (isVal x) with c1 | c1
        · go_wp2_with (go_at_call 32; refine (s_l01Is _ _).mono ?_; rintro e w' ⟨rfl, rfl⟩)
          go_round
          case rel => exact ⟨k + 1, by omega, by go_num, HR.out.step (by rw [← HX.out]; exact c1)⟩
          case measure => simp [intOf]; omega
        · have hr : sumR zs = (0, 2) := by
            unfold sumR; rw [if_neg (by rw [HZ.out]; omega), if_neg (by rintro ⟨h, _⟩; rw [allVal_false (k := k) (by rw [HZ.out]; exact hlt) (by rw [← HX.out]; exact c1)] at h; cases h)]
          have HRR := Lib.hid hr
          clear hr
          go_wp2_with (go_at_call 32; refine (s_l01Is _ _).mono ?_; rintro e w' ⟨rfl, rfl⟩)
          go_ret2
          rw [HRR.out]; exact ⟨rfl, rfl⟩
      · obtain rfl : k = n := by omega
        have hav := allVal_true (zs := zs) (by rw [HZ.out]; exact hR)
        have HP := Lib.hid hp
        have HV := Lib.hid hR
        clear hp hR
        rcases Bool.eq_false_or_eq_true (isVal (sumTo zs k)) with c1 | c1
        · have hr : sumR zs = (sumTo zs k, 0) := by
            unfold sumR; rw [if_neg (by rw [HZ.out]; omega), if_pos ⟨hav, by rw [HZ.out]; exact c1⟩, HZ.out]
          have HRR := Lib.hid hr
          clear hr hav
          go_wp2_with (first | (go_at_call 32; refine (s_l01Is _ _).mono ?_; rintro e w' ⟨rfl, rfl⟩) | (go_at_call 33; refine (s_l01Sum _ _ _ _ _ HP.out HV.out hn).mono ?_; rintro e w' ⟨rfl, rfl⟩))
          go_ret2
          rw [HRR.out]; exact ⟨rfl, rfl⟩
        · have hr : sumR zs = (0, 2) := by
            unfold sumR; rw [if_neg (by rw [HZ.out]; omega), if_neg (by rintro ⟨_, h⟩; rw [HZ.out, c1] at h; cases h)]
          have HRR := Lib.hid hr
          clear hr hav
          go_wp2_with (first | (go_at_call 32; refine (s_l01Is _ _).mono ?_; rintro e w' ⟨rfl, rfl⟩) | (go_at_call 33; refine (s_l01Sum _ _ _ _ _ HP.out HV.out hn).mono ?_; rintro e w' ⟨rfl, rfl⟩))
          go_ret2
          rw [HRR.out]; exact ⟨rfl, rfl⟩

theorem i_SumOf (p : Option Addr) (n cap : Nat) (zs : List Int) (w : World) (hp : Ints .i64 w p n zs) :
    Calls Try.prog 16 #[.slice p n cap] w fun en w' => en = .returned (p2 (sumR zs)) ∧ w = w' := by
  have hm := hp.2.1
  unfold maxLen at hm
  have hz := hp.1
  rcases Nat.lt_or_ge 200 n with hn | hn
  · have hr : sumR zs = (0, 3) := by unfold sumR; rw [if_pos (by omega)]
    rw [hr]; clear hr hp hz
    have hn' : (200 : Int) < n := by omega
    go_enter Try.func16, Try.ntmps16
    go_wp2
    go_ret2
    exact ⟨rfl, rfl⟩
  · have hn' : (n : Int) ≤ 200 := by omega
    have HZ := Lib.hid hz
    clear hz
    go_enter Try.func16, Try.ntmps16
    go_wp2
    go_loop [5, 12] (fun _ i => ∃ k : Nat, k ≤ n ∧ i = .int .i64 k ∧ ValsTo zs k) (fun _ i => n - (intOf i).toNat)
    case atStart => exact ⟨0, Nat.zero_le _, rfl, ValsTo.zero _⟩
    case round =>
      obtain ⟨k, hk, rfl, hR⟩ := hrel
      by_cases hlt : k < n
      · obtain ⟨b, off, rfl, hc⟩ := hp.2.2 (by omega)
        have hck := hc k hlt
        have hlen : (k : Int) < n := by omega
        obtain ⟨x, hx⟩ : ∃ x, x = zs.getD k 0 := ⟨_, rfl⟩
        rw [← hx] at hck
        have HX := Lib.hid hx
        have HP := Lib.hid hp
        have HR := Lib.hid hR
        clear hc hp hx hR
        rcases Bool.eq_false_or_eq_true (isVal x) with c1 | c1
        · go_wp2_with (go_at_call 27; refine (i_isValue _ _).mono ?_; rintro e w' ⟨rfl, rfl⟩)
          go_round
          case rel => exact ⟨k + 1, by omega, by go_num, HR.out.step (by rw [← HX.out]; exact c1)⟩
          case measure => simp [intOf]; omega
        · have hr : sumR zs = (0, 2) := by
            unfold sumR; rw [if_neg (by rw [HZ.out]; omega), if_neg (by rintro ⟨h, _⟩; rw [allVal_false (k := k) (by rw [HZ.out]; exact hlt) (by rw [← HX.out]; exact c1)] at h; cases h)]
          have HRR := Lib.hid hr
          clear hr
          go_wp2_with (go_at_call 27; refine (i_isValue _ _).mono ?_; rintro e w' ⟨rfl, rfl⟩)
          go_ret2
          rw [HRR.out]; exact ⟨rfl, rfl⟩
      · obtain rfl : k = n := by omega
        have hav := allVal_true (zs := zs) (by rw [HZ.out]; exact hR)
        have HP := Lib.hid hp
        have HV := Lib.hid hR
        clear hp hR
        rcases Bool.eq_false_or_eq_true (isVal (sumTo zs k)) with c1 | c1
        · have hr : sumR zs = (sumTo zs k, 0) := by
            unfold sumR; rw [if_neg (by rw [HZ.out]; omega), if_pos ⟨hav, by rw [HZ.out]; exact c1⟩, HZ.out]
          have HRR := Lib.hid hr
          clear hr hav
          go_wp2_with (first | (go_at_call 27; refine (i_isValue _ _).mono ?_; rintro e w' ⟨rfl, rfl⟩) | (go_at_call 31; refine (i_sumOf _ _ _ _ _ HP.out HV.out hn).mono ?_; rintro e w' ⟨rfl, rfl⟩))
          go_ret2
          rw [HRR.out]; exact ⟨rfl, rfl⟩
        · have hr : sumR zs = (0, 2) := by
            unfold sumR; rw [if_neg (by rw [HZ.out]; omega), if_neg (by rintro ⟨_, h⟩; rw [HZ.out, c1] at h; cases h)]
          have HRR := Lib.hid hr
          clear hr hav
          go_wp2_with (first | (go_at_call 27; refine (i_isValue _ _).mono ?_; rintro e w' ⟨rfl, rfl⟩) | (go_at_call 31; refine (i_sumOf _ _ _ _ _ HP.out HV.out hn).mono ?_; rintro e w' ⟨rfl, rfl⟩))
          go_ret2
          rw [HRR.out]; exact ⟨rfl, rfl⟩

end Go.Proofs.Ytfhliikfnhggpaa
