/- Contracts and lemmas for the proofs of this seat: Lay13. -/
import Derived.Test.YtgkfnggnhphboaaBase
import Derived.Test.YtgkfnggnhphboaaNum
import Derived.Test.YtgkfnggnhphboaaIv
import Derived.Test.YtgkfnggnhphboaaIv2
import Derived.Test.YtgkfnggnhphboaaDiv
import Derived.Test.YtgkfnggnhphboaaRoot
import Derived.Test.YtgkfnggnhphboaaEn
import Derived.Test.YtgkfnggnhphboaaSeg
import Derived.Test.YtgkfnggnhphboaaList
import Derived.Test.YtgkfnggnhphboaaLay
import Derived.Test.YtgkfnggnhphboaaLay2
import Derived.Test.YtgkfnggnhphboaaLay3
import Derived.Test.YtgkfnggnhphboaaLay4
import Derived.Test.YtgkfnggnhphboaaLay12
import Derived.Lib.Hide
import Derived.BigQuiet
import Derived.Deep.QuietTactic
import Derived.Deep.OwnRows
import Derived.Deep.LoopGhost
import Derived.Deep.RegionHeld3
import Derived.Deep.DeepCutAuto
import Derived.StillTailTactics
import Derived.Deep.AppendLies
import Derived.Deep.DrawnRows
import Derived.Outline
namespace Go.Proofs.Ytgkfnggnhphboaa
open Go.RowKit Go.Deep
set_option maxHeartbeats 2000000
set_option linter.unusedVariables false
set_option linter.unusedSimpArgs false

attribute [local go_sem] lt_2 lt_3 lt_4 lt_5 lt_6
def rowI (f : Nat → Int) (m : Nat) : List Int := (List.range m).map f
theorem rowI_len (f : Nat → Int) (m : Nat) : (rowI f m).length = m := by simp [rowI]
theorem rowI_get (f : Nat → Int) (m i : Nat) (h : i < m) : (rowI f m).getD i 0 = f i := by simp [rowI, List.getD_eq_getElem?_getD, h]
theorem ints_of_own {w : World} {base : Nat} {t : TypeId} {g c m : Nat} {f : Nat → Int} (h : w.ownsRow base t 1 (.slice (some ⟨g, 0, none⟩) m c) m (rowV f m)) (hm : m ≤ maxLen) : Ints .i64 w (some ⟨g, 0, none⟩) m (rowI f m) := by
  refine ⟨rowI_len f m, hm, fun _ => ⟨g, 0, rfl, fun i hi => ?_⟩⟩
  rw [Nat.zero_add, h.cellAt i (by omega), rowV_get f m i hi, rowI_get f m i hi]
theorem srt_preN {zs : List Seg} {n : Nat} (hA : AllOk zs n) : SrtB (rowI (preN zs) (n + 1)) (n + 1) := fun i j hij hj => by
  rw [rowI_get _ _ _ (by omega), rowI_get _ _ _ hj]
  exact preN_lt (fun i hi => hA i (by omega)) hij
set_option maxRecDepth 100000 in
theorem i_segmentAt (p : Option Addr) (n cap : Nat) (zs : List Seg) (x : Int) (k0 : Nat) (w : World) (hin : Segs w p n zs) (hL : LayOk zs) (hk0 : IsAt zs x k0) :
    Calls Try.prog 72 #[.agg #[.slice p n cap], .int .i64 x] w fun en w' => en = .returned (p2 ((k0 : Int), x - preN zs k0)) ∧ Below w.heap.size w w' := by
  have hz := hin.1
  have hn : n ≤ 24 := by have := hL.2.1; omega
  have hA : AllOk zs n := fun i hi => hL.2.2.1 i (by omega)
  have hT := (lay_bd hL).2
  have hk0n : k0 < n := by have := hk0.1; omega
  have HIN' : Hid (Segs (w.alloc (Obj.cells #[.slice p n cap] 26)) p n zs) := (hin.alloc _); have h0 := Own.start (w.alloc (Obj.cells #[.slice p n cap] 26)); clear hin
  have HZ := Lib.hid hz
  have HA := Lib.hid hA
  have HK := Lib.hid hk0
  have hp := preN_bd (zs := zs) (k := k0) (fun i hi => hA i (by omega))
  have hx0 : 0 ≤ x := by have := hk0.2.1; omega
  have hx1 : x ≤ 4800000 := by have := preN_le (zs := zs) (i := k0 + 1) (j := n) hA hk0n; have := hk0.2.2; unfold totN at hT; rw [hz] at hT; omega
  clear hz hA hT hk0 hL
  go_enter Try.func72, Try.ntmps72
  go_wp2_with fail
  refine (i_starts p n cap zs _ HIN'.out (by omega) HA.out).mono ?_
  rintro e w1 ⟨g, c, rfl, how, hb1⟩
  have hI := ints_of_own how (by unfold maxLen; omega)
  have HB1 := Lib.hid (h0.join hb1)
  have HI := Lib.hid hI
  have hck := how.cellAt k0 (by omega)
  rw [rowV_get _ _ _ (by omega)] at hck
  clear how hb1 hI
  go_wp2_with fail
  refine (lib_BinarySearch _ (n + 1) c _ x _ (by omega) HI.out (srt_preN HA.out)).mono ?_
  rintro e w2 ⟨r, ⟨hr1, hr2, hr3⟩, rfl, rfl⟩
  have hrn : r ≤ n := by
    rcases Nat.lt_or_ge n r with h | h
    · have h1 := hr2 n h
      rw [rowI_get _ _ _ (by omega)] at h1
      have h2 := HK.out.2.2
      have h3 := preN_le (zs := zs) (i := k0 + 1) (j := n) HA.out hk0n
      omega
    · exact h
  have hrv := rowI_get (preN zs) (n + 1) r (by omega)
  have hlo : ∀ i, i < r → preN zs i < x := fun i hi => by have := hr2 i hi; rwa [rowI_get _ _ _ (by omega)] at this
  have hhi : x ≤ preN zs r := by have := hr3 r (Nat.le_refl _) (by omega); rwa [hrv] at this
  have hsz : zs.length = n := HZ.out
  by_cases hf : preN zs r = x
  · have hrk : r = k0 := by
      refine IsAt.uniq (zs := zs) (x := x) (fun i hi => HA.out i (by omega)) ⟨?_, by omega, ?_⟩ HK.out
      · rcases Nat.lt_or_eq_of_le hrn with h | h
        · omega
        · have h2 := HK.out.2.2
          have h3 := preN_le (zs := zs) (i := k0 + 1) (j := n) HA.out hk0n
          rw [h] at hf
          omega
      · rcases Nat.lt_or_eq_of_le hrn with h | h
        · have := preN_lt (zs := zs) (i := r) (j := r + 1) (fun i hi => HA.out i (by omega)) (by omega); omega
        · have h2 := HK.out.2.2
          have h3 := preN_le (zs := zs) (i := k0 + 1) (j := n) HA.out hk0n
          rw [h] at hf
          omega
    subst hrk
    have hfd : fnd (rowI (preN zs) (n + 1)) x r (n + 1) = true := by unfold fnd; rw [hrv, decide_eq_true hf, decide_eq_true (by omega)]; rfl
    rw [hfd]
    have hki : (r : Int) < (n : Int) + 1 := by omega
    obtain ⟨y, hy⟩ : ∃ y, y = preN zs r := ⟨_, rfl⟩
    rw [← hy] at hck hp
    have HY := Lib.hid hy
    have hst : IntKind.i64.wrap (x - y) = x - y := IntWalk.i64_in _ (by omega)
    clear hr2 hr3 hlo hfd hrv hsz hf hy hhi
    go_wp2
    go_quiet (fail)
    go_wp2
    go_ret2
    exact ⟨ret_int2 rfl (by rw [← HY.out]), bdrewN (bto (balloc (Below.refl _ _) _) HB1.out.below) _⟩
  · have hr0 : 0 < r := by
      rcases Nat.eq_zero_or_pos r with h | h
      · subst h
        simp only [preN] at hhi hf
        omega
      · exact h
    have hrk : r - 1 = k0 := by
      refine IsAt.uniq (zs := zs) (x := x) (fun i hi => HA.out i (by omega)) ⟨by omega, ?_, ?_⟩ HK.out
      · have := hlo (r - 1) (by omega); omega
      · rw [Nat.sub_add_cancel hr0]; omega
    have hfd : fnd (rowI (preN zs) (n + 1)) x r (n + 1) = false := by unfold fnd; rw [hrv, decide_eq_false hf, Bool.and_false]
    rw [hfd]
    have hki : (r : Int) = (k0 : Int) + 1 := by omega
    obtain rfl : r = k0 + 1 := by omega
    have hk1 : (k0 : Int) < (n : Int) + 1 := by omega
    have hk2 : (0 : Int) ≤ (k0 : Int) := by omega
    obtain ⟨y, hy⟩ : ∃ y, y = preN zs k0 := ⟨_, rfl⟩
    rw [← hy] at hck hp
    have HY := Lib.hid hy
    have hst : IntKind.i64.wrap (x - y) = x - y := IntWalk.i64_in _ (by omega)
    clear hr2 hr3 hlo hfd hrv hsz hf hy hhi hki hrk
    go_wp2
    go_quiet (fail)
    go_wp2
    go_ret2
    exact ⟨ret_int2 rfl (by rw [← HY.out]), bdrewN (bto (balloc (Below.refl _ _) _) HB1.out.below) _⟩

end Go.Proofs.Ytgkfnggnhphboaa
