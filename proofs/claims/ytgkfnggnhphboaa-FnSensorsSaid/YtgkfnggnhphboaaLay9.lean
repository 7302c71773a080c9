/- Contracts and lemmas for the proofs of this seat: Lay9. -/
import Derived.Test.YtgkfnggnhphboaaBase
import Derived.Test.YtgkfnggnhphboaaNum
import Derived.Test.YtgkfnggnhphboaaIv
import Derived.Test.YtgkfnggnhphboaaIv2
import Derived.Test.YtgkfnggnhphboaaDiv
import Derived.Test.YtgkfnggnhphboaaRoot
import Derived.Test.YtgkfnggnhphboaaEn
import Derived.Test.YtgkfnggnhphboaaEn2
import Derived.Test.YtgkfnggnhphboaaSeg
import Derived.Test.YtgkfnggnhphboaaList
import Derived.Test.YtgkfnggnhphboaaLay
import Derived.Test.YtgkfnggnhphboaaLay2
import Derived.Test.YtgkfnggnhphboaaLay3
import Derived.Lib.Hide
import Derived.BigQuiet
import Derived.Deep.QuietTactic
import Derived.Deep.OwnRows
import Derived.Deep.LoopGhost
import Derived.Deep.RegionHeld3
import Derived.Deep.DeepCutAuto
import Derived.StillTailTactics
import Derived.Deep.AppendLies
import Derived.Deep.DrawnRows
import Derived.Outline
namespace Go.Proofs.Ytgkfnggnhphboaa
open Go.RowKit Go.Deep
set_option maxHeartbeats 2000000
set_option linter.unusedVariables false
set_option linter.unusedSimpArgs false

attribute [local go_sem] lt_2 lt_3 lt_4 lt_5 lt_6 fld_lo fld_hi
def cL (s : Seg) : Int := chLo s.n s.r s.d
def cH (s : Seg) : Int := chHi s.n s.r s.c
theorem cL_bd {s : Seg} (h : s.ok = true) : -10000000000 ≤ cL s ∧ cL s ≤ 10000000000 := by
  have hb := ok_bd h
  have := ch_bd (n := s.n) (r := s.r) (d := s.d) (by omega) (by omega) (by omega)
  unfold cL; omega
theorem cH_bd {s : Seg} (h : s.ok = true) : -10000000000 ≤ cH s ∧ cH s ≤ 10000000000 := by
  have hb := ok_bd h
  have := ch_bd (n := s.n) (r := s.r) (d := s.c) (by omega) (by omega) (by omega)
  unfold cH chHi; unfold chLo at this; omega
/-- the segment that is passed at place i, counted around the circuit from place f on -/
def runAt (zs : List Seg) (f i : Nat) : Seg := sg zs ((f + i) % zs.length)
def runL (zs : List Seg) (f m : Nat) : List Seg := (List.range m).map (runAt zs f)
theorem runL_len (zs : List Seg) (f m : Nat) : (runL zs f m).length = m := by simp [runL]
theorem runL_sg (zs : List Seg) (f m i : Nat) (h : i < m) : sg (runL zs f m) i = runAt zs f i := by simp [runL, sg, List.getD_eq_getElem?_getD, h]
theorem runAt_ok {zs : List Seg} (hL : LayOk zs) (f i : Nat) : (runAt zs f i).ok = true := hL.2.2.1 _ (Nat.mod_lt _ (by have := hL.1; omega))
def sumL (zs : List Seg) (f : Nat) : Nat → Int
  | 0 => 0
  | j + 1 => sumL zs f j + cL (runAt zs f j)
def sumH (zs : List Seg) (f : Nat) : Nat → Int
  | 0 => 0
  | j + 1 => sumH zs f j + cH (runAt zs f j)
def needL (zs : List Seg) (f : Nat) : Nat → Int
  | 0 => 0
  | j + 1 => max (needL zs f j) (-(sumL zs f (j + 1)))
theorem sumL_bd {zs : List Seg} (hL : LayOk zs) (f : Nat) : ∀ j : Nat, -(10000000000 * (j : Int)) ≤ sumL zs f j ∧ sumL zs f j ≤ 10000000000 * j := by
  intro j
  induction j with
  | zero => simp [sumL]
  | succ j ih =>
    have := cL_bd (runAt_ok hL f j)
    simp only [sumL]; omega
theorem sumH_bd {zs : List Seg} (hL : LayOk zs) (f : Nat) : ∀ j : Nat, -(10000000000 * (j : Int)) ≤ sumH zs f j ∧ sumH zs f j ≤ 10000000000 * j := by
  intro j
  induction j with
  | zero => simp [sumH]
  | succ j ih =>
    have := cH_bd (runAt_ok hL f j)
    simp only [sumH]; omega
theorem needL_bd {zs : List Seg} (hL : LayOk zs) (f : Nat) : ∀ j : Nat, 0 ≤ needL zs f j ∧ needL zs f j ≤ 10000000000 * j := by
  intro j
  induction j with
  | zero => simp [needL]
  | succ j ih =>
    have := sumL_bd hL f (j + 1)
    simp only [needL]; omega
def rangeB (zs : List Seg) (x y : Int) : Bool := inB x 0 ((zs.length : Int) - 1) && inB y 0 24

set_option maxRecDepth 100000 in
theorem s_l06Range (p : Option Addr) (n cap : Nat) (zs : List Seg) (x y : Int) (w : World) (hz : zs.length = n) (hn : n ≤ 1048576) :
    Calls Try.prog 63 #[.agg #[.slice p n cap], .int .i64 x, .int .i64 y] w fun en w' => en = .returned (.bool (rangeB zs x y)) ∧ Below w.heap.size w w' := by
  unfold rangeB
  rw [hz]
  rcases Bool.eq_false_or_eq_true (inB x 0 ((n : Int) - 1)) with h1 | h1
  · rw [h1, Bool.true_and]
    go_enter Try.func63, Try.ntmps63
    go_wp2_with (go_at_call 117; refine (s_l01In _ _ _ _).mono ?_; rintro e w' ⟨rfl, rfl⟩)
    go_ret
    exact ⟨rfl, by repeat (first | exact Below.refl _ _ | refine balloc ?_ _ | refine Below.drew ?_ | refine bdrewN ?_ _ | refine bto ?_ (Own.below (by assumption)) | refine bset ?_ (by first | (simp; done) | (simp; omega) | exact Own.le_w (by assumption) (by first | (simp; done) | (simp; omega))) _)⟩
  · rw [h1, Bool.false_and]
    go_enter Try.func63, Try.ntmps63
    go_wp2_with (go_at_call 117; refine (s_l01In _ _ _ _).mono ?_; rintro e w' ⟨rfl, rfl⟩)
    go_ret
    exact ⟨rfl, by repeat (first | exact Below.refl _ _ | refine balloc ?_ _ | refine Below.drew ?_ | refine bdrewN ?_ _ | refine bto ?_ (Own.below (by assumption)) | refine bset ?_ (by first | (simp; done) | (simp; omega) | exact Own.le_w (by assumption) (by first | (simp; done) | (simp; omega))) _)⟩

theorem i_length (p : Option Addr) (n cap : Nat) (w : World) : Calls Try.prog 113 #[.slice p n cap] w fun en w' => en = .returned (.int .i64 n) ∧ w = w' := by
  go_enter Try.func113, Try.ntmps113
  go_wp2
  go_ret
  exact ⟨rfl, rfl⟩
set_option maxRecDepth 100000 in
theorem i_isRun (p : Option Addr) (n cap : Nat) (zs : List Seg) (x y : Int) (w : World) (hz : zs.length = n) (hn : n ≤ 1048576) :
    Calls Try.prog 59 #[.agg #[.slice p n cap], .int .i64 x, .int .i64 y] w fun en w' => en = .returned (.bool (rangeB zs x y)) ∧ Below w.heap.size w w' := by
  unfold rangeB
  rw [hz]
  rcases Bool.eq_false_or_eq_true (inB x 0 ((n : Int) - 1)) with h1 | h1
  · rw [h1, Bool.true_and]
    go_enter Try.func59, Try.ntmps59
    go_wp2_with first | (go_at_call 78; refine (i_within _ _ _ _).mono ?_; rintro e w' ⟨rfl, rfl⟩) | (go_at_call 113; refine (i_length _ _ _ _).mono ?_; rintro e w' ⟨rfl, rfl⟩)
    go_ret
    exact ⟨rfl, by repeat (first | exact Below.refl _ _ | refine balloc ?_ _ | refine Below.drew ?_ | refine bdrewN ?_ _ | refine bto ?_ (Own.below (by assumption)) | refine bset ?_ (by first | (simp; done) | (simp; omega) | exact Own.le_w (by assumption) (by first | (simp; done) | (simp; omega))) _)⟩
  · rw [h1, Bool.false_and]
    go_enter Try.func59, Try.ntmps59
    go_wp2_with first | (go_at_call 78; refine (i_within _ _ _ _).mono ?_; rintro e w' ⟨rfl, rfl⟩) | (go_at_call 113; refine (i_length _ _ _ _).mono ?_; rintro e w' ⟨rfl, rfl⟩)
    go_ret
    exact ⟨rfl, by repeat (first | exact Below.refl _ _ | refine balloc ?_ _ | refine Below.drew ?_ | refine bdrewN ?_ _ | refine bto ?_ (Own.below (by assumption)) | refine bset ?_ (by first | (simp; done) | (simp; omega) | exact Own.le_w (by assumption) (by first | (simp; done) | (simp; omega))) _)⟩

set_option maxRecDepth 100000 in
theorem s_l06Segment (p : Option Addr) (n cap : Nat) (zs : List Seg) (k : Nat) (hk : k ≤ 1048576) (w : World) (hin : Segs w p n zs) (hn : n ≤ 1048576) (h0 : 0 < n) :
    Calls Try.prog 92 #[.agg #[.slice p n cap], .int .i64 k] w fun en w' => en = .returned ((sg zs (k % n)).val) ∧ Below w.heap.size w w' := by
  have hkm : k % n < n := Nat.mod_lt _ h0
  obtain ⟨W, hW⟩ : ∃ W, W = (w.alloc (Obj.cells #[.slice p n cap] 26)).alloc (Obj.cells #[.int .i64 0, .int .i64 0, .int .i64 0, .int .i64 0, .int .i64 0, .int .i64 0, .int .i64 0] 45) := ⟨_, rfl⟩
  have hWs : Segs W p n zs := by rw [hW]; exact (hin.alloc _).alloc _
  obtain ⟨b, off, rfl, hlb, hc⟩ := hWs.2.2 h0
  obtain ⟨c0, c1, c2, c3, c4, c5, c6⟩ := hc _ hkm
  have hbx : W.cell? ⟨w.heap.size, 0, none⟩ = some (.slice (some ⟨b, off, none⟩) n cap) := by rw [hW]; go_simp
  have d0 : W.cell? ⟨w.heap.size + 1, 0, none⟩ = some (.int .i64 0) := by rw [hW]; go_simp
  have d1 : W.cell? ⟨w.heap.size + 1, 1, none⟩ = some (.int .i64 0) := by rw [hW]; go_simp
  have d2 : W.cell? ⟨w.heap.size + 1, 2, none⟩ = some (.int .i64 0) := by rw [hW]; go_simp
  have d3 : W.cell? ⟨w.heap.size + 1, 3, none⟩ = some (.int .i64 0) := by rw [hW]; go_simp
  have d4 : W.cell? ⟨w.heap.size + 1, 4, none⟩ = some (.int .i64 0) := by rw [hW]; go_simp
  have d5 : W.cell? ⟨w.heap.size + 1, 5, none⟩ = some (.int .i64 0) := by rw [hW]; go_simp
  have d6 : W.cell? ⟨w.heap.size + 1, 6, none⟩ = some (.int .i64 0) := by rw [hW]; go_simp
  have df : ∀ j, W.frozen? ⟨w.heap.size + 1, j, none⟩ = false := fun j => by rw [hW]; go_simp
  have hBW : Below w.heap.size w W := by rw [hW]; exact balloc (balloc (Below.refl _ _) _) _
  have hB := Lib.hid hBW
  generalize sg zs (k % n) = s at *
  have hz : ((n : Int) == 0) = false := by simp; omega
  have hi1 : (1 : Int) ≤ n := by omega
  have hk0 : (0 : Int) ≤ (k : Int) := by omega
  have hki : (k : Int) ≤ 1048576 := by omega
  have hin1 : (n : Int) ≤ 1048576 := by omega
  have hn0 : ¬ n = 0 := by omega
  have he : (k : Int).tmod (n : Int) = (k : Int) % (n : Int) := Int.tmod_eq_emod_of_nonneg (by omega)
  have hm0 : 0 ≤ (k : Int).tmod (n : Int) := by rw [he]; omega
  have hm1 : (k : Int).tmod (n : Int) < (n : Int) := by rw [he]; omega
  have ht : ((k : Int).tmod (n : Int)).toNat = k % n := by rw [he]; omega
  clear he
  clear hc hin hWs hBW
  go_enter Try.func92, Try.ntmps92
  go_upto_region 1 with fail
  rw [← hW]
  have HW := Lib.hid hW
  clear hW
  go_still_tail 9, (by kernel_rfl)
  change wpList _ _ _ _ _ W.drew
  go_wp2
  refine bodyPost_ret (v := segV s.k s.n s.r s.c s.d s.e s.f) (by simp [results, Try.results92, go_sem, *]) rfl ⟨rfl, ?_⟩
  exact Below.drew (bset (bset (bset (bset (bset (bset (bset hB.out (Nat.le_succ _) _) (Nat.le_succ _) _) (Nat.le_succ _) _) (Nat.le_succ _) _) (Nat.le_succ _) _) (Nat.le_succ _) _) (Nat.le_succ _) _)
theorem s_l06Segment' (p : Option Addr) (n cap : Nat) (zs : List Seg) (x : Int) (k : Nat) (hx : x = k) (hk : k ≤ 1048576) (w : World) (hin : Segs w p n zs) (hn : n ≤ 1048576) (h0 : 0 < n) :
    Calls Try.prog 92 #[.agg #[.slice p n cap], .int .i64 x] w fun en w' => en = .returned ((sg zs (k % n)).val) ∧ Below w.heap.size w w' := by
  subst hx
  exact s_l06Segment p n cap zs k hk w hin hn h0

set_option maxRecDepth 100000 in
theorem s_l06Needed (p : Option Addr) (n cap : Nat) (zs : List Seg) (f m : Nat) (hf : f < n) (hm : m ≤ 24) (w : World) (hin : Segs w p n zs) (hL : LayOk zs) :
    Calls Try.prog 64 #[.agg #[.slice p n cap], .int .i64 f, .int .i64 m] w fun en w' => en = .returned (.int .i64 (needL zs f m)) ∧ Below w.heap.size w w' := by
  have hz := hin.1
  have hn : n ≤ 24 := by have := hL.2.1; omega
  have HIN' : Hid (Segs (w.alloc (Obj.cells #[.slice p n cap] 26)) p n zs) := (hin.alloc _); have h0 := Own.start (w.alloc (Obj.cells #[.slice p n cap] 26)); clear hin
  have HZ := Lib.hid hz
  have HL := Lib.hid hL
  have hfi : (f : Int) ≤ 24 := by omega
  have hmi : (m : Int) ≤ 24 := by omega
  clear hz hL
  go_enter Try.func64, Try.ntmps64
  go_wp2
  go_loopw [7, 8, 9] (fun a b i wr => ∃ j : Nat, j ≤ m ∧ i = .int .i64 ((f : Int) + j) ∧ a = .int .i64 (needL zs f j) ∧ b = .int .i64 (sumL zs f j) ∧ Own (w.alloc (Obj.cells #[.slice p n cap] 26)) wr) (fun _ _ i _ => ((f : Int) + m - intOf i).toNat)
  case atStart => exact ⟨0, Nat.zero_le _, by simp, rfl, rfl, h0⟩
  case round =>
    obtain ⟨j, hj, rfl, rfl, rfl, hown⟩ := hrel
    have HO := Lib.hid hown
    obtain ⟨hbx, hbf, hbl⟩ := below_box (k := w.heap.size) hown.below (by simp)
    have hbx := hbx 0
    simp at hbx
    have b1 := sumL_bd HL.out f j
    have b2 := needL_bd HL.out f j
    by_cases hlt : j < m
    · have hlti : (f : Int) + j < (f : Int) + m := by omega
      obtain ⟨wA, rfl⟩ : ∃ wA : World, wA = wr := ⟨_, rfl⟩
      have hok := runAt_ok HL.out f j
      have b3 := cL_bd hok
      have hrun : runAt zs f j = sg zs ((f + j) % n) := by unfold runAt; rw [HZ.out]
      obtain ⟨s, hs⟩ : ∃ s, s = sg zs ((f + j) % n) := ⟨_, rfl⟩
      obtain ⟨x, hx⟩ : ∃ x, x = sumL zs f j := ⟨_, rfl⟩
      obtain ⟨y, hy⟩ : ∃ y, y = needL zs f j := ⟨_, rfl⟩
      rw [hrun, ← hs] at hok b3
      rw [← hx] at b1 ⊢
      rw [← hy] at b2 ⊢
      have hS1 : sumL zs f (j + 1) = x + cL s := by simp only [sumL]; rw [hrun, ← hs, ← hx]
      have hN1 : needL zs f (j + 1) = max y (-(x + cL s)) := by simp only [needL]; rw [hS1, ← hy]
      have cS := s_l06Segment' p n cap zs ((f : Int) + j) (f + j) (by simp) (by omega) wA (HIN'.out.own hown) (by omega) (by omega)
      rw [← hs] at cS
      have CS := Lib.hid cS
      have cC := fun w => s_l06Change s.k s.n s.r s.c s.d s.e s.f hok w
      have e1 : chLo s.n s.r s.d = cL s := rfl
      rw [e1] at cC
      have CC := Lib.hid cC
      have HS1 := Lib.hid hS1
      have HN1 := Lib.hid hN1
      generalize cL s = z at *
      clear hbf cS cC hS1 hN1 hs hx hy hrun hok e1 hown
      rcases ilt y (-(x + z)) with c | c
      · have hmx : max y (-(x + z)) = -(x + z) := by omega
        have HMX := Lib.hid hmx
        clear hmx
        go_wp2_with fail
        refine CS.out.mono ?_
        rintro e w1 ⟨rfl, hb1⟩
        obtain ⟨hc1, -, hl1⟩ := below_box (k := w.heap.size) hb1 hbl
        have O1 := HO.out.join hb1
        clear hb1
        go_wp2_with fail
        refine (CC.out _).mono ?_
        rintro e w2 ⟨rfl, hb2⟩
        obtain ⟨hc2, -, hl2⟩ := below_box (k := w.heap.size) hb2 hl1
        have O2 := Lib.hid (O1.join hb2)
        clear hb2 O1
        go_wp2
        go_roundw
        case rel => exact ⟨j + 1, by omega, by go_num, by rw [HN1.out, HMX.out], by rw [HS1.out], O2.out⟩
        case measure => simp [intOf]; omega
      · have hmx : max y (-(x + z)) = y := by omega
        have HMX := Lib.hid hmx
        clear hmx
        go_wp2_with fail
        refine CS.out.mono ?_
        rintro e w1 ⟨rfl, hb1⟩
        obtain ⟨hc1, -, hl1⟩ := below_box (k := w.heap.size) hb1 hbl
        have O1 := HO.out.join hb1
        clear hb1
        go_wp2_with fail
        refine (CC.out _).mono ?_
        rintro e w2 ⟨rfl, hb2⟩
        obtain ⟨hc2, -, hl2⟩ := below_box (k := w.heap.size) hb2 hl1
        have O2 := Lib.hid (O1.join hb2)
        clear hb2 O1
        go_wp2
        go_roundw
        case rel => exact ⟨j + 1, by omega, by go_num, by rw [HN1.out, HMX.out], by rw [HS1.out], O2.out⟩
        case measure => simp [intOf]; omega
    · obtain rfl : j = m := by omega
      clear hown hbf
      go_wp2
      go_ret
      exact ⟨rfl, bto (balloc (Below.refl _ _) _) HO.out.below⟩

end Go.Proofs.Ytgkfnggnhphboaa
