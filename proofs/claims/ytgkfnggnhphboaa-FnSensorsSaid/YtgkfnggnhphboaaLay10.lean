/- Contracts and lemmas for the proofs of this seat: Lay10. -/
import Derived.Test.YtgkfnggnhphboaaBase
import Derived.Test.YtgkfnggnhphboaaNum
import Derived.Test.YtgkfnggnhphboaaIv
import Derived.Test.YtgkfnggnhphboaaIv2
import Derived.Test.YtgkfnggnhphboaaDiv
import Derived.Test.YtgkfnggnhphboaaRoot
import Derived.Test.YtgkfnggnhphboaaEn
import Derived.Test.YtgkfnggnhphboaaEn2
import Derived.Test.YtgkfnggnhphboaaSeg
import Derived.Test.YtgkfnggnhphboaaList
import Derived.Test.YtgkfnggnhphboaaLay
import Derived.Test.YtgkfnggnhphboaaLay2
import Derived.Test.YtgkfnggnhphboaaLay3
import Derived.Test.YtgkfnggnhphboaaLay9
import Derived.Lib.Hide
import Derived.BigQuiet
import Derived.Deep.QuietTactic
import Derived.Deep.OwnRows
import Derived.Deep.LoopGhost
import Derived.Deep.RegionHeld3
import Derived.Deep.DeepCutAuto
import Derived.StillTailTactics
import Derived.Deep.AppendLies
import Derived.Deep.DrawnRows
import Derived.Outline
namespace Go.Proofs.Ytgkfnggnhphboaa
open Go.RowKit Go.Deep
set_option maxHeartbeats 2000000
set_option linter.unusedVariables false
set_option linter.unusedSimpArgs false

attribute [local go_sem] lt_2 lt_3 lt_4 lt_5 lt_6 fld_lo fld_hi
def seg7 (s : Seg) : List Value := [.int .i64 s.k, .int .i64 s.n, .int .i64 s.r, .int .i64 s.c, .int .i64 s.d, .int .i64 s.e, .int .i64 s.f]
def segVals (zs : List Seg) : List Value := zs.flatMap seg7
theorem segVals_len (zs : List Seg) : (segVals zs).length = zs.length * 7 := by
  induction zs with
  | nil => rfl
  | cons s zs ih => simp only [segVals, List.flatMap_cons, List.length_append] at ih ⊢; rw [ih]; simp [seg7]; omega
theorem segVals_snoc (zs : List Seg) (s : Seg) : segVals (zs ++ [s]) = segVals zs ++ seg7 s := by simp [segVals]
theorem segVals_get : ∀ (zs : List Seg) (i j : Nat), i < zs.length → j < 7 → (segVals zs)[i * 7 + j]? = some (.int .i64 (cellOf (sg zs i) j)) := by
  intro zs
  induction zs with
  | nil => intro i j h; simp at h
  | cons s zs ih =>
    intro i j hi hj
    have e : segVals (s :: zs) = seg7 s ++ segVals zs := by simp [segVals]
    rw [e]
    match i with
    | 0 =>
      rw [List.getElem?_append_left (by simp [seg7]; omega)]
      match j, hj with
      | 0, _ => rfl
      | 1, _ => rfl
      | 2, _ => rfl
      | 3, _ => rfl
      | 4, _ => rfl
      | 5, _ => rfl
      | 6, _ => rfl
    | i + 1 =>
      rw [List.getElem?_append_right (by simp [seg7]; omega)]
      have h1 : (i + 1) * 7 + j - (seg7 s).length = i * 7 + j := by simp [seg7]; omega
      rw [h1, ih i j (by simpa using hi) hj]
      rfl
theorem segs_of_own {w : World} {base : Nat} {t : TypeId} {v : Value} {m : Nat} {zs : List Seg} (h : w.ownsRow base t 7 v m (segVals zs)) (hz : zs.length = m) (hm : m ≤ maxLen) : ∃ q c, v = .slice q m c ∧ Segs w q m zs := by
  rcases h.2 with ⟨rfl, rfl⟩ | ⟨g, cap, cur, rfl, _, hg, _⟩
  · exact ⟨none, 0, rfl, hz, hm, fun h => by omega⟩
  · refine ⟨some ⟨g, 0, none⟩, cap, rfl, hz, hm, fun _ => ⟨g, 0, rfl, (Array.getElem?_eq_some_iff.1 hg).1, fun i hi => ?_⟩⟩
    have key : ∀ j, j < 7 → w.cell? ⟨g, 0 + i * 7 + j, none⟩ = some (.int .i64 (cellOf (sg zs i) j)) := fun j hj => by
      rw [Nat.zero_add, h.cellAt (i * 7 + j) (by omega), segVals_get zs i j (by omega) hj]
    exact ⟨key 0 (by omega), key 1 (by omega), key 2 (by omega), key 3 (by omega), key 4 (by omega), key 5 (by omega), key 6 (by omega)⟩
theorem runL_snoc (zs : List Seg) (f m : Nat) : runL zs f (m + 1) = runL zs f m ++ [runAt zs f m] := by simp [runL, List.range_succ]
theorem seg_news (w : World) (s : Seg) (t : TypeId) : ∀ j u, (seg7 s)[j]? = some u → (w.alloc (.cells #[.int .i64 s.k, .int .i64 s.n, .int .i64 s.r, .int .i64 s.c, .int .i64 s.d, .int .i64 s.e, .int .i64 s.f] t)).cell? ((⟨w.heap.size, 0, none⟩ : Addr).add j) = some u := by
  have h := World.news_of_block (w := w.alloc (.cells #[.int .i64 s.k, .int .i64 s.n, .int .i64 s.r, .int .i64 s.c, .int .i64 s.d, .int .i64 s.e, .int .i64 s.f] t)) (B := w.heap.size) (heap_alloc_new w _)
  exact fun j u hu => h j u hu
theorem tmod_nat2 (f j n : Nat) (h : 0 < n) : 0 ≤ ((f : Int) + (j : Int)).tmod (n : Int) ∧ ((f : Int) + (j : Int)).tmod (n : Int) < (n : Int) ∧ (((f : Int) + (j : Int)).tmod (n : Int)).toNat = (f + j) % n := by
  have e : ((f : Int) + (j : Int)).tmod (n : Int) = ((((f + j) % n : Nat)) : Int) := by
    rw [← Int.natCast_add, ← Int.ofNat_tmod]
  have := Nat.mod_lt (f + j) h
  rw [e]
  omega

set_option maxRecDepth 100000 in
theorem i_along (p : Option Addr) (n cap : Nat) (zs : List Seg) (f m : Nat) (hf : f < n) (hm : m ≤ 24) (w : World) (hin : Segs w p n zs) (hn : n ≤ 24) :
    Calls Try.prog 61 #[.agg #[.slice p n cap], .int .i64 f, .int .i64 m] w fun e w' => ∃ q c, e = .returned (.slice q m c) ∧ Segs w' q m (runL zs f m) ∧ Below w.heap.size w w' := by
  obtain ⟨i0, hi, hz0, hz1, hz2⟩ := info_parts (P := Try.prog) (e := 45) (z := segV 0 0 0 0 0 0 0) (size := 7) (bytes := 56) (by kernel_rfl)
  have hz := hin.1
  have HIN' : Hid (Segs (w.alloc (Obj.cells #[.slice p n cap] 26)) p n zs) := (hin.alloc _); have h0 := Own.start (w.alloc (Obj.cells #[.slice p n cap] 26)); clear hin
  have HZ := Lib.hid hz
  have hfi : (f : Int) ≤ 24 := by omega
  have hmi : (m : Int) ≤ 24 := by omega
  clear hz
  go_enter Try.func61, Try.ntmps61
  go_wp2
  go_loopw [7, 10] (fun v i wr => ∃ j : Nat, j ≤ m ∧ i = .int .i64 j ∧ (∃ v0 : Value, v0 = v ∧ wr.ownsRow (w.heap.size + 1) 45 7 v0 j (segVals (runL zs f j))) ∧ Own (w.alloc (Obj.cells #[.slice p n cap] 26)) wr) (fun _ i _ => (m - intOf i).toNat)
  case atStart => exact ⟨0, Nat.zero_le _, rfl, ⟨_, rfl, World.ownsRow_nil _ _ _ _⟩, h0⟩
  case round =>
    obtain ⟨j, hj, rfl, ⟨v, rfl, how⟩, hown⟩ := hrel
    have HO := Lib.hid hown
    have HOWN := Lib.hid how
    obtain ⟨hbx, hbf, hbl⟩ := below_box (k := w.heap.size) hown.below (by simp)
    have hbx := hbx 0
    simp at hbx
    by_cases hlt : j < m
    · have hlti : (j : Int) < (m : Int) := by omega
      obtain ⟨wA, rfl⟩ : ∃ wA : World, wA = wr := ⟨_, rfl⟩
      have hkm : (f + j) % n < n := Nat.mod_lt _ (by omega)
      obtain ⟨b, off, rfl, hlb0, hc0⟩ := HIN'.out.2.2 (by omega)
      have hc := fun i hi => (hc0 i hi).keep (hown.below.block b hlb0)
      rw [World.size_alloc] at hlb0
      have hlb : b < wA.heap.size := by omega
      obtain ⟨c0, c1, c2, c3, c4, c5, c6⟩ := hc _ hkm
      have hrun : runAt zs f j = sg zs ((f + j) % n) := by unfold runAt; rw [HZ.out]
      obtain ⟨s, hs⟩ : ∃ s, s = sg zs ((f + j) % n) := ⟨_, rfl⟩
      rw [← hs] at c0 c1 c2 c3 c4 c5 c6 hrun
      have HRUN := Lib.hid hrun
      have hn0 : ¬ n = 0 := by omega
      have hw1 : IntKind.i64.wrap ((f : Int) + (j : Int)) = (f : Int) + (j : Int) := IntWalk.i64_in _ (by omega)
      obtain ⟨hm0, hm1, ht⟩ := tmod_nat2 f j n (by omega)
      have hvne : ∀ g0, v.ownBlock = some g0 → w.heap.size + 1 ≤ g0 ∧ g0 < wA.heap.size := how.lt
      clear hc hc0 hown hbf hs how hrun
      go_upto_region 2 with fail
      go_region_held3 (fun w' => w'.cell? ⟨w.heap.size, 0, none⟩ = some (.slice (some ⟨b, off, none⟩) n cap) ∧ w'.cell? ⟨b, off + (f + j) % n * 7, none⟩ = some (.int .i64 s.k) ∧ w'.cell? ⟨b, off + (f + j) % n * 7 + 1, none⟩ = some (.int .i64 s.n) ∧ w'.cell? ⟨b, off + (f + j) % n * 7 + 2, none⟩ = some (.int .i64 s.r) ∧ w'.cell? ⟨b, off + (f + j) % n * 7 + 3, none⟩ = some (.int .i64 s.c) ∧ w'.cell? ⟨b, off + (f + j) % n * 7 + 4, none⟩ = some (.int .i64 s.d) ∧ w'.cell? ⟨b, off + (f + j) % n * 7 + 5, none⟩ = some (.int .i64 s.e) ∧ w'.cell? ⟨b, off + (f + j) % n * 7 + 6, none⟩ = some (.int .i64 s.f)) (go_keep) (first | (go_at_call 113; refine (i_length _ _ _ _).mono ?_; rintro e w' ⟨rfl, rfl⟩) | (refine step_append_k _ (by rfl) _ _ 24 (by rfl) (w.heap.size + 1) 45 i0 (segV 0 0 0 0 0 0 0) 7 56 Try.underlying24 hi hz0 hz1 hz2 rfl (by decide) _ _ _ (by rfl) (HOWN.out.alloc _) ⟨wA.heap.size, 0, none⟩ 1 1 (seg7 s) (by rfl) rfl (seg_news _ s _) (by simp [seg7, Value.oneCell']) (by decide) (by unfold maxLen; omega) (by omega) (by simp; omega) ?_; intro g2 c2 w1 hown1 hbel hkp hfar hsz1; have hkb : ∀ o, w1.cell? ⟨b, o, none⟩ = wA.cell? ⟨b, o, none⟩ := fun o => (hbel.cell (p := ⟨b, o, none⟩) hlb0).trans (by go_simp); have hkx : ∀ o, w1.cell? ⟨w.heap.size, o, none⟩ = wA.cell? ⟨w.heap.size, o, none⟩ := fun o => (hbel.cell (p := ⟨w.heap.size, o, none⟩) (Nat.lt_succ_self _)).trans (by go_simp)))
      have HOWN1 := Lib.hid hown1
      have HBEL := Lib.hid hbel
      clear hown1 hbel hkp hfar hkb hkx hm0 hm1 ht hw1
      go_wp2
      go_roundw
      case rel => exact ⟨j + 1, by omega, by go_num, ⟨_, rfl, by rw [runL_snoc, segVals_snoc, HRUN.out]; exact HOWN1.out⟩, Below.trans (HO.out.alloc _).drew.below (HBEL.out.mono (Nat.le_of_eq (World.size_alloc _ _)))⟩
      case measure => simp [intOf]; omega
    · obtain rfl : j = m := by omega
      obtain ⟨q, c, rfl, hsg⟩ := segs_of_own how (runL_len _ _ _) (by unfold maxLen; omega)
      have HSG := Lib.hid hsg
      clear hown hbf how hsg
      go_wp2
      go_ret
      exact ⟨q, c, rfl, HSG.out, bto (balloc (Below.refl _ _) _) HO.out.below⟩

/-- the sums and the needs of a list of segments -/
def sumLl (zs : List Seg) : Nat → Int
  | 0 => 0
  | j + 1 => sumLl zs j + cL (sg zs j)
def sumHl (zs : List Seg) : Nat → Int
  | 0 => 0
  | j + 1 => sumHl zs j + cH (sg zs j)
def needLl (zs : List Seg) : Nat → Int
  | 0 => 0
  | j + 1 => max (needLl zs j) (-(sumLl zs (j + 1)))
theorem sumLl_run (zs : List Seg) (f m : Nat) : ∀ j, j ≤ m → sumLl (runL zs f m) j = sumL zs f j := by
  intro j
  induction j with
  | zero => intro _; rfl
  | succ j ih => intro h; simp only [sumLl, sumL]; rw [ih (by omega), runL_sg zs f m j (by omega)]
theorem needLl_run (zs : List Seg) (f m : Nat) : ∀ j, j ≤ m → needLl (runL zs f m) j = needL zs f j := by
  intro j
  induction j with
  | zero => intro _; rfl
  | succ j ih => intro h; simp only [needLl, needL]; rw [ih (by omega), sumLl_run zs f m (j + 1) (by omega)]
theorem sumLl_bd {zs : List Seg} : ∀ {j : Nat}, AllOk zs j → -(10000000000 * (j : Int)) ≤ sumLl zs j ∧ sumLl zs j ≤ 10000000000 * j := by
  intro j
  induction j with
  | zero => intro _; simp [sumLl]
  | succ j ih =>
    intro h
    have h1 := ih (fun i hi => h i (by omega))
    have := cL_bd (h j (by omega))
    simp only [sumLl]; omega
theorem sumHl_bd {zs : List Seg} : ∀ {j : Nat}, AllOk zs j → -(10000000000 * (j : Int)) ≤ sumHl zs j ∧ sumHl zs j ≤ 10000000000 * j := by
  intro j
  induction j with
  | zero => intro _; simp [sumHl]
  | succ j ih =>
    intro h
    have h1 := ih (fun i hi => h i (by omega))
    have := cH_bd (h j (by omega))
    simp only [sumHl]; omega
theorem needLl_bd {zs : List Seg} : ∀ {j : Nat}, AllOk zs j → 0 ≤ needLl zs j ∧ needLl zs j ≤ 10000000000 * j := by
  intro j
  induction j with
  | zero => intro _; simp [needLl]
  | succ j ih =>
    intro h
    have h1 := ih (fun i hi => h i (by omega))
    have := sumLl_bd h
    simp only [needLl]; omega

theorem box_set2 {w : World} {B : Nat} {a b : Value} {t : TypeId} (h : w.heap[B]? = some (.cells #[a, b] t (0, 0))) (u v : Value) : ((w.setCell ⟨B, 0, none⟩ u).setCell ⟨B, 1, none⟩ v).heap[B]? = some (.cells #[u, v] t (0, 0)) := by
  have e1 := Go.Joins.block_setCell h (i := 0) u
  have e2 := Go.Joins.block_setCell e1 (i := 1) v
  simpa using e2
set_option maxRecDepth 100000 in
theorem i_needed (q : Option Addr) (m cap : Nat) (zs : List Seg) (hm : m ≤ 24) (w : World) (hin : Segs w q m zs) (hA : AllOk zs m) :
    Calls Try.prog 60 #[.slice q m cap] w fun e w' => (∃ y z : Int, e = .returned (.tuple #[.int .i64 (needLl zs m), .int .i64 y, .int .i64 z])) ∧ Below w.heap.size w w' := by
  have HIN := Lib.hid hin
  have HA := Lib.hid hA
  have hmi : (m : Int) ≤ 24 := by omega
  clear hin hA
  go_enter Try.func60, Try.ntmps60
  go_wp2
  go_loopw [6, 7, 12] (fun a b i wr => ∃ j : Nat, j ≤ m ∧ i = .int .i64 j ∧ a = .int .i64 (needLl zs j) ∧ (∃ y : Int, b = .int .i64 y) ∧ wr.heap[w.heap.size]? = some (.cells #[.int .i64 (sumLl zs j), .int .i64 (sumHl zs j)] 35 (0, 0)) ∧ Below w.heap.size w wr) (fun _ _ i _ => (m - intOf i).toNat)
  case atStart => exact ⟨0, Nat.zero_le _, rfl, rfl, ⟨_, rfl⟩, heap_alloc_new _ _, balloc (Below.refl _ _) _⟩
  case round =>
    obtain ⟨j, hj, rfl, rfl, ⟨y, rfl⟩, hblk, hown⟩ := hrel
    obtain ⟨wA, rfl⟩ : ∃ wA : World, wA = wr := ⟨_, rfl⟩
    have HO := Lib.hid hown
    have HB := Lib.hid hblk
    have a0 : wA.cell? ⟨w.heap.size, 0, none⟩ = some (.int .i64 (sumLl zs j)) := by simp [World.cell?, hblk]
    have a1 : wA.cell? ⟨w.heap.size, 1, none⟩ = some (.int .i64 (sumHl zs j)) := by simp [World.cell?, hblk]
    have af0 : wA.frozen? ⟨w.heap.size, 0, none⟩ = false := by simp [World.frozen?, hblk]
    have af1 : wA.frozen? ⟨w.heap.size, 1, none⟩ = false := by simp [World.frozen?, hblk]
    have hlw : w.heap.size < wA.heap.size := (Array.getElem?_eq_some_iff.1 hblk).1
    have hA : AllOk zs j := fun i hi => HA.out i (by omega)
    have b1 := sumLl_bd hA
    have b2 := needLl_bd hA
    have b4 := sumHl_bd hA
    by_cases hlt : j < m
    · have hlti : (j : Int) < (m : Int) := by omega
      obtain ⟨b, off, rfl, hlb, hc⟩ := HIN.out.2.2 (by omega)
      obtain ⟨c0, c1, c2, c3, c4, c5, c6⟩ := (hc j hlt).keep (hown.block b hlb)
      obtain ⟨s, hs⟩ : ∃ s, s = sg zs j := ⟨_, rfl⟩
      have hok := HA.out j hlt
      rw [← hs] at c0 c1 c2 c3 c4 c5 c6 hok
      have b3 := cL_bd hok
      have b5 := cH_bd hok
      have hS1 : sumLl zs (j + 1) = sumLl zs j + cL s := by simp only [sumLl]; rw [← hs]
      have hH1 : sumHl zs (j + 1) = sumHl zs j + cH s := by simp only [sumHl]; rw [← hs]
      have hN1 : needLl zs (j + 1) = max (needLl zs j) (-(sumLl zs j + cL s)) := by simp only [needLl]; rw [hS1]
      have cC := fun w => i_change_x s.k s.n s.r s.c s.d s.e s.f hok w
      have e1 : chLo s.n s.r s.d = cL s := rfl
      have e2 : chHi s.n s.r s.c = cH s := rfl
      rw [e1, e2] at cC
      have CC := Lib.hid cC
      have HS1 := Lib.hid hS1
      have HH1 := Lib.hid hH1
      have HN1 := Lib.hid hN1
      generalize cL s = z at *
      generalize cH s = z2 at *
      generalize sumLl zs j = x at *
      generalize sumHl zs j = x2 at *
      generalize needLl zs j = y0 at *
      have CS := Lib.hid (fun W => i_sum_x x x2 z z2 (by omega) (by omega) (by omega) (by omega) W)
      clear hc cC hS1 hH1 hN1 hs hok e1 e2 hown hblk hA
      have l1 : w.heap.size < wA.heap.size + 1 := by omega
      have l2 : w.heap.size < wA.heap.size + 1 + 1 := by omega
      have l3 : w.heap.size < wA.heap.size + 1 + 1 + 1 := by omega
      have l4 : w.heap.size < wA.heap.size + 1 + 1 + 1 + 1 := by omega
      have l5 : w.heap.size < wA.heap.size + 1 + 1 + 1 + 1 + 1 := by omega
      have l6 : w.heap.size < wA.heap.size + 1 + 1 + 1 + 1 + 1 + 1 := by omega
      go_upto_region 6 with fail
      go_region_with (first | (go_at_call 115; refine (CC.out _).mono ?_; rintro e w' ⟨rfl, rfl⟩) | (go_at_call 114; refine (CS.out _).mono ?_; rintro e w' ⟨rfl, rfl⟩))
      all_goals (rcases ilt y0 (-(x + z)) with c | c)
      all_goals (rcases ilt y (x2 + z2) with d | d)
      all_goals (go_wp2; go_roundw)
      all_goals (first | (case rel => exact ⟨j + 1, by omega, by go_num, by rw [HN1.out]; first | rw [show max y0 (-(x + z)) = -(x + z) from by omega] | rw [show max y0 (-(x + z)) = y0 from by omega], ⟨_, rfl⟩, by rw [HS1.out, HH1.out]; exact (Below.block (Below.drew (balloc (balloc (balloc (balloc (balloc (balloc (Below.refl _ _) _) _) _) _) _) _)) _ (by simpa [World.setCell] using hlw)).trans (box_set2 HB.out _ _), Below.drew (balloc (balloc (balloc (balloc (balloc (balloc (bset (bset HO.out (Nat.le_refl _) _) (Nat.le_refl _) _) _) _) _) _) _) _)⟩) | (case measure => simp [intOf]; omega))
    · obtain rfl : j = m := by omega
      clear hown hblk
      go_wp2
      go_quiet (fail)
      go_wp2
      go_ret3
      exact ⟨⟨_, _, rfl⟩, bdrewN HO.out _⟩

end Go.Proofs.Ytgkfnggnhphboaa
