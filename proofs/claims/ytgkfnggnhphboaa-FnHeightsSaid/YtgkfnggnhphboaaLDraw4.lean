/- Contracts and lemmas for the proofs of this seat: LDraw4. -/
import Derived.Test.YtgkfnggnhphboaaLDraw3
import Derived.Test.YtgkfnggnhphboaaLDraw2
import Derived.Test.YtgkfnggnhphboaaLDraw
import Derived.Test.YtgkfnggnhphboaaDRow
import Derived.Test.YtgkfnggnhphboaaDraw3
import Derived.Test.YtgkfnggnhphboaaDraw2
import Derived.Test.YtgkfnggnhphboaaDraw
import Derived.Test.YtgkfnggnhphboaaBase
import Derived.Test.YtgkfnggnhphboaaNum
import Derived.Test.YtgkfnggnhphboaaIv
import Derived.Test.YtgkfnggnhphboaaIv2
import Derived.Test.YtgkfnggnhphboaaRoot
import Derived.Test.YtgkfnggnhphboaaEn
import Derived.Test.YtgkfnggnhphboaaSeg
import Derived.Test.YtgkfnggnhphboaaList
import Derived.Test.YtgkfnggnhphboaaLay
import Derived.Test.YtgkfnggnhphboaaLay2
import Derived.Test.YtgkfnggnhphboaaLay3
import Derived.Test.YtgkfnggnhphboaaLay12
import Derived.Test.YtgkfnggnhphboaaLay13
import Derived.Test.YtgkfnggnhphboaaLay15
import Derived.Test.YtgkfnggnhphboaaLay16
import Derived.Test.YtgkfnggnhphboaaLay17
import Derived.Lib.Hide
import Derived.BigQuiet
import Derived.Deep.QuietTactic
import Derived.Deep.OwnRows
import Derived.Deep.LoopGhost
import Derived.OneCell
import Derived.Lib.SmallJoins
import Derived.StillTailTactics
import Derived.RangeFuncBox
import Derived.Deep.RegionHeld3
import Derived.Deep.DeepCutAuto
namespace Go.Proofs.Ytgkfnggnhphboaa
open Go.RowKit Go.Deep
set_option maxHeartbeats 2000000
set_option linter.unusedVariables false
set_option linter.unusedSimpArgs false

set_option maxRecDepth 100000 in
theorem s_DrawSegmentAt (p : Option Addr) (n cap : Nat) (w : World) (hin : Bytes w p n) :
    Calls Try.prog 16 #[.slice p n cap] w (DrawnL1 w) := by
  go_enter Try.func16, Try.ntmps16
  go_upto_region 2 with (go_at_call 57; refine (s_l01From p n cap _ (Bytes.keep hin (Pw.own (w := w) (ks := []) (by (repeat (first | with_reducible assumption | with_reducible exact Pw.start _ | focus ((with_reducible refine Pw.new' ?_ ?_ ?_ ?_); rotate_left; (focus exact trivial); (focus rfl); (focus first | rfl | (simp; done))) | with_reducible refine Pw.alloc ?_ _)))).below)).mono ?_; rintro e w' ⟨rfl, hS, hB⟩; have hD := Pw.from (w := w) (ks := []) (by (repeat (first | with_reducible assumption | with_reducible exact Pw.start _ | focus ((with_reducible refine Pw.new' ?_ ?_ ?_ ?_); rotate_left; (focus exact trivial); (focus rfl); (focus first | rfl | (simp; done))) | with_reducible refine Pw.alloc ?_ _))) hin hS hB; have hFB := Lib.hid hB; clear hS hB; obtain ⟨b, hbq⟩ : ∃ b, b = w.heap.size + 1 := ⟨_, rfl⟩; simp only [World.size_alloc] at hD ⊢; (try rw [show w.heap.size + 1 + 1 = w.heap.size + 2 from rfl] at hD ⊢); rw [← hbq] at hD ⊢; have hb1 : b ≤ w.heap.size + 1 := Nat.le_of_eq hbq; have hb2 : w.heap.size + 1 ≤ b := Nat.le_of_eq hbq.symm; clear hbq)
  have hone : One w' w.heap.size 26 := One.block (W := w.alloc (Obj.cells #[.slice none 0 0] 26)) ⟨_, World.alloc_heap_new w _⟩ (hFB.out.block _ (by simp))
  clear hFB
  have hbl := hD.ltb
  go_cut [5] (fun s6 wx => ∃ (k : Nat) (q : Option Addr) (m c : Nat) (zs : List Seg), s6 = .pointer (some ⟨k, 0, none⟩) ∧ m ≤ 1000 ∧ m ≤ c ∧ w.heap.size < k ∧ Ly b p n cap w wx [w.heap.size] [k] q m c zs)
  case first =>
    go_wp2_with (go_at_call 67; refine (s_l03Draw b p n cap _ hD.src).mono ?_; rintro e w2 ⟨q, m, c, zs, rfl, ⟨hm, hmc⟩, hS, hq, hSr, hO⟩; have hsz := hO.size; replace hD := hD.next hSr hO; replace hone := hone.only hO (by omega); clear hO)
    go_meet
    exact ⟨_, q, m, c, zs, rfl, hm, hmc, hone.lt, ly_new hD hone hS hq hbl hsz hb2⟩
  case rest =>
  obtain ⟨k, q, m, c, zs, rfl, hm, hmc, hk, hY⟩ := hcut
  have ck := hY.cell (k := k) (by simp)
  have lk := hY.lt (k := k) (by simp)
  clear hD hone hbl
  rcases Bool.eq_false_or_eq_true (layOk zs) with hl | hl
  · have HL := Lib.hid (layOk_iff.1 hl)
    have sil := fun W h => by have := s_IsLayout q m c zs W h; rw [hl] at this; exact this
    have HSI := Lib.hid sil
    have hz := (Ly.seg hY).1
    have hm3 : 3 ≤ m := by have := HL.out.1; omega
    have HA : Hid (AllOk zs m) := fun i hi => HL.out.2.2.1 i (by omega)
    clear hl sil hz
    go_upto_if 4 with first | (go_at_call 68; refine (s_l01Next b _ p n cap _ (Ly.src (w := w) (b := b) (p := p) (n := n) (cap := cap) (os := [w.heap.size]) (ls := [k]) (q := q) (m := m) (c := c) (zs := zs) (by (repeat (first | with_reducible assumption | with_reducible refine Ly.alloc ?_ _ | with_reducible refine Ly.drew ?_ | with_reducible refine Ly.drewN ?_ _))))).mono ?_; rintro e w' ⟨x, rfl, h0, h1, h2, hS, hO1⟩; (try simp only [Int.reduceLT, Int.reduceLE, forall_const, false_implies] at h1 h2); replace hY : Ly b p n cap w w' [w.heap.size] [k] q m c zs := Ly.next (by (repeat (first | with_reducible assumption | with_reducible refine Ly.alloc ?_ _ | with_reducible refine Ly.drew ?_ | with_reducible refine Ly.drewN ?_ _))) hS hO1; clear hS hO1; (try clear ck lk); (try clear oc of); have ck := hY.cell (k := k) (by simp); have lk := hY.lt (k := k) (by simp); obtain ⟨⟨ov, oc⟩, of⟩ := (hY.one w.heap.size (by simp)).1.cell) | (go_at_call 62; refine (HSI.out _ (Ly.seg (w := w) (b := b) (p := p) (n := n) (cap := cap) (os := [w.heap.size]) (ls := [k]) (q := q) (m := m) (c := c) (zs := zs) (by (repeat (first | with_reducible assumption | with_reducible refine Ly.alloc ?_ _ | with_reducible refine Ly.drew ?_ | with_reducible refine Ly.drewN ?_ _))))).mono ?_; rintro e w' ⟨rfl, hbel⟩; replace hY : Ly b p n cap w w' [w.heap.size] [k] q m c zs := Ly.below (by (repeat (first | with_reducible assumption | with_reducible refine Ly.alloc ?_ _ | with_reducible refine Ly.drew ?_ | with_reducible refine Ly.drewN ?_ _))) hbel; clear hbel; (try clear ck lk); (try clear oc of); have ck := hY.cell (k := k) (by simp); have lk := hY.lt (k := k) (by simp); obtain ⟨⟨ov, oc⟩, of⟩ := (hY.one w.heap.size (by simp)).1.cell)
    · refine (s_l03Starts q m c zs _ hY.seg (by omega) HA.out).mono ?_
      rintro e w3 ⟨v, rfl, how, hB⟩
      obtain ⟨q3, c3, rfl, hq3⟩ := ownQ_of_own (sz := 1) (f := preN zs) (n := m) (by simpa using how) (by omega)
      obtain ⟨g, rfl, hC⟩ := hq3.2.2 (by omega)
      have hgb : g ≠ b := by have := (hq3.2.1 _ rfl).1; have := hY.dw.ltb; simp only at *; omega
      have hgw : ¬ g = w.heap.size := by have := (hq3.2.1 _ rfl).1; have := hY.lt (k := k) (by simp); simp only at *; omega
      have hgv : ¬ w.heap.size = g := fun h => hgw h.symm
      have hgc : m ≤ c3 := by
        rcases how.2 with ⟨h, _⟩ | ⟨_, _, _, hv, _, _, hnc, _⟩
        · cases h
        · simp only [Value.slice.injEq] at hv; omega
      replace hY : Ly b p n cap w w3 [w.heap.size] [k] q m c zs := Ly.below hY hB
      have hm3i : (3 : Int) ≤ m := by omega
      clear how hq3 hB h0 h1 h2 ck lk of oc
      have ck := hY.cell (k := k) (by simp)
      have lk := hY.lt (k := k) (by simp)
      obtain ⟨⟨ov, oc⟩, of⟩ := (hY.one w.heap.size (by simp)).1.cell
      go_upto_region 5 with fail
      go_region_with (first | ((go_at_call_of 68 (Value.int IntKind.i64 2)); (go_at_call 68; refine (s_l01Next b _ p n cap _ (Ly.src (w := w) (b := b) (p := p) (n := n) (cap := cap) (os := [w.heap.size]) (ls := [k]) (q := q) (m := m) (c := c) (zs := zs) (by (repeat (first | with_reducible assumption | with_reducible refine Ly.alloc ?_ _ | with_reducible refine Ly.drew ?_ | with_reducible refine Ly.drewN ?_ _))))).mono ?_; rintro e w' ⟨x, rfl, h0, h1, h2, hS, hO1⟩; (try simp only [Int.reduceLT, Int.reduceLE, forall_const, false_implies] at h1 h2); replace hC : RowC w' g 2 (m * 1) (preN zs) := hC.of_block (hO1.block g hC.lt hgb); (try clear cx); have cx := hC.cell (i := ix) (by omega); replace hY : Ly b p n cap w w' [w.heap.size] [k] q m c zs := Ly.next (by (repeat (first | with_reducible assumption | with_reducible refine Ly.alloc ?_ _ | with_reducible refine Ly.drew ?_ | with_reducible refine Ly.drewN ?_ _))) hS hO1; clear hS hO1; (try clear ck lk); (try clear oc of); have ck := hY.cell (k := k) (by simp); have lk := hY.lt (k := k) (by simp); obtain ⟨⟨ov, oc⟩, of⟩ := (hY.one w.heap.size (by simp)).1.cell)) | (go_at_call 68; refine (s_l01Next b _ p n cap _ (Ly.src (w := w) (b := b) (p := p) (n := n) (cap := cap) (os := [w.heap.size]) (ls := [k]) (q := q) (m := m) (c := c) (zs := zs) (by (repeat (first | with_reducible assumption | with_reducible refine Ly.alloc ?_ _ | with_reducible refine Ly.drew ?_ | with_reducible refine Ly.drewN ?_ _))))).mono ?_; rintro e w' ⟨x, rfl, h0, h1, h2, hS, hO1⟩; (try simp only [Int.reduceLT, Int.reduceLE, forall_const, false_implies] at h1 h2); replace hC : RowC w' g 2 (m * 1) (preN zs) := hC.of_block (hO1.block g hC.lt hgb); obtain ⟨ix, rfl⟩ := Int.eq_ofNat_of_zero_le h0; have hix : ix < m := (by omega); have cx := hC.cell (i := ix) (by omega); clear h0 h1 h2; replace hY : Ly b p n cap w w' [w.heap.size] [k] q m c zs := Ly.next (by (repeat (first | with_reducible assumption | with_reducible refine Ly.alloc ?_ _ | with_reducible refine Ly.drew ?_ | with_reducible refine Ly.drewN ?_ _))) hS hO1; clear hS hO1; (try clear ck lk); (try clear oc of); have ck := hY.cell (k := k) (by simp); have lk := hY.lt (k := k) (by simp); obtain ⟨⟨ov, oc⟩, of⟩ := (hY.one w.heap.size (by simp)).1.cell))
      all_goals
        have HF := Lib.hid (hY.fin (by omega) (k := w.heap.size) (by simp) (.slice q m c))
        go_wp2
        refine bodyPost_ret (v := .tuple #[.agg #[.slice q m c], .int .i64 _]) (by simp [results, Try.results16, go_sem, *]; exact rfl) rfl ⟨q, m, c, zs, _, rfl, hm, hmc, HF.out.1, fun hp g o e => (hY.far hp g o e).2.1, HF.out.2⟩
    · (try go_upto_region 6 with fail)
      go_region_held3 (fun W => W.cell? ⟨k, 0, none⟩ = some (.slice q m c)) (first | (go_simp; done) | go_keep) (first | (go_at_call 70; refine (s_l03DrawPosition b q m c zs hm p n cap _ (Ly.seg (w := w) (b := b) (p := p) (n := n) (cap := cap) (os := [w.heap.size]) (ls := [k]) (q := q) (m := m) (c := c) (zs := zs) (by (repeat (first | with_reducible assumption | with_reducible refine Ly.alloc ?_ _ | with_reducible refine Ly.drew ?_ | with_reducible refine Ly.drewN ?_ _)))) (Ly.src (w := w) (b := b) (p := p) (n := n) (cap := cap) (os := [w.heap.size]) (ls := [k]) (q := q) (m := m) (c := c) (zs := zs) (by (repeat (first | with_reducible assumption | with_reducible refine Ly.alloc ?_ _ | with_reducible refine Ly.drew ?_ | with_reducible refine Ly.drewN ?_ _))))).mono ?_; rintro e w' ⟨x, rfl, hS, hO1⟩; replace hY : Ly b p n cap w w' [w.heap.size] [k] q m c zs := Ly.next (by (repeat (first | with_reducible assumption | with_reducible refine Ly.alloc ?_ _ | with_reducible refine Ly.drew ?_ | with_reducible refine Ly.drewN ?_ _))) hS hO1; clear hS hO1; have ck := hY.cell (k := k) (by simp); have lk := hY.lt (k := k) (by simp); obtain ⟨⟨ov, oc⟩, of⟩ := (hY.one w.heap.size (by simp)).1.cell))
      all_goals
        have HF := Lib.hid (hY.fin (by omega) (k := w.heap.size) (by simp) (.slice q m c))
        go_wp2
        refine bodyPost_ret (v := .tuple #[.agg #[.slice q m c], .int .i64 _]) (by simp [results, Try.results16, go_sem, *]; exact rfl) rfl ⟨q, m, c, zs, _, rfl, hm, hmc, HF.out.1, fun hp g o e => (hY.far hp g o e).2.1, HF.out.2⟩
  · have HLF := Lib.hid hl
    have sil := fun W h => by have := s_IsLayout q m c zs W h; rw [hl] at this; exact this
    have HSI := Lib.hid sil
    clear hl sil
    go_upto_region 6 with first | (go_at_call 68; refine (s_l01Next b _ p n cap _ (Ly.src (w := w) (b := b) (p := p) (n := n) (cap := cap) (os := [w.heap.size]) (ls := [k]) (q := q) (m := m) (c := c) (zs := zs) (by (repeat (first | with_reducible assumption | with_reducible refine Ly.alloc ?_ _ | with_reducible refine Ly.drew ?_ | with_reducible refine Ly.drewN ?_ _))))).mono ?_; rintro e w' ⟨x, rfl, h0, h1, h2, hS, hO1⟩; (try simp only [Int.reduceLT, Int.reduceLE, forall_const, false_implies] at h1 h2); replace hY : Ly b p n cap w w' [w.heap.size] [k] q m c zs := Ly.next (by (repeat (first | with_reducible assumption | with_reducible refine Ly.alloc ?_ _ | with_reducible refine Ly.drew ?_ | with_reducible refine Ly.drewN ?_ _))) hS hO1; clear hS hO1; (try clear ck lk); (try clear oc of); have ck := hY.cell (k := k) (by simp); have lk := hY.lt (k := k) (by simp); obtain ⟨⟨ov, oc⟩, of⟩ := (hY.one w.heap.size (by simp)).1.cell) | (go_at_call 62; refine (HSI.out _ (Ly.seg (w := w) (b := b) (p := p) (n := n) (cap := cap) (os := [w.heap.size]) (ls := [k]) (q := q) (m := m) (c := c) (zs := zs) (by (repeat (first | with_reducible assumption | with_reducible refine Ly.alloc ?_ _ | with_reducible refine Ly.drew ?_ | with_reducible refine Ly.drewN ?_ _))))).mono ?_; rintro e w' ⟨rfl, hbel⟩; replace hY : Ly b p n cap w w' [w.heap.size] [k] q m c zs := Ly.below (by (repeat (first | with_reducible assumption | with_reducible refine Ly.alloc ?_ _ | with_reducible refine Ly.drew ?_ | with_reducible refine Ly.drewN ?_ _))) hbel; clear hbel; (try clear ck lk); (try clear oc of); have ck := hY.cell (k := k) (by simp); have lk := hY.lt (k := k) (by simp); obtain ⟨⟨ov, oc⟩, of⟩ := (hY.one w.heap.size (by simp)).1.cell)
    all_goals
      go_region_held3 (fun W => W.cell? ⟨k, 0, none⟩ = some (.slice q m c)) (first | (go_simp; done) | go_keep) (first | (go_at_call 70; refine (s_l03DrawPosition b q m c zs hm p n cap _ (Ly.seg (w := w) (b := b) (p := p) (n := n) (cap := cap) (os := [w.heap.size]) (ls := [k]) (q := q) (m := m) (c := c) (zs := zs) (by (repeat (first | with_reducible assumption | with_reducible refine Ly.alloc ?_ _ | with_reducible refine Ly.drew ?_ | with_reducible refine Ly.drewN ?_ _)))) (Ly.src (w := w) (b := b) (p := p) (n := n) (cap := cap) (os := [w.heap.size]) (ls := [k]) (q := q) (m := m) (c := c) (zs := zs) (by (repeat (first | with_reducible assumption | with_reducible refine Ly.alloc ?_ _ | with_reducible refine Ly.drew ?_ | with_reducible refine Ly.drewN ?_ _))))).mono ?_; rintro e w' ⟨x, rfl, hS, hO1⟩; replace hY : Ly b p n cap w w' [w.heap.size] [k] q m c zs := Ly.next (by (repeat (first | with_reducible assumption | with_reducible refine Ly.alloc ?_ _ | with_reducible refine Ly.drew ?_ | with_reducible refine Ly.drewN ?_ _))) hS hO1; clear hS hO1; have ck := hY.cell (k := k) (by simp); have lk := hY.lt (k := k) (by simp); obtain ⟨⟨ov, oc⟩, of⟩ := (hY.one w.heap.size (by simp)).1.cell))
      all_goals
        have HF := Lib.hid (hY.fin (by omega) (k := w.heap.size) (by simp) (.slice q m c))
        go_wp2
        refine bodyPost_ret (v := .tuple #[.agg #[.slice q m c], .int .i64 _]) (by simp [results, Try.results16, go_sem, *]; exact rfl) rfl ⟨q, m, c, zs, _, rfl, hm, hmc, HF.out.1, fun hp g o e => (hY.far hp g o e).2.1, HF.out.2⟩

set_option maxRecDepth 100000 in
theorem s_DrawHeightAt (p : Option Addr) (n cap : Nat) (w : World) (hin : Bytes w p n) :
    Calls Try.prog 29 #[.slice p n cap] w (DrawnL1 w) := by
  have hin' := hin.keep ((Below.refl _ _).alloc (Nat.le_refl _) (Obj.cells #[.slice none 0 0] 26))
  have HI := Lib.hid hin'
  clear hin hin'
  go_enter Try.func29, Try.ntmps29
  go_wp2_with fail
  refine (s_DrawSegmentAt p n cap _ HI.out).mono ?_
  rintro e w1 ⟨q, m, c, zs, x, rfl, hm, hmc, hS, hq, hb⟩
  obtain ⟨h1, h2, h3⟩ := below_box (k := w.heap.size) hb (by simp)
  have c1 : w1.cell? ⟨w.heap.size, 0, none⟩ = some (.slice none 0 0) := by rw [h1 0]; go_simp
  have f1 : w1.frozen? ⟨w.heap.size, 0, none⟩ = false := by rw [h2 0]; go_simp
  have hF : Segs (w1.setCell ⟨w.heap.size, 0, none⟩ (.slice q m c)) q m zs ∧ Below w.heap.size w (w1.setCell ⟨w.heap.size, 0, none⟩ (.slice q m c)) := by
    refine ⟨⟨hS.1, hS.2.1, fun hp => ?_⟩, bset (bto (balloc (Below.refl _ _) _) hb) (Nat.le_refl _) _⟩
    obtain ⟨g, off, e, hl, hc⟩ := hS.2.2 hp
    have := hq hp g off e
    rw [World.size_alloc] at this
    exact ⟨g, off, e, by simpa using hl, fun i hi => (hc i hi).keep (Below.heap_setCell w1 _ _ g (by simp only; omega))⟩
  have HF := Lib.hid hF
  have HQ : Hid (0 < m → ∀ g o, q = some ⟨g, o, none⟩ → w.heap.size ≤ g) := fun hp g o e => by have := hq hp g o e; rw [World.size_alloc] at this; omega
  clear h1 h2 hb hF hS hq
  go_wp2
  refine bodyPost_ret (v := .tuple #[.agg #[.slice q m c], .int .i64 _]) (by simp [results, Try.results29, go_sem, *]; exact rfl) rfl ⟨q, m, c, zs, _, rfl, hm, hmc, HF.out.1, HQ.out, HF.out.2⟩

end Go.Proofs.Ytgkfnggnhphboaa
