/- Contracts and lemmas for the proofs of this seat: LDraw8. -/
import Derived.Test.YtgkfnggnhphboaaLDraw7
import Derived.Test.YtgkfnggnhphboaaLDraw6
import Derived.Test.YtgkfnggnhphboaaLDraw5
import Derived.Test.YtgkfnggnhphboaaLDraw3
import Derived.Test.YtgkfnggnhphboaaLDraw2
import Derived.Test.YtgkfnggnhphboaaLDraw
import Derived.Test.YtgkfnggnhphboaaDRow
import Derived.Test.YtgkfnggnhphboaaDraw3
import Derived.Test.YtgkfnggnhphboaaDraw2
import Derived.Test.YtgkfnggnhphboaaDraw
import Derived.Test.YtgkfnggnhphboaaBase
import Derived.Test.YtgkfnggnhphboaaNum
import Derived.Test.YtgkfnggnhphboaaIv
import Derived.Test.YtgkfnggnhphboaaIv2
import Derived.Test.YtgkfnggnhphboaaRoot
import Derived.Test.YtgkfnggnhphboaaEn
import Derived.Test.YtgkfnggnhphboaaSeg
import Derived.Test.YtgkfnggnhphboaaList
import Derived.Test.YtgkfnggnhphboaaLay
import Derived.Test.YtgkfnggnhphboaaLay2
import Derived.Test.YtgkfnggnhphboaaLay3
import Derived.Lib.Hide
import Derived.BigQuiet
import Derived.Deep.QuietTactic
import Derived.Deep.OwnRows
import Derived.Deep.LoopGhost
import Derived.OneCell
import Derived.Lib.SmallJoins
import Derived.StillTailTactics
import Derived.RangeFuncBox
import Derived.Deep.RegionHeld3
import Derived.Deep.DeepCutAuto
namespace Go.Proofs.Ytgkfnggnhphboaa
open Go.RowKit Go.Deep
set_option maxHeartbeats 2000000
set_option linter.unusedVariables false
set_option linter.unusedSimpArgs false

theorem Ints.only' {k : IntKind} {b : Nat} {w w' : World} {g n : Nat} {zs : List Int} (hO : Only b w w') (h : Ints k w (some ⟨g, 0, none⟩) n zs) (hne : g ≠ b) : Ints k w' (some ⟨g, 0, none⟩) n zs := h.only hO hne
def DrawnLI (w : World) (e : Ending) (w' : World) : Prop :=
  ∃ (q : Option Addr) (m c : Nat) (zs : List Seg) (g kk cc : Nat) (ys : List Int) (x : Int), e = .returned (.tuple #[.agg #[.slice q m c], .slice (some ⟨g, 0, none⟩) kk cc, .int .i64 x]) ∧ m ≤ 1000 ∧ m ≤ c ∧ kk ≤ 1000 ∧ kk ≤ cc ∧ Segs w' q m zs ∧ Ints .i64 w' (some ⟨g, 0, none⟩) kk ys ∧ Below w.heap.size w w'
def DrawnLI2 (w : World) (e : Ending) (w' : World) : Prop :=
  ∃ (q : Option Addr) (m c : Nat) (zs : List Seg) (g kk cc : Nat) (ys : List Int) (x y : Int), e = .returned (.tuple #[.agg #[.slice q m c], .slice (some ⟨g, 0, none⟩) kk cc, .int .i64 x, .int .i64 y]) ∧ m ≤ 1000 ∧ m ≤ c ∧ kk ≤ 1000 ∧ kk ≤ cc ∧ Segs w' q m zs ∧ Ints .i64 w' (some ⟨g, 0, none⟩) kk ys ∧ Below w.heap.size w w'

set_option maxRecDepth 100000 in
theorem s_DrawAreSeparate (p : Option Addr) (n cap : Nat) (w : World) (hin : Bytes w p n) :
    Calls Try.prog 38 #[.slice p n cap] w (DrawnLI w) := by
  go_enter Try.func38, Try.ntmps38
  go_upto_region 2 with (go_at_call 57; refine (s_l01From p n cap _ (Bytes.keep hin (Pw.own (w := w) (ks := []) (by (repeat (first | with_reducible assumption | with_reducible exact Pw.start _ | focus ((with_reducible refine Pw.new' ?_ ?_ ?_ ?_); rotate_left; (focus exact trivial); (focus rfl); (focus first | rfl | (simp; done))) | with_reducible refine Pw.alloc ?_ _)))).below)).mono ?_; rintro e w' ⟨rfl, hS, hB⟩; have hD := Pw.from (w := w) (ks := []) (by (repeat (first | with_reducible assumption | with_reducible exact Pw.start _ | focus ((with_reducible refine Pw.new' ?_ ?_ ?_ ?_); rotate_left; (focus exact trivial); (focus rfl); (focus first | rfl | (simp; done))) | with_reducible refine Pw.alloc ?_ _))) hin hS hB; have hFB := Lib.hid hB; clear hS hB; obtain ⟨b, hbq⟩ : ∃ b, b = w.heap.size + 1 := ⟨_, rfl⟩; simp only [World.size_alloc] at hD ⊢; (try rw [show w.heap.size + 1 + 1 = w.heap.size + 2 from rfl] at hD ⊢); rw [← hbq] at hD ⊢; have hb1 : b ≤ w.heap.size + 1 := Nat.le_of_eq hbq; have hb2 : w.heap.size + 1 ≤ b := Nat.le_of_eq hbq.symm; clear hbq)
  have hone : One w' w.heap.size 26 := One.block (W := w.alloc (Obj.cells #[.slice none 0 0] 26)) ⟨_, World.alloc_heap_new w _⟩ (hFB.out.block _ (by simp))
  clear hFB
  have hbl := hD.ltb
  go_cut [6] (fun s6 wx => ∃ (k : Nat) (q : Option Addr) (m c : Nat) (zs : List Seg), s6 = .pointer (some ⟨k, 0, none⟩) ∧ m ≤ 1000 ∧ m ≤ c ∧ w.heap.size < k ∧ Ly b p n cap w wx [w.heap.size] [k] q m c zs)
  case first =>
    go_wp2_with (go_at_call 67; refine (s_l03Draw b p n cap _ hD.src).mono ?_; rintro e w2 ⟨q, m, c, zs, rfl, ⟨hm, hmc⟩, hS, hq, hSr, hO⟩; have hsz := hO.size; replace hD := hD.next hSr hO; replace hone := hone.only hO (by omega); clear hO)
    go_meet
    exact ⟨_, q, m, c, zs, rfl, hm, hmc, hone.lt, ly_new hD hone hS hq hbl hsz hb2⟩
  case rest =>
  obtain ⟨k, q, m, c, zs, rfl, hm, hmc, hk, hY⟩ := hcut
  have ck := hY.cell (k := k) (by simp)
  have lk := hY.lt (k := k) (by simp)
  clear hD hone hbl
  go_upto_region 4 with (go_at_call 82; refine (s_l05DrawLength b q m c zs hm (fun hp g o e => (hY.far hp g o e).1) p n cap _ (Ly.seg (w := w) (b := b) (p := p) (n := n) (cap := cap) (os := [w.heap.size]) (ls := [k]) (q := q) (m := m) (c := c) (zs := zs) (by (repeat (first | with_reducible assumption | with_reducible refine Ly.alloc ?_ _ | with_reducible refine Ly.drew ?_ | with_reducible refine Ly.drewN ?_ _)))) (Ly.src (w := w) (b := b) (p := p) (n := n) (cap := cap) (os := [w.heap.size]) (ls := [k]) (q := q) (m := m) (c := c) (zs := zs) (by (repeat (first | with_reducible assumption | with_reducible refine Ly.alloc ?_ _ | with_reducible refine Ly.drew ?_ | with_reducible refine Ly.drewN ?_ _))))).mono ?_; rintro e w' ⟨x, rfl, hS, hO1⟩; replace hY : Ly b p n cap w w' [w.heap.size] [k] q m c zs := Ly.next (by (repeat (first | with_reducible assumption | with_reducible refine Ly.alloc ?_ _ | with_reducible refine Ly.drew ?_ | with_reducible refine Ly.drewN ?_ _))) hS hO1; clear hS hO1; have ck := hY.cell (k := k) (by simp); have lk := hY.lt (k := k) (by simp); obtain ⟨⟨ov, oc⟩, of⟩ := (hY.one w.heap.size (by simp)).1.cell)
  obtain ⟨wA, rfl⟩ : ∃ wA : World, wA = w' := ⟨_, rfl⟩
  go_region_held3 (fun W => W.cell? ⟨k, 0, none⟩ = some (.slice q m c)) (first | (go_simp; done) | go_keep) (first | (go_at_call 95; refine (s_l05DrawFronts b q m c zs hm x p n cap _ (Ly.seg (w := w) (b := b) (p := p) (n := n) (cap := cap) (os := [w.heap.size]) (ls := [k]) (q := q) (m := m) (c := c) (zs := zs) (by (repeat (first | with_reducible assumption | with_reducible refine Ly.alloc ?_ _ | with_reducible refine Ly.drew ?_ | with_reducible refine Ly.drewN ?_ _)))) (Ly.src (w := w) (b := b) (p := p) (n := n) (cap := cap) (os := [w.heap.size]) (ls := [k]) (q := q) (m := m) (c := c) (zs := zs) (by (repeat (first | with_reducible assumption | with_reducible refine Ly.alloc ?_ _ | with_reducible refine Ly.drew ?_ | with_reducible refine Ly.drewN ?_ _))))).mono ?_; rintro e w' ⟨g, kk, cc, ys, rfl, hk1, hk2, hI, hgb, hg, hS, hO1⟩; have hgw : w.heap.size < g := Nat.lt_of_lt_of_le hk (Nat.le_trans (Nat.le_of_lt lk) hg); replace hY : Ly b p n cap w w' [w.heap.size] [k] q m c zs := Ly.next (by (repeat (first | with_reducible assumption | with_reducible refine Ly.alloc ?_ _ | with_reducible refine Ly.drew ?_ | with_reducible refine Ly.drewN ?_ _))) hS hO1; clear hS hO1; (try clear ck lk); (try clear oc of); have ck := hY.cell (k := k) (by simp); have lk := hY.lt (k := k) (by simp); obtain ⟨⟨ov, oc⟩, of⟩ := (hY.one w.heap.size (by simp)).1.cell))
  all_goals
    have HF := Lib.hid (hY.fin (by omega) (k := w.heap.size) (by simp) (.slice q m c))
    have HI := Lib.hid (hI.set (q := ⟨w.heap.size, 0, none⟩) (by simp only; omega) (.slice q m c))
    clear hI
    go_wp2
    refine bodyPost_ret (v := .tuple #[.agg #[.slice q m c], .slice (some ⟨g, 0, none⟩) kk cc, .int .i64 _]) (by simp [results, Try.results38, go_sem, *]; exact rfl) rfl ⟨q, m, c, zs, g, kk, cc, ys, _, rfl, hm, hmc, hk1, hk2, HF.out.1, HI.out, HF.out.2⟩

set_option maxRecDepth 100000 in
theorem s_DrawSensorsCovered (p : Option Addr) (n cap : Nat) (w : World) (hin : Bytes w p n) :
    Calls Try.prog 52 #[.slice p n cap] w (DrawnLI2 w) := by
  go_enter Try.func52, Try.ntmps52
  go_upto_region 2 with (go_at_call 57; refine (s_l01From p n cap _ (Bytes.keep hin (Pw.own (w := w) (ks := []) (by (repeat (first | with_reducible assumption | with_reducible exact Pw.start _ | focus ((with_reducible refine Pw.new' ?_ ?_ ?_ ?_); rotate_left; (focus exact trivial); (focus rfl); (focus first | rfl | (simp; done))) | with_reducible refine Pw.alloc ?_ _)))).below)).mono ?_; rintro e w' ⟨rfl, hS, hB⟩; have hD := Pw.from (w := w) (ks := []) (by (repeat (first | with_reducible assumption | with_reducible exact Pw.start _ | focus ((with_reducible refine Pw.new' ?_ ?_ ?_ ?_); rotate_left; (focus exact trivial); (focus rfl); (focus first | rfl | (simp; done))) | with_reducible refine Pw.alloc ?_ _))) hin hS hB; have hFB := Lib.hid hB; clear hS hB; obtain ⟨b, hbq⟩ : ∃ b, b = w.heap.size + 1 := ⟨_, rfl⟩; simp only [World.size_alloc] at hD ⊢; (try rw [show w.heap.size + 1 + 1 = w.heap.size + 2 from rfl] at hD ⊢); rw [← hbq] at hD ⊢; have hb1 : b ≤ w.heap.size + 1 := Nat.le_of_eq hbq; have hb2 : w.heap.size + 1 ≤ b := Nat.le_of_eq hbq.symm; clear hbq)
  have hone : One w' w.heap.size 26 := One.block (W := w.alloc (Obj.cells #[.slice none 0 0] 26)) ⟨_, World.alloc_heap_new w _⟩ (hFB.out.block _ (by simp))
  clear hFB
  have hbl := hD.ltb
  go_cut [7] (fun s6 wx => ∃ (k : Nat) (q : Option Addr) (m c : Nat) (zs : List Seg), s6 = .pointer (some ⟨k, 0, none⟩) ∧ m ≤ 1000 ∧ m ≤ c ∧ w.heap.size < k ∧ Ly b p n cap w wx [w.heap.size] [k] q m c zs)
  case first =>
    go_wp2_with (go_at_call 67; refine (s_l03Draw b p n cap _ hD.src).mono ?_; rintro e w2 ⟨q, m, c, zs, rfl, ⟨hm, hmc⟩, hS, hq, hSr, hO⟩; have hsz := hO.size; replace hD := hD.next hSr hO; replace hone := hone.only hO (by omega); clear hO)
    go_meet
    exact ⟨_, q, m, c, zs, rfl, hm, hmc, hone.lt, ly_new hD hone hS hq hbl hsz hb2⟩
  case rest =>
  obtain ⟨k, q, m, c, zs, rfl, hm, hmc, hk, hY⟩ := hcut
  have ck := hY.cell (k := k) (by simp)
  have lk := hY.lt (k := k) (by simp)
  clear hD hone hbl
  go_upto_region 3 with fail
  go_region_held3 (fun W => W.cell? ⟨k, 0, none⟩ = some (.slice q m c)) (first | (go_simp; done) | go_keep) (first | (go_at_call 109; refine (s_l05DrawSensors b q m c zs hm p n cap _ (Ly.seg (w := w) (b := b) (p := p) (n := n) (cap := cap) (os := [w.heap.size]) (ls := [k]) (q := q) (m := m) (c := c) (zs := zs) (by (repeat (first | with_reducible assumption | with_reducible refine Ly.alloc ?_ _ | with_reducible refine Ly.drew ?_ | with_reducible refine Ly.drewN ?_ _)))) (Ly.src (w := w) (b := b) (p := p) (n := n) (cap := cap) (os := [w.heap.size]) (ls := [k]) (q := q) (m := m) (c := c) (zs := zs) (by (repeat (first | with_reducible assumption | with_reducible refine Ly.alloc ?_ _ | with_reducible refine Ly.drew ?_ | with_reducible refine Ly.drewN ?_ _))))).mono ?_; rintro e w' ⟨g, kk, cc, ys, rfl, hk1, hk2, hI, hgb, hg, hS, hO1⟩; have hgw : w.heap.size < g := Nat.lt_of_lt_of_le hk (Nat.le_trans (Nat.le_of_lt lk) hg); replace hY : Ly b p n cap w w' [w.heap.size] [k] q m c zs := Ly.next (by (repeat (first | with_reducible assumption | with_reducible refine Ly.alloc ?_ _ | with_reducible refine Ly.drew ?_ | with_reducible refine Ly.drewN ?_ _))) hS hO1; clear hS hO1; (try clear ck lk); (try clear oc of); have ck := hY.cell (k := k) (by simp); have lk := hY.lt (k := k) (by simp); obtain ⟨⟨ov, oc⟩, of⟩ := (hY.one w.heap.size (by simp)).1.cell) | (go_at_call 70; refine (s_l03DrawPosition b q m c zs hm p n cap _ (Ly.seg (w := w) (b := b) (p := p) (n := n) (cap := cap) (os := [w.heap.size]) (ls := [k]) (q := q) (m := m) (c := c) (zs := zs) (by (repeat (first | with_reducible assumption | with_reducible refine Ly.alloc ?_ _ | with_reducible refine Ly.drew ?_ | with_reducible refine Ly.drewN ?_ _)))) (Ly.src (w := w) (b := b) (p := p) (n := n) (cap := cap) (os := [w.heap.size]) (ls := [k]) (q := q) (m := m) (c := c) (zs := zs) (by (repeat (first | with_reducible assumption | with_reducible refine Ly.alloc ?_ _ | with_reducible refine Ly.drew ?_ | with_reducible refine Ly.drewN ?_ _))))).mono ?_; rintro e w' ⟨x, rfl, hS, hO1⟩; (try replace hI := Ints.only' hO1 hI hgb); replace hY : Ly b p n cap w w' [w.heap.size] [k] q m c zs := Ly.next (by (repeat (first | with_reducible assumption | with_reducible refine Ly.alloc ?_ _ | with_reducible refine Ly.drew ?_ | with_reducible refine Ly.drewN ?_ _))) hS hO1; clear hS hO1; (try clear ck lk); (try clear oc of); have ck := hY.cell (k := k) (by simp); have lk := hY.lt (k := k) (by simp); obtain ⟨⟨ov, oc⟩, of⟩ := (hY.one w.heap.size (by simp)).1.cell) | (go_at_call 82; refine (s_l05DrawLength b q m c zs hm (fun hp g o e => (hY.far hp g o e).1) p n cap _ (Ly.seg (w := w) (b := b) (p := p) (n := n) (cap := cap) (os := [w.heap.size]) (ls := [k]) (q := q) (m := m) (c := c) (zs := zs) (by (repeat (first | with_reducible assumption | with_reducible refine Ly.alloc ?_ _ | with_reducible refine Ly.drew ?_ | with_reducible refine Ly.drewN ?_ _)))) (Ly.src (w := w) (b := b) (p := p) (n := n) (cap := cap) (os := [w.heap.size]) (ls := [k]) (q := q) (m := m) (c := c) (zs := zs) (by (repeat (first | with_reducible assumption | with_reducible refine Ly.alloc ?_ _ | with_reducible refine Ly.drew ?_ | with_reducible refine Ly.drewN ?_ _))))).mono ?_; rintro e w' ⟨x, rfl, hS, hO1⟩; (try replace hI := Ints.only' hO1 hI hgb); replace hY : Ly b p n cap w w' [w.heap.size] [k] q m c zs := Ly.next (by (repeat (first | with_reducible assumption | with_reducible refine Ly.alloc ?_ _ | with_reducible refine Ly.drew ?_ | with_reducible refine Ly.drewN ?_ _))) hS hO1; clear hS hO1; (try clear ck lk); (try clear oc of); have ck := hY.cell (k := k) (by simp); have lk := hY.lt (k := k) (by simp); obtain ⟨⟨ov, oc⟩, of⟩ := (hY.one w.heap.size (by simp)).1.cell))
  all_goals
    have HF := Lib.hid (hY.fin (by omega) (k := w.heap.size) (by simp) (.slice q m c))
    have HI := Lib.hid (hI.set (q := ⟨w.heap.size, 0, none⟩) (by simp only; omega) (.slice q m c))
    clear hI
    go_wp2
    refine bodyPost_ret (v := .tuple #[.agg #[.slice q m c], .slice (some ⟨g, 0, none⟩) kk cc, .int .i64 _, .int .i64 _]) (by simp [results, Try.results52, go_sem, *]; exact ⟨rfl, rfl⟩) rfl ⟨q, m, c, zs, g, kk, cc, ys, _, _, rfl, hm, hmc, hk1, hk2, HF.out.1, HI.out, HF.out.2⟩

set_option maxRecDepth 100000 in
theorem s_DrawSensorsPassed (p : Option Addr) (n cap : Nat) (w : World) (hin : Bytes w p n) :
    Calls Try.prog 51 #[.slice p n cap] w (DrawnLI2 w) := by
  go_enter Try.func51, Try.ntmps51
  go_upto_region 2 with (go_at_call 57; refine (s_l01From p n cap _ (Bytes.keep hin (Pw.own (w := w) (ks := []) (by (repeat (first | with_reducible assumption | with_reducible exact Pw.start _ | focus ((with_reducible refine Pw.new' ?_ ?_ ?_ ?_); rotate_left; (focus exact trivial); (focus rfl); (focus first | rfl | (simp; done))) | with_reducible refine Pw.alloc ?_ _)))).below)).mono ?_; rintro e w' ⟨rfl, hS, hB⟩; have hD := Pw.from (w := w) (ks := []) (by (repeat (first | with_reducible assumption | with_reducible exact Pw.start _ | focus ((with_reducible refine Pw.new' ?_ ?_ ?_ ?_); rotate_left; (focus exact trivial); (focus rfl); (focus first | rfl | (simp; done))) | with_reducible refine Pw.alloc ?_ _))) hin hS hB; have hFB := Lib.hid hB; clear hS hB; obtain ⟨b, hbq⟩ : ∃ b, b = w.heap.size + 1 := ⟨_, rfl⟩; simp only [World.size_alloc] at hD ⊢; (try rw [show w.heap.size + 1 + 1 = w.heap.size + 2 from rfl] at hD ⊢); rw [← hbq] at hD ⊢; have hb1 : b ≤ w.heap.size + 1 := Nat.le_of_eq hbq; have hb2 : w.heap.size + 1 ≤ b := Nat.le_of_eq hbq.symm; clear hbq)
  have hone : One w' w.heap.size 26 := One.block (W := w.alloc (Obj.cells #[.slice none 0 0] 26)) ⟨_, World.alloc_heap_new w _⟩ (hFB.out.block _ (by simp))
  clear hFB
  have hbl := hD.ltb
  go_cut [7] (fun s6 wx => ∃ (k : Nat) (q : Option Addr) (m c : Nat) (zs : List Seg), s6 = .pointer (some ⟨k, 0, none⟩) ∧ m ≤ 1000 ∧ m ≤ c ∧ w.heap.size < k ∧ Ly b p n cap w wx [w.heap.size] [k] q m c zs)
  case first =>
    go_wp2_with (go_at_call 67; refine (s_l03Draw b p n cap _ hD.src).mono ?_; rintro e w2 ⟨q, m, c, zs, rfl, ⟨hm, hmc⟩, hS, hq, hSr, hO⟩; have hsz := hO.size; replace hD := hD.next hSr hO; replace hone := hone.only hO (by omega); clear hO)
    go_meet
    exact ⟨_, q, m, c, zs, rfl, hm, hmc, hone.lt, ly_new hD hone hS hq hbl hsz hb2⟩
  case rest =>
  obtain ⟨k, q, m, c, zs, rfl, hm, hmc, hk, hY⟩ := hcut
  have ck := hY.cell (k := k) (by simp)
  have lk := hY.lt (k := k) (by simp)
  clear hD hone hbl
  go_upto_region 4 with (go_at_call 109; refine (s_l05DrawSensors b q m c zs hm p n cap _ (Ly.seg (w := w) (b := b) (p := p) (n := n) (cap := cap) (os := [w.heap.size]) (ls := [k]) (q := q) (m := m) (c := c) (zs := zs) (by (repeat (first | with_reducible assumption | with_reducible refine Ly.alloc ?_ _ | with_reducible refine Ly.drew ?_ | with_reducible refine Ly.drewN ?_ _)))) (Ly.src (w := w) (b := b) (p := p) (n := n) (cap := cap) (os := [w.heap.size]) (ls := [k]) (q := q) (m := m) (c := c) (zs := zs) (by (repeat (first | with_reducible assumption | with_reducible refine Ly.alloc ?_ _ | with_reducible refine Ly.drew ?_ | with_reducible refine Ly.drewN ?_ _))))).mono ?_; rintro e w' ⟨g, kk, cc, ys, rfl, hk1, hk2, hI, hgb, hg, hS, hO1⟩; have hgw : w.heap.size < g := Nat.lt_of_lt_of_le hk (Nat.le_trans (Nat.le_of_lt lk) hg); replace hY : Ly b p n cap w w' [w.heap.size] [k] q m c zs := Ly.next (by (repeat (first | with_reducible assumption | with_reducible refine Ly.alloc ?_ _ | with_reducible refine Ly.drew ?_ | with_reducible refine Ly.drewN ?_ _))) hS hO1; clear hS hO1; (try clear ck lk); (try clear oc of); have ck := hY.cell (k := k) (by simp); have lk := hY.lt (k := k) (by simp); obtain ⟨⟨ov, oc⟩, of⟩ := (hY.one w.heap.size (by simp)).1.cell)
  obtain ⟨wA, rfl⟩ : ∃ wA : World, wA = w' := ⟨_, rfl⟩
  go_upto_region 5 with (go_at_call 70; refine (s_l03DrawPosition b q m c zs hm p n cap _ (Ly.seg (w := w) (b := b) (p := p) (n := n) (cap := cap) (os := [w.heap.size]) (ls := [k]) (q := q) (m := m) (c := c) (zs := zs) (by (repeat (first | with_reducible assumption | with_reducible refine Ly.alloc ?_ _ | with_reducible refine Ly.drew ?_ | with_reducible refine Ly.drewN ?_ _)))) (Ly.src (w := w) (b := b) (p := p) (n := n) (cap := cap) (os := [w.heap.size]) (ls := [k]) (q := q) (m := m) (c := c) (zs := zs) (by (repeat (first | with_reducible assumption | with_reducible refine Ly.alloc ?_ _ | with_reducible refine Ly.drew ?_ | with_reducible refine Ly.drewN ?_ _))))).mono ?_; rintro e w' ⟨x, rfl, hS, hO1⟩; (replace hI := Ints.only' hO1 hI hgb); replace hY : Ly b p n cap w w' [w.heap.size] [k] q m c zs := Ly.next (by (repeat (first | with_reducible assumption | with_reducible refine Ly.alloc ?_ _ | with_reducible refine Ly.drew ?_ | with_reducible refine Ly.drewN ?_ _))) hS hO1; clear hS hO1; (try clear ck lk); (try clear oc of); have ck := hY.cell (k := k) (by simp); have lk := hY.lt (k := k) (by simp); obtain ⟨⟨ov, oc⟩, of⟩ := (hY.one w.heap.size (by simp)).1.cell)
  obtain ⟨wB, rfl⟩ : ∃ wB : World, wB = w' := ⟨_, rfl⟩
  rcases Nat.eq_zero_or_pos kk with hz | hkp
  · subst hz
    go_upto_region 7 with fail
    go_region_held3 (fun W => W.cell? ⟨k, 0, none⟩ = some (.slice q m c)) (first | (go_simp; done) | go_keep) (first | (go_at_call 77; refine (s_l05DrawDistance b q m c zs hm p n cap _ (Ly.seg (w := w) (b := b) (p := p) (n := n) (cap := cap) (os := [w.heap.size]) (ls := [k]) (q := q) (m := m) (c := c) (zs := zs) (by (repeat (first | with_reducible assumption | with_reducible refine Ly.alloc ?_ _ | with_reducible refine Ly.drew ?_ | with_reducible refine Ly.drewN ?_ _)))) (Ly.src (w := w) (b := b) (p := p) (n := n) (cap := cap) (os := [w.heap.size]) (ls := [k]) (q := q) (m := m) (c := c) (zs := zs) (by (repeat (first | with_reducible assumption | with_reducible refine Ly.alloc ?_ _ | with_reducible refine Ly.drew ?_ | with_reducible refine Ly.drewN ?_ _))))).mono ?_; rintro e w' ⟨x, rfl, hS, hO1⟩; (try replace hI := Ints.only' hO1 hI hgb); replace hY : Ly b p n cap w w' [w.heap.size] [k] q m c zs := Ly.next (by (repeat (first | with_reducible assumption | with_reducible refine Ly.alloc ?_ _ | with_reducible refine Ly.drew ?_ | with_reducible refine Ly.drewN ?_ _))) hS hO1; clear hS hO1; (try clear ck lk); (try clear oc of); have ck := hY.cell (k := k) (by simp); have lk := hY.lt (k := k) (by simp); obtain ⟨⟨ov, oc⟩, of⟩ := (hY.one w.heap.size (by simp)).1.cell))
    all_goals
      have HF := Lib.hid (hY.fin (by omega) (k := w.heap.size) (by simp) (.slice q m c))
      have HI := Lib.hid (hI.set (q := ⟨w.heap.size, 0, none⟩) (by simp only; omega) (.slice q m c))
      clear hI
      go_wp2
      refine bodyPost_ret (v := .tuple #[.agg #[.slice q m c], .slice (some ⟨g, 0, none⟩) 0 cc, .int .i64 _, .int .i64 _]) (by simp [results, Try.results51, go_sem, *]; exact ⟨rfl, rfl⟩) rfl ⟨q, m, c, zs, g, 0, cc, ys, _, _, rfl, hm, hmc, hk1, hk2, HF.out.1, HI.out, HF.out.2⟩
  · have hkp' : (0 : Int) < kk := by omega
    have hkk : (1 : Int) ≤ kk := by omega
    go_upto_region 7 with first | ((go_at_call_of 68 (Value.int IntKind.i64 4)); (go_at_call 68; refine (s_l01Next b _ p n cap _ (Ly.src (w := w) (b := b) (p := p) (n := n) (cap := cap) (os := [w.heap.size]) (ls := [k]) (q := q) (m := m) (c := c) (zs := zs) (by (repeat (first | with_reducible assumption | with_reducible refine Ly.alloc ?_ _ | with_reducible refine Ly.drew ?_ | with_reducible refine Ly.drewN ?_ _))))).mono ?_; rintro e w' ⟨x, rfl, h0, h1, h2, hS, hO1⟩; (try simp only [Int.reduceLT, Int.reduceLE, forall_const, false_implies] at h1 h2); replace hI := Ints.only' hO1 hI hgb; clear h0 h1 h2; replace hY : Ly b p n cap w w' [w.heap.size] [k] q m c zs := Ly.next (by (repeat (first | with_reducible assumption | with_reducible refine Ly.alloc ?_ _ | with_reducible refine Ly.drew ?_ | with_reducible refine Ly.drewN ?_ _))) hS hO1; clear hS hO1; (try clear ck lk); (try clear oc of); have ck := hY.cell (k := k) (by simp); have lk := hY.lt (k := k) (by simp); obtain ⟨⟨ov, oc⟩, of⟩ := (hY.one w.heap.size (by simp)).1.cell)) | (go_at_call 68; refine (s_l01Next b _ p n cap _ (Ly.src (w := w) (b := b) (p := p) (n := n) (cap := cap) (os := [w.heap.size]) (ls := [k]) (q := q) (m := m) (c := c) (zs := zs) (by (repeat (first | with_reducible assumption | with_reducible refine Ly.alloc ?_ _ | with_reducible refine Ly.drew ?_ | with_reducible refine Ly.drewN ?_ _))))).mono ?_; rintro e w' ⟨x, rfl, h0, h1, h2, hS, hO1⟩; (try simp only [Int.reduceLT, Int.reduceLE, forall_const, false_implies] at h1 h2); replace hI := Ints.only' hO1 hI hgb; obtain ⟨ix, rfl⟩ := Int.eq_ofNat_of_zero_le h0; have hix : ix < kk := (by omega); obtain ⟨gb, off, eg, hc⟩ := hI.2.2 hkp; simp only [Option.some.injEq, Addr.mk.injEq, and_true] at eg; obtain ⟨rfl, rfl⟩ := eg; have cx := hc ix hix; rw [Nat.zero_add] at cx; clear hc h0 h1 h2; replace hY : Ly b p n cap w w' [w.heap.size] [k] q m c zs := Ly.next (by (repeat (first | with_reducible assumption | with_reducible refine Ly.alloc ?_ _ | with_reducible refine Ly.drew ?_ | with_reducible refine Ly.drewN ?_ _))) hS hO1; clear hS hO1; (try clear ck lk); (try clear oc of); have ck := hY.cell (k := k) (by simp); have lk := hY.lt (k := k) (by simp); obtain ⟨⟨ov, oc⟩, of⟩ := (hY.one w.heap.size (by simp)).1.cell)
    all_goals
      go_region_held3 (fun W => W.cell? ⟨k, 0, none⟩ = some (.slice q m c)) (first | (go_simp; done) | go_keep) (first | (go_at_call 77; refine (s_l05DrawDistance b q m c zs hm p n cap _ (Ly.seg (w := w) (b := b) (p := p) (n := n) (cap := cap) (os := [w.heap.size]) (ls := [k]) (q := q) (m := m) (c := c) (zs := zs) (by (repeat (first | with_reducible assumption | with_reducible refine Ly.alloc ?_ _ | with_reducible refine Ly.drew ?_ | with_reducible refine Ly.drewN ?_ _)))) (Ly.src (w := w) (b := b) (p := p) (n := n) (cap := cap) (os := [w.heap.size]) (ls := [k]) (q := q) (m := m) (c := c) (zs := zs) (by (repeat (first | with_reducible assumption | with_reducible refine Ly.alloc ?_ _ | with_reducible refine Ly.drew ?_ | with_reducible refine Ly.drewN ?_ _))))).mono ?_; rintro e w' ⟨x, rfl, hS, hO1⟩; (try replace hI := Ints.only' hO1 hI hgb); replace hY : Ly b p n cap w w' [w.heap.size] [k] q m c zs := Ly.next (by (repeat (first | with_reducible assumption | with_reducible refine Ly.alloc ?_ _ | with_reducible refine Ly.drew ?_ | with_reducible refine Ly.drewN ?_ _))) hS hO1; clear hS hO1; (try clear ck lk); (try clear oc of); have ck := hY.cell (k := k) (by simp); have lk := hY.lt (k := k) (by simp); obtain ⟨⟨ov, oc⟩, of⟩ := (hY.one w.heap.size (by simp)).1.cell))
      all_goals
        have HF := Lib.hid (hY.fin (by omega) (k := w.heap.size) (by simp) (.slice q m c))
        have HI := Lib.hid (hI.set (q := ⟨w.heap.size, 0, none⟩) (by simp only; omega) (.slice q m c))
        clear hI
        go_wp2
        refine bodyPost_ret (v := .tuple #[.agg #[.slice q m c], .slice (some ⟨g, 0, none⟩) kk cc, .int .i64 _, .int .i64 _]) (by simp [results, Try.results51, go_sem, *]; exact ⟨rfl, rfl⟩) rfl ⟨q, m, c, zs, g, kk, cc, ys, _, _, rfl, hm, hmc, hk1, hk2, HF.out.1, HI.out, HF.out.2⟩

end Go.Proofs.Ytgkfnggnhphboaa
