/- Contracts and lemmas for the proofs of this seat: LDraw9. -/
import Derived.Test.YtgkfnggnhphboaaLDraw5
import Derived.Test.YtgkfnggnhphboaaLDraw3
import Derived.Test.YtgkfnggnhphboaaLDraw2
import Derived.Test.YtgkfnggnhphboaaLDraw
import Derived.Test.YtgkfnggnhphboaaDRow
import Derived.Test.YtgkfnggnhphboaaDraw4
import Derived.Test.YtgkfnggnhphboaaDraw3
import Derived.Test.YtgkfnggnhphboaaDraw2
import Derived.Test.YtgkfnggnhphboaaDraw
import Derived.Test.YtgkfnggnhphboaaBase
import Derived.Test.YtgkfnggnhphboaaNum
import Derived.Test.YtgkfnggnhphboaaIv
import Derived.Test.YtgkfnggnhphboaaIv2
import Derived.Test.YtgkfnggnhphboaaRoot
import Derived.Test.YtgkfnggnhphboaaEn
import Derived.Test.YtgkfnggnhphboaaEn2
import Derived.Test.YtgkfnggnhphboaaSeg
import Derived.Test.YtgkfnggnhphboaaList
import Derived.Test.YtgkfnggnhphboaaLay
import Derived.Test.YtgkfnggnhphboaaLay2
import Derived.Test.YtgkfnggnhphboaaLay3
import Derived.Test.YtgkfnggnhphboaaLay9
import Derived.Test.YtgkfnggnhphboaaLay10
import Derived.Test.YtgkfnggnhphboaaLay11
import Derived.Lib.Hide
import Derived.BigQuiet
import Derived.Deep.QuietTactic
import Derived.Deep.OwnRows
import Derived.Deep.LoopGhost
import Derived.OneCell
import Derived.Lib.SmallJoins
import Derived.StillTailTactics
import Derived.RangeFuncBox
import Derived.Deep.RegionHeld3
import Derived.Deep.DeepCutAuto
namespace Go.Proofs.Ytgkfnggnhphboaa
open Go.RowKit Go.Deep
set_option maxHeartbeats 2000000
set_option linter.unusedVariables false
set_option linter.unusedSimpArgs false

theorem ly_new2 {b : Nat} {p : Option Addr} {n cap : Nat} {w W0 W : World} {q : Option Addr} {m c : Nat} {zs : List Seg} (hD : Dw b p n cap w W []) (hone : One W w.heap.size 26) (hS : Segs W q m zs)
    (hq : 0 < m → ∀ g o, q = some ⟨g, o, none⟩ → W0.heap.size ≤ g) (hbl : b < W0.heap.size) (hsz : W0.heap.size ≤ W.heap.size) (hne : w.heap.size ≠ b) (hw0 : w.heap.size < W0.heap.size) :
    Ly b p n cap w (W.alloc (.cells #[.slice q m c] 26)) [w.heap.size] [W.heap.size] q m c zs := by
  refine ⟨hD.alloc _, hS.keep ((Below.refl _ _).alloc (Nat.le_refl _) _), fun hm g o e => ?_, fun k hk => ?_, fun k hk => ?_⟩
  · obtain ⟨g', off, e', hl, _⟩ := hS.2.2 hm
    rw [e] at e'
    simp only [Option.some.injEq, Addr.mk.injEq, and_true] at e'
    obtain ⟨rfl, rfl⟩ := e'
    have := hq hm g o e
    refine ⟨by omega, by omega, by simp; omega, by simp; omega⟩
  · simp only [List.mem_singleton] at hk
    subst hk
    exact ⟨hone.alloc _, Nat.le_refl _, hne⟩
  · simp only [List.mem_singleton] at hk
    subst hk
    exact ⟨World.alloc_heap_new W _, hD.size, by omega⟩
theorem Ly.set {b : Nat} {p : Option Addr} {n cap : Nat} {w W : World} {os ls : List Nat} {q : Option Addr} {m c : Nat} {zs : List Seg} (h : Ly b p n cap w W os ls q m c zs) {j : Nat} (i : Nat) (x : Int) (h1 : w.heap.size ≤ j) (h2 : j ≠ b) (h3 : ∀ k ∈ os, k ≠ j) (h4 : ∀ k ∈ ls, k ≠ j) (h5 : 0 < m → ∀ g o, q = some ⟨g, o, none⟩ → g ≠ j) :
    Ly b p n cap w (W.setCell ⟨j, i, none⟩ (.int .i64 x)) os ls q m c zs := by
  refine ⟨h.dw.set (q := ⟨j, i, none⟩) h1 h2 x, ⟨h.seg.1, h.seg.2.1, fun hp => ?_⟩, h.far, fun k hk => ⟨(h.one k hk).1.set (q := ⟨j, i, none⟩) (Ne.symm (h3 k hk)) _, (h.one k hk).2⟩, fun k hk => ⟨(Below.heap_setCell W _ _ k (h4 k hk)).trans (h.lay k hk).1, (h.lay k hk).2⟩⟩
  obtain ⟨g, off, e, hl, hc⟩ := h.seg.2.2 hp
  exact ⟨g, off, e, by simpa using hl, fun i hi => (hc i hi).keep (Below.heap_setCell W _ _ g (h5 hp g off e))⟩
/-- a layout and an interval are drawn: the layout's box k, the interval's j, the results' w and w + 1 -/
structure Lz (b : Nat) (p : Option Addr) (n cap : Nat) (w W : World) (q : Option Addr) (m c : Nat) (zs : List Seg) (k j : Nat) : Prop where
  ly : Ly b p n cap w W [w.heap.size] [k] q m c zs
  b5 : Box W (w.heap.size + 1) 2
  bj : Box W j 2
  nj : w.heap.size + 1 < j ∧ j ≠ b ∧ j ≠ k ∧ w.heap.size + 1 < k ∧ b ≠ w.heap.size + 1
  fj : 0 < m → ∀ g o, q = some ⟨g, o, none⟩ → g ≠ j ∧ g ≠ w.heap.size + 1
section
variable {b : Nat} {p : Option Addr} {n cap : Nat} {w W W' : World} {q : Option Addr} {m c : Nat} {zs : List Seg} {k j : Nat}
theorem Lz.next (h : Lz b p n cap w W q m c zs k j) (hS : Src b p n cap W') (hO : Only b W W') : Lz b p n cap w W' q m c zs k j :=
  ⟨h.ly.next hS hO, h.b5.only hO (Ne.symm h.nj.2.2.2.2), h.bj.only hO h.nj.2.1, h.nj, h.fj⟩
theorem Lz.below (h : Lz b p n cap w W q m c zs k j) (hB : Below W.heap.size W W') : Lz b p n cap w W' q m c zs k j := h.next (h.ly.dw.src.keep hB) (Only.of_below hB)
theorem Lz.alloc (h : Lz b p n cap w W q m c zs k j) (o : Obj) : Lz b p n cap w (W.alloc o) q m c zs k j := h.below ((Below.refl _ _).alloc (Nat.le_refl _) o)
theorem Lz.drew (h : Lz b p n cap w W q m c zs k j) : Lz b p n cap w W.drew q m c zs k j := ⟨h.ly.drew, h.b5.drew, h.bj.drew, h.nj, h.fj⟩
theorem Lz.drewN (h : Lz b p n cap w W q m c zs k j) (i : Nat) : Lz b p n cap w (W.drewN i) q m c zs k j := ⟨h.ly.drewN i, h.b5.drewN i, h.bj.drewN i, h.nj, h.fj⟩
theorem Lz.set (h : Lz b p n cap w W q m c zs k j) (i : Nat) (x : Int) : Lz b p n cap w (W.setCell ⟨j, i, none⟩ (.int .i64 x)) q m c zs k j :=
  ⟨h.ly.set i x (by have := h.nj; omega) h.nj.2.1 (by simp; have := h.nj; omega) (by simp; have := h.nj; omega) (fun hp g o e => (h.fj hp g o e).1), h.b5.set _ _, h.bj.set _ _, h.nj, h.fj⟩
theorem Lz.src (h : Lz b p n cap w W q m c zs k j) : Src b p n cap W := h.ly.dw.src
theorem Lz.seg (h : Lz b p n cap w W q m c zs k j) : Segs W q m zs := h.ly.seg
end
/-- the end: the results' boxes are written -/
structure Fz (w W : World) (q : Option Addr) (m : Nat) (zs : List Seg) : Prop where
  seg : Segs W q m zs
  bel : Below w.heap.size w W
  far : 0 < m → ∀ g o, q = some ⟨g, o, none⟩ → g ≠ w.heap.size ∧ g ≠ w.heap.size + 1
theorem Lz.fz {b : Nat} {p : Option Addr} {n cap : Nat} {w W : World} {q : Option Addr} {m c : Nat} {zs : List Seg} {k j : Nat} (h : Lz b p n cap w W q m c zs k j) (hb : w.heap.size ≤ b) : Fz w W q m zs :=
  ⟨h.seg, h.ly.dw.end hb, fun hp g o e => ⟨by have := (h.ly.far hp g o e).2.2.1; simpa using this, (h.fj hp g o e).2⟩⟩
theorem Fz.set {w W : World} {q : Option Addr} {m : Nat} {zs : List Seg} (h : Fz w W q m zs) {k : Nat} (hk : k = w.heap.size ∨ k = w.heap.size + 1) (i : Nat) (v : Value) : Fz w (W.setCell ⟨k, i, none⟩ v) q m zs := by
  refine ⟨⟨h.seg.1, h.seg.2.1, fun hp => ?_⟩, bset h.bel (by simp only; omega) v, h.far⟩
  obtain ⟨g, off, e, hl, hc⟩ := h.seg.2.2 hp
  have hf := h.far hp g off e
  exact ⟨g, off, e, by simpa using hl, fun i hi => (hc i hi).keep (Below.heap_setCell W _ _ g (by simp only; omega))⟩
theorem Fz.drew {w W : World} {q : Option Addr} {m : Nat} {zs : List Seg} (h : Fz w W q m zs) : Fz w W.drew q m zs := ⟨h.seg, h.bel.drew, h.far⟩
theorem Fz.drewN {w W : World} {q : Option Addr} {m : Nat} {zs : List Seg} (h : Fz w W q m zs) (i : Nat) : Fz w (W.drewN i) q m zs := ⟨h.seg, bdrewN h.bel i, h.far⟩
def DrawnL2I (w : World) (e : Ending) (w' : World) : Prop :=
  ∃ (q : Option Addr) (m c : Nat) (zs : List Seg) (x y u v : Int), e = .returned (.tuple #[.agg #[.slice q m c], .int .i64 x, .int .i64 y, ivV u v]) ∧ m ≤ 1000 ∧ m ≤ c ∧ Segs w' q m zs ∧ Below w.heap.size w w'

set_option maxRecDepth 100000 in
theorem s_DrawEnergyAlong (p : Option Addr) (n cap : Nat) (w : World) (hin : Bytes w p n) :
    Calls Try.prog 32 #[.slice p n cap] w (DrawnL2I w) := by
  go_enter Try.func32, Try.ntmps32
  go_upto_region 2 with (go_at_call 57; refine (s_l01From p n cap _ (Bytes.keep hin (Pw.own (w := w) (ks := [(w.heap.size + 1, 2)]) (by (repeat (first | with_reducible assumption | with_reducible exact Pw.start _ | focus ((with_reducible refine Pw.new' ?_ ?_ ?_ ?_); rotate_left; (focus exact trivial); (focus rfl); (focus first | rfl | (simp; done))) | with_reducible refine Pw.alloc ?_ _)))).below)).mono ?_; rintro e w' ⟨rfl, hS, hB⟩; have hD := Pw.from (w := w) (ks := [(w.heap.size + 1, 2)]) (by (repeat (first | with_reducible assumption | with_reducible exact Pw.start _ | focus ((with_reducible refine Pw.new' ?_ ?_ ?_ ?_); rotate_left; (focus exact trivial); (focus rfl); (focus first | rfl | (simp; done))) | with_reducible refine Pw.alloc ?_ _))) hin hS hB; have hFB := Lib.hid hB; clear hS hB; obtain ⟨b, hbq⟩ : ∃ b, b = w.heap.size + 2 := ⟨_, rfl⟩; simp only [World.size_alloc] at hD ⊢; (try rw [show w.heap.size + 1 + 1 = w.heap.size + 2 from rfl] at hD ⊢); rw [← hbq] at hD ⊢; have hb1 : b ≤ w.heap.size + 2 := Nat.le_of_eq hbq; have hb2 : w.heap.size + 2 ≤ b := Nat.le_of_eq hbq.symm; clear hbq)
  have hone : One w' w.heap.size 26 := One.block (W := (w.alloc (Obj.cells #[.slice none 0 0] 26)).alloc (Obj.cells #[.int .i64 0, .int .i64 0] 35)) (One.alloc ⟨_, World.alloc_heap_new w _⟩ _) (hFB.out.block _ (by simp; omega))
  clear hFB
  have hbl := hD.ltb
  have hsw := hD.size
  obtain ⟨wA, rfl⟩ : ∃ wA : World, wA = w' := ⟨_, rfl⟩
  go_cut [7, 8, 9] (fun s7 s8 s9 wx => ∃ (k : Nat) (q : Option Addr) (m c : Nat) (zs : List Seg) (x y : Int), s7 = .pointer (some ⟨k, 0, none⟩) ∧ s8 = .int .i64 x ∧ s9 = .int .i64 y ∧ m ≤ 1000 ∧ m ≤ c ∧ w.heap.size + 1 < k ∧ Ly b p n cap w wx [w.heap.size] [k] q m c zs ∧ Box wx (w.heap.size + 1) 2 ∧ (0 < m → ∀ g o, q = some ⟨g, o, none⟩ → g ≠ w.heap.size + 1))
  case first =>
    go_wp2_with (go_at_call 56; refine (s_l06DrawRun b p n cap _ hD.src).mono ?_; rintro e w2 ⟨q, m, c, zs, x, y, rfl, hm, hmc, hS, hq, hSr, hO⟩; have hsz := hO.size; replace hD := hD.next hSr hO; replace hone := hone.only hO (by omega); clear hO)
    go_meet
    have h5 := hD.b1 (k := w.heap.size + 1) (m := 2) (by simp)
    exact ⟨_, q, m, c, zs, x, y, rfl, rfl, rfl, hm, hmc, h5.lt, ly_new2 ⟨hD.base, hD.src, hD.only, by simp⟩ hone hS hq hbl hsz (by omega) (by have := hb1; omega), h5.alloc _, fun hp g o e => by have := hq hp g o e; omega⟩
  case rest =>
  clear hD hone
  obtain ⟨k, q, m, c, zs, x, y, rfl, rfl, rfl, hm, hmc, hk, hY, h5, hf5⟩ := hcut
  go_upto_region 3 with fail
  go_cut [10] (fun s10 wx => ∃ j : Nat, s10 = .pointer (some ⟨j, 0, none⟩) ∧ Lz b p n cap w wx q m c zs k j)
  case first =>
    go_wp2_with (go_at_call 89; refine (s_l06Draw b p n cap _ hY.src).mono ?_; rintro e w' ⟨u, v, rfl, hS, hO⟩; replace h5 := h5.only hO (by omega); replace hY := hY.next hS hO; clear hS hO)
    go_meet
    have lb := hY.dw.ltb
    have lk := hY.lt (k := k) (by simp)
    have l5 := h5.lt
    exact ⟨w'.heap.size, rfl, hY.alloc _, h5.alloc _, Box.new w' [.int .i64 u, .int .i64 v] _ trivial, ⟨l5, by omega, by omega, hk, by omega⟩, fun hp g o e => ⟨by
      obtain ⟨g', off, e', hl, _⟩ := hY.seg.2.2 hp
      rw [e] at e'
      simp only [Option.some.injEq, Addr.mk.injEq, and_true] at e'
      omega, hf5 hp g o e⟩⟩
  case rest =>
  clear hY h5 hf5
  obtain ⟨j, rfl, hZ⟩ := hcut
  have ck := hZ.ly.cell (k := k) (by simp)
  have lk := hZ.ly.lt (k := k) (by simp)
  have hz := hZ.seg.1
  have sil := fun W h => s_IsLayout q m c zs W h
  have sir := fun W => s_l06Range q m c zs x y W hz (by omega)
  rcases Bool.eq_false_or_eq_true (layOk zs) with hl | hl
  · rcases Bool.eq_false_or_eq_true (rangeB zs x y) with hr | hr
    · rw [hl] at sil
      rw [hr] at sir
      have HL := Lib.hid (layOk_iff.1 hl)
      have HSI := Lib.hid sil
      have HSR := Lib.hid sir
      obtain ⟨f, mm, rfl, rfl, hf, hmm⟩ := rangeB_nat hr
      have hfm : f < m := by omega
      have nb := needL_bd HL.out f mm
      clear hl hr sil sir hz
      go_upto_region 5 with first | (go_at_call 62; refine (HSI.out _ (Lz.seg (b := b) (p := p) (n := n) (cap := cap) (w := w) (q := q) (m := m) (c := c) (zs := zs) (k := k) (j := j) (by (repeat (first | with_reducible assumption | with_reducible refine Lz.alloc ?_ _ | with_reducible refine Lz.drew ?_ | with_reducible refine Lz.drewN ?_ _))))).mono ?_; rintro e w' ⟨rfl, hbel⟩; replace hZ : Lz b p n cap w w' q m c zs k j := Lz.below (by (repeat (first | with_reducible assumption | with_reducible refine Lz.alloc ?_ _ | with_reducible refine Lz.drew ?_ | with_reducible refine Lz.drewN ?_ _))) hbel; clear hbel; (try clear ck lk); have ck := hZ.ly.cell (k := k) (by simp); have lk := hZ.ly.lt (k := k) (by simp)) | (go_at_call 63; refine (HSR.out _).mono ?_; rintro e w' ⟨rfl, hbel⟩; replace hZ : Lz b p n cap w w' q m c zs k j := Lz.below (by (repeat (first | with_reducible assumption | with_reducible refine Lz.alloc ?_ _ | with_reducible refine Lz.drew ?_ | with_reducible refine Lz.drewN ?_ _))) hbel; clear hbel; (try clear ck lk); have ck := hZ.ly.cell (k := k) (by simp); have lk := hZ.ly.lt (k := k) (by simp)) | (go_at_call 68; refine (s_l01Next b _ p n cap _ (Lz.src (w := w) (q := q) (m := m) (c := c) (zs := zs) (k := k) (j := j) (by (repeat (first | with_reducible assumption | with_reducible refine Lz.alloc ?_ _ | with_reducible refine Lz.drew ?_ | with_reducible refine Lz.drewN ?_ _))))).mono ?_; rintro e w' ⟨r, rfl, h0, h1, h2, hS, hO1⟩; (try simp only [Int.reduceLT, Int.reduceLE, forall_const, false_implies] at h1 h2); replace hZ : Lz b p n cap w w' q m c zs k j := Lz.next (by (repeat (first | with_reducible assumption | with_reducible refine Lz.alloc ?_ _ | with_reducible refine Lz.drew ?_ | with_reducible refine Lz.drewN ?_ _))) hS hO1; clear hS hO1; (try clear ck lk); have ck := hZ.ly.cell (k := k) (by simp); have lk := hZ.ly.lt (k := k) (by simp))
      · go_cut [11] (fun s11 wx => ∃ t : Int, s11 = .int .i64 t ∧ Lz b p n cap w wx q m c zs k j)
        case first =>
          go_wp2_with (go_at_call 64; refine (s_l06Needed q m c zs f mm hfm hmm _ (Lz.seg (b := b) (p := p) (n := n) (cap := cap) (w := w) (q := q) (m := m) (c := c) (zs := zs) (k := k) (j := j) (by (repeat (first | with_reducible assumption | with_reducible refine Lz.alloc ?_ _ | with_reducible refine Lz.drew ?_ | with_reducible refine Lz.drewN ?_ _)))) HL.out).mono ?_; rintro e w' ⟨rfl, hbel⟩; replace hZ : Lz b p n cap w w' q m c zs k j := Lz.below (by (repeat (first | with_reducible assumption | with_reducible refine Lz.alloc ?_ _ | with_reducible refine Lz.drew ?_ | with_reducible refine Lz.drewN ?_ _))) hbel; clear hbel; (try clear ck lk); have ck := hZ.ly.cell (k := k) (by simp); have lk := hZ.ly.lt (k := k) (by simp))
          all_goals go_meet
          all_goals exact ⟨_, rfl, hZ⟩
        case rest =>
        clear hZ
        obtain ⟨t, rfl, hZ⟩ := hcut
        clear ck lk
        have ck := hZ.ly.cell (k := k) (by simp)
        have lk := hZ.ly.lt (k := k) (by simp)
        obtain ⟨e0, c0⟩ := hZ.bj.cell 0 (by decide)
        obtain ⟨e1, c1⟩ := hZ.bj.cell 1 (by decide)
        have f0 := hZ.bj.free 0 (by decide)
        have f1 := hZ.bj.free 1 (by decide)
        go_upto_region 6 with fail
        go_cut [] (fun wx => Lz b p n cap w wx q m c zs k j)
        case first =>
          go_wp2_with (go_at_call 68; refine (s_l01Next b _ p n cap _ (Lz.src (w := w) (q := q) (m := m) (c := c) (zs := zs) (k := k) (j := j) (by (repeat (first | with_reducible assumption | with_reducible refine Lz.alloc ?_ _ | with_reducible refine Lz.drew ?_ | with_reducible refine Lz.drewN ?_ _))))).mono ?_; rintro e w' ⟨r, rfl, h0, h1, h2, hS, hO1⟩; (try simp only [Int.reduceLT, Int.reduceLE, forall_const, false_implies] at h1 h2); replace hZ : Lz b p n cap w w' q m c zs k j := Lz.next (by (repeat (first | with_reducible assumption | with_reducible refine Lz.alloc ?_ _ | with_reducible refine Lz.drew ?_ | with_reducible refine Lz.drewN ?_ _))) hS hO1; clear hS hO1; (try clear ck lk); have ck := hZ.ly.cell (k := k) (by simp); have lk := hZ.ly.lt (k := k) (by simp); (try clear c0 c1 f0 f1); obtain ⟨e0, c0⟩ := hZ.bj.cell 0 (by decide); obtain ⟨e1, c1⟩ := hZ.bj.cell 1 (by decide); have f0 := hZ.bj.free 0 (by decide); have f1 := hZ.bj.free 1 (by decide))
          all_goals go_meet
          all_goals exact (hZ.set 0 _).set 1 _
        case rest =>
        clear hZ ck lk c0 c1 f0 f1
        have hZ := hcut
        have ck := hZ.ly.cell (k := k) (by simp)
        have lk := hZ.ly.lt (k := k) (by simp)
        go_upto_region 7 with fail
        have c0 := hZ.bj.cell 0 (by decide)
        obtain ⟨e0, c0⟩ := c0
        obtain ⟨e1, c1⟩ := hZ.bj.cell 1 (by decide)
        obtain ⟨r0, d0⟩ := hZ.b5.cell 0 (by decide)
        obtain ⟨r1, d1⟩ := hZ.b5.cell 1 (by decide)
        have f0 := hZ.b5.free 0 (by decide)
        have f1 := hZ.b5.free 1 (by decide)
        obtain ⟨⟨ov, oc⟩, of⟩ := (hZ.ly.one w.heap.size (by simp)).1.cell
        have HF := Lib.hid (hZ.fz (by omega))
        have hnj := hZ.nj
        have n1 : ¬ w.heap.size = k := by omega
        have n2 : ¬ w.heap.size = j := by omega
        have n3 : ¬ w.heap.size + 1 = k := by omega
        have n4 : ¬ w.heap.size + 1 = j := by omega
        have n5 : ¬ k = w.heap.size := by omega
        have n6 : ¬ j = w.heap.size := by omega
        have n7 : ¬ k = w.heap.size + 1 := by omega
        have n8 : ¬ j = w.heap.size + 1 := by omega
        clear hZ
        go_region_held3 (fun W => W.cell? ⟨k, 0, none⟩ = some (.slice q m c) ∧ W.cell? ⟨j, 0, none⟩ = some (.int .i64 e0) ∧ W.cell? ⟨j, 1, none⟩ = some (.int .i64 e1)) (first | (go_simp; done) | go_keep) (fail)
        go_wp2
        refine bodyPost_ret (v := .tuple #[.agg #[.slice q m c], .int .i64 _, .int .i64 _, ivV e0 e1]) (by simp [results, Try.results32, go_sem, *]; exact ⟨rfl, rfl⟩) rfl ?_
        refine (fun (hE : Fz w _ q m zs) => ⟨q, m, c, zs, _, _, _, _, rfl, hm, hmc, hE.seg, hE.bel⟩) ?_
        repeat (first | exact HF.out | refine Fz.drew ?_ | refine Fz.drewN ?_ _ | refine Fz.set ?_ (by first | exact .inl rfl | exact .inr rfl) _ _)
      · (try go_upto_region 7 with fail)
        have c0 := hZ.bj.cell 0 (by decide)
        obtain ⟨e0, c0⟩ := c0
        obtain ⟨e1, c1⟩ := hZ.bj.cell 1 (by decide)
        obtain ⟨r0, d0⟩ := hZ.b5.cell 0 (by decide)
        obtain ⟨r1, d1⟩ := hZ.b5.cell 1 (by decide)
        have f0 := hZ.b5.free 0 (by decide)
        have f1 := hZ.b5.free 1 (by decide)
        obtain ⟨⟨ov, oc⟩, of⟩ := (hZ.ly.one w.heap.size (by simp)).1.cell
        have HF := Lib.hid (hZ.fz (by omega))
        have hnj := hZ.nj
        have n1 : ¬ w.heap.size = k := by omega
        have n2 : ¬ w.heap.size = j := by omega
        have n3 : ¬ w.heap.size + 1 = k := by omega
        have n4 : ¬ w.heap.size + 1 = j := by omega
        have n5 : ¬ k = w.heap.size := by omega
        have n6 : ¬ j = w.heap.size := by omega
        have n7 : ¬ k = w.heap.size + 1 := by omega
        have n8 : ¬ j = w.heap.size + 1 := by omega
        clear hZ
        go_region_held3 (fun W => W.cell? ⟨k, 0, none⟩ = some (.slice q m c) ∧ W.cell? ⟨j, 0, none⟩ = some (.int .i64 e0) ∧ W.cell? ⟨j, 1, none⟩ = some (.int .i64 e1)) (first | (go_simp; done) | go_keep) (fail)
        go_wp2
        refine bodyPost_ret (v := .tuple #[.agg #[.slice q m c], .int .i64 _, .int .i64 _, ivV e0 e1]) (by simp [results, Try.results32, go_sem, *]; exact ⟨rfl, rfl⟩) rfl ?_
        refine (fun (hE : Fz w _ q m zs) => ⟨q, m, c, zs, _, _, _, _, rfl, hm, hmc, hE.seg, hE.bel⟩) ?_
        repeat (first | exact HF.out | refine Fz.drew ?_ | refine Fz.drewN ?_ _ | refine Fz.set ?_ (by first | exact .inl rfl | exact .inr rfl) _ _)
    · rw [hl] at sil
      rw [hr] at sir
      have HSI := Lib.hid sil
      have HSR := Lib.hid sir
      clear hl hr sil sir hz
      go_upto_region 7 with first | (go_at_call 62; refine (HSI.out _ (Lz.seg (b := b) (p := p) (n := n) (cap := cap) (w := w) (q := q) (m := m) (c := c) (zs := zs) (k := k) (j := j) (by (repeat (first | with_reducible assumption | with_reducible refine Lz.alloc ?_ _ | with_reducible refine Lz.drew ?_ | with_reducible refine Lz.drewN ?_ _))))).mono ?_; rintro e w' ⟨rfl, hbel⟩; replace hZ : Lz b p n cap w w' q m c zs k j := Lz.below (by (repeat (first | with_reducible assumption | with_reducible refine Lz.alloc ?_ _ | with_reducible refine Lz.drew ?_ | with_reducible refine Lz.drewN ?_ _))) hbel; clear hbel; (try clear ck lk); have ck := hZ.ly.cell (k := k) (by simp); have lk := hZ.ly.lt (k := k) (by simp)) | (go_at_call 63; refine (HSR.out _).mono ?_; rintro e w' ⟨rfl, hbel⟩; replace hZ : Lz b p n cap w w' q m c zs k j := Lz.below (by (repeat (first | with_reducible assumption | with_reducible refine Lz.alloc ?_ _ | with_reducible refine Lz.drew ?_ | with_reducible refine Lz.drewN ?_ _))) hbel; clear hbel; (try clear ck lk); have ck := hZ.ly.cell (k := k) (by simp); have lk := hZ.ly.lt (k := k) (by simp))
      have c0 := hZ.bj.cell 0 (by decide)
      obtain ⟨e0, c0⟩ := c0
      obtain ⟨e1, c1⟩ := hZ.bj.cell 1 (by decide)
      obtain ⟨r0, d0⟩ := hZ.b5.cell 0 (by decide)
      obtain ⟨r1, d1⟩ := hZ.b5.cell 1 (by decide)
      have f0 := hZ.b5.free 0 (by decide)
      have f1 := hZ.b5.free 1 (by decide)
      obtain ⟨⟨ov, oc⟩, of⟩ := (hZ.ly.one w.heap.size (by simp)).1.cell
      have HF := Lib.hid (hZ.fz (by omega))
      have hnj := hZ.nj
      have n1 : ¬ w.heap.size = k := by omega
      have n2 : ¬ w.heap.size = j := by omega
      have n3 : ¬ w.heap.size + 1 = k := by omega
      have n4 : ¬ w.heap.size + 1 = j := by omega
      have n5 : ¬ k = w.heap.size := by omega
      have n6 : ¬ j = w.heap.size := by omega
      have n7 : ¬ k = w.heap.size + 1 := by omega
      have n8 : ¬ j = w.heap.size + 1 := by omega
      clear hZ
      go_region_held3 (fun W => W.cell? ⟨k, 0, none⟩ = some (.slice q m c) ∧ W.cell? ⟨j, 0, none⟩ = some (.int .i64 e0) ∧ W.cell? ⟨j, 1, none⟩ = some (.int .i64 e1)) (first | (go_simp; done) | go_keep) (fail)
      go_wp2
      refine bodyPost_ret (v := .tuple #[.agg #[.slice q m c], .int .i64 _, .int .i64 _, ivV e0 e1]) (by simp [results, Try.results32, go_sem, *]; exact ⟨rfl, rfl⟩) rfl ?_
      refine (fun (hE : Fz w _ q m zs) => ⟨q, m, c, zs, _, _, _, _, rfl, hm, hmc, hE.seg, hE.bel⟩) ?_
      repeat (first | exact HF.out | refine Fz.drew ?_ | refine Fz.drewN ?_ _ | refine Fz.set ?_ (by first | exact .inl rfl | exact .inr rfl) _ _)
  · rw [hl] at sil
    have HSI := Lib.hid sil
    clear hl sil sir hz
    go_upto_region 7 with (go_at_call 62; refine (HSI.out _ (Lz.seg (b := b) (p := p) (n := n) (cap := cap) (w := w) (q := q) (m := m) (c := c) (zs := zs) (k := k) (j := j) (by (repeat (first | with_reducible assumption | with_reducible refine Lz.alloc ?_ _ | with_reducible refine Lz.drew ?_ | with_reducible refine Lz.drewN ?_ _))))).mono ?_; rintro e w' ⟨rfl, hbel⟩; replace hZ : Lz b p n cap w w' q m c zs k j := Lz.below (by (repeat (first | with_reducible assumption | with_reducible refine Lz.alloc ?_ _ | with_reducible refine Lz.drew ?_ | with_reducible refine Lz.drewN ?_ _))) hbel; clear hbel; (try clear ck lk); have ck := hZ.ly.cell (k := k) (by simp); have lk := hZ.ly.lt (k := k) (by simp))
    have c0 := hZ.bj.cell 0 (by decide)
    obtain ⟨e0, c0⟩ := c0
    obtain ⟨e1, c1⟩ := hZ.bj.cell 1 (by decide)
    obtain ⟨r0, d0⟩ := hZ.b5.cell 0 (by decide)
    obtain ⟨r1, d1⟩ := hZ.b5.cell 1 (by decide)
    have f0 := hZ.b5.free 0 (by decide)
    have f1 := hZ.b5.free 1 (by decide)
    obtain ⟨⟨ov, oc⟩, of⟩ := (hZ.ly.one w.heap.size (by simp)).1.cell
    have HF := Lib.hid (hZ.fz (by omega))
    have hnj := hZ.nj
    have n1 : ¬ w.heap.size = k := by omega
    have n2 : ¬ w.heap.size = j := by omega
    have n3 : ¬ w.heap.size + 1 = k := by omega
    have n4 : ¬ w.heap.size + 1 = j := by omega
    have n5 : ¬ k = w.heap.size := by omega
    have n6 : ¬ j = w.heap.size := by omega
    have n7 : ¬ k = w.heap.size + 1 := by omega
    have n8 : ¬ j = w.heap.size + 1 := by omega
    clear hZ
    go_region_held3 (fun W => W.cell? ⟨k, 0, none⟩ = some (.slice q m c) ∧ W.cell? ⟨j, 0, none⟩ = some (.int .i64 e0) ∧ W.cell? ⟨j, 1, none⟩ = some (.int .i64 e1)) (first | (go_simp; done) | go_keep) (fail)
    go_wp2
    refine bodyPost_ret (v := .tuple #[.agg #[.slice q m c], .int .i64 _, .int .i64 _, ivV e0 e1]) (by simp [results, Try.results32, go_sem, *]; exact ⟨rfl, rfl⟩) rfl ?_
    refine (fun (hE : Fz w _ q m zs) => ⟨q, m, c, zs, _, _, _, _, rfl, hm, hmc, hE.seg, hE.bel⟩) ?_
    repeat (first | exact HF.out | refine Fz.drew ?_ | refine Fz.drewN ?_ _ | refine Fz.set ?_ (by first | exact .inl rfl | exact .inr rfl) _ _)

end Go.Proofs.Ytgkfnggnhphboaa
