/- Contracts and lemmas for the proofs of this seat: LDraw3. -/
import Derived.Test.YtgkfnggnhphboaaLDraw2
import Derived.Test.YtgkfnggnhphboaaLDraw
import Derived.Test.YtgkfnggnhphboaaDRow
import Derived.Test.YtgkfnggnhphboaaDraw3
import Derived.Test.YtgkfnggnhphboaaDraw2
import Derived.Test.YtgkfnggnhphboaaDraw
import Derived.Test.YtgkfnggnhphboaaBase
import Derived.Test.YtgkfnggnhphboaaNum
import Derived.Test.YtgkfnggnhphboaaIv
import Derived.Test.YtgkfnggnhphboaaIv2
import Derived.Test.YtgkfnggnhphboaaRoot
import Derived.Test.YtgkfnggnhphboaaEn
import Derived.Test.YtgkfnggnhphboaaSeg
import Derived.Test.YtgkfnggnhphboaaList
import Derived.Test.YtgkfnggnhphboaaLay
import Derived.Test.YtgkfnggnhphboaaLay2
import Derived.Test.YtgkfnggnhphboaaLay3
import Derived.Lib.Hide
import Derived.BigQuiet
import Derived.Deep.QuietTactic
import Derived.Deep.OwnRows
import Derived.Deep.LoopGhost
import Derived.OneCell
import Derived.Lib.SmallJoins
import Derived.StillTailTactics
import Derived.RangeFuncBox
import Derived.Deep.RegionHeld3
import Derived.Deep.DeepCutAuto
namespace Go.Proofs.Ytgkfnggnhphboaa
open Go.RowKit Go.Deep
set_option maxHeartbeats 2000000
set_option linter.unusedVariables false
set_option linter.unusedSimpArgs false

structure Ly (b : Nat) (p : Option Addr) (n cap : Nat) (w W : World) (os ls : List Nat) (q : Option Addr) (m c : Nat) (zs : List Seg) : Prop where
  dw : Dw b p n cap w W []
  seg : Segs W q m zs
  far : 0 < m → ∀ g o, q = some ⟨g, o, none⟩ → g ≠ b ∧ w.heap.size ≤ g ∧ g ∉ os ∧ g ∉ ls
  one : ∀ k ∈ os, One W k 26 ∧ w.heap.size ≤ k ∧ k ≠ b
  lay : ∀ k ∈ ls, W.heap[k]? = some (.cells #[.slice q m c] 26 (0, 0)) ∧ w.heap.size ≤ k ∧ k ≠ b
section
variable {b : Nat} {p : Option Addr} {n cap : Nat} {w W W' : World} {os ls : List Nat} {q : Option Addr} {m c : Nat} {zs : List Seg}
theorem Ly.next (h : Ly b p n cap w W os ls q m c zs) (hS : Src b p n cap W') (hO : Only b W W') : Ly b p n cap w W' os ls q m c zs :=
  ⟨h.dw.next hS hO, h.seg.only hO fun hm g o e => (h.far hm g o e).1, h.far, fun k hk => ⟨(h.one k hk).1.only hO (h.one k hk).2.2, (h.one k hk).2⟩,
    fun k hk => ⟨(hO.block k (Array.getElem?_eq_some_iff.1 (h.lay k hk).1).1 (h.lay k hk).2.2).trans (h.lay k hk).1, (h.lay k hk).2⟩⟩
theorem Ly.below (h : Ly b p n cap w W os ls q m c zs) (hB : Below W.heap.size W W') : Ly b p n cap w W' os ls q m c zs := h.next (h.dw.src.keep hB) (Only.of_below hB)
theorem Ly.alloc (h : Ly b p n cap w W os ls q m c zs) (o : Obj) : Ly b p n cap w (W.alloc o) os ls q m c zs := h.below ((Below.refl _ _).alloc (Nat.le_refl _) o)
theorem Ly.drew (h : Ly b p n cap w W os ls q m c zs) : Ly b p n cap w W.drew os ls q m c zs := ⟨h.dw.drew, h.seg, h.far, h.one, h.lay⟩
theorem Ly.drewN (h : Ly b p n cap w W os ls q m c zs) (k : Nat) : Ly b p n cap w (W.drewN k) os ls q m c zs := ⟨h.dw.drewN k, h.seg, h.far, h.one, h.lay⟩
theorem Ly.src (h : Ly b p n cap w W os ls q m c zs) : Src b p n cap W := h.dw.src
theorem Ly.lt (h : Ly b p n cap w W os ls q m c zs) {k : Nat} (hk : k ∈ ls) : k < W.heap.size := (Array.getElem?_eq_some_iff.1 (h.lay k hk).1).1
theorem Ly.cell (h : Ly b p n cap w W os ls q m c zs) {k : Nat} (hk : k ∈ ls) : W.cell? ⟨k, 0, none⟩ = some (.slice q m c) := by simp [World.cell?, (h.lay k hk).1]
theorem Ly.fin (h : Ly b p n cap w W os ls q m c zs) (hb : w.heap.size ≤ b) {k : Nat} (hk : k ∈ os) (v : Value) : Segs (W.setCell ⟨k, 0, none⟩ v) q m zs ∧ Below w.heap.size w (W.setCell ⟨k, 0, none⟩ v) := by
  refine ⟨⟨h.seg.1, h.seg.2.1, fun hp => ?_⟩, bset (h.dw.end hb) (h.one k hk).2.1 v⟩
  obtain ⟨g, off, e, hl, hc⟩ := h.seg.2.2 hp
  have hne : g ≠ k := fun e2 => (h.far hp g off e).2.2.1 (e2 ▸ hk)
  exact ⟨g, off, e, by simpa using hl, fun i hi => (hc i hi).keep (Below.heap_setCell W _ _ g hne)⟩
end
theorem ly_new {b : Nat} {p : Option Addr} {n cap : Nat} {w W0 W : World} {q : Option Addr} {m c : Nat} {zs : List Seg} (hD : Dw b p n cap w W []) (hone : One W w.heap.size 26) (hS : Segs W q m zs)
    (hq : ∀ g o, q = some ⟨g, o, none⟩ → W0.heap.size ≤ g) (hbl : b < W0.heap.size) (hsz : W0.heap.size ≤ W.heap.size) (hb2 : w.heap.size + 1 ≤ b) :
    Ly b p n cap w (W.alloc (.cells #[.slice q m c] 26)) [w.heap.size] [W.heap.size] q m c zs := by
  refine ⟨hD.alloc _, hS.keep ((Below.refl _ _).alloc (Nat.le_refl _) _), fun hm g o e => ?_, fun k hk => ?_, fun k hk => ?_⟩
  · obtain ⟨g', off, e', hl, _⟩ := hS.2.2 hm
    rw [e] at e'
    simp only [Option.some.injEq, Addr.mk.injEq, and_true] at e'
    obtain ⟨rfl, rfl⟩ := e'
    have := hq g o e
    refine ⟨by omega, by omega, by simp; omega, by simp; omega⟩
  · simp only [List.mem_singleton] at hk
    subst hk
    exact ⟨hone.alloc _, Nat.le_refl _, by omega⟩
  · simp only [List.mem_singleton] at hk
    subst hk
    exact ⟨World.alloc_heap_new W _, hD.size, by omega⟩

def DrawnL1 (w : World) (e : Ending) (w' : World) : Prop :=
  ∃ (q : Option Addr) (m c : Nat) (zs : List Seg) (x : Int), e = .returned (.tuple #[.agg #[.slice q m c], .int .i64 x]) ∧ m ≤ 1000 ∧ m ≤ c ∧ Segs w' q m zs ∧ (0 < m → ∀ g o, q = some ⟨g, o, none⟩ → w.heap.size ≤ g) ∧ Below w.heap.size w w'
def DrawnL2 (w : World) (e : Ending) (w' : World) : Prop :=
  ∃ (q : Option Addr) (m c : Nat) (zs : List Seg) (x y : Int), e = .returned (.tuple #[.agg #[.slice q m c], .int .i64 x, .int .i64 y]) ∧ m ≤ 1000 ∧ m ≤ c ∧ Segs w' q m zs ∧ Below w.heap.size w w'
def DrawnL3 (w : World) (e : Ending) (w' : World) : Prop :=
  ∃ (q : Option Addr) (m c : Nat) (zs : List Seg) (x y z : Int), e = .returned (.tuple #[.agg #[.slice q m c], .int .i64 x, .int .i64 y, .int .i64 z]) ∧ m ≤ 1000 ∧ m ≤ c ∧ Segs w' q m zs ∧ Below w.heap.size w w'

set_option maxRecDepth 100000 in
theorem s_DrawMoveFront (p : Option Addr) (n cap : Nat) (w : World) (hin : Bytes w p n) :
    Calls Try.prog 21 #[.slice p n cap] w (DrawnL2 w) := by
  go_enter Try.func21, Try.ntmps21
  go_upto_region 2 with (go_at_call 57; refine (s_l01From p n cap _ (Bytes.keep hin (Pw.own (w := w) (ks := []) (by (repeat (first | with_reducible assumption | with_reducible exact Pw.start _ | focus ((with_reducible refine Pw.new' ?_ ?_ ?_ ?_); rotate_left; (focus exact trivial); (focus rfl); (focus first | rfl | (simp; done))) | with_reducible refine Pw.alloc ?_ _)))).below)).mono ?_; rintro e w' ⟨rfl, hS, hB⟩; have hD := Pw.from (w := w) (ks := []) (by (repeat (first | with_reducible assumption | with_reducible exact Pw.start _ | focus ((with_reducible refine Pw.new' ?_ ?_ ?_ ?_); rotate_left; (focus exact trivial); (focus rfl); (focus first | rfl | (simp; done))) | with_reducible refine Pw.alloc ?_ _))) hin hS hB; have hFB := Lib.hid hB; clear hS hB; obtain ⟨b, hbq⟩ : ∃ b, b = w.heap.size + 1 := ⟨_, rfl⟩; simp only [World.size_alloc] at hD ⊢; (try rw [show w.heap.size + 1 + 1 = w.heap.size + 2 from rfl] at hD ⊢); rw [← hbq] at hD ⊢; have hb1 : b ≤ w.heap.size + 1 := Nat.le_of_eq hbq; have hb2 : w.heap.size + 1 ≤ b := Nat.le_of_eq hbq.symm; clear hbq)
  have hone : One w' w.heap.size 26 := One.block (W := w.alloc (Obj.cells #[.slice none 0 0] 26)) ⟨_, World.alloc_heap_new w _⟩ (hFB.out.block _ (by simp))
  clear hFB
  have hbl := hD.ltb
  go_cut [6] (fun s6 wx => ∃ (k : Nat) (q : Option Addr) (m c : Nat) (zs : List Seg), s6 = .pointer (some ⟨k, 0, none⟩) ∧ m ≤ 1000 ∧ m ≤ c ∧ w.heap.size < k ∧ Ly b p n cap w wx [w.heap.size] [k] q m c zs)
  case first =>
    go_wp2_with (go_at_call 67; refine (s_l03Draw b p n cap _ hD.src).mono ?_; rintro e w2 ⟨q, m, c, zs, rfl, ⟨hm, hmc⟩, hS, hq, hSr, hO⟩; have hsz := hO.size; replace hD := hD.next hSr hO; replace hone := hone.only hO (by omega); clear hO)
    go_meet
    exact ⟨_, q, m, c, zs, rfl, hm, hmc, hone.lt, ly_new hD hone hS hq hbl hsz hb2⟩
  case rest =>
  obtain ⟨k, q, m, c, zs, rfl, hm, hmc, hk, hY⟩ := hcut
  have ck := hY.cell (k := k) (by simp)
  have lk := hY.lt (k := k) (by simp)
  clear hD hone hbl
  go_upto_region 3 with fail
  go_region_held3 (fun W => W.cell? ⟨k, 0, none⟩ = some (.slice q m c)) (first | (go_simp; done) | go_keep) (first | (go_at_call 70; refine (s_l03DrawPosition b q m c zs hm p n cap _ (Ly.seg (w := w) (b := b) (p := p) (n := n) (cap := cap) (os := [w.heap.size]) (ls := [k]) (q := q) (m := m) (c := c) (zs := zs) (by (repeat (first | with_reducible assumption | with_reducible refine Ly.alloc ?_ _ | with_reducible refine Ly.drew ?_ | with_reducible refine Ly.drewN ?_ _)))) (Ly.src (w := w) (b := b) (p := p) (n := n) (cap := cap) (os := [w.heap.size]) (ls := [k]) (q := q) (m := m) (c := c) (zs := zs) (by (repeat (first | with_reducible assumption | with_reducible refine Ly.alloc ?_ _ | with_reducible refine Ly.drew ?_ | with_reducible refine Ly.drewN ?_ _))))).mono ?_; rintro e w' ⟨x, rfl, hS, hO1⟩; replace hY : Ly b p n cap w w' [w.heap.size] [k] q m c zs := Ly.next (by (repeat (first | with_reducible assumption | with_reducible refine Ly.alloc ?_ _ | with_reducible refine Ly.drew ?_ | with_reducible refine Ly.drewN ?_ _))) hS hO1; clear hS hO1; have ck := hY.cell (k := k) (by simp); have lk := hY.lt (k := k) (by simp); obtain ⟨⟨ov, oc⟩, of⟩ := (hY.one w.heap.size (by simp)).1.cell) | (go_at_call 77; refine (s_l05DrawDistance b q m c zs hm p n cap _ (Ly.seg (w := w) (b := b) (p := p) (n := n) (cap := cap) (os := [w.heap.size]) (ls := [k]) (q := q) (m := m) (c := c) (zs := zs) (by (repeat (first | with_reducible assumption | with_reducible refine Ly.alloc ?_ _ | with_reducible refine Ly.drew ?_ | with_reducible refine Ly.drewN ?_ _)))) (Ly.src (w := w) (b := b) (p := p) (n := n) (cap := cap) (os := [w.heap.size]) (ls := [k]) (q := q) (m := m) (c := c) (zs := zs) (by (repeat (first | with_reducible assumption | with_reducible refine Ly.alloc ?_ _ | with_reducible refine Ly.drew ?_ | with_reducible refine Ly.drewN ?_ _))))).mono ?_; rintro e w' ⟨x, rfl, hS, hO1⟩; replace hY : Ly b p n cap w w' [w.heap.size] [k] q m c zs := Ly.next (by (repeat (first | with_reducible assumption | with_reducible refine Ly.alloc ?_ _ | with_reducible refine Ly.drew ?_ | with_reducible refine Ly.drewN ?_ _))) hS hO1; clear hS hO1; have ck := hY.cell (k := k) (by simp); have lk := hY.lt (k := k) (by simp); obtain ⟨⟨ov, oc⟩, of⟩ := (hY.one w.heap.size (by simp)).1.cell))
  all_goals
    have HF := Lib.hid (hY.fin (by omega) (k := w.heap.size) (by simp) (.slice q m c))
    go_wp2
    refine bodyPost_ret (v := .tuple #[.agg #[.slice q m c], .int .i64 _, .int .i64 _]) (by simp [results, Try.results21, go_sem, *]; exact ⟨rfl, rfl⟩) rfl ⟨q, m, c, zs, _, _, rfl, hm, hmc, HF.out.1, HF.out.2⟩

set_option maxRecDepth 100000 in
theorem s_DrawRearOf (p : Option Addr) (n cap : Nat) (w : World) (hin : Bytes w p n) :
    Calls Try.prog 24 #[.slice p n cap] w (DrawnL2 w) := by
  go_enter Try.func24, Try.ntmps24
  go_upto_region 2 with (go_at_call 57; refine (s_l01From p n cap _ (Bytes.keep hin (Pw.own (w := w) (ks := []) (by (repeat (first | with_reducible assumption | with_reducible exact Pw.start _ | focus ((with_reducible refine Pw.new' ?_ ?_ ?_ ?_); rotate_left; (focus exact trivial); (focus rfl); (focus first | rfl | (simp; done))) | with_reducible refine Pw.alloc ?_ _)))).below)).mono ?_; rintro e w' ⟨rfl, hS, hB⟩; have hD := Pw.from (w := w) (ks := []) (by (repeat (first | with_reducible assumption | with_reducible exact Pw.start _ | focus ((with_reducible refine Pw.new' ?_ ?_ ?_ ?_); rotate_left; (focus exact trivial); (focus rfl); (focus first | rfl | (simp; done))) | with_reducible refine Pw.alloc ?_ _))) hin hS hB; have hFB := Lib.hid hB; clear hS hB; obtain ⟨b, hbq⟩ : ∃ b, b = w.heap.size + 1 := ⟨_, rfl⟩; simp only [World.size_alloc] at hD ⊢; (try rw [show w.heap.size + 1 + 1 = w.heap.size + 2 from rfl] at hD ⊢); rw [← hbq] at hD ⊢; have hb1 : b ≤ w.heap.size + 1 := Nat.le_of_eq hbq; have hb2 : w.heap.size + 1 ≤ b := Nat.le_of_eq hbq.symm; clear hbq)
  have hone : One w' w.heap.size 26 := One.block (W := w.alloc (Obj.cells #[.slice none 0 0] 26)) ⟨_, World.alloc_heap_new w _⟩ (hFB.out.block _ (by simp))
  clear hFB
  have hbl := hD.ltb
  go_cut [6] (fun s6 wx => ∃ (k : Nat) (q : Option Addr) (m c : Nat) (zs : List Seg), s6 = .pointer (some ⟨k, 0, none⟩) ∧ m ≤ 1000 ∧ m ≤ c ∧ w.heap.size < k ∧ Ly b p n cap w wx [w.heap.size] [k] q m c zs)
  case first =>
    go_wp2_with (go_at_call 67; refine (s_l03Draw b p n cap _ hD.src).mono ?_; rintro e w2 ⟨q, m, c, zs, rfl, ⟨hm, hmc⟩, hS, hq, hSr, hO⟩; have hsz := hO.size; replace hD := hD.next hSr hO; replace hone := hone.only hO (by omega); clear hO)
    go_meet
    exact ⟨_, q, m, c, zs, rfl, hm, hmc, hone.lt, ly_new hD hone hS hq hbl hsz hb2⟩
  case rest =>
  obtain ⟨k, q, m, c, zs, rfl, hm, hmc, hk, hY⟩ := hcut
  have ck := hY.cell (k := k) (by simp)
  have lk := hY.lt (k := k) (by simp)
  clear hD hone hbl
  go_upto_region 3 with fail
  go_region_held3 (fun W => W.cell? ⟨k, 0, none⟩ = some (.slice q m c)) (first | (go_simp; done) | go_keep) (first | (go_at_call 70; refine (s_l03DrawPosition b q m c zs hm p n cap _ (Ly.seg (w := w) (b := b) (p := p) (n := n) (cap := cap) (os := [w.heap.size]) (ls := [k]) (q := q) (m := m) (c := c) (zs := zs) (by (repeat (first | with_reducible assumption | with_reducible refine Ly.alloc ?_ _ | with_reducible refine Ly.drew ?_ | with_reducible refine Ly.drewN ?_ _)))) (Ly.src (w := w) (b := b) (p := p) (n := n) (cap := cap) (os := [w.heap.size]) (ls := [k]) (q := q) (m := m) (c := c) (zs := zs) (by (repeat (first | with_reducible assumption | with_reducible refine Ly.alloc ?_ _ | with_reducible refine Ly.drew ?_ | with_reducible refine Ly.drewN ?_ _))))).mono ?_; rintro e w' ⟨x, rfl, hS, hO1⟩; replace hY : Ly b p n cap w w' [w.heap.size] [k] q m c zs := Ly.next (by (repeat (first | with_reducible assumption | with_reducible refine Ly.alloc ?_ _ | with_reducible refine Ly.drew ?_ | with_reducible refine Ly.drewN ?_ _))) hS hO1; clear hS hO1; have ck := hY.cell (k := k) (by simp); have lk := hY.lt (k := k) (by simp); obtain ⟨⟨ov, oc⟩, of⟩ := (hY.one w.heap.size (by simp)).1.cell) | (go_at_call 82; refine (s_l05DrawLength b q m c zs hm (fun hp g o e => (hY.far hp g o e).1) p n cap _ (Ly.seg (w := w) (b := b) (p := p) (n := n) (cap := cap) (os := [w.heap.size]) (ls := [k]) (q := q) (m := m) (c := c) (zs := zs) (by (repeat (first | with_reducible assumption | with_reducible refine Ly.alloc ?_ _ | with_reducible refine Ly.drew ?_ | with_reducible refine Ly.drewN ?_ _)))) (Ly.src (w := w) (b := b) (p := p) (n := n) (cap := cap) (os := [w.heap.size]) (ls := [k]) (q := q) (m := m) (c := c) (zs := zs) (by (repeat (first | with_reducible assumption | with_reducible refine Ly.alloc ?_ _ | with_reducible refine Ly.drew ?_ | with_reducible refine Ly.drewN ?_ _))))).mono ?_; rintro e w' ⟨x, rfl, hS, hO1⟩; replace hY : Ly b p n cap w w' [w.heap.size] [k] q m c zs := Ly.next (by (repeat (first | with_reducible assumption | with_reducible refine Ly.alloc ?_ _ | with_reducible refine Ly.drew ?_ | with_reducible refine Ly.drewN ?_ _))) hS hO1; clear hS hO1; have ck := hY.cell (k := k) (by simp); have lk := hY.lt (k := k) (by simp); obtain ⟨⟨ov, oc⟩, of⟩ := (hY.one w.heap.size (by simp)).1.cell))
  all_goals
    have HF := Lib.hid (hY.fin (by omega) (k := w.heap.size) (by simp) (.slice q m c))
    go_wp2
    refine bodyPost_ret (v := .tuple #[.agg #[.slice q m c], .int .i64 _, .int .i64 _]) (by simp [results, Try.results24, go_sem, *]; exact ⟨rfl, rfl⟩) rfl ⟨q, m, c, zs, _, _, rfl, hm, hmc, HF.out.1, HF.out.2⟩

end Go.Proofs.Ytgkfnggnhphboaa
