/- Contracts and lemmas for the proofs of this seat: LDraw5. -/
import Derived.Test.YtgkfnggnhphboaaLDraw3
import Derived.Test.YtgkfnggnhphboaaLDraw2
import Derived.Test.YtgkfnggnhphboaaLDraw
import Derived.Test.YtgkfnggnhphboaaDRow
import Derived.Test.YtgkfnggnhphboaaDraw3
import Derived.Test.YtgkfnggnhphboaaDraw2
import Derived.Test.YtgkfnggnhphboaaDraw
import Derived.Test.YtgkfnggnhphboaaBase
import Derived.Test.YtgkfnggnhphboaaNum
import Derived.Test.YtgkfnggnhphboaaIv
import Derived.Test.YtgkfnggnhphboaaIv2
import Derived.Test.YtgkfnggnhphboaaRoot
import Derived.Test.YtgkfnggnhphboaaEn
import Derived.Test.YtgkfnggnhphboaaSeg
import Derived.Test.YtgkfnggnhphboaaList
import Derived.Test.YtgkfnggnhphboaaLay
import Derived.Test.YtgkfnggnhphboaaLay2
import Derived.Test.YtgkfnggnhphboaaLay3
import Derived.Lib.Hide
import Derived.BigQuiet
import Derived.Deep.QuietTactic
import Derived.Deep.OwnRows
import Derived.Deep.LoopGhost
import Derived.OneCell
import Derived.Lib.SmallJoins
import Derived.StillTailTactics
import Derived.RangeFuncBox
import Derived.Deep.RegionHeld3
import Derived.Deep.DeepCutAuto
namespace Go.Proofs.Ytgkfnggnhphboaa
open Go.RowKit Go.Deep
set_option maxHeartbeats 2000000
set_option linter.unusedVariables false
set_option linter.unusedSimpArgs false

theorem ly_new' {b : Nat} {p : Option Addr} {n cap : Nat} {w W0 W : World} {q : Option Addr} {m c : Nat} {zs : List Seg} (hD : Dw b p n cap w W []) (hone : One W w.heap.size 26) (hS : Segs W q m zs)
    (hq : ∀ g o, q = some ⟨g, o, none⟩ → W0.heap.size ≤ g) (hbl : b < W0.heap.size) (hsz : W0.heap.size ≤ W.heap.size) (hne : w.heap.size ≠ b) (hw0 : w.heap.size < W0.heap.size) :
    Ly b p n cap w (W.alloc (.cells #[.slice q m c] 26)) [w.heap.size] [W.heap.size] q m c zs := by
  refine ⟨hD.alloc _, hS.keep ((Below.refl _ _).alloc (Nat.le_refl _) _), fun hm g o e => ?_, fun k hk => ?_, fun k hk => ?_⟩
  · obtain ⟨g', off, e', hl, _⟩ := hS.2.2 hm
    rw [e] at e'
    simp only [Option.some.injEq, Addr.mk.injEq, and_true] at e'
    obtain ⟨rfl, rfl⟩ := e'
    have := hq g o e
    refine ⟨by omega, by omega, by simp; omega, by simp; omega⟩
  · simp only [List.mem_singleton] at hk
    subst hk
    exact ⟨hone.alloc _, Nat.le_refl _, hne⟩
  · simp only [List.mem_singleton] at hk
    subst hk
    exact ⟨World.alloc_heap_new W _, hD.size, by omega⟩
theorem Ly.fin' {b : Nat} {p : Option Addr} {n cap : Nat} {w W : World} {os ls : List Nat} {q : Option Addr} {m c : Nat} {zs : List Seg} (h : Ly b p n cap w W os ls q m c zs) {k : Nat} (hk : k ∈ os) (v : Value) :
    Segs (W.setCell ⟨k, 0, none⟩ v) q m zs ∧ (0 < m → ∀ g o, q = some ⟨g, o, none⟩ → w.heap.size ≤ g) ∧ Src b p n cap (W.setCell ⟨k, 0, none⟩ v) ∧ Only b w (W.setCell ⟨k, 0, none⟩ v) := by
  refine ⟨⟨h.seg.1, h.seg.2.1, fun hp => ?_⟩, fun hp g o e => (h.far hp g o e).2.1, Src.setFar h.dw.base h.dw.src (h.one k hk).2.1 (h.one k hk).2.2 _, h.dw.only.setBox (h.one k hk).2.1 _⟩
  obtain ⟨g, off, e, hl, hc⟩ := h.seg.2.2 hp
  have hne : g ≠ k := fun e2 => (h.far hp g off e).2.2.1 (e2 ▸ hk)
  exact ⟨g, off, e, by simpa using hl, fun i hi => (hc i hi).keep (Below.heap_setCell W _ _ g hne)⟩
def DrawnRun (b : Nat) (p : Option Addr) (n cap : Nat) (w : World) (e : Ending) (w' : World) : Prop :=
  ∃ (q : Option Addr) (m c : Nat) (zs : List Seg) (x y : Int), e = .returned (.tuple #[.agg #[.slice q m c], .int .i64 x, .int .i64 y]) ∧ m ≤ 1000 ∧ m ≤ c ∧ Segs w' q m zs ∧ (0 < m → ∀ g o, q = some ⟨g, o, none⟩ → w.heap.size ≤ g) ∧ Src b p n cap w' ∧ Only b w w'

theorem block_alloc (w : World) (o : Obj) : (w.alloc o).drew.heap[w.heap.size]? = some o := World.alloc_heap_new w o
theorem s_pickB (b qb m : Nat) (p : Option Addr) (n cap : Nat) (w : World) (hs : Src b p n cap w)
    (hq : ∃ (cs : Array Value) (t : TypeId), w.heap[qb]? = some (.cells cs t (0, 0)) ∧ cs.size = m ∧ ∀ v ∈ cs.toList, ∃ x, v = .int .i64 x) (hne : qb ≠ b) (h0 : 0 < m ∧ m ≤ maxLen) :
    Calls Try.prog 111 #[.pointer (some ⟨b, 0, none⟩), .slice (some ⟨qb, 0, none⟩) m m] w (Drawn b p n cap w) := by
  obtain ⟨cs, t, hc, hm, hcs⟩ := hq
  obtain ⟨l, hl, hlx⟩ := ints_of_vals (fun _ => True) _ (fun v hv => (hcs v hv).imp fun x hx => ⟨hx, trivial⟩)
  have hcl : cs = (l.map (Value.int .i64)).toArray := by rw [← hl]
  subst hcl
  simp only [List.size_toArray, List.length_map] at hm
  subst hm
  refine (s_l01Pick b qb 0 l.length l.length l p n cap _ hs ⟨rfl, h0.2, fun _ => ⟨qb, 0, rfl, fun i hi => ?_⟩⟩ h0.1 hne).mono ?_
  · simp only [World.cell?, hc, Nat.zero_add]
    simp [List.getD_eq_getElem?_getD, List.getElem?_eq_getElem hi]
  · rintro e w' ⟨k, rfl, hk, hS, hO⟩
    exact ⟨_, rfl, hS, hO⟩

set_option maxRecDepth 100000 in
theorem s_l06DrawRun (b : Nat) (p : Option Addr) (n cap : Nat) (w : World) (hs : Src b p n cap w) :
    Calls Try.prog 56 #[.pointer (some ⟨b, 0, none⟩)] w (DrawnRun b p n cap w) := by
  have hD := Dw.start hs
  have hb := hs.lt
  go_enter Try.func56, Try.ntmps56
  go_upto_region 1 with fail
  have hone : One (w.alloc (Obj.cells #[.slice none 0 0] 26)) w.heap.size 26 := ⟨_, World.alloc_heap_new w _⟩
  replace hD := hD.alloc (Obj.cells #[.slice none 0 0] 26)
  go_cut [5] (fun s6 wx => ∃ (k : Nat) (q : Option Addr) (m c : Nat) (zs : List Seg), s6 = .pointer (some ⟨k, 0, none⟩) ∧ m ≤ 1000 ∧ m ≤ c ∧ w.heap.size < k ∧ Ly b p n cap w wx [w.heap.size] [k] q m c zs)
  case first =>
    go_wp2_with (go_at_call 67; refine (s_l03Draw b p n cap _ hD.src).mono ?_; rintro e w2 ⟨q, m, c, zs, rfl, ⟨hm, hmc⟩, hS, hq, hSr, hO⟩; have hsz := hO.size; replace hD := hD.next hSr hO; replace hone := hone.only hO (by omega); clear hO)
    go_meet
    exact ⟨_, q, m, c, zs, rfl, hm, hmc, hone.lt, ly_new' hD hone hS hq (by simp; omega) hsz (by omega) (by simp)⟩
  case rest =>
  obtain ⟨k, q, m, c, zs, rfl, hm, hmc, hk, hY⟩ := hcut
  have ck := hY.cell (k := k) (by simp)
  have lk := hY.lt (k := k) (by simp)
  clear hD hone
  go_upto_region 6 with first | (go_at_call 68; refine (s_l01Next b _ p n cap _ (Ly.src (w := w) (b := b) (p := p) (n := n) (cap := cap) (os := [w.heap.size]) (ls := [k]) (q := q) (m := m) (c := c) (zs := zs) (by (repeat (first | with_reducible assumption | with_reducible refine Ly.alloc ?_ _ | with_reducible refine Ly.drew ?_ | with_reducible refine Ly.drewN ?_ _))))).mono ?_; rintro e w' ⟨x, rfl, h0, h1, h2, hS, hO1⟩; (try simp only [Int.reduceLT, Int.reduceLE, forall_const, false_implies] at h1 h2); replace hY : Ly b p n cap w w' [w.heap.size] [k] q m c zs := Ly.next (by (repeat (first | with_reducible assumption | with_reducible refine Ly.alloc ?_ _ | with_reducible refine Ly.drew ?_ | with_reducible refine Ly.drewN ?_ _))) hS hO1; clear hS hO1; (try clear ck lk); (try clear oc of); have ck := hY.cell (k := k) (by simp); have lk := hY.lt (k := k) (by simp); obtain ⟨⟨ov, oc⟩, of⟩ := (hY.one w.heap.size (by simp)).1.cell) | (go_at_call 111; refine (s_pickB b _ _ p n cap _ (Ly.src (w := w) (b := b) (p := p) (n := n) (cap := cap) (os := [w.heap.size]) (ls := [k]) (q := q) (m := m) (c := c) (zs := zs) (by (repeat (first | with_reducible assumption | with_reducible refine Ly.alloc ?_ _ | with_reducible refine Ly.drew ?_ | with_reducible refine Ly.drewN ?_ _)))) ?_ ?_ ?_).mono ?_; (focus (refine ⟨_, _, block_alloc _ _, rfl, ?_⟩; simp)); (focus (exact Nat.ne_of_gt (Src.lt (n := n) (p := p) (cap := cap) (Ly.src (w := w) (b := b) (p := p) (n := n) (cap := cap) (os := [w.heap.size]) (ls := [k]) (q := q) (m := m) (c := c) (zs := zs) (by (repeat (first | with_reducible assumption | with_reducible refine Ly.alloc ?_ _ | with_reducible refine Ly.drew ?_ | with_reducible refine Ly.drewN ?_ _))))))); (focus (unfold maxLen; omega)); rintro e w' ⟨x, rfl, hS, hO1⟩; replace hY : Ly b p n cap w w' [w.heap.size] [k] q m c zs := Ly.next (by (repeat (first | with_reducible assumption | with_reducible refine Ly.alloc ?_ _ | with_reducible refine Ly.drew ?_ | with_reducible refine Ly.drewN ?_ _))) hS hO1; clear hS hO1; (try clear ck lk); (try clear oc of); have ck := hY.cell (k := k) (by simp); have lk := hY.lt (k := k) (by simp); obtain ⟨⟨ov, oc⟩, of⟩ := (hY.one w.heap.size (by simp)).1.cell)
  all_goals
    go_wp2_with fail
  all_goals
    go_region_held3 (fun W => W.cell? ⟨k, 0, none⟩ = some (.slice q m c)) (first | (go_simp; done) | go_keep) (first | (go_at_call 68; refine (s_l01Next b _ p n cap _ (Ly.src (w := w) (b := b) (p := p) (n := n) (cap := cap) (os := [w.heap.size]) (ls := [k]) (q := q) (m := m) (c := c) (zs := zs) (by (repeat (first | with_reducible assumption | with_reducible refine Ly.alloc ?_ _ | with_reducible refine Ly.drew ?_ | with_reducible refine Ly.drewN ?_ _))))).mono ?_; rintro e w' ⟨x, rfl, h0, h1, h2, hS, hO1⟩; (try simp only [Int.reduceLT, Int.reduceLE, forall_const, false_implies] at h1 h2); replace hY : Ly b p n cap w w' [w.heap.size] [k] q m c zs := Ly.next (by (repeat (first | with_reducible assumption | with_reducible refine Ly.alloc ?_ _ | with_reducible refine Ly.drew ?_ | with_reducible refine Ly.drewN ?_ _))) hS hO1; clear hS hO1; (try clear ck lk); (try clear oc of); have ck := hY.cell (k := k) (by simp); have lk := hY.lt (k := k) (by simp); obtain ⟨⟨ov, oc⟩, of⟩ := (hY.one w.heap.size (by simp)).1.cell) | (go_at_call 111; refine (s_pickB b _ _ p n cap _ (Ly.src (w := w) (b := b) (p := p) (n := n) (cap := cap) (os := [w.heap.size]) (ls := [k]) (q := q) (m := m) (c := c) (zs := zs) (by (repeat (first | with_reducible assumption | with_reducible refine Ly.alloc ?_ _ | with_reducible refine Ly.drew ?_ | with_reducible refine Ly.drewN ?_ _)))) ?_ ?_ ?_).mono ?_; (focus (refine ⟨_, _, block_alloc _ _, rfl, ?_⟩; simp)); (focus (exact Nat.ne_of_gt (Src.lt (n := n) (p := p) (cap := cap) (Ly.src (w := w) (b := b) (p := p) (n := n) (cap := cap) (os := [w.heap.size]) (ls := [k]) (q := q) (m := m) (c := c) (zs := zs) (by (repeat (first | with_reducible assumption | with_reducible refine Ly.alloc ?_ _ | with_reducible refine Ly.drew ?_ | with_reducible refine Ly.drewN ?_ _))))))); (focus (unfold maxLen; omega)); rintro e w' ⟨x, rfl, hS, hO1⟩; replace hY : Ly b p n cap w w' [w.heap.size] [k] q m c zs := Ly.next (by (repeat (first | with_reducible assumption | with_reducible refine Ly.alloc ?_ _ | with_reducible refine Ly.drew ?_ | with_reducible refine Ly.drewN ?_ _))) hS hO1; clear hS hO1; (try clear ck lk); (try clear oc of); have ck := hY.cell (k := k) (by simp); have lk := hY.lt (k := k) (by simp); obtain ⟨⟨ov, oc⟩, of⟩ := (hY.one w.heap.size (by simp)).1.cell))
    all_goals
      have HF := Lib.hid (hY.fin' (k := w.heap.size) (by simp) (.slice q m c))
      go_wp2
      refine bodyPost_ret (v := .tuple #[.agg #[.slice q m c], .int .i64 _, .int .i64 _]) (by simp [results, Try.results56, go_sem, *]; exact ⟨rfl, rfl⟩) rfl ⟨q, m, c, zs, _, _, rfl, hm, hmc, HF.out⟩

set_option maxRecDepth 100000 in
theorem s_DrawEnergyNeeded (p : Option Addr) (n cap : Nat) (w : World) (hin : Bytes w p n) :
    Calls Try.prog 12 #[.slice p n cap] w (DrawnL2 w) := by
  go_enter Try.func12, Try.ntmps12
  go_wp2_with (go_at_call 57; refine (s_l01From p n cap _ (Bytes.keep hin (Pw.own (w := w) (ks := []) (by (repeat (first | with_reducible assumption | with_reducible exact Pw.start _ | focus ((with_reducible refine Pw.new' ?_ ?_ ?_ ?_); rotate_left; (focus exact trivial); (focus rfl); (focus first | rfl | (simp; done))) | with_reducible refine Pw.alloc ?_ _)))).below)).mono ?_; rintro e w' ⟨rfl, hS, hB⟩; have hD := Pw.from (w := w) (ks := []) (by (repeat (first | with_reducible assumption | with_reducible exact Pw.start _ | focus ((with_reducible refine Pw.new' ?_ ?_ ?_ ?_); rotate_left; (focus exact trivial); (focus rfl); (focus first | rfl | (simp; done))) | with_reducible refine Pw.alloc ?_ _))) hin hS hB; have hFB := Lib.hid hB; clear hS hB; obtain ⟨b, hbq⟩ : ∃ b, b = w.heap.size + 1 := ⟨_, rfl⟩; simp only [World.size_alloc] at hD ⊢; (try rw [show w.heap.size + 1 + 1 = w.heap.size + 2 from rfl] at hD ⊢); rw [← hbq] at hD ⊢; have hb1 : b ≤ w.heap.size + 1 := Nat.le_of_eq hbq; have hb2 : w.heap.size + 1 ≤ b := Nat.le_of_eq hbq.symm; clear hbq)
  have hone : One w' w.heap.size 26 := One.block (W := w.alloc (Obj.cells #[.slice none 0 0] 26)) ⟨_, World.alloc_heap_new w _⟩ (hFB.out.block _ (by simp))
  clear hFB
  have hbl := hD.ltb
  refine (s_l06DrawRun b p n cap _ hD.src).mono ?_
  rintro e w2 ⟨q, m, c, zs, x, y, rfl, hm, hmc, hS, hq, hSr, hO⟩
  have hsz := hD.size
  replace hD := hD.next hSr hO
  replace hone := hone.only hO (by omega)
  obtain ⟨⟨ov, oc⟩, of⟩ := hone.cell
  have hF : Segs (w2.setCell ⟨w.heap.size, 0, none⟩ (.slice q m c)) q m zs ∧ Below w.heap.size w (w2.setCell ⟨w.heap.size, 0, none⟩ (.slice q m c)) := by
    refine ⟨⟨hS.1, hS.2.1, fun hp => ?_⟩, bset (hD.end (by omega)) (Nat.le_refl _) _⟩
    obtain ⟨g, off, e, hl, hc⟩ := hS.2.2 hp
    have := hq hp g off e
    exact ⟨g, off, e, by simpa using hl, fun i hi => (hc i hi).keep (Below.heap_setCell w2 _ _ g (by simp only; omega))⟩
  have HF := Lib.hid hF
  clear hF hS hq hSr hO
  go_wp2
  refine bodyPost_ret (v := .tuple #[.agg #[.slice q m c], .int .i64 _, .int .i64 _]) (by simp [results, Try.results12, go_sem, *]; exact ⟨rfl, rfl⟩) rfl ⟨q, m, c, zs, _, _, rfl, hm, hmc, HF.out.1, HF.out.2⟩

theorem s_l05Mod_any (a n : Int) (hn : 1 ≤ n) (w : World) : Calls Try.prog 86 #[.int .i64 a, .int .i64 n] w (SomeI w) := by
  have hz : (n == 0) = false := by simp; omega
  go_enter Try.func86, Try.ntmps86
  go_wp2
  go_ret
  exact ⟨_, rfl, rfl⟩

set_option maxRecDepth 100000 in
theorem s_DrawGapAhead (p : Option Addr) (n cap : Nat) (w : World) (hin : Bytes w p n) :
    Calls Try.prog 35 #[.slice p n cap] w (DrawnL3 w) := by
  go_enter Try.func35, Try.ntmps35
  go_upto_region 2 with (go_at_call 57; refine (s_l01From p n cap _ (Bytes.keep hin (Pw.own (w := w) (ks := []) (by (repeat (first | with_reducible assumption | with_reducible exact Pw.start _ | focus ((with_reducible refine Pw.new' ?_ ?_ ?_ ?_); rotate_left; (focus exact trivial); (focus rfl); (focus first | rfl | (simp; done))) | with_reducible refine Pw.alloc ?_ _)))).below)).mono ?_; rintro e w' ⟨rfl, hS, hB⟩; have hD := Pw.from (w := w) (ks := []) (by (repeat (first | with_reducible assumption | with_reducible exact Pw.start _ | focus ((with_reducible refine Pw.new' ?_ ?_ ?_ ?_); rotate_left; (focus exact trivial); (focus rfl); (focus first | rfl | (simp; done))) | with_reducible refine Pw.alloc ?_ _))) hin hS hB; have hFB := Lib.hid hB; clear hS hB; obtain ⟨b, hbq⟩ : ∃ b, b = w.heap.size + 1 := ⟨_, rfl⟩; simp only [World.size_alloc] at hD ⊢; (try rw [show w.heap.size + 1 + 1 = w.heap.size + 2 from rfl] at hD ⊢); rw [← hbq] at hD ⊢; have hb1 : b ≤ w.heap.size + 1 := Nat.le_of_eq hbq; have hb2 : w.heap.size + 1 ≤ b := Nat.le_of_eq hbq.symm; clear hbq)
  have hone : One w' w.heap.size 26 := One.block (W := w.alloc (Obj.cells #[.slice none 0 0] 26)) ⟨_, World.alloc_heap_new w _⟩ (hFB.out.block _ (by simp))
  clear hFB
  have hbl := hD.ltb
  go_cut [7] (fun s6 wx => ∃ (k : Nat) (q : Option Addr) (m c : Nat) (zs : List Seg), s6 = .pointer (some ⟨k, 0, none⟩) ∧ m ≤ 1000 ∧ m ≤ c ∧ w.heap.size < k ∧ Ly b p n cap w wx [w.heap.size] [k] q m c zs)
  case first =>
    go_wp2_with (go_at_call 67; refine (s_l03Draw b p n cap _ hD.src).mono ?_; rintro e w2 ⟨q, m, c, zs, rfl, ⟨hm, hmc⟩, hS, hq, hSr, hO⟩; have hsz := hO.size; replace hD := hD.next hSr hO; replace hone := hone.only hO (by omega); clear hO)
    go_meet
    exact ⟨_, q, m, c, zs, rfl, hm, hmc, hone.lt, ly_new hD hone hS hq hbl hsz hb2⟩
  case rest =>
  obtain ⟨k, q, m, c, zs, rfl, hm, hmc, hk, hY⟩ := hcut
  have ck := hY.cell (k := k) (by simp)
  have lk := hY.lt (k := k) (by simp)
  clear hD hone hbl
  go_upto_region 5 with first | (go_at_call 82; refine (s_l05DrawLength b q m c zs hm (fun hp g o e => (hY.far hp g o e).1) p n cap _ (Ly.seg (w := w) (b := b) (p := p) (n := n) (cap := cap) (os := [w.heap.size]) (ls := [k]) (q := q) (m := m) (c := c) (zs := zs) (by (repeat (first | with_reducible assumption | with_reducible refine Ly.alloc ?_ _ | with_reducible refine Ly.drew ?_ | with_reducible refine Ly.drewN ?_ _)))) (Ly.src (w := w) (b := b) (p := p) (n := n) (cap := cap) (os := [w.heap.size]) (ls := [k]) (q := q) (m := m) (c := c) (zs := zs) (by (repeat (first | with_reducible assumption | with_reducible refine Ly.alloc ?_ _ | with_reducible refine Ly.drew ?_ | with_reducible refine Ly.drewN ?_ _))))).mono ?_; rintro e w' ⟨x, rfl, hS, hO1⟩; replace hY : Ly b p n cap w w' [w.heap.size] [k] q m c zs := Ly.next (by (repeat (first | with_reducible assumption | with_reducible refine Ly.alloc ?_ _ | with_reducible refine Ly.drew ?_ | with_reducible refine Ly.drewN ?_ _))) hS hO1; clear hS hO1; have ck := hY.cell (k := k) (by simp); have lk := hY.lt (k := k) (by simp); obtain ⟨⟨ov, oc⟩, of⟩ := (hY.one w.heap.size (by simp)).1.cell) | (go_at_call 70; refine (s_l03DrawPosition b q m c zs hm p n cap _ (Ly.seg (w := w) (b := b) (p := p) (n := n) (cap := cap) (os := [w.heap.size]) (ls := [k]) (q := q) (m := m) (c := c) (zs := zs) (by (repeat (first | with_reducible assumption | with_reducible refine Ly.alloc ?_ _ | with_reducible refine Ly.drew ?_ | with_reducible refine Ly.drewN ?_ _)))) (Ly.src (w := w) (b := b) (p := p) (n := n) (cap := cap) (os := [w.heap.size]) (ls := [k]) (q := q) (m := m) (c := c) (zs := zs) (by (repeat (first | with_reducible assumption | with_reducible refine Ly.alloc ?_ _ | with_reducible refine Ly.drew ?_ | with_reducible refine Ly.drewN ?_ _))))).mono ?_; rintro e w' ⟨x, rfl, hS, hO1⟩; replace hY : Ly b p n cap w w' [w.heap.size] [k] q m c zs := Ly.next (by (repeat (first | with_reducible assumption | with_reducible refine Ly.alloc ?_ _ | with_reducible refine Ly.drew ?_ | with_reducible refine Ly.drewN ?_ _))) hS hO1; clear hS hO1; have ck := hY.cell (k := k) (by simp); have lk := hY.lt (k := k) (by simp); obtain ⟨⟨ov, oc⟩, of⟩ := (hY.one w.heap.size (by simp)).1.cell)
  go_cut [10] (fun s10 wx => ∃ t : Int, 1 ≤ t ∧ s10 = .int .i64 t ∧ Ly b p n cap w wx [w.heap.size] [k] q m c zs)
  case first =>
    go_wp2_with (go_at_call 81; refine (s_l03Total_any q m c zs _ (Ly.seg hY) (by omega)).mono ?_; rintro e w' ⟨z, rfl, -, hbel⟩; replace hY := Ly.below hY hbel; clear hbel)
    all_goals go_meet
    all_goals exact ⟨_, by first | omega | (simp; omega), rfl, hY⟩
  case rest =>
  obtain ⟨t, ht, rfl, hY⟩ := hcut
  clear ck lk of oc
  have ck := hY.cell (k := k) (by simp)
  have lk := hY.lt (k := k) (by simp)
  obtain ⟨⟨ov, oc⟩, of⟩ := (hY.one w.heap.size (by simp)).1.cell
  go_upto_if 7 with (go_at_call 68; refine (s_l01Next b _ p n cap _ (Ly.src (w := w) (b := b) (p := p) (n := n) (cap := cap) (os := [w.heap.size]) (ls := [k]) (q := q) (m := m) (c := c) (zs := zs) (by (repeat (first | with_reducible assumption | with_reducible refine Ly.alloc ?_ _ | with_reducible refine Ly.drew ?_ | with_reducible refine Ly.drewN ?_ _))))).mono ?_; rintro e w' ⟨x, rfl, h0, h1, h2, hS, hO1⟩; (try simp only [Int.reduceLT, Int.reduceLE, forall_const, false_implies] at h1 h2); replace hY : Ly b p n cap w w' [w.heap.size] [k] q m c zs := Ly.next (by (repeat (first | with_reducible assumption | with_reducible refine Ly.alloc ?_ _ | with_reducible refine Ly.drew ?_ | with_reducible refine Ly.drewN ?_ _))) hS hO1; clear hS hO1; (try clear ck lk); (try clear oc of); have ck := hY.cell (k := k) (by simp); have lk := hY.lt (k := k) (by simp); obtain ⟨⟨ov, oc⟩, of⟩ := (hY.one w.heap.size (by simp)).1.cell)
  all_goals go_wp2_with fail
  all_goals
    go_region_held3 (fun W => W.cell? ⟨k, 0, none⟩ = some (.slice q m c)) (first | (go_simp; done) | go_keep) (first | (go_at_call 68; refine (s_l01Next b _ p n cap _ (Ly.src (w := w) (b := b) (p := p) (n := n) (cap := cap) (os := [w.heap.size]) (ls := [k]) (q := q) (m := m) (c := c) (zs := zs) (by (repeat (first | with_reducible assumption | with_reducible refine Ly.alloc ?_ _ | with_reducible refine Ly.drew ?_ | with_reducible refine Ly.drewN ?_ _))))).mono ?_; rintro e w' ⟨x, rfl, h0, h1, h2, hS, hO1⟩; (try simp only [Int.reduceLT, Int.reduceLE, forall_const, false_implies] at h1 h2); replace hY : Ly b p n cap w w' [w.heap.size] [k] q m c zs := Ly.next (by (repeat (first | with_reducible assumption | with_reducible refine Ly.alloc ?_ _ | with_reducible refine Ly.drew ?_ | with_reducible refine Ly.drewN ?_ _))) hS hO1; clear hS hO1; (try clear ck lk); (try clear oc of); have ck := hY.cell (k := k) (by simp); have lk := hY.lt (k := k) (by simp); obtain ⟨⟨ov, oc⟩, of⟩ := (hY.one w.heap.size (by simp)).1.cell) | (go_at_call 86; refine (s_l05Mod_any _ _ ht _).mono ?_; rintro e w' ⟨y, rfl, rfl⟩) | (go_at_call 70; refine (s_l03DrawPosition b q m c zs hm p n cap _ (Ly.seg (w := w) (b := b) (p := p) (n := n) (cap := cap) (os := [w.heap.size]) (ls := [k]) (q := q) (m := m) (c := c) (zs := zs) (by (repeat (first | with_reducible assumption | with_reducible refine Ly.alloc ?_ _ | with_reducible refine Ly.drew ?_ | with_reducible refine Ly.drewN ?_ _)))) (Ly.src (w := w) (b := b) (p := p) (n := n) (cap := cap) (os := [w.heap.size]) (ls := [k]) (q := q) (m := m) (c := c) (zs := zs) (by (repeat (first | with_reducible assumption | with_reducible refine Ly.alloc ?_ _ | with_reducible refine Ly.drew ?_ | with_reducible refine Ly.drewN ?_ _))))).mono ?_; rintro e w' ⟨x, rfl, hS, hO1⟩; replace hY : Ly b p n cap w w' [w.heap.size] [k] q m c zs := Ly.next (by (repeat (first | with_reducible assumption | with_reducible refine Ly.alloc ?_ _ | with_reducible refine Ly.drew ?_ | with_reducible refine Ly.drewN ?_ _))) hS hO1; clear hS hO1; have ck := hY.cell (k := k) (by simp); have lk := hY.lt (k := k) (by simp); obtain ⟨⟨ov, oc⟩, of⟩ := (hY.one w.heap.size (by simp)).1.cell))
    all_goals
      have HF := Lib.hid (hY.fin (by omega) (k := w.heap.size) (by simp) (.slice q m c))
      go_wp2
      refine bodyPost_ret (v := .tuple #[.agg #[.slice q m c], .int .i64 _, .int .i64 _, .int .i64 _]) (by simp [results, Try.results35, go_sem, *]; exact ⟨rfl, rfl, rfl⟩) rfl ⟨q, m, c, zs, _, _, _, rfl, hm, hmc, HF.out.1, HF.out.2⟩

end Go.Proofs.Ytgkfnggnhphboaa
