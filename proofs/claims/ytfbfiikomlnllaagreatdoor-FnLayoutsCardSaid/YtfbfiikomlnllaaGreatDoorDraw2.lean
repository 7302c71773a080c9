/- Contracts and lemmas for the proofs of this seat: Draw2. -/
import Derived.Test.YtfbfiikomlnllaaGreatDoorDraw
import Derived.Test.YtfbfiikomlnllaaGreatDoorBase
import Derived.Test.YtfbfiikomlnllaaGreatDoorNum
import Derived.Test.YtfbfiikomlnllaaGreatDoorIv
import Derived.Test.YtfbfiikomlnllaaGreatDoorList
import Derived.Lib.Hide
import Derived.BigQuiet
import Derived.Deep.QuietTactic
import Derived.Deep.OwnRows
import Derived.Deep.LoopGhost
import Derived.OneCell
import Derived.Lib.SmallJoins
import Derived.StillTailTactics
import Derived.RangeFuncBox
import Derived.Deep.RegionHeld3
import Derived.Deep.DeepCutAuto
namespace Go.Proofs.YtfbfiikomlnllaaGreatDoor
open Go.RowKit Go.Deep
set_option maxHeartbeats 2000000
set_option linter.unusedVariables false
set_option linter.unusedSimpArgs false

/-- block k holds m integers that may be written -/
structure Box (W : World) (k m : Nat) : Prop where
  lt : k < W.heap.size
  cell : ∀ i, i < m → ∃ x : Int, W.cell? ⟨k, i, none⟩ = some (.int .i64 x)
  free : ∀ i, i < m → W.frozen? ⟨k, i, none⟩ = false
theorem Box.alloc {W : World} {k m : Nat} (h : Box W k m) (o : Obj) : Box (W.alloc o) k m :=
  ⟨by have := h.lt; simp; omega, fun i hi => by
    obtain ⟨x, hx⟩ := h.cell i hi
    exact ⟨x, by rw [World.cell?_alloc_lt _ _ _ h.lt]; exact hx⟩, fun i hi => by
    rw [World.frozen?_alloc_old _ _ _ (Nat.ne_of_lt h.lt)]; exact h.free i hi⟩
theorem Box.drew {W : World} {k m : Nat} (h : Box W k m) : Box W.drew k m := ⟨h.lt, h.cell, h.free⟩
theorem Box.drewN {W : World} {k m : Nat} (h : Box W k m) (n : Nat) : Box (W.drewN n) k m := ⟨h.lt, h.cell, h.free⟩
theorem Box.set {W : World} {k m : Nat} (h : Box W k m) (q : Addr) (v : Int) : Box (W.setCell q (.int .i64 v)) k m :=
  ⟨by have := h.lt; simpa using this, fun i hi => by
    obtain ⟨x, hx⟩ := h.cell i hi
    by_cases e : q = ⟨k, i, none⟩
    · subst e; exact ⟨v, World.cell?_setCell_same W _ _ hx⟩
    · exact ⟨x, (World.cell?_setCell_other W q _ _ e).trans hx⟩, fun i hi => by
    rw [World.frozen?_setCell]; exact h.free i hi⟩
theorem Box.only {b k m : Nat} {W W' : World} (h : Box W k m) (hO : Only b W W') (hk : k ≠ b) : Box W' k m :=
  ⟨Nat.lt_of_lt_of_le h.lt hO.size, fun i hi => by
    obtain ⟨x, hx⟩ := h.cell i hi
    exact ⟨x, ((hO.box hk h.lt).1 i).trans hx⟩, fun i hi => ((hO.box hk h.lt).2 i).trans (h.free i hi)⟩
def intsV : List Value → Prop
  | [] => True
  | .int .i64 _ :: l => intsV l
  | _ => False
theorem intsV_get : ∀ (l : List Value), intsV l → ∀ i, i < l.length → ∃ x : Int, l[i]? = some (.int .i64 x)
  | .int .i64 x :: l, h, 0, _ => ⟨x, rfl⟩
  | .int .i64 _ :: l, h, i + 1, hi => by
    have := intsV_get l h i (by simpa using hi)
    simpa using this
theorem Box.new (W : World) (l : List Value) (t : TypeId) (h : intsV l) : Box (W.alloc (.cells l.toArray t)) W.heap.size l.length :=
  ⟨by simp, fun i hi => by
    obtain ⟨x, hx⟩ := intsV_get l h i hi
    exact ⟨x, by rw [World.cell?_alloc_new]; simpa using hx⟩, fun i hi => World.frozen?_alloc_new _ _ _ _⟩
/-- the state of a draw: the source b is well, nothing else of w has changed, and these boxes are the call's own -/
structure Dw (b : Nat) (p : Option Addr) (n cap : Nat) (w W : World) (ks : List (Nat × Nat)) : Prop where
  base : Bytes w p n
  src : Src b p n cap W
  only : Only b w W
  box : ∀ q ∈ ks, Box W q.1 q.2 ∧ w.heap.size ≤ q.1 ∧ q.1 ≠ b
theorem Src.bytes {b : Nat} {p : Option Addr} {n cap : Nat} {w : World} (h : Src b p n cap w) : Bytes w p n := by
  obtain ⟨k, sd, h1, h2, h3, h4, h5, h6⟩ := h
  refine ⟨h3, fun hn => ?_⟩
  obtain ⟨pb, off, e, hne, hc⟩ := h6 hn
  exact ⟨pb, off, e, hc⟩
theorem Dw.start {b : Nat} {p : Option Addr} {n cap : Nat} {w : World} (h : Src b p n cap w) : Dw b p n cap w w [] := ⟨h.bytes, h, Only.refl _ _, by simp⟩
section
variable {b : Nat} {p : Option Addr} {n cap : Nat} {w W : World} {ks : List (Nat × Nat)}
theorem Dw.alloc (h : Dw b p n cap w W ks) (o : Obj) : Dw b p n cap w (W.alloc o) ks :=
  ⟨h.base, h.src.alloc o, h.only.alloc o, fun q hq => ⟨(h.box q hq).1.alloc o, (h.box q hq).2⟩⟩
theorem Dw.drew (h : Dw b p n cap w W ks) : Dw b p n cap w W.drew ks :=
  ⟨h.base, h.src.drew, h.only.drew, fun q hq => ⟨(h.box q hq).1.drew, (h.box q hq).2⟩⟩
theorem Dw.drewN (h : Dw b p n cap w W ks) (m : Nat) : Dw b p n cap w (W.drewN m) ks :=
  ⟨h.base, h.src.drewN m, h.only.drewN m, fun q hq => ⟨(h.box q hq).1.drewN m, (h.box q hq).2⟩⟩
theorem Src.setFar {u : World} (h0 : Bytes w p n) (h : Src b p n cap u) {q : Addr} (hq : w.heap.size ≤ q.block) (hne : q.block ≠ b) (x : Value) : Src b p n cap (u.setCell q x) := by
  obtain ⟨k, sd, h1, h2, h3, h4, h5, h6⟩ := h
  refine ⟨k, sd, (Below.heap_setCell u q x b (Ne.symm hne)).trans h1, h2, h3, h4, h5, fun hn => ?_⟩
  obtain ⟨pb, off, e, hpb, hc⟩ := h6 hn
  obtain ⟨pb', off', e', hc'⟩ := h0.2 hn
  rw [e] at e'
  simp only [Option.some.injEq, Addr.mk.injEq, and_true] at e'
  obtain ⟨rfl, rfl⟩ := e'
  obtain ⟨_, _, hz'⟩ := hc' 0 hn
  have hlt := World.block_lt_of_cell? w _ hz'
  simp only at hlt
  refine ⟨pb, off, e, hpb, fun i hi => ?_⟩
  obtain ⟨z, hz, hcz⟩ := hc i hi
  exact ⟨z, hz, (World.cell?_of_block (w := u) (a := ⟨pb, off + i, none⟩) (Below.heap_setCell u q x pb (by omega))).trans hcz⟩
theorem Dw.set (h : Dw b p n cap w W ks) {q : Addr} (hq : w.heap.size ≤ q.block) (hne : q.block ≠ b) (v : Int) : Dw b p n cap w (W.setCell q (.int .i64 v)) ks :=
  ⟨h.base, Src.setFar h.base h.src hq hne _, h.only.setBox hq _, fun r hr => ⟨(h.box r hr).1.set q v, (h.box r hr).2⟩⟩
theorem Dw.next {W' : World} (h : Dw b p n cap w W ks) (hS : Src b p n cap W') (hO : Only b W W') : Dw b p n cap w W' ks :=
  ⟨h.base, hS, h.only.trans hO, fun r hr => ⟨(h.box r hr).1.only hO (h.box r hr).2.2, (h.box r hr).2⟩⟩
theorem Dw.below {W' : World} (h : Dw b p n cap w W ks) (hB : Below W.heap.size W W') : Dw b p n cap w W' ks :=
  h.next (h.src.keep hB) (Only.of_below hB)
theorem Dw.size (h : Dw b p n cap w W ks) : w.heap.size ≤ W.heap.size := h.only.size
theorem Dw.push (h : Dw b p n cap w W ks) {k m : Nat} (hB : Box W k m) (hk : w.heap.size ≤ k) (hne : k ≠ b) : Dw b p n cap w W ((k, m) :: ks) :=
  ⟨h.base, h.src, h.only, fun r hr => by
    rcases List.mem_cons.1 hr with rfl | hr
    · exact ⟨hB, hk, hne⟩
    · exact h.box r hr⟩
theorem Dw.new (h : Dw b p n cap w W ks) (l : List Value) (t : TypeId) (hl : intsV l) : Dw b p n cap w (W.alloc (.cells l.toArray t)) ((W.heap.size, l.length) :: ks) :=
  (h.alloc _).push (Box.new W l t hl) h.size (Nat.ne_of_gt h.src.lt)
theorem Dw.ne (h : Dw b p n cap w W ks) {k m : Nat} (hk : (k, m) ∈ ks) : w.heap.size ≤ k ∧ k < W.heap.size ∧ k ≠ b :=
  ⟨(h.box _ hk).2.1, (h.box _ hk).1.lt, (h.box _ hk).2.2⟩
theorem Dw.b1 (h : Dw b p n cap w W ks) {k m : Nat} (hk : (k, m) ∈ ks) : Box W k m := (h.box _ hk).1
theorem Dw.new' {k m : Nat} {l : List Value} {t : TypeId} (h : Dw b p n cap w W ks) (hl : intsV l) (hm : l.length = m) (hk : k = W.heap.size) : Dw b p n cap w (W.alloc (.cells l.toArray t)) ((k, m) :: ks) := by
  subst hm
  subst hk
  exact h.new l t hl
theorem Dw.ltb (h : Dw b p n cap w W ks) : b < W.heap.size := h.src.lt
/-- what a drawer with its own source leaves -/
theorem Dw.end (h : Dw b p n cap w W ks) (hb : w.heap.size ≤ b) : Below w.heap.size w W := Only.below h.only (Below.refl _ _) hb
end
/-- the state ahead of l01From -/
structure Pw (w W : World) (ks : List (Nat × Nat)) : Prop where
  own : Own w W
  box : ∀ q ∈ ks, Box W q.1 q.2 ∧ w.heap.size ≤ q.1
theorem Pw.start (w : World) : Pw w w [] := ⟨Own.start w, by simp⟩
theorem Pw.new' {w W : World} {ks : List (Nat × Nat)} {k m : Nat} {l : List Value} {t : TypeId} (h : Pw w W ks) (hl : intsV l) (hm : l.length = m) (hk : k = W.heap.size) : Pw w (W.alloc (.cells l.toArray t)) ((k, m) :: ks) := by
  subst hm
  subst hk
  exact ⟨h.own.alloc _, fun r hr => by
    rcases List.mem_cons.1 hr with rfl | hr
    · exact ⟨Box.new W l t hl, h.own.le⟩
    · exact ⟨(h.box r hr).1.alloc _, (h.box r hr).2⟩⟩
theorem Pw.alloc {w W : World} {ks : List (Nat × Nat)} (h : Pw w W ks) (o : Obj) : Pw w (W.alloc o) ks :=
  ⟨h.own.alloc _, fun r hr => ⟨(h.box r hr).1.alloc _, (h.box r hr).2⟩⟩
theorem Pw.from {w W w' : World} {ks : List (Nat × Nat)} {p : Option Addr} {n cap : Nat} (h : Pw w W ks) (hin : Bytes w p n) (hS : Src W.heap.size p n cap w') (hB : Below W.heap.size W w') : Dw W.heap.size p n cap w w' ks :=
  ⟨hin, hS, Only.trans (Only.of_below h.own.below) (Only.of_below hB), fun r hr => ⟨(h.box r hr).1.only (Only.of_below (b := W.heap.size) hB) (Nat.ne_of_lt (h.box r hr).1.lt), (h.box r hr).2, Nat.ne_of_lt (h.box r hr).1.lt⟩⟩
theorem ret_iv2D {P : Program} {fn : Func} {R : Ending → World → Prop} {a : Act} {w : World} (h : ∃ x y z u : Int, (results fn a.tmps).run P w = .ok (.tuple #[ivV x y, ivV z u]) w ∧ R (.returned (.tuple #[ivV x y, ivV z u])) w) (hd : a.defers = []) : bodyPost P fn R .ret a w := by
  obtain ⟨x, y, z, u, hr, hR⟩ := h
  exact ⟨hd, _, hr, hR⟩

theorem s_IsInterval_x (lo hi : Int) (w : World) : Calls Tryz.prog 68 #[ivV lo hi] w fun en w' => en = .returned (.bool (isIv lo hi)) ∧ w.alloc (Obj.cells #[.int .i64 lo, .int .i64 hi] 39) = w' := by
  go_enter Tryz.func68, Tryz.ntmps68
  go_wp2_with (go_at_call 82; refine (s_l01Is _ _).mono ?_; rintro e w' ⟨rfl, rfl⟩)
  all_goals go_ret
  all_goals exact ⟨ret_bool (by simp [isIv, *]), rfl⟩
def DrawnTwo (b : Nat) (p : Option Addr) (n cap : Nat) (w : World) (e : Ending) (w' : World) : Prop :=
  ∃ x y z u : Int, e = .returned (.tuple #[ivV x y, ivV z u]) ∧ Src b p n cap w' ∧ Only b w w'

end Go.Proofs.YtfbfiikomlnllaaGreatDoor
