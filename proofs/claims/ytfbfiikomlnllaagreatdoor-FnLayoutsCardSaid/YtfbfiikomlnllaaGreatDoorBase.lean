/- Contracts and lemmas for the proofs of this seat: Base. -/
import Derived.WalkKit
import Derived.ProofKit
import Derived.OpenShut
import Derived.ShutString
import Derived.ChangeOld
import Derived.Below
import Derived.Lib.SmallJoins
import Derived.Deep.Slices
import Derived.Deep.Draws
namespace Go.Proofs.YtfbfiikomlnllaaGreatDoor
open Go.ChangeShapes Go.WideShapes Go.ChangeAt Go.RowKit Go.Joins Go.Deep
set_option maxHeartbeats 2000000
set_option linter.unusedVariables false
set_option linter.unusedSimpArgs false

theorem ret_bool {a b : Bool} (h : a = b) : Ending.returned (.bool a) = .returned (.bool b) := by rw [h]
theorem ret_int {k : IntKind} {a b : Int} (h : a = b) : Ending.returned (.int k a) = .returned (.int k b) := by rw [h]
theorem ret_int2 {k : IntKind} {a b c d : Int} (h : a = c) (g : b = d) : Ending.returned (.tuple #[.int k a, .int k b]) = .returned (.tuple #[.int k c, .int k d]) := by rw [h, g]

theorem ilt (a b : Int) : a < b ∨ b ≤ a := by omega

def Own (W0 W : World) : Prop := Below W0.heap.size W0 W
theorem Own.start (W : World) : Own W W := Below.refl _ _
theorem Own.le {W0 W : World} (h : Own W0 W) : W0.heap.size ≤ W.heap.size := Below.size h
theorem Own.alloc {W0 W : World} (h : Own W0 W) (o : Obj) : Own W0 (W.alloc o) := Below.alloc h h.le o
theorem Own.drew {W0 W : World} (h : Own W0 W) : Own W0 W.drew := Below.drew h
theorem Own.drewN {W0 W : World} (h : Own W0 W) (n : Nat) : Own W0 (W.drewN n) := ⟨h.os, h.tape, h.output, h.size, h.block⟩
theorem Own.setCell {W0 W : World} (h : Own W0 W) {p : Addr} (hp : W0.heap.size ≤ p.block) (u : Value) : Own W0 (W.setCell p u) := Below.setCell h hp u
theorem Own.join {W0 W w' : World} (h : Own W0 W) (hb : Below W.heap.size W w') : Own W0 w' := Below.trans h (hb.mono h.le)
theorem Own.kept {W0 W : World} (h : Own W0 W) : (∀ b o, b < W0.heap.size → W.cell? ⟨b, o, none⟩ = W0.cell? ⟨b, o, none⟩) ∧ (∀ b o, b < W0.heap.size → W.frozen? ⟨b, o, none⟩ = W0.frozen? ⟨b, o, none⟩) ∧
    (∀ b, b < W0.heap.size → b < W.heap.size) ∧ (∀ b, b < W0.heap.size → b < W.heap.size + 1) ∧ (∀ b, b < W0.heap.size → b < W.heap.size + 1 + 1) ∧ (∀ b, b < W0.heap.size → b < W.heap.size + 1 + 1 + 1) ∧ (∀ b, b < W0.heap.size → ¬ W.heap.size = b) :=
  ⟨fun b o hb => Below.cell h (p := ⟨b, o, none⟩) hb, fun b o hb => Below.frozen h (p := ⟨b, o, none⟩) hb, fun b hb => Nat.lt_of_lt_of_le hb h.le, fun b hb => by have := h.le; omega, fun b hb => by have := h.le; omega, fun b hb => by have := h.le; omega, fun b hb => by have := h.le; omega⟩
theorem Own.le_w {w W0 W : World} (h : Own W0 W) (h0 : w.heap.size ≤ W0.heap.size) : w.heap.size ≤ W.heap.size := Nat.le_trans h0 h.le
theorem Own.below {W0 W : World} (h : Own W0 W) : Below W0.heap.size W0 W := h
/-- the same, of the newest world that was written out -/
structure New (W0 W : World) : Prop where
  own : Own W0 W
theorem New.start (W : World) : New W W := ⟨Own.start W⟩
theorem New.startD (W : World) : New W W.drew := ⟨(Own.start W).drew⟩
theorem New.startN (W : World) (n : Nat) : New W (W.drewN n) := ⟨(Own.start W).drewN n⟩
theorem New.join {W0 W w' : World} (h : New W0 W) (hb : Below W.heap.size W w') : New W0 w' := ⟨h.own.join hb⟩
theorem bto {w W w' : World} (h : Below w.heap.size w W) (hb : Below W.heap.size W w') : Below w.heap.size w w' := h.trans (hb.mono h.size)
theorem bdrewN {w W : World} (h : Below w.heap.size w W) (n : Nat) : Below w.heap.size w (W.drewN n) := ⟨h.os, h.tape, h.output, h.size, h.block⟩
theorem balloc {w W : World} (h : Below w.heap.size w W) (o : Obj) : Below w.heap.size w (W.alloc o) := h.alloc h.size o
theorem bset {w W : World} (h : Below w.heap.size w W) {p : Addr} (hp : w.heap.size ≤ p.block) (u : Value) : Below w.heap.size w (W.setCell p u) := h.setCell hp u
theorem below_box {k : Nat} {u v : World} (h : Below u.heap.size u v) (hk : k < u.heap.size) : (∀ o, v.cell? ⟨k, o, none⟩ = u.cell? ⟨k, o, none⟩) ∧ (∀ o, v.frozen? ⟨k, o, none⟩ = u.frozen? ⟨k, o, none⟩) ∧ k < v.heap.size :=
  ⟨fun o => World.cell?_of_block (w := u) (a := ⟨k, o, none⟩) (h.block k hk), fun o => World.frozen?_of_block (w := u) (a := ⟨k, o, none⟩) (h.block k hk), Nat.lt_of_lt_of_le hk h.size⟩
theorem lt_2 (n : Nat) : n < n + 1 + 1 := by omega
theorem lt_3 (n : Nat) : n < n + 1 + 1 + 1 := by omega
theorem lt_4 (n : Nat) : n < n + 1 + 1 + 1 + 1 := by omega
theorem lt_5 (n : Nat) : n < n + 1 + 1 + 1 + 1 + 1 := by omega
theorem lt_6 (n : Nat) : n < n + 1 + 1 + 1 + 1 + 1 + 1 := by omega

section
variable {H : Type} {enc : TypeId × Value → H} {P : Program} {w : World} {base : Nat} {spare : Nat → Bool} {held : Bool}
theorem trod_iv {t : TypeId} {f0 f1 : Field} {fuel : Nat} {cs : List Value} {x : DataW H × List MemPlace} (hs : P.underlying t = some (.struct #[f0, f1]))
    (hone : oneCellFields P #[f0, f1] = true) (hC : P.cellsOf t = 2) (h0 : P.underlying f0.type = some (.int .i64)) (h1 : P.underlying f1.type = some (.int .i64))
    (h : DataW.trod enc P w base spare held fuel t cs = some x) :
    ∃ a b : Int, cs = [.int .i64 a, .int .i64 b] ∧ (Lit.int .i64 a).wf = true ∧ (Lit.int .i64 b).wf = true := by
  obtain ⟨y0, y1, n, _, hl, k0, k1⟩ := trod_struct2 hs h
  obtain ⟨o0, q0⟩ := hone_of hone 0 f0 rfl
  obtain ⟨o1, q1⟩ := hone_of hone 1 f1 rfl
  rw [hC] at hl
  rw [o0, q0] at k0
  rw [o1, q1] at k1
  match cs, hl with
  | [c0, c1], _ =>
    obtain ⟨a, ea, _, wa⟩ := DataW.trod_int h0 k0
    obtain ⟨b, eb, _, wb⟩ := DataW.trod_int h1 k1
    simp at ea eb
    exact ⟨a, b, by rw [ea, eb], wa, wb⟩

theorem open_iv {r : Reach} {b0 : Nat} {t : TypeId} {f0 f1 : Field} {v : Value} {d : DataW H} {p : List MemPlace} (hs : P.underlying t = some (.struct #[f0, f1]))
    (hone : oneCellFields P #[f0, f1] = true) (hC : P.cellsOf t = 2) (h0 : P.underlying f0.type = some (.int .i64)) (h1 : P.underlying f1.type = some (.int .i64))
    (hv : Value.okWide P w r b0 t v) (h : DataW.Trod enc P w base spare held t v d p) :
    ∃ a b : Int, v = .agg #[.int .i64 a, .int .i64 b] ∧ (Lit.int .i64 a).wf = true ∧ (Lit.int .i64 b).wf = true := by
  obtain ⟨⟨l⟩, rfl, hsz⟩ := okWide_struct hs hv
  obtain ⟨fuel, hf⟩ := h
  obtain ⟨a, b, hl, wa, wb⟩ := trod_iv hs hone hC h0 h1 hf
  simp [Value.cells] at hl
  exact ⟨a, b, by rw [hl], wa, wb⟩
end

def IsRow (k : IntKind) (w : World) (a : Option Addr) (len cap : Nat) (zs : List Int) : Prop :=
  (a = none ∧ len = 0 ∧ cap = 0 ∧ zs = []) ∨
  ∃ x, a = some x ∧ len ≤ cap ∧ cap ≤ maxLen ∧ zs.length = len ∧ (∀ i, i < len → w.cell? (x.add i) = some (.int k (zs.getD i 0))) ∧ ∀ n ∈ zs, (Lit.int k n).wf = true
section
variable {H : Type} {enc : TypeId × Value → H} {P : Program} {w : World} {base : Nat} {spare : Nat → Bool} {held : Bool}
theorem open_row {k : IntKind} {t e : TypeId} {a0 : Option Addr} {len0 cap0 : Nat} {d : DataW H} {p : List MemPlace} (ht : P.underlying t = some (.slice e)) (he : P.underlying e = some (.int k)) (hC : P.cellsOf e = 1)
    (h : DataW.Trod enc P w base spare held t (.slice a0 len0 cap0) d p) : ∃ zs, IsRow k w a0 len0 cap0 zs := by
  obtain ⟨fuel, hf⟩ := h
  rcases open_ints ht he hC hf with ⟨hcs, _⟩ | ⟨x, l, c, zs, hcs, _, hl, hm, hz, _, hcell, hwz⟩
  · simp [Value.cells] at hcs
    obtain ⟨rfl, rfl, rfl⟩ := hcs
    exact ⟨[], .inl ⟨rfl, rfl, rfl, rfl⟩⟩
  · simp [Value.cells] at hcs
    obtain ⟨rfl, rfl, rfl⟩ := hcs
    have hlz : len0 ≤ zs.length := by rw [hz]; split <;> omega
    refine ⟨zs.take len0, .inr ⟨_, rfl, hl, hm, by simp; omega, fun i hi => ?_, fun n hn => hwz n (List.mem_of_mem_take hn)⟩⟩
    rw [hcell i (by omega)]
    simp [List.getD, List.getElem?_take, hi]
end

theorem quiet_left {P : Program} {f : FuncId} {args : Array Value} {w : World} {n : Nat} {v : Value}
    (h : Calls P f args (w.drewN n) fun e w' => e = .returned v ∧ w.drewN n = w') : Calls P f args (w.drewN n) fun e w'' => e = .returned v ∧ ∃ m, w'' = w.drewN m :=
  h.mono fun _ _ ⟨he, hm⟩ => ⟨he, n, hm.symm⟩
theorem quiet_add_left {P : Program} {f : FuncId} {args : Array Value} {w : World} {a n : Nat} {v : Value}
    (h : Calls P f args (w.drewN (a + n)) fun e w' => e = .returned v ∧ w.drewN (a + n) = w') :
    Calls P f args (w.drewN (a + n)) fun e w'' => e = .returned v ∧ ∃ m, w'' = w.drewN (a + m) :=
  h.mono fun _ _ ⟨he, hm⟩ => ⟨he, n, hm.symm⟩

end Go.Proofs.YtfbfiikomlnllaaGreatDoor
