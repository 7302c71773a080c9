/- Contracts and lemmas for the proofs of this seat: Base. -/
import Derived.WalkKit
import Derived.ProofKit
import Derived.OpenShut
import Derived.ShutString
import Derived.ChangeOld
import Derived.Below
import Derived.Lib.SmallJoins
import Derived.Deep.Slices
import Derived.Deep.Draws
namespace Go.Proofs.Ytinngiopcmfmnaa
open Go.ChangeShapes Go.WideShapes Go.ChangeAt Go.RowKit Go.Joins Go.Deep
set_option linter.unusedVariables false
set_option linter.unusedSimpArgs false

theorem ret_bool {a b : Bool} (h : a = b) : Ending.returned (.bool a) = .returned (.bool b) := by rw [h]
theorem ret_int {k : IntKind} {a b : Int} (h : a = b) : Ending.returned (.int k a) = .returned (.int k b) := by rw [h]
theorem ret_int2 {k : IntKind} {a b c d : Int} (h : a = c) (g : b = d) : Ending.returned (.tuple #[.int k a, .int k b]) = .returned (.tuple #[.int k c, .int k d]) := by rw [h, g]

def At (B : Nat) (W0 W : World) : Prop := B ≤ W.heap.size ∧ Below B W0 W
theorem At.start (W : World) : At W.heap.size W W := ⟨Nat.le_refl _, Below.refl _ _⟩
theorem At.alloc {B : Nat} {W0 W : World} (h : At B W0 W) (o : Obj) : At B W0 (W.alloc o) := ⟨Nat.le_trans h.1 (by simp), h.2.alloc h.1 o⟩
theorem At.drew {B : Nat} {W0 W : World} (h : At B W0 W) : At B W0 W.drew := ⟨h.1, h.2.drew⟩
theorem At.setCell {B : Nat} {W0 W : World} (h : At B W0 W) {p : Addr} (hp : B ≤ p.block) (u : Value) : At B W0 (W.setCell p u) := ⟨by simpa [World.setCell] using h.1, h.2.setCell hp u⟩
theorem At.join {B : Nat} {W0 W w' : World} (h : At B W0 W) (hb : Below W.heap.size W w') : At B W0 w' := ⟨Nat.le_trans h.1 hb.size, h.2.trans (hb.mono h.1)⟩
theorem At.kept {B : Nat} {W0 W : World} (h : At B W0 W) : (∀ b o, b < B → W.cell? ⟨b, o, none⟩ = W0.cell? ⟨b, o, none⟩) ∧ (∀ b o, b < B → W.frozen? ⟨b, o, none⟩ = W0.frozen? ⟨b, o, none⟩) ∧
    (∀ b, b < B → b < W.heap.size) ∧ (∀ b, b < B → b < W.heap.size + 1) ∧ (∀ b, b < B → b < W.heap.size + 1 + 1) ∧ (∀ b, b < B → b < W.heap.size + 1 + 1 + 1) ∧ (∀ b, b < B → ¬ W.heap.size = b) :=
  ⟨fun b o hb => h.2.cell (p := ⟨b, o, none⟩) hb, fun b o hb => h.2.frozen (p := ⟨b, o, none⟩) hb, fun b hb => Nat.lt_of_lt_of_le hb h.1, fun b hb => by have := h.1; omega, fun b hb => by have := h.1; omega, fun b hb => by have := h.1; omega, fun b hb => by have := h.1; omega⟩
theorem At.below {B : Nat} {W0 W : World} (h : At B W0 W) (hB : B = W0.heap.size) : Below W0.heap.size W0 W := hB ▸ h.2
theorem bto {w W w' : World} (h : Below w.heap.size w W) (hb : Below W.heap.size W w') : Below w.heap.size w w' := h.trans (hb.mono h.size)
theorem balloc {w W : World} (h : Below w.heap.size w W) (o : Obj) : Below w.heap.size w (W.alloc o) := h.alloc h.size o
theorem bset {w W : World} (h : Below w.heap.size w W) {p : Addr} (hp : w.heap.size ≤ p.block) (u : Value) : Below w.heap.size w (W.setCell p u) := h.setCell hp u
theorem lt_2 (n : Nat) : n < n + 1 + 1 := by omega
theorem lt_3 (n : Nat) : n < n + 1 + 1 + 1 := by omega
theorem lt_4 (n : Nat) : n < n + 1 + 1 + 1 + 1 := by omega
theorem lt_5 (n : Nat) : n < n + 1 + 1 + 1 + 1 + 1 := by omega
theorem lt_6 (n : Nat) : n < n + 1 + 1 + 1 + 1 + 1 + 1 := by omega

section
variable {H : Type} {enc : TypeId × Value → H} {P : Program} {w : World} {base : Nat} {spare : Nat → Bool} {held : Bool}
theorem trod_iv {t : TypeId} {f0 f1 : Field} {fuel : Nat} {cs : List Value} {x : DataW H × List MemPlace} (hs : P.underlying t = some (.struct #[f0, f1]))
    (hone : oneCellFields P #[f0, f1] = true) (hC : P.cellsOf t = 2) (h0 : P.underlying f0.type = some (.int .i64)) (h1 : P.underlying f1.type = some (.int .i64))
    (h : DataW.trod enc P w base spare held fuel t cs = some x) :
    ∃ a b : Int, cs = [.int .i64 a, .int .i64 b] ∧ (Lit.int .i64 a).wf = true ∧ (Lit.int .i64 b).wf = true := by
  obtain ⟨y0, y1, n, _, hl, k0, k1⟩ := trod_struct2 hs h
  obtain ⟨o0, q0⟩ := hone_of hone 0 f0 rfl
  obtain ⟨o1, q1⟩ := hone_of hone 1 f1 rfl
  rw [hC] at hl
  rw [o0, q0] at k0
  rw [o1, q1] at k1
  match cs, hl with
  | [c0, c1], _ =>
    obtain ⟨a, ea, _, wa⟩ := DataW.trod_int h0 k0
    obtain ⟨b, eb, _, wb⟩ := DataW.trod_int h1 k1
    simp at ea eb
    exact ⟨a, b, by rw [ea, eb], wa, wb⟩

theorem open_iv {r : Reach} {b0 : Nat} {t : TypeId} {f0 f1 : Field} {v : Value} {d : DataW H} {p : List MemPlace} (hs : P.underlying t = some (.struct #[f0, f1]))
    (hone : oneCellFields P #[f0, f1] = true) (hC : P.cellsOf t = 2) (h0 : P.underlying f0.type = some (.int .i64)) (h1 : P.underlying f1.type = some (.int .i64))
    (hv : Value.okWide P w r b0 t v) (h : DataW.Trod enc P w base spare held t v d p) :
    ∃ a b : Int, v = .agg #[.int .i64 a, .int .i64 b] ∧ (Lit.int .i64 a).wf = true ∧ (Lit.int .i64 b).wf = true := by
  obtain ⟨⟨l⟩, rfl, hsz⟩ := okWide_struct hs hv
  obtain ⟨fuel, hf⟩ := h
  obtain ⟨a, b, hl, wa, wb⟩ := trod_iv hs hone hC h0 h1 hf
  simp [Value.cells] at hl
  exact ⟨a, b, by rw [hl], wa, wb⟩
end

def IsRow (k : IntKind) (w : World) (a : Option Addr) (len cap : Nat) (zs : List Int) : Prop :=
  (a = none ∧ len = 0 ∧ cap = 0 ∧ zs = []) ∨
  ∃ x, a = some x ∧ len ≤ cap ∧ cap ≤ maxLen ∧ zs.length = len ∧ (∀ i, i < len → w.cell? (x.add i) = some (.int k (zs.getD i 0))) ∧ ∀ n ∈ zs, (Lit.int k n).wf = true
section
variable {H : Type} {enc : TypeId × Value → H} {P : Program} {w : World} {base : Nat} {spare : Nat → Bool} {held : Bool}
theorem open_row {k : IntKind} {t e : TypeId} {a0 : Option Addr} {len0 cap0 : Nat} {d : DataW H} {p : List MemPlace} (ht : P.underlying t = some (.slice e)) (he : P.underlying e = some (.int k)) (hC : P.cellsOf e = 1)
    (h : DataW.Trod enc P w base spare held t (.slice a0 len0 cap0) d p) : ∃ zs, IsRow k w a0 len0 cap0 zs := by
  obtain ⟨fuel, hf⟩ := h
  rcases open_ints ht he hC hf with ⟨hcs, _⟩ | ⟨x, l, c, zs, hcs, _, hl, hm, hz, _, hcell, hwz⟩
  · simp [Value.cells] at hcs
    obtain ⟨rfl, rfl, rfl⟩ := hcs
    exact ⟨[], .inl ⟨rfl, rfl, rfl, rfl⟩⟩
  · simp [Value.cells] at hcs
    obtain ⟨rfl, rfl, rfl⟩ := hcs
    have hlz : len0 ≤ zs.length := by rw [hz]; split <;> omega
    refine ⟨zs.take len0, .inr ⟨_, rfl, hl, hm, by simp; omega, fun i hi => ?_, fun n hn => hwz n (List.mem_of_mem_take hn)⟩⟩
    rw [hcell i (by omega)]
    simp [List.getD, List.getElem?_take, hi]
end

end Go.Proofs.Ytinngiopcmfmnaa
