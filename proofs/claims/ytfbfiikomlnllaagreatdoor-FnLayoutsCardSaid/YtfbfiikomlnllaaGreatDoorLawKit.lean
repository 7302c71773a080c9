/- Contracts and lemmas for the proofs of this seat: LawKit. -/
import Derived.Test.YtfbfiikomlnllaaGreatDoorBase
import Derived.Test.YtfbfiikomlnllaaGreatDoorNum
import Derived.Lib.Hide
namespace Go.Proofs.YtfbfiikomlnllaaGreatDoor
open Go.RowKit
set_option maxHeartbeats 2000000
set_option linter.unusedVariables false
set_option linter.unusedSimpArgs false

structure Blk (W : World) (k : Nat) (l : List Int) : Prop where
  lt : k < W.heap.size
  cell : ∀ i x, l[i]? = some x → W.cell? ⟨k, i, none⟩ = some (.int .i64 x)
  free : ∀ i, i < l.length → W.frozen? ⟨k, i, none⟩ = false
theorem Blk.alloc {W : World} {k : Nat} {l : List Int} (h : Blk W k l) (o : Obj) : Blk (W.alloc o) k l :=
  ⟨by have := h.lt; simp; omega, fun i x hi => by rw [World.cell?_alloc_lt _ _ _ h.lt]; exact h.cell i x hi, fun i hi => by
    rw [World.frozen?_alloc_old _ _ _ (Nat.ne_of_lt h.lt)]; exact h.free i hi⟩
theorem Blk.drew {W : World} {k : Nat} {l : List Int} (h : Blk W k l) : Blk W.drew k l := ⟨h.lt, h.cell, h.free⟩
theorem Blk.drewN {W : World} {k : Nat} {l : List Int} (h : Blk W k l) (n : Nat) : Blk (W.drewN n) k l := ⟨h.lt, h.cell, h.free⟩
theorem Blk.below {W W' : World} {k : Nat} {l : List Int} (h : Blk W k l) (hb : Below W.heap.size W W') : Blk W' k l :=
  ⟨Nat.lt_of_lt_of_le h.lt hb.size, fun i x hi => (hb.cell (p := ⟨k, i, none⟩) h.lt).trans (h.cell i x hi), fun i hi => (hb.frozen (p := ⟨k, i, none⟩) h.lt).trans (h.free i hi)⟩
theorem Blk.new (W : World) (l : List Int) (t : TypeId) : Blk (W.alloc (.cells (l.map (Value.int .i64)).toArray t)) W.heap.size l :=
  ⟨by simp, fun i x hi => by rw [World.cell?_alloc_new]; simp [hi], fun i hi => World.frozen?_alloc_new _ _ _ _⟩
/-- a law's state: w is kept, and these boxes hold these numbers -/
structure Lw (w W : World) (ks : List (Nat × List Int)) : Prop where
  own : Own w W
  blk : ∀ q ∈ ks, Blk W q.1 q.2
section
variable {w W : World} {ks : List (Nat × List Int)}
theorem Lw.start (w : World) : Lw w w [] := ⟨Own.start w, by simp⟩
theorem Lw.ofBelow {w' : World} (hb : Below w.heap.size w w') : Lw w w' [] := ⟨hb, by simp⟩
theorem Lw.alloc (h : Lw w W ks) (o : Obj) : Lw w (W.alloc o) ks := ⟨h.own.alloc o, fun q hq => (h.blk q hq).alloc o⟩
theorem Lw.drew (h : Lw w W ks) : Lw w W.drew ks := ⟨h.own.drew, fun q hq => (h.blk q hq).drew⟩
theorem Lw.drewN (h : Lw w W ks) (n : Nat) : Lw w (W.drewN n) ks := ⟨h.own.drewN n, fun q hq => (h.blk q hq).drewN n⟩
theorem Lw.below {W' : World} (h : Lw w W ks) (hb : Below W.heap.size W W') : Lw w W' ks := ⟨h.own.join hb, fun q hq => (h.blk q hq).below hb⟩
theorem Lw.new' {k : Nat} {l : List Int} {vs : List Value} {t : TypeId} (h : Lw w W ks) (hv : vs = l.map (Value.int .i64)) (hk : k = W.heap.size) : Lw w (W.alloc (.cells vs.toArray t)) ((k, l) :: ks) := by
  subst hv
  subst hk
  exact ⟨h.own.alloc _, fun r hr => by
    rcases List.mem_cons.1 hr with rfl | hr
    · exact Blk.new W l t
    · exact (h.blk r hr).alloc _⟩
theorem Lw.b (h : Lw w W ks) {k : Nat} {l : List Int} (hk : (k, l) ∈ ks) : Blk W k l := h.blk _ hk
end

end Go.Proofs.YtfbfiikomlnllaaGreatDoor
