/- Contracts and lemmas for the proofs of this seat: LLaw. -/
import Derived.Test.YtfbfiikomlnllaaGreatDoorBase
import Derived.Test.YtfbfiikomlnllaaGreatDoorNum
import Derived.Test.YtfbfiikomlnllaaGreatDoorLawKit
import Derived.Test.YtfbfiikomlnllaaGreatDoorDraw
import Derived.Test.YtfbfiikomlnllaaGreatDoorDice
import Derived.Test.YtfbfiikomlnllaaGreatDoorSeg
import Derived.Test.YtfbfiikomlnllaaGreatDoorList
import Derived.Test.YtfbfiikomlnllaaGreatDoorLay
import Derived.Test.YtfbfiikomlnllaaGreatDoorLay2
import Derived.Test.YtfbfiikomlnllaaGreatDoorLay3
import Derived.Test.YtfbfiikomlnllaaGreatDoorLDraw2
import Derived.Lib.Hide
namespace Go.Proofs.YtfbfiikomlnllaaGreatDoor
open Go.RowKit
set_option maxHeartbeats 2000000
set_option linter.unusedVariables false
set_option linter.unusedSimpArgs false

structure Lb (W : World) (k : Nat) (q : Option Addr) (m c : Nat) (zs : List Seg) : Prop where
  blk : W.heap[k]? = some (.cells #[.slice q m c] 24 (0, 0))
  seg : Segs W q m zs
section
variable {W W' : World} {k m c : Nat} {q : Option Addr} {zs : List Seg}
theorem Lb.lt (h : Lb W k q m c zs) : k < W.heap.size := (Array.getElem?_eq_some_iff.1 h.blk).1
theorem Lb.cell (h : Lb W k q m c zs) : W.cell? ⟨k, 0, none⟩ = some (.slice q m c) := by simp [World.cell?, h.blk]
theorem Lb.free (h : Lb W k q m c zs) : W.frozen? ⟨k, 0, none⟩ = false := by simp [World.frozen?, h.blk]
theorem Lb.keep (h : Lb W k q m c zs) (hb : Below W.heap.size W W') : Lb W' k q m c zs := ⟨(hb.block k h.lt).trans h.blk, h.seg.keep hb⟩
theorem Lb.alloc (h : Lb W k q m c zs) (o : Obj) : Lb (W.alloc o) k q m c zs := h.keep ((Below.refl _ _).alloc (Nat.le_refl _) o)
theorem Lb.drew (h : Lb W k q m c zs) : Lb W.drew k q m c zs := ⟨h.blk, h.seg⟩
theorem Lb.new (h : Segs W q m zs) : Lb (W.alloc (.cells #[.slice q m c] 24)) W.heap.size q m c zs :=
  ⟨World.alloc_heap_new W _, h.keep ((Below.refl _ _).alloc (Nat.le_refl _) _)⟩
end
theorem rolled {W W1 W2 : World} {d : Nat} (hb : Below W.heap.size W W1) (hd : W.heap.size ≤ d) (hO : Only d W1 W2) : Below W.heap.size W W2 := hO.below hb hd

end Go.Proofs.YtfbfiikomlnllaaGreatDoor
