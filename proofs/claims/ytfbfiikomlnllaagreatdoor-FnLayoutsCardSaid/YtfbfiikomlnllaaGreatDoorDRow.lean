/- Contracts and lemmas for the proofs of this seat: DRow. -/
import Derived.Test.YtfbfiikomlnllaaGreatDoorDraw3
import Derived.Test.YtfbfiikomlnllaaGreatDoorDraw2
import Derived.Test.YtfbfiikomlnllaaGreatDoorDraw
import Derived.Test.YtfbfiikomlnllaaGreatDoorBase
import Derived.Test.YtfbfiikomlnllaaGreatDoorNum
import Derived.Test.YtfbfiikomlnllaaGreatDoorIv
import Derived.Test.YtfbfiikomlnllaaGreatDoorIv2
import Derived.Test.YtfbfiikomlnllaaGreatDoorRoot
import Derived.Test.YtfbfiikomlnllaaGreatDoorEn
import Derived.Test.YtfbfiikomlnllaaGreatDoorSeg
import Derived.Test.YtfbfiikomlnllaaGreatDoorList
import Derived.Test.YtfbfiikomlnllaaGreatDoorLay
import Derived.Test.YtfbfiikomlnllaaGreatDoorLay2
import Derived.Test.YtfbfiikomlnllaaGreatDoorLay3
import Derived.Lib.Hide
import Derived.BigQuiet
import Derived.Deep.QuietTactic
import Derived.Deep.OwnRows
import Derived.Deep.LoopGhost
import Derived.OneCell
import Derived.Lib.SmallJoins
import Derived.StillTailTactics
import Derived.RangeFuncBox
import Derived.Deep.RegionHeld3
import Derived.Deep.DeepCutAuto
namespace Go.Proofs.YtfbfiikomlnllaaGreatDoor
open Go.RowKit Go.Deep
set_option maxHeartbeats 2000000
set_option linter.unusedVariables false
set_option linter.unusedSimpArgs false

def Row (W : World) (B : Nat) (t : TypeId) (sz : Nat) (v : Value) (m : Nat) : Prop := ∃ zs : List Int, W.ownsRow B t sz v m (zs.map (Value.int .i64))
section
variable {W W' : World} {B m sz : Nat} {t : TypeId} {v : Value}
theorem Row.blockwise (h : Row W B t sz v m) (hb : ∀ g, B ≤ g → g < W.heap.size → W'.heap[g]? = W.heap[g]?) : Row W' B t sz v m := by
  obtain ⟨zs, h1, h2⟩ := h
  refine ⟨zs, h1, ?_⟩
  rcases h2 with h2 | ⟨g, cap, cur, e, hB, hg, r⟩
  · exact .inl h2
  · exact .inr ⟨g, cap, cur, e, hB, (hb g hB (Array.getElem?_eq_some_iff.1 hg).1).trans hg, r⟩
theorem Row.below (h : Row W B t sz v m) (hb : Below W.heap.size W W') : Row W' B t sz v m := h.blockwise fun g _ hg => hb.block g hg
theorem Row.only {b : Nat} (h : Row W B t sz v m) (hO : Only b W W') (hb : b < B) : Row W' B t sz v m := h.blockwise fun g hB hg => hO.block g hg (by omega)
theorem Row.alloc (h : Row W B t sz v m) (o : Obj) : Row (W.alloc o) B t sz v m := h.below ((Below.refl _ _).alloc (Nat.le_refl _) o)
theorem Row.drew (h : Row W B t sz v m) : Row W.drew B t sz v m := h
theorem Row.drewN (h : Row W B t sz v m) (k : Nat) : Row (W.drewN k) B t sz v m := h
theorem Row.empty (W : World) (B : Nat) (t : TypeId) (sz : Nat) (hB : B ≤ W.heap.size) : Row (W.alloc (.cells #[] t)) B t sz (.slice (some ⟨W.heap.size, 0, none⟩) 0 0) 0 :=
  ⟨[], by simp, .inr ⟨W.heap.size, 0, #[], rfl, hB, World.alloc_heap_new W _, Nat.le_refl _, by unfold maxLen; omega, by simp, by simp⟩⟩
theorem Row.grown (zs : List Int) (x : Int) {g c : Nat} (h : W.ownsRow B t 1 (.slice (some ⟨g, 0, none⟩) (m + 1) c) (m + 1) (zs.map (Value.int .i64) ++ [.int .i64 x])) : Row W B t 1 (.slice (some ⟨g, 0, none⟩) (m + 1) c) (m + 1) :=
  ⟨zs ++ [x], by simpa using h⟩
theorem how_keepA {w : World} {B : Nat} {t : TypeId} {sz : Nat} {v : Value} {n : Nat} {xs : List Value} (h : w.ownsRow B t sz v n xs) (o : Obj) : (w.alloc o).ownsRow B t sz v n xs := h.alloc o
theorem ints_ofOwns {zs : List Int} (h : W.ownsRow B t 1 v m (zs.map (Value.int .i64))) (hm : m ≤ maxLen) : ∃ p c, v = .slice p m c ∧ Ints .i64 W p m zs := by
  obtain ⟨h1, h2⟩ := h
  simp only [List.length_map, Nat.mul_one] at h1
  rcases h2 with ⟨rfl, rfl⟩ | ⟨g, cap, cur, rfl, hB, hg, h3, h4, h5, h6⟩
  · exact ⟨none, 0, rfl, ⟨h1, by omega, fun h => absurd h (by omega)⟩⟩
  · refine ⟨_, cap, rfl, ⟨h1, hm, fun _ => ⟨g, 0, rfl, fun i hi => ?_⟩⟩⟩
    have e : cur.toList[i]? = some (.int .i64 (zs.getD i 0)) := by
      have : (cur.toList.take (m * 1))[i]? = (zs.map (Value.int .i64))[i]? := by rw [h6]
      rw [List.getElem?_take, if_pos (by omega)] at this
      rw [this]
      simp [List.getD_eq_getElem?_getD, List.getElem?_eq_getElem (show i < zs.length by omega)]
    simp only [World.cell?, hg, Nat.zero_add]
    simpa using e
theorem Row.ints (h : Row W B t 1 v m) (hm : m ≤ maxLen) : ∃ p c zs, v = .slice p m c ∧ Ints .i64 W p m zs ∧ ∀ g o, p = some ⟨g, o, none⟩ → B ≤ g := by
  obtain ⟨zs, h1, h2⟩ := h
  simp only [List.length_map, Nat.mul_one] at h1
  rcases h2 with ⟨rfl, rfl⟩ | ⟨g, cap, cur, rfl, hB, hg, h3, h4, h5, h6⟩
  · exact ⟨none, 0, zs, rfl, ⟨h1, by omega, fun h => absurd h (by omega)⟩, fun g o h => by simp at h⟩
  · refine ⟨_, cap, zs, rfl, ⟨h1, hm, fun _ => ⟨g, 0, rfl, fun i hi => ?_⟩⟩, fun g' o h => by simp at h; omega⟩
    have e : cur.toList[i]? = some (.int .i64 (zs.getD i 0)) := by
      have : (cur.toList.take (m * 1))[i]? = (zs.map (Value.int .i64))[i]? := by rw [h6]
      rw [List.getElem?_take, if_pos (by omega)] at this
      rw [this]
      simp [List.getD_eq_getElem?_getD, List.getElem?_eq_getElem (show i < zs.length by omega)]
    simp only [World.cell?, hg, Nat.zero_add]
    simpa using e
theorem Dw.row {b : Nat} {p : Option Addr} {n cap : Nat} {w : World} {ks : List (Nat × Nat)} (h : Dw b p n cap w W ks) (hB : Below B W W') (hb : b < B) (hw : w.heap.size ≤ B) (hks : ∀ q ∈ ks, q.1 < B) : Dw b p n cap w W' ks := by
  have hlt := h.src.lt
  refine ⟨h.base, ?_, ⟨hB.os.trans h.only.os, hB.tape.trans h.only.tape, hB.output.trans h.only.output, Nat.le_trans h.only.size hB.size, fun k hk hne => (hB.block k (by omega)).trans (h.only.block k hk hne)⟩, fun q hq => ⟨?_, (h.box q hq).2⟩⟩
  · obtain ⟨k, sd, h1, h2, h3, h4, h5, h6⟩ := h.src
    refine ⟨k, sd, (hB.block b hb).trans h1, h2, h3, h4, h5, fun hn => ?_⟩
    obtain ⟨pb, off, e, hpb, hc⟩ := h6 hn
    obtain ⟨pb', off', e', hc'⟩ := h.base.2 hn
    rw [e] at e'
    simp only [Option.some.injEq, Addr.mk.injEq, and_true] at e'
    obtain ⟨rfl, rfl⟩ := e'
    obtain ⟨_, _, hz'⟩ := hc' 0 hn
    have hl := World.block_lt_of_cell? w _ hz'
    simp only at hl
    refine ⟨pb, off, e, hpb, fun i hi => ?_⟩
    obtain ⟨z, hz, hcz⟩ := hc i hi
    exact ⟨z, hz, (hB.cell (p := ⟨pb, off + i, none⟩) (by simp only; omega)).trans hcz⟩
  · have hbx := (h.box q hq).1
    have hk := hks q hq
    exact ⟨Nat.lt_of_lt_of_le hbx.lt hB.size, fun i hi => by
      obtain ⟨x, hx⟩ := hbx.cell i hi
      exact ⟨x, (hB.cell (p := ⟨q.1, i, none⟩) hk).trans hx⟩, fun i hi => (hB.frozen (p := ⟨q.1, i, none⟩) hk).trans (hbx.free i hi)⟩
end
theorem ints_made {w' : World} {g n : Nat} {t : TypeId} (h : w'.rowIs g t n (fun _ => .int .i64 0)) (hn : n ≤ maxLen) : Ints .i64 w' (some ⟨g, 0, none⟩) n (List.replicate n 0) :=
  ⟨by simp, hn, fun _ => ⟨g, 0, rfl, fun i hi => by
    have := h.cell hi
    simpa [List.getD_eq_getElem?_getD, hi] using this⟩⟩

end Go.Proofs.YtfbfiikomlnllaaGreatDoor
