/- Contracts and lemmas for the proofs of this seat: Lay15. -/
import Derived.Test.YtfbfiikomlnllaaGreatDoorBase
import Derived.Test.YtfbfiikomlnllaaGreatDoorNum
import Derived.Test.YtfbfiikomlnllaaGreatDoorIv
import Derived.Test.YtfbfiikomlnllaaGreatDoorIv2
import Derived.Test.YtfbfiikomlnllaaGreatDoorDiv
import Derived.Test.YtfbfiikomlnllaaGreatDoorRoot
import Derived.Test.YtfbfiikomlnllaaGreatDoorEn
import Derived.Test.YtfbfiikomlnllaaGreatDoorSeg
import Derived.Test.YtfbfiikomlnllaaGreatDoorList
import Derived.Test.YtfbfiikomlnllaaGreatDoorLay
import Derived.Test.YtfbfiikomlnllaaGreatDoorLay2
import Derived.Test.YtfbfiikomlnllaaGreatDoorLay3
import Derived.Test.YtfbfiikomlnllaaGreatDoorLay12
import Derived.Test.YtfbfiikomlnllaaGreatDoorLay13
import Derived.Lib.Hide
import Derived.BigQuiet
import Derived.Deep.QuietTactic
import Derived.Deep.OwnRows
import Derived.Deep.LoopGhost
import Derived.Deep.RegionHeld3
import Derived.Deep.DeepCutAuto
import Derived.StillTailTactics
import Derived.Deep.AppendLies
import Derived.Deep.DrawnRows
import Derived.Outline
namespace Go.Proofs.YtfbfiikomlnllaaGreatDoor
open Go.RowKit Go.Deep
set_option maxHeartbeats 2000000
set_option linter.unusedVariables false
set_option linter.unusedSimpArgs false

attribute [local go_sem] lt_2 lt_3 lt_4 lt_5 lt_6 fld_lo fld_hi
/-- a block whose first n cells hold numbers -/
def RowC (w : World) (g : Nat) (t : TypeId) (n : Nat) (f : Nat → Int) : Prop := ∃ cur, w.heap[g]? = some (.cells cur t (0, 0)) ∧ n ≤ cur.size ∧ ∀ i, i < n → cur[i]? = some (.int .i64 (f i))
theorem RowC.lt {w : World} {g : Nat} {t : TypeId} {n : Nat} {f : Nat → Int} (h : RowC w g t n f) : g < w.heap.size := by
  obtain ⟨cur, h1, _⟩ := h
  exact (Array.getElem?_eq_some_iff.1 h1).1
theorem RowC.cell {w : World} {g : Nat} {t : TypeId} {n : Nat} {f : Nat → Int} (h : RowC w g t n f) {i : Nat} (hi : i < n) : w.cell? ⟨g, i, none⟩ = some (.int .i64 (f i)) := by
  obtain ⟨cur, h1, _, h3⟩ := h
  have := h3 i hi
  simp [World.cell?, h1, this]
theorem RowC.frozen {w : World} {g : Nat} {t : TypeId} {n : Nat} {f : Nat → Int} (h : RowC w g t n f) (i : Nat) : w.frozen? ⟨g, i, none⟩ = false := by
  obtain ⟨cur, h1, _⟩ := h
  simp [World.frozen?, h1]
theorem RowC.congr {w : World} {g : Nat} {t : TypeId} {n : Nat} {f f' : Nat → Int} (h : RowC w g t n f) (e : ∀ i, i < n → f i = f' i) : RowC w g t n f' := by
  obtain ⟨cur, h1, h2, h3⟩ := h
  exact ⟨cur, h1, h2, fun i hi => by rw [h3 i hi, e i hi]⟩
theorem RowC.of_block {w w' : World} {g : Nat} {t : TypeId} {n : Nat} {f : Nat → Int} (h : RowC w g t n f) (e : w'.heap[g]? = w.heap[g]?) : RowC w' g t n f := by
  obtain ⟨cur, h1, h2, h3⟩ := h
  exact ⟨cur, e.trans h1, h2, h3⟩
theorem RowC.set {w : World} {g : Nat} {t : TypeId} {n : Nat} {f : Nat → Int} (h : RowC w g t n f) (i : Nat) (x : Int) : RowC (w.setCell ⟨g, i, none⟩ (.int .i64 x)) g t n (fun j => if j = i then x else f j) := by
  obtain ⟨cur, h1, h2, h3⟩ := h
  refine ⟨cur.setIfInBounds i (.int .i64 x), Go.Joins.block_setCell h1 _, by simpa using h2, fun j hj => ?_⟩
  rw [Array.getElem?_setIfInBounds]
  by_cases e : i = j
  · subst e
    simp
    omega
  · have e2 : ¬ j = i := fun h => e h.symm
    simp only [if_neg e, if_neg e2]
    exact h3 j hj
/-- what changes under a store into q's block, and new blocks -/
structure Chg (q : Option Addr) (w w' : World) : Prop where
  os : w'.os = w.os
  tape : w'.tape = w.tape
  output : w'.output = w.output
  size : w.heap.size ≤ w'.heap.size
  block : ∀ j, j < w.heap.size → (∀ a, q = some a → j ≠ a.block) → w'.heap[j]? = w.heap[j]?
theorem Chg.refl (q : Option Addr) (w : World) : Chg q w w := ⟨rfl, rfl, rfl, Nat.le_refl _, fun _ _ _ => rfl⟩
theorem Chg.trans {q : Option Addr} {u v w : World} (h : Chg q u v) (k : Chg q v w) : Chg q u w :=
  ⟨k.os.trans h.os, k.tape.trans h.tape, k.output.trans h.output, Nat.le_trans h.size k.size, fun j hj hne => (k.block j (Nat.lt_of_lt_of_le hj h.size) hne).trans (h.block j hj hne)⟩
theorem Chg.of_below {q : Option Addr} {u v : World} (h : Below u.heap.size u v) : Chg q u v := ⟨h.os, h.tape, h.output, h.size, fun j hj _ => h.block j hj⟩
theorem Chg.drew {q : Option Addr} {u v : World} (h : Chg q u v) : Chg q u v.drew := ⟨h.os, h.tape, h.output, h.size, h.block⟩
theorem Chg.drewN {q : Option Addr} {u v : World} (h : Chg q u v) (n : Nat) : Chg q u (v.drewN n) := ⟨h.os, h.tape, h.output, h.size, h.block⟩
theorem Chg.setCell {g : Nat} {u v : World} (h : Chg (some ⟨g, 0, none⟩) u v) (i : Nat) (x : Value) : Chg (some ⟨g, 0, none⟩) u (v.setCell ⟨g, i, none⟩ x) :=
  ⟨h.os, h.tape, h.output, by simpa [World.setCell] using h.size, fun j hj hne => (Below.heap_setCell v ⟨g, i, none⟩ x j (hne ⟨g, 0, none⟩ rfl)).trans (h.block j hj hne)⟩
theorem Chg.below {q : Option Addr} {B : Nat} {u v : World} (h : Chg q u v) (hB : B ≤ u.heap.size) (hq : ∀ a, q = some a → B ≤ a.block) : Below B u v :=
  ⟨h.os, h.tape, h.output, h.size, fun j hj => h.block j (by omega) (fun a ha => by have := hq a ha; omega)⟩
/-- q: n elements of sz numbers each, in a block of the call's own (from B on) -/
def OwnQ (t : TypeId) (sz B : Nat) (w : World) (q : Option Addr) (n : Nat) (f : Nat → Int) : Prop :=
  n ≤ 16777216 ∧ (∀ a, q = some a → B ≤ a.block ∧ a.block < w.heap.size) ∧ (0 < n → ∃ g, q = some ⟨g, 0, none⟩ ∧ RowC w g t (n * sz) f)
theorem OwnQ.congr {t : TypeId} {sz B : Nat} {w : World} {q : Option Addr} {n : Nat} {f f' : Nat → Int} (h : OwnQ t sz B w q n f) (e : ∀ i, i < n * sz → f i = f' i) : OwnQ t sz B w q n f' := by
  obtain ⟨h1, h2, h3⟩ := h
  refine ⟨h1, h2, fun hn => ?_⟩
  obtain ⟨g, e1, hr⟩ := h3 hn
  exact ⟨g, e1, hr.congr e⟩
theorem OwnQ.keep {t : TypeId} {sz B : Nat} {w w' : World} {q : Option Addr} {n : Nat} {f : Nat → Int} (h : OwnQ t sz B w q n f) (hb : Below w.heap.size w w') : OwnQ t sz B w' q n f := by
  obtain ⟨h1, h2, h3⟩ := h
  refine ⟨h1, fun a ha => ⟨(h2 a ha).1, Nat.lt_of_lt_of_le (h2 a ha).2 hb.size⟩, fun hn => ?_⟩
  obtain ⟨g, e, hr⟩ := h3 hn
  exact ⟨g, e, hr.of_block (hb.block g hr.lt)⟩
theorem OwnQ.other {t : TypeId} {sz B : Nat} {w w' : World} {q q' : Option Addr} {n : Nat} {f : Nat → Int} (h : OwnQ t sz B w q n f) (hc : Chg q' w w') (hne : ∀ a b, q = some a → q' = some b → a.block ≠ b.block) : OwnQ t sz B w' q n f := by
  obtain ⟨h1, h2, h3⟩ := h
  refine ⟨h1, fun a ha => ⟨(h2 a ha).1, Nat.lt_of_lt_of_le (h2 a ha).2 hc.size⟩, fun hn => ?_⟩
  obtain ⟨g, e, hr⟩ := h3 hn
  exact ⟨g, e, hr.of_block (hc.block g hr.lt (fun b hb => hne ⟨g, 0, none⟩ b e hb))⟩
theorem OwnQ.ints {t : TypeId} {B : Nat} {w : World} {q : Option Addr} {n : Nat} {f : Nat → Int} (h : OwnQ t 1 B w q n f) : Ints .i64 w q n (rowI f n) := by
  refine ⟨rowI_len f n, by have := h.1; unfold maxLen; omega, fun hn => ?_⟩
  obtain ⟨g, e, hr⟩ := h.2.2 hn
  exact ⟨g, 0, e, fun i hi => by rw [Nat.zero_add, hr.cell (by omega), rowI_get f n i hi]⟩
theorem ownQ_of_own {t : TypeId} {sz B : Nat} {w : World} {v : Value} {n : Nat} {f : Nat → Int} (h : w.ownsRow B t sz v n (rowV f (n * sz))) (hn : n ≤ 16777216) : ∃ q c, v = .slice q n c ∧ OwnQ t sz B w q n f := by
  rcases h.2 with ⟨rfl, rfl⟩ | ⟨g, cap, cur, rfl, hB, hg, hnc, _, hsz, hxs⟩
  · exact ⟨none, 0, rfl, by omega, fun a ha => (by cases ha), fun h => by omega⟩
  · have hlt : g < w.heap.size := (Array.getElem?_eq_some_iff.1 hg).1
    refine ⟨_, cap, rfl, hn, fun a ha => by simp only [Option.some.injEq] at ha; subst ha; exact ⟨hB, hlt⟩, fun _ => ⟨g, rfl, cur, hg, by rw [hsz]; exact Nat.mul_le_mul_right _ hnc, fun i hi => ?_⟩⟩
    have h1 : (cur.toList.take (n * sz))[i]? = some (.int .i64 (f i)) := by rw [hxs]; exact rowV_get f _ i hi
    rw [List.getElem?_take_of_lt hi] at h1
    simpa using h1
theorem OwnQ.nil (t : TypeId) (sz B : Nat) (w : World) (f : Nat → Int) : OwnQ t sz B w none 0 f := ⟨by omega, fun a ha => (by cases ha), fun h => by omega⟩
/-- a row that is known whole -/
theorem ownQ_of_row {t : TypeId} {B : Nat} {w : World} {g n : Nat} {zs : List Seg} (h : w.rowIs g t (n * 7) (segRow zs n)) (hB : B ≤ g) (hn : n ≤ 16777216) : OwnQ t 7 B w (some ⟨g, 0, none⟩) n (fun j => if j / 7 < n then cellOf (sg zs (j / 7)) (j % 7) else 0) := by
  refine ⟨hn, fun a ha => by simp only [Option.some.injEq] at ha; subst ha; exact ⟨hB, h.lt⟩, fun _ => ⟨g, rfl, ?_⟩⟩
  obtain ⟨cur, h1, h2, h3⟩ := h
  exact ⟨cur, h1, by omega, fun i hi => h3 i hi⟩

end Go.Proofs.YtfbfiikomlnllaaGreatDoor
