/- Contracts and lemmas for the proofs of this seat: List. -/
import Derived.Test.YtfbfiikomlnllaaGreatDoorBase
import Derived.Test.YtfbfiikomlnllaaGreatDoorNum
import Derived.Lib.Hide
import Derived.BigQuiet
import Derived.Deep.QuietTactic
import Derived.Deep.OwnRows
import Derived.Deep.LoopGhost
namespace Go.Proofs.YtfbfiikomlnllaaGreatDoor
open Go.RowKit Go.Deep
set_option maxHeartbeats 2000000
set_option linter.unusedVariables false
set_option linter.unusedSimpArgs false

def Ints (k : IntKind) (w : World) (p : Option Addr) (n : Nat) (zs : List Int) : Prop :=
  zs.length = n ∧ n ≤ maxLen ∧ (0 < n → ∃ b off, p = some ⟨b, off, none⟩ ∧ ∀ i, i < n → w.cell? ⟨b, off + i, none⟩ = some (.int k (zs.getD i 0)))
theorem IsRow.ints {k : IntKind} {w : World} {p : Option Addr} {len cap : Nat} {zs : List Int} (h : IsRow k w p len cap zs) : Ints k w p len zs := by
  rcases h with ⟨rfl, rfl, rfl, rfl⟩ | ⟨x, rfl, hl, hm, hz, hcell, _⟩
  · exact ⟨rfl, by simp [maxLen], by omega⟩
  · refine ⟨hz, by omega, fun hp => ?_⟩
    obtain ⟨b, off, spot⟩ := x
    have hc := hcell 0 hp
    have hspot : spot = none := by simpa [Addr.add] using World.cell?_spot hc
    subst hspot
    refine ⟨b, off, rfl, fun i hi => ?_⟩
    have h := hcell i hi
    by_cases hi0 : i = 0
    · subst hi0; simpa [Addr.add] using h
    · simpa [Addr.add, hi0] using h
theorem Ints.keep {k : IntKind} {w w' : World} {p : Option Addr} {n : Nat} {zs : List Int} (h : Ints k w p n zs) (hb : Below w.heap.size w w') : Ints k w' p n zs := by
  refine ⟨h.1, h.2.1, fun hp => ?_⟩
  obtain ⟨b, off, e, hc⟩ := h.2.2 hp
  exact ⟨b, off, e, fun i hi => (hb.cell (p := ⟨b, off + i, none⟩) (World.block_lt_of_cell? w _ (hc i hi))).trans (hc i hi)⟩
theorem Ints.own {k : IntKind} {w w' : World} {p : Option Addr} {n : Nat} {zs : List Int} (h : Ints k w p n zs) (hb : Own w w') : Ints k w' p n zs := h.keep hb
theorem ints_of_row {k : IntKind} {w : World} {g : Nat} {t : TypeId} {n : Nat} {zs : List Int} (h : w.rowIs g t n (fun i => .int k (zs.getD i 0))) (hz : zs.length = n) (hn : n ≤ maxLen) : Ints k w (some ⟨g, 0, none⟩) n zs :=
  ⟨hz, hn, fun _ => ⟨g, 0, rfl, fun i hi => by simpa using h.cell hi⟩⟩
theorem row_keep {w w' : World} {g : Nat} {t : TypeId} {n : Nat} {f : Nat → Value} (h : w.rowIs g t n f) (hb : Own w w') : w'.rowIs g t n f := h.of_block (Below.block hb g h.lt)
/-- a new row of integers, handed back as a slice -/
def NewInts (t : TypeId) (w : World) (n : Nat) (zs : List Int) (e : Ending) (w' : World) : Prop :=
  ∃ g, e = .returned (.slice (some ⟨g, 0, none⟩) n n) ∧ w.heap.size ≤ g ∧ w'.rowIs g t n (fun i => .int .i64 (zs.getD i 0)) ∧ Below w.heap.size w w'
theorem info_row {P : Program} {t : TypeId} {x : Option Value × Nat × Nat} (h : (P.info? t).map (fun i => (i.zero, i.size, i.bytes)) = some x) : (P.info? t).map (fun i => (i.zero, i.size, i.bytes)) = some x := h

end Go.Proofs.YtfbfiikomlnllaaGreatDoor
