/- Contracts and lemmas for the proofs of this seat: List. -/
import Derived.Test.YticeebocckeedaaBase
import Derived.Test.YticeebocckeedaaNum
import Derived.Lib.Hide
import Derived.BigQuiet
import Derived.Deep.QuietTactic
import Derived.Deep.OwnRows
import Derived.Deep.LoopGhost
namespace Go.Proofs.Yticeebocckeedaa
open Go.RowKit Go.Deep
set_option maxHeartbeats 2000000
set_option linter.unusedVariables false
set_option linter.unusedSimpArgs false

def Ints (k : IntKind) (w : World) (p : Option Addr) (n : Nat) (zs : List Int) : Prop :=
  zs.length = n ∧ n ≤ maxLen ∧ (0 < n → ∃ b off, p = some ⟨b, off, none⟩ ∧ ∀ i, i < n → w.cell? ⟨b, off + i, none⟩ = some (.int k (zs.getD i 0)))
theorem IsRow.ints {k : IntKind} {w : World} {p : Option Addr} {len cap : Nat} {zs : List Int} (h : IsRow k w p len cap zs) : Ints k w p len zs := by
  rcases h with ⟨rfl, rfl, rfl, rfl⟩ | ⟨x, rfl, hl, hm, hz, hcell, _⟩
  · exact ⟨rfl, by simp [maxLen], by omega⟩
  · refine ⟨hz, by omega, fun hp => ?_⟩
    obtain ⟨b, off, spot⟩ := x
    have hc := hcell 0 hp
    have hspot : spot = none := by simpa [Addr.add] using World.cell?_spot hc
    subst hspot
    refine ⟨b, off, rfl, fun i hi => ?_⟩
    have h := hcell i hi
    by_cases hi0 : i = 0
    · subst hi0; simpa [Addr.add] using h
    · simpa [Addr.add, hi0] using h
theorem Ints.keep {k : IntKind} {w w' : World} {p : Option Addr} {n : Nat} {zs : List Int} (h : Ints k w p n zs) (hb : Below w.heap.size w w') : Ints k w' p n zs := by
  refine ⟨h.1, h.2.1, fun hp => ?_⟩
  obtain ⟨b, off, e, hc⟩ := h.2.2 hp
  exact ⟨b, off, e, fun i hi => (hb.cell (p := ⟨b, off + i, none⟩) (World.block_lt_of_cell? w _ (hc i hi))).trans (hc i hi)⟩
theorem Ints.own {k : IntKind} {w w' : World} {p : Option Addr} {n : Nat} {zs : List Int} (h : Ints k w p n zs) (hb : Own w w') : Ints k w' p n zs := h.keep hb
theorem ints_of_row {k : IntKind} {w : World} {g : Nat} {t : TypeId} {n : Nat} {zs : List Int} (h : w.rowIs g t n (fun i => .int k (zs.getD i 0))) (hz : zs.length = n) (hn : n ≤ maxLen) : Ints k w (some ⟨g, 0, none⟩) n zs :=
  ⟨hz, hn, fun _ => ⟨g, 0, rfl, fun i hi => by simpa using h.cell hi⟩⟩
theorem row_keep {w w' : World} {g : Nat} {t : TypeId} {n : Nat} {f : Nat → Value} (h : w.rowIs g t n f) (hb : Own w w') : w'.rowIs g t n f := h.of_block (Below.block hb g h.lt)
/-- a new row of integers, handed back as a slice -/
def NewInts (t : TypeId) (w : World) (n : Nat) (zs : List Int) (e : Ending) (w' : World) : Prop :=
  ∃ g, e = .returned (.slice (some ⟨g, 0, none⟩) n n) ∧ w.heap.size ≤ g ∧ w'.rowIs g t n (fun i => .int .i64 (zs.getD i 0)) ∧ Below w.heap.size w w'
theorem info_row {P : Program} {t : TypeId} {x : Option Value × Nat × Nat} (h : (P.info? t).map (fun i => (i.zero, i.size, i.bytes)) = some x) : (P.info? t).map (fun i => (i.zero, i.size, i.bytes)) = some x := h

theorem copy_step {w : World} {g : Nat} {t : TypeId} {n k : Nat} {zs : List Int} (h : w.rowIs g t n (fun j => .int .i64 (if j < k then zs.getD j 0 else 0))) :
    (w.setCell ⟨g, k, none⟩ (.int .i64 (zs.getD k 0))).rowIs g t n (fun j => .int .i64 (if j < k + 1 then zs.getD j 0 else 0)) :=
  (h.set k _).congr fun j hj => by
    by_cases e : j = k
    · subst e; simp
    · rw [if_neg e]
      by_cases c : j < k
      · rw [if_pos c, if_pos (by omega)]
      · rw [if_neg c, if_neg (by omega)]
theorem l_toInt64S (p : Option Addr) (n cap : Nat) (zs : List Int) (w : World) (hin : Ints .i64 w p n zs) (hn : n ≤ 1048576) :
    Calls Try.prog 29 #[.slice p n cap] w (NewInts 2 w n zs) := by
  have hmk := run_make_row' (P := Try.prog) 44 2 (.int .i64 0) 8 Try.underlying44 (by kernel_rfl) rfl .i64 .i64 n (by omega) (by omega)
  have hrow0 := World.rowIs_made w (.int .i64 0) n 2
  have hown0 : Own w (w.alloc (Obj.cells (madeCells #[Value.int IntKind.i64 0] n) 2)) := (Own.start w).alloc _
  go_enter Try.func29, Try.ntmps29
  go_wp2
  go_loopw [4] (fun i wr => ∃ k : Nat, k ≤ n ∧ i = .int .i64 k ∧ wr.rowIs w.heap.size 2 n (fun j => .int .i64 (if j < k then zs.getD j 0 else 0)) ∧ Own w wr) (fun i _ => n - (intOf i).toNat)
  case atStart => exact ⟨0, Nat.zero_le _, rfl, hrow0.congr (fun i hi => by simp), hown0⟩
  case round =>
    obtain ⟨k, hk, rfl, hrow, hown⟩ := hrel
    by_cases hlt : k < n
    · obtain ⟨b, off, rfl, hc⟩ := (hin.own hown).2.2 (by omega)
      have hck := hc k hlt
      have hrk := hrow.cell hlt
      have hfk := hrow.frozen k
      have hstep := Lib.hid (copy_step hrow)
      have hlen : (k : Int) < n := by omega
      have HR := Lib.hid hrow
      have HO := Lib.hid hown
      have hin' := Lib.hid hin
      clear hc hin hrow hown hmk hrow0 hown0
      go_wp2
      go_roundw
      case rel => exact ⟨k + 1, by omega, by go_num, by first | exact hstep.out | simpa using hstep.out, HO.out.setCell (Nat.le_refl _) _⟩
      case measure => simp [intOf]; omega
    · obtain rfl : k = n := by omega
      have hrow' : wr.rowIs w.heap.size 2 k (fun i => .int .i64 (zs.getD i 0)) := hrow.congr (fun i hi => by simp [hi])
      have HR := Lib.hid hrow'
      have HO := Lib.hid hown
      clear hin hrow hrow' hown hmk hrow0 hown0
      go_wp2
      go_ret
      exact ⟨w.heap.size, rfl, Nat.le_refl _, HR.out, HO.out.below⟩

theorem l_eqInt64S (p q : Option Addr) (n c1 c2 : Nat) (zs : List Int) (w : World) (hp : Ints .i64 w p n zs) (hq : Ints .i64 w q n zs) :
    Calls Try.prog 31 #[.slice p n c1, .slice q n c2] w fun en w' => en = .returned (.bool true) ∧ Below w.heap.size w w' := by
  have hn := hp.2.1
  unfold maxLen at hn
  go_enter Try.func31, Try.ntmps31
  go_wp2
  go_loopw [5] (fun i wr => ∃ k : Nat, k ≤ n ∧ i = .int .i64 k ∧ Own w wr) (fun i _ => n - (intOf i).toNat)
  case atStart => exact ⟨0, Nat.zero_le _, rfl, Own.start _⟩
  case round =>
    obtain ⟨k, hk, rfl, hown⟩ := hrel
    by_cases hlt : k < n
    · obtain ⟨b, off, rfl, hc⟩ := (hp.own hown).2.2 (by omega)
      obtain ⟨b2, off2, rfl, hc2⟩ := (hq.own hown).2.2 (by omega)
      have hck := hc k hlt
      have hck2 := hc2 k hlt
      have hlen : (k : Int) < n := by omega
      have HO := Lib.hid hown
      have Hp := Lib.hid hp
      have Hq := Lib.hid hq
      clear hc hc2 hp hq hown
      go_wp2
      go_quiet (fail)
      go_wp2
      go_roundw
      case rel => exact ⟨k + 1, by omega, by go_num, HO.out.drewN _⟩
      case measure => simp [intOf]; omega
    · obtain rfl : k = n := by omega
      clear hp hq
      go_wp2
      go_ret
      exact ⟨rfl, hown.below⟩

end Go.Proofs.Yticeebocckeedaa
