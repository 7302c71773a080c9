/- Contracts and lemmas for the proofs of this seat: List. -/
import Derived.Test.YtgkfnggnhphboaaBase
import Derived.Test.YtgkfnggnhphboaaNum
import Derived.Lib.Hide
import Derived.BigQuiet
import Derived.Deep.QuietTactic
import Derived.Deep.OwnRows
import Derived.Deep.LoopGhost
namespace Go.Proofs.Ytgkfnggnhphboaa
open Go.RowKit Go.Deep
set_option maxHeartbeats 2000000
set_option linter.unusedVariables false
set_option linter.unusedSimpArgs false

def Ints (k : IntKind) (w : World) (p : Option Addr) (n : Nat) (zs : List Int) : Prop :=
  zs.length = n ∧ n ≤ maxLen ∧ (0 < n → ∃ b off, p = some ⟨b, off, none⟩ ∧ ∀ i, i < n → w.cell? ⟨b, off + i, none⟩ = some (.int k (zs.getD i 0)))
theorem IsRow.ints {k : IntKind} {w : World} {p : Option Addr} {len cap : Nat} {zs : List Int} (h : IsRow k w p len cap zs) : Ints k w p len zs := by
  rcases h with ⟨rfl, rfl, rfl, rfl⟩ | ⟨x, rfl, hl, hm, hz, hcell, _⟩
  · exact ⟨rfl, by simp [maxLen], by omega⟩
  · refine ⟨hz, by omega, fun hp => ?_⟩
    obtain ⟨b, off, spot⟩ := x
    have hc := hcell 0 hp
    have hspot : spot = none := by simpa [Addr.add] using World.cell?_spot hc
    subst hspot
    refine ⟨b, off, rfl, fun i hi => ?_⟩
    have h := hcell i hi
    by_cases hi0 : i = 0
    · subst hi0; simpa [Addr.add] using h
    · simpa [Addr.add, hi0] using h
theorem Ints.keep {k : IntKind} {w w' : World} {p : Option Addr} {n : Nat} {zs : List Int} (h : Ints k w p n zs) (hb : Below w.heap.size w w') : Ints k w' p n zs := by
  refine ⟨h.1, h.2.1, fun hp => ?_⟩
  obtain ⟨b, off, e, hc⟩ := h.2.2 hp
  exact ⟨b, off, e, fun i hi => (hb.cell (p := ⟨b, off + i, none⟩) (World.block_lt_of_cell? w _ (hc i hi))).trans (hc i hi)⟩
theorem Ints.own {k : IntKind} {w w' : World} {p : Option Addr} {n : Nat} {zs : List Int} (h : Ints k w p n zs) (hb : Own w w') : Ints k w' p n zs := h.keep hb
theorem ints_of_row {k : IntKind} {w : World} {g : Nat} {t : TypeId} {n : Nat} {zs : List Int} (h : w.rowIs g t n (fun i => .int k (zs.getD i 0))) (hz : zs.length = n) (hn : n ≤ maxLen) : Ints k w (some ⟨g, 0, none⟩) n zs :=
  ⟨hz, hn, fun _ => ⟨g, 0, rfl, fun i hi => by simpa using h.cell hi⟩⟩
theorem row_keep {w w' : World} {g : Nat} {t : TypeId} {n : Nat} {f : Nat → Value} (h : w.rowIs g t n f) (hb : Own w w') : w'.rowIs g t n f := h.of_block (Below.block hb g h.lt)
/-- a new row of integers, handed back as a slice -/
def NewInts (t : TypeId) (w : World) (n : Nat) (zs : List Int) (e : Ending) (w' : World) : Prop :=
  ∃ g, e = .returned (.slice (some ⟨g, 0, none⟩) n n) ∧ w.heap.size ≤ g ∧ w'.rowIs g t n (fun i => .int .i64 (zs.getD i 0)) ∧ Below w.heap.size w w'
theorem info_row {P : Program} {t : TypeId} {x : Option Value × Nat × Nat} (h : (P.info? t).map (fun i => (i.zero, i.size, i.bytes)) = some x) : (P.info? t).map (fun i => (i.zero, i.size, i.bytes)) = some x := h

theorem copy_step {w : World} {g : Nat} {t : TypeId} {n k : Nat} {zs : List Int} (h : w.rowIs g t n (fun j => .int .i64 (if j < k then zs.getD j 0 else 0))) :
    (w.setCell ⟨g, k, none⟩ (.int .i64 (zs.getD k 0))).rowIs g t n (fun j => .int .i64 (if j < k + 1 then zs.getD j 0 else 0)) :=
  (h.set k _).congr fun j hj => by
    by_cases e : j = k
    · subst e; simp
    · rw [if_neg e]
      by_cases c : j < k
      · rw [if_pos c, if_pos (by omega)]
      · rw [if_neg c, if_neg (by omega)]
theorem l_toInt64S (p : Option Addr) (n cap : Nat) (zs : List Int) (w : World) (hin : Ints .i64 w p n zs) (hn : n ≤ 1048576) :
    Calls Try.prog 44 #[.slice p n cap] w (NewInts 2 w n zs) := by
  have hmk := run_make_row' (P := Try.prog) 40 2 (.int .i64 0) 8 Try.underlying40 (by kernel_rfl) rfl .i64 .i64 n (by omega) (by omega)
  have hrow0 := World.rowIs_made w (.int .i64 0) n 2
  have hown0 : Own w (w.alloc (Obj.cells (madeCells #[Value.int IntKind.i64 0] n) 2)) := (Own.start w).alloc _
  go_enter Try.func44, Try.ntmps44
  go_wp2
  go_loopw [4] (fun i wr => ∃ k : Nat, k ≤ n ∧ i = .int .i64 k ∧ wr.rowIs w.heap.size 2 n (fun j => .int .i64 (if j < k then zs.getD j 0 else 0)) ∧ Own w wr) (fun i _ => n - (intOf i).toNat)
  case atStart => exact ⟨0, Nat.zero_le _, rfl, hrow0.congr (fun i hi => by simp), hown0⟩
  case round =>
    obtain ⟨k, hk, rfl, hrow, hown⟩ := hrel
    by_cases hlt : k < n
    · obtain ⟨b, off, rfl, hc⟩ := (hin.own hown).2.2 (by omega)
      have hck := hc k hlt
      have hrk := hrow.cell hlt
      have hfk := hrow.frozen k
      have hstep := Lib.hid (copy_step hrow)
      have hlen : (k : Int) < n := by omega
      have HR := Lib.hid hrow
      have HO := Lib.hid hown
      have hin' := Lib.hid hin
      clear hc hin hrow hown hmk hrow0 hown0
      go_wp2
      go_roundw
      case rel => exact ⟨k + 1, by omega, by go_num, by first | exact hstep.out | simpa using hstep.out, HO.out.setCell (Nat.le_refl _) _⟩
      case measure => simp [intOf]; omega
    · obtain rfl : k = n := by omega
      have hrow' : wr.rowIs w.heap.size 2 k (fun i => .int .i64 (zs.getD i 0)) := hrow.congr (fun i hi => by simp [hi])
      have HR := Lib.hid hrow'
      have HO := Lib.hid hown
      clear hin hrow hrow' hown hmk hrow0 hown0
      go_wp2
      go_ret
      exact ⟨w.heap.size, rfl, Nat.le_refl _, HR.out, HO.out.below⟩

theorem l_eqInt64S (p q : Option Addr) (n c1 c2 : Nat) (zs : List Int) (w : World) (hp : Ints .i64 w p n zs) (hq : Ints .i64 w q n zs) :
    Calls Try.prog 46 #[.slice p n c1, .slice q n c2] w fun en w' => en = .returned (.bool true) ∧ Below w.heap.size w w' := by
  have hn := hp.2.1
  unfold maxLen at hn
  go_enter Try.func46, Try.ntmps46
  go_wp2
  go_loopw [5] (fun i wr => ∃ k : Nat, k ≤ n ∧ i = .int .i64 k ∧ Own w wr) (fun i _ => n - (intOf i).toNat)
  case atStart => exact ⟨0, Nat.zero_le _, rfl, Own.start _⟩
  case round =>
    obtain ⟨k, hk, rfl, hown⟩ := hrel
    by_cases hlt : k < n
    · obtain ⟨b, off, rfl, hc⟩ := (hp.own hown).2.2 (by omega)
      obtain ⟨b2, off2, rfl, hc2⟩ := (hq.own hown).2.2 (by omega)
      have hck := hc k hlt
      have hck2 := hc2 k hlt
      have hlen : (k : Int) < n := by omega
      have HO := Lib.hid hown
      have Hp := Lib.hid hp
      have Hq := Lib.hid hq
      clear hc hc2 hp hq hown
      go_wp2
      go_quiet (fail)
      go_wp2
      go_roundw
      case rel => exact ⟨k + 1, by omega, by go_num, HO.out.drewN _⟩
      case measure => simp [intOf]; omega
    · obtain rfl : k = n := by omega
      clear hp hq
      go_wp2
      go_ret
      exact ⟨rfl, hown.below⟩

def RisesTo (m : Int) (zs : List Int) (k : Nat) : Prop := ∀ i, i < k → 0 ≤ zs.getD i 0 ∧ zs.getD i 0 < m ∧ (0 < i → zs.getD (i - 1) 0 < zs.getD i 0)
def risesB (m : Int) (zs : List Int) : Bool := decide (∀ i, i < zs.length → 0 ≤ zs.getD i 0 ∧ zs.getD i 0 < m ∧ (0 < i → zs.getD (i - 1) 0 < zs.getD i 0))
theorem risesB_true {m : Int} {zs : List Int} (h : RisesTo m zs zs.length) : risesB m zs = true := decide_eq_true h
theorem risesB_false {m : Int} {zs : List Int} {k : Nat} (hk : k < zs.length) (h : ¬ (0 ≤ zs.getD k 0 ∧ zs.getD k 0 < m ∧ (0 < k → zs.getD (k - 1) 0 < zs.getD k 0))) : risesB m zs = false :=
  decide_eq_false fun H => h (H k hk)
theorem RisesTo.step {m : Int} {zs : List Int} {k : Nat} (h : RisesTo m zs k) (h2 : 0 ≤ zs.getD k 0 ∧ zs.getD k 0 < m ∧ (0 < k → zs.getD (k - 1) 0 < zs.getD k 0)) : RisesTo m zs (k + 1) := fun i hi => by
  by_cases e : i = k
  · subst e; exact h2
  · exact h i (by omega)
theorem RisesTo.zero (m : Int) (zs : List Int) : RisesTo m zs 0 := fun i hi => by omega
theorem i_IsRising (p : Option Addr) (n cap : Nat) (zs : List Int) (m : Int) (w : World) (hp : Ints .i64 w p n zs) :
    Calls Try.prog 133 #[.slice p n cap, .int .i64 m] w fun en w' => en = .returned (.bool (risesB m zs)) ∧ w = w' := by
  have hn := hp.2.1
  have hz := hp.1
  unfold maxLen at hn
  go_enter Try.func133, Try.ntmps133
  go_wp2
  go_loop [5, 6, 9] (fun _ _ i => ∃ k : Nat, k ≤ n ∧ i = .int .i64 k ∧ RisesTo m zs k) (fun _ _ i => n - (intOf i).toNat)
  case atStart => exact ⟨0, Nat.zero_le _, rfl, RisesTo.zero _ _⟩
  case round =>
    obtain ⟨k, hk, rfl, hR⟩ := hrel
    by_cases hlt : k < n
    · obtain ⟨b, off, rfl, hc⟩ := hp.2.2 (by omega)
      have hck := hc k hlt
      have hlen : (k : Int) < n := by omega
      have hpr : 0 < k → w.cell? ⟨b, off + (k - 1), none⟩ = some (.int .i64 (zs.getD (k - 1) 0)) := fun h0 => hc (k - 1) (by omega)
      obtain ⟨x, hx⟩ : ∃ x, x = zs.getD k 0 := ⟨_, rfl⟩
      obtain ⟨y, hy⟩ : ∃ y, y = zs.getD (k - 1) 0 := ⟨_, rfl⟩
      rw [← hx] at hck
      rw [← hy] at hpr
      have HX := Lib.hid hx
      have HY := Lib.hid hy
      have HP := Lib.hid hp
      have HR := Lib.hid hR
      have HZ := Lib.hid hz
      clear hx hy hc hp hR hz
      rcases ilt x 0 with c1 | c1
      · go_wp2
        go_ret
        exact ⟨ret_bool (risesB_false (k := k) (by rw [HZ.out]; exact hlt) (by rw [← HX.out]; omega)).symm, rfl⟩
      · rcases ilt x m with c2 | c2
        · by_cases c3 : k = 0
          · subst c3
            simp only [Nat.add_zero] at hck
            go_wp2
            go_round
            case rel => exact ⟨1, by omega, by simp, HR.out.step (by rw [← HX.out]; omega)⟩
            case measure => simp [intOf]; omega
          · have hpr' := hpr (by omega)
            have hk0 : (0 : Int) < k := by omega
            clear hpr
            rcases ilt y x with c4 | c4
            · go_wp2
              go_round
              case rel => exact ⟨k + 1, by omega, by go_num, HR.out.step (by rw [← HX.out, ← HY.out]; omega)⟩
              case measure => simp [intOf]; omega
            · go_wp2
              go_ret
              exact ⟨ret_bool (risesB_false (k := k) (by rw [HZ.out]; exact hlt) (by rw [← HX.out, ← HY.out]; omega)).symm, rfl⟩
        · go_wp2
          go_ret
          exact ⟨ret_bool (risesB_false (k := k) (by rw [HZ.out]; exact hlt) (by rw [← HX.out]; omega)).symm, rfl⟩
    · obtain rfl : k = n := by omega
      have hfin := risesB_true (hz.symm ▸ hR)
      have HF := Lib.hid hfin
      clear hfin hR hz hp
      go_wp2
      go_ret
      exact ⟨ret_bool HF.out.symm, rfl⟩

set_option maxHeartbeats 2000000 in
theorem s_l01Rises (p : Option Addr) (n cap : Nat) (zs : List Int) (m : Int) (w : World) (hp : Ints .i64 w p n zs) :
    Calls Try.prog 131 #[.slice p n cap, .int .i64 m] w fun en w' => en = .returned (.bool (risesB m zs)) ∧ Below w.heap.size w w' := by
  have hn := hp.2.1
  have hz := hp.1
  unfold maxLen at hn
  go_enter Try.func131, Try.ntmps131
  go_wp2
  go_loopw [5] (fun i wr => ∃ k : Nat, k ≤ n ∧ i = .int .i64 k ∧ RisesTo m zs k ∧ Own w wr) (fun i _ => n - (intOf i).toNat)
  case atStart => exact ⟨0, Nat.zero_le _, rfl, RisesTo.zero _ _, Own.start _⟩
  case round =>
    obtain ⟨k, hk, rfl, hR, hown⟩ := hrel
    by_cases hlt : k < n
    · obtain ⟨b, off, rfl, hc⟩ := (hp.own hown).2.2 (by omega)
      have hck := hc k hlt
      have hlen : (k : Int) < n := by omega
      have hpr : 0 < k → wr.cell? ⟨b, off + (k - 1), none⟩ = some (.int .i64 (zs.getD (k - 1) 0)) := fun h0 => hc (k - 1) (by omega)
      obtain ⟨x, hx⟩ : ∃ x, x = zs.getD k 0 := ⟨_, rfl⟩
      obtain ⟨y, hy⟩ : ∃ y, y = zs.getD (k - 1) 0 := ⟨_, rfl⟩
      rw [← hx] at hck
      rw [← hy] at hpr
      have HX := Lib.hid hx
      have HY := Lib.hid hy
      have HP := Lib.hid hp
      have HR := Lib.hid hR
      have HZ := Lib.hid hz
      have HO := Lib.hid hown
      clear hx hy hc hp hR hz hown
      rcases ilt x 0 with c1 | c1
      · have d1 : decide (x < 0) = true := by simpa using c1
        clear hpr
        go_wp2
        go_quiet (fail)
        go_wp2
        go_ret
        exact ⟨ret_bool (risesB_false (k := k) (by rw [HZ.out]; exact hlt) (by rw [← HX.out]; omega)).symm, (HO.out.drewN _).below⟩
      · have d1 : decide (x < 0) = false := by simpa using c1
        rcases ilt x m with c2 | c2
        · have d2 : decide (m ≤ x) = false := by simpa using c2
          by_cases c3 : k = 0
          · subst c3
            simp only [Nat.add_zero] at hck
            clear hpr
            go_wp2
            go_quiet (fail)
            go_wp2
            go_roundw
            case rel => exact ⟨1, by omega, by simp, HR.out.step (by rw [← HX.out]; omega), HO.out.drewN _⟩
            case measure => simp [intOf]; omega
          · have hpr' := hpr (by omega)
            have hk0 : (0 : Int) < k := by omega
            have hkn : 0 < k := by omega
            have d3 : decide (0 < k) = true := by simpa using hkn
            have hw1 : IntKind.i64.wrap ((k : Int) - 1) = (k : Int) - 1 := IntWalk.i64_in _ (by omega)
            have ht1 : ((k : Int) - 1).toNat = k - 1 := by omega
            have hb0 : (0 : Int) ≤ (k : Int) - 1 := by omega
            have hb1 : (k : Int) - 1 < n := by omega
            clear hpr
            rcases ilt y x with c4 | c4
            · have d4 : decide (x ≤ y) = false := by simpa using c4
              go_wp2
              go_quiet (fail)
              clear hw1 ht1
              go_wp2
              go_roundw
              case rel => exact ⟨k + 1, by omega, by go_num, HR.out.step (by rw [← HX.out, ← HY.out]; omega), HO.out.drewN _⟩
              case measure => simp [intOf]; omega
            · have d4 : decide (x ≤ y) = true := by simpa using c4
              go_wp2
              go_quiet (fail)
              clear hw1 ht1
              go_wp2
              go_ret
              exact ⟨ret_bool (risesB_false (k := k) (by rw [HZ.out]; exact hlt) (by rw [← HX.out, ← HY.out]; omega)).symm, (HO.out.drewN _).below⟩
        · have d2 : decide (m ≤ x) = true := by simpa using c2
          clear hpr
          go_wp2
          go_quiet (fail)
          go_wp2
          go_ret
          exact ⟨ret_bool (risesB_false (k := k) (by rw [HZ.out]; exact hlt) (by rw [← HX.out]; omega)).symm, (HO.out.drewN _).below⟩
    · obtain rfl : k = n := by omega
      have hfin := risesB_true (hz.symm ▸ hR)
      have HF := Lib.hid hfin
      clear hfin hR hz hp
      go_wp2
      go_ret
      exact ⟨ret_bool HF.out.symm, hown.below⟩

end Go.Proofs.Ytgkfnggnhphboaa
